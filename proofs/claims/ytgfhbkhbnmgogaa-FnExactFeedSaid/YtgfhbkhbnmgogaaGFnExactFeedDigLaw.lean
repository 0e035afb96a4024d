import Derived.Test.YtgfhbkhbnmgogaaGFnExactFeedDgf
namespace Go.Proofs.Ytgfhbkhbnmgogaa.GFnExactFeed.Hand
open Go.RowKit Go.Proofs.YtgfhbkhbnmgogaaW.PrintWords Go.Proofs.YtgfhbkhbnmgogaaW.PrintLast Go.Proofs.YtgfhbkhbnmgogaaW.PrintMore Go.Proofs.Ytgfhbkhbnmgogaa.GFnExactHmac.Hand
set_option linter.unusedVariables false
set_option linter.unusedSimpArgs false
/-! ### laws.FnExactDigest (5), along its one way -/
theorem kept_R {w W : World} {S : Nat → Prop} {base lo hi : Nat} {v : Value} {xs : List Int} (h : KB.R 5 w base (fun k => lo ≤ k ∧ k < hi) v xs) (hk : Kept w W S) (hs : ∀ k, lo ≤ k → k < hi → ¬ S k) : KB.R 5 W base (fun k => lo ≤ k ∧ k < hi) v xs :=
  Kd.R_step h (fun k ho hlt => hk.2 k hlt (hs k ho.1 ho.2))
theorem blk_facts {w : World} {g : Nat} {h : V8} {r : Value} {m : Int} {t : TypeId} (hg : w.heap[g]? = some (.cells (stC h.l r m) t (0, 0))) :
    w.cell? ⟨g, 0, none⟩ = some (.int .i64 h.a) ∧ w.cell? ⟨g, 1, none⟩ = some (.int .i64 h.b) ∧ w.cell? ⟨g, 2, none⟩ = some (.int .i64 h.c) ∧ w.cell? ⟨g, 3, none⟩ = some (.int .i64 h.d) ∧ w.cell? ⟨g, 4, none⟩ = some (.int .i64 h.e) ∧ w.cell? ⟨g, 5, none⟩ = some (.int .i64 h.f) ∧ w.cell? ⟨g, 6, none⟩ = some (.int .i64 h.g) ∧ w.cell? ⟨g, 7, none⟩ = some (.int .i64 h.h) ∧ w.cell? ⟨g, 8, none⟩ = some r ∧ w.cell? ⟨g, 9, none⟩ = some (.int .i64 m) :=
  ⟨cell_at hg 0, cell_at hg 1, cell_at hg 2, cell_at hg 3, cell_at hg 4, cell_at hg 5, cell_at hg 6, cell_at hg 7, cell_at hg 8, cell_at hg 9⟩
set_option maxHeartbeats 16000000 in
set_option maxRecDepth 100000 in
theorem dlaw_in (k : Nat) (H : V8) (A : Option Addr) (n c : Nat) (rs r mk0 mr : List Int) (m : Int) (w : World) (hC : KB.C w A n rs) (en : rs.length = n) (hc : n ≤ c) (hl : n ≤ 1048576) (hm : -9223372036854775808 ≤ m ∧ m < 9223372036854775808)
    (hres : dgR H rs m = r) (h2 : laws_toByteS.f k rs = some rs) (h3 : laws_eqByteS.f k rs rs = some true) (hrr : laws_eqByteS.f k r r = some true)
    (hm0 : laws_markByteS.f k rs 1 = some (1 + (n : Int), mk0)) (hm2 : laws_markByteS.f k r 1 = some (1 + (r.length : Int), mr)) (hml : mr.length = r.length) (hh : laws_heldByteS.f k mr 1 = some (1 + (r.length : Int))) :
    Calls Try.prog 5 #[.agg (stC H.l (.slice A n c) m)] w fun e w' => e = .returned (.bool true) ∧ Below w.heap.size w w' := by
  have HC := Aside0.mk hC
  have EN := Aside0.mk en
  have H2 := Aside0.mk h2
  have H3 := Aside0.mk h3
  have HRR := Aside0.mk hrr
  have HM0 := Aside0.mk hm0
  have HM2 := Aside0.mk hm2
  have HML := Aside0.mk hml
  have HH := Aside0.mk hh
  have hlr : r.length ≤ 32 := by rw [← hres]; exact dgR_length _ _ _
  have hnm : n ≤ maxLen := by unfold maxLen; omega
  have HSD : Aside0 (∀ (w : World) (A : Option Addr) (c : Nat), KB.C w A n rs → n ≤ c → Calls Try.prog 21 #[.agg (stC H.l (.slice A n c) m)] w fun e w' => ∃ (A' : Option Addr) (c' : Nat), e = .returned (.slice A' r.length c') ∧ KB.R 5 w' w.heap.size (fun k => w.heap.size ≤ k ∧ k < w'.heap.size) (.slice A' r.length c') r ∧ Below w.heap.size w w') := ⟨fun w A c h1 h2 => by
    refine (sdg_calls H A n c rs m w h1 EN.out h2 hm hnm).mono ?_
    rintro e w' ⟨v, rfl, hr, hb⟩
    rw [hres] at hr
    obtain ⟨A', c', rfl⟩ := Kd.R_slice hr
    exact ⟨A', c', rfl, R_own hr, hb⟩⟩
  have HID : Aside0 (∀ (w : World) (A : Option Addr) (c : Nat), KB.C w A n rs → n ≤ c → Calls Try.prog 22 #[.agg (stC H.l (.slice A n c) m)] w fun e w' => ∃ (A' : Option Addr) (c' : Nat), e = .returned (.slice A' r.length c') ∧ KB.R 5 w' w.heap.size (fun k => w.heap.size ≤ k ∧ k < w'.heap.size) (.slice A' r.length c') r ∧ Below w.heap.size w w') := ⟨fun w A c h1 h2 => by
    refine (dg_calls H A n c rs m w h1 EN.out h2 hm hnm).mono ?_
    rintro e w' ⟨v, rfl, hr, hb⟩
    rw [hres] at hr
    obtain ⟨A', c', rfl⟩ := Kd.R_slice hr
    exact ⟨A', c', rfl, R_own hr, hb⟩⟩
  have hsz := sz_calls H A n c rs m (w.alloc (.cells #[.int .i64 H.a, .int .i64 H.b, .int .i64 H.c, .int .i64 H.d, .int .i64 H.e, .int .i64 H.f, .int .i64 H.g, .int .i64 H.h, .slice A n c, .int .i64 m] 30)) (Kd.C_alloc hC _) en hc hnm
  rw [if_pos hl] at hsz
  have HSZ := Aside0.mk hsz
  have HBX : Aside0 ((w.alloc (.cells #[.int .i64 H.a, .int .i64 H.b, .int .i64 H.c, .int .i64 H.d, .int .i64 H.e, .int .i64 H.f, .int .i64 H.g, .int .i64 H.h, .slice A n c, .int .i64 m] 30)).heap[w.heap.size]? = some (.cells (stC H.l (.slice A n c) m) 30 (0, 0))) := ⟨heap_alloc_last _ _⟩
  clear hC en h2 h3 hrr hm0 hm2 hml hh hres hsz
  show Calls Try.prog 5 #[.agg #[.int .i64 H.a, .int .i64 H.b, .int .i64 H.c, .int .i64 H.d, .int .i64 H.e, .int .i64 H.f, .int .i64 H.g, .int .i64 H.h, .slice A n c, .int .i64 m]] w _
  go_enter Try.func5, Try.ntmps5
  go_wp2_with ((with_reducible refine gate_dst (N := 11) rfl ?_); refine load_ev (t := 30) (x := .tmp 1) (g := w.heap.size) rfl rfl rfl Try.underlying30 rfl HBX.out (by rw [stC_size]; kernel_rfl) ?_)
  refine HSZ.out.mono ?_
  rintro e w1 ⟨rfl, hb⟩
  have HB1 := Aside0.mk (below_step (below_alloc (Below.refl w.heap.size w) _) hb)
  have HBX1 := Aside0.mk (blk_below HBX.out hb)
  clear hb HBX HSZ
  go_wp2_with ((with_reducible refine gate_dst (N := 16) rfl ?_); refine load_ev (t := 30) (x := .tmp 1) (g := w.heap.size) rfl rfl rfl Try.underlying30 rfl HBX1.out (by rw [stC_size]; kernel_rfl) ?_)
  refine (toS_calls k H A n c rs m w1 (Kd.C_below HC.out HB1.out) EN.out hc H2.out).mono ?_
  rintro e w2 ⟨B1, d1, rfl, hd1, HR2, hb⟩
  have HB2 := Aside0.mk (below_step HB1.out hb.out)
  have HBX2 := Aside0.mk (blk_below HBX1.out hb.out)
  have HX2 := Aside0.mk (by have h := (Kd.R_reads' HR2.out).2.2; rw [EN.out] at h; exact h)
  clear hb HR2 HBX1
  go_wp2_with fail
  refine (HSD.out w2 B1 d1 HX2.out hd1).mono ?_
  rintro e w3 ⟨Bv, dv, rfl, hr, hb⟩
  have HB3 := Aside0.mk (below_step HB2.out hb)
  have HBX3 := Aside0.mk (blk_below HBX2.out hb)
  have HV3 := Aside0.mk hr
  have S23 : Aside0 (w2.heap.size ≤ w3.heap.size ∧ w.heap.size < w3.heap.size) := ⟨hb.size, blk_lt HBX3.out⟩
  clear hb hr HX2 HBX2
  go_wp2_with ((with_reducible refine gate_dst (N := 19) rfl ?_); refine load_ev (t := 30) (x := .tmp 1) (g := w.heap.size) rfl rfl rfl Try.underlying30 rfl HBX3.out (by rw [stC_size]; kernel_rfl) ?_)
  refine (toS_calls k H A n c rs m w3 (Kd.C_below HC.out HB3.out) EN.out hc H2.out).mono ?_
  rintro e w4 ⟨B4, d4, rfl, hd4, HX4, hb⟩
  have HB4 := Aside0.mk (below_step HB3.out hb.out)
  have HBX4 := Aside0.mk (blk_below HBX3.out hb.out)
  have HV4 := Aside0.mk (Kd.R_below HV3.out hb.out)
  have S34 : Aside0 (w3.heap.size ≤ w4.heap.size) := ⟨hb.out.size⟩
  clear hb HV3 HBX3
  go_wp2_with ((with_reducible refine gate_store (t := 32) (p := 5) (v := .tmp 20) rfl ?_); refine store_row (t := 32) (p := 5) (y := .tmp 20) (g := w4.heap.size) (c' := stC H.l (.slice B4 n d4) m) rfl rfl rfl rfl rfl (heap_alloc_last _ _) (by rw [stC_size]; kernel_rfl) (by rw [stC_size]; rfl) (stC_one _ _ _ _ _) ?_; intro w5 hw5 ho5 hB5; refine halt_ ?_)
  unfold Halt_
  have hs5 : w4.heap.size + 1 ≤ w5.heap.size := by
    have h1 := (hB5 0 (by omega)).size
    rw [size_alloc] at h1
    exact h1
  have hs4 : w.heap.size < w4.heap.size := blk_lt HBX4.out
  have HP5 := Aside0.mk hw5
  have HBX5 : Aside0 (w5.heap[w.heap.size]? = some (.cells (stC H.l (.slice A n c) m) 30 (0, 0))) := ⟨(ho5 _ (by omega)).trans (blk_alloc HBX4.out _)⟩
  have HB5 : Aside0 (Below w.heap.size w w5) := ⟨(below_alloc HB4.out _).trans (hB5 _ (by omega))⟩
  have HV5 : Aside0 (KB.R 5 w5 w2.heap.size (fun k => w2.heap.size ≤ k ∧ k < w3.heap.size) (.slice Bv r.length dv) r) := ⟨Kd.R_step (Kd.R_alloc HV4.out _) (fun k hk hlt => ho5 k (by have := S34.out; omega))⟩
  have HX5 : Aside0 (KB.R 5 w5 w3.heap.size (fun k => w3.heap.size ≤ k ∧ k < w4.heap.size) (.slice B4 n d4) rs) := ⟨Kd.R_step (Kd.R_alloc HX4.out _) (fun k hk hlt => ho5 k (by omega))⟩
  have HCX : Aside0 (∀ {W : World} {base : Nat} {ok : Nat → Prop} {B : Option Addr} {d : Nat}, KB.R 5 W base ok (.slice B n d) rs → KB.C W B n rs) := ⟨fun h => by have h := (Kd.R_reads' h).2.2; rw [EN.out] at h; exact h⟩
  clear hw5 ho5 hB5 HBX4 HB4 HV4 HX4
  go_wp2_with ((with_reducible refine gate_dst (N := 21) rfl ?_); refine load_ev (t := 32) (x := .tmp 5) (g := w4.heap.size) rfl rfl rfl Try.underlying32 rfl HP5.out (by rw [stC_size]; kernel_rfl) ?_)
  refine (HID.out w5 B4 d4 (HCX.out HX5.out) hd4).mono ?_
  rintro e w6 ⟨Bg, dg, rfl, hr, hb⟩
  have HB6 := Aside0.mk (below_step HB5.out hb)
  have HBX6 := Aside0.mk (blk_below HBX5.out hb)
  have HP6 := Aside0.mk (blk_below HP5.out hb)
  have HV6 := Aside0.mk (Kd.R_below HV5.out hb)
  have HX6 := Aside0.mk (Kd.R_below HX5.out hb)
  have HG6 := Aside0.mk hr
  have S56 : Aside0 (w5.heap.size ≤ w6.heap.size) := ⟨hb.size⟩
  clear hr hb HBX5 HP5 HV5 HX5
  go_wp2_with fail
  refine (laws_eqByteS.calls k Bg dg r Bv dv r true w6 (Kd.R_reads' HG6.out).2.2 (Kd.R_reads' HG6.out).2.1 (Kd.R_reads' HV6.out).2.2 (Kd.R_reads' HV6.out).2.1 HRR.out).mono ?_
  rintro ex w7 ⟨rfl, ⟨n7, rfl⟩⟩
  have HB7 := Aside0.mk (pw_below_drewN HB6.out n7)
  have HG7 := Aside0.mk (Kd.R_drewN HG6.out n7)
  have HX7 := Aside0.mk (Kd.R_drewN HX6.out n7)
  have HV7 := Aside0.mk (Kd.R_drewN HV6.out n7)
  have HBX7 : Aside0 ((w6.drewN n7).heap[w.heap.size]? = some (.cells (stC H.l (.slice A n c) m) 30 (0, 0))) := ⟨HBX6.out⟩
  have HP7 : Aside0 ((w6.drewN n7).heap[w4.heap.size]? = some (.cells (stC H.l (.slice B4 n d4) m) 32 (0, 0))) := ⟨HP6.out⟩
  have S67 : Aside0 ((w6.drewN n7).heap.size = w6.heap.size) := ⟨rfl⟩
  clear HG6 HX6 HV6 HBX6 HP6
  generalize w6.drewN n7 = w7 at HB7 HG7 HX7 HV7 HBX7 HP7 S67 ⊢
  have HSS : Aside0 (∀ W : World, Below w7.heap.size w7 W → (W.cell? ⟨w4.heap.size, 0, none⟩ = some (.int .i64 H.a) ∧ W.cell? ⟨w4.heap.size, 1, none⟩ = some (.int .i64 H.b) ∧ W.cell? ⟨w4.heap.size, 2, none⟩ = some (.int .i64 H.c) ∧ W.cell? ⟨w4.heap.size, 3, none⟩ = some (.int .i64 H.d) ∧ W.cell? ⟨w4.heap.size, 4, none⟩ = some (.int .i64 H.e) ∧ W.cell? ⟨w4.heap.size, 5, none⟩ = some (.int .i64 H.f) ∧ W.cell? ⟨w4.heap.size, 6, none⟩ = some (.int .i64 H.g) ∧ W.cell? ⟨w4.heap.size, 7, none⟩ = some (.int .i64 H.h) ∧ W.cell? ⟨w4.heap.size, 8, none⟩ = some (.slice B4 n d4) ∧ W.cell? ⟨w4.heap.size, 9, none⟩ = some (.int .i64 m)) ∧ (W.cell? ⟨w.heap.size, 0, none⟩ = some (.int .i64 H.a) ∧ W.cell? ⟨w.heap.size, 1, none⟩ = some (.int .i64 H.b) ∧ W.cell? ⟨w.heap.size, 2, none⟩ = some (.int .i64 H.c) ∧ W.cell? ⟨w.heap.size, 3, none⟩ = some (.int .i64 H.d) ∧ W.cell? ⟨w.heap.size, 4, none⟩ = some (.int .i64 H.e) ∧ W.cell? ⟨w.heap.size, 5, none⟩ = some (.int .i64 H.f) ∧ W.cell? ⟨w.heap.size, 6, none⟩ = some (.int .i64 H.g) ∧ W.cell? ⟨w.heap.size, 7, none⟩ = some (.int .i64 H.h) ∧ W.cell? ⟨w.heap.size, 8, none⟩ = some (.slice A n c) ∧ W.cell? ⟨w.heap.size, 9, none⟩ = some (.int .i64 m))) := ⟨fun W h => ⟨blk_facts (blk_below HP7.out h), blk_facts (blk_below HBX7.out h)⟩⟩
  have HTS : Aside0 (∀ W : World, Below w7.heap.size w7 W → Calls Try.prog 16 #[.agg #[.int .i64 H.a, .int .i64 H.b, .int .i64 H.c, .int .i64 H.d, .int .i64 H.e, .int .i64 H.f, .int .i64 H.g, .int .i64 H.h, .slice A n c, .int .i64 m]] W fun e w' => ∃ (A' : Option Addr) (c' : Nat), e = .returned (.agg #[.int .i64 H.a, .int .i64 H.b, .int .i64 H.c, .int .i64 H.d, .int .i64 H.e, .int .i64 H.f, .int .i64 H.g, .int .i64 H.h, .slice A' n c', .int .i64 m]) ∧ n ≤ c' ∧ Aside0 (KB.C w' A' n rs) ∧ Aside0 (Below w7.heap.size w7 w') ∧ (w'.cell? ⟨w4.heap.size, 0, none⟩ = some (.int .i64 H.a) ∧ w'.cell? ⟨w4.heap.size, 1, none⟩ = some (.int .i64 H.b) ∧ w'.cell? ⟨w4.heap.size, 2, none⟩ = some (.int .i64 H.c) ∧ w'.cell? ⟨w4.heap.size, 3, none⟩ = some (.int .i64 H.d) ∧ w'.cell? ⟨w4.heap.size, 4, none⟩ = some (.int .i64 H.e) ∧ w'.cell? ⟨w4.heap.size, 5, none⟩ = some (.int .i64 H.f) ∧ w'.cell? ⟨w4.heap.size, 6, none⟩ = some (.int .i64 H.g) ∧ w'.cell? ⟨w4.heap.size, 7, none⟩ = some (.int .i64 H.h) ∧ w'.cell? ⟨w4.heap.size, 8, none⟩ = some (.slice B4 n d4) ∧ w'.cell? ⟨w4.heap.size, 9, none⟩ = some (.int .i64 m)) ∧ (w'.cell? ⟨w.heap.size, 0, none⟩ = some (.int .i64 H.a) ∧ w'.cell? ⟨w.heap.size, 1, none⟩ = some (.int .i64 H.b) ∧ w'.cell? ⟨w.heap.size, 2, none⟩ = some (.int .i64 H.c) ∧ w'.cell? ⟨w.heap.size, 3, none⟩ = some (.int .i64 H.d) ∧ w'.cell? ⟨w.heap.size, 4, none⟩ = some (.int .i64 H.e) ∧ w'.cell? ⟨w.heap.size, 5, none⟩ = some (.int .i64 H.f) ∧ w'.cell? ⟨w.heap.size, 6, none⟩ = some (.int .i64 H.g) ∧ w'.cell? ⟨w.heap.size, 7, none⟩ = some (.int .i64 H.h) ∧ w'.cell? ⟨w.heap.size, 8, none⟩ = some (.slice A n c) ∧ w'.cell? ⟨w.heap.size, 9, none⟩ = some (.int .i64 m))) := ⟨fun W hW => by
    refine (toS_calls k H A n c rs m W (Kd.C_below (Kd.C_below HC.out HB7.out) hW) EN.out hc H2.out).mono ?_
    rintro e w' ⟨A', c', rfl, hd, hR, hb⟩
    exact ⟨A', c', rfl, hd, ⟨HCX.out hR.out⟩, ⟨below_step hW hb.out⟩, HSS.out _ (below_step hW hb.out)⟩⟩
  have HEQ : Aside0 (∀ (W : World) (A' : Option Addr) (c' : Nat), Below w7.heap.size w7 W → n ≤ c' → KB.C W A' n rs → Calls Try.prog 18 #[.agg #[.int .i64 H.a, .int .i64 H.b, .int .i64 H.c, .int .i64 H.d, .int .i64 H.e, .int .i64 H.f, .int .i64 H.g, .int .i64 H.h, .slice B4 n d4, .int .i64 m], .agg #[.int .i64 H.a, .int .i64 H.b, .int .i64 H.c, .int .i64 H.d, .int .i64 H.e, .int .i64 H.f, .int .i64 H.g, .int .i64 H.h, .slice A' n c', .int .i64 m]] W fun e w' => e = .returned (.bool true) ∧ Aside0 (Below w7.heap.size w7 w') ∧ (w'.cell? ⟨w4.heap.size, 0, none⟩ = some (.int .i64 H.a) ∧ w'.cell? ⟨w4.heap.size, 1, none⟩ = some (.int .i64 H.b) ∧ w'.cell? ⟨w4.heap.size, 2, none⟩ = some (.int .i64 H.c) ∧ w'.cell? ⟨w4.heap.size, 3, none⟩ = some (.int .i64 H.d) ∧ w'.cell? ⟨w4.heap.size, 4, none⟩ = some (.int .i64 H.e) ∧ w'.cell? ⟨w4.heap.size, 5, none⟩ = some (.int .i64 H.f) ∧ w'.cell? ⟨w4.heap.size, 6, none⟩ = some (.int .i64 H.g) ∧ w'.cell? ⟨w4.heap.size, 7, none⟩ = some (.int .i64 H.h) ∧ w'.cell? ⟨w4.heap.size, 8, none⟩ = some (.slice B4 n d4) ∧ w'.cell? ⟨w4.heap.size, 9, none⟩ = some (.int .i64 m)) ∧ (w'.cell? ⟨w.heap.size, 0, none⟩ = some (.int .i64 H.a) ∧ w'.cell? ⟨w.heap.size, 1, none⟩ = some (.int .i64 H.b) ∧ w'.cell? ⟨w.heap.size, 2, none⟩ = some (.int .i64 H.c) ∧ w'.cell? ⟨w.heap.size, 3, none⟩ = some (.int .i64 H.d) ∧ w'.cell? ⟨w.heap.size, 4, none⟩ = some (.int .i64 H.e) ∧ w'.cell? ⟨w.heap.size, 5, none⟩ = some (.int .i64 H.f) ∧ w'.cell? ⟨w.heap.size, 6, none⟩ = some (.int .i64 H.g) ∧ w'.cell? ⟨w.heap.size, 7, none⟩ = some (.int .i64 H.h) ∧ w'.cell? ⟨w.heap.size, 8, none⟩ = some (.slice A n c) ∧ w'.cell? ⟨w.heap.size, 9, none⟩ = some (.int .i64 m))) := ⟨fun W A' c' hW hd hc' => by
    refine (eqS_calls k H B4 n d4 A' c' rs m W (Kd.C_below (HCX.out HX7.out) hW) hc' EN.out hd4 hd H3.out).mono ?_
    rintro e w' ⟨rfl, hb⟩
    exact ⟨rfl, ⟨below_step hW hb⟩, HSS.out _ (below_step hW hb)⟩⟩
  go_upto_region 10 with (fail)
  go_cut [31] (fun v31 wc => v31 = .bool false ∧ Aside0 (Below w7.heap.size w7 wc))
  case first =>
    obtain ⟨⟨qa0, qa1, qa2, qa3, qa4, qa5, qa6, qa7, qa8, qa9⟩, ⟨qb0, qb1, qb2, qb3, qb4, qb5, qb6, qb7, qb8, qb9⟩⟩ := HSS.out w7 (Below.refl _ _)
    go_region_held3 (fun w' => (w'.cell? ⟨w4.heap.size, 0, none⟩ = some (.int .i64 H.a) ∧ w'.cell? ⟨w4.heap.size, 1, none⟩ = some (.int .i64 H.b) ∧ w'.cell? ⟨w4.heap.size, 2, none⟩ = some (.int .i64 H.c) ∧ w'.cell? ⟨w4.heap.size, 3, none⟩ = some (.int .i64 H.d) ∧ w'.cell? ⟨w4.heap.size, 4, none⟩ = some (.int .i64 H.e) ∧ w'.cell? ⟨w4.heap.size, 5, none⟩ = some (.int .i64 H.f) ∧ w'.cell? ⟨w4.heap.size, 6, none⟩ = some (.int .i64 H.g) ∧ w'.cell? ⟨w4.heap.size, 7, none⟩ = some (.int .i64 H.h) ∧ w'.cell? ⟨w4.heap.size, 8, none⟩ = some (.slice B4 n d4) ∧ w'.cell? ⟨w4.heap.size, 9, none⟩ = some (.int .i64 m)) ∧ (w'.cell? ⟨w.heap.size, 0, none⟩ = some (.int .i64 H.a) ∧ w'.cell? ⟨w.heap.size, 1, none⟩ = some (.int .i64 H.b) ∧ w'.cell? ⟨w.heap.size, 2, none⟩ = some (.int .i64 H.c) ∧ w'.cell? ⟨w.heap.size, 3, none⟩ = some (.int .i64 H.d) ∧ w'.cell? ⟨w.heap.size, 4, none⟩ = some (.int .i64 H.e) ∧ w'.cell? ⟨w.heap.size, 5, none⟩ = some (.int .i64 H.f) ∧ w'.cell? ⟨w.heap.size, 6, none⟩ = some (.int .i64 H.g) ∧ w'.cell? ⟨w.heap.size, 7, none⟩ = some (.int .i64 H.h) ∧ w'.cell? ⟨w.heap.size, 8, none⟩ = some (.slice A n c) ∧ w'.cell? ⟨w.heap.size, 9, none⟩ = some (.int .i64 m))) (go_keep) ((first | (go_at_call 16; refine (HTS.out _ (by repeat (first | exact Below.refl _ _ | apply pw_below_drewN | apply below_drew))).mono ?_; rintro e w8 ⟨A8, c8, rfl, hd8, HC8, HB8, ⟨qc0, qc1, qc2, qc3, qc4, qc5, qc6, qc7, qc8, qc9⟩, ⟨qd0, qd1, qd2, qd3, qd4, qd5, qd6, qd7, qd8, qd9⟩⟩) | (go_at_call 18; refine (HEQ.out _ A8 c8 HB8.out hd8 HC8.out).mono ?_; rintro e w9 ⟨rfl, HB9, ⟨qe0, qe1, qe2, qe3, qe4, qe5, qe6, qe7, qe8, qe9⟩, ⟨qf0, qf1, qf2, qf3, qf4, qf5, qf6, qf7, qf8, qf9⟩⟩)))
    go_wp2
    go_meet
    case rel => exact ⟨rfl, HB9⟩
  case rest =>
    obtain ⟨rfl, hbc⟩ := hcut
    have S5 : Aside0 (w4.heap.size + 1 ≤ w5.heap.size) := ⟨hs5⟩
    have HB10 := Aside0.mk (below_step HB7.out hbc.out)
    have HG10 := Aside0.mk (Kd.R_below HG7.out hbc.out)
    have HX10 := Aside0.mk (Kd.R_below HX7.out hbc.out)
    have HV10 := Aside0.mk (Kd.R_below HV7.out hbc.out)
    have HBX10 := Aside0.mk (blk_below HBX7.out hbc.out)
    have HP10 := Aside0.mk (blk_below HP7.out hbc.out)
    have S7c : Aside0 (w7.heap.size ≤ wc.heap.size) := ⟨hbc.out.size⟩
    clear hbc HB7 HG7 HX7 HV7 HBX7 HP7 HSS HTS HEQ HSD hs4 hs5
    go_wp2_with ((with_reducible refine gate_dst (N := 32) rfl ?_); refine load_ev (t := 32) (x := .tmp 5) (g := w4.heap.size) rfl rfl rfl Try.underlying32 rfl HP10.out (by rw [stC_size]; kernel_rfl) ?_)
    refine (markS_calls k (fun j => w3.heap.size ≤ j ∧ j < w4.heap.size) H B4 n d4 rs mk0 m 1 (1 + (n : Int)) w wc HB10.out (fun j hj => by have := S5.out; have := S56.out; have := S67.out; have := S7c.out; omega) (Kd.R_lower HX10.out HB3.out.size) HM0.out).mono ?_
    rintro ex w11 ⟨rfl, _, hb, hkp⟩
    have HB11 := Aside0.mk hb
    have HG11 := Aside0.mk (kept_R HG10.out hkp (fun j h1 h2 h3 => by have := S5.out; omega))
    have HV11 := Aside0.mk (kept_R HV10.out hkp (fun j h1 h2 h3 => by omega))
    have HBX11 := Aside0.mk (blk_kept HBX10.out hkp (fun h => by have := S23.out; omega))
    clear hb hkp HG10 HX10 HV10 HBX10 HP10
    have hk0 : decide ((1 : Int) + (n : Int) < 0) = false := decide_eq_false (by omega)
    go_wp2_with fail
    refine (laws_eqByteS.calls k Bg dg r Bv dv r true w11 (Kd.R_reads' HG11.out).2.2 (Kd.R_reads' HG11.out).2.1 (Kd.R_reads' HV11.out).2.2 (Kd.R_reads' HV11.out).2.1 HRR.out).mono ?_
    rintro ex w12 ⟨rfl, ⟨n12, rfl⟩⟩
    have HB12 := Aside0.mk (pw_below_drewN HB11.out n12)
    have HG12 := Aside0.mk (Kd.R_drewN HG11.out n12)
    have HV12 := Aside0.mk (Kd.R_drewN HV11.out n12)
    have HBX12 : Aside0 ((w11.drewN n12).heap[w.heap.size]? = some (.cells (stC H.l (.slice A n c) m) 30 (0, 0))) := ⟨HBX11.out⟩
    clear HG11 HV11 HBX11 hk0
    generalize w11.drewN n12 = w12 at HB12 HG12 HV12 HBX12 ⊢
    go_wp2_with fail
    refine (laws_markByteS.calls k (fun j => w5.heap.size ≤ j ∧ j < w6.heap.size) (.slice Bg r.length dg) r 1 _ mr w w12 HB12.out (Kd.R_lower HG12.out HB5.out.size) HM2.out).mono ?_
    rintro ex w13 ⟨rfl, hr, hb, hkp⟩
    have HB13 := Aside0.mk hb
    have HG13 := Aside0.mk hr
    have HV13 := Aside0.mk (kept_R HV12.out hkp (fun j h1 h2 h3 => by have := S5.out; have := S34.out; omega))
    have HBX13 := Aside0.mk (blk_kept HBX12.out hkp (fun h => by have := S23.out; have := S5.out; have := S34.out; omega))
    clear hr hb hkp HG12 HV12 HBX12
    have HHE : Aside0 (∀ w : World, KB.C w Bg r.length mr → r.length ≤ dg → Calls Try.prog 13 #[.slice Bg r.length dg, .int .i64 1] w fun e w' => e = .returned (.int .i64 (1 + (r.length : Int))) ∧ Drawn0 w w') := ⟨by
      intro w hC hd
      have := laws_heldByteS.calls k Bg dg mr 1 (1 + (r.length : Int)) w (by rw [HML.out]; exact hC) (by rw [HML.out]; exact hd) HH.out
      rw [HML.out] at this
      exact this⟩
    have HCC : Aside0 (KB.C w13 Bg r.length mr ∧ r.length ≤ dg) := ⟨by
      have h := Kd.R_reads' HG13.out
      rw [HML.out] at h
      exact ⟨h.2.2, h.2.1⟩⟩
    clear HG13
    go_wp2_with fail
    refine (HHE.out _ HCC.out.1 HCC.out.2).mono ?_
    rintro ex w14 ⟨rfl, ⟨n14, rfl⟩⟩
    have HB14 := Aside0.mk (pw_below_drewN HB13.out n14)
    have HC14 : Aside0 (KB.C (w13.drewN n14) Bg r.length mr) := ⟨Kd.C_drewN HCC.out.1 n14⟩
    have HV14 := Aside0.mk (Kd.R_drewN HV13.out n14)
    have HBX14 : Aside0 ((w13.drewN n14).heap[w.heap.size]? = some (.cells (stC H.l (.slice A n c) m) 30 (0, 0))) := ⟨HBX13.out⟩
    have HD := Aside0.mk HCC.out.2
    clear HCC HV13 HBX13
    generalize w13.drewN n14 = w14 at HB14 HC14 HV14 HBX14 ⊢
    have hq0 : decide ((1 : Int) + (r.length : Int) < 0) = false := decide_eq_false (by omega)
    go_wp2_with ((with_reducible refine gate_dst (N := 54) rfl ?_); refine load_ev (t := 30) (x := .tmp 1) (g := w.heap.size) rfl rfl rfl Try.underlying30 rfl HBX14.out (by rw [stC_size]; kernel_rfl) ?_)
    refine (toS_calls k H A n c rs m w14 (Kd.C_below HC.out HB14.out) EN.out hc H2.out).mono ?_
    rintro e w15 ⟨B15, d15, rfl, hd15, HX15, hb⟩
    have HB15 := Aside0.mk (below_step HB14.out hb.out)
    have HC15 := Aside0.mk (Kd.C_below HC14.out hb.out)
    have HV15 := Aside0.mk (Kd.R_below HV14.out hb.out)
    clear hb HC14 HV14 HBX14
    go_wp2_with fail
    refine (HID.out w15 B15 d15 (HCX.out HX15.out) hd15).mono ?_
    rintro e w16 ⟨Bh, dh, rfl, hr, hb⟩
    have HB16 := Aside0.mk (below_step HB15.out hb)
    have HE16 := Aside0.mk (Kd.R_reads' hr)
    have HC16 := Aside0.mk (Kd.C_below HC15.out hb)
    have HV16 := Aside0.mk (Kd.R_below HV15.out hb)
    clear hr hb HC15 HV15 HX15
    go_wp2_with fail
    refine (laws_eqByteS.calls k Bh dh r Bv dv r true w16 HE16.out.2.2 HE16.out.2.1 (Kd.R_reads' HV16.out).2.2 (Kd.R_reads' HV16.out).2.1 HRR.out).mono ?_
    rintro ex w17 ⟨rfl, ⟨n17, rfl⟩⟩
    have HB17 := Aside0.mk (pw_below_drewN HB16.out n17)
    have HC17 : Aside0 (KB.C (w16.drewN n17) Bg r.length mr) := ⟨Kd.C_drewN HC16.out n17⟩
    clear HC16 HV16 HE16
    generalize w16.drewN n17 = w17 at HB17 HC17 ⊢
    go_wp2_with fail
    refine (HHE.out _ HC17.out HD.out).mono ?_
    rintro ex w18 ⟨rfl, ⟨n18, rfl⟩⟩
    go_wp2
    go_ret
    exact ⟨rfl, pw_below_drewN HB17.out n18⟩
end Go.Proofs.Ytgfhbkhbnmgogaa.GFnExactFeed.Hand
