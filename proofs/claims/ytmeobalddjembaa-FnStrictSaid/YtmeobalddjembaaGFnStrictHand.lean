import Derived.Test.YtmeobalddjembaaGFnStrictDRead
namespace Go.Proofs.Ytmeobalddjembaa.GFnStrict.Hand
open Go.RowKit Go.Proofs.YtmeobalddjembaaW.PrintWords Go.Proofs.YtmeobalddjembaaW.PrintLast Go.Proofs.YtmeobalddjembaaW.PrintMore
set_option linter.unusedVariables false
set_option linter.unusedSimpArgs false
/-! ### laws.FnStrict: function 9 -/
structure SIn (k : Nat) (d : List Int) (r : List S52) : Prop where
  hrd : readDer d = (r, 0, 0)
  h300 : r.length ≤ 300
  hkb : ∀ j : Nat, j < r.length → 0 ≤ (rd_T52 r (j : Int)).f2 ∧ (rd_T52 r (j : Int)).f2 ≤ 300
  hbb : ∀ j : Nat, j < r.length → (rd_T52 r (j : Int)).f1.length ≤ 1048576
  ht : impl_TreeOk.f k r = some true
  hs : sk r 13 0 = some r.length
  hw : writeDer r true = (d, true)
/-- What is asked of the bytes that may be drawn. -/
def SAll : Prop := ∀ d : List Int, d.length ≤ 5000 → (∀ y ∈ d, 0 ≤ y ∧ y ≤ 255) → (∃ x p : Int, readDer d = ([], x, p) ∧ x ≠ 0 ∧ 0 ≤ p ∧ p ≤ (d.length : Int)) ∨ ∃ k r, SIn k d r
set_option maxHeartbeats 8000000 in
set_option maxRecDepth 100000 in
theorem law_in (b : List Int) (A0 : Option Addr) (c0 : Nat) (w : World) (hr0 : Kd.C (Kd.int .u8) w A0 b.length b) (hc0 : b.length ≤ c0) (hl : b.length ≤ 1048576) (hW : WAll) (hS : SAll) :
    Calls Try.prog 9 #[.slice A0 b.length c0] w fun e w' => e = .returned (.bool true) ∧ Below w.heap.size w w' := by
  have HR0 := Aside0.mk hr0
  have HWA := Aside0.mk hW
  have HSA := Aside0.mk hS
  clear hr0 hW hS
  have HBIG : Aside0 (laws_big.f b = some false) := ⟨by unfold laws_big.f; rw [decide_eq_false (by omega)]⟩
  go_enter Try.func9, Try.ntmps9
  go_wp2_with fail
  refine (laws_big.calls A0 c0 b false w HR0.out hc0 HBIG.out).mono ?_
  rintro ex w1 ⟨rfl, ⟨nd, rfl⟩⟩
  have HB1 : Aside0 (Below w.heap.size w (w.drewN nd)) := ⟨pw_below_drewN (Below.refl _ _) nd⟩
  generalize w.drewN nd = w1 at HB1 ⊢
  go_wp2_with fail
  refine (DrawReadDer_calls HWA.out b hl A0 c0 w1 (Kd.C_below HR0.out HB1.out) hc0).mono ?_
  rintro ex w2 ⟨A, c, n, d, rfl, hdn, hn5, hd, hb, ho⟩
  subst hdn
  have HB2 : Aside0 (Below w.heap.size w w2) := ⟨below_then HB1.out HB1.out.size hb⟩
  have HD2 := Aside0.mk (Kd.R_reads' ho)
  have HDB := Aside0.mk hd
  have hdc := HD2.out.2.1
  clear hb ho hd
  go_wp2_with fail
  refine (ReadDer_calls d A c w2 HD2.out.2.2 hdc HDB.out).mono ?_
  rintro ex w3 ⟨A3, c3, zs, e1, e2, ho, hnd, hb⟩
  have HB3 : Aside0 (Below w.heap.size w w3) := ⟨below_then HB2.out HB2.out.size hb⟩
  have HD3 := Aside0.mk (Kd.C_below HD2.out.2.2 hb)
  rcases HSA.out d hn5 HDB.out with ⟨x, p, hrd, hx, hp0, hp1⟩ | ⟨k, r, hin⟩
  · rw [hrd] at e1 e2
    have hz : zs.length = 0 := by
      have : zs.map (·.1) = [] := e2
      rw [← List.length_map (f := (·.1)), this]
      rfl
    rw [hz] at e1
    subst e1
    have hxb : (x != 0) = true := bne_iff_ne.2 hx
    have hpa : decide (p ≥ 0) = true := decide_eq_true hp0
    have hpb : decide (p ≤ (d.length : Int)) = true := decide_eq_true hp1
    clear e2 ho hnd hb hrd hz
    go_wp2
    go_ret
    exact ⟨rfl, HB3.out⟩
  · have HIN := Aside0.mk hin
    rw [hin.hrd] at e1 e2
    have hzl : zs.length = r.length := by
      have : zs.map (·.1) = r := e2
      rw [← this, List.length_map]
    rw [hzl] at e1
    subst e1
    have HC3 := Aside0.mk (kB_C' ho e2)
    have hrc := HC3.out.2
    have h300 := hin.h300
    clear e2 ho hnd hb hin hzl
    go_wp2_with fail
    refine (WriteDer_calls r A3 c3 k true w3 HC3.out.1 hrc (by omega) HIN.out.hbb HIN.out.ht (fun _ => ⟨HIN.out.h300, HIN.out.hkb, HIN.out.hs⟩)).mono ?_
    rintro ex w4 hW
    rw [HIN.out.hw] at hW
    obtain ⟨A4, c4, rfl, ho, hb⟩ := hW
    have HB4 : Aside0 (Below w.heap.size w w4) := ⟨below_then HB3.out HB3.out.size hb⟩
    have HD4 := Aside0.mk (Kd.C_below HD3.out hb)
    have HA4 := Aside0.mk (Kd.R_reads' ho)
    have hcv0 := Kd.C_string (P := Try.prog) (A := A4) (c := c4) Try.underlying38 Try.underlying5 Try.underlying9 HA4.out.2.2
    have hcv1 := Kd.C_string (P := Try.prog) (A := A) (c := c) Try.underlying38 Try.underlying5 Try.underlying9 HD4.out
    have n1 : ((strOfNums d).toList == (strOfNums d).toList) = true := beq_self_eq_true _
    clear ho hb
    go_wp2
    go_ret
    exact ⟨rfl, HB4.out⟩
set_option maxHeartbeats 8000000 in
set_option maxRecDepth 100000 in
theorem law_big (b : List Int) (A0 : Option Addr) (c0 : Nat) (w : World) (hr0 : Kd.C (Kd.int .u8) w A0 b.length b) (hc0 : b.length ≤ c0) (hl : b.length > 1048576) :
    Calls Try.prog 9 #[.slice A0 b.length c0] w fun e w' => e = .returned (.bool true) ∧ Below w.heap.size w w' := by
  have HR0 := Aside0.mk hr0
  have HBIG : Aside0 (laws_big.f b = some true) := ⟨by unfold laws_big.f; rw [decide_eq_true (by omega)]⟩
  clear hr0
  go_enter Try.func9, Try.ntmps9
  go_wp2_with fail
  refine (laws_big.calls A0 c0 b true w HR0.out hc0 HBIG.out).mono ?_
  rintro ex w1 ⟨rfl, ⟨nd, rfl⟩⟩
  go_wp2
  go_ret
  exact ⟨rfl, pw_below_drewN (Below.refl _ _) nd⟩
/-- What is asked of an argument; the law then says 'true'. -/
def LawOk (k : Nat) (b : List Int) (res : Bool) : Prop := res = true ∧ (b.length > 1048576 ∨ (b.length ≤ 1048576 ∧ WAll ∧ SAll))
end Go.Proofs.Ytmeobalddjembaa.GFnStrict.Hand
namespace Go.Proofs.Ytmeobalddjembaa.GFnStrict
open Go.RowKit Go.Proofs.YtmeobalddjembaaW.PrintWords
theorem laws_FnStrict.calls (k : Nat) (A0 : Option Addr) (c0 : Nat) (l0 : List Int) (r : Bool) (w : World) (hr0 : Kd.C (Kd.int .u8) w A0 l0.length l0) (hc0 : l0.length ≤ c0) (h : Hand.LawOk k l0 r) :
    Calls Try.prog 9 #[.slice A0 l0.length c0] w fun e w' => e = .returned (.bool r) ∧ Below w.heap.size w w' := by
  obtain ⟨rfl, h | ⟨hl, hW, hS⟩⟩ := h
  · exact Hand.law_big l0 A0 c0 w hr0 hc0 h
  · exact Hand.law_in l0 A0 c0 w hr0 hc0 hl hW hS
def laws_FnStrict.Pure : Prop := ∀ (l0 : List Int), l0.length ≤ maxLen → l0.length * 1 ≤ 140737488351232 → (∀ x ∈ l0, (Lit.int .u8 x).wf = true) → ∃ k, Hand.LawOk k l0 true
theorem laws_FnStrict.walk (P : laws_FnStrict.Pure) (a0 : Option Addr) (len0 cap0 : Nat) (z0 : List Int) (w : World) (w0 : (a0 = none ∧ len0 = 0 ∧ cap0 = 0 ∧ z0 = []) ∨ ∃ x, a0 = some x ∧ len0 ≤ cap0 ∧ cap0 ≤ maxLen ∧ z0.length = cap0 ∧ (∀ i, i < z0.length → w.cell? (x.add i) = some (.int .u8 (z0.getD i 0))) ∧ ∀ n ∈ z0, (Lit.int .u8 n).wf = true) (y0 : len0 * 1 ≤ 140737488351232) :
    Calls Try.prog 9 #[.slice a0 len0 cap0] w fun e w' => e = .returned (.bool true) ∧ Below w.heap.size w w' := by
  obtain ⟨l0, rfl, hr0, hm0, hw0, hc0⟩ := ReadsInt.ofRowC w0
  obtain ⟨k, h⟩ := P l0 hm0 y0 hw0
  exact laws_FnStrict.calls k _ _ l0 true w (Kd.C_of_reads (d := (0 : Int)) (h1 := fun _ => rfl) hr0) hc0 h
end Go.Proofs.Ytmeobalddjembaa.GFnStrict
