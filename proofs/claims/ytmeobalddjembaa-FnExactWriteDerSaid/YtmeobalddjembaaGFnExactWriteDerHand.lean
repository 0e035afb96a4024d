import Derived.Test.YtmeobalddjembaaGFnExactWriteDerWDer
namespace Go.Proofs.Ytmeobalddjembaa.GFnExactWriteDer.Hand
open Go.RowKit Go.Proofs.YtmeobalddjembaaW.PrintWords Go.Proofs.YtmeobalddjembaaW.PrintLast Go.Proofs.YtmeobalddjembaaW.PrintMore
set_option linter.unusedVariables false
set_option linter.unusedSimpArgs false
theorem below_touch' {S : Nat → Prop} {ts : List Nat} {w0 w W : World} (hb : Below w0.heap.size w0 w) (hT : Touch S ts w W) (hS : ∀ k, S k → w0.heap.size ≤ k) : Below w0.heap.size w0 W :=
  ⟨hT.os.trans hb.os, hT.tape.trans hb.tape, hT.output.trans hb.output, by rw [hT.size]; exact hb.size, fun k hk => (hT.low k (fun e => by have := hS k e; omega)).trans (hb.block k hk)⟩
theorem below_only {S : Nat → Prop} {w0 w W : World} (hb : Below w0.heap.size w0 w) (hT : Only S w W) (hS : ∀ k, S k → w0.heap.size ≤ k) : Below w0.heap.size w0 W :=
  ⟨hT.os.trans hb.os, hT.tape.trans hb.tape, hT.output.trans hb.output, by rw [hT.size]; exact hb.size, fun k hk => (hT.far k (fun e => by have := hS k e; omega)).trans (hb.block k hk)⟩
/-- Bytes of the call's own are marked, told whole. -/
theorem mark_bytes {w : World} {base : Nat} {ok : Nat → Prop} {A : Option Addr} {c : Nat} {xs : List Int} (h : (Kd.int .u8).R 5 w base ok (.slice A xs.length c) xs) (hl : xs.length ≤ 1048576) :
    Calls Try.prog 28 #[.slice A xs.length c, .int .i64 1] w fun e w' => e = .returned (.int .i64 (1 + (xs.length : Int))) ∧ Only (fun k => base ≤ k) w w' ∧ (Kd.int .u8).C w' A xs.length (marks 1 xs.length) := by
  refine (mark_body_full (fun _ => True) (.slice A xs.length c) xs.length 1 w (body_ok h (fun _ _ _ => trivial)) (by omega) (by omega)).mono ?_
  rintro e w' ⟨rfl, hO, hM⟩
  refine ⟨rfl, hO.more (fun k hk => Kd.R_base h k hk), ?_⟩
  rcases hM with h0 | ⟨b, cap, c', e1, h1, h2⟩
  · rw [h0]
    exact ⟨by simp [marks], by simp, fun hp => absurd hp (by simp)⟩
  · injection e1 with q1 q2 q3
    subst q1
    have := ints_C (ys := marks 1 xs.length) h1 (fun j hj => by
      rw [marks_length] at hj
      rw [h2 j hj, List.getD_eq_getElem?_getD, marks_at _ _ _ hj]
      rfl) (by rw [marks_length]; omega)
    rw [marks_length] at this
    exact this
/-! ### laws.FnExactWriteDer: function 8, the way of an argument that is let in; what is computed is known -/
set_option maxHeartbeats 8000000 in
set_option maxRecDepth 100000 in
theorem law_in (k k2 : Nat) (l0 : List S50) (l : List S52) (r : List Int) (b t : Bool) (A0 : Option Addr) (c0 : Nat) (v : Int) (w : World) (hr0 : Kd.C k50 w A0 l0.length l0) (hc0 : l0.length ≤ c0)
    (h1 : laws_szItemS.f k l0 1048576 = some v) (h1' : ¬ v < 0) (h2 : laws_toItemS.f k l0 = some l) (h3 : spec_WriteDer.f k l = some (r, b)) (hw : writeDer l t = (r, b)) (ht : impl_TreeOk.f k2 l = some t)
    (hg : t = true → l.length ≤ 300 ∧ (∀ j : Nat, j < l.length → 0 ≤ (rd_T52 l (j : Int)).f2 ∧ (rd_T52 l (j : Int)).f2 ≤ 300) ∧ sk l 13 0 = some l.length)
    (hbb : ∀ j : Nat, j < l.length → (rd_T52 l (j : Int)).f1.length ≤ 1048576)
    (h4 : laws_eqByteS.f k r r = some true) (h5 : laws_eqItemS.f k l l = some true) (h6 : laws_heldByteS.f k (marks 1 r.length) 1 = some ((1 : Int) + (r.length : Int)))
    (hl : l.length ≤ 1048576) (htt : tot (lens l) l.length ≤ 1000000000000000) (hrl : r.length ≤ 1048576) :
    Calls Try.prog 8 #[.slice A0 l0.length c0] w fun e w' => e = .returned (.bool true) ∧ Below w.heap.size w w' := by
  have HR0 := Aside0.mk hr0
  have HC0 := Aside0.mk hc0
  have H1 := Aside0.mk h1
  have H2 := Aside0.mk h2
  have H3 := Aside0.mk h3
  have H4 := Aside0.mk h4
  have H5 := Aside0.mk h5
  have H6 := Aside0.mk h6
  have HL := Aside0.mk hl
  have HT := Aside0.mk htt
  have HRL := Aside0.mk hrl
  have HWC : Aside0 (∀ (A : Option Addr) (c : Nat) (W : World), Kd.C k52 W A l.length l → l.length ≤ c → Calls Try.prog 31 #[.slice A l.length c] W fun ex w' => ∃ (A' : Option Addr) (c' : Nat), ex = .returned (.tuple #[.slice A' r.length c', .bool b]) ∧ (Kd.int .u8).R 5 w' W.heap.size (fun _ => True) (.slice A' r.length c') r ∧ Below W.heap.size W w') := ⟨by
    intro A c W hC hc
    have := WriteDer_calls l A c k2 t W hC hc hl hbb ht hg
    rw [hw] at this
    exact this⟩
  have hv : decide (v < 0) = false := decide_eq_false h1'
  clear hr0 hc0 h1 h1' h2 h3 h4 h5 h6 hl htt hrl hw ht hg hbb
  go_enter Try.func8, Try.ntmps8
  go_wp2_with fail
  refine (laws_szItemS.calls k A0 c0 l0 1048576 v w HR0.out HC0.out H1.out).mono ?_
  rintro ex w1 ⟨rfl, hb⟩
  have HB1 := Aside0.mk hb
  clear hb
  go_wp2_with fail
  refine (laws_toItemS.calls k A0 c0 l0 l w1 (Kd.C_below HR0.out HB1.out) HC0.out H2.out).mono ?_
  rintro ex w2 ⟨v2, rfl, ho, hb⟩
  obtain ⟨A2, c2, rfl⟩ := Kd.S_slice ho
  have HB2 : Aside0 (Below w.heap.size w w2) := ⟨below_then HB1.out HB1.out.size hb⟩
  have HR2 := Aside0.mk (Kd.S_reads' ho)
  clear hb ho
  go_wp2_with fail
  refine (spec_WriteDer.calls k A2 c2 l r b w2 HR2.out.2.2 HR2.out.2.1 H3.out).mono ?_
  rintro ex w3 ⟨v3, rfl, ho, hb⟩
  obtain ⟨A3, c3, rfl⟩ := Kd.R_slice ho
  have HB3 : Aside0 (Below w.heap.size w w3) := ⟨below_then HB2.out HB2.out.size hb⟩
  have HS3 : Aside0 ((Kd.int .u8).R 5 w3 0 (fun k => k < w3.heap.size) (.slice A3 r.length c3) r) := ⟨Kd.R_lower (Kd.R_mono (Kd.R_bound ho) (fun k hk => hk.2.2.1)) (Nat.zero_le _)⟩
  clear hb ho
  go_wp2_with fail
  refine (laws_toItemS.calls k A0 c0 l0 l w3 (Kd.C_below HR0.out HB3.out) HC0.out H2.out).mono ?_
  rintro ex w4 ⟨v4, rfl, ho, hb⟩
  obtain ⟨A4, c4, rfl⟩ := Kd.S_slice ho
  have HB4 : Aside0 (Below w.heap.size w w4) := ⟨below_then HB3.out HB3.out.size hb⟩
  have HB34 : Aside0 (w3.heap.size ≤ w4.heap.size) := ⟨hb.size⟩
  have HS4 := Aside0.mk (Kd.R_below HS3.out hb)
  have HX4 : Aside0 (Kd.S k52 52 w4 w3.heap.size (fun k => k < w4.heap.size) (.slice A4 l.length c4) l) := ⟨Kd.S_mono (Kd.S_bound ho) (fun k hk => hk.2.2.1)⟩
  clear hb ho
  go_wp2_with fail
  refine (HWC.out A4 c4 w4 (Kd.S_reads' HX4.out).2.2 (Kd.S_reads' HX4.out).2.1).mono ?_
  rintro ex w5 ⟨A5, c5, rfl, ho, hb⟩
  have HB5 : Aside0 (Below w.heap.size w w5) := ⟨below_then HB4.out HB4.out.size hb⟩
  have HS5 := Aside0.mk (Kd.R_below HS4.out hb)
  have HX5 : Aside0 (Kd.S k52 52 w5 w3.heap.size (fun k => k < w4.heap.size) (.slice A4 l.length c4) l) := ⟨Kd.S_below HX4.out hb⟩
  have HO5 := Aside0.mk ho
  clear hb ho
  go_wp2_with fail
  refine (laws_eqByteS.calls k A5 c5 r A3 c3 r true w5 (Kd.R_reads' HO5.out).2.2 (Kd.R_reads' HO5.out).2.1 (Kd.R_reads' HS5.out).2.2 (Kd.R_reads' HS5.out).2.1 H4.out).mono ?_
  rintro ex w6 ⟨rfl, ⟨nd, rfl⟩⟩
  have HB6 := Aside0.mk (pw_below_drewN HB5.out nd)
  have HS6 := Aside0.mk (Kd.R_drewN HS5.out nd)
  have HX6 := Aside0.mk (Kd.S_drewN HX5.out nd)
  have HO6 := Aside0.mk (Kd.R_drewN HO5.out nd)
  generalize w5.drewN nd = w6 at HB6 HS6 HX6 HO6 ⊢
  go_wp2_with fail
  refine (laws_toItemS.calls k A0 c0 l0 l w6 (Kd.C_below HR0.out HB6.out) HC0.out H2.out).mono ?_
  rintro ex w7 ⟨v7, rfl, ho, hb⟩
  obtain ⟨A7, c7, rfl⟩ := Kd.S_slice ho
  have HB7 : Aside0 (Below w.heap.size w w7) := ⟨below_then HB6.out HB6.out.size hb⟩
  have HS7 := Aside0.mk (Kd.R_below HS6.out hb)
  have HX7 := Aside0.mk (Kd.S_below HX6.out hb)
  have HO7 := Aside0.mk (Kd.R_below HO6.out hb)
  have HR7 := Aside0.mk (Kd.S_reads' ho)
  clear hb ho
  go_wp2_with fail
  refine (laws_eqItemS.calls k A4 c4 l A7 c7 l true w7 (Kd.S_reads' HX7.out).2.2 (Kd.S_reads' HX7.out).2.1 HR7.out.2.2 HR7.out.2.1 H5.out).mono ?_
  rintro ex w8 ⟨rfl, hb⟩
  have HB8 : Aside0 (Below w.heap.size w w8) := ⟨below_then HB7.out HB7.out.size hb⟩
  have HS8 := Aside0.mk (Kd.R_below HS7.out hb)
  have HX8 := Aside0.mk (Kd.S_below HX7.out hb)
  have HO8 := Aside0.mk (Kd.R_below HO7.out hb)
  clear hb
  go_wp2_with fail
  obtain ⟨T, hT⟩ : ∃ T : Nat, tot (lens l) l.length = T := ⟨_, rfl⟩
  have HM := Aside0.mk (mark_touch HX8.out HL.out HT.out)
  rw [hT] at HM
  clear hT
  refine HM.out.mono ?_
  clear HM
  rintro ex w9 ⟨rfl, ht⟩
  have HB9 : Aside0 (Below w.heap.size w w9) := ⟨below_touch' HB8.out ht (fun k hk => by have := hk.2; have := HB3.out.size; omega)⟩
  have HS9 : Aside0 ((Kd.int .u8).R 5 w9 0 (fun k => k < w3.heap.size) (.slice A3 r.length c3) r) := ⟨Kd.R_move HS8.out (fun k hk => ht.low k (fun e => by have := e.2; omega))⟩
  have HO9 : Aside0 ((Kd.int .u8).R 5 w9 w4.heap.size (fun _ => True) (.slice A5 r.length c5) r) := ⟨Kd.R_mono (Kd.R_move (Kd.R_bound HO8.out) (fun k hk => ht.low k (fun e => by have := e.1; have := hk.2.1; omega))) (fun _ _ => trivial)⟩
  clear ht
  have hT0 : decide ((1 : Int) + (T : Int) < 0) = false := decide_eq_false (by omega)
  go_wp2_with fail
  refine (laws_eqByteS.calls k A5 c5 r A3 c3 r true w9 (Kd.R_reads' HO9.out).2.2 (Kd.R_reads' HO9.out).2.1 (Kd.R_reads' HS9.out).2.2 (Kd.R_reads' HS9.out).2.1 H4.out).mono ?_
  rintro ex w10 ⟨rfl, ⟨nd2, rfl⟩⟩
  have HB10 := Aside0.mk (pw_below_drewN HB9.out nd2)
  have HS10 := Aside0.mk (Kd.R_drewN HS9.out nd2)
  have HO10 := Aside0.mk (Kd.R_drewN HO9.out nd2)
  generalize w9.drewN nd2 = w10 at HB10 HS10 HO10 ⊢
  clear hT0
  go_wp2_with fail
  refine (mark_bytes HO10.out HRL.out).mono ?_
  rintro ex w11 ⟨rfl, ht, hC⟩
  have HB11 : Aside0 (Below w.heap.size w w11) := ⟨below_only HB10.out ht (fun k hk => by have := HB4.out.size; omega)⟩
  have HS11 : Aside0 ((Kd.int .u8).R 5 w11 0 (fun k => k < w3.heap.size) (.slice A3 r.length c3) r) := ⟨Kd.R_move HS10.out (fun k hk => ht.far k (fun e => by have := HB34.out; omega))⟩
  have HC11 := Aside0.mk hC
  clear ht hC
  obtain ⟨R, hR⟩ : ∃ R : Nat, r.length = R := ⟨_, rfl⟩
  have HRR := Aside0.mk hR
  have hq0 : decide ((1 : Int) + (r.length : Int) < 0) = false := decide_eq_false (by omega)
  have HH := fun (W : World) (h : (Kd.int .u8).C W A5 r.length (marks 1 r.length)) => laws_heldByteS.calls k A5 c5 (marks 1 r.length) 1 ((1 : Int) + (r.length : Int)) W (by rw [marks_length]; exact h) (by rw [marks_length]; exact (Kd.R_reads' HO10.out).2.1) H6.out
  rw [marks_length] at HH
  have HHE := Aside0.mk HH
  clear HH hR
  go_wp2_with fail
  refine (HHE.out w11 HC11.out).mono ?_
  rintro ex w12 ⟨rfl, ⟨nd3, rfl⟩⟩
  have HB12 : Aside0 (Below w.heap.size w (w11.drewN nd3)) := ⟨pw_below_drewN HB11.out nd3⟩
  have HS12 := Aside0.mk (Kd.R_drewN HS11.out nd3)
  have HC12 := Aside0.mk (Kd.C_drewN HC11.out nd3)
  go_wp2_with fail
  refine (laws_toItemS.calls k A0 c0 l0 l (w11.drewN nd3) (Kd.C_below HR0.out HB12.out) HC0.out H2.out).mono ?_
  rintro ex w13 ⟨v13, rfl, ho, hb⟩
  obtain ⟨A13, c13, rfl⟩ := Kd.S_slice ho
  have HB13 : Aside0 (Below w.heap.size w w13) := ⟨below_then HB12.out HB12.out.size hb⟩
  have HS13 := Aside0.mk (Kd.R_below HS12.out hb)
  have HC13 := Aside0.mk (Kd.C_below HC12.out hb)
  have HR13 := Aside0.mk (Kd.S_reads' ho)
  clear hb ho
  go_wp2_with fail
  refine (HWC.out A13 c13 w13 HR13.out.2.2 HR13.out.2.1).mono ?_
  rintro ex w14 ⟨A14, c14, rfl, ho, hb⟩
  have HB14 : Aside0 (Below w.heap.size w w14) := ⟨below_then HB13.out HB13.out.size hb⟩
  have HS14 := Aside0.mk (Kd.R_below HS13.out hb)
  have HC14 := Aside0.mk (Kd.C_below HC13.out hb)
  have HO14 := Aside0.mk ho
  clear hb ho
  go_wp2_with fail
  refine (laws_eqByteS.calls k A14 c14 r A3 c3 r true w14 (Kd.R_reads' HO14.out).2.2 (Kd.R_reads' HO14.out).2.1 (Kd.R_reads' HS14.out).2.2 (Kd.R_reads' HS14.out).2.1 H4.out).mono ?_
  rintro ex w15 ⟨rfl, ⟨nd4, rfl⟩⟩
  have HB15 := Aside0.mk (pw_below_drewN HB14.out nd4)
  have HC15 := Aside0.mk (Kd.C_drewN HC14.out nd4)
  go_wp2_with fail
  refine (HHE.out (w14.drewN nd4) HC15.out).mono ?_
  rintro ex w16 ⟨rfl, ⟨nd5, rfl⟩⟩
  go_wp2
  go_ret
  exact ⟨rfl, pw_below_drewN HB14.out (nd4 + nd5)⟩
set_option maxHeartbeats 8000000 in
set_option maxRecDepth 100000 in
theorem law_big (k : Nat) (l0 : List S50) (A0 : Option Addr) (c0 : Nat) (v : Int) (w : World) (hr0 : Kd.C k50 w A0 l0.length l0) (hc0 : l0.length ≤ c0)
    (h1 : laws_szItemS.f k l0 1048576 = some v) (h1' : v < 0) :
    Calls Try.prog 8 #[.slice A0 l0.length c0] w fun e w' => e = .returned (.bool true) ∧ Below w.heap.size w w' := by
  have HR0 := Aside0.mk hr0
  have HC0 := Aside0.mk hc0
  have H1 := Aside0.mk h1
  have hv : decide (v < 0) = true := decide_eq_true h1'
  clear hr0 hc0 h1 h1'
  go_enter Try.func8, Try.ntmps8
  go_wp2_with fail
  refine (laws_szItemS.calls k A0 c0 l0 1048576 v w HR0.out HC0.out H1.out).mono ?_
  rintro ex w1 ⟨rfl, hb⟩
  have HB1 := Aside0.mk hb
  clear hb
  go_wp2
  go_ret
  exact ⟨rfl, HB1.out⟩
/-- What is asked of an argument; the law then says 'true'. -/
def LawOk (k : Nat) (l0 : List S50) (res : Bool) : Prop := res = true ∧ ∃ v : Int, laws_szItemS.f k l0 1048576 = some v ∧ (v < 0 ∨ (¬ v < 0 ∧ ∃ (k2 : Nat) (l : List S52) (r : List Int) (b t : Bool), laws_toItemS.f k l0 = some l ∧ spec_WriteDer.f k l = some (r, b) ∧ writeDer l t = (r, b) ∧ impl_TreeOk.f k2 l = some t ∧
    (t = true → l.length ≤ 300 ∧ (∀ j : Nat, j < l.length → 0 ≤ (rd_T52 l (j : Int)).f2 ∧ (rd_T52 l (j : Int)).f2 ≤ 300) ∧ sk l 13 0 = some l.length) ∧ (∀ j : Nat, j < l.length → (rd_T52 l (j : Int)).f1.length ≤ 1048576) ∧
    laws_eqByteS.f k r r = some true ∧ laws_eqItemS.f k l l = some true ∧ laws_heldByteS.f k (marks 1 r.length) 1 = some ((1 : Int) + (r.length : Int)) ∧ l.length ≤ 1048576 ∧ tot (lens l) l.length ≤ 1000000000000000 ∧ r.length ≤ 1048576))
end Go.Proofs.Ytmeobalddjembaa.GFnExactWriteDer.Hand
namespace Go.Proofs.Ytmeobalddjembaa.GFnExactWriteDer
open Go.RowKit Go.Proofs.YtmeobalddjembaaW.PrintWords
theorem laws_FnExactWriteDer.calls (k : Nat) (A0 : Option Addr) (c0 : Nat) (l0 : List (S50)) (r : Bool) (w : World) (hr0 : Kd.C k50 w A0 l0.length l0) (hc0 : l0.length ≤ c0) (h : Hand.LawOk k l0 r) :
    Calls Try.prog 8 #[.slice A0 l0.length c0] w fun e w' => e = .returned (.bool r) ∧ Below w.heap.size w w' := by
  obtain ⟨rfl, v, h1, h | ⟨h0, k2, l, r, b, t, h2, h3, hw, ht, hg, hbb, h4, h5, h6, hl, htt, hrl⟩⟩ := h
  · exact Hand.law_big k l0 A0 c0 v w hr0 hc0 h1 h
  · exact Hand.law_in k k2 l0 l r b t A0 c0 v w hr0 hc0 h1 h0 h2 h3 hw ht hg hbb h4 h5 h6 hl htt hrl
end Go.Proofs.Ytmeobalddjembaa.GFnExactWriteDer
