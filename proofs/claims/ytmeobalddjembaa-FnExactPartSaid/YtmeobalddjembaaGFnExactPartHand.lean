import Derived.Test.YtmeobalddjembaaGFnExactPartPartHand
namespace Go.Proofs.Ytmeobalddjembaa.GFnExactPart.Hand
open Go.RowKit Go.Proofs.YtmeobalddjembaaW.PrintWords Go.Proofs.YtmeobalddjembaaW.PrintLast Go.Proofs.YtmeobalddjembaaW.PrintMore
set_option linter.unusedVariables false
set_option linter.unusedSimpArgs false
/-! ### laws.FnExactPart: function 5, the way of an argument that is let in; what is computed is known -/
theorem F_hi {w : World} {base : Nat} {ok : Nat → Prop} {A : Option Addr} {n c : Nat} {l : List S52} (h : Kd.S k52 52 w base ok (.slice A n c) l) : Kd.F k52 w (fun k => base ≤ k ∧ k < w.heap.size) A n l := Kd.F_mono (Kd.S_F (Kd.S_bound h)) (fun k hk => ⟨hk.2.1, hk.2.2.1⟩)
theorem F_ext {w w1 : World} {lo hi : Nat} {A : Option Addr} {n : Nat} {l : List S52} (h : Kd.F k52 w (fun k => lo ≤ k ∧ k < hi) A n l) (hm : ∀ k, lo ≤ k → k < hi → w1.heap[k]? = w.heap[k]?) : Kd.F k52 w1 (fun k => lo ≤ k ∧ k < hi) A n l := Kd.F_step h (fun k hk _ => hm k hk.1 hk.2)
theorem below_touch' {S : Nat → Prop} {ts : List Nat} {w0 w W : World} (hb : Below w0.heap.size w0 w) (hT : Touch S ts w W) (hS : ∀ k, S k → w0.heap.size ≤ k) : Below w0.heap.size w0 W :=
  ⟨hT.os.trans hb.os, hT.tape.trans hb.tape, hT.output.trans hb.output, by rw [hT.size]; exact hb.size, fun k hk => (hT.low k (fun e => by have := hS k e; omega)).trans (hb.block k hk)⟩
theorem below_only {S : Nat → Prop} {w0 w W : World} (hb : Below w0.heap.size w0 w) (hT : Only S w W) (hS : ∀ k, S k → w0.heap.size ≤ k) : Below w0.heap.size w0 W :=
  ⟨hT.os.trans hb.os, hT.tape.trans hb.tape, hT.output.trans hb.output, by rw [hT.size]; exact hb.size, fun k hk => (hT.far k (fun e => by have := hS k e; omega)).trans (hb.block k hk)⟩
set_option maxHeartbeats 8000000 in
set_option maxRecDepth 100000 in
theorem law_in (k : Nat) (l0 : List S50) (l r : List S52) (b : Bool) (A0 : Option Addr) (c0 : Nat) (a v : Int) (w : World) (hr0 : Kd.C k50 w A0 l0.length l0) (hc0 : l0.length ≤ c0)
    (h1 : laws_szItemS.f k l0 1048576 = some v) (h1' : ¬ v < 0) (h2 : laws_toItemS.f k l0 = some l) (h3 : spec_Part.f k l a = some (r, b)) (hp : PartIs l a r b)
    (hg : b = true → l.length ≤ 1000 ∧ (∀ j : Nat, j < l.length → 0 ≤ (rd_T52 l (j : Int)).f2 ∧ (rd_T52 l (j : Int)).f2 ≤ 300) ∧ (∀ j : Nat, j < l.length → (rd_T52 l (j : Int)).f1.length ≤ 1048576))
    (h4 : laws_eqItemS.f k r r = some true) (h5 : laws_eqItemS.f k l l = some true) (h6 : laws_heldItemS.f k (mkI 1 (lens r)) 1 = some ((1 : Int) + ((tot (lens r) r.length : Nat) : Int)))
    (hl : l.length ≤ 1048576) (ht : tot (lens l) l.length ≤ 1000000000000000) (hrl : r.length ≤ 1048576) (hrb : ∀ x ∈ r, x.f1.length ≤ 1048576) (hrt : tot (lens r) r.length ≤ 1000000000000000) :
    Calls Try.prog 5 #[.slice A0 l0.length c0, .int .i64 a] w fun e w' => e = .returned (.bool true) ∧ Below w.heap.size w w' := by
  have HR0 := Aside0.mk hr0
  have HC0 := Aside0.mk hc0
  have H1 := Aside0.mk h1
  have H2 := Aside0.mk h2
  have H3 := Aside0.mk h3
  have H4 := Aside0.mk h4
  have H5 := Aside0.mk h5
  have H6 := Aside0.mk h6
  have HP := Aside0.mk hp
  have HG := Aside0.mk hg
  have HL := Aside0.mk hl
  have HT := Aside0.mk ht
  have HRL := Aside0.mk hrl
  have HRB := Aside0.mk hrb
  have HRT := Aside0.mk hrt
  have hv : decide (v < 0) = false := decide_eq_false h1'
  clear hr0 hc0 h1 h1' h2 h3 h4 h5 h6 hp hg hl ht hrl hrb hrt
  go_enter Try.func5, Try.ntmps5
  go_wp2_with fail
  refine (laws_szItemS.calls k A0 c0 l0 1048576 v w HR0.out HC0.out H1.out).mono ?_
  rintro ex w1 ⟨rfl, hb⟩
  have HB1 := Aside0.mk hb
  clear hb
  go_wp2_with fail
  refine (laws_toItemS.calls k A0 c0 l0 l w1 (Kd.C_below HR0.out HB1.out) HC0.out H2.out).mono ?_
  rintro ex w2 ⟨v2, rfl, ho, hb⟩
  obtain ⟨A2, c2, rfl⟩ := Kd.S_slice ho
  have HB2 : Aside0 (Below w.heap.size w w2) := ⟨below_then HB1.out HB1.out.size hb⟩
  have HR2 := Aside0.mk (Kd.S_reads' ho)
  clear hb ho
  go_wp2_with fail
  refine (spec_Part.calls k A2 c2 l a r b w2 HR2.out.2.2 HR2.out.2.1 H3.out).mono ?_
  rintro ex w3 ⟨v3, rfl, ho, hb⟩
  obtain ⟨A3, c3, rfl⟩ := Kd.S_slice ho
  have HB3 : Aside0 (Below w.heap.size w w3) := ⟨below_then HB2.out HB2.out.size hb⟩
  have F3 := Aside0.mk (F_hi ho)
  have HC3 : Aside0 (r.length ≤ c3) := ⟨(Kd.S_reads' ho).2.1⟩
  clear hb ho
  go_wp2_with fail
  refine (laws_toItemS.calls k A0 c0 l0 l w3 (Kd.C_below HR0.out HB3.out) HC0.out H2.out).mono ?_
  rintro ex w4 ⟨v4, rfl, ho, hb⟩
  obtain ⟨A4, c4, rfl⟩ := Kd.S_slice ho
  have HB4 : Aside0 (Below w.heap.size w w4) := ⟨below_then HB3.out HB3.out.size hb⟩
  have HB34 : Aside0 (w3.heap.size ≤ w4.heap.size) := ⟨hb.size⟩
  have F4 : Aside0 (Kd.F k52 w4 (fun k => w2.heap.size ≤ k ∧ k < w3.heap.size) A3 r.length r) := ⟨Kd.F_below F3.out hb⟩
  have HS4 : Aside0 (Kd.S k52 52 w4 w3.heap.size (fun k => k < w4.heap.size) (.slice A4 l.length c4) l) := ⟨Kd.S_mono (Kd.S_bound ho) (fun k hk => hk.2.2.1)⟩
  clear hb ho
  go_wp2_with fail
  refine (Part_calls l A4 c4 a r b w4 (Kd.S_reads' HS4.out).2.2 (Kd.S_reads' HS4.out).2.1 HP.out HG.out).mono ?_
  rintro ex w5 ⟨A5, c5, xs, rfl, ho, hf, hn, hb⟩
  have HXL : Aside0 (xs.length = r.length) := ⟨by rw [← hf, List.length_map]⟩
  rw [HXL.out] at ho ⊢
  have HB5 : Aside0 (Below w.heap.size w w5) := ⟨below_then HB4.out HB4.out.size hb⟩
  have F5 : Aside0 (Kd.F k52 w5 (fun k => w2.heap.size ≤ k ∧ k < w3.heap.size) A3 r.length r) := ⟨Kd.F_below F4.out hb⟩
  have HS5 : Aside0 (Kd.S k52 52 w5 w3.heap.size (fun k => k < w4.heap.size) (.slice A4 l.length c4) l) := ⟨Kd.S_below HS4.out hb⟩
  have HO5 : Aside0 (kB.R 52 w5 w4.heap.size (fun _ => True) (.slice A5 r.length c5) xs) := ⟨ho⟩
  have HXF := Aside0.mk hf
  have HN := Aside0.mk hn
  clear hb ho hf hn
  have HR5 : Aside0 (Kd.C k52 w5 A5 r.length r ∧ r.length ≤ c5) := ⟨by
    have := k52_of_kB HO5.out
    rw [HXF.out, HXL.out] at this
    exact ⟨this, (Kd.R_reads' HO5.out).2.1⟩⟩
  go_wp2_with fail
  refine (laws_eqItemS.calls k A5 c5 r A3 c3 r true w5 HR5.out.1 HR5.out.2 (Kd.F_now F5.out) HC3.out H4.out).mono ?_
  rintro ex w6 ⟨rfl, hb⟩
  have HB6 : Aside0 (Below w.heap.size w w6) := ⟨below_then HB5.out HB5.out.size hb⟩
  have F6 : Aside0 (Kd.F k52 w6 (fun k => w2.heap.size ≤ k ∧ k < w3.heap.size) A3 r.length r) := ⟨Kd.F_below F5.out hb⟩
  have HS6 : Aside0 (Kd.S k52 52 w6 w3.heap.size (fun k => k < w4.heap.size) (.slice A4 l.length c4) l) := ⟨Kd.S_below HS5.out hb⟩
  have HO6 : Aside0 (kB.R 52 w6 w4.heap.size (fun _ => True) (.slice A5 r.length c5) xs) := ⟨Kd.R_below HO5.out hb⟩
  clear hb
  go_wp2_with fail
  refine (laws_toItemS.calls k A0 c0 l0 l w6 (Kd.C_below HR0.out HB6.out) HC0.out H2.out).mono ?_
  rintro ex w7 ⟨v7, rfl, ho, hb⟩
  obtain ⟨A7, c7, rfl⟩ := Kd.S_slice ho
  have HB7 : Aside0 (Below w.heap.size w w7) := ⟨below_then HB6.out HB6.out.size hb⟩
  have F7 : Aside0 (Kd.F k52 w7 (fun k => w2.heap.size ≤ k ∧ k < w3.heap.size) A3 r.length r) := ⟨Kd.F_below F6.out hb⟩
  have HS7 : Aside0 (Kd.S k52 52 w7 w3.heap.size (fun k => k < w4.heap.size) (.slice A4 l.length c4) l) := ⟨Kd.S_below HS6.out hb⟩
  have HO7 : Aside0 (kB.R 52 w7 w4.heap.size (fun _ => True) (.slice A5 r.length c5) xs) := ⟨Kd.R_below HO6.out hb⟩
  have HR7 := Aside0.mk (Kd.S_reads' ho)
  clear hb ho
  go_wp2_with fail
  refine (laws_eqItemS.calls k A4 c4 l A7 c7 l true w7 (Kd.S_reads' HS7.out).2.2 (Kd.S_reads' HS7.out).2.1 HR7.out.2.2 HR7.out.2.1 H5.out).mono ?_
  rintro ex w8 ⟨rfl, hb⟩
  have HB8 : Aside0 (Below w.heap.size w w8) := ⟨below_then HB7.out HB7.out.size hb⟩
  have F8 : Aside0 (Kd.F k52 w8 (fun k => w2.heap.size ≤ k ∧ k < w3.heap.size) A3 r.length r) := ⟨Kd.F_below F7.out hb⟩
  have HS8 : Aside0 (Kd.S k52 52 w8 w3.heap.size (fun k => k < w4.heap.size) (.slice A4 l.length c4) l) := ⟨Kd.S_below HS7.out hb⟩
  have HO8 : Aside0 (kB.R 52 w8 w4.heap.size (fun _ => True) (.slice A5 r.length c5) xs) := ⟨Kd.R_below HO7.out hb⟩
  clear hb
  go_wp2_with fail
  obtain ⟨T, hT⟩ : ∃ T : Nat, tot (lens l) l.length = T := ⟨_, rfl⟩
  have HM := Aside0.mk (mark_touch HS8.out HL.out HT.out)
  rw [hT] at HM
  clear hT
  refine HM.out.mono ?_
  clear HM
  rintro ex w9 ⟨rfl, ht⟩
  have HB9 : Aside0 (Below w.heap.size w w9) := ⟨below_touch' HB8.out ht (fun k hk => by have := hk.2; have := HB3.out.size; omega)⟩
  have F9 : Aside0 (Kd.F k52 w9 (fun k => w2.heap.size ≤ k ∧ k < w3.heap.size) A3 r.length r) := ⟨F_ext F8.out (fun k _ h2 => ht.low k (fun e => by have := e.2; omega))⟩
  have HO9 : Aside0 (kB.R 52 w9 w4.heap.size (fun _ => True) (.slice A5 r.length c5) xs) := ⟨Kd.R_mono (Kd.R_move (Kd.R_bound HO8.out) (fun k hk => ht.low k (fun e => by have := e.1; have := hk.2.1; omega))) (fun _ _ => trivial)⟩
  clear ht
  have HR9 : Aside0 (Kd.C k52 w9 A5 r.length r ∧ r.length ≤ c5) := ⟨by
    have := k52_of_kB HO9.out
    rw [HXF.out, HXL.out] at this
    exact ⟨this, (Kd.R_reads' HO9.out).2.1⟩⟩
  have hT0 : decide ((1 : Int) + (T : Int) < 0) = false := decide_eq_false (by omega)
  go_wp2_with fail
  refine (laws_eqItemS.calls k A5 c5 r A3 c3 r true w9 HR9.out.1 HR9.out.2 (Kd.F_now F9.out) HC3.out H4.out).mono ?_
  rintro ex w10 ⟨rfl, hb⟩
  have HB10 : Aside0 (Below w.heap.size w w10) := ⟨below_then HB9.out HB9.out.size hb⟩
  have F10 : Aside0 (Kd.F k52 w10 (fun k => w2.heap.size ≤ k ∧ k < w3.heap.size) A3 r.length r) := ⟨Kd.F_below F9.out hb⟩
  have HO10 : Aside0 (kB.R 52 w10 w4.heap.size (fun _ => True) (.slice A5 r.length c5) xs) := ⟨Kd.R_below HO9.out hb⟩
  clear hb hT0
  obtain ⟨R, hR⟩ : ∃ R : Nat, tot (lens r) r.length = R := ⟨_, rfl⟩
  have HM : Aside0 (Calls Try.prog 18 #[.slice A5 r.length c5, .int .i64 1] w10 fun e w' => e = .returned (.int .i64 (1 + (R : Nat))) ∧ Only (fun k => w4.heap.size ≤ k) w10 w' ∧ Kd.C k52 w' A5 r.length (mkI 1 (lens r))) := ⟨by
    have h := HO10.out
    rw [← HXL.out] at h
    have := mark_full h HN.out (by rw [HXL.out]; exact HRL.out) (fun x hx => HRB.out _ (by rw [← HXF.out]; exact List.mem_map_of_mem hx)) (by rw [HXF.out, HXL.out]; exact HRT.out)
    rw [HXF.out, HXL.out, hR] at this
    refine this.mono ?_
    rintro e w' ⟨h1, h2, h3⟩
    exact ⟨h1, h2.more (fun k hk => hk.1), h3⟩⟩
  have H6' : Aside0 (laws_heldItemS.f k (mkI 1 (lens r)) 1 = some ((1 : Int) + (R : Int))) := ⟨by rw [← hR]; exact H6.out⟩
  have HML : Aside0 ((mkI 1 (lens r)).length = r.length) := ⟨by rw [mkI_length]; simp [lens]⟩
  clear hR
  go_wp2_with fail
  refine HM.out.mono ?_
  clear HM
  rintro ex w11 ⟨rfl, ht, hC⟩
  have HB11 : Aside0 (Below w.heap.size w w11) := ⟨below_only HB10.out ht (fun k hk => by have := HB4.out.size; omega)⟩
  have F11 : Aside0 (Kd.F k52 w11 (fun k => w2.heap.size ≤ k ∧ k < w3.heap.size) A3 r.length r) := ⟨F_ext F10.out (fun k _ h2 => ht.far k (fun e => by have := HB34.out; omega))⟩
  have HC11 := Aside0.mk hC
  clear ht hC
  have hq0 : decide ((1 : Int) + (R : Int) < 0) = false := decide_eq_false (by omega)
  go_wp2_with fail
  have HH := fun (W : World) (h : Kd.C k52 W A5 r.length (mkI 1 (lens r))) => laws_heldItemS.calls k A5 c5 (mkI 1 (lens r)) 1 ((1 : Int) + (R : Int)) W (by rw [HML.out]; exact h) (by rw [HML.out]; exact HR9.out.2) H6'.out
  rw [HML.out] at HH
  have HHE := Aside0.mk HH
  clear HH
  refine (HHE.out w11 HC11.out).mono ?_
  rintro ex w12 ⟨rfl, ⟨nd, rfl⟩⟩
  have HB12 : Aside0 (Below w.heap.size w (w11.drewN nd)) := ⟨pw_below_drewN HB11.out nd⟩
  have F12 : Aside0 (Kd.F k52 (w11.drewN nd) (fun k => w2.heap.size ≤ k ∧ k < w3.heap.size) A3 r.length r) := ⟨Kd.F_drewN F11.out nd⟩
  have HC12 : Aside0 (Kd.C k52 (w11.drewN nd) A5 r.length (mkI 1 (lens r))) := ⟨Kd.C_drewN HC11.out nd⟩
  go_wp2_with fail
  refine (laws_toItemS.calls k A0 c0 l0 l (w11.drewN nd) (Kd.C_below HR0.out HB12.out) HC0.out H2.out).mono ?_
  rintro ex w13 ⟨v13, rfl, ho, hb⟩
  obtain ⟨A13, c13, rfl⟩ := Kd.S_slice ho
  have HB13 : Aside0 (Below w.heap.size w w13) := ⟨below_then HB12.out HB12.out.size hb⟩
  have F13 : Aside0 (Kd.F k52 w13 (fun k => w2.heap.size ≤ k ∧ k < w3.heap.size) A3 r.length r) := ⟨Kd.F_below F12.out hb⟩
  have HC13 : Aside0 (Kd.C k52 w13 A5 r.length (mkI 1 (lens r))) := ⟨Kd.C_below HC12.out hb⟩
  have HR13 := Aside0.mk (Kd.S_reads' ho)
  clear hb ho
  go_wp2_with fail
  refine (Part_calls l A13 c13 a r b w13 HR13.out.2.2 HR13.out.2.1 HP.out HG.out).mono ?_
  rintro ex w14 ⟨A14, c14, ys, rfl, ho, hf, hn, hb⟩
  have HYL : Aside0 (ys.length = r.length) := ⟨by rw [← hf, List.length_map]⟩
  rw [HYL.out] at ho ⊢
  have HB14 : Aside0 (Below w.heap.size w w14) := ⟨below_then HB13.out HB13.out.size hb⟩
  have F14 : Aside0 (Kd.F k52 w14 (fun k => w2.heap.size ≤ k ∧ k < w3.heap.size) A3 r.length r) := ⟨Kd.F_below F13.out hb⟩
  have HC14 : Aside0 (Kd.C k52 w14 A5 r.length (mkI 1 (lens r))) := ⟨Kd.C_below HC13.out hb⟩
  have HR14 : Aside0 (Kd.C k52 w14 A14 r.length r ∧ r.length ≤ c14) := ⟨by
    have := k52_of_kB ho
    rw [hf, HYL.out] at this
    exact ⟨this, (Kd.R_reads' ho).2.1⟩⟩
  clear hb ho hf hn
  go_wp2_with fail
  refine (laws_eqItemS.calls k A14 c14 r A3 c3 r true w14 HR14.out.1 HR14.out.2 (Kd.F_now F14.out) HC3.out H4.out).mono ?_
  rintro ex w15 ⟨rfl, hb⟩
  have HB15 : Aside0 (Below w.heap.size w w15) := ⟨below_then HB14.out HB14.out.size hb⟩
  have HC15 : Aside0 (Kd.C k52 w15 A5 r.length (mkI 1 (lens r))) := ⟨Kd.C_below HC14.out hb⟩
  clear hb
  go_wp2_with fail
  refine (HHE.out w15 HC15.out).mono ?_
  rintro ex w16 ⟨rfl, ⟨nd2, rfl⟩⟩
  go_wp2
  go_ret
  exact ⟨rfl, pw_below_drewN HB15.out nd2⟩
set_option maxHeartbeats 8000000 in
set_option maxRecDepth 100000 in
theorem law_big (k : Nat) (l0 : List S50) (A0 : Option Addr) (c0 : Nat) (a v : Int) (w : World) (hr0 : Kd.C k50 w A0 l0.length l0) (hc0 : l0.length ≤ c0)
    (h1 : laws_szItemS.f k l0 1048576 = some v) (h1' : v < 0) :
    Calls Try.prog 5 #[.slice A0 l0.length c0, .int .i64 a] w fun e w' => e = .returned (.bool true) ∧ Below w.heap.size w w' := by
  have HR0 := Aside0.mk hr0
  have HC0 := Aside0.mk hc0
  have H1 := Aside0.mk h1
  have hv : decide (v < 0) = true := decide_eq_true h1'
  clear hr0 hc0 h1 h1'
  go_enter Try.func5, Try.ntmps5
  go_wp2_with fail
  refine (laws_szItemS.calls k A0 c0 l0 1048576 v w HR0.out HC0.out H1.out).mono ?_
  rintro ex w1 ⟨rfl, hb⟩
  have HB1 := Aside0.mk hb
  clear hb
  go_wp2
  go_ret
  exact ⟨rfl, HB1.out⟩
/-- What is asked of an argument; the law then says 'true'. -/
def LawOk (k : Nat) (l0 : List S50) (a : Int) (res : Bool) : Prop := res = true ∧ ∃ v : Int, laws_szItemS.f k l0 1048576 = some v ∧ (v < 0 ∨ (¬ v < 0 ∧ ∃ (l r : List S52) (b : Bool), laws_toItemS.f k l0 = some l ∧ spec_Part.f k l a = some (r, b) ∧ PartIs l a r b ∧
    (b = true → l.length ≤ 1000 ∧ (∀ j : Nat, j < l.length → 0 ≤ (rd_T52 l (j : Int)).f2 ∧ (rd_T52 l (j : Int)).f2 ≤ 300) ∧ (∀ j : Nat, j < l.length → (rd_T52 l (j : Int)).f1.length ≤ 1048576)) ∧
    laws_eqItemS.f k r r = some true ∧ laws_eqItemS.f k l l = some true ∧ laws_heldItemS.f k (mkI 1 (lens r)) 1 = some ((1 : Int) + ((tot (lens r) r.length : Nat) : Int)) ∧
    l.length ≤ 1048576 ∧ tot (lens l) l.length ≤ 1000000000000000 ∧ r.length ≤ 1048576 ∧ (∀ x ∈ r, x.f1.length ≤ 1048576) ∧ tot (lens r) r.length ≤ 1000000000000000))
end Go.Proofs.Ytmeobalddjembaa.GFnExactPart.Hand
namespace Go.Proofs.Ytmeobalddjembaa.GFnExactPart
open Go.RowKit Go.Proofs.YtmeobalddjembaaW.PrintWords
theorem laws_FnExactPart.calls (k : Nat) (A0 : Option Addr) (c0 : Nat) (l0 : List (S50)) (a1 : Int) (r : Bool) (w : World) (hr0 : Kd.C k50 w A0 l0.length l0) (hc0 : l0.length ≤ c0) (h : Hand.LawOk k l0 a1 r) :
    Calls Try.prog 5 #[.slice A0 l0.length c0, .int .i64 a1] w fun e w' => e = .returned (.bool r) ∧ Below w.heap.size w w' := by
  obtain ⟨rfl, v, h1, h | ⟨h0, l, r, b, h2, h3, hp, hg, h4, h5, h6, hl, ht, hrl, hrb, hrt⟩⟩ := h
  · exact Hand.law_big k l0 A0 c0 a1 v w hr0 hc0 h1 h
  · exact Hand.law_in k l0 l r b A0 c0 a1 v w hr0 hc0 h1 h0 h2 h3 hp hg h4 h5 h6 hl ht hrl hrb hrt
end Go.Proofs.Ytmeobalddjembaa.GFnExactPart
