import Derived.Test.YtmeobalddjembaaGFnExactReadDerSRead2
namespace Go.Proofs.Ytmeobalddjembaa.GFnExactReadDer.Hand
open Go.RowKit Go.Proofs.YtmeobalddjembaaW.PrintWords Go.Proofs.YtmeobalddjembaaW.PrintLast Go.Proofs.YtmeobalddjembaaW.PrintMore
set_option linter.unusedVariables false
set_option linter.unusedSimpArgs false
theorem k52_of_kB {w : World} {base : Nat} {ok : Nat → Prop} {A : Option Addr} {n c : Nat} {xs : List (S52 × Value)} (h : kB.R 52 w base ok (.slice A n c) xs) : Kd.C k52 w A xs.length (xs.map (·.1)) := by
  obtain ⟨h1, h2, h3⟩ := Kd.R_reads' h
  refine ⟨by simp, by have := h3.2.1; exact this, fun hn => ?_⟩
  obtain ⟨ad, e, hc⟩ := h3.2.2 hn
  refine ⟨ad, e, fun j p hp => ?_⟩
  rw [List.getElem?_map] at hp
  cases hx : xs[j]? with
  | none => rw [hx] at hp; cases hp
  | some x =>
    rw [hx] at hp
    obtain rfl : x.1 = p := Option.some.inj hp
    obtain ⟨cs, l1, l2, l3⟩ := hc j x hx
    exact ⟨cs, l1, l2.1, l3⟩
theorem kB_C {w : World} {base n c : Nat} {ok : Nat → Prop} {A : Option Addr} {xs : List (S52 × Value)} {r : List S52} (h : kB.R 52 w base ok (.slice A n c) xs) (hr : xs.map (·.1) = r) : Kd.C k52 w A r.length r ∧ r.length ≤ c := by
  subst hr
  have h1 := k52_of_kB h
  have h2 := (Kd.R_reads' h)
  rw [List.length_map]
  exact ⟨h1, by omega⟩
theorem below_only {S : Nat → Prop} {w0 w W : World} (hb : Below w0.heap.size w0 w) (hT : Only S w W) (hS : ∀ k, S k → w0.heap.size ≤ k) : Below w0.heap.size w0 W :=
  ⟨hT.os.trans hb.os, hT.tape.trans hb.tape, hT.output.trans hb.output, by rw [hT.size]; exact hb.size, fun k hk => (hT.far k (fun e => by have := hS k e; omega)).trans (hb.block k hk)⟩
/-! ### laws.FnExactReadDer: function 6, the way of an argument that is let in; what is computed is known -/
set_option maxHeartbeats 8000000 in
set_option maxRecDepth 100000 in
theorem law_in (k : Nat) (b : List Int) (r : List S52) (r1 r2 : Int) (A0 : Option Addr) (c0 : Nat) (w : World) (hr0 : Kd.C (Kd.int .u8) w A0 b.length b) (hc0 : b.length ≤ c0) (hb : ∀ x ∈ b, 0 ≤ x ∧ x ≤ 255) (hl : b.length ≤ 1048576)
    (hrd : readDer b = (r, r1, r2)) (h2 : laws_toByteS.f k b = some b) (h3 : laws_eqByteS.f k b b = some true)
    (h4 : laws_eqItemS.f k r r = some true) (h6 : laws_heldItemS.f k (mkI 1 (lens r)) 1 = some ((1 : Int) + ((tot (lens r) r.length : Nat) : Int)))
    (hrl : r.length ≤ 1048576) (hrb : ∀ x ∈ r, x.f1.length ≤ 1048576) (hrt : tot (lens r) r.length ≤ 1000000000000000) :
    Calls Try.prog 6 #[.slice A0 b.length c0] w fun e w' => e = .returned (.bool true) ∧ Below w.heap.size w w' := by
  have HR0 := Aside0.mk hr0
  have HBY := Aside0.mk hb
  have H2 := Aside0.mk h2
  have H3 := Aside0.mk h3
  have H4 := Aside0.mk h4
  have H6 := Aside0.mk h6
  have HRL := Aside0.mk hrl
  have HRB := Aside0.mk hrb
  have HRT := Aside0.mk hrt
  have HDP : Aside0 (∀ (w : World) (ex : Ending) (w' : World), DerPost w b ex w' → ∃ (A : Option Addr) (c : Nat) (ys : List (S52 × Value)), ex = .returned (.tuple #[.slice A r.length c, .int .i64 r1, .int .i64 r2]) ∧ ys.map (·.1) = r ∧ kB.R 52 w' w.heap.size (fun _ => True) (.slice A r.length c) ys ∧ (blocks ys).Nodup ∧ Below w.heap.size w w') := ⟨by
    rintro w ex w' ⟨A, c, ys, h1, h2, h3, h4, h5⟩
    rw [hrd] at h1 h2
    have hyl : ys.length = r.length := by
      have : ys.map (·.1) = r := h2
      rw [← this, List.length_map]
    rw [hyl] at h1 h3
    exact ⟨A, c, ys, h1, h2, h3, h4, h5⟩⟩
  clear hr0 hb h2 h3 h4 h6 hrl hrb hrt hrd
  go_enter Try.func6, Try.ntmps6
  go_wp2_with fail
  refine (laws_toByteS.calls k A0 c0 b b w HR0.out hc0 H2.out).mono ?_
  rintro ex w2 ⟨v2, rfl, ho, hb⟩
  obtain ⟨A2, c2, rfl⟩ := Kd.R_slice ho
  have HB2 := Aside0.mk hb
  have HR2 := Aside0.mk (Kd.R_reads' ho)
  clear hb ho
  go_wp2_with fail
  refine (SReadDer_calls b A2 c2 w2 HR2.out.2.2 HR2.out.2.1 HBY.out).mono ?_
  rintro ex w3 hD
  obtain ⟨A3, c3, ys, rfl, hy, ho, hn, hb⟩ := HDP.out _ _ _ hD
  have HB3 : Aside0 (Below w.heap.size w w3) := ⟨below_then HB2.out HB2.out.size hb⟩
  have HY := Aside0.mk hy
  have HS3 : Aside0 (kB.R 52 w3 0 (fun k => k < w3.heap.size) (.slice A3 r.length c3) ys) := ⟨Kd.R_lower (Kd.R_mono (Kd.R_bound ho) (fun k hk => hk.2.2.1)) (Nat.zero_le _)⟩
  clear hb ho hn hy hD
  go_wp2_with fail
  refine (laws_toByteS.calls k A0 c0 b b w3 (Kd.C_below HR0.out HB3.out) hc0 H2.out).mono ?_
  rintro ex w4 ⟨v4, rfl, ho, hb⟩
  obtain ⟨A4, c4, rfl⟩ := Kd.R_slice ho
  have HB4 : Aside0 (Below w.heap.size w w4) := ⟨below_then HB3.out HB3.out.size hb⟩
  have HS4 := Aside0.mk (Kd.R_below HS3.out hb)
  have HX4 : Aside0 ((Kd.int .u8).R 5 w4 w3.heap.size (fun k => k < w4.heap.size) (.slice A4 b.length c4) b) := ⟨Kd.R_mono (Kd.R_bound ho) (fun k hk => hk.2.2.1)⟩
  have HZ34 : Aside0 (w3.heap.size ≤ w4.heap.size) := ⟨hb.size⟩
  clear hb ho
  go_wp2_with fail
  refine (ReadDer_calls b A4 c4 w4 (Kd.R_reads' HX4.out).2.2 (Kd.R_reads' HX4.out).2.1 HBY.out).mono ?_
  rintro ex w5 hD
  obtain ⟨A5, c5, xs, rfl, hx, ho, hn, hb⟩ := HDP.out _ _ _ hD
  have HB5 : Aside0 (Below w.heap.size w w5) := ⟨below_then HB4.out HB4.out.size hb⟩
  have HX := Aside0.mk hx
  have HND := Aside0.mk hn
  have HS5 := Aside0.mk (Kd.R_below HS4.out hb)
  have HX5 := Aside0.mk (Kd.R_below HX4.out hb)
  have HO5 := Aside0.mk ho
  clear hb ho hn hx hD
  go_wp2_with fail
  refine (laws_eqItemS.calls k A5 c5 r A3 c3 r true w5 (kB_C HO5.out HX.out).1 (kB_C HO5.out HX.out).2 (kB_C HS5.out HY.out).1 (kB_C HS5.out HY.out).2 H4.out).mono ?_
  rintro ex w6 ⟨rfl, hb⟩
  have HB6 : Aside0 (Below w.heap.size w w6) := ⟨below_then HB5.out HB5.out.size hb⟩
  have HS6 := Aside0.mk (Kd.R_below HS5.out hb)
  have HX6 := Aside0.mk (Kd.R_below HX5.out hb)
  have HO6 := Aside0.mk (Kd.R_below HO5.out hb)
  clear hb
  go_wp2_with fail
  refine (laws_toByteS.calls k A0 c0 b b w6 (Kd.C_below HR0.out HB6.out) hc0 H2.out).mono ?_
  rintro ex w7 ⟨v7, rfl, ho, hb⟩
  obtain ⟨A7, c7, rfl⟩ := Kd.R_slice ho
  have HB7 : Aside0 (Below w.heap.size w w7) := ⟨below_then HB6.out HB6.out.size hb⟩
  have HS7 := Aside0.mk (Kd.R_below HS6.out hb)
  have HX7 := Aside0.mk (Kd.R_below HX6.out hb)
  have HO7 := Aside0.mk (Kd.R_below HO6.out hb)
  have HR7 := Aside0.mk (Kd.R_reads' ho)
  clear hb ho
  go_wp2_with fail
  refine (laws_eqByteS.calls k A4 c4 b A7 c7 b true w7 (Kd.R_reads' HX7.out).2.2 (Kd.R_reads' HX7.out).2.1 HR7.out.2.2 HR7.out.2.1 H3.out).mono ?_
  rintro ex w8 ⟨rfl, ⟨nd, rfl⟩⟩
  have HB8 := Aside0.mk (pw_below_drewN HB7.out nd)
  have HS8 := Aside0.mk (Kd.R_drewN HS7.out nd)
  have HX8 := Aside0.mk (Kd.R_drewN HX7.out nd)
  have HO8 := Aside0.mk (Kd.R_drewN HO7.out nd)
  generalize w7.drewN nd = w8 at HB8 HS8 HX8 HO8 ⊢
  go_wp2_with fail
  refine (mark_body_full (fun _ => True) (.slice A4 b.length c4) b.length 1 w8 (body_ok HX8.out (fun _ _ _ => trivial)) (by omega) (by omega)).mono ?_
  rintro ex w9 ⟨rfl, ht, _⟩
  have HOW : Aside0 (∀ k, (Value.slice A4 b.length c4).ownBlock = some k → w3.heap.size ≤ k ∧ k < w4.heap.size) := ⟨fun k e => ⟨Kd.R_base HX8.out k e, HX8.out.1 k e⟩⟩
  have HB9 : Aside0 (Below w.heap.size w w9) := ⟨below_only HB8.out ht (fun k hk => by have := (HOW.out k hk).1; have := HB3.out.size; omega)⟩
  have HS9 : Aside0 (kB.R 52 w9 0 (fun k => k < w3.heap.size) (.slice A3 r.length c3) ys) := ⟨Kd.R_move HS8.out (fun k hk => ht.far k (fun e => by have := (HOW.out k e).1; omega))⟩
  have HO9 : Aside0 (kB.R 52 w9 w4.heap.size (fun _ => True) (.slice A5 r.length c5) xs) := ⟨Kd.R_mono (Kd.R_move (Kd.R_bound HO8.out) (fun k hk => ht.far k (fun e => by have := (HOW.out k e).2; have := hk.2.1; omega))) (fun _ _ => trivial)⟩
  clear ht
  have hk0 : decide ((1 : Int) + (b.length : Int) < 0) = false := decide_eq_false (by omega)
  go_wp2_with fail
  refine (laws_eqItemS.calls k A5 c5 r A3 c3 r true w9 (kB_C HO9.out HX.out).1 (kB_C HO9.out HX.out).2 (kB_C HS9.out HY.out).1 (kB_C HS9.out HY.out).2 H4.out).mono ?_
  rintro ex w10 ⟨rfl, hb⟩
  have HB10 : Aside0 (Below w.heap.size w w10) := ⟨below_then HB9.out HB9.out.size hb⟩
  have HS10 := Aside0.mk (Kd.R_below HS9.out hb)
  have HO10 := Aside0.mk (Kd.R_below HO9.out hb)
  clear hb hk0
  obtain ⟨R, hR⟩ : ∃ R : Nat, tot (lens r) r.length = R := ⟨_, rfl⟩
  have HXL : Aside0 (xs.length = r.length) := ⟨by rw [← HX.out, List.length_map]⟩
  have HM : Aside0 (Calls Try.prog 18 #[.slice A5 r.length c5, .int .i64 1] w10 fun e w' => e = .returned (.int .i64 (1 + (R : Nat))) ∧ Only (fun k => w4.heap.size ≤ k) w10 w' ∧ Kd.C k52 w' A5 r.length (mkI 1 (lens r))) := ⟨by
    have h := HO10.out
    rw [← HXL.out] at h
    have := mark_full h HND.out (by rw [HXL.out]; exact HRL.out) (fun x hx => HRB.out _ (by rw [← HX.out]; exact List.mem_map_of_mem hx)) (by rw [HX.out, HXL.out]; exact HRT.out)
    rw [HX.out, HXL.out, hR] at this
    refine this.mono ?_
    rintro e w' ⟨h1, h2, h3⟩
    exact ⟨h1, h2.more (fun k hk => hk.1), h3⟩⟩
  have H6' : Aside0 (laws_heldItemS.f k (mkI 1 (lens r)) 1 = some ((1 : Int) + (R : Int))) := ⟨by rw [← hR]; exact H6.out⟩
  have HML : Aside0 ((mkI 1 (lens r)).length = r.length) := ⟨by rw [mkI_length]; simp [lens]⟩
  clear hR
  go_wp2_with fail
  refine HM.out.mono ?_
  clear HM
  rintro ex w11 ⟨rfl, ht, hC⟩
  have HB11 : Aside0 (Below w.heap.size w w11) := ⟨below_only HB10.out ht (fun k hk => by have := HB4.out.size; omega)⟩
  have HS11 : Aside0 (kB.R 52 w11 0 (fun k => k < w3.heap.size) (.slice A3 r.length c3) ys) := ⟨Kd.R_move HS10.out (fun k hk => ht.far k (fun e => by have := HZ34.out; omega))⟩
  have HC11 := Aside0.mk hC
  clear ht hC
  have hq0 : decide ((1 : Int) + (R : Int) < 0) = false := decide_eq_false (by omega)
  go_wp2_with fail
  have HH := fun (W : World) (h : Kd.C k52 W A5 r.length (mkI 1 (lens r))) => laws_heldItemS.calls k A5 c5 (mkI 1 (lens r)) 1 ((1 : Int) + (R : Int)) W (by rw [HML.out]; exact h) (by rw [HML.out]; exact (kB_C HO10.out HX.out).2) H6'.out
  rw [HML.out] at HH
  have HHE := Aside0.mk HH
  clear HH
  refine (HHE.out w11 HC11.out).mono ?_
  rintro ex w12 ⟨rfl, ⟨nd2, rfl⟩⟩
  have HB12 : Aside0 (Below w.heap.size w (w11.drewN nd2)) := ⟨pw_below_drewN HB11.out nd2⟩
  have HS12 := Aside0.mk (Kd.R_drewN HS11.out nd2)
  have HC12 : Aside0 (Kd.C k52 (w11.drewN nd2) A5 r.length (mkI 1 (lens r))) := ⟨Kd.C_drewN HC11.out nd2⟩
  go_wp2_with fail
  refine (laws_toByteS.calls k A0 c0 b b (w11.drewN nd2) (Kd.C_below HR0.out HB12.out) hc0 H2.out).mono ?_
  rintro ex w13 ⟨v13, rfl, ho, hb⟩
  obtain ⟨A13, c13, rfl⟩ := Kd.R_slice ho
  have HB13 : Aside0 (Below w.heap.size w w13) := ⟨below_then HB12.out HB12.out.size hb⟩
  have HS13 := Aside0.mk (Kd.R_below HS12.out hb)
  have HC13 : Aside0 (Kd.C k52 w13 A5 r.length (mkI 1 (lens r))) := ⟨Kd.C_below HC12.out hb⟩
  have HR13 := Aside0.mk (Kd.R_reads' ho)
  clear hb ho
  go_wp2_with fail
  refine (ReadDer_calls b A13 c13 w13 HR13.out.2.2 HR13.out.2.1 HBY.out).mono ?_
  rintro ex w14 hD
  obtain ⟨A14, c14, zs, rfl, hz, ho, hn, hb⟩ := HDP.out _ _ _ hD
  have HB14 : Aside0 (Below w.heap.size w w14) := ⟨below_then HB13.out HB13.out.size hb⟩
  have HS14 := Aside0.mk (Kd.R_below HS13.out hb)
  have HC14 : Aside0 (Kd.C k52 w14 A5 r.length (mkI 1 (lens r))) := ⟨Kd.C_below HC13.out hb⟩
  have HZ := Aside0.mk hz
  have HO14 := Aside0.mk ho
  clear hb ho hn hz hD
  go_wp2_with fail
  refine (laws_eqItemS.calls k A14 c14 r A3 c3 r true w14 (kB_C HO14.out HZ.out).1 (kB_C HO14.out HZ.out).2 (kB_C HS14.out HY.out).1 (kB_C HS14.out HY.out).2 H4.out).mono ?_
  rintro ex w15 ⟨rfl, hb⟩
  have HB15 : Aside0 (Below w.heap.size w w15) := ⟨below_then HB14.out HB14.out.size hb⟩
  have HC15 : Aside0 (Kd.C k52 w15 A5 r.length (mkI 1 (lens r))) := ⟨Kd.C_below HC14.out hb⟩
  clear hb
  go_wp2_with fail
  refine (HHE.out w15 HC15.out).mono ?_
  rintro ex w16 ⟨rfl, ⟨nd3, rfl⟩⟩
  go_wp2
  go_ret
  exact ⟨rfl, pw_below_drewN HB15.out nd3⟩
set_option maxHeartbeats 8000000 in
set_option maxRecDepth 100000 in
theorem law_big (b : List Int) (A0 : Option Addr) (c0 : Nat) (w : World) (hl : b.length > 1048576) (hm : b.length ≤ maxLen) :
    Calls Try.prog 6 #[.slice A0 b.length c0] w fun e w' => e = .returned (.bool true) ∧ Below w.heap.size w w' := by
  go_enter Try.func6, Try.ntmps6
  go_wp2
  go_ret
  exact ⟨rfl, Below.refl _ _⟩
/-- What is asked of an argument; the law then says 'true'. -/
def LawOk (k : Nat) (b : List Int) (res : Bool) : Prop := res = true ∧ (∀ x ∈ b, 0 ≤ x ∧ x ≤ 255) ∧ b.length ≤ maxLen ∧ (b.length > 1048576 ∨ (b.length ≤ 1048576 ∧ ∃ (r : List S52) (r1 r2 : Int), readDer b = (r, r1, r2) ∧ laws_toByteS.f k b = some b ∧ laws_eqByteS.f k b b = some true ∧ laws_eqItemS.f k r r = some true ∧
    laws_heldItemS.f k (mkI 1 (lens r)) 1 = some ((1 : Int) + ((tot (lens r) r.length : Nat) : Int)) ∧ r.length ≤ 1048576 ∧ (∀ x ∈ r, x.f1.length ≤ 1048576) ∧ tot (lens r) r.length ≤ 1000000000000000))
end Go.Proofs.Ytmeobalddjembaa.GFnExactReadDer.Hand
namespace Go.Proofs.Ytmeobalddjembaa.GFnExactReadDer
open Go.RowKit Go.Proofs.YtmeobalddjembaaW.PrintWords
theorem laws_FnExactReadDer.calls (k : Nat) (A0 : Option Addr) (c0 : Nat) (l0 : List Int) (r : Bool) (w : World) (hr0 : Kd.C (Kd.int .u8) w A0 l0.length l0) (hc0 : l0.length ≤ c0) (h : Hand.LawOk k l0 r) :
    Calls Try.prog 6 #[.slice A0 l0.length c0] w fun e w' => e = .returned (.bool r) ∧ Below w.heap.size w w' := by
  obtain ⟨rfl, hb, hm, h | ⟨hl, r, r1, r2, hrd, h2, h3, h4, h6, hrl, hrb, hrt⟩⟩ := h
  · exact Hand.law_big l0 A0 c0 w h hm
  · exact Hand.law_in k l0 r r1 r2 A0 c0 w hr0 hc0 hb hl hrd h2 h3 h4 h6 hrl hrb hrt
def laws_FnExactReadDer.Pure : Prop := ∀ (l0 : List Int), l0.length ≤ maxLen → l0.length * 1 ≤ 140737488351232 → (∀ x ∈ l0, (Lit.int .u8 x).wf = true) → ∃ k, Hand.LawOk k l0 true
theorem laws_FnExactReadDer.walk (P : laws_FnExactReadDer.Pure) (a0 : Option Addr) (len0 cap0 : Nat) (z0 : List Int) (w : World) (w0 : (a0 = none ∧ len0 = 0 ∧ cap0 = 0 ∧ z0 = []) ∨ ∃ x, a0 = some x ∧ len0 ≤ cap0 ∧ cap0 ≤ maxLen ∧ z0.length = cap0 ∧ (∀ i, i < z0.length → w.cell? (x.add i) = some (.int .u8 (z0.getD i 0))) ∧ ∀ n ∈ z0, (Lit.int .u8 n).wf = true) (y0 : len0 * 1 ≤ 140737488351232) :
    Calls Try.prog 6 #[.slice a0 len0 cap0] w fun e w' => e = .returned (.bool true) ∧ Below w.heap.size w w' := by
  obtain ⟨l0, rfl, hr0, hm0, hw0, hc0⟩ := ReadsInt.ofRowC w0
  obtain ⟨k, h⟩ := P l0 hm0 y0 hw0
  exact laws_FnExactReadDer.calls k _ _ l0 true w (Kd.C_of_reads (d := (0 : Int)) (h1 := fun _ => rfl) hr0) hc0 h
end Go.Proofs.Ytmeobalddjembaa.GFnExactReadDer
