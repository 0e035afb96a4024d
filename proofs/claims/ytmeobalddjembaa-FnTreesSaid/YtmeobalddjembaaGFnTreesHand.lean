import Derived.Test.YtmeobalddjembaaGFnTreesSame
import Derived.Test.YtmeobalddjembaaGFnTreesWDer
import Derived.Test.YtmeobalddjembaaGFnTreesReader
import Derived.Test.YtmeobalddjembaaGFnTreesPartHand
namespace Go.Proofs.Ytmeobalddjembaa.GFnTrees.Hand
open Go.RowKit Go.Proofs.YtmeobalddjembaaW.PrintWords Go.Proofs.YtmeobalddjembaaW.PrintLast Go.Proofs.YtmeobalddjembaaW.PrintMore
set_option linter.unusedVariables false
set_option linter.unusedSimpArgs false
theorem kB_C' {w : World} {base n c : Nat} {ok : Nat → Prop} {A : Option Addr} {xs : List (S52 × Value)} {r : List S52} (h : kB.R 52 w base ok (.slice A n c) xs) (hr : xs.map (·.1) = r) : Kd.C k52 w A r.length r ∧ r.length ≤ c := by
  subst hr
  have h1 := k52_of_kB h
  have h2 := (Kd.R_reads' h)
  rw [List.length_map]
  exact ⟨h1, by omega⟩
/-- What is asked of each tree that may be drawn. -/
structure TF (k : Nat) (l : List S52) : Prop where
  h300 : l.length ≤ 300
  h1 : 1 ≤ l.length
  hkb : ∀ j : Nat, j < l.length → 0 ≤ (rd_T52 l (j : Int)).f2 ∧ (rd_T52 l (j : Int)).f2 ≤ 300
  hbb : ∀ j : Nat, j < l.length → (rd_T52 l (j : Int)).f1.length ≤ 1048576
  ht : impl_TreeOk.f k l = some true
  hs : sk l 13 0 = some l.length
  hw : (writeDer l true = ([], false) ∧ 3 < l.length) ∨ (∃ d, writeDer l true = (d, true) ∧ (∀ x ∈ d, 0 ≤ x ∧ x ≤ 255) ∧ readDer d = (l, 0, 0))
  hc : ∃ (ks : List Int) (made : Bool) (pl : Nat → Nat), impl_Children.f k l 0 = some (ks, made) ∧ ks.length ≤ 300 ∧ pl 0 = 1 ∧
    (∀ i : Nat, i < ks.length → rd ks (i : Int) = (pl i : Int) ∧ pl i ≤ pl (i + 1) ∧ pl (i + 1) ≤ l.length ∧ pl i < l.length ∧ sk l 13 (pl i) = some (pl (i + 1)) ∧ impl_TreeOk.f k (partL l (pl i) (pl (i + 1))) = some true) ∧
    ((made = true ∧ pl ks.length = l.length) ∨ (made = false ∧ l.length = 1 ∧ ks = []))
  hp : partL l 0 l.length = l
set_option maxHeartbeats 8000000 in
set_option maxRecDepth 100000 in
theorem law_in (b : List Int) (A0 : Option Addr) (c0 : Nat) (w : World) (hr0 : Kd.C (Kd.int .u8) w A0 b.length b) (hc0 : b.length ≤ c0) (hl : b.length ≤ 1048576) (htf : ∀ l, DT 3 l → ∃ k, TF k l) :
    Calls Try.prog 7 #[.slice A0 b.length c0] w fun e w' => e = .returned (.bool true) ∧ Below w.heap.size w w' := by
  have HR0 := Aside0.mk hr0
  have HTF := Aside0.mk htf
  clear hr0 htf
  have HBIG : Aside0 (laws_big.f b = some false) := ⟨by unfold laws_big.f; rw [decide_eq_false (by omega)]⟩
  go_enter Try.func7, Try.ntmps7
  go_wp2_with fail
  refine (laws_big.calls A0 c0 b false w HR0.out hc0 HBIG.out).mono ?_
  rintro ex w1 ⟨rfl, ⟨nd, rfl⟩⟩
  have HB1 : Aside0 (Below w.heap.size w (w.drewN nd)) := ⟨pw_below_drewN (Below.refl _ _) nd⟩
  generalize w.drewN nd = w1 at HB1 ⊢
  go_wp2_with fail
  refine (DrawTree_calls b hl A0 c0 w1 (Kd.C_below HR0.out HB1.out) hc0).mono ?_
  rintro ex w2 ⟨A, c, ys, l, rfl, hy, hdt, hb, ho⟩
  have HB2 : Aside0 (Below w.heap.size w w2) := ⟨below_then HB1.out HB1.out.size hb⟩
  obtain ⟨k, hT⟩ := HTF.out l hdt
  have T := Aside0.mk hT
  clear hT
  have HL := Aside0.mk (kB_C' ho hy)
  have hl300 := T.out.h300
  have hlc := HL.out.2
  clear hb ho hy hdt HTF ys
  go_wp2_with fail
  refine (WriteDer_calls l A c k true w2 HL.out.1 hlc (by omega) T.out.hbb T.out.ht (fun _ => ⟨T.out.h300, T.out.hkb, T.out.hs⟩)).mono ?_
  rintro ex w3 hW
  rcases T.out.hw with ⟨hw, h3⟩ | ⟨d, hw, hd, hrd⟩
  · rw [hw] at hW
    obtain ⟨A3, c3, rfl, _, hb⟩ := hW
    have HB3 : Aside0 (Below w.heap.size w w3) := ⟨below_then HB2.out HB2.out.size hb⟩
    have HL3 := Aside0.mk (Kd.C_below HL.out.1 hb)
    have hg : decide ((l.length : Int) > 3) = true := decide_eq_true (by omega)
    clear hb hw
    go_wp2_with fail
    refine (impl_TreeOk.calls k A c l true w3 HL3.out hlc T.out.ht).mono ?_
    rintro ex w4 ⟨rfl, hb⟩
    have HB4 : Aside0 (Below w.heap.size w w4) := ⟨below_then HB3.out HB3.out.size hb⟩
    clear hb
    go_wp2
    go_ret
    exact ⟨rfl, HB4.out⟩
  rw [hw] at hW
  obtain ⟨A3, c3, rfl, ho, hb⟩ := hW
  have HB3 : Aside0 (Below w.heap.size w w3) := ⟨below_then HB2.out HB2.out.size hb⟩
  have HL3 := Aside0.mk (Kd.C_below HL.out.1 hb)
  have HD3 := Aside0.mk (Kd.R_reads' ho)
  have HDB := Aside0.mk hd
  have HRD := Aside0.mk hrd
  clear hb hw ho hd hrd HL
  go_wp2_with fail
  refine (ReadDer_calls d A3 c3 w3 HD3.out.2.2 HD3.out.2.1 HDB.out).mono ?_
  rintro ex w4 ⟨A4, c4, zs, h1, h2, ho, hn, hb⟩
  rw [HRD.out] at h1 h2
  have hzl : zs.length = l.length := by
    have : zs.map (·.1) = l := h2
    rw [← this, List.length_map]
  rw [hzl] at h1
  subst h1
  have HB4 : Aside0 (Below w.heap.size w w4) := ⟨below_then HB3.out HB3.out.size hb⟩
  have HL4 := Aside0.mk (Kd.C_below HL3.out hb)
  have HZ4 := Aside0.mk (kB_C' ho h2)
  have hz4 := HZ4.out.2
  clear hb ho hn h2 hzl
  go_wp2_with fail
  refine (sameTree_calls l (by omega) A4 c4 A c w4 HZ4.out.1 hz4 HL4.out hlc).mono ?_
  rintro ex w5 ⟨rfl, ⟨nd5, rfl⟩⟩
  have HB5 := Aside0.mk (pw_below_drewN HB4.out nd5)
  have HL5 : Aside0 (Kd.C k52 (w4.drewN nd5) A l.length l) := ⟨Kd.C_below HL4.out (pw_below_drewN (Below.refl _ _) nd5)⟩
  clear HZ4 hz4
  generalize w4.drewN nd5 = w5 at HB5 HL5 ⊢
  go_wp2_with fail
  refine (impl_TreeOk.calls k A c l true w5 HL5.out hlc T.out.ht).mono ?_
  rintro ex w6 ⟨rfl, hb⟩
  have HB6 : Aside0 (Below w.heap.size w w6) := ⟨below_then HB5.out HB5.out.size hb⟩
  have HL6 := Aside0.mk (Kd.C_below HL5.out hb)
  clear hb
  obtain ⟨ks, made, pl, hch, hk300, hpl0, hpl, hend⟩ := T.out.hc
  have HCH := Aside0.mk hch
  have HPL0 := Aside0.mk hpl0
  have HPL := Aside0.mk hpl
  have HEND := Aside0.mk hend
  clear hch hpl0 hpl hend
  go_wp2_with fail
  refine (impl_Children.calls k A c l 0 ks made w6 HL6.out hlc HCH.out).mono ?_
  rintro ex w7 ⟨v7, rfl, ho, hb⟩
  obtain ⟨A7, c7, rfl⟩ := Kd.R_slice ho
  have HB7 : Aside0 (Below w.heap.size w w7) := ⟨below_then HB6.out HB6.out.size hb⟩
  have HL7 := Aside0.mk (Kd.C_below HL6.out hb)
  have HK7 := Aside0.mk (Kd.R_reads' ho)
  clear hb ho
  go_wp2_with fail
  go_loopg [11, 12] ks.length (fun gk v11 v12 wr => ∃ i : Nat, i + gk = ks.length ∧ v11 = .int .i64 (pl i : Int) ∧ v12 = .int .i64 (i : Int) ∧ Aside0 (Below w7.heap.size w7 wr))
  case atStart => exact ⟨0, by omega, congrArg (Value.int .i64) (by rw [HPL0.out]; rfl), rfl, ⟨Below.refl _ _⟩⟩
  case round =>
    obtain ⟨i, hi, rfl, rfl, HBR⟩ := hrel
    by_cases cc : (i : Int) < (ks.length : Int)
    · have p0 : (0 : Int) ≤ (i : Int) := by omega
      obtain ⟨h1, h2, h3, h4, h5, h6⟩ := HPL.out i (by omega)
      have HS5 := Aside0.mk h5
      have HS6 := Aside0.mk h6
      obtain ⟨adk, ek, hcell⟩ := Kd.at_int (Kd.C_below HK7.out.2.2 HBR.out) (i : Int) p0 cc
      rw [h1, Int.toNat_natCast] at hcell
      cases ek
      have ht : ((i : Int)).toNat = i := Int.toNat_natCast i
      have HLR := Aside0.mk (Kd.C_below HL7.out HBR.out)
      clear h1 h5 h6
      go_wp2_with fail
      refine (Part_true l A c (pl i) (pl (i + 1)) k wr HLR.out hlc (by omega) T.out.hkb T.out.hbb T.out.ht h4 HS5.out).mono ?_
      rintro ex w8 ⟨A8, c8, xs, rfl, ho, hf, hn, hb⟩
      have HB8 : Aside0 (Below w7.heap.size w7 w8) := ⟨below_then HBR.out HBR.out.size hb⟩
      have hxl : xs.length = pl (i + 1) - pl i := by rw [← part_length l, ← hf, List.length_map]
      have HX8 := Aside0.mk (kB_C' ho hf)
      have hcell8 : w8.cell? (adk.add i) = some (.int .i64 (pl i : Int)) := by
        obtain ⟨ad', e', h'⟩ := Kd.at_int (Kd.C_below HK7.out.2.2 HB8.out) (i : Int) p0 cc
        cases e'
        rw [(HPL.out i (by omega)).1, Int.toNat_natCast] at h'
        exact h'
      rw [hxl]
      have hx8 := HX8.out.2
      rw [part_length] at hx8
      have HP8 : Aside0 (Kd.C k52 w8 A8 (pl (i + 1) - pl i) (partL l (pl i) (pl (i + 1)))) := ⟨by have := HX8.out.1; rw [part_length] at this; exact this⟩
      have HTC : Aside0 (Calls Try.prog 13 #[.slice A8 (pl (i + 1) - pl i) c8] w8 fun e w' => e = .returned (.bool true) ∧ Below w8.heap.size w8 w') := ⟨by
        have := impl_TreeOk.calls k A8 c8 (partL l (pl i) (pl (i + 1))) true w8 HX8.out.1 HX8.out.2 HS6.out
        rw [part_length] at this
        exact this⟩
      clear ho hf hn hb hcell hxl HX8
      go_wp2_with fail
      refine HTC.out.mono ?_
      rintro ex w9 ⟨rfl, hb⟩
      have HB9 : Aside0 (Below w7.heap.size w7 w9) := ⟨below_then HB8.out HB8.out.size hb⟩
      have hcell9 : w9.cell? (adk.add i) = some (.int .i64 (pl i : Int)) := by
        obtain ⟨ad', e', h'⟩ := Kd.at_int (Kd.C_below HK7.out.2.2 HB9.out) (i : Int) p0 cc
        cases e'
        rw [(HPL.out i (by omega)).1, Int.toNat_natCast] at h'
        exact h'
      have hsum : IntKind.i64.wrap ((pl i : Int) + ((pl (i + 1) - pl i : Nat) : Int)) = (pl (i + 1) : Int) := by rw [IntKind.wrap_i64]; omega
      clear hb hcell8 HTC
      go_wp2
      obtain ⟨q, rfl⟩ : ∃ q, gk = q + 1 := ⟨gk - 1, by omega⟩
      go_roundg q
      case measure => omega
      case rel => exact ⟨i + 1, by omega, congrArg (Value.int .i64) (by first | rfl | omega | exact hsum), congrArg (Value.int .i64) (by omega), HB9⟩
    · obtain rfl : i = ks.length := by omega
      have HLR := Aside0.mk (Kd.C_below HL7.out HBR.out)
      have hx := T.out.h1
      go_wp2_with fail
      refine (Part_true l A c 0 l.length k wr HLR.out hlc (by omega) T.out.hkb T.out.hbb T.out.ht (by omega) T.out.hs).mono ?_
      rintro ex w8 ⟨A8, c8, xs, rfl, ho, hf, hn, hb⟩
      rw [T.out.hp] at hf
      have hxl : xs.length = l.length := by rw [← hf, List.length_map]
      rw [hxl]
      have HX8 := Aside0.mk (kB_C' ho hf)
      have hx8 := HX8.out.2
      have HB8 : Aside0 (Below w.heap.size w w8) := ⟨below_then HB7.out HB7.out.size (below_then HBR.out HBR.out.size hb)⟩
      have HL8 := Aside0.mk (Kd.C_below HLR.out hb)
      clear ho hf hn hb hxl
      go_wp2_with fail
      refine (sameTree_calls l (by omega) A8 c8 A c w8 HX8.out.1 hx8 HL8.out hlc).mono ?_
      rintro ex w9 ⟨rfl, ⟨nd9, rfl⟩⟩
      have HB9 := Aside0.mk (pw_below_drewN HB8.out nd9)
      rcases HEND.out with ⟨rfl, he⟩ | ⟨rfl, he, rfl⟩
      · have hq : ((pl ks.length : Int) == (l.length : Int)) = true := beq_iff_eq.2 (by omega)
        go_wp2
        go_ret
        exact ⟨rfl, HB9.out⟩
      · have hq : ((l.length : Int) == (1 : Int)) = true := beq_iff_eq.2 (by omega)
        go_wp2
        go_ret
        exact ⟨rfl, HB9.out⟩
set_option maxHeartbeats 8000000 in
set_option maxRecDepth 100000 in
theorem law_big (b : List Int) (A0 : Option Addr) (c0 : Nat) (w : World) (hr0 : Kd.C (Kd.int .u8) w A0 b.length b) (hc0 : b.length ≤ c0) (hl : b.length > 1048576) :
    Calls Try.prog 7 #[.slice A0 b.length c0] w fun e w' => e = .returned (.bool true) ∧ Below w.heap.size w w' := by
  have HR0 := Aside0.mk hr0
  have HBIG : Aside0 (laws_big.f b = some true) := ⟨by unfold laws_big.f; rw [decide_eq_true (by omega)]⟩
  clear hr0
  go_enter Try.func7, Try.ntmps7
  go_wp2_with fail
  refine (laws_big.calls A0 c0 b true w HR0.out hc0 HBIG.out).mono ?_
  rintro ex w1 ⟨rfl, ⟨nd, rfl⟩⟩
  go_wp2
  go_ret
  exact ⟨rfl, pw_below_drewN (Below.refl _ _) nd⟩
/-- What is asked of an argument; the law then says 'true'. -/
def LawOk (k : Nat) (b : List Int) (res : Bool) : Prop := res = true ∧ (b.length > 1048576 ∨ (b.length ≤ 1048576 ∧ ∀ l, DT 3 l → ∃ k, TF k l))
end Go.Proofs.Ytmeobalddjembaa.GFnTrees.Hand
namespace Go.Proofs.Ytmeobalddjembaa.GFnTrees
open Go.RowKit Go.Proofs.YtmeobalddjembaaW.PrintWords
theorem laws_FnTrees.calls (k : Nat) (A0 : Option Addr) (c0 : Nat) (l0 : List Int) (r : Bool) (w : World) (hr0 : Kd.C (Kd.int .u8) w A0 l0.length l0) (hc0 : l0.length ≤ c0) (h : Hand.LawOk k l0 r) :
    Calls Try.prog 7 #[.slice A0 l0.length c0] w fun e w' => e = .returned (.bool r) ∧ Below w.heap.size w w' := by
  obtain ⟨rfl, h | ⟨hl, ht⟩⟩ := h
  · exact Hand.law_big l0 A0 c0 w hr0 hc0 h
  · exact Hand.law_in l0 A0 c0 w hr0 hc0 hl ht
def laws_FnTrees.Pure : Prop := ∀ (l0 : List Int), l0.length ≤ maxLen → l0.length * 1 ≤ 140737488351232 → (∀ x ∈ l0, (Lit.int .u8 x).wf = true) → ∃ k, Hand.LawOk k l0 true
theorem laws_FnTrees.walk (P : laws_FnTrees.Pure) (a0 : Option Addr) (len0 cap0 : Nat) (z0 : List Int) (w : World) (w0 : (a0 = none ∧ len0 = 0 ∧ cap0 = 0 ∧ z0 = []) ∨ ∃ x, a0 = some x ∧ len0 ≤ cap0 ∧ cap0 ≤ maxLen ∧ z0.length = cap0 ∧ (∀ i, i < z0.length → w.cell? (x.add i) = some (.int .u8 (z0.getD i 0))) ∧ ∀ n ∈ z0, (Lit.int .u8 n).wf = true) (y0 : len0 * 1 ≤ 140737488351232) :
    Calls Try.prog 7 #[.slice a0 len0 cap0] w fun e w' => e = .returned (.bool true) ∧ Below w.heap.size w w' := by
  obtain ⟨l0, rfl, hr0, hm0, hw0, hc0⟩ := ReadsInt.ofRowC w0
  obtain ⟨k, h⟩ := P l0 hm0 y0 hw0
  exact laws_FnTrees.calls k _ _ l0 true w (Kd.C_of_reads (d := (0 : Int)) (h1 := fun _ => rfl) hr0) hc0 h
end Go.Proofs.Ytmeobalddjembaa.GFnTrees
