import Derived.Test.YtmeobalddjembaaGFnStrictBytes
namespace Go.Proofs.Ytmeobalddjembaa.GFnStrict.Hand
open Go.RowKit Go.Proofs.YtmeobalddjembaaW.PrintWords Go.Proofs.YtmeobalddjembaaW.PrintLast Go.Proofs.YtmeobalddjembaaW.PrintMore
set_option linter.unusedVariables false
set_option linter.unusedSimpArgs false
/-! ### impl.WriteDer: function 31 -/
def sm (l : List S52) : Nat → Nat
  | 0 => 0
  | i + 1 => sm l i + (rd_T52 l (i : Int)).f1.length
theorem sm_wt (l : List S52) : ∀ i, wt l 0 i = sm l i + 4 * i
  | 0 => rfl
  | i + 1 => by
    rw [wt_split l (Nat.zero_le i) (Nat.le_succ i), wt_one, sm_wt l i]
    simp only [sm]
    omega
theorem sm_le {l : List S52} (hb : ∀ j : Nat, j < l.length → (rd_T52 l (j : Int)).f1.length ≤ 1048576) : ∀ i, i ≤ l.length → sm l i ≤ i * 1048576
  | 0, _ => by simp [sm]
  | i + 1, hi => by
    have := sm_le hb i (by omega)
    have := hb i (by omega)
    simp only [sm]
    omega
def writeDer (l : List S52) (t : Bool) : List Int × Bool := if t = true ∧ sm l l.length ≤ 4000 ∧ (der l 13 0).length ≤ 4000 then (der l 13 0, true) else ([], false)
def WPost (w : World) (r : List Int × Bool) (ex : Ending) (w' : World) : Prop := ∃ (A : Option Addr) (c : Nat), ex = .returned (.tuple #[.slice A r.1.length c, .bool r.2]) ∧ (Kd.int .u8).R 5 w' w.heap.size (fun _ => True) (.slice A r.1.length c) r.1 ∧ Below w.heap.size w w'
set_option maxHeartbeats 4000000 in
set_option maxRecDepth 100000 in
theorem WriteDer_calls (l : List S52) (A0 : Option Addr) (c0 k : Nat) (t : Bool) (w : World) (hr0 : Kd.C k52 w A0 l.length l) (hc0 : l.length ≤ c0) (hl : l.length ≤ 1048576) (hbb : ∀ j : Nat, j < l.length → (rd_T52 l (j : Int)).f1.length ≤ 1048576) (ht : impl_TreeOk.f k l = some t)
    (hg : t = true → l.length ≤ 300 ∧ (∀ j : Nat, j < l.length → 0 ≤ (rd_T52 l (j : Int)).f2 ∧ (rd_T52 l (j : Int)).f2 ≤ 300) ∧ sk l 13 0 = some l.length) :
    Calls Try.prog 31 #[.slice A0 l.length c0] w (WPost w (writeDer l t)) := by
  have HR := Aside0.mk hr0
  have HT := Aside0.mk ht
  have HG := Aside0.mk hg
  have HBB := Aside0.mk hbb
  have HSL := Aside0.mk (sm_le hbb)
  have hu52 := Try.underlying52
  have hu63 := Try.underlying63
  clear hr0 ht hg hbb
  have hn0 : (0 : Int) ≤ (l.length : Int) := by omega
  have HTC := Aside0.mk (fun (W : World) (hB : Below w.heap.size w W) => impl_TreeOk.calls k A0 c0 l t W (Kd.C_below HR.out hB) hc0 HT.out)
  go_enter Try.func31, Try.ntmps31
  go_wp2
  go_loopg [4, 12] l.length (fun gk v4 v12 wr => ∃ (i S : Nat), i + gk = l.length ∧ v12 = .int .i64 (i : Int) ∧ v4 = .int .i64 (S : Int) ∧ S ≤ i * 1048576 ∧ Aside0 (S = sm l i) ∧ Aside0 (Below w.heap.size w wr))
  case atStart => exact ⟨0, 0, by omega, rfl, rfl, by omega, ⟨rfl⟩, ⟨Below.refl _ _⟩⟩
  case round =>
    obtain ⟨i, S, hi, rfl, rfl, hS, HSM, HBr⟩ := hrel
    by_cases hlt : (i : Int) < (l.length : Int)
    · obtain ⟨ad, A1, c1, rfl, h0, h1, h2, hl1, g1⟩ := at_T52 HR.out (i : Int) (by omega) hlt
      replace h0 := pw_cell_below HBr.out h0
      replace h1 := pw_cell_below HBr.out h1
      replace h2 := pw_cell_below HBr.out h2
      rw [Int.toNat_natCast] at h0 h1 h2
      have hbi := HBB.out i (by omega)
      have hsm : S + (rd_T52 l (i : Int)).f1.length = sm l (i + 1) := by
        have := HSM.out
        simp only [sm]
        omega
      have HSM2 := Aside0.mk hsm
      obtain ⟨nb, hnb⟩ : ∃ nb, (rd_T52 l (i : Int)).f1.length = nb := ⟨_, rfl⟩
      rw [hnb] at HSM2 hbi h1
      generalize (rd_T52 l (i : Int)).f0 = u0 at h0
      generalize (rd_T52 l (i : Int)).f2 = u2 at h2
      have pi0 : (0 : Int) ≤ (i : Int) := by omega
      have HB2 := Aside0.mk (below_alloc HBr.out (.cells #[.int .i64 u0, .slice A1 nb c1, .int .i64 u2] 52))
      clear hsm hnb g1 hl1
      go_wp2
      go_roundg (l.length - (i + 1))
      case measure => omega
      case rel => exact ⟨i + 1, S + nb, by omega, rfl, by rw [Int.natCast_add], by omega, ⟨HSM2.out⟩, HB2⟩
    · obtain rfl : i = l.length := by omega
      have hSb : S ≤ 1099511627776 := by omega
      cases t with
      | false =>
        have HP : Aside0 (writeDer l false = ([], false)) := ⟨by unfold writeDer; rw [if_neg (by simp)]⟩
        go_wp2_with fail
        refine (HTC.out wr HBr.out).mono ?_
        rintro ex w1 ⟨rfl, hb⟩
        have HB1 := Aside0.mk (below_then HBr.out HBr.out.size hb)
        clear hb
        go_wp2
        go_ret2
        exact ⟨none, 0, by rw [HP.out]; rfl, by rw [HP.out]; exact Kd.R_nil _ _ _ _ _, HB1.out⟩
      | true =>
        obtain ⟨hm3, hkb, hs13⟩ := HG.out rfl
        by_cases c1 : S > 4000
        · have HP : Aside0 (writeDer l true = ([], false)) := ⟨by unfold writeDer; rw [if_neg (by rw [← HSM.out]; omega)]⟩
          clear hkb
          go_wp2_with fail
          refine (HTC.out wr HBr.out).mono ?_
          rintro ex w1 ⟨rfl, hb⟩
          have HB1 := Aside0.mk (below_then HBr.out HBr.out.size hb)
          clear hb
          go_wp2
          go_ret2
          exact ⟨none, 0, by rw [HP.out]; rfl, by rw [HP.out]; exact Kd.R_nil _ _ _ _ _, HB1.out⟩
        · have hwt : wt l 0 l.length ≤ 60000 := by
            rw [sm_wt, ← HSM.out]
            omega
          have HKB := Aside0.mk hkb
          have HS13 := Aside0.mk hs13
          have HWT := Aside0.mk hwt
          clear hkb hs13 hwt
          go_wp2_with fail
          refine (HTC.out wr HBr.out).mono ?_
          rintro ex w1 ⟨rfl, hb⟩
          have HB1 := Aside0.mk (below_then HBr.out HBr.out.size hb)
          clear hb
          go_wp2_with fail
          refine (nested_calls l A0 c0 w HR.out hc0 (by omega) HKB.out 13 0 l.length w1 HB1.out HS13.out).mono ?_
          rintro ex w3 ⟨Av, mv, cv, Ak, mk, ck, rfl, hM, hb⟩
          have HB3 := Aside0.mk (below_then HB1.out HB1.out.size hb)
          have HM := Aside0.mk hM
          clear hM hb
          generalize (rd_T52 l ((0 : Nat) : Int)).f0 = tag at HM ⊢
          go_wp2_with fail
          refine (bytes_calls l w (by omega) HKB.out HWT.out 13 0 l.length _ _ (fun _ => True) [.int .i64 tag, .slice Av mv cv, .slice Ak mk ck] (below_alloc HB3.out _) HS13.out (Kd.M_below HM.out (below_alloc (Below.refl _ _) _))).mono ?_
          rintro ex w4 ⟨A, c, rfl, ho, hb⟩
          have hsz := size_al w3 (.cells #[.int .i64 tag, .slice Av mv cv, .slice Ak mk ck] 63)
          have HB4 := Aside0.mk (below_then (below_alloc HB3.out (.cells #[.int .i64 tag, .slice Av mv cv, .slice Ak mk ck] 63)) (by have := HB3.out.size; rw [hsz]; omega) hb)
          have HO4 := Aside0.mk (Kd.R_lower ho (by have := HB3.out.size; rw [hsz]; omega : w.heap.size ≤ _))
          clear hsz ho hb
          obtain ⟨D, hD⟩ : ∃ D, (der l 13 0).length = D := ⟨_, rfl⟩
          have HD := Aside0.mk hD
          rw [hD] at HO4 ⊢
          clear hD
          by_cases c2 : D > 4000
          · have HP : Aside0 (writeDer l true = ([], false)) := ⟨by unfold writeDer; rw [if_neg (by rw [HD.out]; omega)]⟩
            go_wp2
            go_ret2
            exact ⟨none, 0, by rw [HP.out]; rfl, by rw [HP.out]; exact Kd.R_nil _ _ _ _ _, HB4.out⟩
          · have HP : Aside0 (writeDer l true = (der l 13 0, true)) := ⟨by unfold writeDer; rw [if_pos ⟨rfl, by rw [← HSM.out]; omega, by rw [HD.out]; omega⟩]⟩
            go_wp2
            go_ret2
            exact ⟨A, c, by rw [HP.out, HD.out]; rfl, by rw [HP.out, HD.out]; exact HO4.out, HB4.out⟩
end Go.Proofs.Ytmeobalddjembaa.GFnStrict.Hand
