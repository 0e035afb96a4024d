import Derived.Test.YtmeobalddjembaaGFnTreesDraw
namespace Go.Proofs.Ytmeobalddjembaa.GFnTrees.Hand
open Go.RowKit Go.Proofs.YtmeobalddjembaaW.PrintWords Go.Proofs.YtmeobalddjembaaW.PrintLast Go.Proofs.YtmeobalddjembaaW.PrintMore
set_option linter.unusedVariables false
set_option linter.unusedSimpArgs false
/-! ### laws.sameTree: function 32: of a list and one that reads the same -/
set_option maxHeartbeats 8000000 in
set_option maxRecDepth 100000 in
theorem sameTree_calls (l : List S52) (hl : l.length ≤ 1048576) (A0 : Option Addr) (c0 : Nat) (A1 : Option Addr) (c1 : Nat) (w : World) (hr0 : Kd.C k52 w A0 l.length l) (hc0 : l.length ≤ c0) (hr1 : Kd.C k52 w A1 l.length l) (hc1 : l.length ≤ c1) :
    Calls Try.prog 32 #[.slice A0 l.length c0, .slice A1 l.length c1] w fun e w' => e = .returned (.bool true) ∧ Drawn0 w w' := by
  have HR0 := Aside0.mk hr0
  have HR1 := Aside0.mk hr1
  clear hr0 hr1
  have hne : ((l.length : Int) != (l.length : Int)) = false := bne_self_eq_false _
  go_enter Try.func32, Try.ntmps32
  go_wp2
  repeat (go_quiet (fail); try go_wp2)
  go_loopg [5] (l.length + 1) (fun kq v5 w' => ∃ i : Nat, kq + i = l.length + 1 ∧ v5 = .int .i64 (i : Int) ∧ Drawn0 w w')
  case atStart => exact ⟨0, rfl, rfl, by repeat (first | exact Drawn0.refl _ | apply Drawn0.step)⟩
  case round =>
    obtain ⟨i, hk, rfl, ⟨m1, rfl⟩⟩ := hrel
    by_cases c : (i : Int) < (l.length : Int)
    · have cb : decide ((i : Int) < (l.length : Int)) = true := decide_eq_true c
      have p0 : (0 : Int) ≤ (i : Int) := by omega
      have w1 : IntKind.i64.wrap ((i : Int) + 1) = ((i + 1 : Nat) : Int) := by rw [IntKind.wrap_i64]; omega
      obtain ⟨ad, B0, d0, e0, x0, x1, x2, hl0, hi0⟩ := at_T52 HR0.out (i : Int) p0 c
      cases e0
      obtain ⟨ad', B1, d1, e1, y0, y1, y2, hl1, hi1⟩ := at_T52 HR1.out (i : Int) p0 c
      cases e1
      have hcv0 : ∀ n, _ := fun n => Kd.C_string (w := w.drewN n) (P := Try.prog) (A := B0) (c := d0) Try.underlying38 Try.underlying5 Try.underlying9 hi0
      have hcv1 : ∀ n, _ := fun n => Kd.C_string (w := w.drewN n) (P := Try.prog) (A := B1) (c := d1) Try.underlying38 Try.underlying5 Try.underlying9 hi1
      have ht : ((i : Int)).toNat = i := Int.toNat_natCast i
      simp only [Int.toNat_natCast] at x0 x1 x2 y0 y1 y2
      generalize (rd_T52 l (i : Int)) = x at x0 x1 x2 y0 y1 y2 hcv0 hcv1 hl0 hi0 hl1 hi1
      have n0 : (x.f0 != x.f0) = false := bne_self_eq_false _
      have n2 : (x.f2 != x.f2) = false := bne_self_eq_false _
      have n1 : ((strOfNums x.f1).toList != (strOfNums x.f1).toList) = false := bne_self_eq_false _
      have HI0 := Aside0.mk hi0
      have HI1 := Aside0.mk hi1
      clear hi0 hi1
      go_wp2
      repeat (go_quiet (fail); try go_wp2)
      obtain ⟨q, rfl⟩ : ∃ q, gk = q + 1 := ⟨gk - 1, by omega⟩
      go_roundg q
      case measure => omega
      case rel => exact ⟨i + 1, by omega, congrArg (Value.int .i64) (by first | rfl | exact w1), by repeat (first | exact Drawn0.refl _ | apply Drawn0.step)⟩
    · have cb : decide ((i : Int) < (l.length : Int)) = false := decide_eq_false c
      go_wp2
      repeat (go_quiet (fail); try go_wp2)
      go_ret
      exact ⟨rfl, by repeat (first | exact Drawn0.refl _ | apply Drawn0.step)⟩
/-! ### spec.DrawTree: function 30 -/
theorem new_some (l : List Int) (hl : l.length ≤ 1048576) : ∃ k s, spec_l1New.f k l = some (l, 0, s) := by
  have H : ∀ (d i : Nat) (s : Int), i + d = 4000 → ∃ k s', spec_l1New.l0 k l s (i : Int) = some (l, 0, s') := by
    intro d
    induction d with
    | zero =>
      intro i s hi
      refine ⟨1, s, ?_⟩
      rw [spec_l1New.l0.eq_2]
      by_cases c : (i : Int) < (l.length : Int)
      · rw [if_pos c, if_neg (by omega)]
      · rw [if_neg c]
    | succ d ih =>
      intro i s hi
      by_cases c : (i : Int) < (l.length : Int)
      · obtain ⟨k, s', h⟩ := ih (i + 1) (Go.bits .and .i64 (wrap64 ((wrap64 ((wrap64 (s * 131)) + (wrap64 (rd l (i : Int))))) + 7)) 1073741823) (by omega)
        refine ⟨k + 1, s', ?_⟩
        rw [spec_l1New.l0.eq_2, if_pos c, if_pos (by omega), if_pos (by omega), Base.w64 (x := (i : Int) + 1) (by omega) (by omega)]
        exact h
      · exact ⟨1, s, by rw [spec_l1New.l0.eq_2, if_neg c]⟩
  obtain ⟨k, s, h⟩ := H 4000 0 (wrap64 (148148 + (l.length : Int))) rfl
  exact ⟨k, s, h⟩
def DrawPost (w : World) (ex : Ending) (w' : World) : Prop :=
  ∃ (A : Option Addr) (c : Nat) (ys : List (S52 × Value)) (l : List S52), ex = .returned (.slice A l.length c) ∧ ys.map (·.1) = l ∧ DT 3 l ∧ Below w.heap.size w w' ∧ kB.R 52 w' w.heap.size (fun _ => True) (.slice A l.length c) ys
set_option maxHeartbeats 8000000 in
set_option maxRecDepth 100000 in
theorem DrawTree_calls (b : List Int) (hl : b.length ≤ 1048576) (A0 : Option Addr) (c0 : Nat) (w : World) (hr0 : Kd.C (Kd.int .u8) w A0 b.length b) (hc0 : b.length ≤ c0) :
    Calls Try.prog 30 #[.slice A0 b.length c0] w (DrawPost w) := by
  have HR0 := Aside0.mk hr0
  clear hr0
  obtain ⟨k, s, hnew⟩ := new_some b hl
  have HN := Aside0.mk hnew
  clear hnew
  go_enter Try.func30, Try.ntmps30
  go_wp2_with fail
  refine (spec_l1New.calls k A0 c0 b b 0 s w w (Below.refl _ _) HR0.out hc0 HN.out).mono ?_
  rintro ex w1 ⟨g, rfl, hI, hB, _⟩
  have HI := Aside0.mk hI
  have HB := Aside0.mk hB
  clear hI hB
  go_wp2_with fail
  refine (tree_calls b w g 3 (Nat.le_refl _) w1 0 s none 0 [] HI.out ⟨hl, by omega, by omega⟩ HB.out (Kd.R_nil _ _ _ _ _) (by decide)).mono ?_
  rintro ex w2 ⟨A, c, ys, p, h, rfl, hdt, hyl, hi, hat, hb, ho⟩
  have HDT := Aside0.mk hdt
  have HB2 := Aside0.mk hb
  have HO2 := Aside0.mk ho
  clear hdt hb ho hi hat
  go_wp2_with fail
  go_ret
  refine ⟨A, c, ys, ys.map (·.1), by rw [List.length_map]; rfl, rfl, HDT.out, HB2.out, ?_⟩
  rw [List.length_map]
  exact Kd.R_mono HO2.out (fun _ _ => trivial)
end Go.Proofs.Ytmeobalddjembaa.GFnTrees.Hand
