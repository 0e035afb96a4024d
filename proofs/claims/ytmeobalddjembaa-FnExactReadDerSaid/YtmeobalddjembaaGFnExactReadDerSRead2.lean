import Derived.Test.YtmeobalddjembaaGFnExactReadDerSReader
namespace Go.Proofs.Ytmeobalddjembaa.GFnExactReadDer.Hand
open Go.RowKit Go.Proofs.YtmeobalddjembaaW.PrintWords Go.Proofs.YtmeobalddjembaaW.PrintLast Go.Proofs.YtmeobalddjembaaW.PrintMore
set_option linter.unusedVariables false
set_option linter.unusedSimpArgs false
/-! ### spec.ReadDer: function 24 -/
set_option maxHeartbeats 4000000 in
set_option maxRecDepth 100000 in
theorem sread_short (c0 c : Nat) (A : Option Addr) (place i e dp : Int) (w : World) (hie : e ≤ i) :
    Calls Try.prog 52 #[.agg #[.slice none 0 c0, .slice A 0 c, .int .i64 0, .int .i64 place], .int .i64 i, .int .i64 e, .int .i64 dp] w fun ex w' => ex = .returned (.tuple #[.agg #[.slice none 0 c0, .slice A 0 c, .int .i64 2, .int .i64 i], .int .i64 i]) ∧ Below w.heap.size w w' := by
  have hu := Try.underlying68
  go_enter Try.func52, Try.ntmps52
  go_wp2_with fail
  refine (l7Fail_calls none A 0 0 c0 c 0 place 2 i _).mono ?_
  rintro ex w1 ⟨rfl, hb⟩
  have k7 := blk_al_new (w.alloc (.cells #[.slice none 0 c0, .slice A 0 c, .int .i64 0, .int .i64 place] 68)) (.cells #[.slice none 0 0, .slice none 0 0, .int .i64 0, .int .i64 0] 68)
  rw [size_al] at k7
  have k8 := (hb.block (w.heap.size + 1) (by rw [size_al, size_al]; omega)).trans k7
  clear k7
  obtain ⟨⟨x0, y0, x1, y1, x2, y2, x3, y3⟩, hk⟩ := four_set k8 (.slice none 0 c0) (.slice A 0 c) (.int .i64 2) (.int .i64 i)
  have HK := Aside0.mk hk
  have HB := Aside0.mk (below_then (below_alloc (below_alloc (Below.refl _ _) _) _) (by rw [size_al, size_al]; omega) hb)
  clear hk k8 hb
  go_wp2
  refine bodyPost_ret (results_ct rfl _ _ (w.heap.size + 1) 68 #[.slice none 0 c0, .slice A 0 c, .int .i64 2, .int .i64 i] (0, 0) _ rfl HK.out Try.underlying68 rfl (by kernel_rfl)) rfl ?_
  exact ⟨rfl, below_set (below_set (below_set (below_set HB.out (Nat.le_succ _)) (Nat.le_succ _)) (Nat.le_succ _)) (Nat.le_succ _)⟩
theorem derPost_lit {w w' : World} {b : List Int} {code place : Int} {ex : Ending} (h : readDer b = ([], code, place)) (he : ex = .returned (.tuple #[.slice (some ⟨w.heap.size, 0, none⟩) 0 0, .int .i64 code, .int .i64 place])) (hk : w'.heap[w.heap.size]? = some (.cells #[] 52 (0, 0))) (hb : Below w.heap.size w w') : DerPost w b ex w' :=
  ⟨some ⟨w.heap.size, 0, none⟩, 0, [], by rw [h, he]; rfl, by rw [h]; rfl, kB_of_raw (xs := []) (cap := 0) trivial (Nat.le_refl _) hk (Nat.le_refl _) (by decide) rfl (fun j hj => by simp at hj), List.nodup_nil, hb⟩
set_option maxHeartbeats 4000000 in
set_option maxRecDepth 100000 in
theorem SReadDer_calls (b : List Int) (A0 : Option Addr) (c0 : Nat) (w : World) (hr0 : Kd.C (Kd.int .u8) w A0 b.length b) (hc0 : b.length ≤ c0) (hb : ∀ x ∈ b, 0 ≤ x ∧ x ≤ 255) :
    Calls Try.prog 24 #[.slice A0 b.length c0] w (DerPost w b) := by
  by_cases c1 : b.length > 4000
  · have HP := Aside0.mk (derPost_lit (w := w) (w' := w.alloc (.cells #[] 52)) (b := b) (code := 1) (place := 0) (by unfold readDer; rw [if_pos c1]) rfl (blk_al_new _ _) (below_alloc (Below.refl _ _) _))
    clear hr0 hb
    go_enter Try.func24, Try.ntmps24
    go_wp2
    go_ret3
    exact HP.out
  have hsz := size_al w (.cells #[] 52)
  have hcall : Calls Try.prog 52 #[.agg #[.slice A0 b.length c0, .slice none 0 0, .int .i64 0, .int .i64 0], .int .i64 0, .int .i64 (b.length : Int), .int .i64 0] (w.alloc (.cells #[] 52)) (SPost w (w.alloc (.cells #[] 52)) (.slice A0 b.length c0) 0 (fun _ => True) (.slice none 0 0) [] (rdItem b 13 b.length 0)) := by
    cases A0 with
    | none =>
      have hbe : b = [] := by
        cases b with
        | nil => rfl
        | cons x t =>
          obtain ⟨ad, e, _⟩ := hr0.2.2 (by simp)
          cases e
      subst hbe
      refine (sread_short c0 0 none 0 0 0 0 _ (by omega)).mono ?_
      rintro ex w' ⟨rfl, h2⟩
      exact sPost_error (a1 := 2) (a2 := 0) rfl rfl (grown_of_below h2 _)
    | some ad => exact l7Read_calls b ad c0 w hr0 hc0 hb (by omega) 13 (Nat.le_refl _) 0 b.length _ none 0 0 (fun _ => True) [] (Nat.le_refl _) (by omega) (below_alloc (Below.refl _ _) _) (fun _ _ => trivial) (Kd.R_nil _ _ _ _ _) List.nodup_nil (by simp; omega)
  have HCALL := Aside0.mk hcall
  have HSZ := Aside0.mk hsz
  clear hcall hsz
  have hu := Try.underlying68
  cases hx : rdItem b 13 b.length 0 with
  | error x =>
    obtain ⟨xc, xp⟩ := x
    have hcode : xc ≠ 0 := rdItem_code hb 13 b.length 0 (xc, xp) hx
    rw [hx] at HCALL
    have HR : Aside0 (readDer b = ([], xc, xp)) := ⟨by unfold readDer; rw [if_neg c1, hx]⟩
    clear hx hr0 hb
    go_enter Try.func24, Try.ntmps24
    go_wp2_with fail
    refine HCALL.out.mono ?_
    rintro ex w1 ⟨hgr, A, n, c, p, rfl⟩
    have HB1 : Aside0 (Below w.heap.size w w1) := ⟨below_grown' (below_alloc (Below.refl _ _) _) hgr (fun k e => by simp [Value.ownBlock] at e)⟩
    have k1 : w1.heap[w.heap.size]? = some (.cells #[] 52 (0, 0)) := (hgr.block w.heap.size (by rw [HSZ.out]; omega) (by simp [Value.ownBlock])).trans (blk_al_new _ _)
    have HK1 := Aside0.mk k1
    clear hgr k1
    go_wp2
    go_quiet (fail)
    go_wp2
    go_ret3
    exact derPost_lit HR.out rfl (blk_al _ HK1.out) (pw_below_drewN (below_alloc HB1.out _) _)
  | ok y =>
    obtain ⟨l, nx⟩ := y
    have hle := rdItem_ok hb 13 b.length 0 l nx hx
    rw [hx] at HCALL
    have HX := Aside0.mk hx
    clear hx hr0 hb
    go_enter Try.func24, Try.ntmps24
    go_wp2_with fail
    refine HCALL.out.mono ?_
    rintro ex w1 ⟨hgr, A, c, ys, rfl, hz, h2, h3, h7⟩
    have hz : ys.map (·.1) = l := hz
    rw [List.nil_append] at h2 h3 ⊢
    have hyl : ys.length = l.length := by rw [← hz, List.length_map]
    obtain ⟨N, hN⟩ : ∃ N, ys.length = N := ⟨_, rfl⟩
    rw [hN] at hyl ⊢
    have HB1 : Aside0 (Below w.heap.size w w1) := ⟨below_grown' (below_alloc (Below.refl _ _) _) hgr (fun k e => by simp [Value.ownBlock] at e)⟩
    have k1 : w1.heap[w.heap.size]? = some (.cells #[] 52 (0, 0)) := (hgr.block w.heap.size (by rw [HSZ.out]; omega) (by simp [Value.ownBlock])).trans (blk_al_new _ _)
    have HK1 := Aside0.mk k1
    have HY : Aside0 (N = l.length) := ⟨hyl⟩
    have HN := Aside0.mk hN
    have H2 := Aside0.mk h2
    have H3 := Aside0.mk h3
    have HZ := Aside0.mk hz
    clear h2 h3 h7 hz hyl hN hgr k1
    by_cases c2 : N > 300
    · have HR : Aside0 (readDer b = ([], 7, 0)) := ⟨by unfold readDer; rw [if_neg c1, HX.out]; show (if l.length > 300 then _ else _) = _; rw [if_pos (by rw [← HY.out]; exact c2)]⟩
      go_wp2
      go_ret3
      exact derPost_lit HR.out rfl (blk_al _ HK1.out) (below_alloc HB1.out _)
    · by_cases c3 : nx < b.length
      · have HR : Aside0 (readDer b = ([], 5, (nx : Int))) := ⟨by unfold readDer; rw [if_neg c1, HX.out]; show (if l.length > 300 then _ else if nx < b.length then _ else _) = _; rw [if_neg (by rw [← HY.out]; exact c2), if_pos c3]⟩
        go_wp2
        go_ret3
        exact derPost_lit HR.out rfl (blk_al _ HK1.out) (below_alloc HB1.out _)
      · have HR : Aside0 (readDer b = (l, 0, 0)) := ⟨by unfold readDer; rw [if_neg c1, HX.out]; show (if l.length > 300 then _ else if nx < b.length then _ else _) = _; rw [if_neg (by rw [← HY.out]; exact c2), if_neg c3]⟩
        go_wp2
        go_ret3
        exact ⟨A, c, ys, by rw [HR.out, HN.out]; rfl, by rw [HR.out]; exact HZ.out, Kd.R_alloc H2.out _, H3.out, below_alloc HB1.out _⟩
end Go.Proofs.Ytmeobalddjembaa.GFnExactReadDer.Hand
