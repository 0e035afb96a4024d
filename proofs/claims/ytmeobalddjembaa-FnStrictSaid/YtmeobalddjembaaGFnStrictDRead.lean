import Derived.Test.YtmeobalddjembaaGFnStrictAny
import Derived.Test.YtmeobalddjembaaGFnStrictWDer
namespace Go.Proofs.Ytmeobalddjembaa.GFnStrict.Hand
open Go.RowKit Go.Proofs.YtmeobalddjembaaW.PrintWords Go.Proofs.YtmeobalddjembaaW.PrintLast Go.Proofs.YtmeobalddjembaaW.PrintMore
set_option linter.unusedVariables false
set_option linter.unusedSimpArgs false
/-! ### spec.DrawReadDer: function 35: that it ends, and gives few bytes -/
theorem new_some (l : List Int) (hl : l.length ≤ 1048576) : ∃ k s, spec_l1New.f k l = some (l, 0, s) := by
  have H : ∀ (d i : Nat) (s : Int), i + d = 4000 → ∃ k s', spec_l1New.l0 k l s (i : Int) = some (l, 0, s') := by
    intro d
    induction d with
    | zero =>
      intro i s hi
      refine ⟨1, s, ?_⟩
      rw [spec_l1New.l0.eq_2]
      by_cases c : (i : Int) < (l.length : Int)
      · rw [if_pos c, if_neg (by omega)]
      · rw [if_neg c]
    | succ d ih =>
      intro i s hi
      by_cases c : (i : Int) < (l.length : Int)
      · obtain ⟨k, s', h⟩ := ih (i + 1) (Go.bits .and .i64 (wrap64 ((wrap64 ((wrap64 (s * 131)) + (wrap64 (rd l (i : Int))))) + 7)) 1073741823) (by omega)
        refine ⟨k + 1, s', ?_⟩
        rw [spec_l1New.l0.eq_2, if_pos c, if_pos (by omega), if_pos (by omega), Base.w64 (x := (i : Int) + 1) (by omega) (by omega)]
        exact h
      · exact ⟨1, s, by rw [spec_l1New.l0.eq_2, if_neg c]⟩
  obtain ⟨k, s, h⟩ := H 4000 0 (wrap64 (148148 + (l.length : Int))) rfl
  exact ⟨k, s, h⟩
theorem k52_of_kB {w : World} {base : Nat} {ok : Nat → Prop} {A : Option Addr} {n c : Nat} {xs : List (S52 × Value)} (h : kB.R 52 w base ok (.slice A n c) xs) : Kd.C k52 w A xs.length (xs.map (·.1)) := by
  obtain ⟨h1, h2, h3⟩ := Kd.R_reads' h
  refine ⟨by simp, by have := h3.2.1; exact this, fun hn => ?_⟩
  obtain ⟨ad, e, hc⟩ := h3.2.2 hn
  refine ⟨ad, e, fun j p hp => ?_⟩
  rw [List.getElem?_map] at hp
  cases hx : xs[j]? with
  | none => rw [hx] at hp; cases hp
  | some x =>
    rw [hx] at hp
    obtain rfl : x.1 = p := Option.some.inj hp
    obtain ⟨cs, l1, l2, l3⟩ := hc j x hx
    exact ⟨cs, l1, l2.1, l3⟩
theorem kB_C' {w : World} {base n c : Nat} {ok : Nat → Prop} {A : Option Addr} {xs : List (S52 × Value)} {r : List S52} (h : kB.R 52 w base ok (.slice A n c) xs) (hr : xs.map (·.1) = r) : Kd.C k52 w A r.length r ∧ r.length ≤ c := by
  subst hr
  have h1 := k52_of_kB h
  have h2 := (Kd.R_reads' h)
  rw [List.length_map]
  exact ⟨h1, by omega⟩
theorem u8lit (w : World) {base g : Nat} (xs : List Int) (hl : xs.length ≤ 100) (hb : base ≤ w.heap.size) (hg : g < w.heap.size) : (Kd.int .u8).R 5 (w.alloc (.cells (xs.map (Value.int .u8)).toArray 5)) base (fun k => k ≠ g) (.slice (some ⟨w.heap.size, 0, none⟩) xs.length xs.length) xs := by
  refine Kd.R_of_own (enc := Value.int .u8) (h1 := fun _ => rfl) ?_ (fun k hk => ?_)
  · have h2 := World.ownsRow_lit (base := base) (e := 5) (size := 1) w (xs.map (Value.int .u8)).toArray xs.length hb (by unfold maxLen; omega) (by simp)
    simp only [List.toList_toArray] at h2
    exact h2
  · have : w.heap.size = k := by simpa [Value.ownBlock] using hk
    omega
theorem u8_raw {w : World} {base : Nat} {ok : Nat → Prop} {v : Value} {xs : List Int} (h : (Kd.int .u8).R 5 w base ok v xs) (hne : xs ≠ []) : ∃ g cap, v = .slice (some ⟨g, 0, none⟩) xs.length cap ∧ ok g ∧ base ≤ g := by
  obtain ⟨h0, inner, ho, hr⟩ := h
  rcases ho.2 with ⟨hv, h1⟩ | ⟨g, cap, cur, hv, hbg, hg, hn', hcm, hcs, ht'⟩
  · exact absurd (List.length_eq_zero_iff.1 h1) hne
  · exact ⟨g, cap, hv, h0 g (by rw [hv]; rfl), hbg⟩
theorem below_big {l : List Int} {p : Int} (h : At l p) (s : Int) (a : Int) (h0 : 0 < a) (h1 : a ≤ 4294967296) : ∃ v p' s', spec_l1Below.f l p s a = some (v, p', s') ∧ 0 ≤ v ∧ v < a ∧ At l p' := by
  unfold spec_l1Below.f
  rw [if_neg (by omega)]
  by_cases c : a ≤ 256
  · rw [if_pos c]
    obtain ⟨b, p', s', e, r0, r1, h'⟩ := byte_some h s
    rw [e]
    simp only [Option.bind_some]
    rw [if_neg (by omega), Int.tmod_eq_emod_of_nonneg r0]
    exact ⟨_, _, _, rfl, Int.emod_nonneg _ (by omega), Int.emod_lt_of_pos _ h0, h'⟩
  · rw [if_neg c]
    obtain ⟨b1, p1, s1, e1, r1, q1, h1'⟩ := byte_some h s
    rw [e1]
    simp only [Option.bind_some]
    obtain ⟨b2, p2, s2, e2, r2, q2, h2'⟩ := byte_some h1' s1
    rw [e2]
    simp only [Option.bind_some]
    obtain ⟨b3, p3, s3, e3, r3, q3, h3'⟩ := byte_some h2' s2
    rw [e3]
    simp only [Option.bind_some]
    obtain ⟨b4, p4, s4, e4, r4, q4, h4'⟩ := byte_some h3' s3
    rw [e4]
    simp only [Option.bind_some]
    rw [if_neg (by omega), Base.w64 (x := b1 * 16777216) (by omega) (by omega), Base.w64 (x := b2 * 65536) (by omega) (by omega), Base.w64 (x := b1 * 16777216 + b2 * 65536) (by omega) (by omega), Base.w64 (x := b3 * 256) (by omega) (by omega),
      Base.w64 (x := b1 * 16777216 + b2 * 65536 + b3 * 256) (by omega) (by omega), Base.w64 (x := b1 * 16777216 + b2 * 65536 + b3 * 256 + b4) (by omega) (by omega), Int.tmod_eq_emod_of_nonneg (by omega)]
    exact ⟨_, _, _, rfl, Int.emod_nonneg _ (by omega), Int.emod_lt_of_pos _ h0, h4'⟩
/-- The bytes of any list of few items with short bodies are few. -/
def WAll : Prop := ∀ l : List S52, l.length ≤ 1000 → (∀ x ∈ l, FineX x) → ∃ k d t, spec_WriteDer.f k l = some (d, t) ∧ d.length ≤ 4000 ∧ ∀ y ∈ d, 0 ≤ y ∧ y ≤ 255
def DRPost (w : World) (ex : Ending) (w' : World) : Prop :=
  ∃ (A : Option Addr) (c n : Nat) (d : List Int), ex = .returned (.slice A n c) ∧ d.length = n ∧ n ≤ 5000 ∧ (∀ y ∈ d, 0 ≤ y ∧ y ≤ 255) ∧ Below w.heap.size w w' ∧ (Kd.int .u8).R 5 w' w.heap.size (fun _ => True) (.slice A n c) d
set_option maxHeartbeats 8000000 in
set_option maxRecDepth 100000 in
theorem DrawReadDer_calls (hW : WAll) (b : List Int) (hl : b.length ≤ 1048576) (A0 : Option Addr) (c0 : Nat) (w : World) (hr0 : Kd.C (Kd.int .u8) w A0 b.length b) (hc0 : b.length ≤ c0) :
    Calls Try.prog 35 #[.slice A0 b.length c0] w (DRPost w) := by
  have HR0 := Aside0.mk hr0
  clear hr0
  obtain ⟨k, s, hnew⟩ := new_some b hl
  have HN := Aside0.mk hnew
  clear hnew
  go_enter Try.func35, Try.ntmps35
  go_wp2_with fail
  refine (spec_l1New.calls k A0 c0 b b 0 s w w (Below.refl _ _) HR0.out hc0 HN.out).mono ?_
  rintro ex w1 ⟨g, rfl, hI, hB, _⟩
  have HI := Aside0.mk hI
  have HB := Aside0.mk hB
  clear hI hB
  go_wp2_with fail
  refine (DrawAny_calls b w g w1 0 s HI.out ⟨hl, by omega, by omega⟩ HB.out).mono ?_
  rintro ex w2 ⟨A, c, ys, p, h, rfl, hyl, hf, hi, hat, hb, ho⟩
  obtain ⟨l, hy⟩ : ∃ l, ys.map (·.1) = l := ⟨_, rfl⟩
  have hyn : ys.length = l.length := by rw [← hy, List.length_map]
  obtain ⟨k2, d, t, hs, hd, hr⟩ := hW l (by omega) (fun x hx => by
    rw [← hy] at hx
    obtain ⟨y, h1, rfl⟩ := List.mem_map.1 hx
    exact hf y h1)
  have HC2 := Aside0.mk (kB_C' ho hy)
  have hlc := HC2.out.2
  have HI2 := Aside0.mk hi
  have HB2 := Aside0.mk hb
  have HAT := Aside0.mk hat
  have HS := Aside0.mk hs
  have HR := Aside0.mk hr
  rw [hyn]
  clear hi hb hat hs hr ho hf hyl hy hyn
  go_wp2_with fail
  refine (spec_WriteDer.calls k2 A c l d t w2 HC2.out.1 hlc HS.out).mono ?_
  rintro ex w3 ⟨v3, rfl, ho, hb⟩
  obtain ⟨A3, c3, rfl⟩ := Kd.R_slice ho
  have HI3 := Aside0.mk (HI2.out.below hb)
  have HB3 : Aside0 (Below w.heap.size w w3) := ⟨below_then HB2.out HB2.out.size hb⟩
  have HO3 : Aside0 ((Kd.int .u8).R 5 w3 w.heap.size (fun k => k ≠ g) (.slice A3 d.length c3) d) := ⟨Kd.R_lower (Kd.R_mono (Kd.R_bound ho) (fun k hk => by have h1 := hk.2.1; have h2 := HI2.out.lt; omega)) HB2.out.size⟩
  obtain ⟨n, hn⟩ : ∃ n, d.length = n := ⟨_, rfl⟩
  have HDN := Aside0.mk hn
  rw [hn] at HO3 hd ⊢
  clear ho hb hn HC2 HI2 HS
  go_upto_if 17 with (fail)
  go_cut [4] (fun v4 wc => ∃ (A : Option Addr) (n c : Nat) (d : List Int) (p h : Int), v4 = .slice A n c ∧ n ≤ 4100 ∧ Aside0 (d.length = n) ∧ Aside0 (∀ y ∈ d, 0 ≤ y ∧ y ≤ 255) ∧ Aside0 (IsS94 w wc g b p h) ∧ Aside0 (At b p) ∧ Aside0 (Below w.heap.size w wc) ∧ Aside0 ((Kd.int .u8).R 5 wc w.heap.size (fun k => k ≠ g) (.slice A n c) d))
  case first =>
    by_cases c1 : (n : Int) > 0
    · have hn0 : 0 < n := by omega
      obtain ⟨v, p2, h2, e2, v0, v1, hat2⟩ := below_some HAT.out h 8 (by omega) (by omega)
      have HE2 := Aside0.mk e2
      have HAT2 := Aside0.mk hat2
      clear e2 hat2
      go_wp2_with fail
      refine (spec_l1Below.calls g b p h 8 v p2 h2 w w3 HI3.out HB3.out HE2.out).mono ?_
      rintro ex w4 ⟨rfl, a1, a2, a3⟩
      have HI4 := Aside0.mk a1
      have HB4 := Aside0.mk a2
      have HO4 := Aside0.mk (Kd.R_keep HO3.out a3 (fun k hk => hk))
      clear a1 a2 a3 HI3 HB3 HO3
      have hgl := HI4.out.lt
      by_cases d0 : v = 0
      · subst d0
        obtain ⟨i, p3, h3, e3, i0, i1, hat3⟩ := below_big HAT2.out h2 (n : Int) (by omega) (by omega)
        obtain ⟨i, rfl⟩ := Int.eq_ofNat_of_zero_le i0
        obtain ⟨x, p4, h4, e4, x0, x1, hat4⟩ := byte_some hat3 h3
        have HE3 := Aside0.mk e3
        have HE4 := Aside0.mk e4
        have HAT4 := Aside0.mk hat4
        clear e3 e4 hat3 hat4
        go_wp2_with fail
        refine (spec_l1Below.calls g b p2 h2 (n : Int) (i : Int) p3 h3 w w4 HI4.out HB4.out HE3.out).mono ?_
        rintro ex w5 ⟨rfl, a1, a2, a3⟩
        have HI5 := Aside0.mk a1
        have HB5 := Aside0.mk a2
        have HO5 := Aside0.mk (Kd.R_keep HO4.out a3 (fun k hk => hk))
        clear a1 a2 a3
        go_wp2_with fail
        refine (spec_l1Byte.calls g b p3 h3 x p4 h4 w w5 HI5.out HB5.out HE4.out).mono ?_
        rintro ex w6 ⟨rfl, a1, a2, a3⟩
        have hr := Kd.R_keep HO5.out a3 (fun k hk => hk)
        have hdne : d ≠ [] := by intro e; have := HDN.out; rw [e] at this; simp at this; omega
        obtain ⟨gb, cap, hv, hgb, hgbase⟩ := u8_raw hr hdne
        injection hv with q1 q2 q3
        subst q1 q3
        have hrn := hr
        rw [← HDN.out] at hrn
        have hcell := Kd.R_cell (enc := Value.int .u8) (h1 := fun _ => rfl) 0 hrn (i : Int) (by omega) (by rw [HDN.out]; omega)
        have hput := Kd.R_put (enc := Value.int .u8) (h1 := fun _ => rfl) hrn (i : Int) x
        rw [Int.toNat_natCast] at hcell hput
        have s2 := hcell.1
        have s3 := hcell.2
        have HSET := Aside0.mk hput.1
        have hI7 : Aside0 (IsS94 w (w6.setCell ⟨gb, i, none⟩ (.int .u8 x)) g b p4 h4) := ⟨by
          obtain ⟨A0, c0, q1, q2, q3⟩ := a1
          exact ⟨A0, c0, (heap_other _ _ _ _ _ (fun e => hgb e.symm)).trans q1, q2, q3⟩⟩
        have HB7 : Aside0 (Below w.heap.size w (w6.setCell ⟨gb, i, none⟩ (.int .u8 x))) := ⟨below_set a2 hgbase⟩
        have hw : IntKind.u8.wrap x = x := by show x % 256 = x; omega
        clear a1 a2 a3 hr hrn hcell hput q2
        go_wp2
        go_meet
        case rel =>
          refine ⟨some ⟨gb, 0, none⟩, n, c3, d.set i x, p4, h4, rfl, by omega, ⟨by rw [List.length_set]; exact HDN.out⟩, ⟨fun y hy => ?_⟩, hI7, HAT4, HB7, ⟨by have := HSET.out; rw [HDN.out] at this; exact this⟩⟩
          rcases List.mem_or_eq_of_mem_set hy with hy | rfl
          · exact HR.out y hy
          · omega
      have n0 : (v == 0) = false := beq_eq_false_iff_ne.2 d0
      by_cases d1 : v = 1
      · subst d1
        obtain ⟨i, p3, h3, e3, i0, i1, hat3⟩ := below_big HAT2.out h2 (n : Int) (by omega) (by omega)
        obtain ⟨i, rfl⟩ := Int.eq_ofNat_of_zero_le i0
        have HE3 := Aside0.mk e3
        have HAT3 := Aside0.mk hat3
        clear e3 hat3
        go_wp2_with fail
        refine (spec_l1Below.calls g b p2 h2 (n : Int) (i : Int) p3 h3 w w4 HI4.out HB4.out HE3.out).mono ?_
        rintro ex w5 ⟨rfl, a1, a2, a3⟩
        have HI5 := Aside0.mk a1
        have HB5 := Aside0.mk a2
        have HO5 := Aside0.mk (Kd.R_keep HO4.out a3 (fun k hk => hk))
        have hnc : n ≤ c3 := (Kd.R_reads' HO5.out).2.1
        obtain ⟨i5, hi5, _⟩ := Option.map_eq_some_iff.1 info5
        have hcut := cut_to (P := Try.prog) 38 5 .i64 Try.underlying38 hi5 A3 n c3 (i : Int) (by omega) (by omega) hnc
        rw [Int.toNat_natCast] at hcut
        clear a1 a2 a3 hi5
        go_wp2
        go_meet
        case rel =>
          refine ⟨A3, i, c3, d.take i, p3, h3, rfl, by omega, ⟨by rw [List.length_take, HDN.out]; omega⟩, ⟨fun y hy => HR.out y (List.mem_of_mem_take hy)⟩, HI5, HAT3, HB5, ⟨Kd.R_take HO5.out (by rw [HDN.out]; omega)⟩⟩
      have n1 : (v == 1) = false := beq_eq_false_iff_ne.2 d1
      by_cases d2 : v = 2
      · subst d2
        obtain ⟨x, p3, h3, e3, x0, x1, hat3⟩ := byte_some HAT2.out h2
        have HE3 := Aside0.mk e3
        have HAT3 := Aside0.mk hat3
        clear e3 hat3
        go_wp2_with fail
        refine (spec_l1Byte.calls g b p2 h2 x p3 h3 w w4 HI4.out HB4.out HE3.out).mono ?_
        rintro ex w5 ⟨rfl, a1, a2, a3⟩
        have HI5 := Aside0.mk a1
        have HB5 := Aside0.mk a2
        have HO5 := Aside0.mk (Kd.R_keep HO4.out a3 (fun k hk => hk))
        have hgl5 := a1.lt
        have hw : IntKind.u8.wrap x = x := by show x % 256 = x; omega
        clear a1 a2 a3
        go_wp2_with (first | (at_builtin; refine Kd.R_append (Kd.int .u8) (w0 := w) (W := w5) w.heap.size rfl (.tmp 41) (.tmp 45) 38 5 (.int .u8 0) 1 rfl Try.underlying38 info5 rfl (by decide) (by omega) (.slice A3 n c3) d x [.int .u8 x] (fun k => k ≠ g) (fun _ => False) rfl rfl rfl (fun _ hk => hk.elim) (fun k hk => by omega) HO5.out HB5.out HB5.out.size (by rw [HDN.out]; omega) ?_; intro v5 w6 ho hb hg hat; obtain ⟨A5, c5, rfl⟩ := Kd.R_slice ho; rw [List.length_append, List.length_singleton, HDN.out] at ho; have HO6 := Aside0.mk ho; have HB6 := Aside0.mk hb; have HI6 : Aside0 (IsS94 w w6 g b p3 h3) := ⟨by obtain ⟨A0, c0, q1, q2, q3⟩ := HI5.out; exact ⟨A0, c0, (hg.block g hgl5 (fun e => HO5.out.1 g e.symm rfl)).trans q1, q2, q3⟩⟩; clear ho hb hg hat))
        go_meet
        case rel =>
          refine ⟨A5, n + 1, c5, d ++ [x], p3, h3, by first | rfl | (rw [HDN.out]; rfl) | rw [HDN.out], by omega, ⟨by rw [List.length_append, HDN.out]; rfl⟩, ⟨fun y hy => ?_⟩, HI6, HAT3, HB6, HO6⟩
          rcases List.mem_append.1 hy with hy | hy
          · exact HR.out y hy
          · rw [List.mem_singleton.1 hy]
            omega
      have n2 : (v == 2) = false := beq_eq_false_iff_ne.2 d2
      by_cases d3 : v = 3
      · subst d3
        have HLR := Aside0.mk (u8lit w4 (base := w.heap.size) (g := g) [48, 129, (n : Int) % 256] (by simp) HB4.out.size hgl)
        have HBL := Aside0.mk (below_alloc HB4.out (.cells ([48, 129, (n : Int) % 256].map (Value.int .u8)).toArray 5))
        have HDC := Aside0.mk (Kd.R_reads' (Kd.R_alloc HO4.out (.cells ([48, 129, (n : Int) % 256].map (Value.int .u8)).toArray 5))).2.2
        rw [HDN.out] at HDC
        have HIL := Aside0.mk (HI4.out.below (below_alloc (Below.refl _ _) (.cells ([48, 129, (n : Int) % 256].map (Value.int .u8)).toArray 5)))
        have hgl5 := HIL.out.lt
        have hglne : w4.heap.size ≠ g := by omega
        go_wp2_with (first | (at_builtin; go_loud (refine Kd.R_append_rows (Kd.int .u8) (w0 := w) (W := w4.alloc (.cells ([48, 129, (n : Int) % 256].map (Value.int .u8)).toArray 5)) w.heap.size rfl (.tmp 52) (.tmp 53) 38 5 (.int .u8 0) 1 rfl Try.underlying38 info5 rfl (by decide) (by omega) (.slice (some ⟨w4.heap.size, 0, none⟩) 3 3) [48, 129, (n : Int) % 256] d A3 n c3 (fun k => k ≠ g) (fun _ => False) rfl rfl HLR.out HDC.out (fun _ _ h => h) (fun _ h => h.elim) (fun k hk => by omega) HBL.out HBL.out.size (by simp; omega) ?_; intro v5 w6 ho hb hg hat; obtain ⟨A5, c5, rfl⟩ := Kd.R_slice ho; rw [List.length_append, HDN.out, show ([48, 129, (n : Int) % 256] : List Int).length + n = n + 3 from Nat.add_comm _ _] at ho; have HO6 := Aside0.mk ho; have HB6 := Aside0.mk hb; have HI6 : Aside0 (IsS94 w w6 g b p2 h2) := ⟨by obtain ⟨A0, c0, q1, q2, q3⟩ := HIL.out; exact ⟨A0, c0, (hg.block g hgl5 (fun e => hglne (Option.some.inj e).symm)).trans q1, q2, q3⟩⟩; clear ho hb hg hat)))
        go_meet
        case rel =>
          refine ⟨A5, n + 3, c5, [48, 129, (n : Int) % 256] ++ d, p2, h2, by first | rfl | rw [HDN.out] | rw [List.length_append, HDN.out] | (rw [List.length_append, HDN.out]; rfl) | (rw [HDN.out]; rfl), by omega, ⟨by rw [List.length_append, HDN.out]; exact Nat.add_comm _ _⟩, ⟨fun y hy => ?_⟩, HI6, HAT2, HB6, HO6⟩
          rcases List.mem_append.1 hy with hy | hy
          · simp only [List.mem_cons, List.not_mem_nil, or_false] at hy
            omega
          · exact HR.out y hy
      have n3 : (v == 3) = false := beq_eq_false_iff_ne.2 d3
      by_cases d4 : v = 4
      · subst d4
        have HLR := Aside0.mk (u8lit w4 (base := w.heap.size) (g := g) [48, 130, 0, (n : Int) % 256] (by simp) HB4.out.size hgl)
        have HBL := Aside0.mk (below_alloc HB4.out (.cells ([48, 130, 0, (n : Int) % 256].map (Value.int .u8)).toArray 5))
        have HDC := Aside0.mk (Kd.R_reads' (Kd.R_alloc HO4.out (.cells ([48, 130, 0, (n : Int) % 256].map (Value.int .u8)).toArray 5))).2.2
        rw [HDN.out] at HDC
        have HIL := Aside0.mk (HI4.out.below (below_alloc (Below.refl _ _) (.cells ([48, 130, 0, (n : Int) % 256].map (Value.int .u8)).toArray 5)))
        have hgl5 := HIL.out.lt
        have hglne : w4.heap.size ≠ g := by omega
        go_wp2_with (first | (at_builtin; go_loud (refine Kd.R_append_rows (Kd.int .u8) (w0 := w) (W := w4.alloc (.cells ([48, 130, 0, (n : Int) % 256].map (Value.int .u8)).toArray 5)) w.heap.size rfl (.tmp 60) (.tmp 61) 38 5 (.int .u8 0) 1 rfl Try.underlying38 info5 rfl (by decide) (by omega) (.slice (some ⟨w4.heap.size, 0, none⟩) 4 4) [48, 130, 0, (n : Int) % 256] d A3 n c3 (fun k => k ≠ g) (fun _ => False) rfl rfl HLR.out HDC.out (fun _ _ h => h) (fun _ h => h.elim) (fun k hk => by omega) HBL.out HBL.out.size (by simp; omega) ?_; intro v5 w6 ho hb hg hat; obtain ⟨A5, c5, rfl⟩ := Kd.R_slice ho; rw [List.length_append, HDN.out, show ([48, 130, 0, (n : Int) % 256] : List Int).length + n = n + 4 from Nat.add_comm _ _] at ho; have HO6 := Aside0.mk ho; have HB6 := Aside0.mk hb; have HI6 : Aside0 (IsS94 w w6 g b p2 h2) := ⟨by obtain ⟨A0, c0, q1, q2, q3⟩ := HIL.out; exact ⟨A0, c0, (hg.block g hgl5 (fun e => hglne (Option.some.inj e).symm)).trans q1, q2, q3⟩⟩; clear ho hb hg hat)))
        go_meet
        case rel =>
          refine ⟨A5, n + 4, c5, [48, 130, 0, (n : Int) % 256] ++ d, p2, h2, by first | rfl | rw [HDN.out] | rw [List.length_append, HDN.out] | (rw [List.length_append, HDN.out]; rfl) | (rw [HDN.out]; rfl), by omega, ⟨by rw [List.length_append, HDN.out]; exact Nat.add_comm _ _⟩, ⟨fun y hy => ?_⟩, HI6, HAT2, HB6, HO6⟩
          rcases List.mem_append.1 hy with hy | hy
          · simp only [List.mem_cons, List.not_mem_nil, or_false] at hy
            omega
          · exact HR.out y hy
      have n4 : (v == 4) = false := beq_eq_false_iff_ne.2 d4
      go_wp2
      go_meet
      case rel => exact ⟨A3, n, c3, d, p2, h2, rfl, by omega, HDN, HR, HI4, HAT2, HB4, HO4⟩
    · have hn0 : decide ((n : Int) > 0) = false := decide_eq_false c1
      go_wp2
      go_meet
      case rel => exact ⟨A3, n, c3, d, p, h, rfl, by omega, HDN, HR, HI3, HAT, HB3, HO3⟩
  case rest =>
    obtain ⟨A4, n4, c4, d4, p4, h4, rfl, hn4, HDN4, HR4, HI4, HAT4, HB4, HO4⟩ := hcut
    clear HI3 HB3 HO3 HAT HR HDN
    obtain ⟨v, p5, h5, e5, v0, v1, hat5⟩ := below_some HAT4.out h4 60 (by omega) (by omega)
    have HE5 := Aside0.mk e5
    have HAT5 := Aside0.mk hat5
    clear e5 hat5
    go_wp2_with fail
    refine (spec_l1Below.calls g b p4 h4 60 v p5 h5 w wc HI4.out HB4.out HE5.out).mono ?_
    rintro ex w5 ⟨rfl, a1, a2, a3⟩
    have HI5 := Aside0.mk a1
    have HB5 := Aside0.mk a2
    have HO5 := Aside0.mk (Kd.R_keep HO4.out a3 (fun k hk => hk))
    clear a1 a2 a3 HI4 HB4 HO4
    have hgl := HI5.out.lt
    by_cases d0 : v = 0
    · subst d0
      obtain ⟨v2, p6, h6, e6, u0, u1, hat6⟩ := below_some HAT5.out h5 2 (by omega) (by omega)
      obtain ⟨v2, rfl⟩ := Int.eq_ofNat_of_zero_le u0
      have HE6 := Aside0.mk e6
      clear e6 hat6
      go_wp2_with fail
      refine (spec_l1Below.calls g b p5 h5 2 (v2 : Int) p6 h6 w w5 HI5.out HB5.out HE6.out).mono ?_
      rintro ex w6 ⟨rfl, a1, a2, a3⟩
      have HB6 := Aside0.mk a2
      clear a1 a2 a3
      obtain ⟨m, hm⟩ : ∃ m : Nat, m = 4000 + v2 := ⟨_, rfl⟩
      have hsum : IntKind.i64.wrap (4000 + (v2 : Int)) = (m : Int) := by rw [IntKind.wrap_i64]; omega
      have hm4 : m ≤ 4100 := by omega
      clear hm
      have hm0 : (0 : Int) ≤ (m : Int) := by omega
      go_wp2_with (first | ((with_reducible refine gate_dst (N := 70) rfl ?_); refine Kd.R_make (Kd.int .u8) _ 5 rfl (N := 70) rfl 38 _ _ rfl (m : Int) rfl rfl Try.underlying38 (.int .u8 0) 1 info5 rfl (by decide) (by omega) 0 (ok := fun _ => True) (okp := fun _ => True) rfl (fun _ hk => hk) trivial hm0 (by omega) (Below.refl _ _) (Nat.le_refl _) ?_; intro v7 w7 ho hb hg_ hnew_; clear hg_ hnew_; obtain ⟨A7, c7, rfl⟩ := Kd.R_slice ho; have HO7 := Aside0.mk ho; have HB7 := Aside0.mk hb; clear ho hb))
      go_ret
      have ho := HO7.out
      have hle : (List.replicate (m : Int).toNat (0 : Int)).length = m := by simp
      rw [hle] at ho
      exact ⟨A7, c7, m, List.replicate (m : Int).toNat 0, by first | rfl | (rw [hle]; rfl) | rw [hle], hle, by omega, fun y hy => by have := List.eq_of_mem_replicate hy; omega, below_then HB6.out HB6.out.size HB7.out, Kd.R_lower ho HB6.out.size⟩
    have n0 : (v == 0) = false := beq_eq_false_iff_ne.2 d0
    by_cases d1 : v = 1
    · subst d1
      have HLR := Aside0.mk (u8lit w5 (base := w.heap.size) (g := g) [48, 130, 2, 88] (by simp) HB5.out.size hgl)
      have HBL := Aside0.mk (below_alloc HB5.out (.cells (([48, 130, 2, 88] : List Int).map (Value.int .u8)).toArray 5))
      have hgl5 : g < (w5.alloc (.cells (([48, 130, 2, 88] : List Int).map (Value.int .u8)).toArray 5)).heap.size := by rw [size_al]; omega
      go_wp2_with fail
      go_loopg [4, 6] 300 (fun gk v4 v6 wr => ∃ (zs : List Int) (Az : Option Addr) (Nz cz i : Nat), i + gk = 300 ∧ v6 = .int .i64 (i : Int) ∧ v4 = .slice Az Nz cz ∧ Nz ≤ 4 + 2 * i ∧ Aside0 (zs.length = Nz) ∧ Aside0 (∀ y ∈ zs, 0 ≤ y ∧ y ≤ 255) ∧ g < wr.heap.size ∧ Aside0 (Below w.heap.size w wr) ∧ Aside0 ((Kd.int .u8).R 5 wr w.heap.size (fun k => k ≠ g) (.slice Az Nz cz) zs))
      case atStart => exact ⟨[48, 130, 2, 88], _, 4, _, 0, by omega, rfl, rfl, by omega, ⟨rfl⟩, ⟨fun y hy => by simp only [List.mem_cons, List.not_mem_nil, or_false] at hy; omega⟩, hgl5, HBL, HLR⟩
      case round =>
        obtain ⟨zs, Az, Nz, cz, i, hi, rfl, rfl, hNz, HNZ, HFZ, hglr, HBZ, HOZ⟩ := hrel
        by_cases cc : (i : Int) < 300
        · have w1 : IntKind.i64.wrap ((i : Int) + 1) = ((i + 1 : Nat) : Int) := by rw [IntKind.wrap_i64]; omega
          have HXR := Aside0.mk (Kd.R_reads' (u8lit wr (base := w.heap.size) (g := g) [5, 0] (by simp) HBZ.out.size hglr)).2.2
          have HZA := Aside0.mk (Kd.R_alloc HOZ.out (.cells (([5, 0] : List Int).map (Value.int .u8)).toArray 5))
          have HBA := Aside0.mk (below_alloc HBZ.out (.cells (([5, 0] : List Int).map (Value.int .u8)).toArray 5))
          have hgla : g < (wr.alloc (.cells (([5, 0] : List Int).map (Value.int .u8)).toArray 5)).heap.size := by rw [size_al]; omega
          go_wp2_with (first | (at_builtin; go_loud (refine Kd.R_append_rows (Kd.int .u8) (w0 := w) (W := wr.alloc (.cells (([5, 0] : List Int).map (Value.int .u8)).toArray 5)) w.heap.size rfl (.tmp 78) (.tmp 79) 38 5 (.int .u8 0) 1 rfl Try.underlying38 info5 rfl (by decide) (by omega) (.slice Az Nz cz) zs [5, 0] (some ⟨wr.heap.size, 0, none⟩) 2 2 (fun k => k ≠ g) (fun _ => False) rfl rfl HZA.out HXR.out (fun _ _ h => h) (fun _ h => h.elim) (fun k hk => by omega) HBA.out HBA.out.size (by rw [HNZ.out]; omega) ?_; intro v5 w6 ho hb hg hat; obtain ⟨A5, c5, rfl⟩ := Kd.R_slice ho; rw [List.length_append, HNZ.out] at ho; have HO6 := Aside0.mk ho; have HB6 := Aside0.mk hb; have hgl6 : g < w6.heap.size := (Nat.lt_of_lt_of_le hgla hg.size); clear ho hb hg hat)))
          obtain ⟨gk, rfl⟩ : ∃ q, gk = q + 1 := ⟨gk - 1, by omega⟩
          go_roundg gk
          case measure => omega
          case rel =>
            refine ⟨zs ++ [5, 0], A5, Nz + 2, c5, i + 1, by omega, congrArg (Value.int .i64) (by first | rfl | omega | exact w1), by first | rfl | rw [HNZ.out] | (rw [HNZ.out]; rfl) | (rw [List.length_append, HNZ.out]; rfl), by omega, ⟨by rw [List.length_append, HNZ.out]; rfl⟩, ⟨fun y hy => ?_⟩, hgl6, HB6, HO6⟩
            rcases List.mem_append.1 hy with hy | hy
            · exact HFZ.out y hy
            · simp only [List.mem_cons, List.not_mem_nil, or_false] at hy
              omega
        · go_wp2_with fail
          go_ret
          exact ⟨Az, cz, Nz, zs, rfl, HNZ.out, by omega, HFZ.out, HBZ.out, Kd.R_mono HOZ.out (fun _ _ => trivial)⟩
    have n1 : (v == 1) = false := beq_eq_false_iff_ne.2 d1
    go_wp2
    go_ret
    exact ⟨A4, c4, n4, d4, rfl, HDN4.out, by omega, HR4.out, HB5.out, Kd.R_mono HO5.out (fun _ _ => trivial)⟩
end Go.Proofs.Ytmeobalddjembaa.GFnStrict.Hand
