import Derived.Test.YtmeobalddjembaaGFnStrictDraw2
namespace Go.Proofs.Ytmeobalddjembaa.GFnStrict.Hand
open Go.RowKit Go.Proofs.YtmeobalddjembaaW.PrintWords Go.Proofs.YtmeobalddjembaaW.PrintLast Go.Proofs.YtmeobalddjembaaW.PrintMore
set_option linter.unusedVariables false
set_option linter.unusedSimpArgs false
/-! ### spec.l7DrawAny: function 58: that it ends, and gives a list of few items with short bodies -/
def FineX (x : S52) : Prop := x.f1.length ≤ 5000 ∧ ∀ y ∈ x.f1, 0 ≤ y ∧ y ≤ 255
theorem leaf_fine {l : List S52} (h : Leaf l) : (∀ x ∈ l, x.f1.length ≤ 256 ∧ ∀ y ∈ x.f1, 0 ≤ y ∧ y ≤ 255) ∧ 1 ≤ l.length := by
  obtain ⟨t, b, ht, hb, hr, rfl⟩ := h
  refine ⟨fun x hx => ?_, Nat.le_refl _⟩
  rw [List.mem_singleton] at hx
  subst hx
  exact ⟨hb, hr⟩
theorem dt_fine : ∀ (d : Nat) (l : List S52), DT d l → (∀ x ∈ l, x.f1.length ≤ 256 ∧ ∀ y ∈ x.f1, 0 ≤ y ∧ y ≤ 255) ∧ 1 ≤ l.length
  | 0, l, h => leaf_fine h
  | d + 1, l, h => by
    rcases h with h | ⟨t, ks, ht, h3, hks, rfl⟩
    · exact leaf_fine h
    · refine ⟨fun x hx => ?_, by simp⟩
      rcases List.mem_cons.1 hx with rfl | hx
      · exact ⟨by simp, by simp⟩
      · obtain ⟨k, hk, hxk⟩ := List.mem_flatten.1 hx
        exact (dt_fine d k (hks k hk)).1 x hxk
def AnyPost (w0 : World) (b : List Int) (g : Nat) (ex : Ending) (w' : World) : Prop :=
  ∃ (A : Option Addr) (c : Nat) (ys : List (S52 × Value)) (p h : Int), ex = .returned (.slice A ys.length c) ∧ ys.length ≤ 1000 ∧ (∀ x ∈ ys, FineX x.1) ∧ IsS94 w0 w' g b p h ∧ At b p ∧ Below w0.heap.size w0 w' ∧ kB.R 52 w' w0.heap.size (fun k => k ≠ g) (.slice A ys.length c) ys
theorem R_only {w : World} {base : Nat} {ok : Nat → Prop} {v : Value} {xs : List Int} (h : (Kd.int .u8).R 5 w base ok v xs) : (Kd.int .u8).R 5 w base (fun q => ok q ∧ v.ownBlock = some q) v xs := by
  obtain ⟨h0, inner, ho, hr⟩ := h
  exact ⟨fun k hk => ⟨h0 k hk, hk⟩, inner, ho, hr⟩
/-- A body grows: the other bodies lie elsewhere. -/
theorem kB_grow {w w5 : World} {base : Nat} {ok : Nat → Prop} {g n cap : Nat} {xs : List (S52 × Value)} (h : kB.R 52 w base ok (.slice (some ⟨g, 0, none⟩) n cap) xs) (hnd : (blocks xs).Nodup) (j : Nat) (hj : j < xs.length) (u : Value) (zs : List Int)
    (hg : w.grownBy w5 (xs[j].2).ownBlock) (hb : (Kd.int .u8).R 5 w5 base (fun k => ok k ∧ k ≠ g) u zs) :
    kB.R 52 (w5.setCell ⟨g, j * 3 + 1, none⟩ u) base ok (.slice (some ⟨g, 0, none⟩) n cap) (xs.set j (⟨xs[j].1.f0, zs, xs[j].1.f2⟩, u)) := by
  obtain ⟨g', cap', cur, hv, hok, hbg, hgw, hn, hc, hs, hx⟩ := kB_raw h (fun e => by rw [e] at hj; simp at hj)
  injection hv with q1 q2 q3
  injection q1 with q1
  injection q1 with q1 _ _
  subst q1 q2 q3
  have hgne : some g ≠ (xs[j].2).ownBlock := fun e => ((hx j hj).body.1 g e.symm).2 rfl
  have hg5 : w5.heap[g]? = some (.cells cur 52 (0, 0)) := (hg.block g (blk_lt hgw) hgne).trans hgw
  have hlen : (xs.set j (⟨xs[j].1.f0, zs, xs[j].1.f2⟩, u)).length = xs.length := List.length_set
  have hother : ∀ i (hi : i < xs.length), i ≠ j → ∀ q, (xs[i].2).ownBlock = some q → some q ≠ (xs[j].2).ownBlock := by
    intro i hi hij q hq e
    have key : ∀ (l : List (S52 × Value)) (a b : Nat) (ha : a < l.length) (hb : b < l.length), a < b → (blocks l).Nodup → (l[a].2).ownBlock = some q → (l[b].2).ownBlock = some q → False := by
      intro l a b ha hb hab hn h1 h2
      have e1 : l = l.take b ++ l.drop b := (List.take_append_drop b l).symm
      rw [e1, blocks_append, List.nodup_append] at hn
      have m1 : q ∈ blocks (l.take b) := List.mem_filterMap.2 ⟨l[a], List.mem_take_iff_getElem.2 ⟨a, by omega, rfl⟩, h1⟩
      have m2 : q ∈ blocks (l.drop b) := List.mem_filterMap.2 ⟨l[b], List.mem_drop_iff_getElem.2 ⟨0, by omega, by simp⟩, h2⟩
      exact hn.2.2 q m1 q m2 rfl
    rcases Nat.lt_or_gt_of_ne hij with h1 | h1
    · exact key xs i j hi hj h1 hnd hq e.symm
    · exact key xs j i hj hi h1 hnd e.symm hq
  have := kB_of_raw (w := w5.setCell ⟨g, j * 3 + 1, none⟩ u) (xs := xs.set j (⟨xs[j].1.f0, zs, xs[j].1.f2⟩, u)) (cap := cap) hok hbg (heap_set hg5 (j * 3 + 1) u) (by rw [hlen]; exact hn) hc (by rw [Array.size_setIfInBounds]; exact hs) (fun i hi => by
    have hi2 : i < xs.length := by omega
    have hr := hx i hi2
    by_cases e : i = j
    · subst e
      have ex : (xs.set i (⟨xs[i].1.f0, zs, xs[i].1.f2⟩, u))[i]'(by omega) = (⟨xs[i].1.f0, zs, xs[i].1.f2⟩, u) := by simp
      rw [ex]
      refine ⟨?_, ?_, ?_, Kd.R_far hb (fun k hk => hk.2) _⟩
      · rw [Array.getElem?_setIfInBounds_ne (by omega)]
        exact hr.c0
      · rw [Array.getElem?_setIfInBounds, if_pos rfl, if_pos (by omega)]
      · rw [Array.getElem?_setIfInBounds_ne (by omega)]
        exact hr.c2
    · have ex : (xs.set j (⟨xs[j].1.f0, zs, xs[j].1.f2⟩, u))[i]'(by omega) = xs[i] := by
        rw [List.getElem_set_ne (by omega)]
      rw [ex]
      refine ⟨?_, ?_, ?_, Kd.R_far (Kd.R_mono (Kd.R_move (Kd.R_bound (R_only hr.body)) (fun k hk => hg.block k hk.2.2.1 (hother i hi2 e k hk.1.2))) (fun k hk => hk.1.1)) (fun k hk => hk.2) _⟩
      · rw [Array.getElem?_setIfInBounds_ne (by omega)]
        exact hr.c0
      · rw [Array.getElem?_setIfInBounds_ne (by omega)]
        exact hr.c1
      · rw [Array.getElem?_setIfInBounds_ne (by omega)]
        exact hr.c2)
  rw [hlen] at this
  exact this
/-- A number of an item's is written. -/
theorem any_set {w0 w4 : World} {b : List Int} {g g5 N c kk d : Nat} {p h : Int} {ys : List (S52 × Value)} (hN : ys.length = N) (hI : IsS94 w0 w4 g b p h) (hB : Below w0.heap.size w0 w4) (hO : kB.R 52 w4 w0.heap.size (fun k => k ≠ g) (.slice (some ⟨g5, 0, none⟩) N c) ys) (hkN : kk < ys.length) (hg : w0.heap.size ≤ g5) (hne : g5 ≠ g) (hd : d = 0 ∨ d = 2) (t : Int) (hF : ∀ x ∈ ys, FineX x.1) :
    ∃ ys' : List (S52 × Value), ys'.length = N ∧ (∀ x ∈ ys', FineX x.1) ∧ IsS94 w0 (w4.setCell ⟨g5, kk * 3 + d, none⟩ (.int .i64 t)) g b p h ∧ Below w0.heap.size w0 (w4.setCell ⟨g5, kk * 3 + d, none⟩ (.int .i64 t)) ∧ kB.R 52 (w4.setCell ⟨g5, kk * 3 + d, none⟩ (.int .i64 t)) w0.heap.size (fun k => k ≠ g) (.slice (some ⟨g5, 0, none⟩) N c) ys' := by
  subst hN
  obtain ⟨g6, cap6, cur6, hv6, hok6, hbg6, hg6, hn6, hcm6, hcs6, hx6⟩ := kB_raw hO (by intro e; rw [e] at hkN; simp at hkN)
  injection hv6 with q1 q2 q3
  injection q1 with q1
  injection q1 with q1 _ _
  subst q1 q3
  have hxl := hx6 kk hkN
  have hf := hF _ (List.getElem_mem hkN)
  have hI' : IsS94 w0 (w4.setCell ⟨g5, kk * 3 + d, none⟩ (.int .i64 t)) g b p h := by
    obtain ⟨A0, c0, q1, q2, q3⟩ := hI
    exact ⟨A0, c0, (heap_other _ _ _ _ _ (fun e => hne e.symm)).trans q1, q2, q3⟩
  rcases hd with rfl | rfl
  · refine ⟨_, List.length_set, fun x hx => ?_, hI', below_set hB hg, kB_set hO kk 0 (.int .i64 t) (⟨t, (ys[kk]).1.f1, (ys[kk]).1.f2⟩, (ys[kk]).2) hkN (by omega) rfl rfl rfl hxl.body⟩
    rcases List.mem_or_eq_of_mem_set hx with hx | rfl
    · exact hF x hx
    · exact hf
  · refine ⟨_, List.length_set, fun x hx => ?_, hI', below_set hB hg, kB_set hO kk 2 (.int .i64 t) (⟨(ys[kk]).1.f0, (ys[kk]).1.f1, t⟩, (ys[kk]).2) hkN (by omega) rfl rfl rfl hxl.body⟩
    rcases List.mem_or_eq_of_mem_set hx with hx | rfl
    · exact hF x hx
    · exact hf
/-- A row of one item that was laid by a literal. -/
theorem kB_lit {w : World} {base g : Nat} {x : S52} {v : Value} (hb : (Kd.int .u8).R 5 w base (fun k => k ≠ g) v x.f1) (hbase : base ≤ w.heap.size) (hg : g < w.heap.size) :
    kB.R 52 (w.alloc (.cells #[.int .i64 x.f0, v, .int .i64 x.f2] 52)) base (fun k => k ≠ g) (.slice (some ⟨w.heap.size, 0, none⟩) 1 1) [(x, v)] := by
  refine kB_of_raw (xs := [(x, v)]) (cur := #[.int .i64 x.f0, v, .int .i64 x.f2]) (cap := 1) (by omega) hbase (blk_al_new _ _) (Nat.le_refl _) (by decide) rfl (fun j hj => ?_)
  obtain rfl : j = 0 := by simpa using hj
  exact ⟨rfl, rfl, rfl, Kd.R_mono (Kd.R_alloc (Kd.R_bound hb) _) (fun k hk => ⟨hk.1, by have := hk.2.2.1; omega⟩)⟩
theorem fine_none (t q : Int) : FineX ⟨t, [], q⟩ := ⟨by simp, by simp⟩
set_option maxHeartbeats 8000000 in
set_option maxRecDepth 100000 in
theorem DrawAny_calls (b : List Int) (w0 : World) (g : Nat) (w : World) (p h : Int) (hI : IsS94 w0 w g b p h) (hAt : At b p) (hB : Below w0.heap.size w0 w) :
    Calls Try.prog 58 #[.pointer (some ⟨g, 0, none⟩)] w (AnyPost w0 b g) := by
  have HI := Aside0.mk hI
  have HB := Aside0.mk hB
  clear hI hB
  go_enter Try.func58, Try.ntmps58
  go_wp2_with fail
  refine (tree_calls b w0 g 3 (Nat.le_refl _) w p h none 0 [] HI.out hAt HB.out (Kd.R_nil _ _ _ _ _) (by simp [blocks]) (by decide)).mono ?_
  rintro ex w1 ⟨A, c, ys, p1, h1, rfl, hdt, hyl, hi, hat, hb, ho, hnd⟩
  simp only [List.nil_append] at ho hnd ⊢
  obtain ⟨hfine, hne⟩ := dt_fine 3 _ hdt
  rw [List.length_map] at hne
  have HF : Aside0 (∀ x ∈ ys, FineX x.1) := ⟨fun x hx => by
    have := hfine x.1 (List.mem_map_of_mem hx)
    exact ⟨by omega, this.2⟩⟩
  have HF256 : Aside0 (∀ x ∈ ys, x.1.f1.length ≤ 256) := ⟨fun x hx => (hfine x.1 (List.mem_map_of_mem hx)).1⟩
  obtain ⟨g5, cap5, cur5, hv5, hok5, hbg5, hg5, hn5, hcm5, hcs5, hx5⟩ := kB_raw ho (by intro e; rw [e] at hne; simp at hne)
  injection hv5 with q1 q2 q3
  subst q1 q3
  obtain ⟨N, hN⟩ : ∃ N, ys.length = N := ⟨_, rfl⟩
  have HN := Aside0.mk hN
  rw [hN] at ho hne hyl hn5 ⊢
  have HO := Aside0.mk ho
  have HND := Aside0.mk hnd
  have HI1 := Aside0.mk hi
  have HB1 := Aside0.mk hb
  have hN64 : N ≤ 64 := hyl
  have HG5 : Aside0 (w0.heap.size ≤ g5 ∧ g5 < w1.heap.size) := ⟨hbg5, blk_lt hg5⟩
  have hne5 : g5 ≠ g := hok5
  obtain ⟨kk, p2, h2, e2, k0, k1, hat2⟩ := below_some hat h1 (N : Int) (by omega) (by omega)
  obtain ⟨kk, rfl⟩ := Int.eq_ofNat_of_zero_le k0
  obtain ⟨v, p3, h3, e3, v0, v1, hat3⟩ := below_some hat2 h2 25 (by omega) (by omega)
  have HE2 := Aside0.mk e2
  have HE3 := Aside0.mk e3
  have HAT3 := Aside0.mk hat3
  clear hdt hfine ho hnd hi hb hat hat2 hg5 hcs5 hx5 e2 e3 hat3 hyl hAt q2 hN
  go_wp2_with fail
  refine (spec_l1Below.calls g b p1 h1 (N : Int) (kk : Int) p2 h2 w0 w1 HI1.out HB1.out HE2.out).mono ?_
  rintro ex w2 ⟨rfl, a1, a2, a3⟩
  have HI2 := Aside0.mk a1
  have HB2 := Aside0.mk a2
  have HO2 := Aside0.mk (Kd.R_keep HO.out a3 (fun k hk => hk))
  clear a1 a2 a3
  go_wp2_with fail
  refine (spec_l1Below.calls g b p2 h2 25 v p3 h3 w0 w2 HI2.out HB2.out HE3.out).mono ?_
  rintro ex w3 ⟨rfl, a1, a2, a3⟩
  have HI3 := Aside0.mk a1
  have HB3 := Aside0.mk a2
  have HO3 := Aside0.mk (Kd.R_keep HO2.out a3 (fun k hk => hk))
  have hk1 : kk < N := by omega
  have hkN : kk < ys.length := by rw [HN.out]; exact hk1
  clear a1 a2 a3 HI HB HI1 HB1 HO HI2 HB2 HO2
  have px : (0 : Int) ≤ (kk : Int) := by omega
  have px2 : (kk : Int) < (N : Int) := k1
  by_cases c0 : v = 0
  · subst c0
    obtain ⟨t, p4, h4, e4, hmem, hat4⟩ := pick_some HAT3.out h3 [-1, 31, 256, 48, 2, 63] (by decide) (by decide)
    have HE4 := Aside0.mk e4
    have HAT4 := Aside0.mk hat4
    clear e4 hat4 hmem
    have HLIT := Aside0.mk (i64lit w3 [-1, 31, 256, 48, 2, 63] (by decide))
    have hne : w3.heap.size ≠ g := by have := HI3.out.lt; omega
    have HIA := Aside0.mk (HI3.out.below (below_alloc (Below.refl _ _) (.cells #[.int .i64 (-1), .int .i64 31, .int .i64 256, .int .i64 48, .int .i64 2, .int .i64 63] 3)))
    have HBA := Aside0.mk (below_alloc HB3.out (.cells #[.int .i64 (-1), .int .i64 31, .int .i64 256, .int .i64 48, .int .i64 2, .int .i64 63] 3))
    have HRA := Aside0.mk (Kd.R_alloc HO3.out (.cells #[.int .i64 (-1), .int .i64 31, .int .i64 256, .int .i64 48, .int .i64 2, .int .i64 63] 3))
    go_wp2_with fail
    refine (spec_l1PickInt.calls g b p3 h3 (some ⟨w3.heap.size, 0, none⟩) 6 [-1, 31, 256, 48, 2, 63] t p4 h4 w0 _ HIA.out HBA.out HLIT.out (by decide) (fun ad e _ => by injection e with e; rw [← e]; exact hne) HE4.out).mono ?_
    rintro ex w4 ⟨rfl, a1, a2, a3⟩
    have HI4 := Aside0.mk a1
    have HB4 := Aside0.mk a2
    have hr := Kd.R_keep HRA.out a3 (fun k hk => hk)
    obtain ⟨zs, z1, z2, z3, z4, z5⟩ := any_set (kk := kk) (d := 0) HN.out a1 a2 hr hkN HG5.out.1 hne5 (.inl rfl) t HF.out
    rw [← HN.out] at hr
    obtain ⟨g6, cap6, cur6, hv6, hok6, hbg6, hg6, hn6, hcm6, hcs6, hx6⟩ := kB_raw hr (by intro e; rw [e] at hkN; simp at hkN)
    injection hv6 with q1 q2 q3
    injection q1 with q1
    injection q1 with q1 _ _
    subst q1 q3
    have s2 : w4.cell? ⟨g5, kk * 3, none⟩ = some (.int .i64 (ys[kk]).1.f0) := (cell_at hg6 _).trans (hx6 kk hkN).c0
    have s3 : w4.frozen? ⟨g5, kk * 3, none⟩ = false := free_at hg6 _
    have Z1 := Aside0.mk z1
    have Z2 := Aside0.mk z2
    have Z3 := Aside0.mk z3
    have Z4 := Aside0.mk z4
    have Z5 := Aside0.mk z5
    clear z1 z2 z3 z4 z5 hx6 hg6 hcs6 hr a1 a2 a3 q2
    go_wp2
    go_ret
    exact ⟨some ⟨g5, 0, none⟩, c, zs, p4, h4, by rw [Z1.out]; rfl, by rw [Z1.out]; omega, Z2.out, Z3.out, HAT4.out, Z4.out, by rw [Z1.out]; exact Z5.out⟩
  have n0 : (v == 0) = false := beq_eq_false_iff_ne.2 c0
  by_cases c1 : v = 1
  · subst c1
    obtain ⟨t, p4, h4, e4, hmem, hat4⟩ := pick_some HAT3.out h3 [1, -1, 300] (by decide) (by decide)
    have HE4 := Aside0.mk e4
    have HAT4 := Aside0.mk hat4
    clear e4 hat4 hmem
    have hr := HO3.out
    rw [← HN.out] at hr
    obtain ⟨g6, cap6, cur6, hv6, hok6, hbg6, hg6, hn6, hcm6, hcs6, hx6⟩ := kB_raw hr (by intro e; rw [e] at hkN; simp at hkN)
    injection hv6 with q1 q2 q3
    injection q1 with q1
    injection q1 with q1 _ _
    subst q1 q3
    have s2 : w3.cell? ⟨g5, kk * 3 + 2, none⟩ = some (.int .i64 (ys[kk]).1.f2) := (cell_at hg6 _).trans (hx6 kk hkN).c2
    have hgl3 := blk_lt hg6
    clear hx6 hg6 hcs6 hr q2
    obtain ⟨x2, hx2⟩ : ∃ x2, (ys[kk]).1.f2 = x2 := ⟨_, rfl⟩
    rw [hx2] at s2
    have HCL : Aside0 (∀ W : World, W = (w3.alloc (.cells #[.int .i64 1, .int .i64 (-1), .int .i64 300] 3)).drew → Calls Try.prog 70 #[.pointer (some ⟨g, 0, none⟩), .slice (some ⟨w3.heap.size, 0, none⟩) 3 3] W fun ex w' => ex = .returned (.int .i64 t) ∧ IsS94 w0 w' g b p4 h4 ∧ Below w0.heap.size w0 w' ∧ kB.R 52 w' w0.heap.size (fun k => k ≠ g) (.slice (some ⟨g5, 0, none⟩) N c) ys ∧ w'.cell? ⟨g5, kk * 3 + 2, none⟩ = some (.int .i64 x2) ∧ w'.frozen? ⟨g5, kk * 3 + 2, none⟩ = false) := ⟨by
      rintro W rfl
      have hne : w3.heap.size ≠ g := by have := HI3.out.lt; omega
      refine (spec_l1PickInt.calls g b p3 h3 (some ⟨w3.heap.size, 0, none⟩) 3 [1, -1, 300] t p4 h4 w0 _ (IsS94.drew (HI3.out.below (below_alloc (Below.refl _ _) _))) (below_drew1 (below_alloc HB3.out _)) (Kd.C_below (i64lit w3 [1, -1, 300] (by decide)) (below_drew1 (Below.refl _ _))) (by decide) (fun ad e _ => by injection e with e; rw [← e]; exact hne) HE4.out).mono ?_
      rintro ex w4 ⟨rfl, a1, a2, a3⟩
      have hr := Kd.R_keep (Kd.R_drew (Kd.R_alloc HO3.out (.cells #[.int .i64 1, .int .i64 (-1), .int .i64 300] 3))) a3 (fun k hk => hk)
      have hr' := hr
      rw [← HN.out] at hr'
      obtain ⟨g6, cap6, cur6, hv6, hok6, hbg6, hg6, hn6, hcm6, hcs6, hx6⟩ := kB_raw hr' (by intro e; rw [e] at hkN; simp at hkN)
      injection hv6 with q1 q2 q3
      injection q1 with q1
      injection q1 with q1 _ _
      subst q1 q3
      exact ⟨rfl, a1, a2, hr, by rw [← hx2]; exact (cell_at hg6 _).trans (hx6 kk hkN).c2, free_at hg6 _⟩⟩
    go_wp2_with fail
    go_region_with ((go_at_call 70; refine (HCL.out _ rfl).mono ?_; rintro ex w4 ⟨rfl, HI4, HB4, HO4, m0, m1⟩))
    all_goals (obtain ⟨zs, z1, z2, z3, z4, z5⟩ := any_set (kk := kk) (d := 2) HN.out HI4 HB4 HO4 hkN HG5.out.1 hne5 (.inr rfl) (IntKind.i64.wrap (x2 + t)) HF.out
               have Z1 := Aside0.mk z1
               have Z2 := Aside0.mk z2
               have Z3 := Aside0.mk z3
               have Z4 := Aside0.mk z4
               have Z5 := Aside0.mk z5
               clear z1 z2 z3 z4 z5 HI4 HB4 HO4
               go_wp2
               go_ret
               exact ⟨some ⟨g5, 0, none⟩, c, zs, p4, h4, by rw [Z1.out]; rfl, by rw [Z1.out]; omega, Z2.out, Z3.out, HAT4.out, Z4.out, by rw [Z1.out]; exact Z5.out⟩)
  have n1 : (v == 1) = false := beq_eq_false_iff_ne.2 c1
  by_cases c2 : v = 2
  · subst c2
    have hr := HO3.out
    rw [← HN.out] at hr
    obtain ⟨g6, cap6, cur6, hv6, hok6, hbg6, hg6, hn6, hcm6, hcs6, hx6⟩ := kB_raw hr (by intro e; rw [e] at hkN; simp at hkN)
    injection hv6 with q1 q2 q3
    injection q1 with q1
    injection q1 with q1 _ _
    subst q1 q3
    have hxl := hx6 kk hkN
    obtain ⟨Ab, cb, hbv⟩ := Kd.R_slice hxl.body
    obtain ⟨nb, hnb⟩ : ∃ nb, (ys[kk]).1.f1.length = nb := ⟨_, rfl⟩
    have s2 : w3.cell? ⟨g5, kk * 3 + 1, none⟩ = some (.slice Ab nb cb) := by
      rw [cell_at hg6, hxl.c1, hbv, hnb]
    have hc1 : cur6[kk * 3 + 1]? = some (.slice Ab nb cb) := by rw [hxl.c1, hbv, hnb]
    have hbody := hxl.body
    rw [hbv] at hbody
    have HBODY := Aside0.mk hbody
    have hb256 := HF256.out _ (List.getElem_mem hkN)
    have HNB := Aside0.mk hnb
    have hnb2 : nb ≤ 256 := by rw [← hnb]; exact hb256
    have HBV := Aside0.mk hbv
    have HFB := Aside0.mk (HF.out _ (List.getElem_mem hkN))
    have hgl := HI3.out.lt
    have hgl3 := blk_lt hg6
    have HG6 := Aside0.mk hg6
    have HC1 := Aside0.mk hc1
    clear hx6 hg6 hcs6 hr q2 hxl hbody hbv hnb hb256 hc1
    have hgb : some g5 ≠ (Value.slice Ab nb cb).ownBlock := fun e => (HBODY.out.1 g5 (by rw [HNB.out]; exact e.symm)).2 rfl
    have hgg : some g ≠ (Value.slice Ab nb cb).ownBlock := fun e => (HBODY.out.1 g (by rw [HNB.out]; exact e.symm)).1 rfl
    go_wp2_with (first | (at_builtin; refine Kd.R_append (Kd.int .u8) (w0 := w0) (W := w3) w0.heap.size rfl (.tmp 48) (.tmp 49) 38 5 (.int .u8 0) 1 rfl Try.underlying38 info5 rfl (by decide) (by omega) (.slice Ab nb cb) (ys[kk]).1.f1 1 [.int .u8 1] (fun k => k ≠ g ∧ k ≠ g5) (fun _ => False) rfl rfl rfl (fun _ hk => hk.elim) (fun k hk => by omega) (by rw [← HNB.out]; exact HBODY.out) HB3.out HB3.out.size (by rw [HNB.out]; omega) ?_; intro v5 w5 ho hb hg hat; obtain ⟨A5, c5, rfl⟩ := Kd.R_slice ho; rw [List.length_append, List.length_singleton] at ho; have HO5 := Aside0.mk ho; have HB5 := Aside0.mk hb; have HG5x := Aside0.mk hg; have hg5' := (hg.block g5 hgl3 hgb).trans HG6.out; have s4 : w5.cell? ⟨g5, kk * 3 + 1, none⟩ = some (.slice Ab nb cb) := ((cell_at hg5' _).trans HC1.out); have s5 : w5.frozen? ⟨g5, kk * 3 + 1, none⟩ = false := (free_at hg5' _); clear ho hb hg hat hg5'))
    have hI5 : IsS94 w0 w5 g b p3 h3 := by
      obtain ⟨A0, c0, q1, q2, q3⟩ := HI3.out
      exact ⟨A0, c0, (HG5x.out.block g hgl hgg).trans q1, q2, q3⟩
    have hI6 : IsS94 w0 (w5.setCell ⟨g5, kk * 3 + 1, none⟩ (.slice A5 ((ys[kk]).1.f1.length + 1) c5)) g b p3 h3 := by
      obtain ⟨A0, c0, q1, q2, q3⟩ := hI5
      exact ⟨A0, c0, (heap_other _ _ _ _ _ (fun e => hne5 e.symm)).trans q1, q2, q3⟩
    have hgr := kB_grow HO3.out HND.out kk hkN (.slice A5 ((ys[kk]).1.f1.length + 1) c5) ((ys[kk]).1.f1 ++ [1]) (by rw [HBV.out, HNB.out]; exact HG5x.out) HO5.out
    go_ret
    refine ⟨some ⟨g5, 0, none⟩, c, ys.set kk (⟨(ys[kk]).1.f0, (ys[kk]).1.f1 ++ [1], (ys[kk]).1.f2⟩, .slice A5 ((ys[kk]).1.f1.length + 1) c5), p3, h3, by rw [List.length_set, HN.out]; rfl, by rw [List.length_set, HN.out]; omega, fun x hx => ?_, hI6, HAT3.out, below_set HB5.out HG5.out.1, by rw [List.length_set, HN.out]; exact hgr⟩
    rcases List.mem_or_eq_of_mem_set hx with hx | rfl
    · exact HF.out x hx
    · have hf := HFB.out
      have hl := HNB.out
      refine ⟨?_, fun y hy => ?_⟩
      · show ((ys[kk]).1.f1 ++ [1]).length ≤ 5000
        rw [List.length_append, List.length_singleton]
        omega
      · rcases List.mem_append.1 hy with hy | hy
        · exact hf.2 y hy
        · rw [List.mem_singleton.1 hy]
          omega
  have n2 : (v == 2) = false := beq_eq_false_iff_ne.2 c2
  by_cases c3 : v = 3
  · subst c3
    have hgl := HI3.out.lt
    go_wp2_with (first | (at_builtin; refine Kd.R_append kB (w0 := w0) (W := w3) w0.heap.size rfl (.tmp 55) (.tmp 57) 25 52 (.agg #[(.int .i64 0), (.slice none 0 0), (.int .i64 0)]) 40 rfl Try.underlying25 info52' rfl (by decide) (by omega) (.slice (some ⟨g5, 0, none⟩) N c) ys (⟨2, [], 0⟩, .slice none 0 0) [.int .i64 2, .slice none 0 0, .int .i64 0] (fun k => k ≠ g) (fun _ => False) rfl rfl ⟨k52_mkM _ _ _ ⟨2, [], 0⟩ (v1 := .slice none 0 0) (Kd.R_nil _ _ _ _ _), rfl⟩ (fun _ hk => hk.elim) (fun k hk => by omega) HO3.out HB3.out HB3.out.size (by rw [HN.out]; omega) ?_; intro v5 w5 ho hb hg hat; obtain ⟨A5, c5, rfl⟩ := Kd.R_slice ho; have HO5 := Aside0.mk ho; have HB5 := Aside0.mk hb; have HI5 : Aside0 (IsS94 w0 w5 g b p3 h3) := ⟨by obtain ⟨A0, c0, q1, q2, q3⟩ := HI3.out; exact ⟨A0, c0, (hg.block g hgl (fun e => HO3.out.1 g e.symm rfl)).trans q1, q2, q3⟩⟩; clear ho hb hg hat))
    go_ret
    refine ⟨A5, c5, ys ++ [(⟨2, [], 0⟩, .slice none 0 0)], p3, h3, by rw [List.length_append]; rfl, by rw [List.length_append, HN.out, List.length_singleton]; omega, fun x hx => ?_, HI5.out, HAT3.out, HB5.out, HO5.out⟩
    rcases List.mem_append.1 hx with hx | hx
    · exact HF.out x hx
    · rw [List.mem_singleton.1 hx]
      exact fine_none _ _
  have n3 : (v == 3) = false := beq_eq_false_iff_ne.2 c3
  by_cases c4 : v = 4
  · subst c4
    obtain ⟨v2, p4, h4, e4, u0, u1, hat4⟩ := below_some HAT3.out h3 2 (by omega) (by omega)
    obtain ⟨v2, rfl⟩ := Int.eq_ofNat_of_zero_le u0
    have HE4 := Aside0.mk e4
    have HAT4 := Aside0.mk hat4
    clear e4 hat4 HF HF256 HND HO3 HG5
    go_wp2_with fail
    refine (spec_l1Below.calls g b p3 h3 2 (v2 : Int) p4 h4 w0 w3 HI3.out HB3.out HE4.out).mono ?_
    rintro ex w4 ⟨rfl, a1, a2, a3⟩
    have HI4 := Aside0.mk a1
    have HB4 := Aside0.mk a2
    clear a1 a2 a3
    obtain ⟨m, hm⟩ : ∃ m : Nat, m = 12 + v2 := ⟨_, rfl⟩
    have hsum : IntKind.i64.wrap (12 + (v2 : Int)) = (m : Int) := by rw [IntKind.wrap_i64]; omega
    go_wp2_with fail
    go_loopg [3, 5] m (fun gk v3 v5 wr => ∃ (zs : List (S52 × Value)) (Az : Option Addr) (Nz cz : Nat), v5 = .int .i64 (gk : Int) ∧ v3 = .slice Az Nz cz ∧ Nz + gk = m ∧ Aside0 (zs.length = Nz) ∧ Aside0 (∀ x ∈ zs, FineX x.1) ∧ Aside0 (IsS94 w0 wr g b p4 h4) ∧ Aside0 (Below w0.heap.size w0 wr) ∧ Aside0 (kB.R 52 wr w0.heap.size (fun k => k ≠ g) (.slice Az Nz cz) zs))
    case atStart => exact ⟨[], none, 0, 0, congrArg (Value.int .i64) (by omega), rfl, by omega, ⟨rfl⟩, ⟨by simp⟩, HI4, HB4, ⟨Kd.R_nil _ _ _ _ _⟩⟩
    case round =>
      obtain ⟨zs, Az, Nz, cz, rfl, rfl, hNz, HNZ, HFZ, HIZ, HBZ, HOZ⟩ := hrel
      have hgl := HIZ.out.lt
      by_cases hg0 : gk = 0
      · subst hg0
        go_wp2_with (first | (at_builtin; refine Kd.R_append kB (w0 := w0) (W := wr) w0.heap.size rfl (.tmp 72) (.tmp 74) 25 52 (.agg #[(.int .i64 0), (.slice none 0 0), (.int .i64 0)]) 40 rfl Try.underlying25 info52' rfl (by decide) (by omega) (.slice Az Nz cz) zs (⟨5, [], 0⟩, .slice none 0 0) [.int .i64 5, .slice none 0 0, .int .i64 0] (fun k => k ≠ g) (fun _ => False) rfl rfl ⟨k52_mkM _ _ _ ⟨5, [], 0⟩ (v1 := .slice none 0 0) (Kd.R_nil _ _ _ _ _), rfl⟩ (fun _ hk => hk.elim) (fun k hk => by omega) HOZ.out HBZ.out HBZ.out.size (by rw [HNZ.out]; omega) ?_; intro v5 w5 ho hb hg hat; obtain ⟨A5, c5, rfl⟩ := Kd.R_slice ho; have HO5 := Aside0.mk ho; have HB5 := Aside0.mk hb; have HI5 : Aside0 (IsS94 w0 w5 g b p4 h4) := ⟨by obtain ⟨A0, c0, q1, q2, q3⟩ := HIZ.out; exact ⟨A0, c0, (hg.block g hgl (fun e => HOZ.out.1 g e.symm rfl)).trans q1, q2, q3⟩⟩; clear ho hb hg hat))
        go_ret
        refine ⟨A5, c5, zs ++ [(⟨5, [], 0⟩, .slice none 0 0)], p4, h4, by rw [List.length_append]; rfl, by rw [List.length_append, HNZ.out, List.length_singleton]; omega, fun x hx => ?_, HI5.out, HAT4.out, HB5.out, HO5.out⟩
        rcases List.mem_append.1 hx with hx | hx
        · exact HFZ.out x hx
        · rw [List.mem_singleton.1 hx]
          exact fine_none _ _
      · obtain ⟨gk, rfl⟩ : ∃ q, gk = q + 1 := ⟨gk - 1, by omega⟩
        have hz0 : ((gk + 1 : Nat) : Int) > 0 := by omega
        go_wp2_with (first | (at_builtin; refine Kd.R_append kB (w0 := w0) (W := wr) w0.heap.size rfl (.tmp 68) (.tmp 70) 25 52 (.agg #[(.int .i64 0), (.slice none 0 0), (.int .i64 0)]) 40 rfl Try.underlying25 info52' rfl (by decide) (by omega) (.slice Az Nz cz) zs (⟨48, [], 1⟩, .slice none 0 0) [.int .i64 48, .slice none 0 0, .int .i64 1] (fun k => k ≠ g) (fun _ => False) rfl rfl ⟨k52_mkM _ _ _ ⟨48, [], 1⟩ (v1 := .slice none 0 0) (Kd.R_nil _ _ _ _ _), rfl⟩ (fun _ hk => hk.elim) (fun k hk => by omega) HOZ.out HBZ.out HBZ.out.size (by rw [HNZ.out]; omega) ?_; intro v5 w5 ho hb hg hat; obtain ⟨A5, c5, rfl⟩ := Kd.R_slice ho; rw [List.length_append, List.length_singleton, HNZ.out] at ho; have HO5 := Aside0.mk ho; have HB5 := Aside0.mk hb; have HI5 : Aside0 (IsS94 w0 w5 g b p4 h4) := ⟨by obtain ⟨A0, c0, q1, q2, q3⟩ := HIZ.out; exact ⟨A0, c0, (hg.block g hgl (fun e => HOZ.out.1 g e.symm rfl)).trans q1, q2, q3⟩⟩; clear ho hb hg hat))
        go_roundg gk
        case measure => omega
        case rel =>
          refine ⟨zs ++ [(⟨48, [], 1⟩, .slice none 0 0)], A5, Nz + 1, c5, congrArg (Value.int .i64) (by omega), by first | rfl | rw [HNZ.out] | (rw [HNZ.out]; rfl), by omega, ⟨by rw [List.length_append, HNZ.out, List.length_singleton]⟩, ⟨fun x hx => ?_⟩, HI5, HB5, HO5⟩
          rcases List.mem_append.1 hx with hx | hx
          · exact HFZ.out x hx
          · rw [List.mem_singleton.1 hx]
            exact fine_none _ _
  have n4 : (v == 4) = false := beq_eq_false_iff_ne.2 c4
  by_cases c5 : v = 5
  · subst c5
    obtain ⟨v2, p4, h4, e4, u0, u1, hat4⟩ := below_some HAT3.out h3 2 (by omega) (by omega)
    obtain ⟨v2, rfl⟩ := Int.eq_ofNat_of_zero_le u0
    have HE4 := Aside0.mk e4
    have HAT4 := Aside0.mk hat4
    clear e4 hat4 HF HF256 HND HO3 HG5
    go_wp2_with fail
    refine (spec_l1Below.calls g b p3 h3 2 (v2 : Int) p4 h4 w0 w3 HI3.out HB3.out HE4.out).mono ?_
    rintro ex w4 ⟨rfl, a1, a2, a3⟩
    have HI4 := Aside0.mk a1
    have HB4 := Aside0.mk a2
    clear a1 a2 a3
    obtain ⟨m, hm⟩ : ∃ m : Nat, m = 3996 + v2 := ⟨_, rfl⟩
    have hsum : IntKind.i64.wrap (3996 + (v2 : Int)) = (m : Int) := by rw [IntKind.wrap_i64]; omega
    have HM := Aside0.mk hm
    have hm4 : m ≤ 4000 := by omega
    clear hm
    have hn0 : (0 : Int) ≤ (m : Int) := by omega
    have hgl := HI4.out.lt
    go_wp2_with (first | ((with_reducible refine gate_dst (N := 81) rfl ?_); refine Kd.R_make (Kd.int .u8) _ 5 rfl (N := 81) rfl 38 _ _ rfl (m : Int) rfl rfl Try.underlying38 (.int .u8 0) 1 info5 rfl (by decide) (by omega) 0 (ok := fun _ => True) (okp := fun _ => True) rfl (fun _ hk => hk) trivial hn0 (by omega) (Below.refl _ _) (Nat.le_refl _) ?_; intro v7 w5 ho hb hg_ hnew_; clear hg_ hnew_; obtain ⟨A7, c7, rfl⟩ := Kd.R_slice ho; have HO7 := Aside0.mk ho; have HB7 := Aside0.mk hb; clear ho hb))
    go_ret
    have ho := HO7.out
    have hle : (List.replicate (m : Int).toNat (0 : Int)).length = m := by simp
    rw [hle] at ho
    have hx : FineX ⟨4, List.replicate (m : Int).toNat 0, 0⟩ := ⟨by show (List.replicate (m : Int).toNat (0 : Int)).length ≤ 5000; rw [hle]; omega, fun y hy => by have := List.eq_of_mem_replicate hy; omega⟩
    have hI5 := HI4.out.below HB7.out
    refine ⟨some ⟨w5.heap.size, 0, none⟩, 1, [(⟨4, List.replicate (m : Int).toNat 0, 0⟩, .slice A7 m c7)], p4, h4, rfl, by simp, fun x hx' => by rw [List.mem_singleton.1 hx']; exact hx, hI5.below (below_alloc (Below.refl _ _) _), HAT4.out, below_alloc (below_then HB4.out HB4.out.size HB7.out) _, ?_⟩
    exact kB_lit (x := ⟨4, List.replicate (m : Int).toNat 0, 0⟩) (Kd.R_lower (Kd.R_mono (Kd.R_bound ho) (fun k hk => by have h1 := hk.2.1; omega)) HB4.out.size) (Nat.le_trans HB4.out.size HB7.out.size) hI5.lt
  have n5 : (v == 5) = false := beq_eq_false_iff_ne.2 c5
  by_cases c6 : v = 6
  · subst c6
    obtain ⟨v2, p4, h4, e4, u0, u1, hat4⟩ := below_some HAT3.out h3 2 (by omega) (by omega)
    obtain ⟨v2, rfl⟩ := Int.eq_ofNat_of_zero_le u0
    have HE4 := Aside0.mk e4
    have HAT4 := Aside0.mk hat4
    clear e4 hat4 HF HF256 HND HO3 HG5
    go_wp2_with fail
    refine (spec_l1Below.calls g b p3 h3 2 (v2 : Int) p4 h4 w0 w3 HI3.out HB3.out HE4.out).mono ?_
    rintro ex w4 ⟨rfl, a1, a2, a3⟩
    have HI4 := Aside0.mk a1
    have HB4 := Aside0.mk a2
    clear a1 a2 a3
    obtain ⟨m, hm⟩ : ∃ m : Nat, m = 299 + v2 := ⟨_, rfl⟩
    have hsum : IntKind.i64.wrap (299 + (v2 : Int)) = (m : Int) := by rw [IntKind.wrap_i64]; omega
    have hm4 : m ≤ 300 := by omega
    clear hm
    have HL4 : Aside0 (kB.R 52 (w4.alloc (.cells #[.int .i64 48, .slice none 0 0, .int .i64 (m : Int)] 52)) w0.heap.size (fun k => k ≠ g) (.slice (some ⟨w4.heap.size, 0, none⟩) 1 1) [((⟨48, [], (m : Int)⟩ : S52), .slice none 0 0)]) := ⟨kB_lit (x := ⟨48, [], (m : Int)⟩) (Kd.R_nil _ _ _ _ _) HB4.out.size HI4.out.lt⟩
    go_wp2_with fail
    go_loopg [3, 7] m (fun gk v3 v7 wr => ∃ (zs : List (S52 × Value)) (Az : Option Addr) (Nz cz i : Nat), i + gk = m ∧ v7 = .int .i64 (i : Int) ∧ v3 = .slice Az Nz cz ∧ Nz = i + 1 ∧ Aside0 (zs.length = Nz) ∧ Aside0 (∀ x ∈ zs, FineX x.1) ∧ Aside0 (IsS94 w0 wr g b p4 h4) ∧ Aside0 (Below w0.heap.size w0 wr) ∧ Aside0 (kB.R 52 wr w0.heap.size (fun k => k ≠ g) (.slice Az Nz cz) zs))
    case atStart => exact ⟨_, _, 1, _, 0, by omega, rfl, rfl, rfl, ⟨rfl⟩, ⟨fun x hx => by rw [List.mem_singleton.1 hx]; exact fine_none _ _⟩, ⟨HI4.out.below (below_alloc (Below.refl _ _) _)⟩, ⟨below_alloc HB4.out _⟩, HL4⟩
    case round =>
      obtain ⟨zs, Az, Nz, cz, i, hi, rfl, rfl, hNz, HNZ, HFZ, HIZ, HBZ, HOZ⟩ := hrel
      have hNb : Nz ≤ 400 := by omega
      have HNz := Aside0.mk hNz
      clear hNz
      have hgl := HIZ.out.lt
      by_cases cc : (i : Int) < (m : Int)
      · have w1 : IntKind.i64.wrap ((i : Int) + 1) = ((i + 1 : Nat) : Int) := by rw [IntKind.wrap_i64]; omega
        go_wp2_with (first | (at_builtin; refine Kd.R_append kB (w0 := w0) (W := wr) w0.heap.size rfl (.tmp 97) (.tmp 99) 25 52 (.agg #[(.int .i64 0), (.slice none 0 0), (.int .i64 0)]) 40 rfl Try.underlying25 info52' rfl (by decide) (by omega) (.slice Az Nz cz) zs (⟨5, [], 0⟩, .slice none 0 0) [.int .i64 5, .slice none 0 0, .int .i64 0] (fun k => k ≠ g) (fun _ => False) rfl rfl ⟨k52_mkM _ _ _ ⟨5, [], 0⟩ (v1 := .slice none 0 0) (Kd.R_nil _ _ _ _ _), rfl⟩ (fun _ hk => hk.elim) (fun k hk => by omega) HOZ.out HBZ.out HBZ.out.size (by rw [HNZ.out]; omega) ?_; intro v5 w5 ho hb hg hat; obtain ⟨A5, c5, rfl⟩ := Kd.R_slice ho; rw [List.length_append, List.length_singleton, HNZ.out] at ho; have HO5 := Aside0.mk ho; have HB5 := Aside0.mk hb; have HI5 : Aside0 (IsS94 w0 w5 g b p4 h4) := ⟨by obtain ⟨A0, c0, q1, q2, q3⟩ := HIZ.out; exact ⟨A0, c0, (hg.block g hgl (fun e => HOZ.out.1 g e.symm rfl)).trans q1, q2, q3⟩⟩; clear ho hb hg hat))
        obtain ⟨gk, rfl⟩ : ∃ q, gk = q + 1 := ⟨gk - 1, by omega⟩
        go_roundg gk
        case measure => omega
        case rel =>
          refine ⟨zs ++ [(⟨5, [], 0⟩, .slice none 0 0)], A5, Nz + 1, c5, i + 1, by omega, congrArg (Value.int .i64) (by first | rfl | omega | exact w1), by first | rfl | rw [HNZ.out] | (rw [HNZ.out]; rfl), by have := HNz.out; omega, ⟨by rw [List.length_append, HNZ.out, List.length_singleton]⟩, ⟨fun x hx => ?_⟩, HI5, HB5, HO5⟩
          rcases List.mem_append.1 hx with hx | hx
          · exact HFZ.out x hx
          · rw [List.mem_singleton.1 hx]
            exact fine_none _ _
      · go_wp2_with fail
        go_ret
        exact ⟨Az, cz, zs, p4, h4, by rw [HNZ.out]; rfl, by rw [HNZ.out]; omega, HFZ.out, HIZ.out, HAT4.out, HBZ.out, by rw [HNZ.out]; exact HOZ.out⟩
  have n6 : (v == 6) = false := beq_eq_false_iff_ne.2 c6
  go_wp2
  go_ret
  exact ⟨some ⟨g5, 0, none⟩, c, ys, p3, h3, by rw [HN.out]; rfl, by rw [HN.out]; omega, HF.out, HI3.out, HAT3.out, HB3.out, by rw [HN.out]; exact HO3.out⟩
end Go.Proofs.Ytmeobalddjembaa.GFnStrict.Hand
