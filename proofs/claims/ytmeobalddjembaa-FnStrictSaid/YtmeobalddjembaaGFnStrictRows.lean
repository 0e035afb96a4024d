import Derived.Test.YtmeobalddjembaaGFnStrictMarkFull
namespace Go.Proofs.Ytmeobalddjembaa.GFnStrict.Hand
open Go.RowKit Go.Proofs.YtmeobalddjembaaW.PrintWords Go.Proofs.YtmeobalddjembaaW.PrintLast Go.Proofs.YtmeobalddjembaaW.PrintMore
set_option linter.unusedVariables false
set_option linter.unusedSimpArgs false
/-! ### a row of items of the call's own, cell by cell -/
structure RawAt (cur : Array Value) (w : World) (base : Nat) (ok : Nat → Prop) (j : Nat) (x : S52 × Value) : Prop where
  c0 : cur[j * 3]? = some (.int .i64 x.1.f0)
  c1 : cur[j * 3 + 1]? = some x.2
  c2 : cur[j * 3 + 2]? = some (.int .i64 x.1.f2)
  body : (Kd.int .u8).R 5 w base ok x.2 x.1.f1
theorem kB_raw {w : World} {base : Nat} {ok : Nat → Prop} {v : Value} {xs : List (S52 × Value)} (h : kB.R 52 w base ok v xs) (hne : xs ≠ []) :
    ∃ (g cap : Nat) (cur : Array Value), v = .slice (some ⟨g, 0, none⟩) xs.length cap ∧ ok g ∧ base ≤ g ∧ w.heap[g]? = some (.cells cur 52 (0, 0)) ∧ xs.length ≤ cap ∧ cap ≤ maxLen ∧ cur.size = cap * 3 ∧ ∀ j (hj : j < xs.length), RawAt cur w base (fun k => ok k ∧ k ≠ g) j xs[j] := by
  obtain ⟨h0, inner, ho, hr⟩ := h
  rcases ho.2 with ⟨hv, h1⟩ | ⟨g, cap, cur, hv, hbg, hg, hn', hcm, hcs, ht'⟩
  · exact absurd (List.length_eq_zero_iff.1 h1) hne
  · have hgo : ok g := h0 g (by rw [hv]; rfl)
    refine ⟨g, cap, cur, hv, hgo, hbg, hg, hn', hcm, hcs, fun j hj => ?_⟩
    obtain ⟨h1, h2⟩ := hr.2 j _ (List.getElem?_eq_getElem hj)
    obtain ⟨v1, e, hR⟩ := k52_openM h1
    have e : (inner.drop (j * 3)).take 3 = [.int .i64 xs[j].1.f0, v1, .int .i64 xs[j].1.f2] := e
    have h2 : ((inner.drop (j * 3)).take 3)[1]? = some xs[j].2 := h2
    have e2 : v1 = xs[j].2 := by
      rw [e] at h2
      exact Option.some.inj h2
    refine ⟨?_, by rw [← e2]; exact row_cell hj ht'.symm (by omega) (by rw [e]; rfl), row_cell hj ht'.symm (by omega) (by rw [e]; rfl), ?_⟩
    · have := row_cell (d := 0) hj ht'.symm (by omega) (v := .int .i64 xs[j].1.f0) (by rw [e]; rfl)
      simpa using this
    · rw [← e2]
      exact Kd.R_mono hR (fun k hk => ⟨hk.1, fun e3 => hk.2 (by rw [hv, e3]; rfl)⟩)
theorem kB_of_raw {w : World} {base g cap : Nat} {ok : Nat → Prop} {cur : Array Value} {xs : List (S52 × Value)} (hok : ok g) (hbg : base ≤ g) (hg : w.heap[g]? = some (.cells cur 52 (0, 0))) (hn : xs.length ≤ cap) (hc : cap ≤ maxLen) (hs : cur.size = cap * 3)
    (hx : ∀ j (hj : j < xs.length), RawAt cur w base (fun k => ok k ∧ k ≠ g) j xs[j]) : kB.R 52 w base ok (.slice (some ⟨g, 0, none⟩) xs.length cap) xs := by
  refine ⟨fun k hk => ?_, cur.toList.take (xs.length * 3), ⟨?_, .inr ⟨g, cap, cur, rfl, hbg, hg, hn, hc, hs, rfl⟩⟩, ?_, fun j p hp => ?_⟩
  · have : g = k := Option.some.inj hk
    exact this ▸ hok
  · show (cur.toList.take (xs.length * 3)).length = xs.length * 3
    rw [List.length_take]
    have : cur.toList.length = cap * 3 := by simpa using hs
    omega
  · show (cur.toList.take (xs.length * 3)).length = xs.length * 3
    rw [List.length_take]
    have : cur.toList.length = cap * 3 := by simpa using hs
    omega
  · have hj : j < xs.length := (List.getElem?_eq_some_iff.1 hp).1
    obtain rfl : xs[j] = p := by rw [List.getElem?_eq_getElem hj] at hp; exact Option.some.inj hp
    have hr := hx j hj
    have e : ((cur.toList.take (xs.length * 3)).drop (j * 3)).take 3 = [.int .i64 xs[j].1.f0, xs[j].2, .int .i64 xs[j].1.f2] := by
      apply List.ext_getElem?
      intro d
      rw [List.getElem?_take]
      by_cases hd : d < 3
      · rw [if_pos hd, List.getElem?_drop, List.getElem?_take, if_pos (by omega)]
        match d, hd with
        | 0, _ => simpa using hr.c0
        | 1, _ => simpa using hr.c1
        | 2, _ => simpa using hr.c2
      · rw [if_neg hd, List.getElem?_eq_none (by simp; omega)]
    have hM : kB.M w base (fun k => ok k ∧ some k ≠ (Value.slice (some ⟨g, 0, none⟩) xs.length cap).ownBlock) xs[j] (((cur.toList.take (xs.length * 3)).drop (j * 3)).take 3) := by
      rw [e]
      exact ⟨k52_mkM w base _ xs[j].1 (v1 := xs[j].2) (Kd.R_mono hr.body (fun k hk => ⟨hk.1, fun e3 => hk.2 (Option.some.inj e3)⟩)), rfl⟩
    exact hM
/-- One cell of an element's is written. -/
theorem kB_set {w : World} {base : Nat} {ok : Nat → Prop} {g n cap : Nat} {xs : List (S52 × Value)} (h : kB.R 52 w base ok (.slice (some ⟨g, 0, none⟩) n cap) xs) (j d : Nat) (u : Value) (x' : S52 × Value) (hj : j < xs.length) (hd : d < 3)
    (e0 : (if d = 0 then u else .int .i64 xs[j].1.f0) = .int .i64 x'.1.f0) (e1 : (if d = 1 then u else xs[j].2) = x'.2) (e2 : (if d = 2 then u else .int .i64 xs[j].1.f2) = .int .i64 x'.1.f2)
    (hb : (Kd.int .u8).R 5 w base (fun k => ok k ∧ k ≠ g) x'.2 x'.1.f1) : kB.R 52 (w.setCell ⟨g, j * 3 + d, none⟩ u) base ok (.slice (some ⟨g, 0, none⟩) n cap) (xs.set j x') := by
  obtain ⟨g', cap', cur, hv, hok, hbg, hg, hn, hc, hs, hx⟩ := kB_raw h (fun e => by rw [e] at hj; simp at hj)
  injection hv with q1 q2 q3
  injection q1 with q1
  injection q1 with q1 _ _
  subst q1 q2 q3
  have hfar : ∀ {v : Value} {ys : List Int}, (Kd.int .u8).R 5 w base (fun k => ok k ∧ k ≠ g) v ys → (Kd.int .u8).R 5 (w.setCell ⟨g, j * 3 + d, none⟩ u) base (fun k => ok k ∧ k ≠ g) v ys := fun hR => Kd.R_far hR (fun k hk => hk.2) _
  have hsz : j * 3 + d < cur.size := by omega
  have hlen : (xs.set j x').length = xs.length := List.length_set
  have := kB_of_raw (w := w.setCell ⟨g, j * 3 + d, none⟩ u) (xs := xs.set j x') (cap := cap) hok hbg (heap_set hg (j * 3 + d) u) (by rw [hlen]; exact hn) hc (by rw [Array.size_setIfInBounds]; exact hs) (fun i hi => by
    have hi2 : i < xs.length := by omega
    have hr := hx i hi2
    by_cases e : i = j
    · subst e
      have ex : (xs.set i x')[i]'(by omega) = x' := by simp
      rw [ex]
      refine ⟨?_, ?_, ?_, hfar hb⟩
      · rw [← e0]
        by_cases c : d = 0
        · subst c
          rw [if_pos rfl, Array.getElem?_setIfInBounds, if_pos (by omega), if_pos (by omega)]
        · rw [if_neg c, Array.getElem?_setIfInBounds_ne (by omega)]
          exact hr.c0
      · rw [← e1]
        by_cases c : d = 1
        · subst c
          rw [if_pos rfl, Array.getElem?_setIfInBounds, if_pos rfl, if_pos (by omega)]
        · rw [if_neg c, Array.getElem?_setIfInBounds_ne (by omega)]
          exact hr.c1
      · rw [← e2]
        by_cases c : d = 2
        · subst c
          rw [if_pos rfl, Array.getElem?_setIfInBounds, if_pos rfl, if_pos (by omega)]
        · rw [if_neg c, Array.getElem?_setIfInBounds_ne (by omega)]
          exact hr.c2
    · have ex : (xs.set j x')[i]'(by omega) = xs[i] := by
        rw [List.getElem_set_ne (by omega)]
      rw [ex]
      refine ⟨?_, ?_, ?_, hfar hr.body⟩
      · rw [Array.getElem?_setIfInBounds_ne (by omega)]
        exact hr.c0
      · rw [Array.getElem?_setIfInBounds_ne (by omega)]
        exact hr.c1
      · rw [Array.getElem?_setIfInBounds_ne (by omega)]
        exact hr.c2)
  rw [hlen] at this
  exact this
end Go.Proofs.Ytmeobalddjembaa.GFnStrict.Hand
