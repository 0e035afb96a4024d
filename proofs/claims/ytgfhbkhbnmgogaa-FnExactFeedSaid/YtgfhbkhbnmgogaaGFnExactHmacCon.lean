import Derived.Test.YtgfhbkhbnmgogaaGFnExactHmacFracW
namespace Go.Proofs.Ytgfhbkhbnmgogaa.GFnExactHmac.Hand
open Go.RowKit Go.Proofs.YtgfhbkhbnmgogaaW.PrintWords Go.Proofs.YtgfhbkhbnmgogaaW.PrintLast Go.Proofs.YtgfhbkhbnmgogaaW.PrintMore
set_option linter.unusedVariables false
set_option linter.unusedSimpArgs false
/-! ### impl.constants (62), impl.NewStream (57) -/
theorem int_raw {k : IntKind} {e : TypeId} {w : World} {base : Nat} {ok : Nat → Prop} {v : Value} {xs : List Int} (h : (Kd.int k).R e w base ok v xs) (hne : xs ≠ []) : ∃ g cap cur, v = .slice (some ⟨g, 0, none⟩) xs.length cap ∧ base ≤ g ∧ w.heap[g]? = some (.cells cur e (0, 0)) ∧ ∀ i, i < xs.length → cur[i]? = some (.int k (xs.getD i 0)) := by
  have hC := h
  obtain ⟨h0, inner, ho, hr⟩ := h
  rcases ho.2 with ⟨hv, h1⟩ | ⟨g, cap, cur, hv, hbg, hg, hn', hcm, hcs, ht'⟩
  · exact absurd (List.length_eq_zero_iff.1 h1) hne
  · refine ⟨g, cap, cur, hv, hbg, hg, fun i hi => ?_⟩
    subst hv
    obtain ⟨ad, e1, hc⟩ := Kd.at_int (Kd.R_reads' hC).2.2 (i : Int) (by omega) (by omega)
    cases e1
    rw [Int.toNat_natCast, Addr.add_mid, Nat.zero_add, cell_at hg] at hc
    rw [hc]
    simp [rd]
theorem fillL_take (f : Nat → Int) (m : Nat) : ∀ t j, t ≤ m → j < m → (fillL f m t)[j]? = some (if j < t then f j else 0)
  | 0, j, _, hj => by simp [fillL, hj]
  | t + 1, j, ht, hj => by
    rw [fillL]
    by_cases e : t = j
    · subst e
      rw [List.getElem?_set_self (by rw [fillL_length]; exact hj), if_pos (by omega)]
    · rw [List.getElem?_set_ne e, fillL_take f m t j (by omega) hj]
      congr 1
      by_cases h : j < t
      · rw [if_pos h, if_pos (by omega)]
      · rw [if_neg h, if_neg (by omega)]
theorem fillL_full (f : Nat → Int) (m : Nat) : fillL f m m = (List.range m).map f := by
  apply List.ext_getElem?
  intro j
  rcases Nat.lt_or_ge j m with h | h
  · rw [fillL_take f m m j (Nat.le_refl _) h, if_pos h]
    simp [h]
  · rw [List.getElem?_eq_none (by rw [fillL_length]; exact h), List.getElem?_eq_none (by simpa using h)]
theorem range_getD (l : List Int) (f : Int → Int) (m : Nat) (h : l.length = m) : (List.range m).map (fun i => f (l.getD i 0)) = l.map f := by
  subst h
  apply List.ext_getElem
  · simp
  · intro i h1 h2
    simp at h1 h2
    simp [h1]
set_option maxHeartbeats 8000000 in
set_option maxRecDepth 100000 in
theorem constants_calls (w : World) : Calls Try.prog 62 #[] w fun e w' => e = .returned (.agg (us keysL)) ∧ Below w.heap.size w w' := by
  go_enter Try.func62, Try.ntmps62
  go_wp2_with (first | (refine ev_build69 rfl rfl ?_) | (refine ev_alloc69 rfl rfl ?_) | (refine ev_store69 rfl rfl rfl rfl (c' := Z64) (l := List.replicate 64 0) rfl rfl (by simp) ?_) | fail)
  refine (impl_primes.calls 400 64 primes64 _ primes_64).mono ?_
  rintro e w1 ⟨v, rfl, hv, hb⟩
  obtain ⟨gp, cap, cur, rfl, hgp, hcur, hat⟩ := int_raw hv (by decide)
  have hgp2 : w.heap.size + 2 ≤ gp := by rw [size_alloc, size_alloc] at hgp; exact hgp
  have HB := Aside0.mk (below_step (below_alloc (below_alloc (Below.refl _ _) _) _) hb)
  have HR := Aside0.mk (blk_below (blk_alloc (heap_alloc_last w (.cells Z64 69)) (.cells Z64 69)) hb)
  have HO := Aside0.mk (blk_below (alloc_at (size_alloc w (.cells Z64 69)) (.cells Z64 69)) hb)
  have HP := Aside0.mk hcur
  have HAT := Aside0.mk hat
  clear hv hb hgp hcur hat
  go_wp2
  go_loopg [7] 64 (fun gk v7 wr => ∃ t : Nat, t + gk = 64 ∧ v7 = .int .i64 (t : Int) ∧ Aside0 (wr.heap[w.heap.size]? = some (.cells Z64 69 (0, 0))) ∧ Aside0 (wr.heap[w.heap.size + 1]? = some (.cells (us (fillL (fun i => croot (primes64.getD i 0)) 64 t)) 69 (0, 0))) ∧ Aside0 (wr.heap[gp]? = some (.cells cur 80 (0, 0))) ∧ Aside0 (Below w.heap.size w wr))
  case atStart => exact ⟨0, rfl, rfl, HR, HO, HP, HB⟩
  case round =>
    clear HR HO HP HB
    obtain ⟨t, ht, rfl, HR, HO, HP, HB⟩ := hrel
    by_cases hlt : (t : Int) < 64
    · have ht2 : t < 64 := by omega
      have cp := (cell_at HP.out t).trans (HAT.out t ht2)
      obtain ⟨p, hp⟩ : ∃ p, primes64.getD t 0 = p := ⟨_, rfl⟩
      rw [hp] at cp
      have HPP := Aside0.mk hp
      clear hp
      go_wp2_with fail
      refine (croot_calls p _).mono ?_
      rintro e w3 ⟨rfl, hb3⟩
      have HR3 := Aside0.mk (blk_below HR.out hb3)
      have HO3 := Aside0.mk (blk_below HO.out hb3)
      have HP3 := Aside0.mk (blk_below HP.out hb3)
      have HB3 := Aside0.mk (below_step HB.out hb3)
      clear HR HO HP HB hb3 cp
      have cw := cell_at HO3.out t
      rw [us_at _ _ (by rw [fillL_length]; omega)] at cw
      have cf := free_at HO3.out t
      go_wp2
      go_roundg (64 - (t + 1))
      case measure => omega
      case rel =>
        refine ⟨t + 1, by omega, by go_num, ⟨(heap_other _ _ _ _ _ (by omega)).trans HR3.out⟩, ⟨?_⟩, ⟨(heap_other _ _ _ _ _ (by omega)).trans HP3.out⟩, ⟨below_set HB3.out (by omega)⟩⟩
        refine (heap_set HO3.out _ _).trans ?_
        rw [us_set, fillL, HPP.out]
    · obtain rfl : t = 64 := by omega
      clear hlt
      have HK : Aside0 (fillL (fun i => croot (primes64.getD i 0)) 64 64 = keysL) := ⟨by rw [fillL_full, range_getD primes64 croot 64 rfl]; exact cube_keys⟩
      rw [HK.out] at HO
      go_wp2_with (first | ((with_reducible refine gate_dst (N := 17) rfl ?_); refine load_ev (t := 69) (x := .tmp 1) (g := w.heap.size + 1) rfl rfl rfl Try.underlying69 rfl HO.out (by rw [us_size]; kernel_rfl) ?_) | ((with_reducible refine gate_store (t := 69) (p := 0) (v := .tmp 17) rfl ?_); refine store_row (t := 69) (p := 0) (y := .tmp 17) (g := w.heap.size) rfl rfl rfl rfl rfl HR.out (by rw [us_size]; kernel_rfl) (by unfold Z64; rw [us_size, us_size]; rfl) (us_one _) ?_; intro w6 hw6 ho6 hB6))
      refine ret_cell rfl Try.underlying69 rfl (by rw [us_size]; kernel_rfl) rfl hw6 rfl ?_
      exact ⟨rfl, HB.out.trans (hB6 _ (by omega))⟩
/-! ### a stream's cells -/
def stC (l : List Int) (r : Value) (m : Int) : Array Value := (l.map (Value.int .i64) ++ [r, .int .i64 m]).toArray
theorem stC_at (l : List Int) (r : Value) (m : Int) (i : Nat) (h : i < l.length) : (stC l r m)[i]? = some (.int .i64 (l.getD i 0)) := by
  simp [stC, List.getElem?_append, h]
theorem stC_set (l : List Int) (r : Value) (m : Int) (i : Nat) (x : Int) (h : i < l.length) : (stC l r m).setIfInBounds i (.int .i64 x) = stC (l.set i x) r m := by
  apply Array.ext'
  simp [stC, List.map_set, List.set_append, h]
theorem stC_one (l : List Int) (A : Option Addr) (n c : Nat) (m : Int) : (stC l (.slice A n c) m).all (·.oneCell') = true := by
  rw [Array.all_eq_true]
  intro i hi
  have : (stC l (.slice A n c) m)[i] ∈ l.map (Value.int .i64) ++ [.slice A n c, .int .i64 m] := by
    simp [stC]
  rcases List.mem_append.1 this with h | h
  · obtain ⟨x, _, e⟩ := List.mem_map.1 h
    rw [← e]
    rfl
  · simp at h
    rcases h with h | h <;> rw [h] <;> rfl
theorem stC_size (l : List Int) (r : Value) (m : Int) : (stC l r m).size = l.length + 2 := by simp [stC]
set_option maxHeartbeats 8000000 in
set_option maxRecDepth 100000 in
theorem newStream_calls (w : World) : Calls Try.prog 57 #[] w fun e w' => e = .returned (.agg (stC startV.l (.slice none 0 0) 0)) ∧ Below w.heap.size w w' := by
  go_enter Try.func57, Try.ntmps57
  go_wp2_with fail
  refine (impl_primes.calls 400 8 (primes64.take 8) _ primes_8).mono ?_
  rintro e w1 ⟨v, rfl, hv, hb⟩
  obtain ⟨gp, cap, cur, rfl, hgp, hcur, hat⟩ := int_raw hv (by decide)
  have hgp2 : w.heap.size + 2 ≤ gp := by rw [size_alloc, size_alloc] at hgp; exact hgp
  have HB := Aside0.mk (below_step (below_alloc (below_alloc (Below.refl w.heap.size w) _) _) hb)
  have HR : Aside0 (w1.heap[w.heap.size]? = some (.cells (stC (List.replicate 8 0) (.slice none 0 0) 0) 32 (0, 0))) := ⟨blk_below (blk_alloc (heap_alloc_last w _) _) hb⟩
  have HO : Aside0 (w1.heap[w.heap.size + 1]? = some (.cells (stC (List.replicate 8 0) (.slice none 0 0) 0) 32 (0, 0))) := ⟨blk_below (alloc_at (size_alloc w _) _) hb⟩
  have HP := Aside0.mk hcur
  have HAT := Aside0.mk hat
  clear hv hb hgp hcur hat
  go_wp2
  go_loopg [7] 8 (fun gk v7 wr => ∃ t : Nat, t + gk = 8 ∧ v7 = .int .i64 (t : Int) ∧ Aside0 (wr.heap[w.heap.size]? = some (.cells (stC (List.replicate 8 0) (.slice none 0 0) 0) 32 (0, 0))) ∧ Aside0 (wr.heap[w.heap.size + 1]? = some (.cells (stC (fillL (fun i => sroot ((primes64.take 8).getD i 0)) 8 t) (.slice none 0 0) 0) 32 (0, 0))) ∧ Aside0 (wr.heap[gp]? = some (.cells cur 80 (0, 0))) ∧ Aside0 (Below w.heap.size w wr))
  case atStart => exact ⟨0, rfl, rfl, HR, HO, HP, HB⟩
  case round =>
    clear HR HO HP HB
    obtain ⟨t, ht, rfl, HR, HO, HP, HB⟩ := hrel
    by_cases hlt : (t : Int) < 8
    · have ht2 : t < 8 := by omega
      have cp := (cell_at HP.out t).trans (HAT.out t ht2)
      obtain ⟨p, hp⟩ : ∃ p, (primes64.take 8).getD t 0 = p := ⟨_, rfl⟩
      rw [hp] at cp
      have HPP := Aside0.mk hp
      clear hp
      go_wp2_with fail
      refine (sroot_calls p _).mono ?_
      rintro e w3 ⟨rfl, hb3⟩
      have HR3 := Aside0.mk (blk_below HR.out hb3)
      have HO3 := Aside0.mk (blk_below HO.out hb3)
      have HP3 := Aside0.mk (blk_below HP.out hb3)
      have HB3 := Aside0.mk (below_step HB.out hb3)
      clear HR HO HP HB hb3 cp
      have cw := cell_at HO3.out t
      rw [stC_at _ _ _ _ (by rw [fillL_length]; omega)] at cw
      have cf := free_at HO3.out t
      have hs0 : 0 ≤ sroot p := Int.emod_nonneg _ (by decide)
      have hs1 : sroot p < 4294967296 := Int.emod_lt_of_pos _ (by decide)
      go_wp2
      go_roundg (8 - (t + 1))
      case measure => omega
      case rel =>
        refine ⟨t + 1, by omega, by go_num, ⟨(heap_other _ _ _ _ _ (by omega)).trans HR3.out⟩, ⟨?_⟩, ⟨(heap_other _ _ _ _ _ (by omega)).trans HP3.out⟩, ⟨below_set HB3.out (by omega)⟩⟩
        refine (heap_set HO3.out _ _).trans ?_
        rw [stC_set _ _ _ _ _ (by rw [fillL_length]; omega), fillL, HPP.out]
    · obtain rfl : t = 8 := by omega
      clear hlt
      have HK : Aside0 (fillL (fun i => sroot ((primes64.take 8).getD i 0)) 8 8 = startV.l) := ⟨by rw [fillL_full, range_getD (primes64.take 8) sroot 8 rfl]; exact square_start⟩
      rw [HK.out] at HO
      go_wp2_with (first | ((with_reducible refine gate_dst (N := 19) rfl ?_); refine load_ev (t := 32) (x := .tmp 1) (g := w.heap.size + 1) rfl rfl rfl Try.underlying32 rfl HO.out (by rw [stC_size]; kernel_rfl) ?_) | ((with_reducible refine gate_store (t := 32) (p := 0) (v := .tmp 19) rfl ?_); refine store_row (t := 32) (p := 0) (y := .tmp 19) (g := w.heap.size) rfl rfl rfl rfl rfl HR.out (by rw [stC_size]; kernel_rfl) (by rw [stC_size, stC_size]; rfl) (stC_one _ _ _ _ _) ?_; intro w6 hw6 ho6 hB6))
      refine ret_cell rfl Try.underlying32 rfl (by rw [stC_size]; kernel_rfl) rfl hw6 rfl ?_
      exact ⟨rfl, HB.out.trans (hB6 _ (by omega))⟩
end Go.Proofs.Ytgfhbkhbnmgogaa.GFnExactHmac.Hand
