import Derived.Test.YtmeobalddjembaaGFnStrictMarkFull
import Derived.Test.YtmeobalddjembaaGFnStrictx4
import Derived.Deep.RegionLawGrows
namespace Go.Proofs.Ytmeobalddjembaa.GFnStrict.Hand
open Go.RowKit Go.Proofs.YtmeobalddjembaaW.PrintWords Go.Proofs.YtmeobalddjembaaW.PrintLast Go.Proofs.YtmeobalddjembaaW.PrintMore
set_option linter.unusedVariables false
set_option linter.unusedSimpArgs false
/-! ### the bytes of an item, as a plain function -/
def lenB (n : Nat) : List Int := if n < 128 then [(n : Int) % 256] else if n < 256 then [129, (n : Int) % 256] else [130, ((n : Int) / 256) % 256, (n : Int) % 256]
def derK (f : Nat → List Int) (s : Nat → Option Nat) : Nat → Nat → List Int
  | 0, _ => []
  | c + 1, n => f n ++ derK f s c ((s n).getD 0)
def derW (tag : Int) (body : List Int) : List Int := (tag % 256) :: (lenB body.length ++ body)
def der (l : List S52) : Nat → Nat → List Int
  | 0, _ => []
  | g + 1, i => derW (rd_T52 l (i : Int)).f0 ((rd_T52 l (i : Int)).f1 ++ derK (der l g) (sk l g) ((rd_T52 l (i : Int)).f2).toNat (i + 1))
def wt (l : List S52) (i e : Nat) : Nat := ((List.range' i (e - i)).map (fun (j : Nat) => (rd_T52 l (j : Int)).f1.length + 4)).sum
theorem wt_split (l : List S52) {i m e : Nat} (h1 : i ≤ m) (h2 : m ≤ e) : wt l i e = wt l i m + wt l m e := by
  unfold wt
  rw [← List.sum_append, ← List.map_append, show e - i = (m - i) + (e - m) by omega, ← List.range'_append_1, show i + (m - i) = m by omega]
theorem wt_one (l : List S52) (i : Nat) : wt l i (i + 1) = (rd_T52 l (i : Int)).f1.length + 4 := by
  unfold wt
  rw [show i + 1 - i = 1 by omega]
  simp
theorem lenB_length (n : Nat) : (lenB n).length ≤ 3 ∧ 1 ≤ (lenB n).length := by
  unfold lenB
  split
  · simp
  · split <;> simp
theorem derK_le {l : List S52} {f : Nat → List Int} {s : Nat → Option Nat} {N : Nat} (hs : ∀ i e, s i = some e → i < e ∧ e ≤ N) (hf : ∀ i e, s i = some e → (f i).length ≤ wt l i e) : ∀ (c n e : Nat), n ≤ N → stepsN s c n = some e → (derK f s c n).length ≤ wt l n e
  | 0, n, e, _, _ => by simp [derK]
  | c + 1, n, e, hn, h => by
    unfold stepsN at h
    cases hx : s n with
    | none => rw [hx] at h; cases h
    | some m =>
      rw [hx] at h
      have h1 := hs _ _ hx
      have h2 := derK_le hs hf c m e (by omega) h
      have h3 := stepsN_le hs c m e (by omega) h
      have h4 := hf _ _ hx
      rw [wt_split l (by omega : n ≤ m) h3.1]
      simp only [derK, hx, List.length_append, Option.getD_some]
      omega
theorem der_le (l : List S52) : ∀ (g i e : Nat), sk l g i = some e → (der l g i).length ≤ wt l i e ∧ 2 ≤ (der l g i).length
  | 0, _, _, h => by cases h
  | g + 1, i, e, h => by
    have hle := sk_le l _ _ _ h
    unfold sk at h
    rw [if_pos (by omega)] at h
    have h1 := derK_le (l := l) (sk_le l g) (fun i e hx => (der_le l g i e hx).1) _ _ _ (by omega) h
    have h3 := stepsN_le (sk_le l g) _ _ _ (by omega) h
    have h4 := lenB_length ((rd_T52 l (i : Int)).f1 ++ derK (der l g) (sk l g) ((rd_T52 l (i : Int)).f2).toNat (i + 1)).length
    rw [wt_split l (by omega : i ≤ i + 1) (by omega), wt_one]
    simp only [der, derW, List.length_cons, List.length_append] at h4 ⊢
    omega
theorem kidsN_length' (f : Nat → Option Nat) : ∀ c n, (kidsN f c n).length = c := kidsN_length f
def encB (xs : List Int) : List Value := xs.map (Value.int .u8)
theorem C_cells {w : World} {A : Option Addr} {xs : List Int} (h : (Kd.int .u8).C w A xs.length xs) : ∀ b, A = some b → ∀ j u, (encB xs)[j]? = some u → w.cell? (b.add j) = some u := by
  intro b hb j u hu
  unfold encB at hu
  rw [List.getElem?_map] at hu
  cases hx : xs[j]? with
  | none => rw [hx] at hu; cases hu
  | some x =>
    rw [hx] at hu
    obtain rfl : Value.int .u8 x = u := Option.some.inj hu
    have hj : j < xs.length := (List.getElem?_eq_some_iff.1 hx).1
    obtain ⟨ad, e, hc⟩ := Kd.at_int h (j : Int) (by omega) (by omega)
    rw [hb] at e
    obtain rfl : b = ad := Option.some.inj e
    rw [Int.toNat_natCast] at hc
    rw [hc]
    simp [rd, hx, List.getD_eq_getElem?_getD]
theorem cut_full (A : Option Addr) (n c : Nat) (hc : n ≤ c) : ∀ W : World, (Instr.slice 38 (.slice A n c) none (some (.int .i64 (n : Int))) (some (.int .i64 (n : Int)))).run Try.prog W = .ok (.slice A n n) W := by
  intro W
  obtain ⟨i5, hi5, hs5⟩ : ∃ i5, Try.prog.info? 5 = some i5 ∧ i5.size = 1 := by
    obtain ⟨i5, h1, h2⟩ := Option.map_eq_some_iff.1 info5
    exact ⟨i5, h1, congrArg (fun q : Option Value × Nat × Nat => q.2.1) h2⟩
  have hel : Try.prog.elem 38 = 5 := by simp [Program.elem, Try.underlying38]
  have hu : Try.prog.underlying 38 = some (.slice (Try.prog.elem 38)) := by rw [hel]; exact Try.underlying38
  have ha : (A.map fun x => x.add 0) = A := by cases A <;> simp [Addr.add]
  rw [run_slice_hm W 38 A n c hu .i64 .i64 (n : Int) (n : Int) (by omega) (by omega) (by omega), hel]
  simp [sizeOf, typeInfo, hi5, sliced, Result.andThen, ha]
theorem below_of_grown {a b : World} (h : a.grownBy b none) : Below a.heap.size a b := ⟨h.os, h.tape, h.output, h.size, fun k hk => h.block k hk (by simp)⟩
theorem below_app {wr W w5 : World} {g : Nat} {row : Option Nat} (hW : Below wr.heap.size wr W) (hg : W.grownBy w5 row) (hr : row = some g) (hge : wr.heap.size ≤ g) : Below wr.heap.size wr w5 := pw_below_grown hW row hW.size hg (fun k e => by rw [hr] at e; have := Option.some.inj e; omega)
structure BInv (l : List S52) (w0 w wr : World) (g base0 : Nat) (ok0 : Nat → Prop) (kv : Value) (places : List Nat) (A3 : Option Addr) (c3 : Nat) (cur : List Int) : Prop where
  below : Below w.heap.size w wr
  row : (Kd.int .u8).C wr A3 cur.length cur
  cap : cur.length ≤ c3
set_option maxHeartbeats 4000000 in
set_option maxRecDepth 100000 in
theorem bytes_try (l : List S52) (w0 : World) (hm : l.length ≤ 1000) (hkb : ∀ j : Nat, j < l.length → 0 ≤ (rd_T52 l (j : Int)).f2 ∧ (rd_T52 l (j : Int)).f2 ≤ 300) (hwt : wt l 0 l.length ≤ 60000)
    (g : Nat) (ih : ∀ (i e : Nat) (w : World) (base0 : Nat) (ok0 : Nat → Prop) (cs : List Value), Below w0.heap.size w0 w → sk l g i = some e → (kN l w0 g).M w base0 ok0 i cs → Calls Try.prog 56 #[.agg cs.toArray] w fun ex w' =>
      ∃ (A : Option Addr) (c : Nat), ex = .returned (.slice A (der l g i).length c) ∧ (Kd.int .u8).R 5 w' w.heap.size (fun _ => True) (.slice A (der l g i).length c) (der l g i) ∧ Below w.heap.size w w')
    (i e : Nat) (w : World) (base0 : Nat) (ok0 : Nat → Prop) (cs : List Value) (hB : Below w0.heap.size w0 w) (h : sk l (g + 1) i = some e) (hM : (kN l w0 (g + 1)).M w base0 ok0 i cs) : Calls Try.prog 56 #[.agg cs.toArray] w fun ex w' =>
      ∃ (A : Option Addr) (c : Nat), ex = .returned (.slice A (der l (g + 1) i).length c) ∧ (Kd.int .u8).R 5 w' w.heap.size (fun _ => True) (.slice A (der l (g + 1) i).length c) (der l (g + 1) i) ∧ Below w.heap.size w w' := by
  have hle := sk_le l _ _ _ h
  have hdl := (der_le l _ _ _ h).1
  have hi : i < l.length := by omega
  obtain ⟨A1, c1, kv, rfl, hl1, hb1, hk⟩ := kN_open hM
  obtain ⟨Ak, ck, rfl⟩ := Kd.R_slice hk
  unfold sk at h
  rw [if_pos hi] at h
  have hki := hkb i hi
  have hw1 := wt_split l (i := 0) (m := i) (e := l.length) (by omega) (by omega)
  have hw2 := wt_split l (i := i) (m := e) (e := l.length) (by omega) (by omega)
  have hw3 := wt_split l (i := i) (m := i + 1) (e := e) (by omega) (by omega)
  have hw4 := wt_one l i
  obtain ⟨cnt, hcnt⟩ : ∃ cnt : Nat, (rd_T52 l (i : Int)).f2 = (cnt : Int) := ⟨_, (Int.toNat_of_nonneg hki.1).symm⟩
  have hkl : (kidsN (sk l g) ((rd_T52 l (i : Int)).f2).toNat (i + 1)).length = cnt := by rw [kidsN_length', hcnt]; rfl
  rw [hkl] at hk ⊢
  have HDER : Aside0 (der l (g + 1) i = derW (rd_T52 l (i : Int)).f0 ((rd_T52 l (i : Int)).f1 ++ derK (der l g) (sk l g) cnt (i + 1))) := ⟨by
    show derW _ _ = _
    rw [hcnt]
    rfl⟩
  clear hkl
  rw [hcnt, Int.toNat_natCast] at h hk
  rw [hcnt] at hki
  have hdk := derK_le (l := l) (sk_le l g) (fun i e hx => (der_le l g i e hx).1) _ _ _ (by omega) h
  have HDK := Aside0.mk hdk
  have HS := Aside0.mk h
  have HK := Aside0.mk hk
  have HB := Aside0.mk hB
  have HBODY := Aside0.mk (Kd.C_below hb1 hB)
  have HKB := Aside0.mk hkb
  have IH := Aside0.mk ih
  have HW : Aside0 ((rd_T52 l (i : Int)).f1.length + 4 + wt l (i + 1) e ≤ 60000) := ⟨by omega⟩
  have HWT : Aside0 (∀ n m : Nat, i + 1 ≤ n → n ≤ m → m ≤ e → wt l n m ≤ 60000) := ⟨by
    intro n m h1 h2 h3
    have q1 := wt_split l (i := 0) (m := n) (e := l.length) (by omega) (by omega)
    have q2 := wt_split l (i := n) (m := m) (e := l.length) (by omega) (by omega)
    omega⟩
  have hsm : (rd_T52 l (i : Int)).f1.length + wt l (i + 1) e ≤ 60000 := by omega
  clear h hk hB hb1 hkb ih hM hcnt hwt hdl hw1 hw2 hw3 hw4 hdk
  obtain ⟨tag, ht⟩ : ∃ tag, (rd_T52 l (i : Int)).f0 = tag := ⟨_, rfl⟩
  obtain ⟨body, hbody⟩ : ∃ body, (rd_T52 l (i : Int)).f1 = body := ⟨_, rfl⟩
  rw [ht, hbody] at HDER
  rw [hbody] at HBODY hl1 HW hsm
  rw [ht, hbody]
  rw [HDER.out]
  clear ht hbody
  obtain ⟨bl, hbl⟩ : ∃ bl, body.length = bl := ⟨_, rfl⟩
  rw [hbl] at HBODY hl1 HW hsm
  rw [hbl]
  have HBL := Aside0.mk hbl
  clear hbl
  obtain ⟨mk, hmk⟩ : ∃ mk, mk = cnt := ⟨_, rfl⟩
  subst hmk
  show Calls Try.prog 56 #[.agg #[.int .i64 tag, .slice A1 bl c1, .slice Ak mk ck]] w _
  have hu := Try.underlying63
  go_enter Try.func56, Try.ntmps56
  go_wp2
  have hsz := size_al w (.cells #[.int .i64 tag, .slice A1 bl c1, .slice Ak mk ck] 63)
  have HSZ := Aside0.mk hsz
  clear hsz
  have BX : Aside0 ((w.alloc (.cells #[.int .i64 tag, .slice A1 bl c1, .slice Ak mk ck] 63)).heap[w.heap.size]? = some (.cells #[.int .i64 tag, .slice A1 bl c1, .slice Ak mk ck] 63 (0, 0))) := ⟨blk_al_new _ _⟩
  go_loopg [3, 13] mk (fun gk v3 v13 wr => ∃ (k n : Nat) (A3 : Option Addr) (c3 N : Nat) (cur : List Int), k + gk = mk ∧ v13 = .int .i64 (k : Int) ∧ v3 = .slice A3 N c3 ∧ n ≤ e ∧ i + 1 ≤ n ∧ N ≤ bl + wt l (i + 1) n ∧ N ≤ c3 ∧ Aside0 (cur.length = N) ∧ Aside0 (stepsN (sk l g) gk n = some e) ∧ Aside0 ((kidsN (sk l g) mk (i + 1)).drop k = kidsN (sk l g) gk n) ∧ Aside0 (cur ++ derK (der l g) (sk l g) gk n = body ++ derK (der l g) (sk l g) mk (i + 1)) ∧
    Aside0 (Below w.heap.size w wr) ∧ Aside0 (wr.heap[w.heap.size]? = some (.cells #[.int .i64 tag, .slice A1 bl c1, .slice Ak mk ck] 63 (0, 0))) ∧ Aside0 ((Kd.int .u8).C wr A3 N cur))
  case atStart =>
    refine ⟨0, i + 1, A1, c1, bl, body, by omega, rfl, rfl, by omega, by omega, by omega, hl1, HBL, HS, ⟨rfl⟩, ⟨rfl⟩, ⟨below_alloc (Below.refl _ _) _⟩, BX, ⟨Kd.C_alloc HBODY.out _⟩⟩
  case round =>
    obtain ⟨k, n, A3, c3, N, cur, hk, rfl, rfl, hn, hin, hN1, hN2, HL3, HS2, HD, HC2, HBr, HX, HR⟩ := hrel
    by_cases hlt : (k : Int) < (mk : Int)
    · obtain ⟨gk, rfl⟩ : ∃ q, gk = q + 1 := ⟨gk - 1, by omega⟩
      obtain ⟨m, hs, hS2⟩ : ∃ m, sk l g n = some m ∧ stepsN (sk l g) gk m = some e := by
        have := HS2.out
        unfold stepsN at this
        cases hf : sk l g n with
        | none => rw [hf] at this; cases this
        | some m => rw [hf] at this; exact ⟨m, rfl, this⟩
      have hle2 := sk_le l _ _ _ hs
      have hme := stepsN_le (sk_le l g) _ _ _ (by omega) hS2
      have hd2 := der_le l _ _ _ hs
      have hat : (kidsN (sk l g) mk (i + 1)).getD (k : Int).toNat 0 = n := by
        have h1 := congrArg (fun q => q[0]?) HD.out
        simp only [List.getElem?_drop, Nat.add_zero] at h1
        rw [Int.toNat_natCast, List.getD_eq_getElem?_getD, h1]
        rfl
      have hdr : (kidsN (sk l g) mk (i + 1)).drop (k + 1) = kidsN (sk l g) gk m := by
        have h1 := congrArg (fun q => q.drop 1) HD.out
        simp only [List.drop_drop] at h1
        rw [h1]
        simp [kidsN, hs]
      have hdk : derK (der l g) (sk l g) (gk + 1) n = der l g n ++ derK (der l g) (sk l g) gk m := by
        show der l g n ++ derK (der l g) (sk l g) gk ((sk l g n).getD 0) = _
        rw [hs]
        rfl
      obtain ⟨_, hO⟩ := Kd.R_below HK.out HBr.out
      obtain ⟨Aq, cq, heq, hcq, hrr⟩ := hO.reads
      rw [kidsN_length'] at heq hcq hrr
      injection heq with q1 q2 q3
      subst q1 q3
      obtain ⟨ad, cs, rfl, hcl2, hMM, hcell⟩ := hrr.get_ 0 (k : Int) (by omega) hlt
      rw [hat] at hMM
      have HMM := Aside0.mk hMM
      have hg : ∃ g', g = g' + 1 := by
        cases g with
        | zero => cases hs
        | succ g' => exact ⟨g', rfl⟩
      have hfm : ∃ (t' : Int) (Ab : Option Addr) (nb cb : Nat) (Ac : Option Addr) (nc cc : Nat), cs = [.int .i64 t', .slice Ab nb cb, .slice Ac nc cc] := by
        obtain ⟨g', rfl⟩ := hg
        obtain ⟨Ab, cb, kv2, e1, _, _, hR2⟩ := kN_open hMM
        obtain ⟨Ac, cc, rfl⟩ := Kd.R_slice hR2
        exact ⟨_, _, _, _, _, _, _, e1⟩
      obtain ⟨t', Ab, nb, cb, Ac, nc, cc, rfl⟩ := hfm
      rw [kN_sz, Int.toNat_natCast] at hcell
      have x0 : wr.cell? (ad.add (k * 3)) = some (.int .i64 t') := hcell 0 _ rfl
      have x1 : wr.cell? ⟨(ad.add (k * 3)).block, (ad.add (k * 3)).off + 1, none⟩ = some (.slice Ab nb cb) := by rw [← add_field _ _ 1 (by omega)]; exact hcell 1 _ rfl
      have x2 : wr.cell? ⟨(ad.add (k * 3)).block, (ad.add (k * 3)).off + 2, none⟩ = some (.slice Ac nc cc) := by rw [← add_field _ _ 2 (by omega)]; exact hcell 2 _ rfl
      have hcut := cut_full A3 N c3 hN2
      have hwb := HWT.out n m (by omega) (by omega) hme.1
      have hws := wt_split l (i := i + 1) (m := n) (e := m) (by omega) (by omega)
      have hwm := HWT.out (i + 1) m (by omega) (by omega) (by omega)
      have HSM := Aside0.mk hs
      have HS3 := Aside0.mk hS2
      have HD3 := Aside0.mk hdr
      have HDK2 := Aside0.mk hdk
      have HWS := Aside0.mk hws
      obtain ⟨dl, hdl⟩ : ∃ dl, (der l g n).length = dl := ⟨_, rfl⟩
      rw [hdl] at hd2
      have HDL := Aside0.mk hdl
      clear hs hS2 hat hdr hO hrr hMM hcell hcl2 hg HS2 HD hdk hdl hws
      have hsz1 := size_al wr (.cells #[.int .i64 t', .slice Ab nb cb, .slice Ac nc cc] 63)
      have hcall : Calls Try.prog 56 #[.agg #[.int .i64 t', .slice Ab nb cb, .slice Ac nc cc]] (wr.alloc (.cells #[.int .i64 t', .slice Ab nb cb, .slice Ac nc cc] 63)).drew fun ex w' => ∃ (adk : Addr) (ck2 : Nat), ex = .returned (.slice (some adk) dl ck2) ∧ Aside0 ((Kd.int .u8).C w' (some adk) dl (der l g n)) ∧ Aside0 (Below wr.heap.size wr w') ∧
          w'.cell? ⟨wr.heap.size, 0, none⟩ = some (.int .i64 t') ∧ w'.cell? ⟨wr.heap.size, 1, none⟩ = some (.slice Ab nb cb) ∧ w'.cell? ⟨wr.heap.size, 2, none⟩ = some (.slice Ac nc cc) := by
        have hbw1 : Below wr.heap.size wr (wr.alloc (.cells #[.int .i64 t', .slice Ab nb cb, .slice Ac nc cc] 63)).drew := below_drew (below_alloc (Below.refl _ _) _)
        refine (IH.out n m (wr.alloc (.cells #[.int .i64 t', .slice Ab nb cb, .slice Ac nc cc] 63)).drew base0 _ [.int .i64 t', .slice Ab nb cb, .slice Ac nc cc] (below_then (below_then HB.out HB.out.size HBr.out) (by have := HB.out.size; have := HBr.out.size; omega) hbw1) HSM.out ((kN l w0 g).M_mono (fun _ h => h) (Kd.M_below HMM.out hbw1))).mono ?_
        rintro ex w' ⟨A, c, rfl, ho, hb⟩
        rw [HDL.out] at ho ⊢
        have hb' : Below (wr.heap.size + 1) (wr.alloc (.cells #[.int .i64 t', .slice Ab nb cb, .slice Ac nc cc] 63)) w' := by
          have e : (wr.alloc (.cells #[.int .i64 t', .slice Ab nb cb, .slice Ac nc cc] 63)).drew.heap.size = wr.heap.size + 1 := hsz1
          rw [e] at hb
          exact ⟨hb.os, hb.tape, hb.output, hb.size, hb.block⟩
        have k0 : w'.heap[wr.heap.size]? = some (.cells #[.int .i64 t', .slice Ab nb cb, .slice Ac nc cc] 63 (0, 0)) := (hb'.block _ (by omega)).trans (blk_al_new _ _)
        have hC := (Kd.R_reads' ho).2.2
        rw [HDL.out] at hC
        have hsome : ∃ adk, A = some adk := by
          obtain ⟨adk, e, _⟩ := hC.2.2 (by omega)
          exact ⟨adk, e⟩
        obtain ⟨adk, rfl⟩ := hsome
        exact ⟨adk, c, rfl, ⟨hC⟩, ⟨below_then (below_alloc (Below.refl _ _) _) (by rw [hsz1]; omega) (by rw [hsz1]; exact hb')⟩, cell_at k0 0, cell_at k0 1, cell_at k0 2⟩
      have hNb : N + dl ≤ 300000 := by
        have h9 := HWT.out (i + 1) n (Nat.le_refl _) hin (by omega)
        omega
      have HCALL := Aside0.mk hcall
      obtain ⟨i5, hi5, hz5⟩ := Option.map_eq_some_iff.1 info5
      have hi0 : i5.zero = some (.int .u8 0) := congrArg (fun q : Option Value × Nat × Nat => q.1) hz5
      have hi1 : i5.size = 1 := congrArg (fun q : Option Value × Nat × Nat => q.2.1) hz5
      have hi2 : i5.bytes = 1 := congrArg (fun q : Option Value × Nat × Nat => q.2.2) hz5
      have HI5 : Aside0 (Try.prog.info? 5 = some i5 ∧ i5.zero = some (.int .u8 0) ∧ i5.size = 1 ∧ i5.bytes = 1) := ⟨hi5, hi0, hi1, hi2⟩
      have pN : (0 : Int) ≤ (N : Int) := by omega
      clear hcall hsz1 hi5 hz5 hi0 hi1 hi2
      go_upto_region 5 with (fail)
      have m0 : (wr.alloc (.cells #[.int .i64 t', .slice Ab nb cb, .slice Ac nc cc] 63)).cell? ⟨wr.heap.size, 0, none⟩ = some (.int .i64 t') := cell_at (blk_al_new _ _) 0
      have m1 : (wr.alloc (.cells #[.int .i64 t', .slice Ab nb cb, .slice Ac nc cc] 63)).cell? ⟨wr.heap.size, 1, none⟩ = some (.slice Ab nb cb) := cell_at (blk_al_new _ _) 1
      have m2 : (wr.alloc (.cells #[.int .i64 t', .slice Ab nb cb, .slice Ac nc cc] 63)).cell? ⟨wr.heap.size, 2, none⟩ = some (.slice Ac nc cc) := cell_at (blk_al_new _ _) 2
      go_region_held3 (fun w' => w'.cell? ⟨wr.heap.size, 0, none⟩ = some (.int .i64 t') ∧ w'.cell? ⟨wr.heap.size, 1, none⟩ = some (.slice Ab nb cb) ∧ w'.cell? ⟨wr.heap.size, 2, none⟩ = some (.slice Ac nc cc)) (go_keep) ((first
        | (go_at_call 56; refine HCALL.out.mono ?_; rintro ex w2 ⟨adk, ck2, rfl, HKC, HKB2, n0, n1, n2⟩)
        | (refine step_append_grows rfl (.tmp 22) (.tmp 24) 38 rfl 5 i5 (.int .u8 0) 1 1 Try.underlying38 HI5.out.1 HI5.out.2.1 HI5.out.2.2.1 HI5.out.2.2.2 rfl (by decide) A3 N N (encB cur) (by rfl) ?h1 ?h2 ?h3 adk dl ck2 (encB (der l g n)) (by rfl) ?h4 ?h5 ?h6 ?h7 ?h8 ?h9 ?_; (case h1 => intro e0; have : ¬ (0 < N) := (fun hp => (by obtain ⟨ad0, e1, _⟩ := HR.out.2.2 hp; rw [e0] at e1; cases e1)); omega); (case h2 => simp [encB, HL3.out]); (case h3 => exact C_cells (by rw [HL3.out]; exact Kd.C_below HR.out HKB2.out)); (case h4 => simp [encB, HDL.out]); (case h5 => exact C_cells (A := some adk) (by rw [HDL.out]; exact HKC.out) adk rfl); (case h6 => intro u hu; obtain ⟨x, _, rfl⟩ := List.mem_map.1 hu; rfl); (case h7 => omega); (case h8 => unfold maxLen; omega); (case h9 => omega); intro v5 w5 hown hgrow; have hle5 : (cur ++ der l g n).length = N + dl := (by rw [List.length_append, HL3.out, HDL.out]); have hR5 : (Kd.int .u8).R 5 w5 w2.heap.size (fun _ => True) v5 (cur ++ der l g n) := Kd.R_of_own (enc := Value.int .u8) (by rw [hle5, encs_append]; exact hown) (fun _ _ => trivial); obtain ⟨A6, c6, rfl⟩ := Kd.R_slice hR5; have hC5 := Kd.R_reads' hR5; rw [hle5] at hC5 ⊢; have hbg : Below w2.heap.size w2 w5 := below_of_grown hgrow; have HC5 := Aside0.mk hC5.2.2; have HD5 := Aside0.mk hC5.2.1; have HB5 := Aside0.mk (below_then HKB2.out HKB2.out.size hbg); have q0 := pw_cell_below hbg n0; have q1 := pw_cell_below hbg n1; have q2 := pw_cell_below hbg n2; clear hown hgrow hR5 hC5 hbg hle5)))
      have HL6 : Aside0 ((cur ++ der l g n).length = N + dl) := ⟨by rw [List.length_append, HL3.out, HDL.out]⟩
      clear m0 m1 m2 n0 n1 n2 q0 q1 q2 x0 x1 x2 hcut
      go_wp2
      go_roundg gk
      case measure => omega
      case rel =>
        have h1 := HWS.out
        refine ⟨k + 1, m, A6, c6, N + dl, cur ++ der l g n, by omega, rfl, rfl, by omega, by omega, by omega, HD5.out, HL6, HS3, HD3, ⟨?_⟩, ⟨below_then HBr.out HBr.out.size HB5.out⟩, ⟨(HB5.out.block _ (Array.getElem?_eq_some_iff.1 HX.out).1).trans HX.out⟩, HC5⟩
        rw [← HC2.out, HDK2.out, List.append_assoc]
    · obtain rfl : gk = 0 := by omega
      have e1 : n = e := Option.some.inj HS2.out
      subst e1
      have hcur : cur = body ++ derK (der l g) (sk l g) mk (i + 1) := by
        have := HC2.out
        simpa [derK] using this
      have HCUR := Aside0.mk hcur
      clear hcur
      have x0 : wr.cell? ⟨w.heap.size, 0, none⟩ = some (.int .i64 tag) := cell_at HX.out 0
      have hNb : N ≤ 120000 := by
        have h9 := HWT.out (i + 1) n (Nat.le_refl _) hin (by omega)
        omega
      have hblk := blk_al_new wr (.cells #[.int .u8 (tag % 256)] 5)
      have HOUT : Aside0 ((Kd.int .u8).R 5 (wr.alloc (.cells #[.int .u8 (tag % 256)] 5)) w.heap.size (fun _ => True) (.slice (some ⟨wr.heap.size, 0, none⟩) 1 1) [tag % 256]) := ⟨Kd.R_of_own (enc := Value.int .u8) ⟨rfl, .inr ⟨wr.heap.size, 1, #[.int .u8 (tag % 256)], rfl, HBr.out.size, hblk, Nat.le_refl _, by decide, rfl, rfl⟩⟩ (fun _ _ => trivial)⟩
      have HB1 : Aside0 (Below w.heap.size w (wr.alloc (.cells #[.int .u8 (tag % 256)] 5))) := ⟨below_alloc HBr.out _⟩
      have HR1 := Aside0.mk (Kd.C_alloc HR.out (.cells #[.int .u8 (tag % 256)] 5))
      have HBX : Aside0 (Below wr.heap.size wr (wr.alloc (.cells #[.int .u8 (tag % 256)] 5))) := ⟨below_alloc (Below.refl _ _) _⟩
      clear hblk
      go_upto_region 8 with (fail)
      generalize wr.alloc (.cells #[.int .u8 (tag % 256)] 5) = W1 at HOUT HB1 HR1 HBX ⊢
      by_cases d1 : N < 128
      · have hl1 : (Kd.int .u8).C (W1.alloc (.cells #[.int .u8 (N : Int)] 5)) (some ⟨W1.heap.size, 0, none⟩) 1 [(N : Int)] := ints_C (ys := [(N : Int)]) (blk_al_new _ _) (fun j hj => by match j, hj with | 0, _ => rfl) (by simp)
        have HL := Aside0.mk hl1
        have HO1 := Aside0.mk (Kd.R_alloc HOUT.out (.cells #[.int .u8 (N : Int)] 5))
        have HB2 := Aside0.mk (below_alloc HB1.out (.cells #[.int .u8 (N : Int)] 5))
        have HR2 := Aside0.mk (Kd.C_alloc HR1.out (.cells #[.int .u8 (N : Int)] 5))
        clear hl1
        go_upto_region 14 with (at_builtin; refine Kd.R_append_rows (Kd.int .u8) (w0 := w) w.heap.size rfl (.tmp 44) (.tmp 47) 38 5 (.int .u8 0) 1 rfl Try.underlying38 info5 rfl (by decide) (by omega) (.slice (some ⟨wr.heap.size, 0, none⟩) 1 1) [tag % 256] [(N : Int)] (some ⟨W1.heap.size, 0, none⟩) 1 1 (fun _ => True) (fun _ => False) rfl rfl HO1.out HL.out (fun _ _ h => h) (fun _ h => h.elim) (fun _ _ => trivial) HB2.out HB2.out.size (by simp) ?_; intro v5 w5 ho hb hg hat; obtain ⟨A5, c5, rfl⟩ := Kd.R_slice ho; have HO5 := Aside0.mk ho; have HB5 := Aside0.mk hb; have HG5 : Aside0 (Below wr.heap.size wr w5) := ⟨below_app (below_alloc HBX.out _) hg rfl (Nat.le_refl _)⟩; clear ho hb hg hat)
        go_wp2_with (at_builtin; refine Kd.R_append_rows (Kd.int .u8) (w0 := w) w.heap.size rfl (.tmp 57) (.tmp 58) 38 5 (.int .u8 0) 1 rfl Try.underlying38 info5 rfl (by decide) (by omega) (.slice A5 2 c5) ([tag % 256] ++ [(N : Int)]) cur A3 N c3 (fun _ => True) (fun _ => False) rfl rfl HO5.out (Kd.C_below HR.out HG5.out) (fun _ _ h => h) (fun _ h => h.elim) (fun _ _ => trivial) HB5.out HB5.out.size (by simp; omega) ?_; intro v6 w6 ho hb hg hat; obtain ⟨A6, c6, rfl⟩ := Kd.R_slice ho; have HO6 := Aside0.mk ho; have HB6 := Aside0.mk hb; clear ho hb hg hat)
        go_ret
        have hfin : derW tag (body ++ derK (der l g) (sk l g) mk (i + 1)) = ([tag % 256] ++ [(N : Int)]) ++ cur := by
          rw [← HCUR.out]
          unfold derW lenB
          rw [HL3.out]
          rw [if_pos d1, show ((N : Int) % 256) = (N : Int) by omega]; rfl
        rw [hfin]
        exact ⟨A6, c6, (by first | rfl | (simp; done)), HO6.out, HB6.out⟩
      · by_cases d2 : N < 256
        · have hl1 : (Kd.int .u8).C (W1.alloc (.cells #[.int .u8 129, .int .u8 (N : Int)] 5)) (some ⟨W1.heap.size, 0, none⟩) 2 [129, (N : Int)] := ints_C (ys := [129, (N : Int)]) (blk_al_new _ _) (fun j hj => by match j, hj with | 0, _ => rfl | 1, _ => rfl) (by simp)
          have HL := Aside0.mk hl1
          have HO1 := Aside0.mk (Kd.R_alloc HOUT.out (.cells #[.int .u8 129, .int .u8 (N : Int)] 5))
          have HB2 := Aside0.mk (below_alloc HB1.out (.cells #[.int .u8 129, .int .u8 (N : Int)] 5))
          have HR2 := Aside0.mk (Kd.C_alloc HR1.out (.cells #[.int .u8 129, .int .u8 (N : Int)] 5))
          clear hl1
          go_upto_region 14 with (at_builtin; refine Kd.R_append_rows (Kd.int .u8) (w0 := w) w.heap.size rfl (.tmp 52) (.tmp 55) 38 5 (.int .u8 0) 1 rfl Try.underlying38 info5 rfl (by decide) (by omega) (.slice (some ⟨wr.heap.size, 0, none⟩) 1 1) [tag % 256] [129, (N : Int)] (some ⟨W1.heap.size, 0, none⟩) 2 2 (fun _ => True) (fun _ => False) rfl rfl HO1.out HL.out (fun _ _ h => h) (fun _ h => h.elim) (fun _ _ => trivial) HB2.out HB2.out.size (by simp) ?_; intro v5 w5 ho hb hg hat; obtain ⟨A5, c5, rfl⟩ := Kd.R_slice ho; have HO5 := Aside0.mk ho; have HB5 := Aside0.mk hb; have HG5 : Aside0 (Below wr.heap.size wr w5) := ⟨below_app (below_alloc HBX.out _) hg rfl (Nat.le_refl _)⟩; clear ho hb hg hat)
          go_wp2_with (at_builtin; refine Kd.R_append_rows (Kd.int .u8) (w0 := w) w.heap.size rfl (.tmp 57) (.tmp 58) 38 5 (.int .u8 0) 1 rfl Try.underlying38 info5 rfl (by decide) (by omega) (.slice A5 3 c5) ([tag % 256] ++ [129, (N : Int)]) cur A3 N c3 (fun _ => True) (fun _ => False) rfl rfl HO5.out (Kd.C_below HR.out HG5.out) (fun _ _ h => h) (fun _ h => h.elim) (fun _ _ => trivial) HB5.out HB5.out.size (by simp; omega) ?_; intro v6 w6 ho hb hg hat; obtain ⟨A6, c6, rfl⟩ := Kd.R_slice ho; have HO6 := Aside0.mk ho; have HB6 := Aside0.mk hb; clear ho hb hg hat)
          go_ret
          have hfin : derW tag (body ++ derK (der l g) (sk l g) mk (i + 1)) = ([tag % 256] ++ [129, (N : Int)]) ++ cur := by
            rw [← HCUR.out]
            unfold derW lenB
            rw [HL3.out]
            rw [if_neg d1, if_pos d2, show ((N : Int) % 256) = (N : Int) by omega]; rfl
          rw [hfin]
          exact ⟨A6, c6, (by first | rfl | (simp; done)), HO6.out, HB6.out⟩
        · have hl1 : (Kd.int .u8).C (W1.alloc (.cells #[.int .u8 130, .int .u8 ((N : Int) / 256), .int .u8 ((N : Int) % 256)] 5)) (some ⟨W1.heap.size, 0, none⟩) 3 [130, (N : Int) / 256, (N : Int) % 256] := ints_C (ys := [130, (N : Int) / 256, (N : Int) % 256]) (blk_al_new _ _) (fun j hj => by match j, hj with | 0, _ => rfl | 1, _ => rfl | 2, _ => rfl) (by simp)
          have HL := Aside0.mk hl1
          have HO1 := Aside0.mk (Kd.R_alloc HOUT.out (.cells #[.int .u8 130, .int .u8 ((N : Int) / 256), .int .u8 ((N : Int) % 256)] 5))
          have HB2 := Aside0.mk (below_alloc HB1.out (.cells #[.int .u8 130, .int .u8 ((N : Int) / 256), .int .u8 ((N : Int) % 256)] 5))
          have HR2 := Aside0.mk (Kd.C_alloc HR1.out (.cells #[.int .u8 130, .int .u8 ((N : Int) / 256), .int .u8 ((N : Int) % 256)] 5))
          clear hl1
          go_upto_region 14 with (at_builtin; refine Kd.R_append_rows (Kd.int .u8) (w0 := w) w.heap.size rfl (.tmp 33) (.tmp 39) 38 5 (.int .u8 0) 1 rfl Try.underlying38 info5 rfl (by decide) (by omega) (.slice (some ⟨wr.heap.size, 0, none⟩) 1 1) [tag % 256] [130, (N : Int) / 256, (N : Int) % 256] (some ⟨W1.heap.size, 0, none⟩) 3 3 (fun _ => True) (fun _ => False) rfl rfl HO1.out HL.out (fun _ _ h => h) (fun _ h => h.elim) (fun _ _ => trivial) HB2.out HB2.out.size (by simp) ?_; intro v5 w5 ho hb hg hat; obtain ⟨A5, c5, rfl⟩ := Kd.R_slice ho; have HO5 := Aside0.mk ho; have HB5 := Aside0.mk hb; have HG5 : Aside0 (Below wr.heap.size wr w5) := ⟨below_app (below_alloc HBX.out _) hg rfl (Nat.le_refl _)⟩; clear ho hb hg hat)
          go_wp2_with (at_builtin; refine Kd.R_append_rows (Kd.int .u8) (w0 := w) w.heap.size rfl (.tmp 57) (.tmp 58) 38 5 (.int .u8 0) 1 rfl Try.underlying38 info5 rfl (by decide) (by omega) (.slice A5 4 c5) ([tag % 256] ++ [130, (N : Int) / 256, (N : Int) % 256]) cur A3 N c3 (fun _ => True) (fun _ => False) rfl rfl HO5.out (Kd.C_below HR.out HG5.out) (fun _ _ h => h) (fun _ h => h.elim) (fun _ _ => trivial) HB5.out HB5.out.size (by simp; omega) ?_; intro v6 w6 ho hb hg hat; obtain ⟨A6, c6, rfl⟩ := Kd.R_slice ho; have HO6 := Aside0.mk ho; have HB6 := Aside0.mk hb; clear ho hb hg hat)
          go_ret
          have hfin : derW tag (body ++ derK (der l g) (sk l g) mk (i + 1)) = ([tag % 256] ++ [130, (N : Int) / 256, (N : Int) % 256]) ++ cur := by
            rw [← HCUR.out]
            unfold derW lenB
            rw [HL3.out]
            rw [if_neg d1, if_neg d2, show ((N : Int) / 256 % 256) = (N : Int) / 256 by omega]; rfl
          rw [hfin]
          exact ⟨A6, c6, (by first | rfl | (simp; done)), HO6.out, HB6.out⟩
theorem bytes_calls (l : List S52) (w0 : World) (hm : l.length ≤ 1000) (hkb : ∀ j : Nat, j < l.length → 0 ≤ (rd_T52 l (j : Int)).f2 ∧ (rd_T52 l (j : Int)).f2 ≤ 300) (hwt : wt l 0 l.length ≤ 60000) :
    ∀ (g i e : Nat) (w : World) (base0 : Nat) (ok0 : Nat → Prop) (cs : List Value), Below w0.heap.size w0 w → sk l g i = some e → (kN l w0 g).M w base0 ok0 i cs → Calls Try.prog 56 #[.agg cs.toArray] w fun ex w' =>
      ∃ (A : Option Addr) (c : Nat), ex = .returned (.slice A (der l g i).length c) ∧ (Kd.int .u8).R 5 w' w.heap.size (fun _ => True) (.slice A (der l g i).length c) (der l g i) ∧ Below w.heap.size w w'
  | 0, i, e, w, base0, ok0, cs, _, h, _ => by cases h
  | g + 1, i, e, w, base0, ok0, cs, hB, h, hM => bytes_try l w0 hm hkb hwt g (fun i e w base0 ok0 cs hB h hM => bytes_calls l w0 hm hkb hwt g i e w base0 ok0 cs hB h hM) i e w base0 ok0 cs hB h hM
end Go.Proofs.Ytmeobalddjembaa.GFnStrict.Hand
