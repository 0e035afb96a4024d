import Derived.Test.YtmeobalddjembaaGFnTreesMarkFull
import Derived.Test.YtmeobalddjembaaGFnTreesx3
namespace Go.Proofs.Ytmeobalddjembaa.GFnTrees.Hand
open Go.RowKit Go.Proofs.YtmeobalddjembaaW.PrintWords Go.Proofs.YtmeobalddjembaaW.PrintLast Go.Proofs.YtmeobalddjembaaW.PrintMore
set_option linter.unusedVariables false
set_option linter.unusedSimpArgs false
/-! ### impl.Part: function 22 -/
set_option maxHeartbeats 4000000 in
set_option maxRecDepth 100000 in
theorem Part_true (l : List S52) (A0 : Option Addr) (c0 i e k : Nat) (w : World) (hr0 : Kd.C k52 w A0 l.length l) (hc0 : l.length ≤ c0) (hm : l.length ≤ 1000) (hkb : ∀ j : Nat, j < l.length → 0 ≤ (rd_T52 l (j : Int)).f2 ∧ (rd_T52 l (j : Int)).f2 ≤ 300) (hbb : ∀ j : Nat, j < l.length → (rd_T52 l (j : Int)).f1.length ≤ 1048576)
    (ht : impl_TreeOk.f k l = some true) (hi : i < l.length) (hs : sk l 13 i = some e) :
    Calls Try.prog 22 #[.slice A0 l.length c0, .int .i64 (i : Int)] w fun ex w' => ∃ (A : Option Addr) (c : Nat) (xs : List (S52 × Value)), ex = .returned (.tuple #[.slice A xs.length c, .bool true]) ∧ kB.R 52 w' w.heap.size (fun _ => True) (.slice A xs.length c) xs ∧ xs.map (·.1) = partL l i e ∧ (blocks xs).Nodup ∧ Below w.heap.size w w' := by
  have H1 := Aside0.mk (impl_TreeOk.calls k A0 c0 l true w hr0 hc0 ht)
  have hw : impl_within.f (i : Int) 0 ((l.length : Int) - 1) = some true := by
    unfold impl_within.f
    rw [if_pos (by omega), decide_eq_true (by omega)]
  have HW := Aside0.mk hw
  have HR := Aside0.mk hr0
  have HS := Aside0.mk hs
  have HKB := Aside0.mk hkb
  have HBB := Aside0.mk hbb
  clear hr0 ht hw hs hkb hbb
  have hu := Try.underlying63
  go_enter Try.func22, Try.ntmps22
  go_wp2_with (first | (go_at_call 13; (with_reducible refine H1.out.mono ?_); rintro ex w1 ⟨rfl, hb⟩; have HB1 := Aside0.mk hb; clear hb) | (go_at_call 41; (with_reducible refine (impl_within.calls (i : Int) 0 ((l.length : Int) - 1) true _ HW.out).mono ?_); rintro ex w2 ⟨rfl, ⟨nd, rfl⟩⟩) | (go_at_call 50; refine (nested_calls l A0 c0 w HR.out hc0 hm HKB.out 13 i e (w1.drewN nd) (pw_below_drewN HB1.out nd) HS.out).mono ?_; rintro ex w3 ⟨Av, mv, cv, Ak, mk, ck, rfl, hM, hb⟩; have HB3 : Aside0 (Below w.heap.size w w3) := ⟨below_then (pw_below_drewN HB1.out nd) HB1.out.size hb⟩; have HM := Aside0.mk hM; clear hM hb; generalize (rd_T52 l (i : Int)).f0 = tag at HM ⊢) | (go_at_call 51; refine (items_calls l w hm HKB.out HBB.out 13 i e _ _ (fun _ => True) [.int .i64 tag, .slice Av mv cv, .slice Ak mk ck] (below_alloc HB3.out _) HS.out (Kd.M_below HM.out (below_alloc (Below.refl _ _) _))).mono ?_; rintro ex w4 ⟨A5, c5, xs, rfl, ho, hf, hn, hb⟩; have HO := Aside0.mk ho; have HF := Aside0.mk hf; have HN := Aside0.mk hn; have HB4 := Aside0.mk hb; clear ho hf hn hb))
  go_ret2
  have hsz := size_al w3 (.cells #[.int .i64 tag, .slice Av mv cv, .slice Ak mk ck] 63)
  exact ⟨A5, c5, xs, rfl, Kd.R_lower HO.out (by have := HB3.out.size; rw [hsz]; omega), HF.out, HN.out, below_then (below_alloc HB3.out _) (by have := HB3.out.size; rw [hsz]; omega) HB4.out⟩
set_option maxHeartbeats 4000000 in
set_option maxRecDepth 100000 in
theorem Part_no (l : List S52) (A0 : Option Addr) (c0 k : Nat) (a : Int) (w : World) (hr0 : Kd.C k52 w A0 l.length l) (hc0 : l.length ≤ c0) (ht : impl_TreeOk.f k l = some false) :
    Calls Try.prog 22 #[.slice A0 l.length c0, .int .i64 a] w fun ex w' => ex = .returned (.tuple #[.slice none 0 0, .bool false]) ∧ Below w.heap.size w w' := by
  have H1 := Aside0.mk (impl_TreeOk.calls k A0 c0 l false w hr0 hc0 ht)
  clear hr0 ht
  go_enter Try.func22, Try.ntmps22
  go_wp2_with (first | (go_at_call 13; (with_reducible refine H1.out.mono ?_); rintro ex w1 ⟨rfl, hb⟩; have HB1 := Aside0.mk hb; clear hb))
  go_ret2
  exact ⟨rfl, HB1.out⟩
set_option maxHeartbeats 4000000 in
set_option maxRecDepth 100000 in
theorem Part_out (l : List S52) (A0 : Option Addr) (c0 k : Nat) (a : Int) (w : World) (hr0 : Kd.C k52 w A0 l.length l) (hc0 : l.length ≤ c0) (hm : l.length ≤ 1000) (ht : impl_TreeOk.f k l = some true) (ha : ¬ (0 ≤ a ∧ a ≤ (l.length : Int) - 1)) :
    Calls Try.prog 22 #[.slice A0 l.length c0, .int .i64 a] w fun ex w' => ex = .returned (.tuple #[.slice none 0 0, .bool false]) ∧ Below w.heap.size w w' := by
  have H1 := Aside0.mk (impl_TreeOk.calls k A0 c0 l true w hr0 hc0 ht)
  have hw : impl_within.f a 0 ((l.length : Int) - 1) = some false := by
    unfold impl_within.f
    by_cases c : a ≥ 0
    · rw [if_pos c, decide_eq_false (by omega)]
    · rw [if_neg c]
  have HW := Aside0.mk hw
  clear hr0 ht hw ha
  go_enter Try.func22, Try.ntmps22
  go_wp2_with (first | (go_at_call 13; (with_reducible refine H1.out.mono ?_); rintro ex w1 ⟨rfl, hb⟩; have HB1 := Aside0.mk hb; clear hb) | (go_at_call 41; (with_reducible refine (impl_within.calls a 0 ((l.length : Int) - 1) false _ HW.out).mono ?_); rintro ex w2 ⟨rfl, ⟨nd, rfl⟩⟩))
  go_ret2
  exact ⟨rfl, pw_below_drewN HB1.out nd⟩
/-- What Part answers, and the contract for it. -/
def PartIs (l : List S52) (a : Int) (r : List S52) (b : Bool) : Prop :=
  (∃ (k i e : Nat), a = (i : Int) ∧ impl_TreeOk.f k l = some true ∧ i < l.length ∧ sk l 13 i = some e ∧ r = partL l i e ∧ b = true) ∨
  (r = [] ∧ b = false ∧ ∃ k, impl_TreeOk.f k l = some false ∨ (impl_TreeOk.f k l = some true ∧ ¬ (0 ≤ a ∧ a ≤ (l.length : Int) - 1) ∧ l.length ≤ 1000))
theorem Part_calls (l : List S52) (A0 : Option Addr) (c0 : Nat) (a : Int) (r : List S52) (b : Bool) (w : World) (hr0 : Kd.C k52 w A0 l.length l) (hc0 : l.length ≤ c0) (hp : PartIs l a r b)
    (hg : b = true → l.length ≤ 1000 ∧ (∀ j : Nat, j < l.length → 0 ≤ (rd_T52 l (j : Int)).f2 ∧ (rd_T52 l (j : Int)).f2 ≤ 300) ∧ (∀ j : Nat, j < l.length → (rd_T52 l (j : Int)).f1.length ≤ 1048576)) :
    Calls Try.prog 22 #[.slice A0 l.length c0, .int .i64 a] w fun ex w' => ∃ (A : Option Addr) (c : Nat) (xs : List (S52 × Value)), ex = .returned (.tuple #[.slice A xs.length c, .bool b]) ∧ kB.R 52 w' w.heap.size (fun _ => True) (.slice A xs.length c) xs ∧ xs.map (·.1) = r ∧ (blocks xs).Nodup ∧ Below w.heap.size w w' := by
  rcases hp with ⟨k, i, e, rfl, ht, hi, hs, rfl, rfl⟩ | ⟨rfl, rfl, k, ht | ⟨ht, ha, hm⟩⟩
  · obtain ⟨hm, hk, hb⟩ := hg rfl
    exact Part_true l A0 c0 i e k w hr0 hc0 hm hk hb ht hi hs
  · refine (Part_no l A0 c0 k a w hr0 hc0 ht).mono ?_
    rintro ex w' ⟨rfl, hb⟩
    exact ⟨none, 0, [], rfl, Kd.R_nil _ _ _ _ _, rfl, List.nodup_nil, hb⟩
  · refine (Part_out l A0 c0 k a w hr0 hc0 hm ht ha).mono ?_
    rintro ex w' ⟨rfl, hb⟩
    exact ⟨none, 0, [], rfl, Kd.R_nil _ _ _ _ _, rfl, List.nodup_nil, hb⟩
theorem k52_of_kB {w : World} {base : Nat} {ok : Nat → Prop} {A : Option Addr} {n c : Nat} {xs : List (S52 × Value)} (h : kB.R 52 w base ok (.slice A n c) xs) : Kd.C k52 w A xs.length (xs.map (·.1)) := by
  obtain ⟨h1, h2, h3⟩ := Kd.R_reads' h
  refine ⟨by simp, by have := h3.2.1; exact this, fun hn => ?_⟩
  obtain ⟨ad, e, hc⟩ := h3.2.2 hn
  refine ⟨ad, e, fun j p hp => ?_⟩
  rw [List.getElem?_map] at hp
  cases hx : xs[j]? with
  | none => rw [hx] at hp; cases hp
  | some x =>
    rw [hx] at hp
    obtain rfl : x.1 = p := Option.some.inj hp
    obtain ⟨cs, l1, l2, l3⟩ := hc j x hx
    exact ⟨cs, l1, l2.1, l3⟩
end Go.Proofs.Ytmeobalddjembaa.GFnTrees.Hand
