import Derived.Test.YtgfhbkhbnmgogaaGFnExactHmacFrac
namespace Go.Proofs.Ytgfhbkhbnmgogaa.GFnExactHmac.Hand
open Go.RowKit Go.Proofs.YtgfhbkhbnmgogaaW.PrintWords Go.Proofs.YtgfhbkhbnmgogaaW.PrintLast Go.Proofs.YtgfhbkhbnmgogaaW.PrintMore
set_option linter.unusedVariables false
set_option linter.unusedSimpArgs false
def AskOk (F g : Nat) (f : Int → Bool) (w : World) : Prop := ∀ (r : Int) (n : Nat), Calls Try.prog F #[.int .u64 r, .pointer (some ⟨g, 0, none⟩)] (w.drewN n) fun e w' => e = .returned (.bool (f r)) ∧ ∃ k, w' = w.drewN (n + k)
set_option maxHeartbeats 8000000 in
set_option maxRecDepth 100000 in
theorem fraction_calls74 (g : Nat) (f : Int → Bool) (w : World) (hf : AskOk 74 g f w) : Calls Try.prog 73 #[.func (.func 74) #[] #[.pointer (some ⟨g, 0, none⟩)]] w fun e w' => e = .returned (.int .u32 (frac f 38 0 68719476736 % 4294967296)) ∧ ∃ k, w' = w.drewN k := by
  have HF := Aside0.mk hf
  clear hf
  obtain ⟨R, hR⟩ : ∃ R, frac f 38 0 68719476736 = R := ⟨_, rfl⟩
  rw [hR]
  have HR := Aside0.mk hR
  clear hR
  go_enter Try.func73, Try.ntmps73
  go_wp2
  go_loopg [3, 4] 38 (fun gk v3 v4 wr => ∃ (r b : Int) (n : Nat), v3 = .int .u64 r ∧ v4 = .int .u64 b ∧ 0 ≤ b ∧ Aside0 (b < 2 ^ gk) ∧ wr = w.drewN n ∧ Aside0 (frac f gk r b = R))
  case atStart => exact ⟨0, 68719476736, 0, rfl, rfl, by omega, ⟨by decide⟩, rfl, HR⟩
  case round =>
    obtain ⟨r, bt, n, rfl, rfl, hb0, HB, rfl, HA⟩ := hrel
    by_cases hb : 0 < bt
    · cases gk with
      | zero => exact absurd HB.out (by simp; omega)
      | succ k =>
        have HN : Aside0 (bt / 2 < 2 ^ k) := ⟨by have := HB.out; rw [Int.pow_succ] at this; omega⟩
        have hd : 0 ≤ bt / 2 := by omega
        have h := HA.out
        rw [frac, if_pos hb] at h
        have HA2 := Aside0.mk h
        clear h HA HB
        obtain ⟨r2, hr2⟩ : ∃ r2, Go.bits .or .u64 r bt = r2 := ⟨_, rfl⟩
        rw [hr2] at HA2
        go_wp2_with fail
        refine (HF.out r2 n).mono ?_
        rintro e w' ⟨rfl, k1, rfl⟩
        cases hfr : f r2 with
        | true =>
          rw [hfr, if_pos rfl] at HA2
          go_wp2
          go_roundg k
          case measure => omega
          case rel => exact ⟨_, _, _, rfl, rfl, hd, HN, rfl, HA2⟩
        | false =>
          rw [hfr, if_neg (by decide)] at HA2
          go_wp2
          go_roundg k
          case measure => omega
          case rel => exact ⟨_, _, _, rfl, rfl, hd, HN, rfl, HA2⟩
    · obtain rfl : bt = 0 := by omega
      have h := HA.out
      have h2 : r = R := by
        cases gk with
        | zero => exact h
        | succ k => rw [frac, if_neg (by decide)] at h; exact h
      subst h2
      clear h HA HR
      go_wp2
      go_ret
      exact ⟨rfl, _, rfl⟩
set_option maxHeartbeats 8000000 in
set_option maxRecDepth 100000 in
theorem fraction_calls76 (g : Nat) (f : Int → Bool) (w : World) (hf : AskOk 76 g f w) : Calls Try.prog 73 #[.func (.func 76) #[] #[.pointer (some ⟨g, 0, none⟩)]] w fun e w' => e = .returned (.int .u32 (frac f 38 0 68719476736 % 4294967296)) ∧ ∃ k, w' = w.drewN k := by
  have HF := Aside0.mk hf
  clear hf
  obtain ⟨R, hR⟩ : ∃ R, frac f 38 0 68719476736 = R := ⟨_, rfl⟩
  rw [hR]
  have HR := Aside0.mk hR
  clear hR
  go_enter Try.func73, Try.ntmps73
  go_wp2
  go_loopg [3, 4] 38 (fun gk v3 v4 wr => ∃ (r b : Int) (n : Nat), v3 = .int .u64 r ∧ v4 = .int .u64 b ∧ 0 ≤ b ∧ Aside0 (b < 2 ^ gk) ∧ wr = w.drewN n ∧ Aside0 (frac f gk r b = R))
  case atStart => exact ⟨0, 68719476736, 0, rfl, rfl, by omega, ⟨by decide⟩, rfl, HR⟩
  case round =>
    obtain ⟨r, bt, n, rfl, rfl, hb0, HB, rfl, HA⟩ := hrel
    by_cases hb : 0 < bt
    · cases gk with
      | zero => exact absurd HB.out (by simp; omega)
      | succ k =>
        have HN : Aside0 (bt / 2 < 2 ^ k) := ⟨by have := HB.out; rw [Int.pow_succ] at this; omega⟩
        have hd : 0 ≤ bt / 2 := by omega
        have h := HA.out
        rw [frac, if_pos hb] at h
        have HA2 := Aside0.mk h
        clear h HA HB
        obtain ⟨r2, hr2⟩ : ∃ r2, Go.bits .or .u64 r bt = r2 := ⟨_, rfl⟩
        rw [hr2] at HA2
        go_wp2_with fail
        refine (HF.out r2 n).mono ?_
        rintro e w' ⟨rfl, k1, rfl⟩
        cases hfr : f r2 with
        | true =>
          rw [hfr, if_pos rfl] at HA2
          go_wp2
          go_roundg k
          case measure => omega
          case rel => exact ⟨_, _, _, rfl, rfl, hd, HN, rfl, HA2⟩
        | false =>
          rw [hfr, if_neg (by decide)] at HA2
          go_wp2
          go_roundg k
          case measure => omega
          case rel => exact ⟨_, _, _, rfl, rfl, hd, HN, rfl, HA2⟩
    · obtain rfl : bt = 0 := by omega
      have h := HA.out
      have h2 : r = R := by
        cases gk with
        | zero => exact h
        | succ k => rw [frac, if_neg (by decide)] at h; exact h
      subst h2
      clear h HA HR
      go_wp2
      go_ret
      exact ⟨rfl, _, rfl⟩
set_option maxHeartbeats 8000000 in
set_option maxRecDepth 100000 in
theorem sq_walk (g : Nat) (p h l r : Int) (v : Bool) (w : World) (n : Nat) (hg : w.cell? ⟨g, 0, none⟩ = some (.int .u64 p)) (HM : Aside0 (bits_Mul64.f r r = some (h, l))) (hv : Aside0 (v = (if h < p then true else if h = p then (l == 0) else false))) : Calls Try.prog 74 #[.int .u64 r, .pointer (some ⟨g, 0, none⟩)] (w.drewN n) fun e w' => e = .returned (.bool v) ∧ ∃ k, w' = w.drewN (n + k) := by
  by_cases c1 : h < p
  · obtain rfl : v = true := by rw [hv.out, if_pos c1]
    clear hv
    go_enter Try.func74, Try.ntmps74
    go_wp2_with fail
    refine (bits_Mul64.calls _ _ _ _ _ HM.out).mono ?_
    rintro e w' ⟨rfl, k1, rfl⟩
    go_wp2
    go_ret
    exact ⟨rfl, k1, rfl⟩
  · by_cases c2 : h = p
    · obtain rfl : v = (l == 0) := by rw [hv.out, if_neg c1, if_pos c2]
      have d1 : decide (h < p) = false := decide_eq_false c1
      have d2 : (h == p) = true := beq_iff_eq.2 c2
      clear hv c1 c2
      go_enter Try.func74, Try.ntmps74
      go_wp2_with fail
      refine (bits_Mul64.calls _ _ _ _ _ HM.out).mono ?_
      rintro e w' ⟨rfl, k1, rfl⟩
      go_wp2
      go_ret
      exact ⟨rfl, k1, rfl⟩
    · obtain rfl : v = false := by rw [hv.out, if_neg c1, if_neg c2]
      have d1 : decide (h < p) = false := decide_eq_false c1
      have d2 : (h == p) = false := beq_eq_false_iff_ne.2 c2
      clear hv c1 c2
      go_enter Try.func74, Try.ntmps74
      go_wp2_with fail
      refine (bits_Mul64.calls _ _ _ _ _ HM.out).mono ?_
      rintro e w' ⟨rfl, k1, rfl⟩
      go_wp2
      go_ret
      exact ⟨rfl, k1, rfl⟩
theorem sq_ask (g : Nat) (p : Int) (w : World) (hg : w.cell? ⟨g, 0, none⟩ = some (.int .u64 p)) : AskOk 74 g (sqAsk p) w := by
  intro r n
  obtain ⟨h, l, hm⟩ : ∃ h l, bits_Mul64.f r r = some (h, l) := ⟨_, _, rfl⟩
  exact sq_walk g p h l r _ w n hg ⟨hm⟩ ⟨by unfold sqAsk; rw [hm]⟩
set_option maxHeartbeats 8000000 in
set_option maxRecDepth 100000 in
theorem cu_walk (g : Nat) (p h l c e0 r x y : Int) (v : Bool) (w : World) (n : Nat) (hg : w.cell? ⟨g, 0, none⟩ = some (.int .u64 p)) (HM : Aside0 (bits_Mul64.f r r = some (h, l))) (HM2 : Aside0 (bits_Mul64.f l r = some (c, e0))) (hx : IntKind.u64.wrap (IntKind.u64.wrap (h * r) + c) = x) (hy : IntKind.u64.wrap (p * 4294967296) = y) (hv : Aside0 (v = (if x < y then true else if x = y then (e0 == 0) else false))) : Calls Try.prog 76 #[.int .u64 r, .pointer (some ⟨g, 0, none⟩)] (w.drewN n) fun e w' => e = .returned (.bool v) ∧ ∃ k, w' = w.drewN (n + k) := by
  by_cases c1 : x < y
  · obtain rfl : v = true := by rw [hv.out, if_pos c1]
    clear hv
    go_enter Try.func76, Try.ntmps76
    go_wp2_with fail
    refine (bits_Mul64.calls _ _ _ _ _ HM.out).mono ?_
    rintro e' w' ⟨rfl, k1, rfl⟩
    go_wp2_with fail
    refine (bits_Mul64.calls _ _ _ _ _ HM2.out).mono ?_
    rintro e' w' ⟨rfl, k2, rfl⟩
    go_wp2
    go_ret
    exact ⟨rfl, k1 + k2, by simp only [Nat.add_assoc]⟩
  · by_cases c2 : x = y
    · obtain rfl : v = (e0 == 0) := by rw [hv.out, if_neg c1, if_pos c2]
      have d1 : decide (x < y) = false := decide_eq_false c1
      have d2 : (x == y) = true := beq_iff_eq.2 c2
      clear hv c1 c2
      go_enter Try.func76, Try.ntmps76
      go_wp2_with fail
      refine (bits_Mul64.calls _ _ _ _ _ HM.out).mono ?_
      rintro e' w' ⟨rfl, k1, rfl⟩
      go_wp2_with fail
      refine (bits_Mul64.calls _ _ _ _ _ HM2.out).mono ?_
      rintro e' w' ⟨rfl, k2, rfl⟩
      go_wp2
      go_ret
      exact ⟨rfl, k1 + k2, by simp only [Nat.add_assoc]⟩
    · obtain rfl : v = false := by rw [hv.out, if_neg c1, if_neg c2]
      have d1 : decide (x < y) = false := decide_eq_false c1
      have d2 : (x == y) = false := beq_eq_false_iff_ne.2 c2
      clear hv c1 c2
      go_enter Try.func76, Try.ntmps76
      go_wp2_with fail
      refine (bits_Mul64.calls _ _ _ _ _ HM.out).mono ?_
      rintro e' w' ⟨rfl, k1, rfl⟩
      go_wp2_with fail
      refine (bits_Mul64.calls _ _ _ _ _ HM2.out).mono ?_
      rintro e' w' ⟨rfl, k2, rfl⟩
      go_wp2
      go_ret
      exact ⟨rfl, k1 + k2, by simp only [Nat.add_assoc]⟩
theorem cu_ask (g : Nat) (p : Int) (w : World) (hg : w.cell? ⟨g, 0, none⟩ = some (.int .u64 p)) : AskOk 76 g (cuAsk p) w := by
  intro r n
  obtain ⟨h, l, hm⟩ : ∃ h l, bits_Mul64.f r r = some (h, l) := ⟨_, _, rfl⟩
  obtain ⟨c, e, hm2⟩ : ∃ c e, bits_Mul64.f l r = some (c, e) := ⟨_, _, rfl⟩
  refine cu_walk g p h l c e r (IntKind.u64.wrap (IntKind.u64.wrap (h * r) + c)) _ _ w n hg ⟨hm⟩ ⟨hm2⟩ rfl rfl ⟨?_⟩
  · unfold cuAsk
    rw [hm]
    dsimp only
    rw [hm2]
def croot (p : Int) : Int := frac (cuAsk p) 38 0 68719476736 % 4294967296
def sroot (p : Int) : Int := frac (sqAsk p) 38 0 68719476736 % 4294967296
set_option maxHeartbeats 8000000 in
set_option maxRecDepth 100000 in
theorem croot_calls (p : Int) (w : World) : Calls Try.prog 70 #[.int .u64 p] w fun e w' => e = .returned (.int .u32 (croot p)) ∧ Below w.heap.size w w' := by
  have hmf : ∀ (fn : Fn) (first cap : Array Value) (w : World), (Instr.makeFunc fn first cap).run Try.prog w = .ok (.func fn first cap) w := fun _ _ _ _ => rfl
  go_enter Try.func70, Try.ntmps70
  go_wp2_with fail
  refine (fraction_calls76 w.heap.size (cuAsk p) _ (cu_ask _ p _ (by rw [cell_at (heap_alloc_last _ _)]; rfl))).mono ?_
  rintro e' w' ⟨rfl, k1, rfl⟩
  go_wp2
  go_ret
  exact ⟨rfl, pw_below_drewN (below_alloc (Below.refl _ _) _) _⟩
set_option maxHeartbeats 8000000 in
set_option maxRecDepth 100000 in
theorem sroot_calls (p : Int) (w : World) : Calls Try.prog 67 #[.int .u64 p] w fun e w' => e = .returned (.int .u32 (sroot p)) ∧ Below w.heap.size w w' := by
  have hmf : ∀ (fn : Fn) (first cap : Array Value) (w : World), (Instr.makeFunc fn first cap).run Try.prog w = .ok (.func fn first cap) w := fun _ _ _ _ => rfl
  go_enter Try.func67, Try.ntmps67
  go_wp2_with fail
  refine (fraction_calls74 w.heap.size (sqAsk p) _ (sq_ask _ p _ (by rw [cell_at (heap_alloc_last _ _)]; rfl))).mono ?_
  rintro e' w' ⟨rfl, k1, rfl⟩
  go_wp2
  go_ret
  exact ⟨rfl, pw_below_drewN (below_alloc (Below.refl _ _) _) _⟩
end Go.Proofs.Ytgfhbkhbnmgogaa.GFnExactHmac.Hand
