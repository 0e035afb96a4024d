-- This text was written by wip/gen.py, a program of this session; Lean checks it.
import Derived.Test.YtdnijphfamnnoaaGFnExactShortTimex0
import Derived.Test.YtdnijphfamnnoaaGFnExactShortTimex1
namespace Go.Proofs.Ytdnijphfamnnoaa.GFnExactShortTime
open Go.RowKit Go.Proofs.YtdnijphfamnnoaaW.PrintWords Go.Proofs.YtdnijphfamnnoaaW.PrintLast Go.Proofs.YtdnijphfamnnoaaW.PrintMore
attribute [local go_sem] max2_int min2_int max_two min_two max_three min_three max_four min_four   -- for this text's walks alone
set_option linter.unusedVariables false
set_option linter.unusedSimpArgs false

/-! ### impl_twoDigits: function 62 -/
def impl_twoDigits.f (a0 : Int) : Option (ByteArray) := some (strOfNums (([(wrap64 (48 + (Int.tmod (wrap64 (Int.tdiv a0 10)) 10))) % 256, (wrap64 (48 + (Int.tmod a0 10))) % 256] : List Int)))
set_option maxHeartbeats 8000000 in
set_option maxRecDepth 100000 in
theorem impl_twoDigits.calls (a0 : Int) (r : ByteArray) (w : World) (h : impl_twoDigits.f a0 = some r) :
    Calls Try.prog 62 #[.int .i64 a0] w fun e w' => e = .returned (.string r) ∧ Below w.heap.size w w' := by
  have HB := Aside0.mk (Below.refl w.heap.size w)
  have H : (some (strOfNums (([(wrap64 (48 + (Int.tmod (wrap64 (Int.tdiv a0 10)) 10))) % 256, (wrap64 (48 + (Int.tmod a0 10))) % 256] : List Int)))) = some r := h
  clear h
  obtain ⟨y133, hy133⟩ : ∃ y_ : List Int, y_ = (([(wrap64 (48 + (Int.tmod (wrap64 (Int.tdiv a0 10)) 10))) % 256, (wrap64 (48 + (Int.tmod a0 10))) % 256] : List Int)) := ⟨_, rfl⟩
  replace H : (some (strOfNums y133)) = some r := by first | (rw [hy133]; with_reducible exact H) | (have H2_ := (Option.bind_some _ _).symm.trans H; rw [hy133]; with_reducible exact H2_) | (have H2_ := (Option.bind_some _ _).symm.trans H; with_reducible exact H2_) | with_reducible exact H | (rw [hy133]; exact H) | exact H
  have Ny133 := Aside0.mk hy133
  clear hy133
  obtain rfl := Option.some.inj H
  go_enter Try.func62, Try.ntmps62
  go_wp2_with (first | ((with_reducible refine gate_dst (N := 12) rfl ?_); refine Kd.R_lit (Kd.int .u8) _ 5 ?hg (N := 12) ?hd (xs := ([(wrap64 (48 + (Int.tmod (wrap64 (Int.tdiv a0 10)) 10))) % 256, (wrap64 (48 + (Int.tmod a0 10))) % 256] : List Int)) (inner := [.int .u8 ((wrap64 (48 + (Int.tmod (wrap64 (Int.tdiv a0 10)) 10))) % 256), .int .u8 ((wrap64 (48 + (Int.tmod a0 10))) % 256)]) (ok := fun _ => True) (okp := fun _ => True) ?hr ?hp (fun _ hk => hk) trivial (Below.refl _ _) (Nat.le_refl _) (by simp) ?_; (case hd => rfl); (case hg => rfl); (case hr => first | (go_simp; done) | (go_simp; rfl)); (case hp => exact (Reps.one (show Kd.M (Kd.int .u8) _ _ _ ((wrap64 (48 + (Int.tmod (wrap64 (Int.tdiv a0 10)) 10))) % 256) [.int .u8 ((wrap64 (48 + (Int.tmod (wrap64 (Int.tdiv a0 10)) 10))) % 256)] from rfl) (Reps.one (show Kd.M (Kd.int .u8) _ _ _ ((wrap64 (48 + (Int.tmod a0 10))) % 256) [.int .u8 ((wrap64 (48 + (Int.tmod a0 10))) % 256)] from rfl) (Reps.none _ _)))); intro v134 w2 ho3 hb hg_ hnew_; clear hg_ hnew_; (first | rw [← Ny133.out] at ho3 | (simp only [Int.reduceToNat] at ho3; rw [← Ny133.out] at ho3)); have n0_ := Aside0.mk (Kd.R_lower ho3 (below_size (by repeat (first | (with_reducible first | exact HB.out | apply below_alloc | apply pw_below_drewN | apply below_drew1) | exact HB.out)))); have n1_ := Aside0.mk (below_step (by repeat (first | (with_reducible first | exact HB.out | apply below_alloc | apply pw_below_drewN | apply below_drew1) | exact HB.out)) hb); clear HB; have HO135 := n0_; have HB := n1_; clear n0_ n1_; clear hb ho3; have hcv4 := own_string (P := Try.prog) Try.underlying27 Try.underlying5 Try.underlying9 (Kd.own_of_R HO135.out)))
  go_ret
  exact ⟨by first | rfl | (simp [errW_none, errW_some] <;> rfl) | (simp [*, errW_none, errW_some] <;> rfl), by repeat (first | (with_reducible first | exact HB.out | apply below_alloc | apply pw_below_drewN | apply below_drew1) | exact HB.out)⟩

/-! ### impl_timeText: function 63 -/
def impl_timeText.f (a0 : Int) (a1 : Int) (a2 : Int) : Option (ByteArray) := (impl_twoDigits.f a0).bind fun t136 => ((impl_twoDigits.f a1).bind fun t137 => (if t136.size + t137.size ≤ 9223372036854775807 then ((impl_twoDigits.f (wrap64 (Int.tdiv a2 3600))).bind fun t138 => (if (t136 ++ t137).size + t138.size ≤ 9223372036854775807 then ((impl_twoDigits.f (Int.tmod (wrap64 (Int.tdiv a2 60)) 60)).bind fun t139 => (if ((t136 ++ t137) ++ t138).size + t139.size ≤ 9223372036854775807 then ((impl_twoDigits.f (Int.tmod a2 60)).bind fun t140 => (if (((t136 ++ t137) ++ t138) ++ t139).size + t140.size ≤ 9223372036854775807 then (if ((((t136 ++ t137) ++ t138) ++ t139) ++ t140).size + 1 ≤ 9223372036854775807 then (some (((((t136 ++ t137) ++ t138) ++ t139) ++ t140) ++ (⟨#[90]⟩ : ByteArray))) else (none)) else (none))) else (none))) else (none))) else (none)))
set_option maxHeartbeats 8000000 in
set_option maxRecDepth 100000 in
theorem impl_timeText.calls (a0 : Int) (a1 : Int) (a2 : Int) (r : ByteArray) (w : World) (h : impl_timeText.f a0 a1 a2 = some r) :
    Calls Try.prog 63 #[.int .i64 a0, .int .i64 a1, .int .i64 a2] w fun e w' => e = .returned (.string r) ∧ Below w.heap.size w w' := by
  have HB := Aside0.mk (Below.refl w.heap.size w)
  have H : ((impl_twoDigits.f a0).bind fun t136 => ((impl_twoDigits.f a1).bind fun t137 => (if t136.size + t137.size ≤ 9223372036854775807 then ((impl_twoDigits.f (wrap64 (Int.tdiv a2 3600))).bind fun t138 => (if (t136 ++ t137).size + t138.size ≤ 9223372036854775807 then ((impl_twoDigits.f (Int.tmod (wrap64 (Int.tdiv a2 60)) 60)).bind fun t139 => (if ((t136 ++ t137) ++ t138).size + t139.size ≤ 9223372036854775807 then ((impl_twoDigits.f (Int.tmod a2 60)).bind fun t140 => (if (((t136 ++ t137) ++ t138) ++ t139).size + t140.size ≤ 9223372036854775807 then (if ((((t136 ++ t137) ++ t138) ++ t139) ++ t140).size + 1 ≤ 9223372036854775807 then (some (((((t136 ++ t137) ++ t138) ++ t139) ++ t140) ++ (⟨#[90]⟩ : ByteArray))) else (none)) else (none))) else (none))) else (none))) else (none)))) = some r := h
  clear h
  replace H := Option.bind_eq_some_iff.mp H
  obtain ⟨t136, A40, H⟩ := H
  replace H : ((impl_twoDigits.f a1).bind fun t137 => (if t136.size + t137.size ≤ 9223372036854775807 then ((impl_twoDigits.f (wrap64 (Int.tdiv a2 3600))).bind fun t138 => (if (t136 ++ t137).size + t138.size ≤ 9223372036854775807 then ((impl_twoDigits.f (Int.tmod (wrap64 (Int.tdiv a2 60)) 60)).bind fun t139 => (if ((t136 ++ t137) ++ t138).size + t139.size ≤ 9223372036854775807 then ((impl_twoDigits.f (Int.tmod a2 60)).bind fun t140 => (if (((t136 ++ t137) ++ t138) ++ t139).size + t140.size ≤ 9223372036854775807 then (if ((((t136 ++ t137) ++ t138) ++ t139) ++ t140).size + 1 ≤ 9223372036854775807 then (some (((((t136 ++ t137) ++ t138) ++ t139) ++ t140) ++ (⟨#[90]⟩ : ByteArray))) else (none)) else (none))) else (none))) else (none))) else (none))) = some r := H
  have A4 := Aside0.mk A40
  clear A40
  replace H := Option.bind_eq_some_iff.mp H
  obtain ⟨t137, A50, H⟩ := H
  replace H : (if t136.size + t137.size ≤ 9223372036854775807 then ((impl_twoDigits.f (wrap64 (Int.tdiv a2 3600))).bind fun t138 => (if (t136 ++ t137).size + t138.size ≤ 9223372036854775807 then ((impl_twoDigits.f (Int.tmod (wrap64 (Int.tdiv a2 60)) 60)).bind fun t139 => (if ((t136 ++ t137) ++ t138).size + t139.size ≤ 9223372036854775807 then ((impl_twoDigits.f (Int.tmod a2 60)).bind fun t140 => (if (((t136 ++ t137) ++ t138) ++ t139).size + t140.size ≤ 9223372036854775807 then (if ((((t136 ++ t137) ++ t138) ++ t139) ++ t140).size + 1 ≤ 9223372036854775807 then (some (((((t136 ++ t137) ++ t138) ++ t139) ++ t140) ++ (⟨#[90]⟩ : ByteArray))) else (none)) else (none))) else (none))) else (none))) else (none)) = some r := H
  have A5 := Aside0.mk A50
  clear A50
  by_cases c6 : t136.size + t137.size ≤ 9223372036854775807
  · rw [if_pos c6] at H
    have c6b0 := eq_true c6
    have c6b1 : decide (t136.size + t137.size ≤ 9223372036854775807) = true := decide_eq_true c6
    try have c6b2 : (9223372036854775807 < t136.size + t137.size) = False := eq_false (Nat.not_lt.2 c6)
    try (have c6b3 := c6; simp only [ByteArray.size_append] at c6b3)
    replace H := Option.bind_eq_some_iff.mp H
    obtain ⟨t138, A70, H⟩ := H
    replace H : (if (t136 ++ t137).size + t138.size ≤ 9223372036854775807 then ((impl_twoDigits.f (Int.tmod (wrap64 (Int.tdiv a2 60)) 60)).bind fun t139 => (if ((t136 ++ t137) ++ t138).size + t139.size ≤ 9223372036854775807 then ((impl_twoDigits.f (Int.tmod a2 60)).bind fun t140 => (if (((t136 ++ t137) ++ t138) ++ t139).size + t140.size ≤ 9223372036854775807 then (if ((((t136 ++ t137) ++ t138) ++ t139) ++ t140).size + 1 ≤ 9223372036854775807 then (some (((((t136 ++ t137) ++ t138) ++ t139) ++ t140) ++ (⟨#[90]⟩ : ByteArray))) else (none)) else (none))) else (none))) else (none)) = some r := H
    have A7 := Aside0.mk A70
    clear A70
    by_cases c8 : (t136 ++ t137).size + t138.size ≤ 9223372036854775807
    · rw [if_pos c8] at H
      have c8b0 := eq_true c8
      have c8b1 : decide ((t136 ++ t137).size + t138.size ≤ 9223372036854775807) = true := decide_eq_true c8
      try have c8b2 : (9223372036854775807 < (t136 ++ t137).size + t138.size) = False := eq_false (Nat.not_lt.2 c8)
      try (have c8b3 := c8; simp only [ByteArray.size_append] at c8b3)
      replace H := Option.bind_eq_some_iff.mp H
      obtain ⟨t139, A90, H⟩ := H
      replace H : (if ((t136 ++ t137) ++ t138).size + t139.size ≤ 9223372036854775807 then ((impl_twoDigits.f (Int.tmod a2 60)).bind fun t140 => (if (((t136 ++ t137) ++ t138) ++ t139).size + t140.size ≤ 9223372036854775807 then (if ((((t136 ++ t137) ++ t138) ++ t139) ++ t140).size + 1 ≤ 9223372036854775807 then (some (((((t136 ++ t137) ++ t138) ++ t139) ++ t140) ++ (⟨#[90]⟩ : ByteArray))) else (none)) else (none))) else (none)) = some r := H
      have A9 := Aside0.mk A90
      clear A90
      by_cases c10 : ((t136 ++ t137) ++ t138).size + t139.size ≤ 9223372036854775807
      · rw [if_pos c10] at H
        have c10b0 := eq_true c10
        have c10b1 : decide (((t136 ++ t137) ++ t138).size + t139.size ≤ 9223372036854775807) = true := decide_eq_true c10
        try have c10b2 : (9223372036854775807 < ((t136 ++ t137) ++ t138).size + t139.size) = False := eq_false (Nat.not_lt.2 c10)
        try (have c10b3 := c10; simp only [ByteArray.size_append] at c10b3)
        replace H := Option.bind_eq_some_iff.mp H
        obtain ⟨t140, A110, H⟩ := H
        replace H : (if (((t136 ++ t137) ++ t138) ++ t139).size + t140.size ≤ 9223372036854775807 then (if ((((t136 ++ t137) ++ t138) ++ t139) ++ t140).size + 1 ≤ 9223372036854775807 then (some (((((t136 ++ t137) ++ t138) ++ t139) ++ t140) ++ (⟨#[90]⟩ : ByteArray))) else (none)) else (none)) = some r := H
        have A11 := Aside0.mk A110
        clear A110
        by_cases c12 : (((t136 ++ t137) ++ t138) ++ t139).size + t140.size ≤ 9223372036854775807
        · rw [if_pos c12] at H
          have c12b0 := eq_true c12
          have c12b1 : decide ((((t136 ++ t137) ++ t138) ++ t139).size + t140.size ≤ 9223372036854775807) = true := decide_eq_true c12
          try have c12b2 : (9223372036854775807 < (((t136 ++ t137) ++ t138) ++ t139).size + t140.size) = False := eq_false (Nat.not_lt.2 c12)
          try (have c12b3 := c12; simp only [ByteArray.size_append] at c12b3)
          by_cases c13 : ((((t136 ++ t137) ++ t138) ++ t139) ++ t140).size + 1 ≤ 9223372036854775807
          · rw [if_pos c13] at H
            have c13b0 := eq_true c13
            have c13b1 : decide (((((t136 ++ t137) ++ t138) ++ t139) ++ t140).size + 1 ≤ 9223372036854775807) = true := decide_eq_true c13
            try have c13b2 : (9223372036854775807 < ((((t136 ++ t137) ++ t138) ++ t139) ++ t140).size + 1) = False := eq_false (Nat.not_lt.2 c13)
            try (have c13b3 := c13; simp only [ByteArray.size_append] at c13b3)
            obtain rfl := Option.some.inj H
            go_enter Try.func63, Try.ntmps63
            go_wp2_with (first | ((with_reducible refine gate_callee (f := 62) rfl ?_); refine goesL_ (some 8) rfl rfl Try.func62 (by kernel_rfl) rfl #[.int .i64 a0] rfl (by (try simp only [List.map_toArray, List.map_cons, List.map_nil]); first | done | rfl | (simp only [List.length_drop, List.length_take]; rfl)) ?_; (with_reducible refine (impl_twoDigits.calls a0 t136 _ A4.out).mono ?_); rintro e w14 ⟨rfl, hb⟩; refine ⟨_, rfl, ?_⟩; have n0_ := Aside0.mk (below_step (by repeat (first | (with_reducible first | exact HB.out | apply below_alloc | apply pw_below_drewN | apply below_drew1) | exact HB.out)) hb); clear HB; have HB := n0_; clear n0_; (try clear hb); (try clear hb2); (try clear hk); (try clear hi)) | ((with_reducible refine gate_callee (f := 62) rfl ?_); refine goesL_ (some 10) rfl rfl Try.func62 (by kernel_rfl) rfl #[.int .i64 a1] rfl (by (try simp only [List.map_toArray, List.map_cons, List.map_nil]); first | done | rfl | (simp only [List.length_drop, List.length_take]; rfl)) ?_; (with_reducible refine (impl_twoDigits.calls a1 t137 _ A5.out).mono ?_); rintro e w15 ⟨rfl, hb⟩; refine ⟨_, rfl, ?_⟩; have n0_ := Aside0.mk (below_step (by repeat (first | (with_reducible first | exact HB.out | apply below_alloc | apply pw_below_drewN | apply below_drew1) | exact HB.out)) hb); clear HB; have HB := n0_; clear n0_; (try clear hb); (try clear hb2); (try clear hk); (try clear hi)) | ((with_reducible refine gate_callee (f := 62) rfl ?_); refine goesL_ (some 14) rfl rfl Try.func62 (by kernel_rfl) rfl #[.int .i64 (wrap64 (Int.tdiv a2 3600))] rfl (by (try simp only [List.map_toArray, List.map_cons, List.map_nil]); first | done | rfl | (simp only [List.length_drop, List.length_take]; rfl)) ?_; (with_reducible refine (impl_twoDigits.calls (wrap64 (Int.tdiv a2 3600)) t138 _ A7.out).mono ?_); rintro e w16 ⟨rfl, hb⟩; refine ⟨_, rfl, ?_⟩; have n0_ := Aside0.mk (below_step (by repeat (first | (with_reducible first | exact HB.out | apply below_alloc | apply pw_below_drewN | apply below_drew1) | exact HB.out)) hb); clear HB; have HB := n0_; clear n0_; (try clear hb); (try clear hb2); (try clear hk); (try clear hi)) | ((with_reducible refine gate_callee (f := 62) rfl ?_); refine goesL_ (some 19) rfl rfl Try.func62 (by kernel_rfl) rfl #[.int .i64 (Int.tmod (wrap64 (Int.tdiv a2 60)) 60)] rfl (by (try simp only [List.map_toArray, List.map_cons, List.map_nil]); first | done | rfl | (simp only [List.length_drop, List.length_take]; rfl)) ?_; (with_reducible refine (impl_twoDigits.calls (Int.tmod (wrap64 (Int.tdiv a2 60)) 60) t139 _ A9.out).mono ?_); rintro e w17 ⟨rfl, hb⟩; refine ⟨_, rfl, ?_⟩; have n0_ := Aside0.mk (below_step (by repeat (first | (with_reducible first | exact HB.out | apply below_alloc | apply pw_below_drewN | apply below_drew1) | exact HB.out)) hb); clear HB; have HB := n0_; clear n0_; (try clear hb); (try clear hb2); (try clear hk); (try clear hi)) | ((with_reducible refine gate_callee (f := 62) rfl ?_); refine goesL_ (some 23) rfl rfl Try.func62 (by kernel_rfl) rfl #[.int .i64 (Int.tmod a2 60)] rfl (by (try simp only [List.map_toArray, List.map_cons, List.map_nil]); first | done | rfl | (simp only [List.length_drop, List.length_take]; rfl)) ?_; (with_reducible refine (impl_twoDigits.calls (Int.tmod a2 60) t140 _ A11.out).mono ?_); rintro e w18 ⟨rfl, hb⟩; refine ⟨_, rfl, ?_⟩; have n0_ := Aside0.mk (below_step (by repeat (first | (with_reducible first | exact HB.out | apply below_alloc | apply pw_below_drewN | apply below_drew1) | exact HB.out)) hb); clear HB; have HB := n0_; clear n0_; (try clear hb); (try clear hb2); (try clear hk); (try clear hi)))
            go_ret
            exact ⟨by first | rfl | (simp [errW_none, errW_some] <;> rfl) | (simp [*, errW_none, errW_some] <;> rfl), by repeat (first | (with_reducible first | exact HB.out | apply below_alloc | apply pw_below_drewN | apply below_drew1) | exact HB.out)⟩
          · rw [if_neg c13] at H
            exact absurd H (by simp)
        · rw [if_neg c12] at H
          exact absurd H (by simp)
      · rw [if_neg c10] at H
        exact absurd H (by simp)
    · rw [if_neg c8] at H
      exact absurd H (by simp)
  · rw [if_neg c6] at H
    exact absurd H (by simp)

/-! ### impl_ShortTime: function 42 -/
def impl_ShortTime.f (k : Nat) (a0 : Int) : Option (ByteArray × Bool) := (impl_DayOf.f k a0).bind fun bt141 => ((impl_within.f bt141.1 1950 2049).bind fun t145 => (if t145 = true then ((impl_twoDigits.f bt141.1).bind fun t146 => ((impl_timeText.f bt141.2.1 bt141.2.2.1 bt141.2.2.2).bind fun t147 => (if t146.size + t147.size ≤ 9223372036854775807 then (some (t146 ++ t147, true)) else (none)))) else (some ((⟨#[]⟩ : ByteArray), false))))
theorem impl_ShortTime.mono : ∀ a0 k, LeO (impl_ShortTime.f k a0) (impl_ShortTime.f (k + 1) a0) := by
  intro a0 k
  unfold impl_ShortTime.f
  repeat' first
      | (with_reducible exact impl_DayOf.mono _ _)
      | (with_reducible exact LeO.refl _)
      | (with_reducible exact LeO.none _)
      | (with_reducible refine LeO.ite ?_ ?_)
      | (with_reducible refine LeO.bind ?_ (fun _ => ?_))
      | exact impl_DayOf.mono _ _
      | exact LeO.none _
      | refine LeO.ite ?_ ?_
      | refine LeO.bind ?_ (fun _ => ?_)
set_option maxHeartbeats 8000000 in
set_option maxRecDepth 100000 in
theorem impl_ShortTime.calls (k : Nat) (a0 : Int) (r1 : ByteArray) (r2 : Bool) (w : World) (h : impl_ShortTime.f k a0 = some (r1, r2)) :
    Calls Try.prog 42 #[.int .i64 a0] w fun e w' => e = .returned (.tuple #[.string r1, .bool r2]) ∧ Below w.heap.size w w' := by
  have HB := Aside0.mk (Below.refl w.heap.size w)
  have H : ((impl_DayOf.f k a0).bind fun bt141 => ((impl_within.f bt141.1 1950 2049).bind fun t145 => (if t145 = true then ((impl_twoDigits.f bt141.1).bind fun t146 => ((impl_timeText.f bt141.2.1 bt141.2.2.1 bt141.2.2.2).bind fun t147 => (if t146.size + t147.size ≤ 9223372036854775807 then (some (t146 ++ t147, true)) else (none)))) else (some ((⟨#[]⟩ : ByteArray), false))))) = some (r1, r2) := h
  clear h
  replace H := Option.bind_eq_some_iff.mp H
  obtain ⟨⟨t141, t142, t143, t144⟩, A20, H⟩ := H
  replace H : ((impl_within.f t141 1950 2049).bind fun t145 => (if t145 = true then ((impl_twoDigits.f t141).bind fun t146 => ((impl_timeText.f t142 t143 t144).bind fun t147 => (if t146.size + t147.size ≤ 9223372036854775807 then (some (t146 ++ t147, true)) else (none)))) else (some ((⟨#[]⟩ : ByteArray), false)))) = some (r1, r2) := H
  have A2 := Aside0.mk A20
  clear A20
  replace H := Option.bind_eq_some_iff.mp H
  obtain ⟨t145, A30, H⟩ := H
  replace H : (if t145 = true then ((impl_twoDigits.f t141).bind fun t146 => ((impl_timeText.f t142 t143 t144).bind fun t147 => (if t146.size + t147.size ≤ 9223372036854775807 then (some (t146 ++ t147, true)) else (none)))) else (some ((⟨#[]⟩ : ByteArray), false))) = some (r1, r2) := H
  have A3 := Aside0.mk A30
  clear A30
  by_cases c4 : t145 = true
  · subst c4
    have H1 : ((impl_twoDigits.f t141).bind fun t146 => ((impl_timeText.f t142 t143 t144).bind fun t147 => (if t146.size + t147.size ≤ 9223372036854775807 then (some (t146 ++ t147, true)) else (none)))) = some (r1, r2) := by rw [if_pos rfl] at H; exact H
    clear H
    have H := H1
    clear H1
    replace H := Option.bind_eq_some_iff.mp H
    obtain ⟨t146, A50, H⟩ := H
    replace H : ((impl_timeText.f t142 t143 t144).bind fun t147 => (if t146.size + t147.size ≤ 9223372036854775807 then (some (t146 ++ t147, true)) else (none))) = some (r1, r2) := H
    have A5 := Aside0.mk A50
    clear A50
    replace H := Option.bind_eq_some_iff.mp H
    obtain ⟨t147, A60, H⟩ := H
    replace H : (if t146.size + t147.size ≤ 9223372036854775807 then (some (t146 ++ t147, true)) else (none)) = some (r1, r2) := H
    have A6 := Aside0.mk A60
    clear A60
    by_cases c7 : t146.size + t147.size ≤ 9223372036854775807
    · rw [if_pos c7] at H
      have c7b0 := eq_true c7
      have c7b1 : decide (t146.size + t147.size ≤ 9223372036854775807) = true := decide_eq_true c7
      try have c7b2 : (9223372036854775807 < t146.size + t147.size) = False := eq_false (Nat.not_lt.2 c7)
      try (have c7b3 := c7; simp only [ByteArray.size_append] at c7b3)
      simp only [Option.some.injEq, Prod.mk.injEq] at H
      obtain ⟨rfl, rfl⟩ := H
      go_enter Try.func42, Try.ntmps42
      go_wp2_with (first | ((with_reducible refine gate_callee (f := 36) rfl ?_); refine goesL_ (some 10) rfl rfl Try.func36 (by kernel_rfl) rfl #[.int .i64 a0] rfl (by (try simp only [List.map_toArray, List.map_cons, List.map_nil]); first | done | rfl | (simp only [List.length_drop, List.length_take]; rfl)) ?_; (with_reducible refine (impl_DayOf.calls k a0 t141 t142 t143 t144 _ A2.out).mono ?_); rintro e w' ⟨rfl, ⟨nd, rfl⟩⟩; refine ⟨_, rfl, ?_⟩) | ((with_reducible refine gate_callee (f := 48) rfl ?_); refine goesL_ (some 16) rfl rfl Try.func48 (by kernel_rfl) rfl #[.int .i64 t141, .int .i64 1950, .int .i64 2049] rfl (by (try simp only [List.map_toArray, List.map_cons, List.map_nil]); first | done | rfl | (simp only [List.length_drop, List.length_take]; rfl)) ?_; (with_reducible refine (impl_within.calls t141 1950 2049 true _ A3.out).mono ?_); rintro e w' ⟨rfl, ⟨nd, rfl⟩⟩; refine ⟨_, rfl, ?_⟩) | ((with_reducible refine gate_callee (f := 62) rfl ?_); refine goesL_ (some 19) rfl rfl Try.func62 (by kernel_rfl) rfl #[.int .i64 t141] rfl (by (try simp only [List.map_toArray, List.map_cons, List.map_nil]); first | done | rfl | (simp only [List.length_drop, List.length_take]; rfl)) ?_; (with_reducible refine (impl_twoDigits.calls t141 t146 _ A5.out).mono ?_); rintro e w8 ⟨rfl, hb⟩; refine ⟨_, rfl, ?_⟩; have n0_ := Aside0.mk (below_step (by repeat (first | (with_reducible first | exact HB.out | apply below_alloc | apply pw_below_drewN | apply below_drew1) | exact HB.out)) hb); clear HB; have HB := n0_; clear n0_; (try clear hb); (try clear hb2); (try clear hk); (try clear hi)) | ((with_reducible refine gate_callee (f := 63) rfl ?_); refine goesL_ (some 23) rfl rfl Try.func63 (by kernel_rfl) rfl #[.int .i64 t142, .int .i64 t143, .int .i64 t144] rfl (by (try simp only [List.map_toArray, List.map_cons, List.map_nil]); first | done | rfl | (simp only [List.length_drop, List.length_take]; rfl)) ?_; (with_reducible refine (impl_timeText.calls t142 t143 t144 t147 _ A6.out).mono ?_); rintro e w9 ⟨rfl, hb⟩; refine ⟨_, rfl, ?_⟩; have n0_ := Aside0.mk (below_step (by repeat (first | (with_reducible first | exact HB.out | apply below_alloc | apply pw_below_drewN | apply below_drew1) | exact HB.out)) hb); clear HB; have HB := n0_; clear n0_; (try clear hb); (try clear hb2); (try clear hk); (try clear hi)))
      go_ret2
      exact ⟨by first | rfl | (simp [errW_none, errW_some] <;> rfl) | (simp [*, errW_none, errW_some] <;> rfl), by repeat (first | (with_reducible first | exact HB.out | apply below_alloc | apply pw_below_drewN | apply below_drew1) | exact HB.out)⟩
    · rw [if_neg c7] at H
      exact absurd H (by simp)
  · replace c4 := Bool.eq_false_iff.mpr c4
    subst c4
    have H1 : (some ((⟨#[]⟩ : ByteArray), false)) = some (r1, r2) := by rw [if_neg (show ¬ (false = true) by decide)] at H; exact H
    clear H
    have H := H1
    clear H1
    simp only [Option.some.injEq, Prod.mk.injEq] at H
    obtain ⟨rfl, rfl⟩ := H
    go_enter Try.func42, Try.ntmps42
    go_wp2_with (first | ((with_reducible refine gate_callee (f := 36) rfl ?_); refine goesL_ (some 10) rfl rfl Try.func36 (by kernel_rfl) rfl #[.int .i64 a0] rfl (by (try simp only [List.map_toArray, List.map_cons, List.map_nil]); first | done | rfl | (simp only [List.length_drop, List.length_take]; rfl)) ?_; (with_reducible refine (impl_DayOf.calls k a0 t141 t142 t143 t144 _ A2.out).mono ?_); rintro e w' ⟨rfl, ⟨nd, rfl⟩⟩; refine ⟨_, rfl, ?_⟩) | ((with_reducible refine gate_callee (f := 48) rfl ?_); refine goesL_ (some 16) rfl rfl Try.func48 (by kernel_rfl) rfl #[.int .i64 t141, .int .i64 1950, .int .i64 2049] rfl (by (try simp only [List.map_toArray, List.map_cons, List.map_nil]); first | done | rfl | (simp only [List.length_drop, List.length_take]; rfl)) ?_; (with_reducible refine (impl_within.calls t141 1950 2049 false _ A3.out).mono ?_); rintro e w' ⟨rfl, ⟨nd, rfl⟩⟩; refine ⟨_, rfl, ?_⟩))
    go_ret2
    exact ⟨by first | rfl | (simp [errW_none, errW_some] <;> rfl) | (simp [*, errW_none, errW_some] <;> rfl), by repeat (first | (with_reducible first | exact HB.out | apply below_alloc | apply pw_below_drewN | apply below_drew1) | exact HB.out)⟩

/-! ### laws_FnExactShortTime: function 13 -/
def laws_FnExactShortTime.f (k : Nat) (a0 : Int) : Option (Bool) := (spec_ShortTime.f k a0).bind fun bt148 => ((impl_ShortTime.f k a0).bind fun bt150 => (if bt150.1.toList = bt148.1.toList then (if (bt150.2 != bt148.2) = true then (some false) else (some true)) else (some false)))
theorem laws_FnExactShortTime.mono : ∀ a0 k, LeO (laws_FnExactShortTime.f k a0) (laws_FnExactShortTime.f (k + 1) a0) := by
  intro a0 k
  unfold laws_FnExactShortTime.f
  repeat' first
      | (with_reducible exact impl_ShortTime.mono _ _)
      | (with_reducible exact spec_ShortTime.mono _ _)
      | (with_reducible exact LeO.refl _)
      | (with_reducible exact LeO.none _)
      | (with_reducible refine LeO.ite ?_ ?_)
      | (with_reducible refine LeO.bind ?_ (fun _ => ?_))
      | exact impl_ShortTime.mono _ _
      | exact spec_ShortTime.mono _ _
      | exact LeO.none _
      | refine LeO.ite ?_ ?_
      | refine LeO.bind ?_ (fun _ => ?_)
set_option maxHeartbeats 8000000 in
set_option maxRecDepth 100000 in
theorem laws_FnExactShortTime.calls (k : Nat) (a0 : Int) (r : Bool) (w : World) (h : laws_FnExactShortTime.f k a0 = some r) :
    Calls Try.prog 13 #[.int .i64 a0] w fun e w' => e = .returned (.bool r) ∧ Below w.heap.size w w' := by
  have HB := Aside0.mk (Below.refl w.heap.size w)
  have H : ((spec_ShortTime.f k a0).bind fun bt148 => ((impl_ShortTime.f k a0).bind fun bt150 => (if bt150.1.toList = bt148.1.toList then (if (bt150.2 != bt148.2) = true then (some false) else (some true)) else (some false)))) = some r := h
  clear h
  replace H := Option.bind_eq_some_iff.mp H
  obtain ⟨⟨t148, t149⟩, A20, H⟩ := H
  replace H : ((impl_ShortTime.f k a0).bind fun bt150 => (if bt150.1.toList = t148.toList then (if (bt150.2 != t149) = true then (some false) else (some true)) else (some false))) = some r := H
  have A2 := Aside0.mk A20
  clear A20
  replace H := Option.bind_eq_some_iff.mp H
  obtain ⟨⟨t150, t151⟩, A30, H⟩ := H
  replace H : (if t150.toList = t148.toList then (if (t151 != t149) = true then (some false) else (some true)) else (some false)) = some r := H
  have A3 := Aside0.mk A30
  clear A30
  by_cases c4 : t150.toList = t148.toList
  · rw [if_pos c4] at H
    have c4b0 : (t150.toList == t148.toList) = true := beq_iff_eq.mpr c4
    have c4b1 : (t150.toList != t148.toList) = false := bne_eq_false_iff_eq.mpr c4
    clear c4
    by_cases c5 : (t151 != t149) = true
    · rw [if_pos c5] at H
      have c5b0 : (t151 != t149) = true := c5
      (try (have c5b1 : decide (t151 = t149) = false := by simpa using c5))
      (try (have c5b2 : (t151 == t149) = false := by simpa using c5))
      (try (have c5b3 : ¬ (t151 = t149) := by simpa using c5))
      clear c5
      obtain rfl := Option.some.inj H
      go_enter Try.func13, Try.ntmps13
      go_wp2_with (first | ((with_reducible refine gate_callee (f := 41) rfl ?_); refine goesL_ (some 9) rfl rfl Try.func41 (by kernel_rfl) rfl #[.int .i64 a0] rfl (by (try simp only [List.map_toArray, List.map_cons, List.map_nil]); first | done | rfl | (simp only [List.length_drop, List.length_take]; rfl)) ?_; (with_reducible refine (spec_ShortTime.calls k a0 t148 t149 _ A2.out).mono ?_); rintro e w6 ⟨rfl, hb⟩; refine ⟨_, rfl, ?_⟩; have n0_ := Aside0.mk (below_step (by repeat (first | (with_reducible first | exact HB.out | apply below_alloc | apply pw_below_drewN | apply below_drew1) | exact HB.out)) hb); clear HB; have HB := n0_; clear n0_; (try clear hb); (try clear hb2); (try clear hk); (try clear hi)) | ((with_reducible refine gate_callee (f := 42) rfl ?_); refine goesL_ (some 14) rfl rfl Try.func42 (by kernel_rfl) rfl #[.int .i64 a0] rfl (by (try simp only [List.map_toArray, List.map_cons, List.map_nil]); first | done | rfl | (simp only [List.length_drop, List.length_take]; rfl)) ?_; (with_reducible refine (impl_ShortTime.calls k a0 t150 t151 _ A3.out).mono ?_); rintro e w7 ⟨rfl, hb⟩; refine ⟨_, rfl, ?_⟩; have n0_ := Aside0.mk (below_step (by repeat (first | (with_reducible first | exact HB.out | apply below_alloc | apply pw_below_drewN | apply below_drew1) | exact HB.out)) hb); clear HB; have HB := n0_; clear n0_; (try clear hb); (try clear hb2); (try clear hk); (try clear hi)))
      go_ret
      exact ⟨by first | rfl | (simp [errW_none, errW_some] <;> rfl) | (simp [*, errW_none, errW_some] <;> rfl), by repeat (first | (with_reducible first | exact HB.out | apply below_alloc | apply pw_below_drewN | apply below_drew1) | exact HB.out)⟩
    · rw [if_neg c5] at H
      have c5b0 : (t151 != t149) = false := by simpa using c5
      (try (have c5b1 : decide (t151 = t149) = true := by simpa using c5))
      (try (have c5b2 : (t151 == t149) = true := by simpa using c5))
      clear c5
      obtain rfl := Option.some.inj H
      go_enter Try.func13, Try.ntmps13
      go_wp2_with (first | ((with_reducible refine gate_callee (f := 41) rfl ?_); refine goesL_ (some 9) rfl rfl Try.func41 (by kernel_rfl) rfl #[.int .i64 a0] rfl (by (try simp only [List.map_toArray, List.map_cons, List.map_nil]); first | done | rfl | (simp only [List.length_drop, List.length_take]; rfl)) ?_; (with_reducible refine (spec_ShortTime.calls k a0 t148 t149 _ A2.out).mono ?_); rintro e w8 ⟨rfl, hb⟩; refine ⟨_, rfl, ?_⟩; have n0_ := Aside0.mk (below_step (by repeat (first | (with_reducible first | exact HB.out | apply below_alloc | apply pw_below_drewN | apply below_drew1) | exact HB.out)) hb); clear HB; have HB := n0_; clear n0_; (try clear hb); (try clear hb2); (try clear hk); (try clear hi)) | ((with_reducible refine gate_callee (f := 42) rfl ?_); refine goesL_ (some 14) rfl rfl Try.func42 (by kernel_rfl) rfl #[.int .i64 a0] rfl (by (try simp only [List.map_toArray, List.map_cons, List.map_nil]); first | done | rfl | (simp only [List.length_drop, List.length_take]; rfl)) ?_; (with_reducible refine (impl_ShortTime.calls k a0 t150 t151 _ A3.out).mono ?_); rintro e w9 ⟨rfl, hb⟩; refine ⟨_, rfl, ?_⟩; have n0_ := Aside0.mk (below_step (by repeat (first | (with_reducible first | exact HB.out | apply below_alloc | apply pw_below_drewN | apply below_drew1) | exact HB.out)) hb); clear HB; have HB := n0_; clear n0_; (try clear hb); (try clear hb2); (try clear hk); (try clear hi)))
      go_ret
      exact ⟨by first | rfl | (simp [errW_none, errW_some] <;> rfl) | (simp [*, errW_none, errW_some] <;> rfl), by repeat (first | (with_reducible first | exact HB.out | apply below_alloc | apply pw_below_drewN | apply below_drew1) | exact HB.out)⟩
  · rw [if_neg c4] at H
    have c4b0 : (t150.toList == t148.toList) = false := beq_eq_false_iff_ne.mpr c4
    have c4b1 : (t150.toList != t148.toList) = true := bne_iff_ne.mpr c4
    obtain rfl := Option.some.inj H
    go_enter Try.func13, Try.ntmps13
    go_wp2_with (first | ((with_reducible refine gate_callee (f := 41) rfl ?_); refine goesL_ (some 9) rfl rfl Try.func41 (by kernel_rfl) rfl #[.int .i64 a0] rfl (by (try simp only [List.map_toArray, List.map_cons, List.map_nil]); first | done | rfl | (simp only [List.length_drop, List.length_take]; rfl)) ?_; (with_reducible refine (spec_ShortTime.calls k a0 t148 t149 _ A2.out).mono ?_); rintro e w10 ⟨rfl, hb⟩; refine ⟨_, rfl, ?_⟩; have n0_ := Aside0.mk (below_step (by repeat (first | (with_reducible first | exact HB.out | apply below_alloc | apply pw_below_drewN | apply below_drew1) | exact HB.out)) hb); clear HB; have HB := n0_; clear n0_; (try clear hb); (try clear hb2); (try clear hk); (try clear hi)) | ((with_reducible refine gate_callee (f := 42) rfl ?_); refine goesL_ (some 14) rfl rfl Try.func42 (by kernel_rfl) rfl #[.int .i64 a0] rfl (by (try simp only [List.map_toArray, List.map_cons, List.map_nil]); first | done | rfl | (simp only [List.length_drop, List.length_take]; rfl)) ?_; (with_reducible refine (impl_ShortTime.calls k a0 t150 t151 _ A3.out).mono ?_); rintro e w11 ⟨rfl, hb⟩; refine ⟨_, rfl, ?_⟩; have n0_ := Aside0.mk (below_step (by repeat (first | (with_reducible first | exact HB.out | apply below_alloc | apply pw_below_drewN | apply below_drew1) | exact HB.out)) hb); clear HB; have HB := n0_; clear n0_; (try clear hb); (try clear hb2); (try clear hk); (try clear hi)))
    go_ret
    exact ⟨by first | rfl | (simp [errW_none, errW_some] <;> rfl) | (simp [*, errW_none, errW_some] <;> rfl), by repeat (first | (with_reducible first | exact HB.out | apply below_alloc | apply pw_below_drewN | apply below_drew1) | exact HB.out)⟩

/-- THE ONE PURE STATEMENT of laws_FnExactShortTime: yours. -/
def laws_FnExactShortTime.Pure : Prop := ∀ (a0 : Int), (Lit.int .i64 a0).wf = true → ∃ k, laws_FnExactShortTime.f k a0 = some true
theorem laws_FnExactShortTime.walk (P : laws_FnExactShortTime.Pure) (a0 : Int) (w : World) (w0 : (Lit.int .i64 a0).wf = true) :
    Calls Try.prog 13 #[.int .i64 a0] w fun e w' => e = .returned (.bool true) ∧ Below w.heap.size w w' := by
  obtain ⟨k, h⟩ := P a0 w0
  refine (laws_FnExactShortTime.calls k a0 true w h).mono ?_
  rintro e w' ⟨rfl, hd⟩
  exact ⟨rfl, hd⟩

end Go.Proofs.Ytdnijphfamnnoaa.GFnExactShortTime
