import Derived.Test.YtgfhbkhbnmgogaaGFnHmacSPad
namespace Go.Proofs.Ytgfhbkhbnmgogaa.GFnHmac.Hand
open Go.RowKit Go.Proofs.YtgfhbkhbnmgogaaW.PrintWords Go.Proofs.YtgfhbkhbnmgogaaW.PrintLast Go.Proofs.YtgfhbkhbnmgogaaW.PrintMore
set_option linter.unusedVariables false
set_option linter.unusedSimpArgs false
/-! ### Hmac on both sides, for whatever lengths -/
def hmOk (key data : List Int) : Bool := decide (key.length ≤ 10000 ∧ data.length ≤ 10000)
def hmRes (key data : List Int) : List Int := if key.length ≤ 10000 ∧ data.length ≤ 10000 then hmacL key data else []
theorem hmRes_length (key data : List Int) : (hmRes key data).length ≤ 32 := by
  unfold hmRes
  by_cases h : key.length ≤ 10000 ∧ data.length ≤ 10000
  · rw [if_pos h, hmacL, shaL_length]; omega
  · rw [if_neg h]; simp
/-- What a call of Hmac leaves. -/
def HmPost (key data : List Int) (w : World) (e : Ending) (w' : World) : Prop := ∃ v, e = .returned (.tuple #[v, .bool (hmOk key data)]) ∧ (Kd.int .u8).R 5 w' w.heap.size (fun _ => True) v (hmRes key data) ∧ Below w.heap.size w w'
set_option maxHeartbeats 8000000 in
set_option maxRecDepth 100000 in
theorem hmac_long (Ak : Option Addr) (nk ck : Nat) (Ad : Option Addr) (nd cd : Nat) (w : World) (h : ¬ (nk ≤ 10000 ∧ nd ≤ 10000)) :
    Calls Try.prog 10 #[.slice Ak nk ck, .slice Ad nd cd] w fun e w' => e = .returned (.tuple #[.slice none 0 0, .bool false]) ∧ Below w.heap.size w w' := by
  by_cases h1 : nk ≤ 10000
  · have c1 : decide ((10000 : Int) < (nk : Int)) = false := decide_eq_false (by omega)
    have c2 : decide ((10000 : Int) < (nd : Int)) = true := decide_eq_true (by omega)
    clear h
    go_enter Try.func10, Try.ntmps10
    go_wp2
    go_ret2
    exact ⟨rfl, Below.refl _ _⟩
  · have c1 : decide ((10000 : Int) < (nk : Int)) = true := decide_eq_true (by omega)
    clear h
    go_enter Try.func10, Try.ntmps10
    go_wp2
    go_ret2
    exact ⟨rfl, Below.refl _ _⟩
set_option maxHeartbeats 8000000 in
set_option maxRecDepth 100000 in
theorem shmac_long (Ak : Option Addr) (nk ck : Nat) (Ad : Option Addr) (nd cd : Nat) (w : World) (h : ¬ (nk ≤ 10000 ∧ nd ≤ 10000)) :
    Calls Try.prog 8 #[.slice Ak nk ck, .slice Ad nd cd] w fun e w' => e = .returned (.tuple #[.slice (some ⟨w.heap.size, 0, none⟩) 0 0, .bool false]) ∧ w' = w.alloc (.cells #[] 5) := by
  by_cases h1 : nk ≤ 10000
  · have c1 : decide ((10000 : Int) < (nk : Int)) = false := decide_eq_false (by omega)
    have c2 : decide ((10000 : Int) < (nd : Int)) = true := decide_eq_true (by omega)
    clear h
    go_enter Try.func8, Try.ntmps8
    go_wp2
    go_ret2
    exact ⟨rfl, rfl⟩
  · have c1 : decide ((10000 : Int) < (nk : Int)) = true := decide_eq_true (by omega)
    clear h
    go_enter Try.func8, Try.ntmps8
    go_wp2
    go_ret2
    exact ⟨rfl, rfl⟩
theorem hmac_any (Ak : Option Addr) (ck : Nat) (key : List Int) (Ad : Option Addr) (cd : Nat) (data : List Int) (w : World) (hk : (Kd.int .u8).C w Ak key.length key) (hd : (Kd.int .u8).C w Ad data.length data) :
    Calls Try.prog 10 #[.slice Ak key.length ck, .slice Ad data.length cd] w (HmPost key data w) := by
  by_cases h : key.length ≤ 10000 ∧ data.length ≤ 10000
  · refine (hmac_calls Ak _ ck key Ad _ cd data w hk rfl hd rfl h.1 h.2).mono ?_
    rintro e w' ⟨v, rfl, hr, hb⟩
    exact ⟨v, by rw [hmOk, decide_eq_true h], by rw [hmRes, if_pos h]; exact hr, hb⟩
  · refine (hmac_long Ak _ ck Ad _ cd w h).mono ?_
    rintro e w' ⟨rfl, hb⟩
    exact ⟨_, by rw [hmOk, decide_eq_false h], by rw [hmRes, if_neg h]; exact Kd.R_nil _ _ _ _ _, hb⟩
theorem shmac_any (Ak : Option Addr) (ck : Nat) (key : List Int) (Ad : Option Addr) (cd : Nat) (data : List Int) (w : World) (hk : (Kd.int .u8).C w Ak key.length key) (hd : (Kd.int .u8).C w Ad data.length data) :
    Calls Try.prog 8 #[.slice Ak key.length ck, .slice Ad data.length cd] w (HmPost key data w) := by
  by_cases h : key.length ≤ 10000 ∧ data.length ≤ 10000
  · refine (shmac_calls Ak _ ck key Ad _ cd data w hk rfl hd rfl h.1 h.2).mono ?_
    rintro e w' ⟨v, rfl, hr, hb⟩
    exact ⟨v, by rw [hmOk, decide_eq_true h], by rw [hmRes, if_pos h]; exact hr, hb⟩
  · refine (shmac_long Ak _ ck Ad _ cd w h).mono ?_
    rintro e w' ⟨rfl, rfl⟩
    exact ⟨_, by rw [hmOk, decide_eq_false h], by rw [hmRes, if_neg h]; exact u8lit (base := w.heap.size) w [] (by decide) (Nat.le_refl _), below_alloc (Below.refl _ _) _⟩
end Go.Proofs.Ytgfhbkhbnmgogaa.GFnHmac.Hand
