import Derived.Test.YtgfhbkhbnmgogaaGFnExactHmacStr
import Derived.OrdersHeld
namespace Go.Proofs.Ytgfhbkhbnmgogaa.GFnExactHmac.Hand
open Go.RowKit Go.Proofs.YtgfhbkhbnmgogaaW.PrintWords Go.Proofs.YtgfhbkhbnmgogaaW.PrintLast Go.Proofs.YtgfhbkhbnmgogaaW.PrintMore
set_option linter.unusedVariables false
set_option linter.unusedSimpArgs false
/-! ### A region that draws its order, by a relation that every operation keeps -/
/-- Each operation waits for earlier ones alone. -/
def Fore (ops : Array Oper) : Prop := ∀ (j : Nat) (o : Oper), ops[j]? = some o → ∀ e ∈ o.after, e.on < j
section
variable {P : Program} {ops : Array Oper} {Q : Exit → Act → World → Prop}
theorem ready_none {L : Array Bool} (hL : L.size = ops.size) (he : Fore ops) (h : Region.ready .any ops L = []) : ∀ j, j < ops.size → L.getD j false = true := by
  intro j
  induction j using Nat.strongRecOn with
  | _ j ih =>
    intro hj
    cases hc : L.getD j false with
    | true => rfl
    | false =>
      exfalso
      have hm : j ∈ Region.ready .any ops L := by
        refine mem_ready.2 ⟨?_, ops[j], Array.getElem?_eq_getElem hj, fun e h1 _ => ih e.on (he j _ (Array.getElem?_eq_getElem hj) e h1) (by have := he j _ (Array.getElem?_eq_getElem hj) e h1; omega)⟩
        have hj2 : j < L.size := by omega
        simp [Array.getD, hj2] at hc ⊢
        exact hc
      rw [h] at hm
      cases hm
def left_ (L : Array Bool) : Nat := L.toList.countP (fun b => !b)
theorem left_set {L : Array Bool} {i : Nat} (h : L.getD i true = false) : left_ L = left_ (L.setIfInBounds i true) + 1 := by
  have hi : i < L.size := by
    rcases Nat.lt_or_ge i L.size with h1 | h1
    · exact h1
    · simp [Array.getD, Nat.not_lt.2 h1] at h
  have hv : L.toList[i]'(by simpa using hi) = false := by simpa [Array.getD, hi] using h
  unfold left_
  rw [Array.toList_setIfInBounds]
  have key : ∀ (l : List Bool) (i : Nat) (hi : i < l.length), l[i] = false → l.countP (fun b => !b) = (l.set i true).countP (fun b => !b) + 1 := by
    intro l
    induction l with
    | nil => intro i hi; simp at hi
    | cons a t ih =>
      intro i hi h
      cases i with
      | zero => simp at h; subst h; simp
      | succ i =>
        have := ih i (by simpa using hi) (by simpa using h)
        simp only [List.set_cons_succ, List.countP_cons]
        omega
  exact key _ _ _ hv
theorem wpAny_inv (I : Array Bool → Act → World → Prop) (he : Fore ops)
    (hstep : ∀ (i : Nat) (o : Oper), ops[i]? = some o → ∀ (L : Array Bool) (a : Act) (w : World), L.size = ops.size → L.getD i true = false → (∀ e ∈ o.after, Region.binds .any e = true → L.getD e.on false = true) → I L a w → o.guard = none ∧ o.wp P a w (fun a' w' => I (L.setIfInBounds i true) a' w') Q)
    (hend : ∀ (L : Array Bool) (a : Act) (w : World), (∀ j, j < ops.size → L.getD j false = true) → I L a w → Q .normal a w) :
    ∀ (fuel : Nat) (L : Array Bool) (a : Act) (w : World), L.size = ops.size → left_ L ≤ fuel → I L a w → wpAny P .any ops Q fuel L a w := by
  intro fuel
  induction fuel with
  | zero =>
    intro L a w hL hf hI
    have hr : Region.ready .any ops L = [] := by
      rcases hq : Region.ready .any ops L with _ | ⟨i, t⟩
      · rfl
      · exfalso
        have hm : i ∈ Region.ready .any ops L := by rw [hq]; simp
        have := left_set (mem_ready.1 hm).1
        omega
    exact ⟨hr, hend L a w (ready_none hL he hr) hI⟩
  | succ fuel ih =>
    intro L a w hL hf hI
    refine ⟨fun hr => hend L a w (ready_none hL he hr) hI, fun i hi => ?_⟩
    obtain ⟨h1, o, ho, h2⟩ := mem_ready.1 hi
    obtain ⟨hg, hw⟩ := hstep i o ho L a w hL h1 h2 hI
    have hk := left_set h1
    refine wpOp_mono (K := fun a' w' => I (L.setIfInBounds i true) a' w') (fun a' w' h' => ih _ _ _ (by simpa using hL) (by omega) h') ?_
    unfold wpOp
    simp only [ho, Region.wanted, hg, if_true]
    exact .inl hw
theorem wp_region_inv {id : Nat} {a : Act} {w : World} (I : Array Bool → Act → World → Prop) (hm : P.follows .mixedOrders = true) (he : Fore ops)
    (h0 : I (Array.replicate ops.size false) a w.drew)
    (hstep : ∀ (i : Nat) (o : Oper), ops[i]? = some o → ∀ (L : Array Bool) (a : Act) (w : World), L.size = ops.size → L.getD i true = false → (∀ e ∈ o.after, Region.binds .any e = true → L.getD e.on false = true) → I L a w → o.guard = none ∧ o.wp P a w (fun a' w' => I (L.setIfInBounds i true) a' w') Q)
    (hend : ∀ (L : Array Bool) (a : Act) (w : World), (∀ j, j < ops.size → L.getD j false = true) → I L a w → Q .normal a w) : (Code.region id ops true).wp P Q a w :=
  wp_region_any hm (wpAny_inv I he hstep hend _ _ _ _ (by simp) (by simp only [left_, Array.toList_replicate]; exact Nat.le_trans List.countP_le_length (by simp)) h0)
theorem op_value {o : Oper} {a : Act} {w w' : World} {v : Value} {K : Act → World → Prop} (hrun : (execOp a.eval o).run P w = .ok (.value v) w') (h : K (a.put o.dst v) w') : o.wp P a w K Q := by
  unfold Oper.wp
  rw [hrun]
  exact h
theorem op_skip {o : Oper} {a : Act} {w w' : World} {K : Act → World → Prop} (hrun : (execOp a.eval o).run P w = .ok .skip w') (h : K (a.put o.dst undef) w') : o.wp P a w K Q := by
  unfold Oper.wp
  rw [hrun]
  exact h
theorem op_call {o : Oper} {a : Act} {w : World} {K : Act → World → Prop} {f : FuncId} {args : Array Value} {R : Ending → World → Prop} (hrun : (execOp a.eval o).run P w = .ok (.enter f args) w) (hc : Calls P f args w R) (h : ∀ e w', R e w' → ∃ v, e = .returned v ∧ K (a.put o.dst v) w') : o.wp P a w K Q := by
  unfold Oper.wp
  rw [hrun]
  refine Calls.mono hc fun e w' hr => ?_
  obtain ⟨v, rfl, hk⟩ := h e w' hr
  exact hk
end
theorem getD_ne {L : Array Bool} {i j : Nat} (h : i ≠ j) : (L.setIfInBounds i true).getD j false = L.getD j false := by
  simp [Array.getD_eq_getD_getElem?, Array.getElem?_setIfInBounds_ne h]
end Go.Proofs.Ytgfhbkhbnmgogaa.GFnExactHmac.Hand
