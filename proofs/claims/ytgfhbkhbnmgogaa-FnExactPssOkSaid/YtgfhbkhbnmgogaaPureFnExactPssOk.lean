/- The program's PssOk returns what the reference's returns, for all arguments that the law lets in. -/
import Derived.Test.YtgfhbkhbnmgogaaGFnExactPssOkx1
import Derived.Test.YtgfhbkhbnmgogaaBase
import Derived.Test.YtgfhbkhbnmgogaaGFnExactPssOkHand
namespace Go.Proofs.Ytgfhbkhbnmgogaa.Pure
open Go.RowKit Go.Proofs.Ytgfhbkhbnmgogaa.GFnExactPssOk Go.Proofs.YtgfhbkhbnmgogaaW.PrintWords Go.Proofs.YtgfhbkhbnmgogaaW.PrintLast Go.Proofs.Ytgfhbkhbnmgogaa.Base
set_option linter.unusedVariables false
set_option linter.unusedSimpArgs false

theorem toByteS_ev (l : List Int) (hl : l.length ≤ 1048576) : Ev (fun k => laws_toByteS.f k l) l := by
  refine ev_pos (by omega) (ev_pos (by omega) ?_)
  rw [show ((l.length : Int) : Int).toNat = l.length by omega]
  exact copy_ev (L := laws_toByteS.l0) (fun _ _ _ _ => rfl) l (by omega)
theorem eqByteS_ev (l : List Int) (hl : l.length ≤ 1048576) : Ev (fun k => laws_eqByteS.f k l l) true :=
  ev_pos rfl (by simpa using eq_ev (L := laws_eqByteS.l0) (fun _ _ _ _ => rfl) l l (by omega) rfl)
open Go.Proofs.Ytgfhbkhbnmgogaa.GFnExactPssOk.Hand
theorem FnExactPssOk : laws_FnExactPssOk.Pure := by
  intro l0 b l1 hm0 _ hw0 hb hm1 _ _
  by_cases c : l0.length > 1048576 ∨ l1.length > 1048576
  · exact ⟨0, rfl, hm0, hm1, .inl c⟩
  obtain ⟨K1, h1⟩ := toByteS_ev l0 (by omega)
  obtain ⟨K2, h2⟩ := toByteS_ev l1 (by omega)
  obtain ⟨K3, h3⟩ := eqByteS_ev l0 (by omega)
  obtain ⟨K4, h4⟩ := eqByteS_ev l1 (by omega)
  have hb' := wf64 hb
  refine ⟨K1 + K2 + K3 + K4, rfl, hm0, hm1, .inr ⟨by omega, by omega, by omega, fun i => ?_, h1 _ (by omega), h2 _ (by omega), h3 _ (by omega), h4 _ (by omega)⟩⟩
  rcases Nat.lt_or_ge i.toNat l0.length with h | h
  · have hx := wf8 (hw0 _ (List.getElem_mem h))
    have e : rd l0 i = l0[i.toNat] := by
      show l0.getD i.toNat 0 = _
      rw [List.getD_eq_getElem?_getD, List.getElem?_eq_getElem h]
      rfl
    rw [e]
    omega
  · have e : rd l0 i = 0 := by
      show l0.getD i.toNat 0 = _
      rw [List.getD_eq_getElem?_getD, List.getElem?_eq_none h]
      rfl
    rw [e]
    omega

end Go.Proofs.Ytgfhbkhbnmgogaa.Pure
