/- The program's Feed returns what the reference's returns, for all arguments that the law lets in. -/
import Derived.Test.YtgfhbkhbnmgogaaGFnExactFeedHand
import Derived.Test.YtgfhbkhbnmgogaaBase
namespace Go.Proofs.Ytgfhbkhbnmgogaa.Pure
open Go.RowKit Go.Proofs.Ytgfhbkhbnmgogaa.GFnExactFeed Go.Proofs.YtgfhbkhbnmgogaaW.PrintWords Go.Proofs.YtgfhbkhbnmgogaaW.PrintLast Go.Proofs.Ytgfhbkhbnmgogaa.Base
set_option linter.unusedVariables false
set_option linter.unusedSimpArgs false

theorem toByteS_ev (l : List Int) (hl : l.length ≤ 1048576) : Ev (fun k => laws_toByteS.f k l) l := by
  refine ev_pos (by omega) (ev_pos (by omega) ?_)
  rw [show ((l.length : Int) : Int).toNat = l.length by omega]
  exact copy_ev (L := laws_toByteS.l0) (fun _ _ _ _ => rfl) l (by omega)
theorem eqByteS_ev (l : List Int) (hl : l.length ≤ 1048576) : Ev (fun k => laws_eqByteS.f k l l) true :=
  ev_pos rfl (by simpa using eq_ev (L := laws_eqByteS.l0) (fun _ _ _ _ => rfl) l l (by omega) rfl)
theorem markB_ev (r : List Int) (hl : r.length ≤ 1048576) : Ev (fun k => laws_markByteS.f k r 1) (1 + (r.length : Int), marked 1 r.length) := mark_ev (L := laws_markByteS.l0) (fun _ _ _ _ => rfl) r 1 (by omega) (by omega) (by omega)
theorem heldB_ev (n : Nat) (hl : n ≤ 1048576) : Ev (fun k => laws_heldByteS.f k (marked 1 n) 1) (1 + (n : Int)) := held_ev (L := laws_heldByteS.l0) (fun _ _ _ _ => rfl) n 1 (by omega) (by omega) (by omega)
open Go.Proofs.Ytgfhbkhbnmgogaa.GFnExactHmac.Hand Go.Proofs.Ytgfhbkhbnmgogaa.GFnExactFeed.Hand
theorem FnExactFeed : GFnExactFeed.Top.Pure := by
  intro H l m ds
  by_cases c : l.length > 1048576
  · exact ⟨0, .inl c⟩
  by_cases c2 : ds.length > 1048576
  · exact ⟨0, .inr (.inl c2)⟩
  have hr := fdL_length H l m ds (by omega)
  obtain ⟨K1, h1⟩ := toByteS_ev l (by omega)
  obtain ⟨K2, h2⟩ := toByteS_ev ds (by omega)
  obtain ⟨K3, h3⟩ := eqByteS_ev l (by omega)
  obtain ⟨K4, h4⟩ := eqByteS_ev ds (by omega)
  obtain ⟨K5, h5⟩ := eqByteS_ev (fdL H l m ds) (by omega)
  obtain ⟨K6, h6⟩ := markB_ev l (by omega)
  obtain ⟨K7, h7⟩ := mark_ev (L := laws_markByteS.l0) (fun _ _ _ _ => rfl) ds (1 + (l.length : Int)) (by omega) (by omega) (by omega)
  obtain ⟨K8, h8⟩ := markB_ev (fdL H l m ds) (by omega)
  obtain ⟨K9, h9⟩ := heldB_ev (fdL H l m ds).length (by omega)
  exact ⟨K1 + K2 + K3 + K4 + K5 + K6 + K7 + K8 + K9, .inr (.inr ⟨by omega, by omega, fdL H l m ds, _, _, _, rfl, h1 _ (by omega), h2 _ (by omega), h3 _ (by omega), h4 _ (by omega), h5 _ (by omega), h6 _ (by omega), h7 _ (by omega), h8 _ (by omega), marked_length _ _, h9 _ (by omega)⟩)⟩

end Go.Proofs.Ytgfhbkhbnmgogaa.Pure
