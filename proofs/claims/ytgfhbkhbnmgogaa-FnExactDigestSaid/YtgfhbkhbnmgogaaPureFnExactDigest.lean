/- The program's Digest returns what the reference's returns, for all arguments that the law lets in. -/
import Derived.Test.YtgfhbkhbnmgogaaGFnExactDigestHand
import Derived.Test.YtgfhbkhbnmgogaaBase
namespace Go.Proofs.Ytgfhbkhbnmgogaa.Pure
open Go.RowKit Go.Proofs.Ytgfhbkhbnmgogaa.GFnExactFeed Go.Proofs.YtgfhbkhbnmgogaaW.PrintWords Go.Proofs.YtgfhbkhbnmgogaaW.PrintLast Go.Proofs.Ytgfhbkhbnmgogaa.Base
set_option linter.unusedVariables false
set_option linter.unusedSimpArgs false

theorem toByteS_ev (l : List Int) (hl : l.length ≤ 1048576) : Ev (fun k => laws_toByteS.f k l) l := by
  refine ev_pos (by omega) (ev_pos (by omega) ?_)
  rw [show ((l.length : Int) : Int).toNat = l.length by omega]
  exact copy_ev (L := laws_toByteS.l0) (fun _ _ _ _ => rfl) l (by omega)
theorem eqByteS_ev (l : List Int) (hl : l.length ≤ 1048576) : Ev (fun k => laws_eqByteS.f k l l) true :=
  ev_pos rfl (by simpa using eq_ev (L := laws_eqByteS.l0) (fun _ _ _ _ => rfl) l l (by omega) rfl)
theorem markB_ev (r : List Int) (hl : r.length ≤ 1048576) : Ev (fun k => laws_markByteS.f k r 1) (1 + (r.length : Int), marked 1 r.length) := mark_ev (L := laws_markByteS.l0) (fun _ _ _ _ => rfl) r 1 (by omega) (by omega) (by omega)
theorem heldB_ev (n : Nat) (hl : n ≤ 1048576) : Ev (fun k => laws_heldByteS.f k (marked 1 n) 1) (1 + (n : Int)) := held_ev (L := laws_heldByteS.l0) (fun _ _ _ _ => rfl) n 1 (by omega) (by omega) (by omega)
open Go.Proofs.Ytgfhbkhbnmgogaa.GFnExactHmac.Hand Go.Proofs.Ytgfhbkhbnmgogaa.GFnExactFeed.Hand Go.Proofs.Ytgfhbkhbnmgogaa.GFnExactDigest.Hand
theorem FnExactDigest : GFnExactDigest.Hand.Pure := by
  intro V l m
  by_cases c : l.length > 1048576
  · exact ⟨0, .inl c⟩
  have hr := dgR_length V l m
  obtain ⟨K1, h1⟩ := toByteS_ev l (by omega)
  obtain ⟨K2, h2⟩ := eqByteS_ev l (by omega)
  obtain ⟨K3, h3⟩ := eqByteS_ev (dgR V l m) (by omega)
  obtain ⟨K4, h4⟩ := markB_ev l (by omega)
  obtain ⟨K5, h5⟩ := markB_ev (dgR V l m) (by omega)
  obtain ⟨K6, h6⟩ := heldB_ev (dgR V l m).length (by omega)
  exact ⟨K1 + K2 + K3 + K4 + K5 + K6, .inr ⟨by omega, dgR V l m, _, _, rfl, h1 _ (by omega), h2 _ (by omega), h3 _ (by omega), h4 _ (by omega), h5 _ (by omega), marked_length _ _, h6 _ (by omega)⟩⟩

end Go.Proofs.Ytgfhbkhbnmgogaa.Pure
