/- The program's Within returns what the reference's returns, for all arguments (no condition). -/
import Derived.Test.YtdnijphfamnnoaaPFnExactWithinx1
import Derived.Test.YtdnijphfamnnoaaBase
namespace Go.Proofs.Ytdnijphfamnnoaa.Pure
open Go.RowKit Go.Proofs.Ytdnijphfamnnoaa.PFnExactWithin Go.Proofs.YtdnijphfamnnoaaW.PrintWords Go.Proofs.YtdnijphfamnnoaaW.PrintLast Go.Proofs.Ytdnijphfamnnoaa.Base
set_option linter.unusedVariables false

theorem FnExactWithin : laws_FnExactWithin.Pure := by
  intro a0 a1 a2 _ _ _
  have e : impl_Within.f a0 a1 a2 = spec_Within.f a0 a1 a2 := rfl
  have t : ∀ x, spec_l9Ok.f x = some (decide (x ≥ -631152000 ∧ x ≤ 4102444799)) := by
    intro x; unfold spec_l9Ok.f spec_l1In.f
    by_cases h0 : x ≥ -631152000 <;> simp [h0]
  have u : ∃ b, spec_Within.f a0 a1 a2 = some b := by
    unfold spec_Within.f
    rw [t a0, t a1, t a2]
    simp only [Option.bind_some]
    split
    · split
      · split
        · split <;> exact ⟨_, rfl⟩
        · exact ⟨_, rfl⟩
      · exact ⟨_, rfl⟩
    · exact ⟨_, rfl⟩
  obtain ⟨b, hb⟩ := u
  unfold laws_FnExactWithin.f
  rw [e, hb]
  simp

end Go.Proofs.Ytdnijphfamnnoaa.Pure
