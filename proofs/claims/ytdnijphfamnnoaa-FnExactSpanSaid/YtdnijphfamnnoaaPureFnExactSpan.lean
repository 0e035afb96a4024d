/- The program's Span returns what the reference's returns, for all arguments (no condition). -/
import Derived.Test.YtdnijphfamnnoaaPFnExactSpanx1
import Derived.Test.YtdnijphfamnnoaaBase
namespace Go.Proofs.Ytdnijphfamnnoaa.Pure
open Go.RowKit Go.Proofs.Ytdnijphfamnnoaa.PFnExactSpan Go.Proofs.YtdnijphfamnnoaaW.PrintWords Go.Proofs.YtdnijphfamnnoaaW.PrintLast Go.Proofs.Ytdnijphfamnnoaa.Base
set_option linter.unusedVariables false

theorem FnExactSpan : laws_FnExactSpan.Pure := by
  intro a0 a1 _ _
  have e : ∀ x, impl_isTime.f x = spec_l9Ok.f x := fun _ => rfl
  have t : ∀ x, spec_l9Ok.f x = some (decide (x ≥ -631152000 ∧ x ≤ 4102444799)) := by
    intro x; unfold spec_l9Ok.f spec_l1In.f
    by_cases h0 : x ≥ -631152000 <;> simp [h0]
  unfold laws_FnExactSpan.f spec_Span.f impl_Span.f
  simp only [e, t, Option.bind_some, decide_eq_true_eq]
  by_cases h0 : a0 ≥ -631152000 ∧ a0 ≤ 4102444799
  · by_cases h1 : a1 ≥ -631152000 ∧ a1 ≤ 4102444799
    · by_cases h2 : a1 < a0
      · simp [h0, h1, h2]
      · simp only [h0, h1, h2, if_true, if_false, and_self]
        have : wrap64 (wrap64 (wrap64 (a1 - a0) + 86400) - 1) = wrap64 (wrap64 (a1 - a0) + 86399) := by unfold wrap64; omega
        rw [this]; simp
    · simp [h0, h1]
  · simp [h0]

end Go.Proofs.Ytdnijphfamnnoaa.Pure
