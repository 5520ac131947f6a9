/- For every whole number the program's MirrorFormula returns what the reference's returns: no condition. -/
import Derived.Test.YtobkldkekopgoaaCFnExactMirrorFormulax1
namespace Go.Proofs.Ytobkldkekopgoaa.Pure
open Go.RowKit Go.Proofs.Ytobkldkekopgoaa.X Go.Proofs.YtobkldkekopgoaaW.PrintWords Go.Proofs.YtobkldkekopgoaaW.PrintLast
theorem FnExactMirrorFormula : laws_FnExactMirrorFormula.Pure := by
  intro n _
  by_cases h : 0 ≤ n ∧ n ≤ 5
  · have hn : n = 0 ∨ n = 1 ∨ n = 2 ∨ n = 3 ∨ n = 4 ∨ n = 5 := by omega
    rcases hn with rfl | rfl | rfl | rfl | rfl | rfl <;> exact ⟨400, by decide +kernel⟩
  · refine ⟨1, ?_⟩
    have h1 : spec_l1In.f n 0 5 = some false := by
      unfold spec_l1In.f
      by_cases h0 : n ≥ 0
      · rw [if_pos h0, decide_eq_false (by omega)]
      · rw [if_neg h0]
    have h2 : impl_within.f n 0 5 = some false := by
      unfold impl_within.f
      by_cases h0 : 0 ≤ n
      · rw [if_pos h0, decide_eq_false (by omega)]
      · rw [if_neg h0]
    simp [laws_FnExactMirrorFormula.f, spec_MirrorFormula.f, impl_MirrorFormula.f, h1, h2]

end Go.Proofs.Ytobkldkekopgoaa.Pure
