/- For every whole number the program's HalfTurnFormula returns what the reference's returns: no condition. -/
import Derived.Test.YtobkldkekopgoaaCFnExactHalfTurnFormulax2
namespace Go.Proofs.Ytobkldkekopgoaa.Pure
open Go.RowKit Go.Proofs.Ytobkldkekopgoaa.X Go.Proofs.YtobkldkekopgoaaW.PrintWords Go.Proofs.YtobkldkekopgoaaW.PrintLast
theorem FnExactHalfTurnFormula : laws_FnExactHalfTurnFormula.Pure := by
  intro n _
  by_cases h : 1 ≤ n ∧ n ≤ 6
  · have hn : n = 1 ∨ n = 2 ∨ n = 3 ∨ n = 4 ∨ n = 5 ∨ n = 6 := by omega
    rcases hn with rfl | rfl | rfl | rfl | rfl | rfl <;> exact ⟨400, by decide +kernel⟩
  · refine ⟨1, ?_⟩
    have h1 : spec_l1In.f n 1 6 = some false := by
      unfold spec_l1In.f
      by_cases h0 : n ≥ 1
      · rw [if_pos h0, decide_eq_false (by omega)]
      · rw [if_neg h0]
    have h2 : impl_within.f n 1 6 = some false := by
      unfold impl_within.f
      by_cases h0 : 1 ≤ n
      · rw [if_pos h0, decide_eq_false (by omega)]
      · rw [if_neg h0]
    simp [laws_FnExactHalfTurnFormula.f, spec_HalfTurnFormula.f, impl_HalfTurnFormula.f, h1, h2]

end Go.Proofs.Ytobkldkekopgoaa.Pure
