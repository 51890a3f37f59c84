/- What any operator gives for any two numbers, by any length, or the error, is what the reference gives. No condition on the input. -/
import Derived.Test.YthllfmbdapdogaaWordRef
namespace Go.Proofs.Ythllfmbdapdogaa.Pure
open Go.RowKit Go.Proofs.Ythllfmbdapdogaa.PWord Go.Proofs.YthllfmbdapdogaaW.PrintWords Go.Proofs.YthllfmbdapdogaaW.PrintLast
set_option linter.unusedVariables false
set_option linter.unusedSimpArgs false

theorem WordApplies : bluebelllaw01_WordApplies.Pure := by
  intro op a c b _ _ _ _
  obtain ⟨r, h1, h2⟩ := apply_same op a c b (k := 110) (by omega)
  refine ⟨110, ?_⟩
  unfold bluebelllaw01_WordApplies.f
  rw [h1, h2]
  simp [awake_ge (show 60 ≤ 110 by omega)]

end Go.Proofs.Ythllfmbdapdogaa.Pure
