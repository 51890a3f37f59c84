/- Whether a word is what the operator gives for whole numbers, or the error, is what the reference gives. No condition on the input. -/
import Derived.Test.YthllfmbdapdogaaWordEx
namespace Go.Proofs.Ythllfmbdapdogaa.Pure
open Go.RowKit Go.Proofs.Ythllfmbdapdogaa.PWord Go.Proofs.YthllfmbdapdogaaW.PrintWords Go.Proofs.YthllfmbdapdogaaW.PrintLast
set_option linter.unusedVariables false
set_option linter.unusedSimpArgs false

theorem WordExacts : bluebelllaw01_WordExacts.Pure := by
  intro op a c b _ _ _ _
  obtain ⟨r, h1, h2⟩ := exact_same op a c b (k := 130) (by omega)
  refine ⟨130, ?_⟩
  unfold bluebelllaw01_WordExacts.f
  rw [h1, h2]
  simp [awake_ge (show 60 ≤ 130 by omega)]

end Go.Proofs.Ythllfmbdapdogaa.Pure
