/- A product divided, and what is left, or the error, are what the reference gives. No condition on the input. -/
import Derived.Test.YthllfmbdapdogaaWordRef
import Derived.Test.YthllfmbdapdogaaPWordx11
namespace Go.Proofs.Ythllfmbdapdogaa.Pure
open Go.RowKit Go.Proofs.Ythllfmbdapdogaa.PWord Go.Proofs.YthllfmbdapdogaaW.PrintWords Go.Proofs.YthllfmbdapdogaaW.PrintLast
set_option linter.unusedVariables false
set_option linter.unusedSimpArgs false

theorem WordMulDivs : bluebelllaw01_WordMulDivs.Pure := by
  intro x y z b _ _ _ _
  refine ⟨110, ?_⟩
  unfold bluebelllaw01_WordMulDivs.f word_MulDiv.f bluebellref01_MulDiv.f
  have ha := awake_ge (show 60 ≤ 110 by omega)
  rcases sz_or b with ⟨p, h⟩ | ⟨h1, h2⟩
  · have hn := fun v => norm_ge h (show 40 ≤ 110 by omega) v
    by_cases z0 : nm p z = 0
    · simp [sized_sz h, bits_sz h, norm_word h, hn, z0, ha]
    · simp [sized_sz h, bits_sz h, norm_word h, hn, z0, ha]
  · simp [h1, h2, ha]

end Go.Proofs.Ythllfmbdapdogaa.Pure
