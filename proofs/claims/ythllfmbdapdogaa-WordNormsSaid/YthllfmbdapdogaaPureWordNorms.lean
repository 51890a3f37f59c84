/- Whether a form is valid, and the word of any number, with a sign and without one, are what the reference gives. No condition on the input. -/
import Derived.Test.YthllfmbdapdogaaWordRef
import Derived.Test.YthllfmbdapdogaaPWordx11
namespace Go.Proofs.Ythllfmbdapdogaa.Pure
open Go.RowKit Go.Proofs.Ythllfmbdapdogaa.PWord Go.Proofs.YthllfmbdapdogaaW.PrintWords Go.Proofs.YthllfmbdapdogaaW.PrintLast
set_option linter.unusedVariables false
set_option linter.unusedSimpArgs false

theorem WordNorms : bluebelllaw01_WordNorms.Pure := by
  intro v b _ _
  refine ⟨110, ?_⟩
  unfold bluebelllaw01_WordNorms.f word_Norm.f bluebellref01_Norm.f word_Unsigned.f bluebellref01_Unsigned.f word_Valid.f
  have ha := awake_ge (show 60 ≤ 110 by omega)
  rcases sz_or b with ⟨p, h⟩ | ⟨h1, h2⟩
  · have hn := norm_ge h (show 40 ≤ 110 by omega) v
    have hu := unsigned_ge h (show 40 ≤ 110 by omega) v
    simp [sized_sz h, bits_sz h, norm_word h, unsigned_word h, hn, hu, ha]
  · simp [h1, h2, ha]

end Go.Proofs.Ythllfmbdapdogaa.Pure
