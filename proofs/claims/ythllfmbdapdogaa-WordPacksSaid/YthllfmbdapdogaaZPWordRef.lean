/- Plain laws: the reference's Apply by the same formula; the program is awake. -/
import Derived.Test.YthllfmbdapdogaaZPWordVals
import Derived.Test.YthllfmbdapdogaaZPPWordx8
namespace Go.Proofs.Ythllfmbdapdogaa.PWord
open Go.RowKit Go.Proofs.YthllfmbdapdogaaW.PrintWords Go.Proofs.YthllfmbdapdogaaW.PrintLast Go.Proofs.YthllfmbdapdogaaW.PrintMore
set_option linter.unusedVariables false
set_option linter.unusedSimpArgs false

theorem awake_60 : bluebelllaw01_awake.f 60 = some true := by decide +kernel
theorem awake_ge {k : Nat} (hk : 60 ≤ k) : bluebelllaw01_awake.f k = some true := at_rounds (fun k => bluebelllaw01_awake.mono k) hk awake_60
end Go.Proofs.Ythllfmbdapdogaa.PWord
