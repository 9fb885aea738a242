-- Written by this session's program (wip/mkprint.py, wip/prx.sh) over the seat's translation. Lean checks it.
import Derived.Test.YtfphiecadaplbaaDoorPAx2
import Derived.Test.YtfphiecadaplbaaDoorOpen
namespace Go.Proofs.YtfphiecadaplbaaDoor.fieldSupported
open Go.RowKit Go.Proofs.YtfphiecadaplbaaDoorW.PrintWords Go.Proofs.YtfphiecadaplbaaDoorW.PrintMore Go.Proofs.YtfphiecadaplbaaDoorOpen Go.Proofs.YtfphiecadaplbaaDoor.PA
set_option linter.unusedVariables false
/-- The pure statement of the law. -/
def Pure : Prop := ∀ (a0 : Int), (Lit.int .u64 a0).wf = true → ∃ k, privitylaw01_FieldSupported.f k a0 = some true
end Go.Proofs.YtfphiecadaplbaaDoor.fieldSupported
