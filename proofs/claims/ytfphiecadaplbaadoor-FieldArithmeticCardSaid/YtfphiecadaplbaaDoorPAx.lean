-- Written by this session's program (wip/mkprint.py, wip/prx.sh) over the seat's translation. Lean checks it.
import Derived.Test.YtfphiecadaplbaaDoorPAx0
import Derived.Test.YtfphiecadaplbaaDoorPAx1
import Derived.Test.YtfphiecadaplbaaDoorPAx2
import Derived.Test.YtfphiecadaplbaaDoorPAx3
import Derived.Test.YtfphiecadaplbaaDoorPAx4
import Derived.Test.YtfphiecadaplbaaDoorPAx5
namespace Go.Proofs.YtfphiecadaplbaaDoor.PA
open Go.RowKit Go.Proofs.YtfphiecadaplbaaDoorW.PrintWords Go.Proofs.YtfphiecadaplbaaDoorW.PrintLast Go.Proofs.YtfphiecadaplbaaDoorW.PrintMore
attribute [local go_sem] max2_int min2_int max_two min_two max_three min_three max_four min_four   -- for this text's walks alone
set_option linter.unusedVariables false
set_option linter.unusedSimpArgs false

end Go.Proofs.YtfphiecadaplbaaDoor.PA
