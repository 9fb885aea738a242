-- Written by this session's program (wip/mkprint.py, wip/prx.sh) over the seat's translation. Lean checks it.
import Derived.Test.YtjkggiemnfigbaaPQx0
import Derived.Test.YtjkggiemnfigbaaPQx1
import Derived.Test.YtjkggiemnfigbaaPQx2
namespace Go.Proofs.Ytjkggiemnfigbaa.PQ
open Go.RowKit Go.Proofs.Ytjkggiemnfigbaa.PF Go.Proofs.YtjkggiemnfigbaaW.PrintWords Go.Proofs.YtjkggiemnfigbaaW.PrintLast Go.Proofs.YtjkggiemnfigbaaW.PrintMore
attribute [local go_sem] max2_int min2_int max_two min_two max_three min_three max_four min_four   -- for this text's walks alone
set_option linter.unusedVariables false
set_option linter.unusedSimpArgs false

end Go.Proofs.Ytjkggiemnfigbaa.PQ
