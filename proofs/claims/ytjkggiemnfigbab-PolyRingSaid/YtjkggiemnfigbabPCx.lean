-- Written by this session's program (wip/mkprint.py, wip/prx.sh) over the seat's translation. Lean checks it.
import Derived.Test.YtjkggiemnfigbabPCx0
import Derived.Test.YtjkggiemnfigbabPCx1
namespace Go.Proofs.Ytjkggiemnfigbab.PC
open Go.RowKit Go.Proofs.Ytjkggiemnfigbab.PF Go.Proofs.Ytjkggiemnfigbab.PQ Go.Proofs.YtjkggiemnfigbabW.PrintWords Go.Proofs.YtjkggiemnfigbabW.PrintLast Go.Proofs.YtjkggiemnfigbabW.PrintMore
attribute [local go_sem] max2_int min2_int max_two min_two max_three min_three max_four min_four   -- for this text's walks alone
set_option linter.unusedVariables false
set_option linter.unusedSimpArgs false

end Go.Proofs.Ytjkggiemnfigbab.PC
