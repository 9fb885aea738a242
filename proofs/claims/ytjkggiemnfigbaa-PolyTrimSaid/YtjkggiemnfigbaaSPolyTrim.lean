-- Written by this session's program (wip/mkprint.py, wip/prx.sh) over the seat's translation. Lean checks it.
import Derived.Test.YtjkggiemnfigbaaPTTx1
import Derived.Test.YtjkggiemnfigbaaOpen
namespace Go.Proofs.Ytjkggiemnfigbaa.polyTrim
open Go.RowKit Go.Proofs.YtjkggiemnfigbaaW.PrintWords Go.Proofs.YtjkggiemnfigbaaW.PrintMore Go.Proofs.YtjkggiemnfigbaaOpen Go.Proofs.Ytjkggiemnfigbaa.PTT
set_option linter.unusedVariables false
theorem opn22 : Opn Try.prog (Kd.int .u64) 22 (fun n => (Lit.int .u64 n).wf = true) := Opn.int Try.underlying22
theorem opn23 : Opn Try.prog (Kd.slice 22 (Kd.int .u64)) 23 (fun l => l.length ≤ maxLen ∧ ∀ a ∈ l, (fun n : Int => (Lit.int .u64 n).wf = true) a) := Opn.slice Try.underlying23 (by kernel_rfl) opn22
/-- The pure statement of the law. -/
def Pure : Prop := ∀ (l0 : List Int) (a1 : Int), (fun l : List Int => l.length ≤ maxLen ∧ ∀ a ∈ l, (fun n : Int => (Lit.int .u64 n).wf = true) a) l0 → (Lit.int .i64 a1).wf = true → ∃ k, privitylaw04_PolyTrim.f k l0 a1 = some true
end Go.Proofs.Ytjkggiemnfigbaa.polyTrim
