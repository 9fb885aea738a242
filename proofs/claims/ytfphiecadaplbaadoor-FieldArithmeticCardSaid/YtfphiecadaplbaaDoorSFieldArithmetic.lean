-- Written by this session's program (wip/mkprint.py, wip/prx.sh) over the seat's translation. Lean checks it.
import Derived.Test.YtfphiecadaplbaaDoorPAx5
import Derived.Test.YtfphiecadaplbaaDoorOpen
namespace Go.Proofs.YtfphiecadaplbaaDoor.fieldArithmetic
open Go.RowKit Go.Proofs.YtfphiecadaplbaaDoorW.PrintWords Go.Proofs.YtfphiecadaplbaaDoorW.PrintMore Go.Proofs.YtfphiecadaplbaaDoorOpen Go.Proofs.YtfphiecadaplbaaDoor.PA
set_option linter.unusedVariables false
theorem opn22 : Opn Tryd.prog (Kd.int .u64) 22 (fun n => (Lit.int .u64 n).wf = true) := Opn.int Tryd.underlying22
theorem opn27 : Opn Tryd.prog k27 27 (fun x => (fun n : Int => (Lit.int .u64 n).wf = true) x.f0 ∧ (fun n : Int => (Lit.int .u64 n).wf = true) x.f1 ∧ (fun n : Int => (Lit.int .u64 n).wf = true) x.f2 ∧ (fun n : Int => (Lit.int .u64 n).wf = true) x.f3) := by
  intro H enc W fuel cs x h
  obtain ⟨xs, n, _, _, hl, hx, hf⟩ := DataW.trod_struct Tryd.underlying27 h
  obtain ⟨a0, ka0, wa0⟩ := fieldAt hx hf 0 _ rfl opn22 0 1 rfl (by kernel_rfl)
  obtain ⟨a1, ka1, wa1⟩ := fieldAt hx hf 1 _ rfl opn22 1 1 rfl (by kernel_rfl)
  obtain ⟨a2, ka2, wa2⟩ := fieldAt hx hf 2 _ rfl opn22 2 1 rfl (by kernel_rfl)
  obtain ⟨a3, ka3, wa3⟩ := fieldAt hx hf 3 _ rfl opn22 3 1 rfl (by kernel_rfl)
  exact ⟨⟨a0, a1, a2, a3⟩, (pairK (off := 0) (s := 1) ka0 (pairK (off := 1) (s := 1) ka1 (pairK (off := 2) (s := 1) ka2 (lastK (off := 3) (s := 1) (hl.trans (by kernel_rfl)) ka3)))), ⟨wa0, wa1, wa2, wa3⟩⟩
/-- The pure statement of the law. -/
def Pure : Prop := ∀ (x0 : S27), (fun x : S27 => (fun n : Int => (Lit.int .u64 n).wf = true) x.f0 ∧ (fun n : Int => (Lit.int .u64 n).wf = true) x.f1 ∧ (fun n : Int => (Lit.int .u64 n).wf = true) x.f2 ∧ (fun n : Int => (Lit.int .u64 n).wf = true) x.f3) x0 → ∃ k, privitylaw01_FieldArithmetic.f k x0.f0 x0.f1 x0.f2 x0.f3 = some true
end Go.Proofs.YtfphiecadaplbaaDoor.fieldArithmetic
