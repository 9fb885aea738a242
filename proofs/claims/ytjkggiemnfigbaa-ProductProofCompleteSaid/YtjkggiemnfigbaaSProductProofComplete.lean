-- Written by this session's program (wip/mkprint.py, wip/prx.sh) over the seat's translation. Lean checks it.
import Derived.Test.YtjkggiemnfigbaaPRx3
import Derived.Test.YtjkggiemnfigbaaOpen
namespace Go.Proofs.Ytjkggiemnfigbaa.productProofComplete
open Go.RowKit Go.Proofs.YtjkggiemnfigbaaW.PrintWords Go.Proofs.YtjkggiemnfigbaaW.PrintMore Go.Proofs.YtjkggiemnfigbaaOpen Go.Proofs.Ytjkggiemnfigbaa.PR
set_option linter.unusedVariables false
theorem opn22 : Opn Try.prog (Kd.int .u64) 22 (fun n => (Lit.int .u64 n).wf = true) := Opn.int Try.underlying22
theorem opn3 : Opn Try.prog (Kd.int .i64) 3 (fun n => (Lit.int .i64 n).wf = true) := Opn.int Try.underlying3
theorem opn23 : Opn Try.prog (Kd.slice 22 (Kd.int .u64)) 23 (fun l => l.length ≤ maxLen ∧ ∀ a ∈ l, (fun n : Int => (Lit.int .u64 n).wf = true) a) := Opn.slice Try.underlying23 (by kernel_rfl) opn22
theorem opn25 : Opn Try.prog k25 25 (fun x => (fun n : Int => (Lit.int .u64 n).wf = true) x.f0 ∧ (fun n : Int => (Lit.int .i64 n).wf = true) x.f1 ∧ (fun l : List Int => l.length ≤ maxLen ∧ ∀ a ∈ l, (fun n : Int => (Lit.int .u64 n).wf = true) a) x.f2 ∧ (fun l : List Int => l.length ≤ maxLen ∧ ∀ a ∈ l, (fun n : Int => (Lit.int .u64 n).wf = true) a) x.f3 ∧ (fun l : List Int => l.length ≤ maxLen ∧ ∀ a ∈ l, (fun n : Int => (Lit.int .u64 n).wf = true) a) x.f4) := by
  intro H enc W fuel cs x h
  obtain ⟨xs, n, _, _, hl, hx, hf⟩ := DataW.trod_struct Try.underlying25 h
  obtain ⟨a0, ka0, wa0⟩ := fieldAt hx hf 0 _ rfl opn22 0 1 rfl (by kernel_rfl)
  obtain ⟨a1, ka1, wa1⟩ := fieldAt hx hf 1 _ rfl opn3 1 1 rfl (by kernel_rfl)
  obtain ⟨a2, ka2, wa2⟩ := fieldAt hx hf 2 _ rfl opn23 2 1 rfl (by kernel_rfl)
  obtain ⟨a3, ka3, wa3⟩ := fieldAt hx hf 3 _ rfl opn23 3 1 rfl (by kernel_rfl)
  obtain ⟨a4, ka4, wa4⟩ := fieldAt hx hf 4 _ rfl opn23 4 1 rfl (by kernel_rfl)
  exact ⟨⟨a0, a1, a2, a3, a4⟩, (pairK (off := 0) (s := 1) ka0 (pairK (off := 1) (s := 1) ka1 (pairK (off := 2) (s := 1) ka2 (pairK (off := 3) (s := 1) ka3 (lastK (off := 4) (s := 1) (hl.trans (by kernel_rfl)) ka4))))), ⟨wa0, wa1, wa2, wa3, wa4⟩⟩
/-- The pure statement of the law. -/
def Pure : Prop := ∀ (x0 : S25) (a1 : Int), (fun x : S25 => (fun n : Int => (Lit.int .u64 n).wf = true) x.f0 ∧ (fun n : Int => (Lit.int .i64 n).wf = true) x.f1 ∧ (fun l : List Int => l.length ≤ maxLen ∧ ∀ a ∈ l, (fun n : Int => (Lit.int .u64 n).wf = true) a) x.f2 ∧ (fun l : List Int => l.length ≤ maxLen ∧ ∀ a ∈ l, (fun n : Int => (Lit.int .u64 n).wf = true) a) x.f3 ∧ (fun l : List Int => l.length ≤ maxLen ∧ ∀ a ∈ l, (fun n : Int => (Lit.int .u64 n).wf = true) a) x.f4) x0 → (Lit.int .u64 a1).wf = true → ∃ k, privitylaw21_ProductProofComplete.f k x0.f0 x0.f1 x0.f2 x0.f3 x0.f4 a1 = some true
end Go.Proofs.Ytjkggiemnfigbaa.productProofComplete
