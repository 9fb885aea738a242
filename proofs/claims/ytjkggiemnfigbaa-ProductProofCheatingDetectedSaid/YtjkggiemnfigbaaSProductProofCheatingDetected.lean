-- Written by this session's program (wip/mkprint.py, wip/prx.sh) over the seat's translation. Lean checks it.
import Derived.Test.YtjkggiemnfigbaaPSCx2
import Derived.Test.YtjkggiemnfigbaaOpen
namespace Go.Proofs.Ytjkggiemnfigbaa.productProofCheatingDetected
open Go.RowKit Go.Proofs.YtjkggiemnfigbaaW.PrintWords Go.Proofs.YtjkggiemnfigbaaW.PrintMore Go.Proofs.YtjkggiemnfigbaaOpen Go.Proofs.Ytjkggiemnfigbaa.PSC
set_option linter.unusedVariables false
theorem opn22 : Opn Try.prog (Kd.int .u64) 22 (fun n => (Lit.int .u64 n).wf = true) := Opn.int Try.underlying22
theorem opn3 : Opn Try.prog (Kd.int .i64) 3 (fun n => (Lit.int .i64 n).wf = true) := Opn.int Try.underlying3
theorem opn23 : Opn Try.prog (Kd.slice 22 (Kd.int .u64)) 23 (fun l => l.length ≤ maxLen ∧ ∀ a ∈ l, (fun n : Int => (Lit.int .u64 n).wf = true) a) := Opn.slice Try.underlying23 (by kernel_rfl) opn22
theorem opn28 : Opn Try.prog (Kd.slice 23 (Kd.slice 22 (Kd.int .u64))) 28 (fun l => l.length ≤ maxLen ∧ ∀ a ∈ l, (fun l : List Int => l.length ≤ maxLen ∧ ∀ a ∈ l, (fun n : Int => (Lit.int .u64 n).wf = true) a) a) := Opn.slice Try.underlying28 (by kernel_rfl) opn23
theorem opn39 : Opn Try.prog k39 39 (fun x => (fun n : Int => (Lit.int .u64 n).wf = true) x.f0 ∧ (fun n : Int => (Lit.int .i64 n).wf = true) x.f1 ∧ (fun l : List Int => l.length ≤ maxLen ∧ ∀ a ∈ l, (fun n : Int => (Lit.int .u64 n).wf = true) a) x.f2 ∧ (fun l : List Int => l.length ≤ maxLen ∧ ∀ a ∈ l, (fun n : Int => (Lit.int .u64 n).wf = true) a) x.f3 ∧ (fun l : List Int => l.length ≤ maxLen ∧ ∀ a ∈ l, (fun n : Int => (Lit.int .u64 n).wf = true) a) x.f4 ∧ (fun l : List (List Int) => l.length ≤ maxLen ∧ ∀ a ∈ l, (fun l : List Int => l.length ≤ maxLen ∧ ∀ a ∈ l, (fun n : Int => (Lit.int .u64 n).wf = true) a) a) x.f5) := by
  intro H enc W fuel cs x h
  obtain ⟨xs, n, _, _, hl, hx, hf⟩ := DataW.trod_struct Try.underlying39 h
  obtain ⟨a0, ka0, wa0⟩ := fieldAt hx hf 0 _ rfl opn22 0 1 rfl (by kernel_rfl)
  obtain ⟨a1, ka1, wa1⟩ := fieldAt hx hf 1 _ rfl opn3 1 1 rfl (by kernel_rfl)
  obtain ⟨a2, ka2, wa2⟩ := fieldAt hx hf 2 _ rfl opn23 2 1 rfl (by kernel_rfl)
  obtain ⟨a3, ka3, wa3⟩ := fieldAt hx hf 3 _ rfl opn23 3 1 rfl (by kernel_rfl)
  obtain ⟨a4, ka4, wa4⟩ := fieldAt hx hf 4 _ rfl opn23 4 1 rfl (by kernel_rfl)
  obtain ⟨a5, ka5, wa5⟩ := fieldAt hx hf 5 _ rfl opn28 5 1 rfl (by kernel_rfl)
  exact ⟨⟨a0, a1, a2, a3, a4, a5⟩, (pairK (off := 0) (s := 1) ka0 (pairK (off := 1) (s := 1) ka1 (pairK (off := 2) (s := 1) ka2 (pairK (off := 3) (s := 1) ka3 (pairK (off := 4) (s := 1) ka4 (lastK (off := 5) (s := 1) (hl.trans (by kernel_rfl)) ka5)))))), ⟨wa0, wa1, wa2, wa3, wa4, wa5⟩⟩
theorem opn5 : Opn Try.prog (Kd.int .u8) 5 (fun n => (Lit.int .u8 n).wf = true) := Opn.int Try.underlying5
theorem opn52 : Opn Try.prog (Kd.slice 5 (Kd.int .u8)) 52 (fun l => l.length ≤ maxLen ∧ ∀ a ∈ l, (fun n : Int => (Lit.int .u8 n).wf = true) a) := Opn.slice Try.underlying52 (by kernel_rfl) opn5
/-- The pure statement of the law. -/
def Pure : Prop := ∀ (x0 : S39) (a1 : Int) (l2 : List Int), (fun x : S39 => (fun n : Int => (Lit.int .u64 n).wf = true) x.f0 ∧ (fun n : Int => (Lit.int .i64 n).wf = true) x.f1 ∧ (fun l : List Int => l.length ≤ maxLen ∧ ∀ a ∈ l, (fun n : Int => (Lit.int .u64 n).wf = true) a) x.f2 ∧ (fun l : List Int => l.length ≤ maxLen ∧ ∀ a ∈ l, (fun n : Int => (Lit.int .u64 n).wf = true) a) x.f3 ∧ (fun l : List Int => l.length ≤ maxLen ∧ ∀ a ∈ l, (fun n : Int => (Lit.int .u64 n).wf = true) a) x.f4 ∧ (fun l : List (List Int) => l.length ≤ maxLen ∧ ∀ a ∈ l, (fun l : List Int => l.length ≤ maxLen ∧ ∀ a ∈ l, (fun n : Int => (Lit.int .u64 n).wf = true) a) a) x.f5) x0 → (Lit.int .u8 a1).wf = true → (fun l : List Int => l.length ≤ maxLen ∧ ∀ a ∈ l, (fun n : Int => (Lit.int .u8 n).wf = true) a) l2 → ∃ k, privitylaw21_ProductProofCheatingDetected.f k x0.f0 x0.f1 x0.f2 x0.f3 x0.f4 x0.f5 a1 l2 = some true
end Go.Proofs.Ytjkggiemnfigbaa.productProofCheatingDetected
