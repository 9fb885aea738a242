/-
  No cell of these rows narrows 'for every input' (looked for: loops, veiled, ifaces, maps, wideKeys, modest, calm, conditions, laid).
  DERIVED. THE GIVEN ROWS OF THIS SEAT. 11 by the template 'for every input the law returns true; each argument reads behind the call as it read before'; 0 by the template 'total and deterministic' (their statements: YtbogcgkeabkliabTotals.lean).
  GIVEN WITH THE SEED: the statements are not yours to turn. If you find one false, say at which input.
  Laid BY PROGRAM, IN A SANDBOX (cutbox-rows.mjs): the forced cells as the released guide's own fill.sh prints them over the translation 98136d96193ab916… (all of the seat's roots in one cut). By AI agents, Wed Nov 11 2026. No macro, syntax, notation, axiom, sorry.
-/
import Derived.Test.YtbogcgkeabkliabChecked
import GoSem.Claim
import GoSem.ClaimJoined
import GoSem.ClaimMapViews
import Derived.JoinedTies
import Derived.KernelRfl
namespace Go.Proofs.Ytbogcgkeabkliab
/- THE CELL 'sum', in the pinned program and in every row, IS THE sha256 OF THE DUMP (.gsa) THAT YtbogcgkeabkliabProg.lean LOADS. Nothing in Lean hashes anything: it is a label: what it is worth is what the hold of that sum in a sandbox is worth. -/
noncomputable def Try.pinned : Pinned := { name := "ytbogcgkeabkliab", sum := "98136d96193ab9164c39571d6c8135181a765559aa6dcbbb34f001745809dd17", checked := Try.checked }
namespace Rows
def none {H : Type} : Left H := { results := [], args := [] }

/-- 'privitylaw06.MatrixRankAndDeterminant': WHATEVER THE INPUT: true; the input reads as it did. -/
def matrixRankAndDeterminantSpec : ChangeSpec := { name := "matrixRankAndDeterminant", fn := fun _ => fun
  | [d1, d2] => { results := [.lit (.bool true)], args := [d1, d2] }
  | _ => none }
def matrixRankAndDeterminantRow : OpenClaim := { program := "ytbogcgkeabkliab", sum := "98136d96193ab9164c39571d6c8135181a765559aa6dcbbb34f001745809dd17", func := "privity/privitylaw06.MatrixRankAndDeterminant", spec := "matrixRankAndDeterminant", inPlace := ["math/bits.Add64"], unfollowed := true, recurses := true, apart := false }
def MatrixRankAndDeterminantSaid : Prop := matrixRankAndDeterminantRow.holds Try.pinned (OpenSpec.ofChange matrixRankAndDeterminantSpec)

/-- ITS FALSE NEIGHBOUR: 'it returns false'. Refute it at one input. -/
def matrixRankAndDeterminantWrong : ChangeSpec := { name := "matrixRankAndDeterminant", fn := fun _ => fun
  | [d1, d2] => { results := [.lit (.bool false)], args := [d1, d2] }
  | _ => none }
def MatrixRankAndDeterminantWrongFalsely : Prop := matrixRankAndDeterminantRow.holds Try.pinned (OpenSpec.ofChange matrixRankAndDeterminantWrong)

/-- 'privitylaw06.MatrixSolve': WHATEVER THE INPUT: true; the input reads as it did. -/
def matrixSolveSpec : ChangeSpec := { name := "matrixSolve", fn := fun _ => fun
  | [d1, d2, d3] => { results := [.lit (.bool true)], args := [d1, d2, d3] }
  | _ => none }
def matrixSolveRow : OpenClaim := { program := "ytbogcgkeabkliab", sum := "98136d96193ab9164c39571d6c8135181a765559aa6dcbbb34f001745809dd17", func := "privity/privitylaw06.MatrixSolve", spec := "matrixSolve", inPlace := ["math/bits.Add64"], unfollowed := true, recurses := true, apart := false }
def MatrixSolveSaid : Prop := matrixSolveRow.holds Try.pinned (OpenSpec.ofChange matrixSolveSpec)

/-- ITS FALSE NEIGHBOUR: 'it returns false'. Refute it at one input. -/
def matrixSolveWrong : ChangeSpec := { name := "matrixSolve", fn := fun _ => fun
  | [d1, d2, d3] => { results := [.lit (.bool false)], args := [d1, d2, d3] }
  | _ => none }
def MatrixSolveWrongFalsely : Prop := matrixSolveRow.holds Try.pinned (OpenSpec.ofChange matrixSolveWrong)

/-- 'privitylaw06.MatrixInverse': WHATEVER THE INPUT: true; the input reads as it did. -/
def matrixInverseSpec : ChangeSpec := { name := "matrixInverse", fn := fun _ => fun
  | [d1, d2] => { results := [.lit (.bool true)], args := [d1, d2] }
  | _ => none }
def matrixInverseRow : OpenClaim := { program := "ytbogcgkeabkliab", sum := "98136d96193ab9164c39571d6c8135181a765559aa6dcbbb34f001745809dd17", func := "privity/privitylaw06.MatrixInverse", spec := "matrixInverse", inPlace := ["math/bits.Add64"], unfollowed := true, recurses := true, apart := false }
def MatrixInverseSaid : Prop := matrixInverseRow.holds Try.pinned (OpenSpec.ofChange matrixInverseSpec)

/-- ITS FALSE NEIGHBOUR: 'it returns false'. Refute it at one input. -/
def matrixInverseWrong : ChangeSpec := { name := "matrixInverse", fn := fun _ => fun
  | [d1, d2] => { results := [.lit (.bool false)], args := [d1, d2] }
  | _ => none }
def MatrixInverseWrongFalsely : Prop := matrixInverseRow.holds Try.pinned (OpenSpec.ofChange matrixInverseWrong)

/-- 'privitylaw06.MatrixAssociative': WHATEVER THE INPUT: true; the input reads as it did. -/
def matrixAssociativeSpec : ChangeSpec := { name := "matrixAssociative", fn := fun _ => fun
  | [d1, d2] => { results := [.lit (.bool true)], args := [d1, d2] }
  | _ => none }
def matrixAssociativeRow : OpenClaim := { program := "ytbogcgkeabkliab", sum := "98136d96193ab9164c39571d6c8135181a765559aa6dcbbb34f001745809dd17", func := "privity/privitylaw06.MatrixAssociative", spec := "matrixAssociative", inPlace := ["math/bits.Add64"], unfollowed := true, recurses := true, apart := false }
def MatrixAssociativeSaid : Prop := matrixAssociativeRow.holds Try.pinned (OpenSpec.ofChange matrixAssociativeSpec)

/-- ITS FALSE NEIGHBOUR: 'it returns false'. Refute it at one input. -/
def matrixAssociativeWrong : ChangeSpec := { name := "matrixAssociative", fn := fun _ => fun
  | [d1, d2] => { results := [.lit (.bool false)], args := [d1, d2] }
  | _ => none }
def MatrixAssociativeWrongFalsely : Prop := matrixAssociativeRow.holds Try.pinned (OpenSpec.ofChange matrixAssociativeWrong)

/-- 'privitylaw06.MatrixTranspose': WHATEVER THE INPUT: true; the input reads as it did. -/
def matrixTransposeSpec : ChangeSpec := { name := "matrixTranspose", fn := fun _ => fun
  | [d1, d2] => { results := [.lit (.bool true)], args := [d1, d2] }
  | _ => none }
def matrixTransposeRow : OpenClaim := { program := "ytbogcgkeabkliab", sum := "98136d96193ab9164c39571d6c8135181a765559aa6dcbbb34f001745809dd17", func := "privity/privitylaw06.MatrixTranspose", spec := "matrixTranspose", inPlace := ["math/bits.Add64"], unfollowed := true, recurses := true, apart := false }
def MatrixTransposeSaid : Prop := matrixTransposeRow.holds Try.pinned (OpenSpec.ofChange matrixTransposeSpec)

/-- ITS FALSE NEIGHBOUR: 'it returns false'. Refute it at one input. -/
def matrixTransposeWrong : ChangeSpec := { name := "matrixTranspose", fn := fun _ => fun
  | [d1, d2] => { results := [.lit (.bool false)], args := [d1, d2] }
  | _ => none }
def MatrixTransposeWrongFalsely : Prop := matrixTransposeRow.holds Try.pinned (OpenSpec.ofChange matrixTransposeWrong)

/-- 'privitylaw06.MatrixProduct': WHATEVER THE INPUT: true; the input reads as it did. -/
def matrixProductSpec : ChangeSpec := { name := "matrixProduct", fn := fun _ => fun
  | [d] => { results := [.lit (.bool true)], args := [d] }
  | _ => none }
def matrixProductRow : OpenClaim := { program := "ytbogcgkeabkliab", sum := "98136d96193ab9164c39571d6c8135181a765559aa6dcbbb34f001745809dd17", func := "privity/privitylaw06.MatrixProduct", spec := "matrixProduct", inPlace := ["math/bits.Add64"], unfollowed := true, recurses := true, apart := false }
def MatrixProductSaid : Prop := matrixProductRow.holds Try.pinned (OpenSpec.ofChange matrixProductSpec)

/-- ITS FALSE NEIGHBOUR: 'it returns false'. Refute it at one input. -/
def matrixProductWrong : ChangeSpec := { name := "matrixProduct", fn := fun _ => fun
  | [d] => { results := [.lit (.bool false)], args := [d] }
  | _ => none }
def MatrixProductWrongFalsely : Prop := matrixProductRow.holds Try.pinned (OpenSpec.ofChange matrixProductWrong)

/-- 'privitylaw06.MatrixUnsolvableWitness': WHATEVER THE INPUT: true; the input reads as it did. -/
def matrixUnsolvableWitnessSpec : ChangeSpec := { name := "matrixUnsolvableWitness", fn := fun _ => fun
  | [d1, d2, d3] => { results := [.lit (.bool true)], args := [d1, d2, d3] }
  | _ => none }
def matrixUnsolvableWitnessRow : OpenClaim := { program := "ytbogcgkeabkliab", sum := "98136d96193ab9164c39571d6c8135181a765559aa6dcbbb34f001745809dd17", func := "privity/privitylaw06.MatrixUnsolvableWitness", spec := "matrixUnsolvableWitness", inPlace := ["math/bits.Add64"], unfollowed := true, recurses := true, apart := false }
def MatrixUnsolvableWitnessSaid : Prop := matrixUnsolvableWitnessRow.holds Try.pinned (OpenSpec.ofChange matrixUnsolvableWitnessSpec)

/-- ITS FALSE NEIGHBOUR: 'it returns false'. Refute it at one input. -/
def matrixUnsolvableWitnessWrong : ChangeSpec := { name := "matrixUnsolvableWitness", fn := fun _ => fun
  | [d1, d2, d3] => { results := [.lit (.bool false)], args := [d1, d2, d3] }
  | _ => none }
def MatrixUnsolvableWitnessWrongFalsely : Prop := matrixUnsolvableWitnessRow.holds Try.pinned (OpenSpec.ofChange matrixUnsolvableWitnessWrong)

/-- 'privitylaw06.MatrixRowSpan': WHATEVER THE INPUT: true; the input reads as it did. -/
def matrixRowSpanSpec : ChangeSpec := { name := "matrixRowSpan", fn := fun _ => fun
  | [d1, d2, d3] => { results := [.lit (.bool true)], args := [d1, d2, d3] }
  | _ => none }
def matrixRowSpanRow : OpenClaim := { program := "ytbogcgkeabkliab", sum := "98136d96193ab9164c39571d6c8135181a765559aa6dcbbb34f001745809dd17", func := "privity/privitylaw06.MatrixRowSpan", spec := "matrixRowSpan", inPlace := ["math/bits.Add64"], unfollowed := true, recurses := true, apart := false }
def MatrixRowSpanSaid : Prop := matrixRowSpanRow.holds Try.pinned (OpenSpec.ofChange matrixRowSpanSpec)

/-- ITS FALSE NEIGHBOUR: 'it returns false'. Refute it at one input. -/
def matrixRowSpanWrong : ChangeSpec := { name := "matrixRowSpan", fn := fun _ => fun
  | [d1, d2, d3] => { results := [.lit (.bool false)], args := [d1, d2, d3] }
  | _ => none }
def MatrixRowSpanWrongFalsely : Prop := matrixRowSpanRow.holds Try.pinned (OpenSpec.ofChange matrixRowSpanWrong)

/-- 'privitylaw08.ReedsolomonDecode': WHATEVER THE INPUT: true; the input reads as it did. -/
def reedsolomonDecodeSpec : ChangeSpec := { name := "reedsolomonDecode", fn := fun _ => fun
  | [d] => { results := [.lit (.bool true)], args := [d] }
  | _ => none }
def reedsolomonDecodeRow : OpenClaim := { program := "ytbogcgkeabkliab", sum := "98136d96193ab9164c39571d6c8135181a765559aa6dcbbb34f001745809dd17", func := "privity/privitylaw08.ReedsolomonDecode", spec := "reedsolomonDecode", inPlace := ["math/bits.Add64"], unfollowed := true, recurses := true, apart := false }
def ReedsolomonDecodeSaid : Prop := reedsolomonDecodeRow.holds Try.pinned (OpenSpec.ofChange reedsolomonDecodeSpec)

/-- ITS FALSE NEIGHBOUR: 'it returns false'. Refute it at one input. -/
def reedsolomonDecodeWrong : ChangeSpec := { name := "reedsolomonDecode", fn := fun _ => fun
  | [d] => { results := [.lit (.bool false)], args := [d] }
  | _ => none }
def ReedsolomonDecodeWrongFalsely : Prop := reedsolomonDecodeRow.holds Try.pinned (OpenSpec.ofChange reedsolomonDecodeWrong)

/-- 'privitylaw08.ReedsolomonErrorPositions': WHATEVER THE INPUT: true; the input reads as it did. -/
def reedsolomonErrorPositionsSpec : ChangeSpec := { name := "reedsolomonErrorPositions", fn := fun _ => fun
  | [d1, d2] => { results := [.lit (.bool true)], args := [d1, d2] }
  | _ => none }
def reedsolomonErrorPositionsRow : OpenClaim := { program := "ytbogcgkeabkliab", sum := "98136d96193ab9164c39571d6c8135181a765559aa6dcbbb34f001745809dd17", func := "privity/privitylaw08.ReedsolomonErrorPositions", spec := "reedsolomonErrorPositions", inPlace := ["math/bits.Add64"], unfollowed := true, recurses := true, apart := false }
def ReedsolomonErrorPositionsSaid : Prop := reedsolomonErrorPositionsRow.holds Try.pinned (OpenSpec.ofChange reedsolomonErrorPositionsSpec)

/-- ITS FALSE NEIGHBOUR: 'it returns false'. Refute it at one input. -/
def reedsolomonErrorPositionsWrong : ChangeSpec := { name := "reedsolomonErrorPositions", fn := fun _ => fun
  | [d1, d2] => { results := [.lit (.bool false)], args := [d1, d2] }
  | _ => none }
def ReedsolomonErrorPositionsWrongFalsely : Prop := reedsolomonErrorPositionsRow.holds Try.pinned (OpenSpec.ofChange reedsolomonErrorPositionsWrong)

/-- 'privitylaw08.ReedsolomonCorrects': WHATEVER THE INPUT: true; the input reads as it did. -/
def reedsolomonCorrectsSpec : ChangeSpec := { name := "reedsolomonCorrects", fn := fun _ => fun
  | [d1, d2] => { results := [.lit (.bool true)], args := [d1, d2] }
  | _ => none }
def reedsolomonCorrectsRow : OpenClaim := { program := "ytbogcgkeabkliab", sum := "98136d96193ab9164c39571d6c8135181a765559aa6dcbbb34f001745809dd17", func := "privity/privitylaw08.ReedsolomonCorrects", spec := "reedsolomonCorrects", inPlace := ["math/bits.Add64"], unfollowed := true, recurses := true, apart := false }
def ReedsolomonCorrectsSaid : Prop := reedsolomonCorrectsRow.holds Try.pinned (OpenSpec.ofChange reedsolomonCorrectsSpec)

/-- ITS FALSE NEIGHBOUR: 'it returns false'. Refute it at one input. -/
def reedsolomonCorrectsWrong : ChangeSpec := { name := "reedsolomonCorrects", fn := fun _ => fun
  | [d1, d2] => { results := [.lit (.bool false)], args := [d1, d2] }
  | _ => none }
def ReedsolomonCorrectsWrongFalsely : Prop := reedsolomonCorrectsRow.holds Try.pinned (OpenSpec.ofChange reedsolomonCorrectsWrong)

/- THE SECOND FORM. 'bulk': how many values and letters a reading holds, each counted each time it is reached (what is shared counts as often as it is met; a slice's spare places count too). A statement '..UptoSaid' is the law's where the arguments, and the package variables that the reading takes, are together of bulk at most 1048576: NARROWER than '..Said'. Prove '..Said' where nothing that the law and all that it calls make is longer than what came in: it says more and counts as full. Else prove '..UptoSaid'. A law counts once. -/
mutual
def uptoBulk {H : Type} : DataW H → Nat
  | .lit (.string bytes) => bytes.length + 1
  | .lit _ => 1
  | .nil => 1
  | .ptr d => uptoBulk d + 1
  | .slice elems spare => uptoBulkAll elems + uptoBulkAll spare + 1
  | .agg parts => uptoBulkAll parts + 1
  | .iface _ d => uptoBulk d + 1
  | .map entries => uptoBulkEntries entries + 1
  | .held _ => 1
def uptoBulkAll {H : Type} : List (DataW H) → Nat
  | [] => 0
  | d :: r => uptoBulk d + uptoBulkAll r
def uptoBulkEntries {H : Type} : List (Lit × DataW H) → Nat
  | [] => 0
  | x :: r => uptoBulkEntry x + uptoBulkEntries r
def uptoBulkEntry {H : Type} : Lit × DataW H → Nat
  | (.string bytes, d) => bytes.length + uptoBulk d + 1
  | (_, d) => uptoBulk d + 1
 end
def uptoSmall : (H : Type) → List (DataW H) → Bool := fun _ ds => decide (uptoBulkAll ds ≤ 1048576)
def OpenSpec.upto (s : _root_.Go.ChangeSpec) : _root_.Go.OpenSpec := { _root_.Go.OpenSpec.ofChange s with cond := some uptoSmall }

/-- 'privitylaw06.MatrixRankAndDeterminant', WHERE WHAT IT READS IS OF BULK AT MOST 1048576: true; the input reads as it did. -/
def matrixRankAndDeterminantUptoRow : OpenClaim := { program := "ytbogcgkeabkliab", sum := "98136d96193ab9164c39571d6c8135181a765559aa6dcbbb34f001745809dd17", func := "privity/privitylaw06.MatrixRankAndDeterminant", spec := "matrixRankAndDeterminant", inPlace := ["math/bits.Add64"], unfollowed := true, recurses := true, apart := false, narrowed := true }
def MatrixRankAndDeterminantUptoSaid : Prop := matrixRankAndDeterminantUptoRow.holds Try.pinned (OpenSpec.upto matrixRankAndDeterminantSpec)

/-- 'privitylaw06.MatrixSolve', WHERE WHAT IT READS IS OF BULK AT MOST 1048576: true; the input reads as it did. -/
def matrixSolveUptoRow : OpenClaim := { program := "ytbogcgkeabkliab", sum := "98136d96193ab9164c39571d6c8135181a765559aa6dcbbb34f001745809dd17", func := "privity/privitylaw06.MatrixSolve", spec := "matrixSolve", inPlace := ["math/bits.Add64"], unfollowed := true, recurses := true, apart := false, narrowed := true }
def MatrixSolveUptoSaid : Prop := matrixSolveUptoRow.holds Try.pinned (OpenSpec.upto matrixSolveSpec)

/-- 'privitylaw06.MatrixInverse', WHERE WHAT IT READS IS OF BULK AT MOST 1048576: true; the input reads as it did. -/
def matrixInverseUptoRow : OpenClaim := { program := "ytbogcgkeabkliab", sum := "98136d96193ab9164c39571d6c8135181a765559aa6dcbbb34f001745809dd17", func := "privity/privitylaw06.MatrixInverse", spec := "matrixInverse", inPlace := ["math/bits.Add64"], unfollowed := true, recurses := true, apart := false, narrowed := true }
def MatrixInverseUptoSaid : Prop := matrixInverseUptoRow.holds Try.pinned (OpenSpec.upto matrixInverseSpec)

/-- 'privitylaw06.MatrixAssociative', WHERE WHAT IT READS IS OF BULK AT MOST 1048576: true; the input reads as it did. -/
def matrixAssociativeUptoRow : OpenClaim := { program := "ytbogcgkeabkliab", sum := "98136d96193ab9164c39571d6c8135181a765559aa6dcbbb34f001745809dd17", func := "privity/privitylaw06.MatrixAssociative", spec := "matrixAssociative", inPlace := ["math/bits.Add64"], unfollowed := true, recurses := true, apart := false, narrowed := true }
def MatrixAssociativeUptoSaid : Prop := matrixAssociativeUptoRow.holds Try.pinned (OpenSpec.upto matrixAssociativeSpec)

/-- 'privitylaw06.MatrixTranspose', WHERE WHAT IT READS IS OF BULK AT MOST 1048576: true; the input reads as it did. -/
def matrixTransposeUptoRow : OpenClaim := { program := "ytbogcgkeabkliab", sum := "98136d96193ab9164c39571d6c8135181a765559aa6dcbbb34f001745809dd17", func := "privity/privitylaw06.MatrixTranspose", spec := "matrixTranspose", inPlace := ["math/bits.Add64"], unfollowed := true, recurses := true, apart := false, narrowed := true }
def MatrixTransposeUptoSaid : Prop := matrixTransposeUptoRow.holds Try.pinned (OpenSpec.upto matrixTransposeSpec)

/-- 'privitylaw06.MatrixProduct', WHERE WHAT IT READS IS OF BULK AT MOST 1048576: true; the input reads as it did. -/
def matrixProductUptoRow : OpenClaim := { program := "ytbogcgkeabkliab", sum := "98136d96193ab9164c39571d6c8135181a765559aa6dcbbb34f001745809dd17", func := "privity/privitylaw06.MatrixProduct", spec := "matrixProduct", inPlace := ["math/bits.Add64"], unfollowed := true, recurses := true, apart := false, narrowed := true }
def MatrixProductUptoSaid : Prop := matrixProductUptoRow.holds Try.pinned (OpenSpec.upto matrixProductSpec)

/-- 'privitylaw06.MatrixUnsolvableWitness', WHERE WHAT IT READS IS OF BULK AT MOST 1048576: true; the input reads as it did. -/
def matrixUnsolvableWitnessUptoRow : OpenClaim := { program := "ytbogcgkeabkliab", sum := "98136d96193ab9164c39571d6c8135181a765559aa6dcbbb34f001745809dd17", func := "privity/privitylaw06.MatrixUnsolvableWitness", spec := "matrixUnsolvableWitness", inPlace := ["math/bits.Add64"], unfollowed := true, recurses := true, apart := false, narrowed := true }
def MatrixUnsolvableWitnessUptoSaid : Prop := matrixUnsolvableWitnessUptoRow.holds Try.pinned (OpenSpec.upto matrixUnsolvableWitnessSpec)

/-- 'privitylaw06.MatrixRowSpan', WHERE WHAT IT READS IS OF BULK AT MOST 1048576: true; the input reads as it did. -/
def matrixRowSpanUptoRow : OpenClaim := { program := "ytbogcgkeabkliab", sum := "98136d96193ab9164c39571d6c8135181a765559aa6dcbbb34f001745809dd17", func := "privity/privitylaw06.MatrixRowSpan", spec := "matrixRowSpan", inPlace := ["math/bits.Add64"], unfollowed := true, recurses := true, apart := false, narrowed := true }
def MatrixRowSpanUptoSaid : Prop := matrixRowSpanUptoRow.holds Try.pinned (OpenSpec.upto matrixRowSpanSpec)

/-- 'privitylaw08.ReedsolomonDecode', WHERE WHAT IT READS IS OF BULK AT MOST 1048576: true; the input reads as it did. -/
def reedsolomonDecodeUptoRow : OpenClaim := { program := "ytbogcgkeabkliab", sum := "98136d96193ab9164c39571d6c8135181a765559aa6dcbbb34f001745809dd17", func := "privity/privitylaw08.ReedsolomonDecode", spec := "reedsolomonDecode", inPlace := ["math/bits.Add64"], unfollowed := true, recurses := true, apart := false, narrowed := true }
def ReedsolomonDecodeUptoSaid : Prop := reedsolomonDecodeUptoRow.holds Try.pinned (OpenSpec.upto reedsolomonDecodeSpec)

/-- 'privitylaw08.ReedsolomonErrorPositions', WHERE WHAT IT READS IS OF BULK AT MOST 1048576: true; the input reads as it did. -/
def reedsolomonErrorPositionsUptoRow : OpenClaim := { program := "ytbogcgkeabkliab", sum := "98136d96193ab9164c39571d6c8135181a765559aa6dcbbb34f001745809dd17", func := "privity/privitylaw08.ReedsolomonErrorPositions", spec := "reedsolomonErrorPositions", inPlace := ["math/bits.Add64"], unfollowed := true, recurses := true, apart := false, narrowed := true }
def ReedsolomonErrorPositionsUptoSaid : Prop := reedsolomonErrorPositionsUptoRow.holds Try.pinned (OpenSpec.upto reedsolomonErrorPositionsSpec)

/-- 'privitylaw08.ReedsolomonCorrects', WHERE WHAT IT READS IS OF BULK AT MOST 1048576: true; the input reads as it did. -/
def reedsolomonCorrectsUptoRow : OpenClaim := { program := "ytbogcgkeabkliab", sum := "98136d96193ab9164c39571d6c8135181a765559aa6dcbbb34f001745809dd17", func := "privity/privitylaw08.ReedsolomonCorrects", spec := "reedsolomonCorrects", inPlace := ["math/bits.Add64"], unfollowed := true, recurses := true, apart := false, narrowed := true }
def ReedsolomonCorrectsUptoSaid : Prop := reedsolomonCorrectsUptoRow.holds Try.pinned (OpenSpec.upto reedsolomonCorrectsSpec)

end Rows
end Go.Proofs.Ytbogcgkeabkliab
