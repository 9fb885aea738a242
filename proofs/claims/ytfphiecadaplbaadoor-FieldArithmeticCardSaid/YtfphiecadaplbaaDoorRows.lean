/-
  NARROWER THAN 'FOR EVERY INPUT', by the rows' own cells (each row's printed sentence says how): FieldSupported: laid · FieldPowers: laid · FieldSqrt: laid · FieldSquares: laid · FieldSqrtProduct: laid · FieldAxioms: laid · FieldArithmetic: laid.
  DERIVED. THE GIVEN ROWS OF THIS SEAT. 7 by the template 'for every input the law returns true; each argument reads behind the call as it read before'; 0 by the template 'total and deterministic' (their statements: YtfphiecadaplbaaDoorTotals.lean).
  GIVEN WITH THE SEED: the statements are not yours to turn. If you find one false, say at which input.
  Laid BY PROGRAM, IN A SANDBOX (cutbox-rows.mjs): the forced cells as the released guide's own fill.sh prints them over the translation 4fe3d7a51b58741f… (all of the seat's roots in one cut). By AI agents, Wed Nov 11 2026. No macro, syntax, notation, axiom, sorry.
-/
import Derived.Test.YtfphiecadaplbaaDoorChecked
import GoSem.Claim
import GoSem.ClaimJoined
import GoSem.ClaimMapViews
import Derived.JoinedTies
import Derived.KernelRfl
namespace Go.Proofs.YtfphiecadaplbaaDoor
/- THE CELL 'sum', in the pinned program and in every row, IS THE sha256 OF THE DUMP (.gsa) THAT YtfphiecadaplbaaDoorProg.lean LOADS. Nothing in Lean hashes anything: it is a label: what it is worth is what the hold of that sum in a sandbox is worth. -/
noncomputable def Tryd.pinned : Pinned := { name := "ytfphiecadaplbaadoor", sum := "4fe3d7a51b58741f530c9789acc03149869b35def99a33535eba10d423b95ca4", checked := Tryd.checked }
namespace Rows
def none {H : Type} : Left H := { results := [], args := [] }

/- WHAT THE LISTED PACKAGE-LEVEL VARIABLES READ AS WHEN THE CALL BEGINS. Each datum BY PROGRAM (the guide's laid-datum.mjs) off the statement by which the dump's own 'gosem.cut.vars' lays the variable. In a bare row this is a premise. The card (YtfphiecadaplbaaDoorCards.lean) ties it to the program's text. -/
def laid_privity_field_exps {H : Type} : DataW H := .agg [.lit (.int .i64 5), .lit (.int .i64 7), .lit (.int .i64 13), .lit (.int .i64 17), .lit (.int .i64 19), .lit (.int .i64 31), .lit (.int .i64 61)]

/-- 'privitylaw01.FieldSupported': WHATEVER THE INPUT: true; the input reads as it did. -/
def fieldSupportedSpec : ChangeSpec := { name := "fieldSupported", fn := fun _ => fun
  | [d] => { results := [.lit (.bool true)], args := [d] }
  | _ => none }
def fieldSupportedRow : OpenClaim := { program := "ytfphiecadaplbaadoor", sum := "4fe3d7a51b58741f530c9789acc03149869b35def99a33535eba10d423b95ca4", func := "privity/privitylaw01.FieldSupported", spec := "fieldSupported", inPlace := ["math/bits.Add64"], named := ["privity/field.exps"], apart := false, laid := [("privity/field.exps", laid_privity_field_exps)] }
def FieldSupportedSaid : Prop := fieldSupportedRow.holds Tryd.pinned (OpenSpec.ofChange fieldSupportedSpec)

/-- ITS FALSE NEIGHBOUR: 'it returns false'. Refute it at one input. -/
def fieldSupportedWrong : ChangeSpec := { name := "fieldSupported", fn := fun _ => fun
  | [d] => { results := [.lit (.bool false)], args := [d] }
  | _ => none }
def FieldSupportedWrongFalsely : Prop := fieldSupportedRow.holds Tryd.pinned (OpenSpec.ofChange fieldSupportedWrong)

/-- 'privitylaw01.FieldPowers': WHATEVER THE INPUT: true; the input reads as it did. -/
def fieldPowersSpec : ChangeSpec := { name := "fieldPowers", fn := fun _ => fun
  | [d] => { results := [.lit (.bool true)], args := [d] }
  | _ => none }
def fieldPowersRow : OpenClaim := { program := "ytfphiecadaplbaadoor", sum := "4fe3d7a51b58741f530c9789acc03149869b35def99a33535eba10d423b95ca4", func := "privity/privitylaw01.FieldPowers", spec := "fieldPowers", inPlace := ["math/bits.Add64"], named := ["privity/field.exps"], apart := false, laid := [("privity/field.exps", laid_privity_field_exps)] }
def FieldPowersSaid : Prop := fieldPowersRow.holds Tryd.pinned (OpenSpec.ofChange fieldPowersSpec)

/-- ITS FALSE NEIGHBOUR: 'it returns false'. Refute it at one input. -/
def fieldPowersWrong : ChangeSpec := { name := "fieldPowers", fn := fun _ => fun
  | [d] => { results := [.lit (.bool false)], args := [d] }
  | _ => none }
def FieldPowersWrongFalsely : Prop := fieldPowersRow.holds Tryd.pinned (OpenSpec.ofChange fieldPowersWrong)

/-- 'privitylaw01.FieldSqrt': WHATEVER THE INPUT: true; the input reads as it did. -/
def fieldSqrtSpec : ChangeSpec := { name := "fieldSqrt", fn := fun _ => fun
  | [d] => { results := [.lit (.bool true)], args := [d] }
  | _ => none }
def fieldSqrtRow : OpenClaim := { program := "ytfphiecadaplbaadoor", sum := "4fe3d7a51b58741f530c9789acc03149869b35def99a33535eba10d423b95ca4", func := "privity/privitylaw01.FieldSqrt", spec := "fieldSqrt", inPlace := ["math/bits.Add64"], named := ["privity/field.exps"], apart := false, laid := [("privity/field.exps", laid_privity_field_exps)] }
def FieldSqrtSaid : Prop := fieldSqrtRow.holds Tryd.pinned (OpenSpec.ofChange fieldSqrtSpec)

/-- ITS FALSE NEIGHBOUR: 'it returns false'. Refute it at one input. -/
def fieldSqrtWrong : ChangeSpec := { name := "fieldSqrt", fn := fun _ => fun
  | [d] => { results := [.lit (.bool false)], args := [d] }
  | _ => none }
def FieldSqrtWrongFalsely : Prop := fieldSqrtRow.holds Tryd.pinned (OpenSpec.ofChange fieldSqrtWrong)

/-- 'privitylaw01.FieldSquares': WHATEVER THE INPUT: true; the input reads as it did. -/
def fieldSquaresSpec : ChangeSpec := { name := "fieldSquares", fn := fun _ => fun
  | [d] => { results := [.lit (.bool true)], args := [d] }
  | _ => none }
def fieldSquaresRow : OpenClaim := { program := "ytfphiecadaplbaadoor", sum := "4fe3d7a51b58741f530c9789acc03149869b35def99a33535eba10d423b95ca4", func := "privity/privitylaw01.FieldSquares", spec := "fieldSquares", inPlace := ["math/bits.Add64"], named := ["privity/field.exps"], apart := false, laid := [("privity/field.exps", laid_privity_field_exps)] }
def FieldSquaresSaid : Prop := fieldSquaresRow.holds Tryd.pinned (OpenSpec.ofChange fieldSquaresSpec)

/-- ITS FALSE NEIGHBOUR: 'it returns false'. Refute it at one input. -/
def fieldSquaresWrong : ChangeSpec := { name := "fieldSquares", fn := fun _ => fun
  | [d] => { results := [.lit (.bool false)], args := [d] }
  | _ => none }
def FieldSquaresWrongFalsely : Prop := fieldSquaresRow.holds Tryd.pinned (OpenSpec.ofChange fieldSquaresWrong)

/-- 'privitylaw01.FieldSqrtProduct': WHATEVER THE INPUT: true; the input reads as it did. -/
def fieldSqrtProductSpec : ChangeSpec := { name := "fieldSqrtProduct", fn := fun _ => fun
  | [d] => { results := [.lit (.bool true)], args := [d] }
  | _ => none }
def fieldSqrtProductRow : OpenClaim := { program := "ytfphiecadaplbaadoor", sum := "4fe3d7a51b58741f530c9789acc03149869b35def99a33535eba10d423b95ca4", func := "privity/privitylaw01.FieldSqrtProduct", spec := "fieldSqrtProduct", inPlace := ["math/bits.Add64"], named := ["privity/field.exps"], apart := false, laid := [("privity/field.exps", laid_privity_field_exps)] }
def FieldSqrtProductSaid : Prop := fieldSqrtProductRow.holds Tryd.pinned (OpenSpec.ofChange fieldSqrtProductSpec)

/-- ITS FALSE NEIGHBOUR: 'it returns false'. Refute it at one input. -/
def fieldSqrtProductWrong : ChangeSpec := { name := "fieldSqrtProduct", fn := fun _ => fun
  | [d] => { results := [.lit (.bool false)], args := [d] }
  | _ => none }
def FieldSqrtProductWrongFalsely : Prop := fieldSqrtProductRow.holds Tryd.pinned (OpenSpec.ofChange fieldSqrtProductWrong)

/-- 'privitylaw01.FieldAxioms': WHATEVER THE INPUT: true; the input reads as it did. -/
def fieldAxiomsSpec : ChangeSpec := { name := "fieldAxioms", fn := fun _ => fun
  | [d] => { results := [.lit (.bool true)], args := [d] }
  | _ => none }
def fieldAxiomsRow : OpenClaim := { program := "ytfphiecadaplbaadoor", sum := "4fe3d7a51b58741f530c9789acc03149869b35def99a33535eba10d423b95ca4", func := "privity/privitylaw01.FieldAxioms", spec := "fieldAxioms", inPlace := ["math/bits.Add64"], named := ["privity/field.exps"], apart := false, laid := [("privity/field.exps", laid_privity_field_exps)] }
def FieldAxiomsSaid : Prop := fieldAxiomsRow.holds Tryd.pinned (OpenSpec.ofChange fieldAxiomsSpec)

/-- ITS FALSE NEIGHBOUR: 'it returns false'. Refute it at one input. -/
def fieldAxiomsWrong : ChangeSpec := { name := "fieldAxioms", fn := fun _ => fun
  | [d] => { results := [.lit (.bool false)], args := [d] }
  | _ => none }
def FieldAxiomsWrongFalsely : Prop := fieldAxiomsRow.holds Tryd.pinned (OpenSpec.ofChange fieldAxiomsWrong)

/-- 'privitylaw01.FieldArithmetic': WHATEVER THE INPUT: true; the input reads as it did. -/
def fieldArithmeticSpec : ChangeSpec := { name := "fieldArithmetic", fn := fun _ => fun
  | [d] => { results := [.lit (.bool true)], args := [d] }
  | _ => none }
def fieldArithmeticRow : OpenClaim := { program := "ytfphiecadaplbaadoor", sum := "4fe3d7a51b58741f530c9789acc03149869b35def99a33535eba10d423b95ca4", func := "privity/privitylaw01.FieldArithmetic", spec := "fieldArithmetic", inPlace := ["math/bits.Add64"], named := ["privity/field.exps"], apart := false, laid := [("privity/field.exps", laid_privity_field_exps)] }
def FieldArithmeticSaid : Prop := fieldArithmeticRow.holds Tryd.pinned (OpenSpec.ofChange fieldArithmeticSpec)

/-- ITS FALSE NEIGHBOUR: 'it returns false'. Refute it at one input. -/
def fieldArithmeticWrong : ChangeSpec := { name := "fieldArithmetic", fn := fun _ => fun
  | [d] => { results := [.lit (.bool false)], args := [d] }
  | _ => none }
def FieldArithmeticWrongFalsely : Prop := fieldArithmeticRow.holds Tryd.pinned (OpenSpec.ofChange fieldArithmeticWrong)

/- THE SECOND FORM. 'bulk': how many values and letters a reading holds, each counted each time it is reached (what is shared counts as often as it is met; a slice's spare places count too). A statement '..UptoSaid' is the law's where the arguments, and the package variables that the reading takes, are together of bulk at most 1048576: NARROWER than '..Said'. Prove '..Said' where nothing that the law and all that it calls make is longer than what came in: it says more and counts as full. Else prove '..UptoSaid'. A law counts once. -/
mutual
def uptoBulk {H : Type} : DataW H → Nat
  | .lit (.string bytes) => bytes.length + 1
  | .lit _ => 1
  | .nil => 1
  | .ptr d => uptoBulk d + 1
  | .slice elems spare => uptoBulkAll elems + uptoBulkAll spare + 1
  | .agg parts => uptoBulkAll parts + 1
  | .iface _ d => uptoBulk d + 1
  | .map entries => uptoBulkEntries entries + 1
  | .held _ => 1
def uptoBulkAll {H : Type} : List (DataW H) → Nat
  | [] => 0
  | d :: r => uptoBulk d + uptoBulkAll r
def uptoBulkEntries {H : Type} : List (Lit × DataW H) → Nat
  | [] => 0
  | x :: r => uptoBulkEntry x + uptoBulkEntries r
def uptoBulkEntry {H : Type} : Lit × DataW H → Nat
  | (.string bytes, d) => bytes.length + uptoBulk d + 1
  | (_, d) => uptoBulk d + 1
 end
def uptoSmall : (H : Type) → List (DataW H) → Bool := fun _ ds => decide (uptoBulkAll ds ≤ 1048576)
def OpenSpec.upto (s : _root_.Go.ChangeSpec) : _root_.Go.OpenSpec := { _root_.Go.OpenSpec.ofChange s with cond := some uptoSmall }

/-- 'privitylaw01.FieldSupported', WHERE WHAT IT READS IS OF BULK AT MOST 1048576: true; the input reads as it did. -/
def fieldSupportedUptoRow : OpenClaim := { program := "ytfphiecadaplbaadoor", sum := "4fe3d7a51b58741f530c9789acc03149869b35def99a33535eba10d423b95ca4", func := "privity/privitylaw01.FieldSupported", spec := "fieldSupported", inPlace := ["math/bits.Add64"], named := ["privity/field.exps"], apart := false, laid := [("privity/field.exps", laid_privity_field_exps)], narrowed := true }
def FieldSupportedUptoSaid : Prop := fieldSupportedUptoRow.holds Tryd.pinned (OpenSpec.upto fieldSupportedSpec)

/-- 'privitylaw01.FieldPowers', WHERE WHAT IT READS IS OF BULK AT MOST 1048576: true; the input reads as it did. -/
def fieldPowersUptoRow : OpenClaim := { program := "ytfphiecadaplbaadoor", sum := "4fe3d7a51b58741f530c9789acc03149869b35def99a33535eba10d423b95ca4", func := "privity/privitylaw01.FieldPowers", spec := "fieldPowers", inPlace := ["math/bits.Add64"], named := ["privity/field.exps"], apart := false, laid := [("privity/field.exps", laid_privity_field_exps)], narrowed := true }
def FieldPowersUptoSaid : Prop := fieldPowersUptoRow.holds Tryd.pinned (OpenSpec.upto fieldPowersSpec)

/-- 'privitylaw01.FieldSqrt', WHERE WHAT IT READS IS OF BULK AT MOST 1048576: true; the input reads as it did. -/
def fieldSqrtUptoRow : OpenClaim := { program := "ytfphiecadaplbaadoor", sum := "4fe3d7a51b58741f530c9789acc03149869b35def99a33535eba10d423b95ca4", func := "privity/privitylaw01.FieldSqrt", spec := "fieldSqrt", inPlace := ["math/bits.Add64"], named := ["privity/field.exps"], apart := false, laid := [("privity/field.exps", laid_privity_field_exps)], narrowed := true }
def FieldSqrtUptoSaid : Prop := fieldSqrtUptoRow.holds Tryd.pinned (OpenSpec.upto fieldSqrtSpec)

/-- 'privitylaw01.FieldSquares', WHERE WHAT IT READS IS OF BULK AT MOST 1048576: true; the input reads as it did. -/
def fieldSquaresUptoRow : OpenClaim := { program := "ytfphiecadaplbaadoor", sum := "4fe3d7a51b58741f530c9789acc03149869b35def99a33535eba10d423b95ca4", func := "privity/privitylaw01.FieldSquares", spec := "fieldSquares", inPlace := ["math/bits.Add64"], named := ["privity/field.exps"], apart := false, laid := [("privity/field.exps", laid_privity_field_exps)], narrowed := true }
def FieldSquaresUptoSaid : Prop := fieldSquaresUptoRow.holds Tryd.pinned (OpenSpec.upto fieldSquaresSpec)

/-- 'privitylaw01.FieldSqrtProduct', WHERE WHAT IT READS IS OF BULK AT MOST 1048576: true; the input reads as it did. -/
def fieldSqrtProductUptoRow : OpenClaim := { program := "ytfphiecadaplbaadoor", sum := "4fe3d7a51b58741f530c9789acc03149869b35def99a33535eba10d423b95ca4", func := "privity/privitylaw01.FieldSqrtProduct", spec := "fieldSqrtProduct", inPlace := ["math/bits.Add64"], named := ["privity/field.exps"], apart := false, laid := [("privity/field.exps", laid_privity_field_exps)], narrowed := true }
def FieldSqrtProductUptoSaid : Prop := fieldSqrtProductUptoRow.holds Tryd.pinned (OpenSpec.upto fieldSqrtProductSpec)

/-- 'privitylaw01.FieldAxioms', WHERE WHAT IT READS IS OF BULK AT MOST 1048576: true; the input reads as it did. -/
def fieldAxiomsUptoRow : OpenClaim := { program := "ytfphiecadaplbaadoor", sum := "4fe3d7a51b58741f530c9789acc03149869b35def99a33535eba10d423b95ca4", func := "privity/privitylaw01.FieldAxioms", spec := "fieldAxioms", inPlace := ["math/bits.Add64"], named := ["privity/field.exps"], apart := false, laid := [("privity/field.exps", laid_privity_field_exps)], narrowed := true }
def FieldAxiomsUptoSaid : Prop := fieldAxiomsUptoRow.holds Tryd.pinned (OpenSpec.upto fieldAxiomsSpec)

/-- 'privitylaw01.FieldArithmetic', WHERE WHAT IT READS IS OF BULK AT MOST 1048576: true; the input reads as it did. -/
def fieldArithmeticUptoRow : OpenClaim := { program := "ytfphiecadaplbaadoor", sum := "4fe3d7a51b58741f530c9789acc03149869b35def99a33535eba10d423b95ca4", func := "privity/privitylaw01.FieldArithmetic", spec := "fieldArithmetic", inPlace := ["math/bits.Add64"], named := ["privity/field.exps"], apart := false, laid := [("privity/field.exps", laid_privity_field_exps)], narrowed := true }
def FieldArithmeticUptoSaid : Prop := fieldArithmeticUptoRow.holds Tryd.pinned (OpenSpec.upto fieldArithmeticSpec)

end Rows
end Go.Proofs.YtfphiecadaplbaaDoor
