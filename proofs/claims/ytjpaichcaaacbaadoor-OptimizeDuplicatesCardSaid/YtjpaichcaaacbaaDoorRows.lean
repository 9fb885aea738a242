/-
  NARROWER THAN 'FOR EVERY INPUT', by the rows' own cells (each row's printed sentence says how): CleartextEvaluate: laid · CleartextGateEquations: laid · CleartextPrefix: laid · CleartextInvalidBit: laid · CleartextAffine: laid · CleartextOutputs: laid · CleartextRelabel: laid · OptimizeResult: laid · OptimizeCertificateValid: laid · OptimizeCheckCertificate: laid · OptimizeIdempotent: laid · OptimizeDuplicates: laid.
  DERIVED. THE GIVEN ROWS OF THIS SEAT. 12 by the template 'for every input the law returns true; each argument reads behind the call as it read before'; 0 by the template 'total and deterministic' (their statements: YtjpaichcaaacbaaDoorTotals.lean).
  GIVEN WITH THE SEED: the statements are not yours to turn. If you find one false, say at which input.
  Laid BY PROGRAM, IN A SANDBOX (cutbox-rows.mjs): the forced cells as the released guide's own fill.sh prints them over the translation 742e1eaf96b37c0f… (all of the seat's roots in one cut). By AI agents, Wed Nov 11 2026. No macro, syntax, notation, axiom, sorry.
-/
import Derived.Test.YtjpaichcaaacbaaDoorChecked
import GoSem.Claim
import GoSem.ClaimJoined
import GoSem.ClaimMapViews
import Derived.JoinedTies
import Derived.KernelRfl
namespace Go.Proofs.YtjpaichcaaacbaaDoor
/- THE CELL 'sum', in the pinned program and in every row, IS THE sha256 OF THE DUMP (.gsa) THAT YtjpaichcaaacbaaDoorProg.lean LOADS. Nothing in Lean hashes anything: it is a label: what it is worth is what the hold of that sum in a sandbox is worth. -/
noncomputable def Tryd.pinned : Pinned := { name := "ytjpaichcaaacbaadoor", sum := "742e1eaf96b37c0f2bb2a0b2c4e5338c84b6d50753aa86ead96e4f0b2b3b6524", checked := Tryd.checked }
namespace Rows
def none {H : Type} : Left H := { results := [], args := [] }

/- WHAT THE LISTED PACKAGE-LEVEL VARIABLES READ AS WHEN THE CALL BEGINS. Each datum BY PROGRAM (the guide's laid-datum.mjs) off the statement by which the dump's own 'gosem.cut.vars' lays the variable. In a bare row this is a premise. The card (YtjpaichcaaacbaaDoorCards.lean) ties it to the program's text. -/
def laid_privity_field_exps {H : Type} : DataW H := .agg [.lit (.int .i64 5), .lit (.int .i64 7), .lit (.int .i64 13), .lit (.int .i64 17), .lit (.int .i64 19), .lit (.int .i64 31), .lit (.int .i64 61)]
def laid_privity_circuit_forms {H : Type} : DataW H := .agg [.agg [.lit (.string [105, 110]), .lit (.int .i64 1), .lit (.bool true), .lit (.bool false), .lit (.bool false), .lit (.bool false), .lit (.bool false)], .agg [.lit (.string [98, 105, 116]), .lit (.int .i64 1), .lit (.bool true), .lit (.bool false), .lit (.bool false), .lit (.bool false), .lit (.bool true)], .agg [.lit (.string [99, 111, 110, 115, 116]), .lit (.int .i64 2), .lit (.bool false), .lit (.bool true), .lit (.bool false), .lit (.bool false), .lit (.bool false)], .agg [.lit (.string [97, 100, 100]), .lit (.int .i64 3), .lit (.bool false), .lit (.bool false), .lit (.bool true), .lit (.bool true), .lit (.bool false)], .agg [.lit (.string [115, 117, 98]), .lit (.int .i64 4), .lit (.bool false), .lit (.bool false), .lit (.bool true), .lit (.bool true), .lit (.bool false)], .agg [.lit (.string [115, 99, 97, 108, 101]), .lit (.int .i64 5), .lit (.bool false), .lit (.bool true), .lit (.bool true), .lit (.bool false), .lit (.bool false)], .agg [.lit (.string [109, 117, 108]), .lit (.int .i64 6), .lit (.bool false), .lit (.bool false), .lit (.bool true), .lit (.bool true), .lit (.bool false)]]
def laid_privity_cleartext_gates {H : Type} : DataW H := .iface "func table" (.agg [.nil, .iface "func" (.lit (.string [112, 114, 105, 118, 105, 116, 121, 47, 99, 108, 101, 97, 114, 116, 101, 120, 116, 46, 103, 97, 116, 101, 115, 36, 49])), .iface "func" (.lit (.string [112, 114, 105, 118, 105, 116, 121, 47, 99, 108, 101, 97, 114, 116, 101, 120, 116, 46, 103, 97, 116, 101, 115, 36, 50])), .iface "func" (.lit (.string [112, 114, 105, 118, 105, 116, 121, 47, 99, 108, 101, 97, 114, 116, 101, 120, 116, 46, 103, 97, 116, 101, 115, 36, 51])), .iface "func" (.lit (.string [112, 114, 105, 118, 105, 116, 121, 47, 99, 108, 101, 97, 114, 116, 101, 120, 116, 46, 103, 97, 116, 101, 115, 36, 52])), .iface "func" (.lit (.string [112, 114, 105, 118, 105, 116, 121, 47, 99, 108, 101, 97, 114, 116, 101, 120, 116, 46, 103, 97, 116, 101, 115, 36, 53])), .iface "func" (.lit (.string [112, 114, 105, 118, 105, 116, 121, 47, 99, 108, 101, 97, 114, 116, 101, 120, 116, 46, 103, 97, 116, 101, 115, 36, 54]))])

/-- 'privitylaw33.CleartextEvaluate': WHATEVER THE INPUT: true; the input reads as it did. -/
def cleartextEvaluateSpec : ChangeSpec := { name := "cleartextEvaluate", fn := fun _ => fun
  | [d1, d2] => { results := [.lit (.bool true)], args := [d1, d2] }
  | _ => none }
def cleartextEvaluateRow : OpenClaim := { program := "ytjpaichcaaacbaadoor", sum := "742e1eaf96b37c0f2bb2a0b2c4e5338c84b6d50753aa86ead96e4f0b2b3b6524", func := "privity/privitylaw33.CleartextEvaluate", spec := "cleartextEvaluate", unfollowed := true, recurses := true, named := ["privity/cleartext.gates", "privity/field.exps", "privity/circuit.forms"], plainKeys := false, apart := false, laid := [("privity/field.exps", laid_privity_field_exps), ("privity/circuit.forms", laid_privity_circuit_forms), ("privity/cleartext.gates", laid_privity_cleartext_gates)] }
def CleartextEvaluateSaid : Prop := cleartextEvaluateRow.holds Tryd.pinned (OpenSpec.ofChange cleartextEvaluateSpec)

/-- ITS FALSE NEIGHBOUR: 'it returns false'. Refute it at one input. -/
def cleartextEvaluateWrong : ChangeSpec := { name := "cleartextEvaluate", fn := fun _ => fun
  | [d1, d2] => { results := [.lit (.bool false)], args := [d1, d2] }
  | _ => none }
def CleartextEvaluateWrongFalsely : Prop := cleartextEvaluateRow.holds Tryd.pinned (OpenSpec.ofChange cleartextEvaluateWrong)

/-- 'privitylaw33.CleartextGateEquations': WHATEVER THE INPUT: true; the input reads as it did. -/
def cleartextGateEquationsSpec : ChangeSpec := { name := "cleartextGateEquations", fn := fun _ => fun
  | [d1, d2] => { results := [.lit (.bool true)], args := [d1, d2] }
  | _ => none }
def cleartextGateEquationsRow : OpenClaim := { program := "ytjpaichcaaacbaadoor", sum := "742e1eaf96b37c0f2bb2a0b2c4e5338c84b6d50753aa86ead96e4f0b2b3b6524", func := "privity/privitylaw33.CleartextGateEquations", spec := "cleartextGateEquations", inPlace := ["math/bits.Add64"], unfollowed := true, recurses := true, named := ["privity/cleartext.gates", "privity/field.exps", "privity/circuit.forms"], plainKeys := false, apart := false, laid := [("privity/field.exps", laid_privity_field_exps), ("privity/circuit.forms", laid_privity_circuit_forms), ("privity/cleartext.gates", laid_privity_cleartext_gates)] }
def CleartextGateEquationsSaid : Prop := cleartextGateEquationsRow.holds Tryd.pinned (OpenSpec.ofChange cleartextGateEquationsSpec)

/-- ITS FALSE NEIGHBOUR: 'it returns false'. Refute it at one input. -/
def cleartextGateEquationsWrong : ChangeSpec := { name := "cleartextGateEquations", fn := fun _ => fun
  | [d1, d2] => { results := [.lit (.bool false)], args := [d1, d2] }
  | _ => none }
def CleartextGateEquationsWrongFalsely : Prop := cleartextGateEquationsRow.holds Tryd.pinned (OpenSpec.ofChange cleartextGateEquationsWrong)

/-- 'privitylaw33.CleartextPrefix': WHATEVER THE INPUT: true; the input reads as it did. -/
def cleartextPrefixSpec : ChangeSpec := { name := "cleartextPrefix", fn := fun _ => fun
  | [d1, d2, d3] => { results := [.lit (.bool true)], args := [d1, d2, d3] }
  | _ => none }
def cleartextPrefixRow : OpenClaim := { program := "ytjpaichcaaacbaadoor", sum := "742e1eaf96b37c0f2bb2a0b2c4e5338c84b6d50753aa86ead96e4f0b2b3b6524", func := "privity/privitylaw33.CleartextPrefix", spec := "cleartextPrefix", unfollowed := true, recurses := true, named := ["privity/cleartext.gates", "privity/field.exps", "privity/circuit.forms"], plainKeys := false, apart := false, laid := [("privity/field.exps", laid_privity_field_exps), ("privity/circuit.forms", laid_privity_circuit_forms), ("privity/cleartext.gates", laid_privity_cleartext_gates)] }
def CleartextPrefixSaid : Prop := cleartextPrefixRow.holds Tryd.pinned (OpenSpec.ofChange cleartextPrefixSpec)

/-- ITS FALSE NEIGHBOUR: 'it returns false'. Refute it at one input. -/
def cleartextPrefixWrong : ChangeSpec := { name := "cleartextPrefix", fn := fun _ => fun
  | [d1, d2, d3] => { results := [.lit (.bool false)], args := [d1, d2, d3] }
  | _ => none }
def CleartextPrefixWrongFalsely : Prop := cleartextPrefixRow.holds Tryd.pinned (OpenSpec.ofChange cleartextPrefixWrong)

/-- 'privitylaw33.CleartextInvalidBit': WHATEVER THE INPUT: true; the input reads as it did. -/
def cleartextInvalidBitSpec : ChangeSpec := { name := "cleartextInvalidBit", fn := fun _ => fun
  | [d1, d2, d3] => { results := [.lit (.bool true)], args := [d1, d2, d3] }
  | _ => none }
def cleartextInvalidBitRow : OpenClaim := { program := "ytjpaichcaaacbaadoor", sum := "742e1eaf96b37c0f2bb2a0b2c4e5338c84b6d50753aa86ead96e4f0b2b3b6524", func := "privity/privitylaw33.CleartextInvalidBit", spec := "cleartextInvalidBit", unfollowed := true, recurses := true, named := ["privity/cleartext.gates", "privity/field.exps", "privity/circuit.forms"], plainKeys := false, apart := false, laid := [("privity/field.exps", laid_privity_field_exps), ("privity/circuit.forms", laid_privity_circuit_forms), ("privity/cleartext.gates", laid_privity_cleartext_gates)] }
def CleartextInvalidBitSaid : Prop := cleartextInvalidBitRow.holds Tryd.pinned (OpenSpec.ofChange cleartextInvalidBitSpec)

/-- ITS FALSE NEIGHBOUR: 'it returns false'. Refute it at one input. -/
def cleartextInvalidBitWrong : ChangeSpec := { name := "cleartextInvalidBit", fn := fun _ => fun
  | [d1, d2, d3] => { results := [.lit (.bool false)], args := [d1, d2, d3] }
  | _ => none }
def CleartextInvalidBitWrongFalsely : Prop := cleartextInvalidBitRow.holds Tryd.pinned (OpenSpec.ofChange cleartextInvalidBitWrong)

/-- 'privitylaw33.CleartextAffine': WHATEVER THE INPUT: true; the input reads as it did. -/
def cleartextAffineSpec : ChangeSpec := { name := "cleartextAffine", fn := fun _ => fun
  | [d1, d2, d3] => { results := [.lit (.bool true)], args := [d1, d2, d3] }
  | _ => none }
def cleartextAffineRow : OpenClaim := { program := "ytjpaichcaaacbaadoor", sum := "742e1eaf96b37c0f2bb2a0b2c4e5338c84b6d50753aa86ead96e4f0b2b3b6524", func := "privity/privitylaw33.CleartextAffine", spec := "cleartextAffine", inPlace := ["math/bits.Add64"], unfollowed := true, recurses := true, named := ["privity/cleartext.gates", "privity/field.exps", "privity/circuit.forms"], plainKeys := false, apart := false, laid := [("privity/field.exps", laid_privity_field_exps), ("privity/circuit.forms", laid_privity_circuit_forms), ("privity/cleartext.gates", laid_privity_cleartext_gates)] }
def CleartextAffineSaid : Prop := cleartextAffineRow.holds Tryd.pinned (OpenSpec.ofChange cleartextAffineSpec)

/-- ITS FALSE NEIGHBOUR: 'it returns false'. Refute it at one input. -/
def cleartextAffineWrong : ChangeSpec := { name := "cleartextAffine", fn := fun _ => fun
  | [d1, d2, d3] => { results := [.lit (.bool false)], args := [d1, d2, d3] }
  | _ => none }
def CleartextAffineWrongFalsely : Prop := cleartextAffineRow.holds Tryd.pinned (OpenSpec.ofChange cleartextAffineWrong)

/-- 'privitylaw33.CleartextOutputs': WHATEVER THE INPUT: true; the input reads as it did. -/
def cleartextOutputsSpec : ChangeSpec := { name := "cleartextOutputs", fn := fun _ => fun
  | [d1, d2] => { results := [.lit (.bool true)], args := [d1, d2] }
  | _ => none }
def cleartextOutputsRow : OpenClaim := { program := "ytjpaichcaaacbaadoor", sum := "742e1eaf96b37c0f2bb2a0b2c4e5338c84b6d50753aa86ead96e4f0b2b3b6524", func := "privity/privitylaw33.CleartextOutputs", spec := "cleartextOutputs", unfollowed := true, recurses := true, named := ["privity/cleartext.gates", "privity/field.exps", "privity/circuit.forms"], plainKeys := false, apart := false, laid := [("privity/field.exps", laid_privity_field_exps), ("privity/circuit.forms", laid_privity_circuit_forms), ("privity/cleartext.gates", laid_privity_cleartext_gates)] }
def CleartextOutputsSaid : Prop := cleartextOutputsRow.holds Tryd.pinned (OpenSpec.ofChange cleartextOutputsSpec)

/-- ITS FALSE NEIGHBOUR: 'it returns false'. Refute it at one input. -/
def cleartextOutputsWrong : ChangeSpec := { name := "cleartextOutputs", fn := fun _ => fun
  | [d1, d2] => { results := [.lit (.bool false)], args := [d1, d2] }
  | _ => none }
def CleartextOutputsWrongFalsely : Prop := cleartextOutputsRow.holds Tryd.pinned (OpenSpec.ofChange cleartextOutputsWrong)

/-- 'privitylaw33.CleartextRelabel': WHATEVER THE INPUT: true; the input reads as it did. -/
def cleartextRelabelSpec : ChangeSpec := { name := "cleartextRelabel", fn := fun _ => fun
  | [d1, d2, d3] => { results := [.lit (.bool true)], args := [d1, d2, d3] }
  | _ => none }
def cleartextRelabelRow : OpenClaim := { program := "ytjpaichcaaacbaadoor", sum := "742e1eaf96b37c0f2bb2a0b2c4e5338c84b6d50753aa86ead96e4f0b2b3b6524", func := "privity/privitylaw33.CleartextRelabel", spec := "cleartextRelabel", unfollowed := true, recurses := true, named := ["privity/cleartext.gates", "privity/field.exps", "privity/circuit.forms"], plainKeys := false, apart := false, laid := [("privity/field.exps", laid_privity_field_exps), ("privity/circuit.forms", laid_privity_circuit_forms), ("privity/cleartext.gates", laid_privity_cleartext_gates)] }
def CleartextRelabelSaid : Prop := cleartextRelabelRow.holds Tryd.pinned (OpenSpec.ofChange cleartextRelabelSpec)

/-- ITS FALSE NEIGHBOUR: 'it returns false'. Refute it at one input. -/
def cleartextRelabelWrong : ChangeSpec := { name := "cleartextRelabel", fn := fun _ => fun
  | [d1, d2, d3] => { results := [.lit (.bool false)], args := [d1, d2, d3] }
  | _ => none }
def CleartextRelabelWrongFalsely : Prop := cleartextRelabelRow.holds Tryd.pinned (OpenSpec.ofChange cleartextRelabelWrong)

/-- 'privitylaw36.OptimizeResult': WHATEVER THE INPUT: true; the input reads as it did. -/
def optimizeResultSpec : ChangeSpec := { name := "optimizeResult", fn := fun _ => fun
  | [d] => { results := [.lit (.bool true)], args := [d] }
  | _ => none }
def optimizeResultRow : OpenClaim := { program := "ytjpaichcaaacbaadoor", sum := "742e1eaf96b37c0f2bb2a0b2c4e5338c84b6d50753aa86ead96e4f0b2b3b6524", func := "privity/privitylaw36.OptimizeResult", spec := "optimizeResult", unfollowed := true, recurses := true, named := ["privity/field.exps", "privity/circuit.forms"], plainKeys := false, apart := false, laid := [("privity/field.exps", laid_privity_field_exps), ("privity/circuit.forms", laid_privity_circuit_forms)] }
def OptimizeResultSaid : Prop := optimizeResultRow.holds Tryd.pinned (OpenSpec.ofChange optimizeResultSpec)

/-- ITS FALSE NEIGHBOUR: 'it returns false'. Refute it at one input. -/
def optimizeResultWrong : ChangeSpec := { name := "optimizeResult", fn := fun _ => fun
  | [d] => { results := [.lit (.bool false)], args := [d] }
  | _ => none }
def OptimizeResultWrongFalsely : Prop := optimizeResultRow.holds Tryd.pinned (OpenSpec.ofChange optimizeResultWrong)

/-- 'privitylaw36.OptimizeCertificateValid': WHATEVER THE INPUT: true; the input reads as it did. -/
def optimizeCertificateValidSpec : ChangeSpec := { name := "optimizeCertificateValid", fn := fun _ => fun
  | [d] => { results := [.lit (.bool true)], args := [d] }
  | _ => none }
def optimizeCertificateValidRow : OpenClaim := { program := "ytjpaichcaaacbaadoor", sum := "742e1eaf96b37c0f2bb2a0b2c4e5338c84b6d50753aa86ead96e4f0b2b3b6524", func := "privity/privitylaw36.OptimizeCertificateValid", spec := "optimizeCertificateValid", unfollowed := true, recurses := true, named := ["privity/field.exps", "privity/circuit.forms"], plainKeys := false, apart := false, laid := [("privity/field.exps", laid_privity_field_exps), ("privity/circuit.forms", laid_privity_circuit_forms)] }
def OptimizeCertificateValidSaid : Prop := optimizeCertificateValidRow.holds Tryd.pinned (OpenSpec.ofChange optimizeCertificateValidSpec)

/-- ITS FALSE NEIGHBOUR: 'it returns false'. Refute it at one input. -/
def optimizeCertificateValidWrong : ChangeSpec := { name := "optimizeCertificateValid", fn := fun _ => fun
  | [d] => { results := [.lit (.bool false)], args := [d] }
  | _ => none }
def OptimizeCertificateValidWrongFalsely : Prop := optimizeCertificateValidRow.holds Tryd.pinned (OpenSpec.ofChange optimizeCertificateValidWrong)

/-- 'privitylaw36.OptimizeCheckCertificate': WHATEVER THE INPUT: true; the input reads as it did. -/
def optimizeCheckCertificateSpec : ChangeSpec := { name := "optimizeCheckCertificate", fn := fun _ => fun
  | [d1, d2, d3] => { results := [.lit (.bool true)], args := [d1, d2, d3] }
  | _ => none }
def optimizeCheckCertificateRow : OpenClaim := { program := "ytjpaichcaaacbaadoor", sum := "742e1eaf96b37c0f2bb2a0b2c4e5338c84b6d50753aa86ead96e4f0b2b3b6524", func := "privity/privitylaw36.OptimizeCheckCertificate", spec := "optimizeCheckCertificate", unfollowed := true, recurses := true, named := ["privity/field.exps", "privity/circuit.forms"], plainKeys := false, apart := false, laid := [("privity/field.exps", laid_privity_field_exps), ("privity/circuit.forms", laid_privity_circuit_forms)] }
def OptimizeCheckCertificateSaid : Prop := optimizeCheckCertificateRow.holds Tryd.pinned (OpenSpec.ofChange optimizeCheckCertificateSpec)

/-- ITS FALSE NEIGHBOUR: 'it returns false'. Refute it at one input. -/
def optimizeCheckCertificateWrong : ChangeSpec := { name := "optimizeCheckCertificate", fn := fun _ => fun
  | [d1, d2, d3] => { results := [.lit (.bool false)], args := [d1, d2, d3] }
  | _ => none }
def OptimizeCheckCertificateWrongFalsely : Prop := optimizeCheckCertificateRow.holds Tryd.pinned (OpenSpec.ofChange optimizeCheckCertificateWrong)

/-- 'privitylaw36.OptimizeIdempotent': WHATEVER THE INPUT: true; the input reads as it did. -/
def optimizeIdempotentSpec : ChangeSpec := { name := "optimizeIdempotent", fn := fun _ => fun
  | [d] => { results := [.lit (.bool true)], args := [d] }
  | _ => none }
def optimizeIdempotentRow : OpenClaim := { program := "ytjpaichcaaacbaadoor", sum := "742e1eaf96b37c0f2bb2a0b2c4e5338c84b6d50753aa86ead96e4f0b2b3b6524", func := "privity/privitylaw36.OptimizeIdempotent", spec := "optimizeIdempotent", unfollowed := true, recurses := true, named := ["privity/field.exps", "privity/circuit.forms"], plainKeys := false, apart := false, laid := [("privity/field.exps", laid_privity_field_exps), ("privity/circuit.forms", laid_privity_circuit_forms)] }
def OptimizeIdempotentSaid : Prop := optimizeIdempotentRow.holds Tryd.pinned (OpenSpec.ofChange optimizeIdempotentSpec)

/-- ITS FALSE NEIGHBOUR: 'it returns false'. Refute it at one input. -/
def optimizeIdempotentWrong : ChangeSpec := { name := "optimizeIdempotent", fn := fun _ => fun
  | [d] => { results := [.lit (.bool false)], args := [d] }
  | _ => none }
def OptimizeIdempotentWrongFalsely : Prop := optimizeIdempotentRow.holds Tryd.pinned (OpenSpec.ofChange optimizeIdempotentWrong)

/-- 'privitylaw36.OptimizeDuplicates': WHATEVER THE INPUT: true; the input reads as it did. -/
def optimizeDuplicatesSpec : ChangeSpec := { name := "optimizeDuplicates", fn := fun _ => fun
  | [d] => { results := [.lit (.bool true)], args := [d] }
  | _ => none }
def optimizeDuplicatesRow : OpenClaim := { program := "ytjpaichcaaacbaadoor", sum := "742e1eaf96b37c0f2bb2a0b2c4e5338c84b6d50753aa86ead96e4f0b2b3b6524", func := "privity/privitylaw36.OptimizeDuplicates", spec := "optimizeDuplicates", unfollowed := true, recurses := true, named := ["privity/field.exps", "privity/circuit.forms"], plainKeys := false, apart := false, laid := [("privity/field.exps", laid_privity_field_exps), ("privity/circuit.forms", laid_privity_circuit_forms)] }
def OptimizeDuplicatesSaid : Prop := optimizeDuplicatesRow.holds Tryd.pinned (OpenSpec.ofChange optimizeDuplicatesSpec)

/-- ITS FALSE NEIGHBOUR: 'it returns false'. Refute it at one input. -/
def optimizeDuplicatesWrong : ChangeSpec := { name := "optimizeDuplicates", fn := fun _ => fun
  | [d] => { results := [.lit (.bool false)], args := [d] }
  | _ => none }
def OptimizeDuplicatesWrongFalsely : Prop := optimizeDuplicatesRow.holds Tryd.pinned (OpenSpec.ofChange optimizeDuplicatesWrong)

/- THE SECOND FORM. 'bulk': how many values and letters a reading holds, each counted each time it is reached (what is shared counts as often as it is met; a slice's spare places count too). A statement '..UptoSaid' is the law's where the arguments, and the package variables that the reading takes, are together of bulk at most 1048576: NARROWER than '..Said'. Prove '..Said' where nothing that the law and all that it calls make is longer than what came in: it says more and counts as full. Else prove '..UptoSaid'. A law counts once. -/
mutual
def uptoBulk {H : Type} : DataW H → Nat
  | .lit (.string bytes) => bytes.length + 1
  | .lit _ => 1
  | .nil => 1
  | .ptr d => uptoBulk d + 1
  | .slice elems spare => uptoBulkAll elems + uptoBulkAll spare + 1
  | .agg parts => uptoBulkAll parts + 1
  | .iface _ d => uptoBulk d + 1
  | .map entries => uptoBulkEntries entries + 1
  | .held _ => 1
def uptoBulkAll {H : Type} : List (DataW H) → Nat
  | [] => 0
  | d :: r => uptoBulk d + uptoBulkAll r
def uptoBulkEntries {H : Type} : List (Lit × DataW H) → Nat
  | [] => 0
  | x :: r => uptoBulkEntry x + uptoBulkEntries r
def uptoBulkEntry {H : Type} : Lit × DataW H → Nat
  | (.string bytes, d) => bytes.length + uptoBulk d + 1
  | (_, d) => uptoBulk d + 1
 end
def uptoSmall : (H : Type) → List (DataW H) → Bool := fun _ ds => decide (uptoBulkAll ds ≤ 1048576)
def OpenSpec.upto (s : _root_.Go.ChangeSpec) : _root_.Go.OpenSpec := { _root_.Go.OpenSpec.ofChange s with cond := some uptoSmall }

/-- 'privitylaw33.CleartextEvaluate', WHERE WHAT IT READS IS OF BULK AT MOST 1048576: true; the input reads as it did. -/
def cleartextEvaluateUptoRow : OpenClaim := { program := "ytjpaichcaaacbaadoor", sum := "742e1eaf96b37c0f2bb2a0b2c4e5338c84b6d50753aa86ead96e4f0b2b3b6524", func := "privity/privitylaw33.CleartextEvaluate", spec := "cleartextEvaluate", unfollowed := true, recurses := true, named := ["privity/cleartext.gates", "privity/field.exps", "privity/circuit.forms"], plainKeys := false, apart := false, laid := [("privity/field.exps", laid_privity_field_exps), ("privity/circuit.forms", laid_privity_circuit_forms), ("privity/cleartext.gates", laid_privity_cleartext_gates)], narrowed := true }
def CleartextEvaluateUptoSaid : Prop := cleartextEvaluateUptoRow.holds Tryd.pinned (OpenSpec.upto cleartextEvaluateSpec)

/-- 'privitylaw33.CleartextGateEquations', WHERE WHAT IT READS IS OF BULK AT MOST 1048576: true; the input reads as it did. -/
def cleartextGateEquationsUptoRow : OpenClaim := { program := "ytjpaichcaaacbaadoor", sum := "742e1eaf96b37c0f2bb2a0b2c4e5338c84b6d50753aa86ead96e4f0b2b3b6524", func := "privity/privitylaw33.CleartextGateEquations", spec := "cleartextGateEquations", inPlace := ["math/bits.Add64"], unfollowed := true, recurses := true, named := ["privity/cleartext.gates", "privity/field.exps", "privity/circuit.forms"], plainKeys := false, apart := false, laid := [("privity/field.exps", laid_privity_field_exps), ("privity/circuit.forms", laid_privity_circuit_forms), ("privity/cleartext.gates", laid_privity_cleartext_gates)], narrowed := true }
def CleartextGateEquationsUptoSaid : Prop := cleartextGateEquationsUptoRow.holds Tryd.pinned (OpenSpec.upto cleartextGateEquationsSpec)

/-- 'privitylaw33.CleartextPrefix', WHERE WHAT IT READS IS OF BULK AT MOST 1048576: true; the input reads as it did. -/
def cleartextPrefixUptoRow : OpenClaim := { program := "ytjpaichcaaacbaadoor", sum := "742e1eaf96b37c0f2bb2a0b2c4e5338c84b6d50753aa86ead96e4f0b2b3b6524", func := "privity/privitylaw33.CleartextPrefix", spec := "cleartextPrefix", unfollowed := true, recurses := true, named := ["privity/cleartext.gates", "privity/field.exps", "privity/circuit.forms"], plainKeys := false, apart := false, laid := [("privity/field.exps", laid_privity_field_exps), ("privity/circuit.forms", laid_privity_circuit_forms), ("privity/cleartext.gates", laid_privity_cleartext_gates)], narrowed := true }
def CleartextPrefixUptoSaid : Prop := cleartextPrefixUptoRow.holds Tryd.pinned (OpenSpec.upto cleartextPrefixSpec)

/-- 'privitylaw33.CleartextInvalidBit', WHERE WHAT IT READS IS OF BULK AT MOST 1048576: true; the input reads as it did. -/
def cleartextInvalidBitUptoRow : OpenClaim := { program := "ytjpaichcaaacbaadoor", sum := "742e1eaf96b37c0f2bb2a0b2c4e5338c84b6d50753aa86ead96e4f0b2b3b6524", func := "privity/privitylaw33.CleartextInvalidBit", spec := "cleartextInvalidBit", unfollowed := true, recurses := true, named := ["privity/cleartext.gates", "privity/field.exps", "privity/circuit.forms"], plainKeys := false, apart := false, laid := [("privity/field.exps", laid_privity_field_exps), ("privity/circuit.forms", laid_privity_circuit_forms), ("privity/cleartext.gates", laid_privity_cleartext_gates)], narrowed := true }
def CleartextInvalidBitUptoSaid : Prop := cleartextInvalidBitUptoRow.holds Tryd.pinned (OpenSpec.upto cleartextInvalidBitSpec)

/-- 'privitylaw33.CleartextAffine', WHERE WHAT IT READS IS OF BULK AT MOST 1048576: true; the input reads as it did. -/
def cleartextAffineUptoRow : OpenClaim := { program := "ytjpaichcaaacbaadoor", sum := "742e1eaf96b37c0f2bb2a0b2c4e5338c84b6d50753aa86ead96e4f0b2b3b6524", func := "privity/privitylaw33.CleartextAffine", spec := "cleartextAffine", inPlace := ["math/bits.Add64"], unfollowed := true, recurses := true, named := ["privity/cleartext.gates", "privity/field.exps", "privity/circuit.forms"], plainKeys := false, apart := false, laid := [("privity/field.exps", laid_privity_field_exps), ("privity/circuit.forms", laid_privity_circuit_forms), ("privity/cleartext.gates", laid_privity_cleartext_gates)], narrowed := true }
def CleartextAffineUptoSaid : Prop := cleartextAffineUptoRow.holds Tryd.pinned (OpenSpec.upto cleartextAffineSpec)

/-- 'privitylaw33.CleartextOutputs', WHERE WHAT IT READS IS OF BULK AT MOST 1048576: true; the input reads as it did. -/
def cleartextOutputsUptoRow : OpenClaim := { program := "ytjpaichcaaacbaadoor", sum := "742e1eaf96b37c0f2bb2a0b2c4e5338c84b6d50753aa86ead96e4f0b2b3b6524", func := "privity/privitylaw33.CleartextOutputs", spec := "cleartextOutputs", unfollowed := true, recurses := true, named := ["privity/cleartext.gates", "privity/field.exps", "privity/circuit.forms"], plainKeys := false, apart := false, laid := [("privity/field.exps", laid_privity_field_exps), ("privity/circuit.forms", laid_privity_circuit_forms), ("privity/cleartext.gates", laid_privity_cleartext_gates)], narrowed := true }
def CleartextOutputsUptoSaid : Prop := cleartextOutputsUptoRow.holds Tryd.pinned (OpenSpec.upto cleartextOutputsSpec)

/-- 'privitylaw33.CleartextRelabel', WHERE WHAT IT READS IS OF BULK AT MOST 1048576: true; the input reads as it did. -/
def cleartextRelabelUptoRow : OpenClaim := { program := "ytjpaichcaaacbaadoor", sum := "742e1eaf96b37c0f2bb2a0b2c4e5338c84b6d50753aa86ead96e4f0b2b3b6524", func := "privity/privitylaw33.CleartextRelabel", spec := "cleartextRelabel", unfollowed := true, recurses := true, named := ["privity/cleartext.gates", "privity/field.exps", "privity/circuit.forms"], plainKeys := false, apart := false, laid := [("privity/field.exps", laid_privity_field_exps), ("privity/circuit.forms", laid_privity_circuit_forms), ("privity/cleartext.gates", laid_privity_cleartext_gates)], narrowed := true }
def CleartextRelabelUptoSaid : Prop := cleartextRelabelUptoRow.holds Tryd.pinned (OpenSpec.upto cleartextRelabelSpec)

/-- 'privitylaw36.OptimizeResult', WHERE WHAT IT READS IS OF BULK AT MOST 1048576: true; the input reads as it did. -/
def optimizeResultUptoRow : OpenClaim := { program := "ytjpaichcaaacbaadoor", sum := "742e1eaf96b37c0f2bb2a0b2c4e5338c84b6d50753aa86ead96e4f0b2b3b6524", func := "privity/privitylaw36.OptimizeResult", spec := "optimizeResult", unfollowed := true, recurses := true, named := ["privity/field.exps", "privity/circuit.forms"], plainKeys := false, apart := false, laid := [("privity/field.exps", laid_privity_field_exps), ("privity/circuit.forms", laid_privity_circuit_forms)], narrowed := true }
def OptimizeResultUptoSaid : Prop := optimizeResultUptoRow.holds Tryd.pinned (OpenSpec.upto optimizeResultSpec)

/-- 'privitylaw36.OptimizeCertificateValid', WHERE WHAT IT READS IS OF BULK AT MOST 1048576: true; the input reads as it did. -/
def optimizeCertificateValidUptoRow : OpenClaim := { program := "ytjpaichcaaacbaadoor", sum := "742e1eaf96b37c0f2bb2a0b2c4e5338c84b6d50753aa86ead96e4f0b2b3b6524", func := "privity/privitylaw36.OptimizeCertificateValid", spec := "optimizeCertificateValid", unfollowed := true, recurses := true, named := ["privity/field.exps", "privity/circuit.forms"], plainKeys := false, apart := false, laid := [("privity/field.exps", laid_privity_field_exps), ("privity/circuit.forms", laid_privity_circuit_forms)], narrowed := true }
def OptimizeCertificateValidUptoSaid : Prop := optimizeCertificateValidUptoRow.holds Tryd.pinned (OpenSpec.upto optimizeCertificateValidSpec)

/-- 'privitylaw36.OptimizeCheckCertificate', WHERE WHAT IT READS IS OF BULK AT MOST 1048576: true; the input reads as it did. -/
def optimizeCheckCertificateUptoRow : OpenClaim := { program := "ytjpaichcaaacbaadoor", sum := "742e1eaf96b37c0f2bb2a0b2c4e5338c84b6d50753aa86ead96e4f0b2b3b6524", func := "privity/privitylaw36.OptimizeCheckCertificate", spec := "optimizeCheckCertificate", unfollowed := true, recurses := true, named := ["privity/field.exps", "privity/circuit.forms"], plainKeys := false, apart := false, laid := [("privity/field.exps", laid_privity_field_exps), ("privity/circuit.forms", laid_privity_circuit_forms)], narrowed := true }
def OptimizeCheckCertificateUptoSaid : Prop := optimizeCheckCertificateUptoRow.holds Tryd.pinned (OpenSpec.upto optimizeCheckCertificateSpec)

/-- 'privitylaw36.OptimizeIdempotent', WHERE WHAT IT READS IS OF BULK AT MOST 1048576: true; the input reads as it did. -/
def optimizeIdempotentUptoRow : OpenClaim := { program := "ytjpaichcaaacbaadoor", sum := "742e1eaf96b37c0f2bb2a0b2c4e5338c84b6d50753aa86ead96e4f0b2b3b6524", func := "privity/privitylaw36.OptimizeIdempotent", spec := "optimizeIdempotent", unfollowed := true, recurses := true, named := ["privity/field.exps", "privity/circuit.forms"], plainKeys := false, apart := false, laid := [("privity/field.exps", laid_privity_field_exps), ("privity/circuit.forms", laid_privity_circuit_forms)], narrowed := true }
def OptimizeIdempotentUptoSaid : Prop := optimizeIdempotentUptoRow.holds Tryd.pinned (OpenSpec.upto optimizeIdempotentSpec)

/-- 'privitylaw36.OptimizeDuplicates', WHERE WHAT IT READS IS OF BULK AT MOST 1048576: true; the input reads as it did. -/
def optimizeDuplicatesUptoRow : OpenClaim := { program := "ytjpaichcaaacbaadoor", sum := "742e1eaf96b37c0f2bb2a0b2c4e5338c84b6d50753aa86ead96e4f0b2b3b6524", func := "privity/privitylaw36.OptimizeDuplicates", spec := "optimizeDuplicates", unfollowed := true, recurses := true, named := ["privity/field.exps", "privity/circuit.forms"], plainKeys := false, apart := false, laid := [("privity/field.exps", laid_privity_field_exps), ("privity/circuit.forms", laid_privity_circuit_forms)], narrowed := true }
def OptimizeDuplicatesUptoSaid : Prop := optimizeDuplicatesUptoRow.holds Tryd.pinned (OpenSpec.upto optimizeDuplicatesSpec)

end Rows
end Go.Proofs.YtjpaichcaaacbaaDoor
