/-
  NARROWER THAN 'FOR EVERY INPUT', by the rows' own cells (each row's printed sentence says how): OptimizeCertificatesCompose: laid · OptimizeEquivalent: laid · OptimizeCertificateSound: laid.
  DERIVED. THE GIVEN ROWS OF THIS SEAT. 3 by the template 'for every input the law returns true; each argument reads behind the call as it read before'; 0 by the template 'total and deterministic' (their statements: YtjpaichcaaacbabDoorTotals.lean).
  GIVEN WITH THE SEED: the statements are not yours to turn. If you find one false, say at which input.
  Laid BY PROGRAM, IN A SANDBOX (cutbox-rows.mjs): the forced cells as the released guide's own fill.sh prints them over the translation d923a265ab929d71… (all of the seat's roots in one cut). By AI agents, Wed Nov 11 2026. No macro, syntax, notation, axiom, sorry.
-/
import Derived.Test.YtjpaichcaaacbabDoorChecked
import GoSem.Claim
import GoSem.ClaimJoined
import GoSem.ClaimMapViews
import Derived.JoinedTies
import Derived.KernelRfl
namespace Go.Proofs.YtjpaichcaaacbabDoor
/- THE CELL 'sum', in the pinned program and in every row, IS THE sha256 OF THE DUMP (.gsa) THAT YtjpaichcaaacbabDoorProg.lean LOADS. Nothing in Lean hashes anything: it is a label: what it is worth is what the hold of that sum in a sandbox is worth. -/
noncomputable def Tryd.pinned : Pinned := { name := "ytjpaichcaaacbabdoor", sum := "d923a265ab929d71c05a92f34174cb842250bc177bddae7f32f36a5997467360", checked := Tryd.checked }
namespace Rows
def none {H : Type} : Left H := { results := [], args := [] }

/- WHAT THE LISTED PACKAGE-LEVEL VARIABLES READ AS WHEN THE CALL BEGINS. Each datum BY PROGRAM (the guide's laid-datum.mjs) off the statement by which the dump's own 'gosem.cut.vars' lays the variable. In a bare row this is a premise. The card (YtjpaichcaaacbabDoorCards.lean) ties it to the program's text. -/
def laid_privity_field_exps {H : Type} : DataW H := .agg [.lit (.int .i64 5), .lit (.int .i64 7), .lit (.int .i64 13), .lit (.int .i64 17), .lit (.int .i64 19), .lit (.int .i64 31), .lit (.int .i64 61)]
def laid_privity_circuit_forms {H : Type} : DataW H := .agg [.agg [.lit (.string [105, 110]), .lit (.int .i64 1), .lit (.bool true), .lit (.bool false), .lit (.bool false), .lit (.bool false), .lit (.bool false)], .agg [.lit (.string [98, 105, 116]), .lit (.int .i64 1), .lit (.bool true), .lit (.bool false), .lit (.bool false), .lit (.bool false), .lit (.bool true)], .agg [.lit (.string [99, 111, 110, 115, 116]), .lit (.int .i64 2), .lit (.bool false), .lit (.bool true), .lit (.bool false), .lit (.bool false), .lit (.bool false)], .agg [.lit (.string [97, 100, 100]), .lit (.int .i64 3), .lit (.bool false), .lit (.bool false), .lit (.bool true), .lit (.bool true), .lit (.bool false)], .agg [.lit (.string [115, 117, 98]), .lit (.int .i64 4), .lit (.bool false), .lit (.bool false), .lit (.bool true), .lit (.bool true), .lit (.bool false)], .agg [.lit (.string [115, 99, 97, 108, 101]), .lit (.int .i64 5), .lit (.bool false), .lit (.bool true), .lit (.bool true), .lit (.bool false), .lit (.bool false)], .agg [.lit (.string [109, 117, 108]), .lit (.int .i64 6), .lit (.bool false), .lit (.bool false), .lit (.bool true), .lit (.bool true), .lit (.bool false)]]
def laid_privity_cleartext_gates {H : Type} : DataW H := .iface "func table" (.agg [.nil, .iface "func" (.lit (.string [112, 114, 105, 118, 105, 116, 121, 47, 99, 108, 101, 97, 114, 116, 101, 120, 116, 46, 103, 97, 116, 101, 115, 36, 49])), .iface "func" (.lit (.string [112, 114, 105, 118, 105, 116, 121, 47, 99, 108, 101, 97, 114, 116, 101, 120, 116, 46, 103, 97, 116, 101, 115, 36, 50])), .iface "func" (.lit (.string [112, 114, 105, 118, 105, 116, 121, 47, 99, 108, 101, 97, 114, 116, 101, 120, 116, 46, 103, 97, 116, 101, 115, 36, 51])), .iface "func" (.lit (.string [112, 114, 105, 118, 105, 116, 121, 47, 99, 108, 101, 97, 114, 116, 101, 120, 116, 46, 103, 97, 116, 101, 115, 36, 52])), .iface "func" (.lit (.string [112, 114, 105, 118, 105, 116, 121, 47, 99, 108, 101, 97, 114, 116, 101, 120, 116, 46, 103, 97, 116, 101, 115, 36, 53])), .iface "func" (.lit (.string [112, 114, 105, 118, 105, 116, 121, 47, 99, 108, 101, 97, 114, 116, 101, 120, 116, 46, 103, 97, 116, 101, 115, 36, 54]))])

/-- 'privitylaw36.OptimizeCertificatesCompose': WHATEVER THE INPUT: true; the input reads as it did. -/
def optimizeCertificatesComposeSpec : ChangeSpec := { name := "optimizeCertificatesCompose", fn := fun _ => fun
  | [d] => { results := [.lit (.bool true)], args := [d] }
  | _ => none }
def optimizeCertificatesComposeRow : OpenClaim := { program := "ytjpaichcaaacbabdoor", sum := "d923a265ab929d71c05a92f34174cb842250bc177bddae7f32f36a5997467360", func := "privity/privitylaw36.OptimizeCertificatesCompose", spec := "optimizeCertificatesCompose", unfollowed := true, recurses := true, named := ["privity/field.exps", "privity/circuit.forms"], plainKeys := false, apart := false, laid := [("privity/field.exps", laid_privity_field_exps), ("privity/circuit.forms", laid_privity_circuit_forms)] }
def OptimizeCertificatesComposeSaid : Prop := optimizeCertificatesComposeRow.holds Tryd.pinned (OpenSpec.ofChange optimizeCertificatesComposeSpec)

/-- ITS FALSE NEIGHBOUR: 'it returns false'. Refute it at one input. -/
def optimizeCertificatesComposeWrong : ChangeSpec := { name := "optimizeCertificatesCompose", fn := fun _ => fun
  | [d] => { results := [.lit (.bool false)], args := [d] }
  | _ => none }
def OptimizeCertificatesComposeWrongFalsely : Prop := optimizeCertificatesComposeRow.holds Tryd.pinned (OpenSpec.ofChange optimizeCertificatesComposeWrong)

/-- 'privitylaw36.OptimizeEquivalent': WHATEVER THE INPUT: true; the input reads as it did. -/
def optimizeEquivalentSpec : ChangeSpec := { name := "optimizeEquivalent", fn := fun _ => fun
  | [d1, d2] => { results := [.lit (.bool true)], args := [d1, d2] }
  | _ => none }
def optimizeEquivalentRow : OpenClaim := { program := "ytjpaichcaaacbabdoor", sum := "d923a265ab929d71c05a92f34174cb842250bc177bddae7f32f36a5997467360", func := "privity/privitylaw36.OptimizeEquivalent", spec := "optimizeEquivalent", unfollowed := true, recurses := true, named := ["privity/field.exps", "privity/circuit.forms", "privity/cleartext.gates"], plainKeys := false, apart := false, laid := [("privity/field.exps", laid_privity_field_exps), ("privity/circuit.forms", laid_privity_circuit_forms), ("privity/cleartext.gates", laid_privity_cleartext_gates)] }
def OptimizeEquivalentSaid : Prop := optimizeEquivalentRow.holds Tryd.pinned (OpenSpec.ofChange optimizeEquivalentSpec)

/-- ITS FALSE NEIGHBOUR: 'it returns false'. Refute it at one input. -/
def optimizeEquivalentWrong : ChangeSpec := { name := "optimizeEquivalent", fn := fun _ => fun
  | [d1, d2] => { results := [.lit (.bool false)], args := [d1, d2] }
  | _ => none }
def OptimizeEquivalentWrongFalsely : Prop := optimizeEquivalentRow.holds Tryd.pinned (OpenSpec.ofChange optimizeEquivalentWrong)

/-- 'privitylaw36.OptimizeCertificateSound': WHATEVER THE INPUT: true; the input reads as it did. -/
def optimizeCertificateSoundSpec : ChangeSpec := { name := "optimizeCertificateSound", fn := fun _ => fun
  | [d] => { results := [.lit (.bool true)], args := [d] }
  | _ => none }
def optimizeCertificateSoundRow : OpenClaim := { program := "ytjpaichcaaacbabdoor", sum := "d923a265ab929d71c05a92f34174cb842250bc177bddae7f32f36a5997467360", func := "privity/privitylaw36.OptimizeCertificateSound", spec := "optimizeCertificateSound", unfollowed := true, recurses := true, named := ["privity/field.exps", "privity/circuit.forms", "privity/cleartext.gates"], plainKeys := false, apart := false, laid := [("privity/field.exps", laid_privity_field_exps), ("privity/circuit.forms", laid_privity_circuit_forms), ("privity/cleartext.gates", laid_privity_cleartext_gates)] }
def OptimizeCertificateSoundSaid : Prop := optimizeCertificateSoundRow.holds Tryd.pinned (OpenSpec.ofChange optimizeCertificateSoundSpec)

/-- ITS FALSE NEIGHBOUR: 'it returns false'. Refute it at one input. -/
def optimizeCertificateSoundWrong : ChangeSpec := { name := "optimizeCertificateSound", fn := fun _ => fun
  | [d] => { results := [.lit (.bool false)], args := [d] }
  | _ => none }
def OptimizeCertificateSoundWrongFalsely : Prop := optimizeCertificateSoundRow.holds Tryd.pinned (OpenSpec.ofChange optimizeCertificateSoundWrong)

/- THE SECOND FORM. 'bulk': how many values and letters a reading holds, each counted each time it is reached (what is shared counts as often as it is met; a slice's spare places count too). A statement '..UptoSaid' is the law's where the arguments, and the package variables that the reading takes, are together of bulk at most 1048576: NARROWER than '..Said'. Prove '..Said' where nothing that the law and all that it calls make is longer than what came in: it says more and counts as full. Else prove '..UptoSaid'. A law counts once. -/
mutual
def uptoBulk {H : Type} : DataW H → Nat
  | .lit (.string bytes) => bytes.length + 1
  | .lit _ => 1
  | .nil => 1
  | .ptr d => uptoBulk d + 1
  | .slice elems spare => uptoBulkAll elems + uptoBulkAll spare + 1
  | .agg parts => uptoBulkAll parts + 1
  | .iface _ d => uptoBulk d + 1
  | .map entries => uptoBulkEntries entries + 1
  | .held _ => 1
def uptoBulkAll {H : Type} : List (DataW H) → Nat
  | [] => 0
  | d :: r => uptoBulk d + uptoBulkAll r
def uptoBulkEntries {H : Type} : List (Lit × DataW H) → Nat
  | [] => 0
  | x :: r => uptoBulkEntry x + uptoBulkEntries r
def uptoBulkEntry {H : Type} : Lit × DataW H → Nat
  | (.string bytes, d) => bytes.length + uptoBulk d + 1
  | (_, d) => uptoBulk d + 1
 end
def uptoSmall : (H : Type) → List (DataW H) → Bool := fun _ ds => decide (uptoBulkAll ds ≤ 1048576)
def OpenSpec.upto (s : _root_.Go.ChangeSpec) : _root_.Go.OpenSpec := { _root_.Go.OpenSpec.ofChange s with cond := some uptoSmall }

/-- 'privitylaw36.OptimizeCertificatesCompose', WHERE WHAT IT READS IS OF BULK AT MOST 1048576: true; the input reads as it did. -/
def optimizeCertificatesComposeUptoRow : OpenClaim := { program := "ytjpaichcaaacbabdoor", sum := "d923a265ab929d71c05a92f34174cb842250bc177bddae7f32f36a5997467360", func := "privity/privitylaw36.OptimizeCertificatesCompose", spec := "optimizeCertificatesCompose", unfollowed := true, recurses := true, named := ["privity/field.exps", "privity/circuit.forms"], plainKeys := false, apart := false, laid := [("privity/field.exps", laid_privity_field_exps), ("privity/circuit.forms", laid_privity_circuit_forms)], narrowed := true }
def OptimizeCertificatesComposeUptoSaid : Prop := optimizeCertificatesComposeUptoRow.holds Tryd.pinned (OpenSpec.upto optimizeCertificatesComposeSpec)

/-- 'privitylaw36.OptimizeEquivalent', WHERE WHAT IT READS IS OF BULK AT MOST 1048576: true; the input reads as it did. -/
def optimizeEquivalentUptoRow : OpenClaim := { program := "ytjpaichcaaacbabdoor", sum := "d923a265ab929d71c05a92f34174cb842250bc177bddae7f32f36a5997467360", func := "privity/privitylaw36.OptimizeEquivalent", spec := "optimizeEquivalent", unfollowed := true, recurses := true, named := ["privity/field.exps", "privity/circuit.forms", "privity/cleartext.gates"], plainKeys := false, apart := false, laid := [("privity/field.exps", laid_privity_field_exps), ("privity/circuit.forms", laid_privity_circuit_forms), ("privity/cleartext.gates", laid_privity_cleartext_gates)], narrowed := true }
def OptimizeEquivalentUptoSaid : Prop := optimizeEquivalentUptoRow.holds Tryd.pinned (OpenSpec.upto optimizeEquivalentSpec)

/-- 'privitylaw36.OptimizeCertificateSound', WHERE WHAT IT READS IS OF BULK AT MOST 1048576: true; the input reads as it did. -/
def optimizeCertificateSoundUptoRow : OpenClaim := { program := "ytjpaichcaaacbabdoor", sum := "d923a265ab929d71c05a92f34174cb842250bc177bddae7f32f36a5997467360", func := "privity/privitylaw36.OptimizeCertificateSound", spec := "optimizeCertificateSound", unfollowed := true, recurses := true, named := ["privity/field.exps", "privity/circuit.forms", "privity/cleartext.gates"], plainKeys := false, apart := false, laid := [("privity/field.exps", laid_privity_field_exps), ("privity/circuit.forms", laid_privity_circuit_forms), ("privity/cleartext.gates", laid_privity_cleartext_gates)], narrowed := true }
def OptimizeCertificateSoundUptoSaid : Prop := optimizeCertificateSoundUptoRow.holds Tryd.pinned (OpenSpec.upto optimizeCertificateSoundSpec)

end Rows
end Go.Proofs.YtjpaichcaaacbabDoor
