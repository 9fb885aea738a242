/-
  No cell of these rows narrows 'for every input' (looked for: loops, veiled, ifaces, maps, wideKeys, modest, calm, conditions, laid).
  DERIVED. THE GIVEN ROWS OF THIS SEAT. 3 by the template 'for every input the law returns true; each argument reads behind the call as it read before'; 0 by the template 'total and deterministic' (their statements: YtjkggiemnfigbabTotals.lean).
  GIVEN WITH THE SEED: the statements are not yours to turn. If you find one false, say at which input.
  Laid BY PROGRAM, IN A SANDBOX (cutbox-rows.mjs): the forced cells as the released guide's own fill.sh prints them over the translation 94b191e04373f145… (all of the seat's roots in one cut). By AI agents, Wed Nov 11 2026. No macro, syntax, notation, axiom, sorry.
-/
import Derived.Test.YtjkggiemnfigbabChecked
import GoSem.Claim
import GoSem.ClaimJoined
import GoSem.ClaimMapViews
import Derived.JoinedTies
import Derived.KernelRfl
namespace Go.Proofs.Ytjkggiemnfigbab
/- THE CELL 'sum', in the pinned program and in every row, IS THE sha256 OF THE DUMP (.gsa) THAT YtjkggiemnfigbabProg.lean LOADS. Nothing in Lean hashes anything: it is a label: what it is worth is what the hold of that sum in a sandbox is worth. -/
noncomputable def Try.pinned : Pinned := { name := "ytjkggiemnfigbab", sum := "94b191e04373f1458af7adccd725449fdc7875f1ee3114967766a72826f3b7d4", checked := Try.checked }
namespace Rows
def none {H : Type} : Left H := { results := [], args := [] }

/-- 'privitylaw04.PolyEvalHomomorphism': WHATEVER THE INPUT: true; the input reads as it did. -/
def polyEvalHomomorphismSpec : ChangeSpec := { name := "polyEvalHomomorphism", fn := fun _ => fun
  | [d] => { results := [.lit (.bool true)], args := [d] }
  | _ => none }
def polyEvalHomomorphismRow : OpenClaim := { program := "ytjkggiemnfigbab", sum := "94b191e04373f1458af7adccd725449fdc7875f1ee3114967766a72826f3b7d4", func := "privity/privitylaw04.PolyEvalHomomorphism", spec := "polyEvalHomomorphism", inPlace := ["math/bits.Add64"], unfollowed := true, recurses := true, apart := false }
def PolyEvalHomomorphismSaid : Prop := polyEvalHomomorphismRow.holds Try.pinned (OpenSpec.ofChange polyEvalHomomorphismSpec)

/-- ITS FALSE NEIGHBOUR: 'it returns false'. Refute it at one input. -/
def polyEvalHomomorphismWrong : ChangeSpec := { name := "polyEvalHomomorphism", fn := fun _ => fun
  | [d] => { results := [.lit (.bool false)], args := [d] }
  | _ => none }
def PolyEvalHomomorphismWrongFalsely : Prop := polyEvalHomomorphismRow.holds Try.pinned (OpenSpec.ofChange polyEvalHomomorphismWrong)

/-- 'privitylaw04.PolyArithmetic': WHATEVER THE INPUT: true; the input reads as it did. -/
def polyArithmeticSpec : ChangeSpec := { name := "polyArithmetic", fn := fun _ => fun
  | [d] => { results := [.lit (.bool true)], args := [d] }
  | _ => none }
def polyArithmeticRow : OpenClaim := { program := "ytjkggiemnfigbab", sum := "94b191e04373f1458af7adccd725449fdc7875f1ee3114967766a72826f3b7d4", func := "privity/privitylaw04.PolyArithmetic", spec := "polyArithmetic", inPlace := ["math/bits.Add64"], unfollowed := true, recurses := true, apart := false }
def PolyArithmeticSaid : Prop := polyArithmeticRow.holds Try.pinned (OpenSpec.ofChange polyArithmeticSpec)

/-- ITS FALSE NEIGHBOUR: 'it returns false'. Refute it at one input. -/
def polyArithmeticWrong : ChangeSpec := { name := "polyArithmetic", fn := fun _ => fun
  | [d] => { results := [.lit (.bool false)], args := [d] }
  | _ => none }
def PolyArithmeticWrongFalsely : Prop := polyArithmeticRow.holds Try.pinned (OpenSpec.ofChange polyArithmeticWrong)

/-- 'privitylaw04.PolyRing': WHATEVER THE INPUT: true; the input reads as it did. -/
def polyRingSpec : ChangeSpec := { name := "polyRing", fn := fun _ => fun
  | [d] => { results := [.lit (.bool true)], args := [d] }
  | _ => none }
def polyRingRow : OpenClaim := { program := "ytjkggiemnfigbab", sum := "94b191e04373f1458af7adccd725449fdc7875f1ee3114967766a72826f3b7d4", func := "privity/privitylaw04.PolyRing", spec := "polyRing", inPlace := ["math/bits.Add64"], unfollowed := true, recurses := true, apart := false }
def PolyRingSaid : Prop := polyRingRow.holds Try.pinned (OpenSpec.ofChange polyRingSpec)

/-- ITS FALSE NEIGHBOUR: 'it returns false'. Refute it at one input. -/
def polyRingWrong : ChangeSpec := { name := "polyRing", fn := fun _ => fun
  | [d] => { results := [.lit (.bool false)], args := [d] }
  | _ => none }
def PolyRingWrongFalsely : Prop := polyRingRow.holds Try.pinned (OpenSpec.ofChange polyRingWrong)

/- THE SECOND FORM. 'bulk': how many values and letters a reading holds, each counted each time it is reached (what is shared counts as often as it is met; a slice's spare places count too). A statement '..UptoSaid' is the law's where the arguments, and the package variables that the reading takes, are together of bulk at most 1048576: NARROWER than '..Said'. Prove '..Said' where nothing that the law and all that it calls make is longer than what came in: it says more and counts as full. Else prove '..UptoSaid'. A law counts once. -/
mutual
def uptoBulk {H : Type} : DataW H → Nat
  | .lit (.string bytes) => bytes.length + 1
  | .lit _ => 1
  | .nil => 1
  | .ptr d => uptoBulk d + 1
  | .slice elems spare => uptoBulkAll elems + uptoBulkAll spare + 1
  | .agg parts => uptoBulkAll parts + 1
  | .iface _ d => uptoBulk d + 1
  | .map entries => uptoBulkEntries entries + 1
  | .held _ => 1
def uptoBulkAll {H : Type} : List (DataW H) → Nat
  | [] => 0
  | d :: r => uptoBulk d + uptoBulkAll r
def uptoBulkEntries {H : Type} : List (Lit × DataW H) → Nat
  | [] => 0
  | x :: r => uptoBulkEntry x + uptoBulkEntries r
def uptoBulkEntry {H : Type} : Lit × DataW H → Nat
  | (.string bytes, d) => bytes.length + uptoBulk d + 1
  | (_, d) => uptoBulk d + 1
 end
def uptoSmall : (H : Type) → List (DataW H) → Bool := fun _ ds => decide (uptoBulkAll ds ≤ 1048576)
def OpenSpec.upto (s : _root_.Go.ChangeSpec) : _root_.Go.OpenSpec := { _root_.Go.OpenSpec.ofChange s with cond := some uptoSmall }

/-- 'privitylaw04.PolyEvalHomomorphism', WHERE WHAT IT READS IS OF BULK AT MOST 1048576: true; the input reads as it did. -/
def polyEvalHomomorphismUptoRow : OpenClaim := { program := "ytjkggiemnfigbab", sum := "94b191e04373f1458af7adccd725449fdc7875f1ee3114967766a72826f3b7d4", func := "privity/privitylaw04.PolyEvalHomomorphism", spec := "polyEvalHomomorphism", inPlace := ["math/bits.Add64"], unfollowed := true, recurses := true, apart := false, narrowed := true }
def PolyEvalHomomorphismUptoSaid : Prop := polyEvalHomomorphismUptoRow.holds Try.pinned (OpenSpec.upto polyEvalHomomorphismSpec)

/-- 'privitylaw04.PolyArithmetic', WHERE WHAT IT READS IS OF BULK AT MOST 1048576: true; the input reads as it did. -/
def polyArithmeticUptoRow : OpenClaim := { program := "ytjkggiemnfigbab", sum := "94b191e04373f1458af7adccd725449fdc7875f1ee3114967766a72826f3b7d4", func := "privity/privitylaw04.PolyArithmetic", spec := "polyArithmetic", inPlace := ["math/bits.Add64"], unfollowed := true, recurses := true, apart := false, narrowed := true }
def PolyArithmeticUptoSaid : Prop := polyArithmeticUptoRow.holds Try.pinned (OpenSpec.upto polyArithmeticSpec)

/-- 'privitylaw04.PolyRing', WHERE WHAT IT READS IS OF BULK AT MOST 1048576: true; the input reads as it did. -/
def polyRingUptoRow : OpenClaim := { program := "ytjkggiemnfigbab", sum := "94b191e04373f1458af7adccd725449fdc7875f1ee3114967766a72826f3b7d4", func := "privity/privitylaw04.PolyRing", spec := "polyRing", inPlace := ["math/bits.Add64"], unfollowed := true, recurses := true, apart := false, narrowed := true }
def PolyRingUptoSaid : Prop := polyRingUptoRow.holds Try.pinned (OpenSpec.upto polyRingSpec)

end Rows
end Go.Proofs.Ytjkggiemnfigbab
