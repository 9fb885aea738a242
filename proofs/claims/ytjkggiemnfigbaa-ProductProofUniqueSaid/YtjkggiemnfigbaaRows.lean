/-
  No cell of these rows narrows 'for every input' (looked for: loops, veiled, ifaces, maps, wideKeys, modest, calm, conditions, laid).
  DERIVED. THE GIVEN ROWS OF THIS SEAT. 12 by the template 'for every input the law returns true; each argument reads behind the call as it read before'; 0 by the template 'total and deterministic' (their statements: YtjkggiemnfigbaaTotals.lean).
  GIVEN WITH THE SEED: the statements are not yours to turn. If you find one false, say at which input.
  Laid BY PROGRAM, IN A SANDBOX (cutbox-rows.mjs): the forced cells as the released guide's own fill.sh prints them over the translation b18ff24cdda1f2f2… (all of the seat's roots in one cut). By AI agents, Wed Nov 11 2026. No macro, syntax, notation, axiom, sorry.
-/
import Derived.Test.YtjkggiemnfigbaaChecked
import GoSem.Claim
import GoSem.ClaimJoined
import GoSem.ClaimMapViews
import Derived.JoinedTies
import Derived.KernelRfl
namespace Go.Proofs.Ytjkggiemnfigbaa
/- THE CELL 'sum', in the pinned program and in every row, IS THE sha256 OF THE DUMP (.gsa) THAT YtjkggiemnfigbaaProg.lean LOADS. Nothing in Lean hashes anything: it is a label: what it is worth is what the hold of that sum in a sandbox is worth. -/
noncomputable def Try.pinned : Pinned := { name := "ytjkggiemnfigbaa", sum := "b18ff24cdda1f2f2fe96b10805c960d52d9c3885193fbbc6e7965cb0fced06bd", checked := Try.checked }
namespace Rows
def none {H : Type} : Left H := { results := [], args := [] }

/-- 'privitylaw21.ProductProofProve': WHATEVER THE INPUT: true; the input reads as it did. -/
def productProofProveSpec : ChangeSpec := { name := "productProofProve", fn := fun _ => fun
  | [d] => { results := [.lit (.bool true)], args := [d] }
  | _ => none }
def productProofProveRow : OpenClaim := { program := "ytjkggiemnfigbaa", sum := "b18ff24cdda1f2f2fe96b10805c960d52d9c3885193fbbc6e7965cb0fced06bd", func := "privity/privitylaw21.ProductProofProve", spec := "productProofProve", inPlace := ["math/bits.Add64"], unfollowed := true, recurses := true, apart := false }
def ProductProofProveSaid : Prop := productProofProveRow.holds Try.pinned (OpenSpec.ofChange productProofProveSpec)

/-- ITS FALSE NEIGHBOUR: 'it returns false'. Refute it at one input. -/
def productProofProveWrong : ChangeSpec := { name := "productProofProve", fn := fun _ => fun
  | [d] => { results := [.lit (.bool false)], args := [d] }
  | _ => none }
def ProductProofProveWrongFalsely : Prop := productProofProveRow.holds Try.pinned (OpenSpec.ofChange productProofProveWrong)

/-- 'privitylaw21.ProductProofComplete': WHATEVER THE INPUT: true; the input reads as it did. -/
def productProofCompleteSpec : ChangeSpec := { name := "productProofComplete", fn := fun _ => fun
  | [d1, d2] => { results := [.lit (.bool true)], args := [d1, d2] }
  | _ => none }
def productProofCompleteRow : OpenClaim := { program := "ytjkggiemnfigbaa", sum := "b18ff24cdda1f2f2fe96b10805c960d52d9c3885193fbbc6e7965cb0fced06bd", func := "privity/privitylaw21.ProductProofComplete", spec := "productProofComplete", inPlace := ["math/bits.Add64"], unfollowed := true, recurses := true, apart := false }
def ProductProofCompleteSaid : Prop := productProofCompleteRow.holds Try.pinned (OpenSpec.ofChange productProofCompleteSpec)

/-- ITS FALSE NEIGHBOUR: 'it returns false'. Refute it at one input. -/
def productProofCompleteWrong : ChangeSpec := { name := "productProofComplete", fn := fun _ => fun
  | [d1, d2] => { results := [.lit (.bool false)], args := [d1, d2] }
  | _ => none }
def ProductProofCompleteWrongFalsely : Prop := productProofCompleteRow.holds Try.pinned (OpenSpec.ofChange productProofCompleteWrong)

/-- 'privitylaw21.ProductProofSound': WHATEVER THE INPUT: true; the input reads as it did. -/
def productProofSoundSpec : ChangeSpec := { name := "productProofSound", fn := fun _ => fun
  | [d1, d2] => { results := [.lit (.bool true)], args := [d1, d2] }
  | _ => none }
def productProofSoundRow : OpenClaim := { program := "ytjkggiemnfigbaa", sum := "b18ff24cdda1f2f2fe96b10805c960d52d9c3885193fbbc6e7965cb0fced06bd", func := "privity/privitylaw21.ProductProofSound", spec := "productProofSound", inPlace := ["math/bits.Add64"], unfollowed := true, recurses := true, apart := false }
def ProductProofSoundSaid : Prop := productProofSoundRow.holds Try.pinned (OpenSpec.ofChange productProofSoundSpec)

/-- ITS FALSE NEIGHBOUR: 'it returns false'. Refute it at one input. -/
def productProofSoundWrong : ChangeSpec := { name := "productProofSound", fn := fun _ => fun
  | [d1, d2] => { results := [.lit (.bool false)], args := [d1, d2] }
  | _ => none }
def ProductProofSoundWrongFalsely : Prop := productProofSoundRow.holds Try.pinned (OpenSpec.ofChange productProofSoundWrong)

/-- 'privitylaw21.ProductProofZeroKnowledge': WHATEVER THE INPUT: true; the input reads as it did. -/
def productProofZeroKnowledgeSpec : ChangeSpec := { name := "productProofZeroKnowledge", fn := fun _ => fun
  | [d] => { results := [.lit (.bool true)], args := [d] }
  | _ => none }
def productProofZeroKnowledgeRow : OpenClaim := { program := "ytjkggiemnfigbaa", sum := "b18ff24cdda1f2f2fe96b10805c960d52d9c3885193fbbc6e7965cb0fced06bd", func := "privity/privitylaw21.ProductProofZeroKnowledge", spec := "productProofZeroKnowledge", inPlace := ["math/bits.Add64"], unfollowed := true, recurses := true, apart := false }
def ProductProofZeroKnowledgeSaid : Prop := productProofZeroKnowledgeRow.holds Try.pinned (OpenSpec.ofChange productProofZeroKnowledgeSpec)

/-- ITS FALSE NEIGHBOUR: 'it returns false'. Refute it at one input. -/
def productProofZeroKnowledgeWrong : ChangeSpec := { name := "productProofZeroKnowledge", fn := fun _ => fun
  | [d] => { results := [.lit (.bool false)], args := [d] }
  | _ => none }
def ProductProofZeroKnowledgeWrongFalsely : Prop := productProofZeroKnowledgeRow.holds Try.pinned (OpenSpec.ofChange productProofZeroKnowledgeWrong)

/-- 'privitylaw21.ProductProofUnique': WHATEVER THE INPUT: true; the input reads as it did. -/
def productProofUniqueSpec : ChangeSpec := { name := "productProofUnique", fn := fun _ => fun
  | [d1, d2, d3] => { results := [.lit (.bool true)], args := [d1, d2, d3] }
  | _ => none }
def productProofUniqueRow : OpenClaim := { program := "ytjkggiemnfigbaa", sum := "b18ff24cdda1f2f2fe96b10805c960d52d9c3885193fbbc6e7965cb0fced06bd", func := "privity/privitylaw21.ProductProofUnique", spec := "productProofUnique", inPlace := ["math/bits.Add64"], unfollowed := true, recurses := true, apart := false }
def ProductProofUniqueSaid : Prop := productProofUniqueRow.holds Try.pinned (OpenSpec.ofChange productProofUniqueSpec)

/-- ITS FALSE NEIGHBOUR: 'it returns false'. Refute it at one input. -/
def productProofUniqueWrong : ChangeSpec := { name := "productProofUnique", fn := fun _ => fun
  | [d1, d2, d3] => { results := [.lit (.bool false)], args := [d1, d2, d3] }
  | _ => none }
def ProductProofUniqueWrongFalsely : Prop := productProofUniqueRow.holds Try.pinned (OpenSpec.ofChange productProofUniqueWrong)

/-- 'privitylaw21.ProductProofCheatingDetected': WHATEVER THE INPUT: true; the input reads as it did. -/
def productProofCheatingDetectedSpec : ChangeSpec := { name := "productProofCheatingDetected", fn := fun _ => fun
  | [d1, d2, d3] => { results := [.lit (.bool true)], args := [d1, d2, d3] }
  | _ => none }
def productProofCheatingDetectedRow : OpenClaim := { program := "ytjkggiemnfigbaa", sum := "b18ff24cdda1f2f2fe96b10805c960d52d9c3885193fbbc6e7965cb0fced06bd", func := "privity/privitylaw21.ProductProofCheatingDetected", spec := "productProofCheatingDetected", inPlace := ["math/bits.Add64"], unfollowed := true, recurses := true, apart := false }
def ProductProofCheatingDetectedSaid : Prop := productProofCheatingDetectedRow.holds Try.pinned (OpenSpec.ofChange productProofCheatingDetectedSpec)

/-- ITS FALSE NEIGHBOUR: 'it returns false'. Refute it at one input. -/
def productProofCheatingDetectedWrong : ChangeSpec := { name := "productProofCheatingDetected", fn := fun _ => fun
  | [d1, d2, d3] => { results := [.lit (.bool false)], args := [d1, d2, d3] }
  | _ => none }
def ProductProofCheatingDetectedWrongFalsely : Prop := productProofCheatingDetectedRow.holds Try.pinned (OpenSpec.ofChange productProofCheatingDetectedWrong)

/-- 'privitylaw04.PolyDivMod': WHATEVER THE INPUT: true; the input reads as it did. -/
def polyDivModSpec : ChangeSpec := { name := "polyDivMod", fn := fun _ => fun
  | [d] => { results := [.lit (.bool true)], args := [d] }
  | _ => none }
def polyDivModRow : OpenClaim := { program := "ytjkggiemnfigbaa", sum := "b18ff24cdda1f2f2fe96b10805c960d52d9c3885193fbbc6e7965cb0fced06bd", func := "privity/privitylaw04.PolyDivMod", spec := "polyDivMod", inPlace := ["math/bits.Add64"], unfollowed := true, recurses := true, apart := false }
def PolyDivModSaid : Prop := polyDivModRow.holds Try.pinned (OpenSpec.ofChange polyDivModSpec)

/-- ITS FALSE NEIGHBOUR: 'it returns false'. Refute it at one input. -/
def polyDivModWrong : ChangeSpec := { name := "polyDivMod", fn := fun _ => fun
  | [d] => { results := [.lit (.bool false)], args := [d] }
  | _ => none }
def PolyDivModWrongFalsely : Prop := polyDivModRow.holds Try.pinned (OpenSpec.ofChange polyDivModWrong)

/-- 'privitylaw04.PolyZeros': WHATEVER THE INPUT: true; the input reads as it did. -/
def polyZerosSpec : ChangeSpec := { name := "polyZeros", fn := fun _ => fun
  | [d] => { results := [.lit (.bool true)], args := [d] }
  | _ => none }
def polyZerosRow : OpenClaim := { program := "ytjkggiemnfigbaa", sum := "b18ff24cdda1f2f2fe96b10805c960d52d9c3885193fbbc6e7965cb0fced06bd", func := "privity/privitylaw04.PolyZeros", spec := "polyZeros", inPlace := ["math/bits.Add64"], unfollowed := true, recurses := true, apart := false }
def PolyZerosSaid : Prop := polyZerosRow.holds Try.pinned (OpenSpec.ofChange polyZerosSpec)

/-- ITS FALSE NEIGHBOUR: 'it returns false'. Refute it at one input. -/
def polyZerosWrong : ChangeSpec := { name := "polyZeros", fn := fun _ => fun
  | [d] => { results := [.lit (.bool false)], args := [d] }
  | _ => none }
def PolyZerosWrongFalsely : Prop := polyZerosRow.holds Try.pinned (OpenSpec.ofChange polyZerosWrong)

/-- 'privitylaw21.ProductProofVerify': WHATEVER THE INPUT: true; the input reads as it did. -/
def productProofVerifySpec : ChangeSpec := { name := "productProofVerify", fn := fun _ => fun
  | [d1, d2, d3] => { results := [.lit (.bool true)], args := [d1, d2, d3] }
  | _ => none }
def productProofVerifyRow : OpenClaim := { program := "ytjkggiemnfigbaa", sum := "b18ff24cdda1f2f2fe96b10805c960d52d9c3885193fbbc6e7965cb0fced06bd", func := "privity/privitylaw21.ProductProofVerify", spec := "productProofVerify", inPlace := ["math/bits.Add64"], unfollowed := true, recurses := true, apart := false }
def ProductProofVerifySaid : Prop := productProofVerifyRow.holds Try.pinned (OpenSpec.ofChange productProofVerifySpec)

/-- ITS FALSE NEIGHBOUR: 'it returns false'. Refute it at one input. -/
def productProofVerifyWrong : ChangeSpec := { name := "productProofVerify", fn := fun _ => fun
  | [d1, d2, d3] => { results := [.lit (.bool false)], args := [d1, d2, d3] }
  | _ => none }
def ProductProofVerifyWrongFalsely : Prop := productProofVerifyRow.holds Try.pinned (OpenSpec.ofChange productProofVerifyWrong)

/-- 'privitylaw04.PolyTrim': WHATEVER THE INPUT: true; the input reads as it did. -/
def polyTrimSpec : ChangeSpec := { name := "polyTrim", fn := fun _ => fun
  | [d1, d2] => { results := [.lit (.bool true)], args := [d1, d2] }
  | _ => none }
def polyTrimRow : OpenClaim := { program := "ytjkggiemnfigbaa", sum := "b18ff24cdda1f2f2fe96b10805c960d52d9c3885193fbbc6e7965cb0fced06bd", func := "privity/privitylaw04.PolyTrim", spec := "polyTrim", inPlace := ["math/bits.Add64"], unfollowed := true, recurses := true, apart := false }
def PolyTrimSaid : Prop := polyTrimRow.holds Try.pinned (OpenSpec.ofChange polyTrimSpec)

/-- ITS FALSE NEIGHBOUR: 'it returns false'. Refute it at one input. -/
def polyTrimWrong : ChangeSpec := { name := "polyTrim", fn := fun _ => fun
  | [d1, d2] => { results := [.lit (.bool false)], args := [d1, d2] }
  | _ => none }
def PolyTrimWrongFalsely : Prop := polyTrimRow.holds Try.pinned (OpenSpec.ofChange polyTrimWrong)

/-- 'privitylaw04.PolyDivisionAlgorithm': WHATEVER THE INPUT: true; the input reads as it did. -/
def polyDivisionAlgorithmSpec : ChangeSpec := { name := "polyDivisionAlgorithm", fn := fun _ => fun
  | [d] => { results := [.lit (.bool true)], args := [d] }
  | _ => none }
def polyDivisionAlgorithmRow : OpenClaim := { program := "ytjkggiemnfigbaa", sum := "b18ff24cdda1f2f2fe96b10805c960d52d9c3885193fbbc6e7965cb0fced06bd", func := "privity/privitylaw04.PolyDivisionAlgorithm", spec := "polyDivisionAlgorithm", inPlace := ["math/bits.Add64"], unfollowed := true, recurses := true, apart := false }
def PolyDivisionAlgorithmSaid : Prop := polyDivisionAlgorithmRow.holds Try.pinned (OpenSpec.ofChange polyDivisionAlgorithmSpec)

/-- ITS FALSE NEIGHBOUR: 'it returns false'. Refute it at one input. -/
def polyDivisionAlgorithmWrong : ChangeSpec := { name := "polyDivisionAlgorithm", fn := fun _ => fun
  | [d] => { results := [.lit (.bool false)], args := [d] }
  | _ => none }
def PolyDivisionAlgorithmWrongFalsely : Prop := polyDivisionAlgorithmRow.holds Try.pinned (OpenSpec.ofChange polyDivisionAlgorithmWrong)

/-- 'privitylaw21.ProductProofChange': WHATEVER THE INPUT: true; the input reads as it did. -/
def productProofChangeSpec : ChangeSpec := { name := "productProofChange", fn := fun _ => fun
  | [d] => { results := [.lit (.bool true)], args := [d] }
  | _ => none }
def productProofChangeRow : OpenClaim := { program := "ytjkggiemnfigbaa", sum := "b18ff24cdda1f2f2fe96b10805c960d52d9c3885193fbbc6e7965cb0fced06bd", func := "privity/privitylaw21.ProductProofChange", spec := "productProofChange", inPlace := ["math/bits.Add64"], unfollowed := true, recurses := true, apart := false }
def ProductProofChangeSaid : Prop := productProofChangeRow.holds Try.pinned (OpenSpec.ofChange productProofChangeSpec)

/-- ITS FALSE NEIGHBOUR: 'it returns false'. Refute it at one input. -/
def productProofChangeWrong : ChangeSpec := { name := "productProofChange", fn := fun _ => fun
  | [d] => { results := [.lit (.bool false)], args := [d] }
  | _ => none }
def ProductProofChangeWrongFalsely : Prop := productProofChangeRow.holds Try.pinned (OpenSpec.ofChange productProofChangeWrong)

/- THE SECOND FORM. 'bulk': how many values and letters a reading holds, each counted each time it is reached (what is shared counts as often as it is met; a slice's spare places count too). A statement '..UptoSaid' is the law's where the arguments, and the package variables that the reading takes, are together of bulk at most 1048576: NARROWER than '..Said'. Prove '..Said' where nothing that the law and all that it calls make is longer than what came in: it says more and counts as full. Else prove '..UptoSaid'. A law counts once. -/
mutual
def uptoBulk {H : Type} : DataW H → Nat
  | .lit (.string bytes) => bytes.length + 1
  | .lit _ => 1
  | .nil => 1
  | .ptr d => uptoBulk d + 1
  | .slice elems spare => uptoBulkAll elems + uptoBulkAll spare + 1
  | .agg parts => uptoBulkAll parts + 1
  | .iface _ d => uptoBulk d + 1
  | .map entries => uptoBulkEntries entries + 1
  | .held _ => 1
def uptoBulkAll {H : Type} : List (DataW H) → Nat
  | [] => 0
  | d :: r => uptoBulk d + uptoBulkAll r
def uptoBulkEntries {H : Type} : List (Lit × DataW H) → Nat
  | [] => 0
  | x :: r => uptoBulkEntry x + uptoBulkEntries r
def uptoBulkEntry {H : Type} : Lit × DataW H → Nat
  | (.string bytes, d) => bytes.length + uptoBulk d + 1
  | (_, d) => uptoBulk d + 1
 end
def uptoSmall : (H : Type) → List (DataW H) → Bool := fun _ ds => decide (uptoBulkAll ds ≤ 1048576)
def OpenSpec.upto (s : _root_.Go.ChangeSpec) : _root_.Go.OpenSpec := { _root_.Go.OpenSpec.ofChange s with cond := some uptoSmall }

/-- 'privitylaw21.ProductProofProve', WHERE WHAT IT READS IS OF BULK AT MOST 1048576: true; the input reads as it did. -/
def productProofProveUptoRow : OpenClaim := { program := "ytjkggiemnfigbaa", sum := "b18ff24cdda1f2f2fe96b10805c960d52d9c3885193fbbc6e7965cb0fced06bd", func := "privity/privitylaw21.ProductProofProve", spec := "productProofProve", inPlace := ["math/bits.Add64"], unfollowed := true, recurses := true, apart := false, narrowed := true }
def ProductProofProveUptoSaid : Prop := productProofProveUptoRow.holds Try.pinned (OpenSpec.upto productProofProveSpec)

/-- 'privitylaw21.ProductProofComplete', WHERE WHAT IT READS IS OF BULK AT MOST 1048576: true; the input reads as it did. -/
def productProofCompleteUptoRow : OpenClaim := { program := "ytjkggiemnfigbaa", sum := "b18ff24cdda1f2f2fe96b10805c960d52d9c3885193fbbc6e7965cb0fced06bd", func := "privity/privitylaw21.ProductProofComplete", spec := "productProofComplete", inPlace := ["math/bits.Add64"], unfollowed := true, recurses := true, apart := false, narrowed := true }
def ProductProofCompleteUptoSaid : Prop := productProofCompleteUptoRow.holds Try.pinned (OpenSpec.upto productProofCompleteSpec)

/-- 'privitylaw21.ProductProofSound', WHERE WHAT IT READS IS OF BULK AT MOST 1048576: true; the input reads as it did. -/
def productProofSoundUptoRow : OpenClaim := { program := "ytjkggiemnfigbaa", sum := "b18ff24cdda1f2f2fe96b10805c960d52d9c3885193fbbc6e7965cb0fced06bd", func := "privity/privitylaw21.ProductProofSound", spec := "productProofSound", inPlace := ["math/bits.Add64"], unfollowed := true, recurses := true, apart := false, narrowed := true }
def ProductProofSoundUptoSaid : Prop := productProofSoundUptoRow.holds Try.pinned (OpenSpec.upto productProofSoundSpec)

/-- 'privitylaw21.ProductProofZeroKnowledge', WHERE WHAT IT READS IS OF BULK AT MOST 1048576: true; the input reads as it did. -/
def productProofZeroKnowledgeUptoRow : OpenClaim := { program := "ytjkggiemnfigbaa", sum := "b18ff24cdda1f2f2fe96b10805c960d52d9c3885193fbbc6e7965cb0fced06bd", func := "privity/privitylaw21.ProductProofZeroKnowledge", spec := "productProofZeroKnowledge", inPlace := ["math/bits.Add64"], unfollowed := true, recurses := true, apart := false, narrowed := true }
def ProductProofZeroKnowledgeUptoSaid : Prop := productProofZeroKnowledgeUptoRow.holds Try.pinned (OpenSpec.upto productProofZeroKnowledgeSpec)

/-- 'privitylaw21.ProductProofUnique', WHERE WHAT IT READS IS OF BULK AT MOST 1048576: true; the input reads as it did. -/
def productProofUniqueUptoRow : OpenClaim := { program := "ytjkggiemnfigbaa", sum := "b18ff24cdda1f2f2fe96b10805c960d52d9c3885193fbbc6e7965cb0fced06bd", func := "privity/privitylaw21.ProductProofUnique", spec := "productProofUnique", inPlace := ["math/bits.Add64"], unfollowed := true, recurses := true, apart := false, narrowed := true }
def ProductProofUniqueUptoSaid : Prop := productProofUniqueUptoRow.holds Try.pinned (OpenSpec.upto productProofUniqueSpec)

/-- 'privitylaw21.ProductProofCheatingDetected', WHERE WHAT IT READS IS OF BULK AT MOST 1048576: true; the input reads as it did. -/
def productProofCheatingDetectedUptoRow : OpenClaim := { program := "ytjkggiemnfigbaa", sum := "b18ff24cdda1f2f2fe96b10805c960d52d9c3885193fbbc6e7965cb0fced06bd", func := "privity/privitylaw21.ProductProofCheatingDetected", spec := "productProofCheatingDetected", inPlace := ["math/bits.Add64"], unfollowed := true, recurses := true, apart := false, narrowed := true }
def ProductProofCheatingDetectedUptoSaid : Prop := productProofCheatingDetectedUptoRow.holds Try.pinned (OpenSpec.upto productProofCheatingDetectedSpec)

/-- 'privitylaw04.PolyDivMod', WHERE WHAT IT READS IS OF BULK AT MOST 1048576: true; the input reads as it did. -/
def polyDivModUptoRow : OpenClaim := { program := "ytjkggiemnfigbaa", sum := "b18ff24cdda1f2f2fe96b10805c960d52d9c3885193fbbc6e7965cb0fced06bd", func := "privity/privitylaw04.PolyDivMod", spec := "polyDivMod", inPlace := ["math/bits.Add64"], unfollowed := true, recurses := true, apart := false, narrowed := true }
def PolyDivModUptoSaid : Prop := polyDivModUptoRow.holds Try.pinned (OpenSpec.upto polyDivModSpec)

/-- 'privitylaw04.PolyZeros', WHERE WHAT IT READS IS OF BULK AT MOST 1048576: true; the input reads as it did. -/
def polyZerosUptoRow : OpenClaim := { program := "ytjkggiemnfigbaa", sum := "b18ff24cdda1f2f2fe96b10805c960d52d9c3885193fbbc6e7965cb0fced06bd", func := "privity/privitylaw04.PolyZeros", spec := "polyZeros", inPlace := ["math/bits.Add64"], unfollowed := true, recurses := true, apart := false, narrowed := true }
def PolyZerosUptoSaid : Prop := polyZerosUptoRow.holds Try.pinned (OpenSpec.upto polyZerosSpec)

/-- 'privitylaw21.ProductProofVerify', WHERE WHAT IT READS IS OF BULK AT MOST 1048576: true; the input reads as it did. -/
def productProofVerifyUptoRow : OpenClaim := { program := "ytjkggiemnfigbaa", sum := "b18ff24cdda1f2f2fe96b10805c960d52d9c3885193fbbc6e7965cb0fced06bd", func := "privity/privitylaw21.ProductProofVerify", spec := "productProofVerify", inPlace := ["math/bits.Add64"], unfollowed := true, recurses := true, apart := false, narrowed := true }
def ProductProofVerifyUptoSaid : Prop := productProofVerifyUptoRow.holds Try.pinned (OpenSpec.upto productProofVerifySpec)

/-- 'privitylaw04.PolyTrim', WHERE WHAT IT READS IS OF BULK AT MOST 1048576: true; the input reads as it did. -/
def polyTrimUptoRow : OpenClaim := { program := "ytjkggiemnfigbaa", sum := "b18ff24cdda1f2f2fe96b10805c960d52d9c3885193fbbc6e7965cb0fced06bd", func := "privity/privitylaw04.PolyTrim", spec := "polyTrim", inPlace := ["math/bits.Add64"], unfollowed := true, recurses := true, apart := false, narrowed := true }
def PolyTrimUptoSaid : Prop := polyTrimUptoRow.holds Try.pinned (OpenSpec.upto polyTrimSpec)

/-- 'privitylaw04.PolyDivisionAlgorithm', WHERE WHAT IT READS IS OF BULK AT MOST 1048576: true; the input reads as it did. -/
def polyDivisionAlgorithmUptoRow : OpenClaim := { program := "ytjkggiemnfigbaa", sum := "b18ff24cdda1f2f2fe96b10805c960d52d9c3885193fbbc6e7965cb0fced06bd", func := "privity/privitylaw04.PolyDivisionAlgorithm", spec := "polyDivisionAlgorithm", inPlace := ["math/bits.Add64"], unfollowed := true, recurses := true, apart := false, narrowed := true }
def PolyDivisionAlgorithmUptoSaid : Prop := polyDivisionAlgorithmUptoRow.holds Try.pinned (OpenSpec.upto polyDivisionAlgorithmSpec)

/-- 'privitylaw21.ProductProofChange', WHERE WHAT IT READS IS OF BULK AT MOST 1048576: true; the input reads as it did. -/
def productProofChangeUptoRow : OpenClaim := { program := "ytjkggiemnfigbaa", sum := "b18ff24cdda1f2f2fe96b10805c960d52d9c3885193fbbc6e7965cb0fced06bd", func := "privity/privitylaw21.ProductProofChange", spec := "productProofChange", inPlace := ["math/bits.Add64"], unfollowed := true, recurses := true, apart := false, narrowed := true }
def ProductProofChangeUptoSaid : Prop := productProofChangeUptoRow.holds Try.pinned (OpenSpec.upto productProofChangeSpec)

end Rows
end Go.Proofs.Ytjkggiemnfigbaa
