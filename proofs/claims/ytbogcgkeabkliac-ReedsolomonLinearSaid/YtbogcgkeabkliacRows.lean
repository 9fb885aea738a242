/-
  No cell of these rows narrows 'for every input' (looked for: loops, veiled, ifaces, maps, wideKeys, modest, calm, conditions, laid).
  DERIVED. THE GIVEN ROWS OF THIS SEAT. 4 by the template 'for every input the law returns true; each argument reads behind the call as it read before'; 0 by the template 'total and deterministic' (their statements: YtbogcgkeabkliacTotals.lean).
  GIVEN WITH THE SEED: the statements are not yours to turn. If you find one false, say at which input.
  Laid BY PROGRAM, IN A SANDBOX (cutbox-rows.mjs): the forced cells as the released guide's own fill.sh prints them over the translation f152a94a6149afa9… (all of the seat's roots in one cut). By AI agents, Wed Nov 11 2026. No macro, syntax, notation, axiom, sorry.
-/
import Derived.Test.YtbogcgkeabkliacChecked
import GoSem.Claim
import GoSem.ClaimJoined
import GoSem.ClaimMapViews
import Derived.JoinedTies
import Derived.KernelRfl
namespace Go.Proofs.Ytbogcgkeabkliac
/- THE CELL 'sum', in the pinned program and in every row, IS THE sha256 OF THE DUMP (.gsa) THAT YtbogcgkeabkliacProg.lean LOADS. Nothing in Lean hashes anything: it is a label: what it is worth is what the hold of that sum in a sandbox is worth. -/
noncomputable def Try.pinned : Pinned := { name := "ytbogcgkeabkliac", sum := "f152a94a6149afa9a233c8ec11db9d6dc87d89795b73083ee9c86607e3cca110", checked := Try.checked }
namespace Rows
def none {H : Type} : Left H := { results := [], args := [] }

/-- 'privitylaw08.ReedsolomonOrder': WHATEVER THE INPUT: true; the input reads as it did. -/
def reedsolomonOrderSpec : ChangeSpec := { name := "reedsolomonOrder", fn := fun _ => fun
  | [d] => { results := [.lit (.bool true)], args := [d] }
  | _ => none }
def reedsolomonOrderRow : OpenClaim := { program := "ytbogcgkeabkliac", sum := "f152a94a6149afa9a233c8ec11db9d6dc87d89795b73083ee9c86607e3cca110", func := "privity/privitylaw08.ReedsolomonOrder", spec := "reedsolomonOrder", inPlace := ["math/bits.Add64"], unfollowed := true, recurses := true, apart := false }
def ReedsolomonOrderSaid : Prop := reedsolomonOrderRow.holds Try.pinned (OpenSpec.ofChange reedsolomonOrderSpec)

/-- ITS FALSE NEIGHBOUR: 'it returns false'. Refute it at one input. -/
def reedsolomonOrderWrong : ChangeSpec := { name := "reedsolomonOrder", fn := fun _ => fun
  | [d] => { results := [.lit (.bool false)], args := [d] }
  | _ => none }
def ReedsolomonOrderWrongFalsely : Prop := reedsolomonOrderRow.holds Try.pinned (OpenSpec.ofChange reedsolomonOrderWrong)

/-- 'privitylaw08.ReedsolomonUnique': WHATEVER THE INPUT: true; the input reads as it did. -/
def reedsolomonUniqueSpec : ChangeSpec := { name := "reedsolomonUnique", fn := fun _ => fun
  | [d1, d2] => { results := [.lit (.bool true)], args := [d1, d2] }
  | _ => none }
def reedsolomonUniqueRow : OpenClaim := { program := "ytbogcgkeabkliac", sum := "f152a94a6149afa9a233c8ec11db9d6dc87d89795b73083ee9c86607e3cca110", func := "privity/privitylaw08.ReedsolomonUnique", spec := "reedsolomonUnique", inPlace := ["math/bits.Add64"], unfollowed := true, recurses := true, apart := false }
def ReedsolomonUniqueSaid : Prop := reedsolomonUniqueRow.holds Try.pinned (OpenSpec.ofChange reedsolomonUniqueSpec)

/-- ITS FALSE NEIGHBOUR: 'it returns false'. Refute it at one input. -/
def reedsolomonUniqueWrong : ChangeSpec := { name := "reedsolomonUnique", fn := fun _ => fun
  | [d1, d2] => { results := [.lit (.bool false)], args := [d1, d2] }
  | _ => none }
def ReedsolomonUniqueWrongFalsely : Prop := reedsolomonUniqueRow.holds Try.pinned (OpenSpec.ofChange reedsolomonUniqueWrong)

/-- 'privitylaw08.ReedsolomonErrorBound': WHATEVER THE INPUT: true; the input reads as it did. -/
def reedsolomonErrorBoundSpec : ChangeSpec := { name := "reedsolomonErrorBound", fn := fun _ => fun
  | [d] => { results := [.lit (.bool true)], args := [d] }
  | _ => none }
def reedsolomonErrorBoundRow : OpenClaim := { program := "ytbogcgkeabkliac", sum := "f152a94a6149afa9a233c8ec11db9d6dc87d89795b73083ee9c86607e3cca110", func := "privity/privitylaw08.ReedsolomonErrorBound", spec := "reedsolomonErrorBound", inPlace := ["math/bits.Add64"], unfollowed := true, recurses := true, apart := false }
def ReedsolomonErrorBoundSaid : Prop := reedsolomonErrorBoundRow.holds Try.pinned (OpenSpec.ofChange reedsolomonErrorBoundSpec)

/-- ITS FALSE NEIGHBOUR: 'it returns false'. Refute it at one input. -/
def reedsolomonErrorBoundWrong : ChangeSpec := { name := "reedsolomonErrorBound", fn := fun _ => fun
  | [d] => { results := [.lit (.bool false)], args := [d] }
  | _ => none }
def ReedsolomonErrorBoundWrongFalsely : Prop := reedsolomonErrorBoundRow.holds Try.pinned (OpenSpec.ofChange reedsolomonErrorBoundWrong)

/-- 'privitylaw08.ReedsolomonLinear': WHATEVER THE INPUT: true; the input reads as it did. -/
def reedsolomonLinearSpec : ChangeSpec := { name := "reedsolomonLinear", fn := fun _ => fun
  | [d1, d2] => { results := [.lit (.bool true)], args := [d1, d2] }
  | _ => none }
def reedsolomonLinearRow : OpenClaim := { program := "ytbogcgkeabkliac", sum := "f152a94a6149afa9a233c8ec11db9d6dc87d89795b73083ee9c86607e3cca110", func := "privity/privitylaw08.ReedsolomonLinear", spec := "reedsolomonLinear", inPlace := ["math/bits.Add64"], unfollowed := true, recurses := true, apart := false }
def ReedsolomonLinearSaid : Prop := reedsolomonLinearRow.holds Try.pinned (OpenSpec.ofChange reedsolomonLinearSpec)

/-- ITS FALSE NEIGHBOUR: 'it returns false'. Refute it at one input. -/
def reedsolomonLinearWrong : ChangeSpec := { name := "reedsolomonLinear", fn := fun _ => fun
  | [d1, d2] => { results := [.lit (.bool false)], args := [d1, d2] }
  | _ => none }
def ReedsolomonLinearWrongFalsely : Prop := reedsolomonLinearRow.holds Try.pinned (OpenSpec.ofChange reedsolomonLinearWrong)

/- THE SECOND FORM. 'bulk': how many values and letters a reading holds, each counted each time it is reached (what is shared counts as often as it is met; a slice's spare places count too). A statement '..UptoSaid' is the law's where the arguments, and the package variables that the reading takes, are together of bulk at most 1048576: NARROWER than '..Said'. Prove '..Said' where nothing that the law and all that it calls make is longer than what came in: it says more and counts as full. Else prove '..UptoSaid'. A law counts once. -/
mutual
def uptoBulk {H : Type} : DataW H → Nat
  | .lit (.string bytes) => bytes.length + 1
  | .lit _ => 1
  | .nil => 1
  | .ptr d => uptoBulk d + 1
  | .slice elems spare => uptoBulkAll elems + uptoBulkAll spare + 1
  | .agg parts => uptoBulkAll parts + 1
  | .iface _ d => uptoBulk d + 1
  | .map entries => uptoBulkEntries entries + 1
  | .held _ => 1
def uptoBulkAll {H : Type} : List (DataW H) → Nat
  | [] => 0
  | d :: r => uptoBulk d + uptoBulkAll r
def uptoBulkEntries {H : Type} : List (Lit × DataW H) → Nat
  | [] => 0
  | x :: r => uptoBulkEntry x + uptoBulkEntries r
def uptoBulkEntry {H : Type} : Lit × DataW H → Nat
  | (.string bytes, d) => bytes.length + uptoBulk d + 1
  | (_, d) => uptoBulk d + 1
 end
def uptoSmall : (H : Type) → List (DataW H) → Bool := fun _ ds => decide (uptoBulkAll ds ≤ 1048576)
def OpenSpec.upto (s : _root_.Go.ChangeSpec) : _root_.Go.OpenSpec := { _root_.Go.OpenSpec.ofChange s with cond := some uptoSmall }

/-- 'privitylaw08.ReedsolomonOrder', WHERE WHAT IT READS IS OF BULK AT MOST 1048576: true; the input reads as it did. -/
def reedsolomonOrderUptoRow : OpenClaim := { program := "ytbogcgkeabkliac", sum := "f152a94a6149afa9a233c8ec11db9d6dc87d89795b73083ee9c86607e3cca110", func := "privity/privitylaw08.ReedsolomonOrder", spec := "reedsolomonOrder", inPlace := ["math/bits.Add64"], unfollowed := true, recurses := true, apart := false, narrowed := true }
def ReedsolomonOrderUptoSaid : Prop := reedsolomonOrderUptoRow.holds Try.pinned (OpenSpec.upto reedsolomonOrderSpec)

/-- 'privitylaw08.ReedsolomonUnique', WHERE WHAT IT READS IS OF BULK AT MOST 1048576: true; the input reads as it did. -/
def reedsolomonUniqueUptoRow : OpenClaim := { program := "ytbogcgkeabkliac", sum := "f152a94a6149afa9a233c8ec11db9d6dc87d89795b73083ee9c86607e3cca110", func := "privity/privitylaw08.ReedsolomonUnique", spec := "reedsolomonUnique", inPlace := ["math/bits.Add64"], unfollowed := true, recurses := true, apart := false, narrowed := true }
def ReedsolomonUniqueUptoSaid : Prop := reedsolomonUniqueUptoRow.holds Try.pinned (OpenSpec.upto reedsolomonUniqueSpec)

/-- 'privitylaw08.ReedsolomonErrorBound', WHERE WHAT IT READS IS OF BULK AT MOST 1048576: true; the input reads as it did. -/
def reedsolomonErrorBoundUptoRow : OpenClaim := { program := "ytbogcgkeabkliac", sum := "f152a94a6149afa9a233c8ec11db9d6dc87d89795b73083ee9c86607e3cca110", func := "privity/privitylaw08.ReedsolomonErrorBound", spec := "reedsolomonErrorBound", inPlace := ["math/bits.Add64"], unfollowed := true, recurses := true, apart := false, narrowed := true }
def ReedsolomonErrorBoundUptoSaid : Prop := reedsolomonErrorBoundUptoRow.holds Try.pinned (OpenSpec.upto reedsolomonErrorBoundSpec)

/-- 'privitylaw08.ReedsolomonLinear', WHERE WHAT IT READS IS OF BULK AT MOST 1048576: true; the input reads as it did. -/
def reedsolomonLinearUptoRow : OpenClaim := { program := "ytbogcgkeabkliac", sum := "f152a94a6149afa9a233c8ec11db9d6dc87d89795b73083ee9c86607e3cca110", func := "privity/privitylaw08.ReedsolomonLinear", spec := "reedsolomonLinear", inPlace := ["math/bits.Add64"], unfollowed := true, recurses := true, apart := false, narrowed := true }
def ReedsolomonLinearUptoSaid : Prop := reedsolomonLinearUptoRow.holds Try.pinned (OpenSpec.upto reedsolomonLinearSpec)

end Rows
end Go.Proofs.Ytbogcgkeabkliac
