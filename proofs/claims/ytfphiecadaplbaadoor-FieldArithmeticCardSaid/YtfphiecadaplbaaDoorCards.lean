/-
  DERIVED. GIVEN WITH THE SEED: THE CARDS: each row of YtfphiecadaplbaaDoorRows.lean that lists a variable, with what it lists TIED to the program's text (the seventh form; the later family's looks); each row that meets fmt, with fmt's text TOLD by the authors' own Lean function (tested against real Go, not proved from fmt's source: count such statements apart). THE CARD IS WHAT COUNTS. Prove the row's statement (the work); the ties are given (YtfphiecadaplbaaDoorTie.lean); close each card by the builder's one call (the guide's Derived/Test/ToyasCard.lean, 'card_holds'). Laid BY PROGRAM, IN A SANDBOX (cutbox-door.mjs). By AI agents, Wed Nov 11 2026. No macro, syntax, notation, axiom, sorry.
-/
import Derived.Test.YtfphiecadaplbaaDoorRows
import GoSem.ClaimSeven
namespace Go.Proofs.YtfphiecadaplbaaDoor
namespace Rows

/-- THE TIED CARD OF 'privitylaw01.FieldSupported'. -/
def fieldSupportedCard : Claim7 := { stood := { row := fieldSupportedRow, standIns := [], harness := (true, "0c19a3152500ff0da6886cf034b625609d174ccc5de7949eee7415f269ca2567"), looks := false }, kinds := [], alts := [], laidByText := true, laidKinds := [.data], laidTests := true, laidLooks := .later }
def FieldSupportedCardSaid : Prop := Claim7.holds Tryd.pinned (.plain (OpenSpec.ofChange fieldSupportedSpec)) fieldSupportedCard

/-- THE TIED CARD OF 'privitylaw01.FieldPowers'. -/
def fieldPowersCard : Claim7 := { stood := { row := fieldPowersRow, standIns := [], harness := (true, "0c19a3152500ff0da6886cf034b625609d174ccc5de7949eee7415f269ca2567"), looks := false }, kinds := [], alts := [], laidByText := true, laidKinds := [.data], laidTests := true, laidLooks := .later }
def FieldPowersCardSaid : Prop := Claim7.holds Tryd.pinned (.plain (OpenSpec.ofChange fieldPowersSpec)) fieldPowersCard

/-- THE TIED CARD OF 'privitylaw01.FieldSqrt'. -/
def fieldSqrtCard : Claim7 := { stood := { row := fieldSqrtRow, standIns := [], harness := (true, "0c19a3152500ff0da6886cf034b625609d174ccc5de7949eee7415f269ca2567"), looks := false }, kinds := [], alts := [], laidByText := true, laidKinds := [.data], laidTests := true, laidLooks := .later }
def FieldSqrtCardSaid : Prop := Claim7.holds Tryd.pinned (.plain (OpenSpec.ofChange fieldSqrtSpec)) fieldSqrtCard

/-- THE TIED CARD OF 'privitylaw01.FieldSquares'. -/
def fieldSquaresCard : Claim7 := { stood := { row := fieldSquaresRow, standIns := [], harness := (true, "0c19a3152500ff0da6886cf034b625609d174ccc5de7949eee7415f269ca2567"), looks := false }, kinds := [], alts := [], laidByText := true, laidKinds := [.data], laidTests := true, laidLooks := .later }
def FieldSquaresCardSaid : Prop := Claim7.holds Tryd.pinned (.plain (OpenSpec.ofChange fieldSquaresSpec)) fieldSquaresCard

/-- THE TIED CARD OF 'privitylaw01.FieldSqrtProduct'. -/
def fieldSqrtProductCard : Claim7 := { stood := { row := fieldSqrtProductRow, standIns := [], harness := (true, "0c19a3152500ff0da6886cf034b625609d174ccc5de7949eee7415f269ca2567"), looks := false }, kinds := [], alts := [], laidByText := true, laidKinds := [.data], laidTests := true, laidLooks := .later }
def FieldSqrtProductCardSaid : Prop := Claim7.holds Tryd.pinned (.plain (OpenSpec.ofChange fieldSqrtProductSpec)) fieldSqrtProductCard

/-- THE TIED CARD OF 'privitylaw01.FieldAxioms'. -/
def fieldAxiomsCard : Claim7 := { stood := { row := fieldAxiomsRow, standIns := [], harness := (true, "0c19a3152500ff0da6886cf034b625609d174ccc5de7949eee7415f269ca2567"), looks := false }, kinds := [], alts := [], laidByText := true, laidKinds := [.data], laidTests := true, laidLooks := .later }
def FieldAxiomsCardSaid : Prop := Claim7.holds Tryd.pinned (.plain (OpenSpec.ofChange fieldAxiomsSpec)) fieldAxiomsCard

/-- THE TIED CARD OF 'privitylaw01.FieldArithmetic'. -/
def fieldArithmeticCard : Claim7 := { stood := { row := fieldArithmeticRow, standIns := [], harness := (true, "0c19a3152500ff0da6886cf034b625609d174ccc5de7949eee7415f269ca2567"), looks := false }, kinds := [], alts := [], laidByText := true, laidKinds := [.data], laidTests := true, laidLooks := .later }
def FieldArithmeticCardSaid : Prop := Claim7.holds Tryd.pinned (.plain (OpenSpec.ofChange fieldArithmeticSpec)) fieldArithmeticCard

/-- THE SECOND FORM's CARD OF 'privitylaw01.FieldSupported'. -/
def fieldSupportedUptoCard : Claim7 := { stood := { row := fieldSupportedUptoRow, standIns := [], harness := (true, "0c19a3152500ff0da6886cf034b625609d174ccc5de7949eee7415f269ca2567"), looks := false }, kinds := [], alts := [], laidByText := true, laidKinds := [.data], laidTests := true, laidLooks := .later }
def FieldSupportedUptoCardSaid : Prop := Claim7.holds Tryd.pinned (.plain (OpenSpec.upto fieldSupportedSpec)) fieldSupportedUptoCard

/-- THE SECOND FORM's CARD OF 'privitylaw01.FieldPowers'. -/
def fieldPowersUptoCard : Claim7 := { stood := { row := fieldPowersUptoRow, standIns := [], harness := (true, "0c19a3152500ff0da6886cf034b625609d174ccc5de7949eee7415f269ca2567"), looks := false }, kinds := [], alts := [], laidByText := true, laidKinds := [.data], laidTests := true, laidLooks := .later }
def FieldPowersUptoCardSaid : Prop := Claim7.holds Tryd.pinned (.plain (OpenSpec.upto fieldPowersSpec)) fieldPowersUptoCard

/-- THE SECOND FORM's CARD OF 'privitylaw01.FieldSqrt'. -/
def fieldSqrtUptoCard : Claim7 := { stood := { row := fieldSqrtUptoRow, standIns := [], harness := (true, "0c19a3152500ff0da6886cf034b625609d174ccc5de7949eee7415f269ca2567"), looks := false }, kinds := [], alts := [], laidByText := true, laidKinds := [.data], laidTests := true, laidLooks := .later }
def FieldSqrtUptoCardSaid : Prop := Claim7.holds Tryd.pinned (.plain (OpenSpec.upto fieldSqrtSpec)) fieldSqrtUptoCard

/-- THE SECOND FORM's CARD OF 'privitylaw01.FieldSquares'. -/
def fieldSquaresUptoCard : Claim7 := { stood := { row := fieldSquaresUptoRow, standIns := [], harness := (true, "0c19a3152500ff0da6886cf034b625609d174ccc5de7949eee7415f269ca2567"), looks := false }, kinds := [], alts := [], laidByText := true, laidKinds := [.data], laidTests := true, laidLooks := .later }
def FieldSquaresUptoCardSaid : Prop := Claim7.holds Tryd.pinned (.plain (OpenSpec.upto fieldSquaresSpec)) fieldSquaresUptoCard

/-- THE SECOND FORM's CARD OF 'privitylaw01.FieldSqrtProduct'. -/
def fieldSqrtProductUptoCard : Claim7 := { stood := { row := fieldSqrtProductUptoRow, standIns := [], harness := (true, "0c19a3152500ff0da6886cf034b625609d174ccc5de7949eee7415f269ca2567"), looks := false }, kinds := [], alts := [], laidByText := true, laidKinds := [.data], laidTests := true, laidLooks := .later }
def FieldSqrtProductUptoCardSaid : Prop := Claim7.holds Tryd.pinned (.plain (OpenSpec.upto fieldSqrtProductSpec)) fieldSqrtProductUptoCard

/-- THE SECOND FORM's CARD OF 'privitylaw01.FieldAxioms'. -/
def fieldAxiomsUptoCard : Claim7 := { stood := { row := fieldAxiomsUptoRow, standIns := [], harness := (true, "0c19a3152500ff0da6886cf034b625609d174ccc5de7949eee7415f269ca2567"), looks := false }, kinds := [], alts := [], laidByText := true, laidKinds := [.data], laidTests := true, laidLooks := .later }
def FieldAxiomsUptoCardSaid : Prop := Claim7.holds Tryd.pinned (.plain (OpenSpec.upto fieldAxiomsSpec)) fieldAxiomsUptoCard

/-- THE SECOND FORM's CARD OF 'privitylaw01.FieldArithmetic'. -/
def fieldArithmeticUptoCard : Claim7 := { stood := { row := fieldArithmeticUptoRow, standIns := [], harness := (true, "0c19a3152500ff0da6886cf034b625609d174ccc5de7949eee7415f269ca2567"), looks := false }, kinds := [], alts := [], laidByText := true, laidKinds := [.data], laidTests := true, laidLooks := .later }
def FieldArithmeticUptoCardSaid : Prop := Claim7.holds Tryd.pinned (.plain (OpenSpec.upto fieldArithmeticSpec)) fieldArithmeticUptoCard
end Rows
end Go.Proofs.YtfphiecadaplbaaDoor
