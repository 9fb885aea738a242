/-
  DERIVED. GIVEN WITH THE SEED: THE CARDS: each row of YtjpaichcaaacbaaDoorRows.lean that lists a variable, with what it lists TIED to the program's text (the seventh form; the later family's looks); each row that meets fmt, with fmt's text TOLD by the authors' own Lean function (tested against real Go, not proved from fmt's source: count such statements apart). THE CARD IS WHAT COUNTS. Prove the row's statement (the work); the ties are given (YtjpaichcaaacbaaDoorTie.lean); close each card by the builder's one call (the guide's Derived/Test/ToyasCard.lean, 'card_holds'). Laid BY PROGRAM, IN A SANDBOX (cutbox-door.mjs). By AI agents, Wed Nov 11 2026. No macro, syntax, notation, axiom, sorry.
-/
import Derived.Test.YtjpaichcaaacbaaDoorRows
import GoSem.ClaimSeven
namespace Go.Proofs.YtjpaichcaaacbaaDoor
namespace Rows

/-- THE TIED CARD OF 'privitylaw33.CleartextEvaluate'. -/
def cleartextEvaluateCard : Claim7 := { stood := { row := cleartextEvaluateRow, standIns := [], harness := (true, "396a56fa252a3f2b9252fa6f1989720b8dd2e77bc58852331b695c3b4ab77db3"), looks := false }, kinds := [], alts := [], laidByText := true, laidKinds := [.data, .data, .funcs], laidTests := true, laidLooks := .later }
def CleartextEvaluateCardSaid : Prop := Claim7.holds Tryd.pinned (.plain (OpenSpec.ofChange cleartextEvaluateSpec)) cleartextEvaluateCard

/-- THE TIED CARD OF 'privitylaw33.CleartextGateEquations'. -/
def cleartextGateEquationsCard : Claim7 := { stood := { row := cleartextGateEquationsRow, standIns := [], harness := (true, "396a56fa252a3f2b9252fa6f1989720b8dd2e77bc58852331b695c3b4ab77db3"), looks := false }, kinds := [], alts := [], laidByText := true, laidKinds := [.data, .data, .funcs], laidTests := true, laidLooks := .later }
def CleartextGateEquationsCardSaid : Prop := Claim7.holds Tryd.pinned (.plain (OpenSpec.ofChange cleartextGateEquationsSpec)) cleartextGateEquationsCard

/-- THE TIED CARD OF 'privitylaw33.CleartextPrefix'. -/
def cleartextPrefixCard : Claim7 := { stood := { row := cleartextPrefixRow, standIns := [], harness := (true, "396a56fa252a3f2b9252fa6f1989720b8dd2e77bc58852331b695c3b4ab77db3"), looks := false }, kinds := [], alts := [], laidByText := true, laidKinds := [.data, .data, .funcs], laidTests := true, laidLooks := .later }
def CleartextPrefixCardSaid : Prop := Claim7.holds Tryd.pinned (.plain (OpenSpec.ofChange cleartextPrefixSpec)) cleartextPrefixCard

/-- THE TIED CARD OF 'privitylaw33.CleartextInvalidBit'. -/
def cleartextInvalidBitCard : Claim7 := { stood := { row := cleartextInvalidBitRow, standIns := [], harness := (true, "396a56fa252a3f2b9252fa6f1989720b8dd2e77bc58852331b695c3b4ab77db3"), looks := false }, kinds := [], alts := [], laidByText := true, laidKinds := [.data, .data, .funcs], laidTests := true, laidLooks := .later }
def CleartextInvalidBitCardSaid : Prop := Claim7.holds Tryd.pinned (.plain (OpenSpec.ofChange cleartextInvalidBitSpec)) cleartextInvalidBitCard

/-- THE TIED CARD OF 'privitylaw33.CleartextAffine'. -/
def cleartextAffineCard : Claim7 := { stood := { row := cleartextAffineRow, standIns := [], harness := (true, "396a56fa252a3f2b9252fa6f1989720b8dd2e77bc58852331b695c3b4ab77db3"), looks := false }, kinds := [], alts := [], laidByText := true, laidKinds := [.data, .data, .funcs], laidTests := true, laidLooks := .later }
def CleartextAffineCardSaid : Prop := Claim7.holds Tryd.pinned (.plain (OpenSpec.ofChange cleartextAffineSpec)) cleartextAffineCard

/-- THE TIED CARD OF 'privitylaw33.CleartextOutputs'. -/
def cleartextOutputsCard : Claim7 := { stood := { row := cleartextOutputsRow, standIns := [], harness := (true, "396a56fa252a3f2b9252fa6f1989720b8dd2e77bc58852331b695c3b4ab77db3"), looks := false }, kinds := [], alts := [], laidByText := true, laidKinds := [.data, .data, .funcs], laidTests := true, laidLooks := .later }
def CleartextOutputsCardSaid : Prop := Claim7.holds Tryd.pinned (.plain (OpenSpec.ofChange cleartextOutputsSpec)) cleartextOutputsCard

/-- THE TIED CARD OF 'privitylaw33.CleartextRelabel'. -/
def cleartextRelabelCard : Claim7 := { stood := { row := cleartextRelabelRow, standIns := [], harness := (true, "396a56fa252a3f2b9252fa6f1989720b8dd2e77bc58852331b695c3b4ab77db3"), looks := false }, kinds := [], alts := [], laidByText := true, laidKinds := [.data, .data, .funcs], laidTests := true, laidLooks := .later }
def CleartextRelabelCardSaid : Prop := Claim7.holds Tryd.pinned (.plain (OpenSpec.ofChange cleartextRelabelSpec)) cleartextRelabelCard

/-- THE TIED CARD OF 'privitylaw36.OptimizeResult'. -/
def optimizeResultCard : Claim7 := { stood := { row := optimizeResultRow, standIns := [], harness := (true, "396a56fa252a3f2b9252fa6f1989720b8dd2e77bc58852331b695c3b4ab77db3"), looks := false }, kinds := [], alts := [], laidByText := true, laidKinds := [.data, .data], laidTests := true, laidLooks := .later }
def OptimizeResultCardSaid : Prop := Claim7.holds Tryd.pinned (.plain (OpenSpec.ofChange optimizeResultSpec)) optimizeResultCard

/-- THE TIED CARD OF 'privitylaw36.OptimizeCertificateValid'. -/
def optimizeCertificateValidCard : Claim7 := { stood := { row := optimizeCertificateValidRow, standIns := [], harness := (true, "396a56fa252a3f2b9252fa6f1989720b8dd2e77bc58852331b695c3b4ab77db3"), looks := false }, kinds := [], alts := [], laidByText := true, laidKinds := [.data, .data], laidTests := true, laidLooks := .later }
def OptimizeCertificateValidCardSaid : Prop := Claim7.holds Tryd.pinned (.plain (OpenSpec.ofChange optimizeCertificateValidSpec)) optimizeCertificateValidCard

/-- THE TIED CARD OF 'privitylaw36.OptimizeCheckCertificate'. -/
def optimizeCheckCertificateCard : Claim7 := { stood := { row := optimizeCheckCertificateRow, standIns := [], harness := (true, "396a56fa252a3f2b9252fa6f1989720b8dd2e77bc58852331b695c3b4ab77db3"), looks := false }, kinds := [], alts := [], laidByText := true, laidKinds := [.data, .data], laidTests := true, laidLooks := .later }
def OptimizeCheckCertificateCardSaid : Prop := Claim7.holds Tryd.pinned (.plain (OpenSpec.ofChange optimizeCheckCertificateSpec)) optimizeCheckCertificateCard

/-- THE TIED CARD OF 'privitylaw36.OptimizeIdempotent'. -/
def optimizeIdempotentCard : Claim7 := { stood := { row := optimizeIdempotentRow, standIns := [], harness := (true, "396a56fa252a3f2b9252fa6f1989720b8dd2e77bc58852331b695c3b4ab77db3"), looks := false }, kinds := [], alts := [], laidByText := true, laidKinds := [.data, .data], laidTests := true, laidLooks := .later }
def OptimizeIdempotentCardSaid : Prop := Claim7.holds Tryd.pinned (.plain (OpenSpec.ofChange optimizeIdempotentSpec)) optimizeIdempotentCard

/-- THE TIED CARD OF 'privitylaw36.OptimizeDuplicates'. -/
def optimizeDuplicatesCard : Claim7 := { stood := { row := optimizeDuplicatesRow, standIns := [], harness := (true, "396a56fa252a3f2b9252fa6f1989720b8dd2e77bc58852331b695c3b4ab77db3"), looks := false }, kinds := [], alts := [], laidByText := true, laidKinds := [.data, .data], laidTests := true, laidLooks := .later }
def OptimizeDuplicatesCardSaid : Prop := Claim7.holds Tryd.pinned (.plain (OpenSpec.ofChange optimizeDuplicatesSpec)) optimizeDuplicatesCard

/-- THE SECOND FORM's CARD OF 'privitylaw33.CleartextEvaluate'. -/
def cleartextEvaluateUptoCard : Claim7 := { stood := { row := cleartextEvaluateUptoRow, standIns := [], harness := (true, "396a56fa252a3f2b9252fa6f1989720b8dd2e77bc58852331b695c3b4ab77db3"), looks := false }, kinds := [], alts := [], laidByText := true, laidKinds := [.data, .data, .funcs], laidTests := true, laidLooks := .later }
def CleartextEvaluateUptoCardSaid : Prop := Claim7.holds Tryd.pinned (.plain (OpenSpec.upto cleartextEvaluateSpec)) cleartextEvaluateUptoCard

/-- THE SECOND FORM's CARD OF 'privitylaw33.CleartextGateEquations'. -/
def cleartextGateEquationsUptoCard : Claim7 := { stood := { row := cleartextGateEquationsUptoRow, standIns := [], harness := (true, "396a56fa252a3f2b9252fa6f1989720b8dd2e77bc58852331b695c3b4ab77db3"), looks := false }, kinds := [], alts := [], laidByText := true, laidKinds := [.data, .data, .funcs], laidTests := true, laidLooks := .later }
def CleartextGateEquationsUptoCardSaid : Prop := Claim7.holds Tryd.pinned (.plain (OpenSpec.upto cleartextGateEquationsSpec)) cleartextGateEquationsUptoCard

/-- THE SECOND FORM's CARD OF 'privitylaw33.CleartextPrefix'. -/
def cleartextPrefixUptoCard : Claim7 := { stood := { row := cleartextPrefixUptoRow, standIns := [], harness := (true, "396a56fa252a3f2b9252fa6f1989720b8dd2e77bc58852331b695c3b4ab77db3"), looks := false }, kinds := [], alts := [], laidByText := true, laidKinds := [.data, .data, .funcs], laidTests := true, laidLooks := .later }
def CleartextPrefixUptoCardSaid : Prop := Claim7.holds Tryd.pinned (.plain (OpenSpec.upto cleartextPrefixSpec)) cleartextPrefixUptoCard

/-- THE SECOND FORM's CARD OF 'privitylaw33.CleartextInvalidBit'. -/
def cleartextInvalidBitUptoCard : Claim7 := { stood := { row := cleartextInvalidBitUptoRow, standIns := [], harness := (true, "396a56fa252a3f2b9252fa6f1989720b8dd2e77bc58852331b695c3b4ab77db3"), looks := false }, kinds := [], alts := [], laidByText := true, laidKinds := [.data, .data, .funcs], laidTests := true, laidLooks := .later }
def CleartextInvalidBitUptoCardSaid : Prop := Claim7.holds Tryd.pinned (.plain (OpenSpec.upto cleartextInvalidBitSpec)) cleartextInvalidBitUptoCard

/-- THE SECOND FORM's CARD OF 'privitylaw33.CleartextAffine'. -/
def cleartextAffineUptoCard : Claim7 := { stood := { row := cleartextAffineUptoRow, standIns := [], harness := (true, "396a56fa252a3f2b9252fa6f1989720b8dd2e77bc58852331b695c3b4ab77db3"), looks := false }, kinds := [], alts := [], laidByText := true, laidKinds := [.data, .data, .funcs], laidTests := true, laidLooks := .later }
def CleartextAffineUptoCardSaid : Prop := Claim7.holds Tryd.pinned (.plain (OpenSpec.upto cleartextAffineSpec)) cleartextAffineUptoCard

/-- THE SECOND FORM's CARD OF 'privitylaw33.CleartextOutputs'. -/
def cleartextOutputsUptoCard : Claim7 := { stood := { row := cleartextOutputsUptoRow, standIns := [], harness := (true, "396a56fa252a3f2b9252fa6f1989720b8dd2e77bc58852331b695c3b4ab77db3"), looks := false }, kinds := [], alts := [], laidByText := true, laidKinds := [.data, .data, .funcs], laidTests := true, laidLooks := .later }
def CleartextOutputsUptoCardSaid : Prop := Claim7.holds Tryd.pinned (.plain (OpenSpec.upto cleartextOutputsSpec)) cleartextOutputsUptoCard

/-- THE SECOND FORM's CARD OF 'privitylaw33.CleartextRelabel'. -/
def cleartextRelabelUptoCard : Claim7 := { stood := { row := cleartextRelabelUptoRow, standIns := [], harness := (true, "396a56fa252a3f2b9252fa6f1989720b8dd2e77bc58852331b695c3b4ab77db3"), looks := false }, kinds := [], alts := [], laidByText := true, laidKinds := [.data, .data, .funcs], laidTests := true, laidLooks := .later }
def CleartextRelabelUptoCardSaid : Prop := Claim7.holds Tryd.pinned (.plain (OpenSpec.upto cleartextRelabelSpec)) cleartextRelabelUptoCard

/-- THE SECOND FORM's CARD OF 'privitylaw36.OptimizeResult'. -/
def optimizeResultUptoCard : Claim7 := { stood := { row := optimizeResultUptoRow, standIns := [], harness := (true, "396a56fa252a3f2b9252fa6f1989720b8dd2e77bc58852331b695c3b4ab77db3"), looks := false }, kinds := [], alts := [], laidByText := true, laidKinds := [.data, .data], laidTests := true, laidLooks := .later }
def OptimizeResultUptoCardSaid : Prop := Claim7.holds Tryd.pinned (.plain (OpenSpec.upto optimizeResultSpec)) optimizeResultUptoCard

/-- THE SECOND FORM's CARD OF 'privitylaw36.OptimizeCertificateValid'. -/
def optimizeCertificateValidUptoCard : Claim7 := { stood := { row := optimizeCertificateValidUptoRow, standIns := [], harness := (true, "396a56fa252a3f2b9252fa6f1989720b8dd2e77bc58852331b695c3b4ab77db3"), looks := false }, kinds := [], alts := [], laidByText := true, laidKinds := [.data, .data], laidTests := true, laidLooks := .later }
def OptimizeCertificateValidUptoCardSaid : Prop := Claim7.holds Tryd.pinned (.plain (OpenSpec.upto optimizeCertificateValidSpec)) optimizeCertificateValidUptoCard

/-- THE SECOND FORM's CARD OF 'privitylaw36.OptimizeCheckCertificate'. -/
def optimizeCheckCertificateUptoCard : Claim7 := { stood := { row := optimizeCheckCertificateUptoRow, standIns := [], harness := (true, "396a56fa252a3f2b9252fa6f1989720b8dd2e77bc58852331b695c3b4ab77db3"), looks := false }, kinds := [], alts := [], laidByText := true, laidKinds := [.data, .data], laidTests := true, laidLooks := .later }
def OptimizeCheckCertificateUptoCardSaid : Prop := Claim7.holds Tryd.pinned (.plain (OpenSpec.upto optimizeCheckCertificateSpec)) optimizeCheckCertificateUptoCard

/-- THE SECOND FORM's CARD OF 'privitylaw36.OptimizeIdempotent'. -/
def optimizeIdempotentUptoCard : Claim7 := { stood := { row := optimizeIdempotentUptoRow, standIns := [], harness := (true, "396a56fa252a3f2b9252fa6f1989720b8dd2e77bc58852331b695c3b4ab77db3"), looks := false }, kinds := [], alts := [], laidByText := true, laidKinds := [.data, .data], laidTests := true, laidLooks := .later }
def OptimizeIdempotentUptoCardSaid : Prop := Claim7.holds Tryd.pinned (.plain (OpenSpec.upto optimizeIdempotentSpec)) optimizeIdempotentUptoCard

/-- THE SECOND FORM's CARD OF 'privitylaw36.OptimizeDuplicates'. -/
def optimizeDuplicatesUptoCard : Claim7 := { stood := { row := optimizeDuplicatesUptoRow, standIns := [], harness := (true, "396a56fa252a3f2b9252fa6f1989720b8dd2e77bc58852331b695c3b4ab77db3"), looks := false }, kinds := [], alts := [], laidByText := true, laidKinds := [.data, .data], laidTests := true, laidLooks := .later }
def OptimizeDuplicatesUptoCardSaid : Prop := Claim7.holds Tryd.pinned (.plain (OpenSpec.upto optimizeDuplicatesSpec)) optimizeDuplicatesUptoCard
end Rows
end Go.Proofs.YtjpaichcaaacbaaDoor
