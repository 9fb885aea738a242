/-
  DERIVED. GIVEN WITH THE SEED: THE PROGRAM's TIES (one call each: nine closed facts by the kernel) AND EACH ROW's TIE, after the 31st guide's Derived/Test/Toyas{Tie, Card}.lean. No idea stands in it: it is a product of the set-up. Laid BY PROGRAM, IN A SANDBOX (cutbox-door.mjs). By AI agents, Wed Nov 11 2026. No macro, syntax, notation, axiom, sorry.
-/
import Derived.Test.YtjpaichcaaacbaaDoorRows
import Derived.LaidByTextLater
import Derived.SevenTiedAt
import Derived.LaidSub
import Derived.LaidOnce
namespace Go.Proofs.YtjpaichcaaacbaaDoor
open Go
set_option maxRecDepth 100000
theorem seatTie1 : Tryd.prog.laidByTextLater [("privity/field.exps", Rows.laid_privity_field_exps), ("privity/circuit.forms", Rows.laid_privity_circuit_forms), ("privity/cleartext.gates", Rows.laid_privity_cleartext_gates)] [.data, .data, .funcs] true :=
  Program.laidByTextLater_by_one 31 8 50 (by kernel_rfl) (by kernel_rfl) (by kernel_rfl) (by kernel_rfl) (by kernel_rfl) (by kernel_rfl) (fun _ _ => by kernel_rfl)
theorem noOwnUnsafe : Tryd.pinned.checked.prog.headLifts.contains "ownunsafe" = false := by kernel_rfl
theorem tie : Tryd.prog.laidByTextLater [("privity/field.exps", Rows.laid_privity_field_exps), ("privity/circuit.forms", Rows.laid_privity_circuit_forms), ("privity/cleartext.gates", Rows.laid_privity_cleartext_gates)] [.data, .data, .funcs] true :=
  Program.laidByTextLater.sub seatTie1 ["privity/field.exps", "privity/circuit.forms", "privity/cleartext.gates"] (by kernel_rfl) (by kernel_rfl)
theorem cleartextEvaluate_row_tie : Rows.cleartextEvaluateRow.laidByTextAt .later Tryd.pinned [.data, .data, .funcs] true :=
  OpenClaim.laidByTextAt_later rfl rfl tie noOwnUnsafe
theorem cleartextGateEquations_row_tie : Rows.cleartextGateEquationsRow.laidByTextAt .later Tryd.pinned [.data, .data, .funcs] true :=
  OpenClaim.laidByTextAt_later rfl rfl tie noOwnUnsafe
theorem cleartextPrefix_row_tie : Rows.cleartextPrefixRow.laidByTextAt .later Tryd.pinned [.data, .data, .funcs] true :=
  OpenClaim.laidByTextAt_later rfl rfl tie noOwnUnsafe
theorem cleartextInvalidBit_row_tie : Rows.cleartextInvalidBitRow.laidByTextAt .later Tryd.pinned [.data, .data, .funcs] true :=
  OpenClaim.laidByTextAt_later rfl rfl tie noOwnUnsafe
theorem cleartextAffine_row_tie : Rows.cleartextAffineRow.laidByTextAt .later Tryd.pinned [.data, .data, .funcs] true :=
  OpenClaim.laidByTextAt_later rfl rfl tie noOwnUnsafe
theorem cleartextOutputs_row_tie : Rows.cleartextOutputsRow.laidByTextAt .later Tryd.pinned [.data, .data, .funcs] true :=
  OpenClaim.laidByTextAt_later rfl rfl tie noOwnUnsafe
theorem cleartextRelabel_row_tie : Rows.cleartextRelabelRow.laidByTextAt .later Tryd.pinned [.data, .data, .funcs] true :=
  OpenClaim.laidByTextAt_later rfl rfl tie noOwnUnsafe
theorem tie2 : Tryd.prog.laidByTextLater [("privity/field.exps", Rows.laid_privity_field_exps), ("privity/circuit.forms", Rows.laid_privity_circuit_forms)] [.data, .data] true :=
  Program.laidByTextLater.sub seatTie1 ["privity/field.exps", "privity/circuit.forms"] (by kernel_rfl) (by kernel_rfl)
theorem optimizeResult_row_tie : Rows.optimizeResultRow.laidByTextAt .later Tryd.pinned [.data, .data] true :=
  OpenClaim.laidByTextAt_later rfl rfl tie2 noOwnUnsafe
theorem optimizeCertificateValid_row_tie : Rows.optimizeCertificateValidRow.laidByTextAt .later Tryd.pinned [.data, .data] true :=
  OpenClaim.laidByTextAt_later rfl rfl tie2 noOwnUnsafe
theorem optimizeCheckCertificate_row_tie : Rows.optimizeCheckCertificateRow.laidByTextAt .later Tryd.pinned [.data, .data] true :=
  OpenClaim.laidByTextAt_later rfl rfl tie2 noOwnUnsafe
theorem optimizeIdempotent_row_tie : Rows.optimizeIdempotentRow.laidByTextAt .later Tryd.pinned [.data, .data] true :=
  OpenClaim.laidByTextAt_later rfl rfl tie2 noOwnUnsafe
theorem optimizeDuplicates_row_tie : Rows.optimizeDuplicatesRow.laidByTextAt .later Tryd.pinned [.data, .data] true :=
  OpenClaim.laidByTextAt_later rfl rfl tie2 noOwnUnsafe
theorem cleartextEvaluateUpto_row_tie : Rows.cleartextEvaluateUptoRow.laidByTextAt .later Tryd.pinned [.data, .data, .funcs] true :=
  OpenClaim.laidByTextAt_later rfl rfl tie noOwnUnsafe
theorem cleartextGateEquationsUpto_row_tie : Rows.cleartextGateEquationsUptoRow.laidByTextAt .later Tryd.pinned [.data, .data, .funcs] true :=
  OpenClaim.laidByTextAt_later rfl rfl tie noOwnUnsafe
theorem cleartextPrefixUpto_row_tie : Rows.cleartextPrefixUptoRow.laidByTextAt .later Tryd.pinned [.data, .data, .funcs] true :=
  OpenClaim.laidByTextAt_later rfl rfl tie noOwnUnsafe
theorem cleartextInvalidBitUpto_row_tie : Rows.cleartextInvalidBitUptoRow.laidByTextAt .later Tryd.pinned [.data, .data, .funcs] true :=
  OpenClaim.laidByTextAt_later rfl rfl tie noOwnUnsafe
theorem cleartextAffineUpto_row_tie : Rows.cleartextAffineUptoRow.laidByTextAt .later Tryd.pinned [.data, .data, .funcs] true :=
  OpenClaim.laidByTextAt_later rfl rfl tie noOwnUnsafe
theorem cleartextOutputsUpto_row_tie : Rows.cleartextOutputsUptoRow.laidByTextAt .later Tryd.pinned [.data, .data, .funcs] true :=
  OpenClaim.laidByTextAt_later rfl rfl tie noOwnUnsafe
theorem cleartextRelabelUpto_row_tie : Rows.cleartextRelabelUptoRow.laidByTextAt .later Tryd.pinned [.data, .data, .funcs] true :=
  OpenClaim.laidByTextAt_later rfl rfl tie noOwnUnsafe
theorem optimizeResultUpto_row_tie : Rows.optimizeResultUptoRow.laidByTextAt .later Tryd.pinned [.data, .data] true :=
  OpenClaim.laidByTextAt_later rfl rfl tie2 noOwnUnsafe
theorem optimizeCertificateValidUpto_row_tie : Rows.optimizeCertificateValidUptoRow.laidByTextAt .later Tryd.pinned [.data, .data] true :=
  OpenClaim.laidByTextAt_later rfl rfl tie2 noOwnUnsafe
theorem optimizeCheckCertificateUpto_row_tie : Rows.optimizeCheckCertificateUptoRow.laidByTextAt .later Tryd.pinned [.data, .data] true :=
  OpenClaim.laidByTextAt_later rfl rfl tie2 noOwnUnsafe
theorem optimizeIdempotentUpto_row_tie : Rows.optimizeIdempotentUptoRow.laidByTextAt .later Tryd.pinned [.data, .data] true :=
  OpenClaim.laidByTextAt_later rfl rfl tie2 noOwnUnsafe
theorem optimizeDuplicatesUpto_row_tie : Rows.optimizeDuplicatesUptoRow.laidByTextAt .later Tryd.pinned [.data, .data] true :=
  OpenClaim.laidByTextAt_later rfl rfl tie2 noOwnUnsafe
end Go.Proofs.YtjpaichcaaacbaaDoor
