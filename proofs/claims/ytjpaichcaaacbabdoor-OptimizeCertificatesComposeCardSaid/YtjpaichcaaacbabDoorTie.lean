/-
  DERIVED. GIVEN WITH THE SEED: THE PROGRAM's TIES (one call each: nine closed facts by the kernel) AND EACH ROW's TIE, after the 31st guide's Derived/Test/Toyas{Tie, Card}.lean. No idea stands in it: it is a product of the set-up. Laid BY PROGRAM, IN A SANDBOX (cutbox-door.mjs). By AI agents, Wed Nov 11 2026. No macro, syntax, notation, axiom, sorry.
-/
import Derived.Test.YtjpaichcaaacbabDoorRows
import Derived.LaidByTextLater
import Derived.SevenTiedAt
import Derived.LaidSub
import Derived.LaidOnce
namespace Go.Proofs.YtjpaichcaaacbabDoor
open Go
set_option maxRecDepth 100000
theorem seatTie1 : Tryd.prog.laidByTextLater [("privity/field.exps", Rows.laid_privity_field_exps), ("privity/circuit.forms", Rows.laid_privity_circuit_forms), ("privity/cleartext.gates", Rows.laid_privity_cleartext_gates)] [.data, .data, .funcs] true :=
  Program.laidByTextLater_by_one 31 8 50 (by kernel_rfl) (by kernel_rfl) (by kernel_rfl) (by kernel_rfl) (by kernel_rfl) (by kernel_rfl) (fun _ _ => by kernel_rfl)
theorem noOwnUnsafe : Tryd.pinned.checked.prog.headLifts.contains "ownunsafe" = false := by kernel_rfl
theorem tie : Tryd.prog.laidByTextLater [("privity/field.exps", Rows.laid_privity_field_exps), ("privity/circuit.forms", Rows.laid_privity_circuit_forms)] [.data, .data] true :=
  Program.laidByTextLater.sub seatTie1 ["privity/field.exps", "privity/circuit.forms"] (by kernel_rfl) (by kernel_rfl)
theorem optimizeCertificatesCompose_row_tie : Rows.optimizeCertificatesComposeRow.laidByTextAt .later Tryd.pinned [.data, .data] true :=
  OpenClaim.laidByTextAt_later rfl rfl tie noOwnUnsafe
theorem tie2 : Tryd.prog.laidByTextLater [("privity/field.exps", Rows.laid_privity_field_exps), ("privity/circuit.forms", Rows.laid_privity_circuit_forms), ("privity/cleartext.gates", Rows.laid_privity_cleartext_gates)] [.data, .data, .funcs] true :=
  Program.laidByTextLater.sub seatTie1 ["privity/field.exps", "privity/circuit.forms", "privity/cleartext.gates"] (by kernel_rfl) (by kernel_rfl)
theorem optimizeEquivalent_row_tie : Rows.optimizeEquivalentRow.laidByTextAt .later Tryd.pinned [.data, .data, .funcs] true :=
  OpenClaim.laidByTextAt_later rfl rfl tie2 noOwnUnsafe
theorem optimizeCertificateSound_row_tie : Rows.optimizeCertificateSoundRow.laidByTextAt .later Tryd.pinned [.data, .data, .funcs] true :=
  OpenClaim.laidByTextAt_later rfl rfl tie2 noOwnUnsafe
theorem optimizeCertificatesComposeUpto_row_tie : Rows.optimizeCertificatesComposeUptoRow.laidByTextAt .later Tryd.pinned [.data, .data] true :=
  OpenClaim.laidByTextAt_later rfl rfl tie noOwnUnsafe
theorem optimizeEquivalentUpto_row_tie : Rows.optimizeEquivalentUptoRow.laidByTextAt .later Tryd.pinned [.data, .data, .funcs] true :=
  OpenClaim.laidByTextAt_later rfl rfl tie2 noOwnUnsafe
theorem optimizeCertificateSoundUpto_row_tie : Rows.optimizeCertificateSoundUptoRow.laidByTextAt .later Tryd.pinned [.data, .data, .funcs] true :=
  OpenClaim.laidByTextAt_later rfl rfl tie2 noOwnUnsafe
end Go.Proofs.YtjpaichcaaacbabDoor
