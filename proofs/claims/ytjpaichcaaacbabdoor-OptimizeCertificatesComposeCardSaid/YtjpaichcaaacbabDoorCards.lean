/-
  DERIVED. GIVEN WITH THE SEED: THE CARDS: each row of YtjpaichcaaacbabDoorRows.lean that lists a variable, with what it lists TIED to the program's text (the seventh form; the later family's looks); each row that meets fmt, with fmt's text TOLD by the authors' own Lean function (tested against real Go, not proved from fmt's source: count such statements apart). THE CARD IS WHAT COUNTS. Prove the row's statement (the work); the ties are given (YtjpaichcaaacbabDoorTie.lean); close each card by the builder's one call (the guide's Derived/Test/ToyasCard.lean, 'card_holds'). Laid BY PROGRAM, IN A SANDBOX (cutbox-door.mjs). By AI agents, Wed Nov 11 2026. No macro, syntax, notation, axiom, sorry.
-/
import Derived.Test.YtjpaichcaaacbabDoorRows
import GoSem.ClaimSeven
namespace Go.Proofs.YtjpaichcaaacbabDoor
namespace Rows

/-- THE TIED CARD OF 'privitylaw36.OptimizeCertificatesCompose'. -/
def optimizeCertificatesComposeCard : Claim7 := { stood := { row := optimizeCertificatesComposeRow, standIns := [], harness := (true, "04b8a9f2f52751b34b368de9fa0b65d7d4a8620c725f6d4a1d4123bb096f63b6"), looks := false }, kinds := [], alts := [], laidByText := true, laidKinds := [.data, .data], laidTests := true, laidLooks := .later }
def OptimizeCertificatesComposeCardSaid : Prop := Claim7.holds Tryd.pinned (.plain (OpenSpec.ofChange optimizeCertificatesComposeSpec)) optimizeCertificatesComposeCard

/-- THE TIED CARD OF 'privitylaw36.OptimizeEquivalent'. -/
def optimizeEquivalentCard : Claim7 := { stood := { row := optimizeEquivalentRow, standIns := [], harness := (true, "04b8a9f2f52751b34b368de9fa0b65d7d4a8620c725f6d4a1d4123bb096f63b6"), looks := false }, kinds := [], alts := [], laidByText := true, laidKinds := [.data, .data, .funcs], laidTests := true, laidLooks := .later }
def OptimizeEquivalentCardSaid : Prop := Claim7.holds Tryd.pinned (.plain (OpenSpec.ofChange optimizeEquivalentSpec)) optimizeEquivalentCard

/-- THE TIED CARD OF 'privitylaw36.OptimizeCertificateSound'. -/
def optimizeCertificateSoundCard : Claim7 := { stood := { row := optimizeCertificateSoundRow, standIns := [], harness := (true, "04b8a9f2f52751b34b368de9fa0b65d7d4a8620c725f6d4a1d4123bb096f63b6"), looks := false }, kinds := [], alts := [], laidByText := true, laidKinds := [.data, .data, .funcs], laidTests := true, laidLooks := .later }
def OptimizeCertificateSoundCardSaid : Prop := Claim7.holds Tryd.pinned (.plain (OpenSpec.ofChange optimizeCertificateSoundSpec)) optimizeCertificateSoundCard

/-- THE SECOND FORM's CARD OF 'privitylaw36.OptimizeCertificatesCompose'. -/
def optimizeCertificatesComposeUptoCard : Claim7 := { stood := { row := optimizeCertificatesComposeUptoRow, standIns := [], harness := (true, "04b8a9f2f52751b34b368de9fa0b65d7d4a8620c725f6d4a1d4123bb096f63b6"), looks := false }, kinds := [], alts := [], laidByText := true, laidKinds := [.data, .data], laidTests := true, laidLooks := .later }
def OptimizeCertificatesComposeUptoCardSaid : Prop := Claim7.holds Tryd.pinned (.plain (OpenSpec.upto optimizeCertificatesComposeSpec)) optimizeCertificatesComposeUptoCard

/-- THE SECOND FORM's CARD OF 'privitylaw36.OptimizeEquivalent'. -/
def optimizeEquivalentUptoCard : Claim7 := { stood := { row := optimizeEquivalentUptoRow, standIns := [], harness := (true, "04b8a9f2f52751b34b368de9fa0b65d7d4a8620c725f6d4a1d4123bb096f63b6"), looks := false }, kinds := [], alts := [], laidByText := true, laidKinds := [.data, .data, .funcs], laidTests := true, laidLooks := .later }
def OptimizeEquivalentUptoCardSaid : Prop := Claim7.holds Tryd.pinned (.plain (OpenSpec.upto optimizeEquivalentSpec)) optimizeEquivalentUptoCard

/-- THE SECOND FORM's CARD OF 'privitylaw36.OptimizeCertificateSound'. -/
def optimizeCertificateSoundUptoCard : Claim7 := { stood := { row := optimizeCertificateSoundUptoRow, standIns := [], harness := (true, "04b8a9f2f52751b34b368de9fa0b65d7d4a8620c725f6d4a1d4123bb096f63b6"), looks := false }, kinds := [], alts := [], laidByText := true, laidKinds := [.data, .data, .funcs], laidTests := true, laidLooks := .later }
def OptimizeCertificateSoundUptoCardSaid : Prop := Claim7.holds Tryd.pinned (.plain (OpenSpec.upto optimizeCertificateSoundSpec)) optimizeCertificateSoundUptoCard
end Rows
end Go.Proofs.YtjpaichcaaacbabDoor
