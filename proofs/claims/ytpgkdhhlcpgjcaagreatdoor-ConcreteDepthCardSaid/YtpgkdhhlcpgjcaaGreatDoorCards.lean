/-
  DERIVED. GIVEN WITH THE SEED: THE CARDS: each row of YtpgkdhhlcpgjcaaGreatDoorRows.lean that lists a variable, with what it lists TIED to the program's text (the seventh form; the later family's looks); each row that meets fmt, with fmt's text TOLD by the authors' own Lean function (tested against real Go, not proved from fmt's source: count such statements apart). THE CARD IS WHAT COUNTS. Prove the row's statement (the work); the ties are given (YtpgkdhhlcpgjcaaGreatDoorTie.lean); close each card by the builder's one call (the guide's Derived/Test/ToyasCard.lean, 'card_holds'). Laid BY PROGRAM, IN A SANDBOX (cutbox-door.mjs). By AI agents, Wed Nov 11 2026. No macro, syntax, notation, axiom, sorry.
-/
import Derived.Test.YtpgkdhhlcpgjcaaGreatDoorRows
import GoSem.ClaimSeven
namespace Go.Proofs.YtpgkdhhlcpgjcaaGreatDoor
namespace Rows

/-- THE TIED CARD OF 'configlanglaw19.ConcreteDepth'. -/
def concreteDepthCard : Claim7 := { stood := { row := concreteDepthRow, standIns := [], harness := (true, "687f4e09917d3d4ad9103fdd683f220f108079c5f1bfc41487bd01a2980e1357"), looks := false }, kinds := [], alts := [], laidByText := true, laidKinds := [.data, .data, .data], laidTests := true, laidLooks := .later }
def ConcreteDepthCardSaid : Prop := Claim7.holds Tryz.pinned (.plain (OpenSpec.ofChange concreteDepthSpec)) concreteDepthCard

/-- THE SECOND FORM's CARD OF 'configlanglaw19.ConcreteDepth'. -/
def concreteDepthUptoCard : Claim7 := { stood := { row := concreteDepthUptoRow, standIns := [], harness := (true, "687f4e09917d3d4ad9103fdd683f220f108079c5f1bfc41487bd01a2980e1357"), looks := false }, kinds := [], alts := [], laidByText := true, laidKinds := [.data, .data, .data], laidTests := true, laidLooks := .later }
def ConcreteDepthUptoCardSaid : Prop := Claim7.holds Tryz.pinned (.plain (OpenSpec.upto concreteDepthSpec)) concreteDepthUptoCard
end Rows
end Go.Proofs.YtpgkdhhlcpgjcaaGreatDoor
