/-
  DERIVED. GIVEN WITH THE SEED: THE CARDS: each row of YtmjddpeookapaaaGreatDoorRows.lean that lists a variable, with what it lists TIED to the program's text (the seventh form; the later family's looks); each row that meets fmt, with fmt's text TOLD by the authors' own Lean function (tested against real Go, not proved from fmt's source: count such statements apart). THE CARD IS WHAT COUNTS. Prove the row's statement (the work); the ties are given (YtmjddpeookapaaaGreatDoorTie.lean); close each card by the builder's one call (the guide's Derived/Test/ToyasCard.lean, 'card_holds'). Laid BY PROGRAM, IN A SANDBOX (cutbox-door.mjs). By AI agents, Wed Nov 11 2026. No macro, syntax, notation, axiom, sorry.
-/
import Derived.Test.YtmjddpeookapaaaGreatDoorRows
import GoSem.ClaimSeven
namespace Go.Proofs.YtmjddpeookapaaaGreatDoor
namespace Rows

/-- THE TIED CARD OF 'configlanglaw19.ConcreteHidden'. -/
def concreteHiddenCard : Claim7 := { stood := { row := concreteHiddenRow, standIns := [], harness := (true, "3d4776159d98c9beb6318ad3bc05b47fbb0afd04b906d083174e9f96de752e95"), looks := false }, kinds := [], alts := [], laidByText := true, laidKinds := [.data, .data, .data], laidTests := true, laidLooks := .later }
def ConcreteHiddenCardSaid : Prop := Claim7.holds Tryz.pinned (.plain (OpenSpec.ofChange concreteHiddenSpec)) concreteHiddenCard

/-- THE SECOND FORM's CARD OF 'configlanglaw19.ConcreteHidden'. -/
def concreteHiddenUptoCard : Claim7 := { stood := { row := concreteHiddenUptoRow, standIns := [], harness := (true, "3d4776159d98c9beb6318ad3bc05b47fbb0afd04b906d083174e9f96de752e95"), looks := false }, kinds := [], alts := [], laidByText := true, laidKinds := [.data, .data, .data], laidTests := true, laidLooks := .later }
def ConcreteHiddenUptoCardSaid : Prop := Claim7.holds Tryz.pinned (.plain (OpenSpec.upto concreteHiddenSpec)) concreteHiddenUptoCard
end Rows
end Go.Proofs.YtmjddpeookapaaaGreatDoor
