/-
  DERIVED. GIVEN WITH THE SEED: THE CARDS: each row of YtcejopopgcglpaaGreatDoorRows.lean that lists a variable, with what it lists TIED to the program's text (the seventh form; the later family's looks); each row that meets fmt, with fmt's text TOLD by the authors' own Lean function (tested against real Go, not proved from fmt's source: count such statements apart). THE CARD IS WHAT COUNTS. Prove the row's statement (the work); the ties are given (YtcejopopgcglpaaGreatDoorTie.lean); close each card by the builder's one call (the guide's Derived/Test/ToyasCard.lean, 'card_holds'). Laid BY PROGRAM, IN A SANDBOX (cutbox-door.mjs). By AI agents, Wed Nov 11 2026. No macro, syntax, notation, axiom, sorry.
-/
import Derived.Test.YtcejopopgcglpaaGreatDoorRows
import GoSem.ClaimSeven
namespace Go.Proofs.YtcejopopgcglpaaGreatDoor
namespace Rows

/-- THE TIED CARD OF 'configlanglaw19.ConcreteWithin'. -/
def concreteWithinCard : Claim7 := { stood := { row := concreteWithinRow, standIns := [], harness := (true, "fcc905fb2f512297e09dfa39787935d7536a8f95088843398c449a0cb09c5d91"), looks := false }, kinds := [], alts := [], laidByText := true, laidKinds := [.data, .data, .data], laidTests := true, laidLooks := .later }
def ConcreteWithinCardSaid : Prop := Claim7.holds Tryz.pinned (.plain (OpenSpec.ofChange concreteWithinSpec)) concreteWithinCard

/-- THE SECOND FORM's CARD OF 'configlanglaw19.ConcreteWithin'. -/
def concreteWithinUptoCard : Claim7 := { stood := { row := concreteWithinUptoRow, standIns := [], harness := (true, "fcc905fb2f512297e09dfa39787935d7536a8f95088843398c449a0cb09c5d91"), looks := false }, kinds := [], alts := [], laidByText := true, laidKinds := [.data, .data, .data], laidTests := true, laidLooks := .later }
def ConcreteWithinUptoCardSaid : Prop := Claim7.holds Tryz.pinned (.plain (OpenSpec.upto concreteWithinSpec)) concreteWithinUptoCard
end Rows
end Go.Proofs.YtcejopopgcglpaaGreatDoor
