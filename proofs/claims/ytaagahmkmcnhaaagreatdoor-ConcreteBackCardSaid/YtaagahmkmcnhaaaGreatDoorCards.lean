/-
  DERIVED. GIVEN WITH THE SEED: THE CARDS: each row of YtaagahmkmcnhaaaGreatDoorRows.lean that lists a variable, with what it lists TIED to the program's text (the seventh form; the later family's looks); each row that meets fmt, with fmt's text TOLD by the authors' own Lean function (tested against real Go, not proved from fmt's source: count such statements apart). THE CARD IS WHAT COUNTS. Prove the row's statement (the work); the ties are given (YtaagahmkmcnhaaaGreatDoorTie.lean); close each card by the builder's one call (the guide's Derived/Test/ToyasCard.lean, 'card_holds'). Laid BY PROGRAM, IN A SANDBOX (cutbox-door.mjs). By AI agents, Wed Nov 11 2026. No macro, syntax, notation, axiom, sorry.
-/
import Derived.Test.YtaagahmkmcnhaaaGreatDoorRows
import GoSem.ClaimSeven
namespace Go.Proofs.YtaagahmkmcnhaaaGreatDoor
namespace Rows

/-- THE TIED CARD OF 'configlanglaw19.ConcreteBack'. -/
def concreteBackCard : Claim7 := { stood := { row := concreteBackRow, standIns := [], harness := (true, "1c33f425a6094ac6da5ce19a5a74aa60557596bdfeabb2a94fe93017057b3873"), looks := false }, kinds := [], alts := [], laidByText := true, laidKinds := [.data, .data, .data], laidTests := true, laidLooks := .later }
def ConcreteBackCardSaid : Prop := Claim7.holds Tryz.pinned (.plain (OpenSpec.ofChange concreteBackSpec)) concreteBackCard

/-- THE TIED CARD OF 'configlanglaw19.ConcreteOnly'. -/
def concreteOnlyCard : Claim7 := { stood := { row := concreteOnlyRow, standIns := [], harness := (true, "1c33f425a6094ac6da5ce19a5a74aa60557596bdfeabb2a94fe93017057b3873"), looks := false }, kinds := [], alts := [], laidByText := true, laidKinds := [.data, .data, .data], laidTests := true, laidLooks := .later }
def ConcreteOnlyCardSaid : Prop := Claim7.holds Tryz.pinned (.plain (OpenSpec.ofChange concreteOnlySpec)) concreteOnlyCard

/-- THE SECOND FORM's CARD OF 'configlanglaw19.ConcreteBack'. -/
def concreteBackUptoCard : Claim7 := { stood := { row := concreteBackUptoRow, standIns := [], harness := (true, "1c33f425a6094ac6da5ce19a5a74aa60557596bdfeabb2a94fe93017057b3873"), looks := false }, kinds := [], alts := [], laidByText := true, laidKinds := [.data, .data, .data], laidTests := true, laidLooks := .later }
def ConcreteBackUptoCardSaid : Prop := Claim7.holds Tryz.pinned (.plain (OpenSpec.upto concreteBackSpec)) concreteBackUptoCard

/-- THE SECOND FORM's CARD OF 'configlanglaw19.ConcreteOnly'. -/
def concreteOnlyUptoCard : Claim7 := { stood := { row := concreteOnlyUptoRow, standIns := [], harness := (true, "1c33f425a6094ac6da5ce19a5a74aa60557596bdfeabb2a94fe93017057b3873"), looks := false }, kinds := [], alts := [], laidByText := true, laidKinds := [.data, .data, .data], laidTests := true, laidLooks := .later }
def ConcreteOnlyUptoCardSaid : Prop := Claim7.holds Tryz.pinned (.plain (OpenSpec.upto concreteOnlySpec)) concreteOnlyUptoCard
end Rows
end Go.Proofs.YtaagahmkmcnhaaaGreatDoor
