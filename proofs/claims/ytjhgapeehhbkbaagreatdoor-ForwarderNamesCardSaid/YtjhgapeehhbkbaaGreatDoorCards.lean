/-
  DERIVED. GIVEN WITH THE SEED: THE CARDS: each row of YtjhgapeehhbkbaaGreatDoorRows.lean that lists a variable, with what it lists TIED to the program's text (the seventh form; the later family's looks); each row that meets fmt, with fmt's text TOLD by the authors' own Lean function (tested against real Go, not proved from fmt's source: count such statements apart). THE CARD IS WHAT COUNTS. Prove the row's statement (the work); the ties are given (YtjhgapeehhbkbaaGreatDoorTie.lean); close each card by the builder's one call (the guide's Derived/Test/ToyasCard.lean, 'card_holds'). Laid BY PROGRAM, IN A SANDBOX (cutbox-door.mjs). By AI agents, Wed Nov 11 2026. No macro, syntax, notation, axiom, sorry.
-/
import Derived.Test.YtjhgapeehhbkbaaGreatDoorRows
import GoSem.ClaimSeven
namespace Go.Proofs.YtjhgapeehhbkbaaGreatDoor
namespace Rows

/-- THE TIED CARD OF 'hustingslaw31.ForwarderNames'. -/
def forwarderNamesCard : Claim7 := { stood := { row := forwarderNamesRow, standIns := [], harness := (true, "1e0b8df10956c3a6f678e20ade21f11d33bba9c1ecd22b6835c51856e584ee59"), looks := true }, kinds := [], alts := [], laidByText := true, laidKinds := [.handle, .data, .sentinel, .sentinel], laidTests := true, laidLooks := .later }
def ForwarderNamesCardSaid : Prop := Claim7.holds Tryz.pinned (.plain (OpenSpec.ofChange forwarderNamesSpec)) forwarderNamesCard

/-- THE SECOND FORM's CARD OF 'hustingslaw31.ForwarderNames'. -/
def forwarderNamesUptoCard : Claim7 := { stood := { row := forwarderNamesUptoRow, standIns := [], harness := (true, "1e0b8df10956c3a6f678e20ade21f11d33bba9c1ecd22b6835c51856e584ee59"), looks := true }, kinds := [], alts := [], laidByText := true, laidKinds := [.handle, .data, .sentinel, .sentinel], laidTests := true, laidLooks := .later }
def ForwarderNamesUptoCardSaid : Prop := Claim7.holds Tryz.pinned (.plain (OpenSpec.upto forwarderNamesSpec)) forwarderNamesUptoCard
end Rows
end Go.Proofs.YtjhgapeehhbkbaaGreatDoor
