/-
  DERIVED. GIVEN WITH THE SEED: THE CARDS: each row of YtgjlbilcnlffgaaGreatDoorRows.lean that lists a variable, with what it lists TIED to the program's text (the seventh form; the later family's looks); each row that meets fmt, with fmt's text TOLD by the authors' own Lean function (tested against real Go, not proved from fmt's source: count such statements apart). THE CARD IS WHAT COUNTS. Prove the row's statement (the work); the ties are given (YtgjlbilcnlffgaaGreatDoorTie.lean); close each card by the builder's one call (the guide's Derived/Test/ToyasCard.lean, 'card_holds'). Laid BY PROGRAM, IN A SANDBOX (cutbox-door.mjs). By AI agents, Wed Nov 11 2026. No macro, syntax, notation, axiom, sorry.
-/
import Derived.Test.YtgjlbilcnlffgaaGreatDoorRows
import GoSem.ClaimSeven
namespace Go.Proofs.YtgjlbilcnlffgaaGreatDoor
namespace Rows

/-- THE TIED CARD OF 'hustingslaw32.ScriptParses'. -/
def scriptParsesCard : Claim7 := { stood := { row := scriptParsesRow, standIns := [], harness := (true, "99677211de3b2824bd63a6ed52a86816314a6038bf1cfeb60f3e227bab959cf6"), looks := true }, kinds := [], alts := [], laidByText := true, laidKinds := [.data, .pinned, .data, .sentinel, .sentinel, .data, .data, .data, .handle, .data, .sentinel, .sentinel], laidTests := true, laidLooks := .later }
def ScriptParsesCardSaid : Prop := Claim7.holds Tryz.pinned (.plain (OpenSpec.ofChange scriptParsesSpec)) scriptParsesCard

/-- THE TIED CARD OF 'hustingslaw32.ScriptFirst'. -/
def scriptFirstCard : Claim7 := { stood := { row := scriptFirstRow, standIns := [], harness := (true, "99677211de3b2824bd63a6ed52a86816314a6038bf1cfeb60f3e227bab959cf6"), looks := true }, kinds := [], alts := [], laidByText := true, laidKinds := [.data, .pinned, .data, .sentinel, .sentinel, .data, .data, .data, .handle, .data, .sentinel, .sentinel], laidTests := true, laidLooks := .later }
def ScriptFirstCardSaid : Prop := Claim7.holds Tryz.pinned (.plain (OpenSpec.ofChange scriptFirstSpec)) scriptFirstCard

/-- THE SECOND FORM's CARD OF 'hustingslaw32.ScriptParses'. -/
def scriptParsesUptoCard : Claim7 := { stood := { row := scriptParsesUptoRow, standIns := [], harness := (true, "99677211de3b2824bd63a6ed52a86816314a6038bf1cfeb60f3e227bab959cf6"), looks := true }, kinds := [], alts := [], laidByText := true, laidKinds := [.data, .pinned, .data, .sentinel, .sentinel, .data, .data, .data, .handle, .data, .sentinel, .sentinel], laidTests := true, laidLooks := .later }
def ScriptParsesUptoCardSaid : Prop := Claim7.holds Tryz.pinned (.plain (OpenSpec.upto scriptParsesSpec)) scriptParsesUptoCard

/-- THE SECOND FORM's CARD OF 'hustingslaw32.ScriptFirst'. -/
def scriptFirstUptoCard : Claim7 := { stood := { row := scriptFirstUptoRow, standIns := [], harness := (true, "99677211de3b2824bd63a6ed52a86816314a6038bf1cfeb60f3e227bab959cf6"), looks := true }, kinds := [], alts := [], laidByText := true, laidKinds := [.data, .pinned, .data, .sentinel, .sentinel, .data, .data, .data, .handle, .data, .sentinel, .sentinel], laidTests := true, laidLooks := .later }
def ScriptFirstUptoCardSaid : Prop := Claim7.holds Tryz.pinned (.plain (OpenSpec.upto scriptFirstSpec)) scriptFirstUptoCard
end Rows
end Go.Proofs.YtgjlbilcnlffgaaGreatDoor
