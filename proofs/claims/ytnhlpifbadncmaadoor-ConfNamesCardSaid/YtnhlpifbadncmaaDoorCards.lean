/-
  DERIVED. GIVEN WITH THE SEED: THE CARDS: each row of YtnhlpifbadncmaaDoorRows.lean that lists a variable, with what it lists TIED to the program's text (the seventh form; the later family's looks); each row that meets fmt, with fmt's text TOLD by the authors' own Lean function (tested against real Go, not proved from fmt's source: count such statements apart). THE CARD IS WHAT COUNTS. Prove the row's statement (the work); the ties are given (YtnhlpifbadncmaaDoorTie.lean); close each card by the builder's one call (the guide's Derived/Test/ToyasCard.lean, 'card_holds'). Laid BY PROGRAM, IN A SANDBOX (cutbox-door.mjs). By AI agents, Wed Nov 11 2026. No macro, syntax, notation, axiom, sorry.
-/
import Derived.Test.YtnhlpifbadncmaaDoorRows
import GoSem.ClaimSeven
namespace Go.Proofs.YtnhlpifbadncmaaDoor
namespace Rows

/-- THE TIED CARD OF 'hustingslaw17.ConfNames'. -/
def confNamesCard : Claim7 := { stood := { row := confNamesRow, standIns := [], harness := (true, "16d16a45e781da53e723289ba2014d5e612d17d657f7f23c28cbbeae72588723"), looks := true }, kinds := [], alts := [], laidByText := true, laidKinds := [.data, .data, .data, .data, .data, .pinned], laidTests := true, laidLooks := .later }
def ConfNamesCardSaid : Prop := Claim7.holds Tryd.pinned (.plain (OpenSpec.ofChange confNamesSpec)) confNamesCard

/-- THE TIED CARD OF 'hustingslaw17.ConfShows'. -/
def confShowsCard : Claim7 := { stood := { row := confShowsRow, standIns := [], harness := (true, "16d16a45e781da53e723289ba2014d5e612d17d657f7f23c28cbbeae72588723"), looks := true }, kinds := [], alts := [], laidByText := true, laidKinds := [.data, .data, .data, .data, .data, .pinned], laidTests := true, laidLooks := .later }
def ConfShowsCardSaid : Prop := Claim7.holds Tryd.pinned (.plain (OpenSpec.ofChange confShowsSpec)) confShowsCard

/-- THE TIED CARD OF 'hustingslaw17.ConfReads'. -/
def confReadsCard : Claim7 := { stood := { row := confReadsRow, standIns := [], harness := (true, "16d16a45e781da53e723289ba2014d5e612d17d657f7f23c28cbbeae72588723"), looks := true }, kinds := [], alts := [], laidByText := true, laidKinds := [.data, .data, .data, .data, .data, .pinned], laidTests := true, laidLooks := .later }
def ConfReadsCardSaid : Prop := Claim7.holds Tryd.pinned (.plain (OpenSpec.ofChange confReadsSpec)) confReadsCard

/-- THE TIED CARD OF 'hustingslaw17.ConfBack'. -/
def confBackCard : Claim7 := { stood := { row := confBackRow, standIns := [], harness := (true, "16d16a45e781da53e723289ba2014d5e612d17d657f7f23c28cbbeae72588723"), looks := true }, kinds := [], alts := [], laidByText := true, laidKinds := [.data, .data, .data, .data, .data, .pinned], laidTests := true, laidLooks := .later }
def ConfBackCardSaid : Prop := Claim7.holds Tryd.pinned (.plain (OpenSpec.ofChange confBackSpec)) confBackCard

/-- THE TIED CARD OF 'hustingslaw17.ConfEnough'. -/
def confEnoughCard : Claim7 := { stood := { row := confEnoughRow, standIns := [], harness := (true, "16d16a45e781da53e723289ba2014d5e612d17d657f7f23c28cbbeae72588723"), looks := true }, kinds := [], alts := [], laidByText := true, laidKinds := [.data, .data, .data, .data, .data, .pinned], laidTests := true, laidLooks := .later }
def ConfEnoughCardSaid : Prop := Claim7.holds Tryd.pinned (.plain (OpenSpec.ofChange confEnoughSpec)) confEnoughCard

/-- THE TIED CARD OF 'hustingslaw17.ConfFirst'. -/
def confFirstCard : Claim7 := { stood := { row := confFirstRow, standIns := [], harness := (true, "16d16a45e781da53e723289ba2014d5e612d17d657f7f23c28cbbeae72588723"), looks := true }, kinds := [], alts := [], laidByText := true, laidKinds := [.data, .data, .data, .data, .data, .pinned], laidTests := true, laidLooks := .later }
def ConfFirstCardSaid : Prop := Claim7.holds Tryd.pinned (.plain (OpenSpec.ofChange confFirstSpec)) confFirstCard

/-- THE TIED CARD OF 'hustingslaw17.ConfRows'. -/
def confRowsCard : Claim7 := { stood := { row := confRowsRow, standIns := [], harness := (true, "16d16a45e781da53e723289ba2014d5e612d17d657f7f23c28cbbeae72588723"), looks := true }, kinds := [], alts := [], laidByText := true, laidKinds := [.data, .data, .data, .data, .data, .pinned], laidTests := true, laidLooks := .later }
def ConfRowsCardSaid : Prop := Claim7.holds Tryd.pinned (.plain (OpenSpec.ofChange confRowsSpec)) confRowsCard

/-- THE SECOND FORM's CARD OF 'hustingslaw17.ConfNames'. -/
def confNamesUptoCard : Claim7 := { stood := { row := confNamesUptoRow, standIns := [], harness := (true, "16d16a45e781da53e723289ba2014d5e612d17d657f7f23c28cbbeae72588723"), looks := true }, kinds := [], alts := [], laidByText := true, laidKinds := [.data, .data, .data, .data, .data, .pinned], laidTests := true, laidLooks := .later }
def ConfNamesUptoCardSaid : Prop := Claim7.holds Tryd.pinned (.plain (OpenSpec.upto confNamesSpec)) confNamesUptoCard

/-- THE SECOND FORM's CARD OF 'hustingslaw17.ConfShows'. -/
def confShowsUptoCard : Claim7 := { stood := { row := confShowsUptoRow, standIns := [], harness := (true, "16d16a45e781da53e723289ba2014d5e612d17d657f7f23c28cbbeae72588723"), looks := true }, kinds := [], alts := [], laidByText := true, laidKinds := [.data, .data, .data, .data, .data, .pinned], laidTests := true, laidLooks := .later }
def ConfShowsUptoCardSaid : Prop := Claim7.holds Tryd.pinned (.plain (OpenSpec.upto confShowsSpec)) confShowsUptoCard

/-- THE SECOND FORM's CARD OF 'hustingslaw17.ConfReads'. -/
def confReadsUptoCard : Claim7 := { stood := { row := confReadsUptoRow, standIns := [], harness := (true, "16d16a45e781da53e723289ba2014d5e612d17d657f7f23c28cbbeae72588723"), looks := true }, kinds := [], alts := [], laidByText := true, laidKinds := [.data, .data, .data, .data, .data, .pinned], laidTests := true, laidLooks := .later }
def ConfReadsUptoCardSaid : Prop := Claim7.holds Tryd.pinned (.plain (OpenSpec.upto confReadsSpec)) confReadsUptoCard

/-- THE SECOND FORM's CARD OF 'hustingslaw17.ConfBack'. -/
def confBackUptoCard : Claim7 := { stood := { row := confBackUptoRow, standIns := [], harness := (true, "16d16a45e781da53e723289ba2014d5e612d17d657f7f23c28cbbeae72588723"), looks := true }, kinds := [], alts := [], laidByText := true, laidKinds := [.data, .data, .data, .data, .data, .pinned], laidTests := true, laidLooks := .later }
def ConfBackUptoCardSaid : Prop := Claim7.holds Tryd.pinned (.plain (OpenSpec.upto confBackSpec)) confBackUptoCard

/-- THE SECOND FORM's CARD OF 'hustingslaw17.ConfEnough'. -/
def confEnoughUptoCard : Claim7 := { stood := { row := confEnoughUptoRow, standIns := [], harness := (true, "16d16a45e781da53e723289ba2014d5e612d17d657f7f23c28cbbeae72588723"), looks := true }, kinds := [], alts := [], laidByText := true, laidKinds := [.data, .data, .data, .data, .data, .pinned], laidTests := true, laidLooks := .later }
def ConfEnoughUptoCardSaid : Prop := Claim7.holds Tryd.pinned (.plain (OpenSpec.upto confEnoughSpec)) confEnoughUptoCard

/-- THE SECOND FORM's CARD OF 'hustingslaw17.ConfFirst'. -/
def confFirstUptoCard : Claim7 := { stood := { row := confFirstUptoRow, standIns := [], harness := (true, "16d16a45e781da53e723289ba2014d5e612d17d657f7f23c28cbbeae72588723"), looks := true }, kinds := [], alts := [], laidByText := true, laidKinds := [.data, .data, .data, .data, .data, .pinned], laidTests := true, laidLooks := .later }
def ConfFirstUptoCardSaid : Prop := Claim7.holds Tryd.pinned (.plain (OpenSpec.upto confFirstSpec)) confFirstUptoCard

/-- THE SECOND FORM's CARD OF 'hustingslaw17.ConfRows'. -/
def confRowsUptoCard : Claim7 := { stood := { row := confRowsUptoRow, standIns := [], harness := (true, "16d16a45e781da53e723289ba2014d5e612d17d657f7f23c28cbbeae72588723"), looks := true }, kinds := [], alts := [], laidByText := true, laidKinds := [.data, .data, .data, .data, .data, .pinned], laidTests := true, laidLooks := .later }
def ConfRowsUptoCardSaid : Prop := Claim7.holds Tryd.pinned (.plain (OpenSpec.upto confRowsSpec)) confRowsUptoCard
end Rows
end Go.Proofs.YtnhlpifbadncmaaDoor
