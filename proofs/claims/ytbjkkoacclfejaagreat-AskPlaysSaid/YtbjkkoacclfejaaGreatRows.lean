/-
  No cell of these rows narrows 'for every input' (looked for: loops, veiled, ifaces, maps, wideKeys, modest, calm, conditions, laid).
  DERIVED. THE GIVEN ROWS OF THIS SEAT. 4 by the template 'for every input the law returns true; each argument reads behind the call as it read before'; 0 by the template 'total and deterministic' (their statements: YtbjkkoacclfejaaGreatTotals.lean).
  GIVEN WITH THE SEED: the statements are not yours to turn. If you find one false, say at which input.
  Laid BY PROGRAM, IN A SANDBOX (cutbox-rows.mjs): the forced cells as the released guide's own fill.sh prints them over the translation 8a36afb9a4d9e628… (all of the seat's roots in one cut). By AI agents, Wed Nov 11 2026. No macro, syntax, notation, axiom, sorry.
-/
import Derived.Test.YtbjkkoacclfejaaGreatChecked
import GoSem.Claim
import GoSem.ClaimJoined
import GoSem.ClaimMapViews
import Derived.JoinedTies
import Derived.KernelRfl
namespace Go.Proofs.YtbjkkoacclfejaaGreat
/- THE CELL 'sum', in the pinned program and in every row, IS THE sha256 OF THE DUMP (.gsa) THAT YtbjkkoacclfejaaGreatProg.lean LOADS. Nothing in Lean hashes anything: it is a label: what it is worth is what the hold of that sum in a sandbox is worth. -/
noncomputable def Tryz.pinned : Pinned := { name := "ytbjkkoacclfejaagreat", sum := "8a36afb9a4d9e628426a5ad6795507a89caf8c4e4f0f2aca964680f766dce951", checked := Tryz.checked }
namespace Rows
def none {H : Type} : Left H := { results := [], args := [] }

/-- 'hustingslaw26.AskEnds': WHATEVER THE INPUT: true; the input reads as it did. -/
def askEndsSpec : ChangeSpec := { name := "askEnds", fn := fun _ => fun
  | [d1, d2] => { results := [.lit (.bool true)], args := [d1, d2] }
  | _ => none }
def askEndsRow : OpenClaim := { program := "ytbjkkoacclfejaagreat", sum := "8a36afb9a4d9e628426a5ad6795507a89caf8c4e4f0f2aca964680f766dce951", func := "hustings/hustingslaw26.AskEnds", spec := "askEnds", unfollowed := true, recurses := true, apart := false }
def AskEndsSaid : Prop := askEndsRow.holds Tryz.pinned (OpenSpec.ofChange askEndsSpec)

/-- ITS FALSE NEIGHBOUR: 'it returns false'. Refute it at one input. -/
def askEndsWrong : ChangeSpec := { name := "askEnds", fn := fun _ => fun
  | [d1, d2] => { results := [.lit (.bool false)], args := [d1, d2] }
  | _ => none }
def AskEndsWrongFalsely : Prop := askEndsRow.holds Tryz.pinned (OpenSpec.ofChange askEndsWrong)

/-- 'hustingslaw26.AskBelieved': WHATEVER THE INPUT: true; the input reads as it did. -/
def askBelievedSpec : ChangeSpec := { name := "askBelieved", fn := fun _ => fun
  | [d1, d2] => { results := [.lit (.bool true)], args := [d1, d2] }
  | _ => none }
def askBelievedRow : OpenClaim := { program := "ytbjkkoacclfejaagreat", sum := "8a36afb9a4d9e628426a5ad6795507a89caf8c4e4f0f2aca964680f766dce951", func := "hustings/hustingslaw26.AskBelieved", spec := "askBelieved", unfollowed := true, recurses := true, apart := false }
def AskBelievedSaid : Prop := askBelievedRow.holds Tryz.pinned (OpenSpec.ofChange askBelievedSpec)

/-- ITS FALSE NEIGHBOUR: 'it returns false'. Refute it at one input. -/
def askBelievedWrong : ChangeSpec := { name := "askBelieved", fn := fun _ => fun
  | [d1, d2] => { results := [.lit (.bool false)], args := [d1, d2] }
  | _ => none }
def AskBelievedWrongFalsely : Prop := askBelievedRow.holds Tryz.pinned (OpenSpec.ofChange askBelievedWrong)

/-- 'hustingslaw26.AskApart': WHATEVER THE INPUT: true; the input reads as it did. -/
def askApartSpec : ChangeSpec := { name := "askApart", fn := fun _ => fun
  | [d1, d2, d3] => { results := [.lit (.bool true)], args := [d1, d2, d3] }
  | _ => none }
def askApartRow : OpenClaim := { program := "ytbjkkoacclfejaagreat", sum := "8a36afb9a4d9e628426a5ad6795507a89caf8c4e4f0f2aca964680f766dce951", func := "hustings/hustingslaw26.AskApart", spec := "askApart", unfollowed := true, recurses := true, apart := false }
def AskApartSaid : Prop := askApartRow.holds Tryz.pinned (OpenSpec.ofChange askApartSpec)

/-- ITS FALSE NEIGHBOUR: 'it returns false'. Refute it at one input. -/
def askApartWrong : ChangeSpec := { name := "askApart", fn := fun _ => fun
  | [d1, d2, d3] => { results := [.lit (.bool false)], args := [d1, d2, d3] }
  | _ => none }
def AskApartWrongFalsely : Prop := askApartRow.holds Tryz.pinned (OpenSpec.ofChange askApartWrong)

/-- 'hustingslaw26.AskPlays': WHATEVER THE INPUT: true; the input reads as it did. -/
def askPlaysSpec : ChangeSpec := { name := "askPlays", fn := fun _ => fun
  | [d1, d2] => { results := [.lit (.bool true)], args := [d1, d2] }
  | _ => none }
def askPlaysRow : OpenClaim := { program := "ytbjkkoacclfejaagreat", sum := "8a36afb9a4d9e628426a5ad6795507a89caf8c4e4f0f2aca964680f766dce951", func := "hustings/hustingslaw26.AskPlays", spec := "askPlays", unfollowed := true, recurses := true, apart := false }
def AskPlaysSaid : Prop := askPlaysRow.holds Tryz.pinned (OpenSpec.ofChange askPlaysSpec)

/-- ITS FALSE NEIGHBOUR: 'it returns false'. Refute it at one input. -/
def askPlaysWrong : ChangeSpec := { name := "askPlays", fn := fun _ => fun
  | [d1, d2] => { results := [.lit (.bool false)], args := [d1, d2] }
  | _ => none }
def AskPlaysWrongFalsely : Prop := askPlaysRow.holds Tryz.pinned (OpenSpec.ofChange askPlaysWrong)

/- THE SECOND FORM. 'bulk': how many values and letters a reading holds, each counted each time it is reached (what is shared counts as often as it is met; a slice's spare places count too). A statement '..UptoSaid' is the law's where the arguments, and the package variables that the reading takes, are together of bulk at most 1048576: NARROWER than '..Said'. Prove '..Said' where nothing that the law and all that it calls make is longer than what came in: it says more and counts as full. Else prove '..UptoSaid'. A law counts once. -/
mutual
def uptoBulk {H : Type} : DataW H → Nat
  | .lit (.string bytes) => bytes.length + 1
  | .lit _ => 1
  | .nil => 1
  | .ptr d => uptoBulk d + 1
  | .slice elems spare => uptoBulkAll elems + uptoBulkAll spare + 1
  | .agg parts => uptoBulkAll parts + 1
  | .iface _ d => uptoBulk d + 1
  | .map entries => uptoBulkEntries entries + 1
  | .held _ => 1
def uptoBulkAll {H : Type} : List (DataW H) → Nat
  | [] => 0
  | d :: r => uptoBulk d + uptoBulkAll r
def uptoBulkEntries {H : Type} : List (Lit × DataW H) → Nat
  | [] => 0
  | x :: r => uptoBulkEntry x + uptoBulkEntries r
def uptoBulkEntry {H : Type} : Lit × DataW H → Nat
  | (.string bytes, d) => bytes.length + uptoBulk d + 1
  | (_, d) => uptoBulk d + 1
 end
def uptoSmall : (H : Type) → List (DataW H) → Bool := fun _ ds => decide (uptoBulkAll ds ≤ 1048576)
def OpenSpec.upto (s : _root_.Go.ChangeSpec) : _root_.Go.OpenSpec := { _root_.Go.OpenSpec.ofChange s with cond := some uptoSmall }

/-- 'hustingslaw26.AskEnds', WHERE WHAT IT READS IS OF BULK AT MOST 1048576: true; the input reads as it did. -/
def askEndsUptoRow : OpenClaim := { program := "ytbjkkoacclfejaagreat", sum := "8a36afb9a4d9e628426a5ad6795507a89caf8c4e4f0f2aca964680f766dce951", func := "hustings/hustingslaw26.AskEnds", spec := "askEnds", unfollowed := true, recurses := true, apart := false, narrowed := true }
def AskEndsUptoSaid : Prop := askEndsUptoRow.holds Tryz.pinned (OpenSpec.upto askEndsSpec)

/-- 'hustingslaw26.AskBelieved', WHERE WHAT IT READS IS OF BULK AT MOST 1048576: true; the input reads as it did. -/
def askBelievedUptoRow : OpenClaim := { program := "ytbjkkoacclfejaagreat", sum := "8a36afb9a4d9e628426a5ad6795507a89caf8c4e4f0f2aca964680f766dce951", func := "hustings/hustingslaw26.AskBelieved", spec := "askBelieved", unfollowed := true, recurses := true, apart := false, narrowed := true }
def AskBelievedUptoSaid : Prop := askBelievedUptoRow.holds Tryz.pinned (OpenSpec.upto askBelievedSpec)

/-- 'hustingslaw26.AskApart', WHERE WHAT IT READS IS OF BULK AT MOST 1048576: true; the input reads as it did. -/
def askApartUptoRow : OpenClaim := { program := "ytbjkkoacclfejaagreat", sum := "8a36afb9a4d9e628426a5ad6795507a89caf8c4e4f0f2aca964680f766dce951", func := "hustings/hustingslaw26.AskApart", spec := "askApart", unfollowed := true, recurses := true, apart := false, narrowed := true }
def AskApartUptoSaid : Prop := askApartUptoRow.holds Tryz.pinned (OpenSpec.upto askApartSpec)

/-- 'hustingslaw26.AskPlays', WHERE WHAT IT READS IS OF BULK AT MOST 1048576: true; the input reads as it did. -/
def askPlaysUptoRow : OpenClaim := { program := "ytbjkkoacclfejaagreat", sum := "8a36afb9a4d9e628426a5ad6795507a89caf8c4e4f0f2aca964680f766dce951", func := "hustings/hustingslaw26.AskPlays", spec := "askPlays", unfollowed := true, recurses := true, apart := false, narrowed := true }
def AskPlaysUptoSaid : Prop := askPlaysUptoRow.holds Tryz.pinned (OpenSpec.upto askPlaysSpec)

end Rows
end Go.Proofs.YtbjkkoacclfejaaGreat
