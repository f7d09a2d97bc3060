/-
  No cell of these rows narrows 'for every input' (looked for: loops, veiled, ifaces, maps, wideKeys, modest, calm, conditions, laid).
  DERIVED. THE GIVEN ROWS OF THIS SEAT. 11 by the template 'for every input the law returns true; each argument reads behind the call as it read before'; 0 by the template 'total and deterministic' (their statements: YtdflhdfapnhjjaaTotals.lean).
  GIVEN WITH THE SEED: the statements are not yours to turn. If you find one false, say at which input.
  Laid BY PROGRAM, IN A SANDBOX (cutbox-rows.mjs): the forced cells as the released guide's own fill.sh prints them over the translation ccf77f9835a3c694… (all of the seat's roots in one cut). By AI agents, Wed Nov 11 2026. No macro, syntax, notation, axiom, sorry.
-/
import Derived.Test.YtdflhdfapnhjjaaChecked
import GoSem.Claim
import GoSem.ClaimJoined
import GoSem.ClaimMapViews
import Derived.JoinedTies
import Derived.KernelRfl
namespace Go.Proofs.Ytdflhdfapnhjjaa
/- THE CELL 'sum', in the pinned program and in every row, IS THE sha256 OF THE DUMP (.gsa) THAT YtdflhdfapnhjjaaProg.lean LOADS. Nothing in Lean hashes anything: it is a label: what it is worth is what the hold of that sum in a sandbox is worth. -/
noncomputable def Try.pinned : Pinned := { name := "ytdflhdfapnhjjaa", sum := "ccf77f9835a3c6949085e5f74ddf431f822ada43faf4675686afda0a89331b0c", checked := Try.checked }
namespace Rows
def none {H : Type} : Left H := { results := [], args := [] }

/-- 'hustingslaw23.MergeNames': WHATEVER THE INPUT: true; the input reads as it did. -/
def mergeNamesSpec : ChangeSpec := { name := "mergeNames", fn := fun _ => fun
  | [] => { results := [.lit (.bool true)], args := [] }
  | _ => none }
def mergeNamesRow : OpenClaim := { program := "ytdflhdfapnhjjaa", sum := "ccf77f9835a3c6949085e5f74ddf431f822ada43faf4675686afda0a89331b0c", func := "hustings/hustingslaw23.MergeNames", spec := "mergeNames", unfollowed := true, recurses := true, apart := false }
def MergeNamesSaid : Prop := mergeNamesRow.holds Try.pinned (OpenSpec.ofChange mergeNamesSpec)

/-- ITS FALSE NEIGHBOUR: 'it returns false'. Refute it at one input. -/
def mergeNamesWrong : ChangeSpec := { name := "mergeNames", fn := fun _ => fun
  | [] => { results := [.lit (.bool false)], args := [] }
  | _ => none }
def MergeNamesWrongFalsely : Prop := mergeNamesRow.holds Try.pinned (OpenSpec.ofChange mergeNamesWrong)

/-- 'hustingslaw23.MergeTells': WHATEVER THE INPUT: true; the input reads as it did. -/
def mergeTellsSpec : ChangeSpec := { name := "mergeTells", fn := fun _ => fun
  | [d1, d2] => { results := [.lit (.bool true)], args := [d1, d2] }
  | _ => none }
def mergeTellsRow : OpenClaim := { program := "ytdflhdfapnhjjaa", sum := "ccf77f9835a3c6949085e5f74ddf431f822ada43faf4675686afda0a89331b0c", func := "hustings/hustingslaw23.MergeTells", spec := "mergeTells", unfollowed := true, recurses := true, apart := false }
def MergeTellsSaid : Prop := mergeTellsRow.holds Try.pinned (OpenSpec.ofChange mergeTellsSpec)

/-- ITS FALSE NEIGHBOUR: 'it returns false'. Refute it at one input. -/
def mergeTellsWrong : ChangeSpec := { name := "mergeTells", fn := fun _ => fun
  | [d1, d2] => { results := [.lit (.bool false)], args := [d1, d2] }
  | _ => none }
def MergeTellsWrongFalsely : Prop := mergeTellsRow.holds Try.pinned (OpenSpec.ofChange mergeTellsWrong)

/-- 'hustingslaw23.MergeAll': WHATEVER THE INPUT: true; the input reads as it did. -/
def mergeAllSpec : ChangeSpec := { name := "mergeAll", fn := fun _ => fun
  | [d1, d2] => { results := [.lit (.bool true)], args := [d1, d2] }
  | _ => none }
def mergeAllRow : OpenClaim := { program := "ytdflhdfapnhjjaa", sum := "ccf77f9835a3c6949085e5f74ddf431f822ada43faf4675686afda0a89331b0c", func := "hustings/hustingslaw23.MergeAll", spec := "mergeAll", unfollowed := true, recurses := true, apart := false }
def MergeAllSaid : Prop := mergeAllRow.holds Try.pinned (OpenSpec.ofChange mergeAllSpec)

/-- ITS FALSE NEIGHBOUR: 'it returns false'. Refute it at one input. -/
def mergeAllWrong : ChangeSpec := { name := "mergeAll", fn := fun _ => fun
  | [d1, d2] => { results := [.lit (.bool false)], args := [d1, d2] }
  | _ => none }
def MergeAllWrongFalsely : Prop := mergeAllRow.holds Try.pinned (OpenSpec.ofChange mergeAllWrong)

/-- 'hustingslaw23.MergeRow': WHATEVER THE INPUT: true; the input reads as it did. -/
def mergeRowSpec : ChangeSpec := { name := "mergeRow", fn := fun _ => fun
  | [d1, d2, d3] => { results := [.lit (.bool true)], args := [d1, d2, d3] }
  | _ => none }
def mergeRowRow : OpenClaim := { program := "ytdflhdfapnhjjaa", sum := "ccf77f9835a3c6949085e5f74ddf431f822ada43faf4675686afda0a89331b0c", func := "hustings/hustingslaw23.MergeRow", spec := "mergeRow", unfollowed := true, recurses := true, apart := false }
def MergeRowSaid : Prop := mergeRowRow.holds Try.pinned (OpenSpec.ofChange mergeRowSpec)

/-- ITS FALSE NEIGHBOUR: 'it returns false'. Refute it at one input. -/
def mergeRowWrong : ChangeSpec := { name := "mergeRow", fn := fun _ => fun
  | [d1, d2, d3] => { results := [.lit (.bool false)], args := [d1, d2, d3] }
  | _ => none }
def MergeRowWrongFalsely : Prop := mergeRowRow.holds Try.pinned (OpenSpec.ofChange mergeRowWrong)

/-- 'hustingslaw23.MergeAlike': WHATEVER THE INPUT: true; the input reads as it did. -/
def mergeAlikeSpec : ChangeSpec := { name := "mergeAlike", fn := fun _ => fun
  | [d1, d2, d3] => { results := [.lit (.bool true)], args := [d1, d2, d3] }
  | _ => none }
def mergeAlikeRow : OpenClaim := { program := "ytdflhdfapnhjjaa", sum := "ccf77f9835a3c6949085e5f74ddf431f822ada43faf4675686afda0a89331b0c", func := "hustings/hustingslaw23.MergeAlike", spec := "mergeAlike", unfollowed := true, recurses := true, apart := false }
def MergeAlikeSaid : Prop := mergeAlikeRow.holds Try.pinned (OpenSpec.ofChange mergeAlikeSpec)

/-- ITS FALSE NEIGHBOUR: 'it returns false'. Refute it at one input. -/
def mergeAlikeWrong : ChangeSpec := { name := "mergeAlike", fn := fun _ => fun
  | [d1, d2, d3] => { results := [.lit (.bool false)], args := [d1, d2, d3] }
  | _ => none }
def MergeAlikeWrongFalsely : Prop := mergeAlikeRow.holds Try.pinned (OpenSpec.ofChange mergeAlikeWrong)

/-- 'hustingslaw21.TallyOne': WHATEVER THE INPUT: true; the input reads as it did. -/
def tallyOneSpec : ChangeSpec := { name := "tallyOne", fn := fun _ => fun
  | [d1, d2, d3] => { results := [.lit (.bool true)], args := [d1, d2, d3] }
  | _ => none }
def tallyOneRow : OpenClaim := { program := "ytdflhdfapnhjjaa", sum := "ccf77f9835a3c6949085e5f74ddf431f822ada43faf4675686afda0a89331b0c", func := "hustings/hustingslaw21.TallyOne", spec := "tallyOne", unfollowed := true, recurses := true, apart := false }
def TallyOneSaid : Prop := tallyOneRow.holds Try.pinned (OpenSpec.ofChange tallyOneSpec)

/-- ITS FALSE NEIGHBOUR: 'it returns false'. Refute it at one input. -/
def tallyOneWrong : ChangeSpec := { name := "tallyOne", fn := fun _ => fun
  | [d1, d2, d3] => { results := [.lit (.bool false)], args := [d1, d2, d3] }
  | _ => none }
def TallyOneWrongFalsely : Prop := tallyOneRow.holds Try.pinned (OpenSpec.ofChange tallyOneWrong)

/-- 'hustingslaw21.TallyStays': WHATEVER THE INPUT: true; the input reads as it did. -/
def tallyStaysSpec : ChangeSpec := { name := "tallyStays", fn := fun _ => fun
  | [d1, d2, d3] => { results := [.lit (.bool true)], args := [d1, d2, d3] }
  | _ => none }
def tallyStaysRow : OpenClaim := { program := "ytdflhdfapnhjjaa", sum := "ccf77f9835a3c6949085e5f74ddf431f822ada43faf4675686afda0a89331b0c", func := "hustings/hustingslaw21.TallyStays", spec := "tallyStays", unfollowed := true, recurses := true, apart := false }
def TallyStaysSaid : Prop := tallyStaysRow.holds Try.pinned (OpenSpec.ofChange tallyStaysSpec)

/-- ITS FALSE NEIGHBOUR: 'it returns false'. Refute it at one input. -/
def tallyStaysWrong : ChangeSpec := { name := "tallyStays", fn := fun _ => fun
  | [d1, d2, d3] => { results := [.lit (.bool false)], args := [d1, d2, d3] }
  | _ => none }
def TallyStaysWrongFalsely : Prop := tallyStaysRow.holds Try.pinned (OpenSpec.ofChange tallyStaysWrong)

/-- 'hustingslaw21.TallyBy': WHATEVER THE INPUT: true; the input reads as it did. -/
def tallyBySpec : ChangeSpec := { name := "tallyBy", fn := fun _ => fun
  | [d1, d2] => { results := [.lit (.bool true)], args := [d1, d2] }
  | _ => none }
def tallyByRow : OpenClaim := { program := "ytdflhdfapnhjjaa", sum := "ccf77f9835a3c6949085e5f74ddf431f822ada43faf4675686afda0a89331b0c", func := "hustings/hustingslaw21.TallyBy", spec := "tallyBy", unfollowed := true, recurses := true, apart := false }
def TallyBySaid : Prop := tallyByRow.holds Try.pinned (OpenSpec.ofChange tallyBySpec)

/-- ITS FALSE NEIGHBOUR: 'it returns false'. Refute it at one input. -/
def tallyByWrong : ChangeSpec := { name := "tallyBy", fn := fun _ => fun
  | [d1, d2] => { results := [.lit (.bool false)], args := [d1, d2] }
  | _ => none }
def TallyByWrongFalsely : Prop := tallyByRow.holds Try.pinned (OpenSpec.ofChange tallyByWrong)

/-- 'hustingslaw21.TallyNames': WHATEVER THE INPUT: true; the input reads as it did. -/
def tallyNamesSpec : ChangeSpec := { name := "tallyNames", fn := fun _ => fun
  | [] => { results := [.lit (.bool true)], args := [] }
  | _ => none }
def tallyNamesRow : OpenClaim := { program := "ytdflhdfapnhjjaa", sum := "ccf77f9835a3c6949085e5f74ddf431f822ada43faf4675686afda0a89331b0c", func := "hustings/hustingslaw21.TallyNames", spec := "tallyNames", unfollowed := true, recurses := true, apart := false }
def TallyNamesSaid : Prop := tallyNamesRow.holds Try.pinned (OpenSpec.ofChange tallyNamesSpec)

/-- ITS FALSE NEIGHBOUR: 'it returns false'. Refute it at one input. -/
def tallyNamesWrong : ChangeSpec := { name := "tallyNames", fn := fun _ => fun
  | [] => { results := [.lit (.bool false)], args := [] }
  | _ => none }
def TallyNamesWrongFalsely : Prop := tallyNamesRow.holds Try.pinned (OpenSpec.ofChange tallyNamesWrong)

/-- 'hustingslaw21.TallyPlays': WHATEVER THE INPUT: true; the input reads as it did. -/
def tallyPlaysSpec : ChangeSpec := { name := "tallyPlays", fn := fun _ => fun
  | [d1, d2] => { results := [.lit (.bool true)], args := [d1, d2] }
  | _ => none }
def tallyPlaysRow : OpenClaim := { program := "ytdflhdfapnhjjaa", sum := "ccf77f9835a3c6949085e5f74ddf431f822ada43faf4675686afda0a89331b0c", func := "hustings/hustingslaw21.TallyPlays", spec := "tallyPlays", unfollowed := true, recurses := true, apart := false }
def TallyPlaysSaid : Prop := tallyPlaysRow.holds Try.pinned (OpenSpec.ofChange tallyPlaysSpec)

/-- ITS FALSE NEIGHBOUR: 'it returns false'. Refute it at one input. -/
def tallyPlaysWrong : ChangeSpec := { name := "tallyPlays", fn := fun _ => fun
  | [d1, d2] => { results := [.lit (.bool false)], args := [d1, d2] }
  | _ => none }
def TallyPlaysWrongFalsely : Prop := tallyPlaysRow.holds Try.pinned (OpenSpec.ofChange tallyPlaysWrong)

/-- 'hustingslaw21.TallyPass': WHATEVER THE INPUT: true; the input reads as it did. -/
def tallyPassSpec : ChangeSpec := { name := "tallyPass", fn := fun _ => fun
  | [d1, d2, d3, d4] => { results := [.lit (.bool true)], args := [d1, d2, d3, d4] }
  | _ => none }
def tallyPassRow : OpenClaim := { program := "ytdflhdfapnhjjaa", sum := "ccf77f9835a3c6949085e5f74ddf431f822ada43faf4675686afda0a89331b0c", func := "hustings/hustingslaw21.TallyPass", spec := "tallyPass", unfollowed := true, recurses := true, apart := false }
def TallyPassSaid : Prop := tallyPassRow.holds Try.pinned (OpenSpec.ofChange tallyPassSpec)

/-- ITS FALSE NEIGHBOUR: 'it returns false'. Refute it at one input. -/
def tallyPassWrong : ChangeSpec := { name := "tallyPass", fn := fun _ => fun
  | [d1, d2, d3, d4] => { results := [.lit (.bool false)], args := [d1, d2, d3, d4] }
  | _ => none }
def TallyPassWrongFalsely : Prop := tallyPassRow.holds Try.pinned (OpenSpec.ofChange tallyPassWrong)

/- THE SECOND FORM. 'bulk': how many values and letters a reading holds, each counted each time it is reached (what is shared counts as often as it is met; a slice's spare places count too). A statement '..UptoSaid' is the law's where the arguments, and the package variables that the reading takes, are together of bulk at most 1048576: NARROWER than '..Said'. Prove '..Said' where nothing that the law and all that it calls make is longer than what came in: it says more and counts as full. Else prove '..UptoSaid'. A law counts once. -/
mutual
def uptoBulk {H : Type} : DataW H → Nat
  | .lit (.string bytes) => bytes.length + 1
  | .lit _ => 1
  | .nil => 1
  | .ptr d => uptoBulk d + 1
  | .slice elems spare => uptoBulkAll elems + uptoBulkAll spare + 1
  | .agg parts => uptoBulkAll parts + 1
  | .iface _ d => uptoBulk d + 1
  | .map entries => uptoBulkEntries entries + 1
  | .held _ => 1
def uptoBulkAll {H : Type} : List (DataW H) → Nat
  | [] => 0
  | d :: r => uptoBulk d + uptoBulkAll r
def uptoBulkEntries {H : Type} : List (Lit × DataW H) → Nat
  | [] => 0
  | x :: r => uptoBulkEntry x + uptoBulkEntries r
def uptoBulkEntry {H : Type} : Lit × DataW H → Nat
  | (.string bytes, d) => bytes.length + uptoBulk d + 1
  | (_, d) => uptoBulk d + 1
 end
def uptoSmall : (H : Type) → List (DataW H) → Bool := fun _ ds => decide (uptoBulkAll ds ≤ 1048576)
def OpenSpec.upto (s : _root_.Go.ChangeSpec) : _root_.Go.OpenSpec := { _root_.Go.OpenSpec.ofChange s with cond := some uptoSmall }

/-- 'hustingslaw23.MergeNames', WHERE WHAT IT READS IS OF BULK AT MOST 1048576: true; the input reads as it did. -/
def mergeNamesUptoRow : OpenClaim := { program := "ytdflhdfapnhjjaa", sum := "ccf77f9835a3c6949085e5f74ddf431f822ada43faf4675686afda0a89331b0c", func := "hustings/hustingslaw23.MergeNames", spec := "mergeNames", unfollowed := true, recurses := true, apart := false, narrowed := true }
def MergeNamesUptoSaid : Prop := mergeNamesUptoRow.holds Try.pinned (OpenSpec.upto mergeNamesSpec)

/-- 'hustingslaw23.MergeTells', WHERE WHAT IT READS IS OF BULK AT MOST 1048576: true; the input reads as it did. -/
def mergeTellsUptoRow : OpenClaim := { program := "ytdflhdfapnhjjaa", sum := "ccf77f9835a3c6949085e5f74ddf431f822ada43faf4675686afda0a89331b0c", func := "hustings/hustingslaw23.MergeTells", spec := "mergeTells", unfollowed := true, recurses := true, apart := false, narrowed := true }
def MergeTellsUptoSaid : Prop := mergeTellsUptoRow.holds Try.pinned (OpenSpec.upto mergeTellsSpec)

/-- 'hustingslaw23.MergeAll', WHERE WHAT IT READS IS OF BULK AT MOST 1048576: true; the input reads as it did. -/
def mergeAllUptoRow : OpenClaim := { program := "ytdflhdfapnhjjaa", sum := "ccf77f9835a3c6949085e5f74ddf431f822ada43faf4675686afda0a89331b0c", func := "hustings/hustingslaw23.MergeAll", spec := "mergeAll", unfollowed := true, recurses := true, apart := false, narrowed := true }
def MergeAllUptoSaid : Prop := mergeAllUptoRow.holds Try.pinned (OpenSpec.upto mergeAllSpec)

/-- 'hustingslaw23.MergeRow', WHERE WHAT IT READS IS OF BULK AT MOST 1048576: true; the input reads as it did. -/
def mergeRowUptoRow : OpenClaim := { program := "ytdflhdfapnhjjaa", sum := "ccf77f9835a3c6949085e5f74ddf431f822ada43faf4675686afda0a89331b0c", func := "hustings/hustingslaw23.MergeRow", spec := "mergeRow", unfollowed := true, recurses := true, apart := false, narrowed := true }
def MergeRowUptoSaid : Prop := mergeRowUptoRow.holds Try.pinned (OpenSpec.upto mergeRowSpec)

/-- 'hustingslaw23.MergeAlike', WHERE WHAT IT READS IS OF BULK AT MOST 1048576: true; the input reads as it did. -/
def mergeAlikeUptoRow : OpenClaim := { program := "ytdflhdfapnhjjaa", sum := "ccf77f9835a3c6949085e5f74ddf431f822ada43faf4675686afda0a89331b0c", func := "hustings/hustingslaw23.MergeAlike", spec := "mergeAlike", unfollowed := true, recurses := true, apart := false, narrowed := true }
def MergeAlikeUptoSaid : Prop := mergeAlikeUptoRow.holds Try.pinned (OpenSpec.upto mergeAlikeSpec)

/-- 'hustingslaw21.TallyOne', WHERE WHAT IT READS IS OF BULK AT MOST 1048576: true; the input reads as it did. -/
def tallyOneUptoRow : OpenClaim := { program := "ytdflhdfapnhjjaa", sum := "ccf77f9835a3c6949085e5f74ddf431f822ada43faf4675686afda0a89331b0c", func := "hustings/hustingslaw21.TallyOne", spec := "tallyOne", unfollowed := true, recurses := true, apart := false, narrowed := true }
def TallyOneUptoSaid : Prop := tallyOneUptoRow.holds Try.pinned (OpenSpec.upto tallyOneSpec)

/-- 'hustingslaw21.TallyStays', WHERE WHAT IT READS IS OF BULK AT MOST 1048576: true; the input reads as it did. -/
def tallyStaysUptoRow : OpenClaim := { program := "ytdflhdfapnhjjaa", sum := "ccf77f9835a3c6949085e5f74ddf431f822ada43faf4675686afda0a89331b0c", func := "hustings/hustingslaw21.TallyStays", spec := "tallyStays", unfollowed := true, recurses := true, apart := false, narrowed := true }
def TallyStaysUptoSaid : Prop := tallyStaysUptoRow.holds Try.pinned (OpenSpec.upto tallyStaysSpec)

/-- 'hustingslaw21.TallyBy', WHERE WHAT IT READS IS OF BULK AT MOST 1048576: true; the input reads as it did. -/
def tallyByUptoRow : OpenClaim := { program := "ytdflhdfapnhjjaa", sum := "ccf77f9835a3c6949085e5f74ddf431f822ada43faf4675686afda0a89331b0c", func := "hustings/hustingslaw21.TallyBy", spec := "tallyBy", unfollowed := true, recurses := true, apart := false, narrowed := true }
def TallyByUptoSaid : Prop := tallyByUptoRow.holds Try.pinned (OpenSpec.upto tallyBySpec)

/-- 'hustingslaw21.TallyNames', WHERE WHAT IT READS IS OF BULK AT MOST 1048576: true; the input reads as it did. -/
def tallyNamesUptoRow : OpenClaim := { program := "ytdflhdfapnhjjaa", sum := "ccf77f9835a3c6949085e5f74ddf431f822ada43faf4675686afda0a89331b0c", func := "hustings/hustingslaw21.TallyNames", spec := "tallyNames", unfollowed := true, recurses := true, apart := false, narrowed := true }
def TallyNamesUptoSaid : Prop := tallyNamesUptoRow.holds Try.pinned (OpenSpec.upto tallyNamesSpec)

/-- 'hustingslaw21.TallyPlays', WHERE WHAT IT READS IS OF BULK AT MOST 1048576: true; the input reads as it did. -/
def tallyPlaysUptoRow : OpenClaim := { program := "ytdflhdfapnhjjaa", sum := "ccf77f9835a3c6949085e5f74ddf431f822ada43faf4675686afda0a89331b0c", func := "hustings/hustingslaw21.TallyPlays", spec := "tallyPlays", unfollowed := true, recurses := true, apart := false, narrowed := true }
def TallyPlaysUptoSaid : Prop := tallyPlaysUptoRow.holds Try.pinned (OpenSpec.upto tallyPlaysSpec)

/-- 'hustingslaw21.TallyPass', WHERE WHAT IT READS IS OF BULK AT MOST 1048576: true; the input reads as it did. -/
def tallyPassUptoRow : OpenClaim := { program := "ytdflhdfapnhjjaa", sum := "ccf77f9835a3c6949085e5f74ddf431f822ada43faf4675686afda0a89331b0c", func := "hustings/hustingslaw21.TallyPass", spec := "tallyPass", unfollowed := true, recurses := true, apart := false, narrowed := true }
def TallyPassUptoSaid : Prop := tallyPassUptoRow.holds Try.pinned (OpenSpec.upto tallyPassSpec)

end Rows
end Go.Proofs.Ytdflhdfapnhjjaa
