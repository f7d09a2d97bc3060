/-
  NARROWER THAN 'FOR EVERY INPUT', by the rows' own cells (each row's printed sentence says how): ConfNames: laid · ConfShows: laid · ConfReads: laid · ConfBack: laid · ConfEnough: laid · ConfFirst: laid · ConfRows: laid.
  DERIVED. THE GIVEN ROWS OF THIS SEAT. 7 by the template 'for every input the law returns true; each argument reads behind the call as it read before'; 0 by the template 'total and deterministic' (their statements: YtnhlpifbadncmaaDoorTotals.lean).
  GIVEN WITH THE SEED: the statements are not yours to turn. If you find one false, say at which input.
  Laid BY PROGRAM, IN A SANDBOX (cutbox-rows.mjs): the forced cells as the released guide's own fill.sh prints them over the translation 10fd27ea061428c8… (all of the seat's roots in one cut). By AI agents, Wed Nov 11 2026. No macro, syntax, notation, axiom, sorry.
-/
import Derived.Test.YtnhlpifbadncmaaDoorChecked
import GoSem.PinnedTables
import GoSem.Claim
import GoSem.ClaimJoined
import GoSem.ClaimMapViews
import Derived.JoinedTies
import Derived.KernelRfl
namespace Go.Proofs.YtnhlpifbadncmaaDoor
/- THE CELL 'sum', in the pinned program and in every row, IS THE sha256 OF THE DUMP (.gsa) THAT YtnhlpifbadncmaaDoorProg.lean LOADS. Nothing in Lean hashes anything: it is a label: what it is worth is what the hold of that sum in a sandbox is worth. -/
noncomputable def Tryd.pinned : Pinned := { name := "ytnhlpifbadncmaadoor", sum := "10fd27ea061428c8e1ed49f9f0f04ae278cce494b65765f924b2b0255212de05", checked := Tryd.checked }
namespace Rows
def none {H : Type} : Left H := { results := [], args := [] }

/- WHAT THE LISTED PACKAGE-LEVEL VARIABLES READ AS WHEN THE CALL BEGINS. Each datum BY PROGRAM (the guide's laid-datum.mjs) off the statement by which the dump's own 'gosem.cut.vars' lays the variable. In a bare row this is a premise. The card (YtnhlpifbadncmaaDoorCards.lean) ties it to the program's text. -/
def laid_math_bits_deBruijn32tab {H : Type} : DataW H := .agg [.lit (.int .u8 0), .lit (.int .u8 1), .lit (.int .u8 28), .lit (.int .u8 2), .lit (.int .u8 29), .lit (.int .u8 14), .lit (.int .u8 24), .lit (.int .u8 3), .lit (.int .u8 30), .lit (.int .u8 22), .lit (.int .u8 20), .lit (.int .u8 15), .lit (.int .u8 25), .lit (.int .u8 17), .lit (.int .u8 4), .lit (.int .u8 8), .lit (.int .u8 31), .lit (.int .u8 27), .lit (.int .u8 13), .lit (.int .u8 23), .lit (.int .u8 21), .lit (.int .u8 19), .lit (.int .u8 16), .lit (.int .u8 7), .lit (.int .u8 26), .lit (.int .u8 12), .lit (.int .u8 18), .lit (.int .u8 6), .lit (.int .u8 11), .lit (.int .u8 5), .lit (.int .u8 10), .lit (.int .u8 9)]
def laid_math_bits_deBruijn64tab {H : Type} : DataW H := .agg [.lit (.int .u8 0), .lit (.int .u8 1), .lit (.int .u8 56), .lit (.int .u8 2), .lit (.int .u8 57), .lit (.int .u8 49), .lit (.int .u8 28), .lit (.int .u8 3), .lit (.int .u8 61), .lit (.int .u8 58), .lit (.int .u8 42), .lit (.int .u8 50), .lit (.int .u8 38), .lit (.int .u8 29), .lit (.int .u8 17), .lit (.int .u8 4), .lit (.int .u8 62), .lit (.int .u8 47), .lit (.int .u8 59), .lit (.int .u8 36), .lit (.int .u8 45), .lit (.int .u8 43), .lit (.int .u8 51), .lit (.int .u8 22), .lit (.int .u8 53), .lit (.int .u8 39), .lit (.int .u8 33), .lit (.int .u8 30), .lit (.int .u8 24), .lit (.int .u8 18), .lit (.int .u8 12), .lit (.int .u8 5), .lit (.int .u8 63), .lit (.int .u8 55), .lit (.int .u8 48), .lit (.int .u8 27), .lit (.int .u8 60), .lit (.int .u8 41), .lit (.int .u8 37), .lit (.int .u8 16), .lit (.int .u8 46), .lit (.int .u8 35), .lit (.int .u8 44), .lit (.int .u8 21), .lit (.int .u8 52), .lit (.int .u8 32), .lit (.int .u8 23), .lit (.int .u8 11), .lit (.int .u8 54), .lit (.int .u8 26), .lit (.int .u8 40), .lit (.int .u8 15), .lit (.int .u8 34), .lit (.int .u8 20), .lit (.int .u8 31), .lit (.int .u8 10), .lit (.int .u8 25), .lit (.int .u8 14), .lit (.int .u8 19), .lit (.int .u8 9), .lit (.int .u8 13), .lit (.int .u8 8), .lit (.int .u8 7), .lit (.int .u8 6)]
def laid_internal_strconv_uint64pow10 {H : Type} : DataW H := .agg [.lit (.int .u64 1), .lit (.int .u64 10), .lit (.int .u64 100), .lit (.int .u64 1000), .lit (.int .u64 10000), .lit (.int .u64 100000), .lit (.int .u64 1000000), .lit (.int .u64 10000000), .lit (.int .u64 100000000), .lit (.int .u64 1000000000), .lit (.int .u64 10000000000), .lit (.int .u64 100000000000), .lit (.int .u64 1000000000000), .lit (.int .u64 10000000000000), .lit (.int .u64 100000000000000), .lit (.int .u64 1000000000000000), .lit (.int .u64 10000000000000000), .lit (.int .u64 100000000000000000), .lit (.int .u64 1000000000000000000), .lit (.int .u64 10000000000000000000)]
def laid_unicode_utf8_acceptRanges {H : Type} : DataW H := .agg [.agg [.lit (.int .u8 128), .lit (.int .u8 191)], .agg [.lit (.int .u8 160), .lit (.int .u8 191)], .agg [.lit (.int .u8 128), .lit (.int .u8 159)], .agg [.lit (.int .u8 144), .lit (.int .u8 191)], .agg [.lit (.int .u8 128), .lit (.int .u8 143)], .agg [.lit (.int .u8 0), .lit (.int .u8 0)], .agg [.lit (.int .u8 0), .lit (.int .u8 0)], .agg [.lit (.int .u8 0), .lit (.int .u8 0)], .agg [.lit (.int .u8 0), .lit (.int .u8 0)], .agg [.lit (.int .u8 0), .lit (.int .u8 0)], .agg [.lit (.int .u8 0), .lit (.int .u8 0)], .agg [.lit (.int .u8 0), .lit (.int .u8 0)], .agg [.lit (.int .u8 0), .lit (.int .u8 0)], .agg [.lit (.int .u8 0), .lit (.int .u8 0)], .agg [.lit (.int .u8 0), .lit (.int .u8 0)], .agg [.lit (.int .u8 0), .lit (.int .u8 0)]]
def laid_hustings_conf_words {H : Type} : DataW H := .agg [.lit (.string [117, 112, 115]), .lit (.string [100, 101, 97, 100, 108, 105, 110, 101]), .lit (.string [104, 101, 100, 103, 101]), .lit (.string [119, 97, 105, 116]), .lit (.string [116, 114, 105, 101, 115]), .lit (.string [114, 101, 115, 116]), .lit (.string [108, 105, 109, 105, 116]), .lit (.string [99, 97, 99, 104, 101]), .lit (.string [102, 108, 105, 103, 104, 116, 115]), .lit (.string [119, 97, 105, 116, 101, 114, 115]), .lit (.string [116, 116, 108]), .lit (.string [115, 105, 122, 101])]
/-- One of Go's own tables, pinned by name: the form's constant. -/
def laid_unicode_utf8_first : DataW Unit := Go.Pinned.utf8First

/-- 'hustingslaw17.ConfNames': WHATEVER THE INPUT: true; the input reads as it did. -/
def confNamesSpec : ChangeSpec := { name := "confNames", fn := fun _ => fun
  | [] => { results := [.lit (.bool true)], args := [] }
  | _ => none }
def confNamesRow : OpenClaim := { program := "ytnhlpifbadncmaadoor", sum := "10fd27ea061428c8e1ed49f9f0f04ae278cce494b65765f924b2b0255212de05", func := "hustings/hustingslaw17.ConfNames", spec := "confNames", inPlace := ["internal/abi.NoEscape", "internal/bytealg.IndexByteString", "internal/bytealg.IndexString", "internal/bytealg.CountString"], unfollowed := true, recurses := true, named := ["hustings/conf.words", "internal/strconv.uint64pow10", "math/bits.deBruijn32tab", "math/bits.deBruijn64tab", "internal/bytealg.MaxLen", "unicode/utf8.first", "unicode/utf8.acceptRanges"], apart := false, laid := [("math/bits.deBruijn32tab", laid_math_bits_deBruijn32tab), ("math/bits.deBruijn64tab", laid_math_bits_deBruijn64tab), ("internal/strconv.uint64pow10", laid_internal_strconv_uint64pow10), ("unicode/utf8.acceptRanges", laid_unicode_utf8_acceptRanges), ("hustings/conf.words", laid_hustings_conf_words), ("unicode/utf8.first", laid_unicode_utf8_first)] }
def ConfNamesSaid : Prop := confNamesRow.holds Tryd.pinned (OpenSpec.ofChange confNamesSpec)

/-- ITS FALSE NEIGHBOUR: 'it returns false'. Refute it at one input. -/
def confNamesWrong : ChangeSpec := { name := "confNames", fn := fun _ => fun
  | [] => { results := [.lit (.bool false)], args := [] }
  | _ => none }
def ConfNamesWrongFalsely : Prop := confNamesRow.holds Tryd.pinned (OpenSpec.ofChange confNamesWrong)

/-- 'hustingslaw17.ConfShows': WHATEVER THE INPUT: true; the input reads as it did. -/
def confShowsSpec : ChangeSpec := { name := "confShows", fn := fun _ => fun
  | [d] => { results := [.lit (.bool true)], args := [d] }
  | _ => none }
def confShowsRow : OpenClaim := { program := "ytnhlpifbadncmaadoor", sum := "10fd27ea061428c8e1ed49f9f0f04ae278cce494b65765f924b2b0255212de05", func := "hustings/hustingslaw17.ConfShows", spec := "confShows", inPlace := ["internal/abi.NoEscape", "internal/bytealg.IndexByteString", "internal/bytealg.IndexString", "internal/bytealg.CountString"], recurses := true, named := ["hustings/conf.words", "internal/strconv.uint64pow10", "math/bits.deBruijn32tab", "math/bits.deBruijn64tab", "internal/bytealg.MaxLen", "unicode/utf8.first", "unicode/utf8.acceptRanges"], apart := false, laid := [("math/bits.deBruijn32tab", laid_math_bits_deBruijn32tab), ("math/bits.deBruijn64tab", laid_math_bits_deBruijn64tab), ("internal/strconv.uint64pow10", laid_internal_strconv_uint64pow10), ("unicode/utf8.acceptRanges", laid_unicode_utf8_acceptRanges), ("hustings/conf.words", laid_hustings_conf_words), ("unicode/utf8.first", laid_unicode_utf8_first)] }
def ConfShowsSaid : Prop := confShowsRow.holds Tryd.pinned (OpenSpec.ofChange confShowsSpec)

/-- ITS FALSE NEIGHBOUR: 'it returns false'. Refute it at one input. -/
def confShowsWrong : ChangeSpec := { name := "confShows", fn := fun _ => fun
  | [d] => { results := [.lit (.bool false)], args := [d] }
  | _ => none }
def ConfShowsWrongFalsely : Prop := confShowsRow.holds Tryd.pinned (OpenSpec.ofChange confShowsWrong)

/-- 'hustingslaw17.ConfReads': WHATEVER THE INPUT: true; the input reads as it did. -/
def confReadsSpec : ChangeSpec := { name := "confReads", fn := fun _ => fun
  | [d] => { results := [.lit (.bool true)], args := [d] }
  | _ => none }
def confReadsRow : OpenClaim := { program := "ytnhlpifbadncmaadoor", sum := "10fd27ea061428c8e1ed49f9f0f04ae278cce494b65765f924b2b0255212de05", func := "hustings/hustingslaw17.ConfReads", spec := "confReads", inPlace := ["internal/abi.NoEscape", "internal/bytealg.IndexByteString", "internal/bytealg.IndexString", "internal/bytealg.CountString"], named := ["hustings/conf.words", "internal/strconv.uint64pow10", "math/bits.deBruijn32tab", "math/bits.deBruijn64tab", "internal/bytealg.MaxLen", "unicode/utf8.first", "unicode/utf8.acceptRanges"], apart := false, laid := [("math/bits.deBruijn32tab", laid_math_bits_deBruijn32tab), ("math/bits.deBruijn64tab", laid_math_bits_deBruijn64tab), ("internal/strconv.uint64pow10", laid_internal_strconv_uint64pow10), ("unicode/utf8.acceptRanges", laid_unicode_utf8_acceptRanges), ("hustings/conf.words", laid_hustings_conf_words), ("unicode/utf8.first", laid_unicode_utf8_first)] }
def ConfReadsSaid : Prop := confReadsRow.holds Tryd.pinned (OpenSpec.ofChange confReadsSpec)

/-- ITS FALSE NEIGHBOUR: 'it returns false'. Refute it at one input. -/
def confReadsWrong : ChangeSpec := { name := "confReads", fn := fun _ => fun
  | [d] => { results := [.lit (.bool false)], args := [d] }
  | _ => none }
def ConfReadsWrongFalsely : Prop := confReadsRow.holds Tryd.pinned (OpenSpec.ofChange confReadsWrong)

/-- 'hustingslaw17.ConfBack': WHATEVER THE INPUT: true; the input reads as it did. -/
def confBackSpec : ChangeSpec := { name := "confBack", fn := fun _ => fun
  | [d1, d2] => { results := [.lit (.bool true)], args := [d1, d2] }
  | _ => none }
def confBackRow : OpenClaim := { program := "ytnhlpifbadncmaadoor", sum := "10fd27ea061428c8e1ed49f9f0f04ae278cce494b65765f924b2b0255212de05", func := "hustings/hustingslaw17.ConfBack", spec := "confBack", inPlace := ["internal/abi.NoEscape", "internal/bytealg.IndexByteString", "internal/bytealg.IndexString", "internal/bytealg.CountString"], named := ["hustings/conf.words", "internal/strconv.uint64pow10", "math/bits.deBruijn32tab", "math/bits.deBruijn64tab", "internal/bytealg.MaxLen", "unicode/utf8.first", "unicode/utf8.acceptRanges"], apart := false, laid := [("math/bits.deBruijn32tab", laid_math_bits_deBruijn32tab), ("math/bits.deBruijn64tab", laid_math_bits_deBruijn64tab), ("internal/strconv.uint64pow10", laid_internal_strconv_uint64pow10), ("unicode/utf8.acceptRanges", laid_unicode_utf8_acceptRanges), ("hustings/conf.words", laid_hustings_conf_words), ("unicode/utf8.first", laid_unicode_utf8_first)] }
def ConfBackSaid : Prop := confBackRow.holds Tryd.pinned (OpenSpec.ofChange confBackSpec)

/-- ITS FALSE NEIGHBOUR: 'it returns false'. Refute it at one input. -/
def confBackWrong : ChangeSpec := { name := "confBack", fn := fun _ => fun
  | [d1, d2] => { results := [.lit (.bool false)], args := [d1, d2] }
  | _ => none }
def ConfBackWrongFalsely : Prop := confBackRow.holds Tryd.pinned (OpenSpec.ofChange confBackWrong)

/-- 'hustingslaw17.ConfEnough': WHATEVER THE INPUT: true; the input reads as it did. -/
def confEnoughSpec : ChangeSpec := { name := "confEnough", fn := fun _ => fun
  | [d1, d2] => { results := [.lit (.bool true)], args := [d1, d2] }
  | _ => none }
def confEnoughRow : OpenClaim := { program := "ytnhlpifbadncmaadoor", sum := "10fd27ea061428c8e1ed49f9f0f04ae278cce494b65765f924b2b0255212de05", func := "hustings/hustingslaw17.ConfEnough", spec := "confEnough", inPlace := ["internal/abi.NoEscape", "internal/bytealg.IndexByteString", "internal/bytealg.IndexString", "internal/bytealg.CountString"], named := ["hustings/conf.words", "internal/strconv.uint64pow10", "math/bits.deBruijn32tab", "math/bits.deBruijn64tab", "internal/bytealg.MaxLen", "unicode/utf8.first", "unicode/utf8.acceptRanges"], apart := false, laid := [("math/bits.deBruijn32tab", laid_math_bits_deBruijn32tab), ("math/bits.deBruijn64tab", laid_math_bits_deBruijn64tab), ("internal/strconv.uint64pow10", laid_internal_strconv_uint64pow10), ("unicode/utf8.acceptRanges", laid_unicode_utf8_acceptRanges), ("hustings/conf.words", laid_hustings_conf_words), ("unicode/utf8.first", laid_unicode_utf8_first)] }
def ConfEnoughSaid : Prop := confEnoughRow.holds Tryd.pinned (OpenSpec.ofChange confEnoughSpec)

/-- ITS FALSE NEIGHBOUR: 'it returns false'. Refute it at one input. -/
def confEnoughWrong : ChangeSpec := { name := "confEnough", fn := fun _ => fun
  | [d1, d2] => { results := [.lit (.bool false)], args := [d1, d2] }
  | _ => none }
def ConfEnoughWrongFalsely : Prop := confEnoughRow.holds Tryd.pinned (OpenSpec.ofChange confEnoughWrong)

/-- 'hustingslaw17.ConfFirst': WHATEVER THE INPUT: true; the input reads as it did. -/
def confFirstSpec : ChangeSpec := { name := "confFirst", fn := fun _ => fun
  | [d1, d2] => { results := [.lit (.bool true)], args := [d1, d2] }
  | _ => none }
def confFirstRow : OpenClaim := { program := "ytnhlpifbadncmaadoor", sum := "10fd27ea061428c8e1ed49f9f0f04ae278cce494b65765f924b2b0255212de05", func := "hustings/hustingslaw17.ConfFirst", spec := "confFirst", inPlace := ["internal/abi.NoEscape", "internal/bytealg.IndexByteString", "internal/bytealg.IndexString", "internal/bytealg.CountString"], named := ["hustings/conf.words", "internal/strconv.uint64pow10", "math/bits.deBruijn32tab", "math/bits.deBruijn64tab", "internal/bytealg.MaxLen", "unicode/utf8.first", "unicode/utf8.acceptRanges"], apart := false, laid := [("math/bits.deBruijn32tab", laid_math_bits_deBruijn32tab), ("math/bits.deBruijn64tab", laid_math_bits_deBruijn64tab), ("internal/strconv.uint64pow10", laid_internal_strconv_uint64pow10), ("unicode/utf8.acceptRanges", laid_unicode_utf8_acceptRanges), ("hustings/conf.words", laid_hustings_conf_words), ("unicode/utf8.first", laid_unicode_utf8_first)] }
def ConfFirstSaid : Prop := confFirstRow.holds Tryd.pinned (OpenSpec.ofChange confFirstSpec)

/-- ITS FALSE NEIGHBOUR: 'it returns false'. Refute it at one input. -/
def confFirstWrong : ChangeSpec := { name := "confFirst", fn := fun _ => fun
  | [d1, d2] => { results := [.lit (.bool false)], args := [d1, d2] }
  | _ => none }
def ConfFirstWrongFalsely : Prop := confFirstRow.holds Tryd.pinned (OpenSpec.ofChange confFirstWrong)

/-- 'hustingslaw17.ConfRows': WHATEVER THE INPUT: true; the input reads as it did. -/
def confRowsSpec : ChangeSpec := { name := "confRows", fn := fun _ => fun
  | [d1, d2, d3] => { results := [.lit (.bool true)], args := [d1, d2, d3] }
  | _ => none }
def confRowsRow : OpenClaim := { program := "ytnhlpifbadncmaadoor", sum := "10fd27ea061428c8e1ed49f9f0f04ae278cce494b65765f924b2b0255212de05", func := "hustings/hustingslaw17.ConfRows", spec := "confRows", inPlace := ["internal/abi.NoEscape", "internal/bytealg.IndexByteString", "internal/bytealg.IndexString", "internal/bytealg.CountString"], named := ["hustings/conf.words", "internal/strconv.uint64pow10", "math/bits.deBruijn32tab", "math/bits.deBruijn64tab", "internal/bytealg.MaxLen", "unicode/utf8.first", "unicode/utf8.acceptRanges"], apart := false, laid := [("math/bits.deBruijn32tab", laid_math_bits_deBruijn32tab), ("math/bits.deBruijn64tab", laid_math_bits_deBruijn64tab), ("internal/strconv.uint64pow10", laid_internal_strconv_uint64pow10), ("unicode/utf8.acceptRanges", laid_unicode_utf8_acceptRanges), ("hustings/conf.words", laid_hustings_conf_words), ("unicode/utf8.first", laid_unicode_utf8_first)] }
def ConfRowsSaid : Prop := confRowsRow.holds Tryd.pinned (OpenSpec.ofChange confRowsSpec)

/-- ITS FALSE NEIGHBOUR: 'it returns false'. Refute it at one input. -/
def confRowsWrong : ChangeSpec := { name := "confRows", fn := fun _ => fun
  | [d1, d2, d3] => { results := [.lit (.bool false)], args := [d1, d2, d3] }
  | _ => none }
def ConfRowsWrongFalsely : Prop := confRowsRow.holds Tryd.pinned (OpenSpec.ofChange confRowsWrong)

/- THE SECOND FORM. 'bulk': how many values and letters a reading holds, each counted each time it is reached (what is shared counts as often as it is met; a slice's spare places count too). A statement '..UptoSaid' is the law's where the arguments, and the package variables that the reading takes, are together of bulk at most 1048576: NARROWER than '..Said'. Prove '..Said' where nothing that the law and all that it calls make is longer than what came in: it says more and counts as full. Else prove '..UptoSaid'. A law counts once. -/
mutual
def uptoBulk {H : Type} : DataW H → Nat
  | .lit (.string bytes) => bytes.length + 1
  | .lit _ => 1
  | .nil => 1
  | .ptr d => uptoBulk d + 1
  | .slice elems spare => uptoBulkAll elems + uptoBulkAll spare + 1
  | .agg parts => uptoBulkAll parts + 1
  | .iface _ d => uptoBulk d + 1
  | .map entries => uptoBulkEntries entries + 1
  | .held _ => 1
def uptoBulkAll {H : Type} : List (DataW H) → Nat
  | [] => 0
  | d :: r => uptoBulk d + uptoBulkAll r
def uptoBulkEntries {H : Type} : List (Lit × DataW H) → Nat
  | [] => 0
  | x :: r => uptoBulkEntry x + uptoBulkEntries r
def uptoBulkEntry {H : Type} : Lit × DataW H → Nat
  | (.string bytes, d) => bytes.length + uptoBulk d + 1
  | (_, d) => uptoBulk d + 1
 end
def uptoSmall : (H : Type) → List (DataW H) → Bool := fun _ ds => decide (uptoBulkAll ds ≤ 1048576)
def OpenSpec.upto (s : _root_.Go.ChangeSpec) : _root_.Go.OpenSpec := { _root_.Go.OpenSpec.ofChange s with cond := some uptoSmall }

/-- 'hustingslaw17.ConfNames', WHERE WHAT IT READS IS OF BULK AT MOST 1048576: true; the input reads as it did. -/
def confNamesUptoRow : OpenClaim := { program := "ytnhlpifbadncmaadoor", sum := "10fd27ea061428c8e1ed49f9f0f04ae278cce494b65765f924b2b0255212de05", func := "hustings/hustingslaw17.ConfNames", spec := "confNames", inPlace := ["internal/abi.NoEscape", "internal/bytealg.IndexByteString", "internal/bytealg.IndexString", "internal/bytealg.CountString"], unfollowed := true, recurses := true, named := ["hustings/conf.words", "internal/strconv.uint64pow10", "math/bits.deBruijn32tab", "math/bits.deBruijn64tab", "internal/bytealg.MaxLen", "unicode/utf8.first", "unicode/utf8.acceptRanges"], apart := false, laid := [("math/bits.deBruijn32tab", laid_math_bits_deBruijn32tab), ("math/bits.deBruijn64tab", laid_math_bits_deBruijn64tab), ("internal/strconv.uint64pow10", laid_internal_strconv_uint64pow10), ("unicode/utf8.acceptRanges", laid_unicode_utf8_acceptRanges), ("hustings/conf.words", laid_hustings_conf_words), ("unicode/utf8.first", laid_unicode_utf8_first)], narrowed := true }
def ConfNamesUptoSaid : Prop := confNamesUptoRow.holds Tryd.pinned (OpenSpec.upto confNamesSpec)

/-- 'hustingslaw17.ConfShows', WHERE WHAT IT READS IS OF BULK AT MOST 1048576: true; the input reads as it did. -/
def confShowsUptoRow : OpenClaim := { program := "ytnhlpifbadncmaadoor", sum := "10fd27ea061428c8e1ed49f9f0f04ae278cce494b65765f924b2b0255212de05", func := "hustings/hustingslaw17.ConfShows", spec := "confShows", inPlace := ["internal/abi.NoEscape", "internal/bytealg.IndexByteString", "internal/bytealg.IndexString", "internal/bytealg.CountString"], recurses := true, named := ["hustings/conf.words", "internal/strconv.uint64pow10", "math/bits.deBruijn32tab", "math/bits.deBruijn64tab", "internal/bytealg.MaxLen", "unicode/utf8.first", "unicode/utf8.acceptRanges"], apart := false, laid := [("math/bits.deBruijn32tab", laid_math_bits_deBruijn32tab), ("math/bits.deBruijn64tab", laid_math_bits_deBruijn64tab), ("internal/strconv.uint64pow10", laid_internal_strconv_uint64pow10), ("unicode/utf8.acceptRanges", laid_unicode_utf8_acceptRanges), ("hustings/conf.words", laid_hustings_conf_words), ("unicode/utf8.first", laid_unicode_utf8_first)], narrowed := true }
def ConfShowsUptoSaid : Prop := confShowsUptoRow.holds Tryd.pinned (OpenSpec.upto confShowsSpec)

/-- 'hustingslaw17.ConfReads', WHERE WHAT IT READS IS OF BULK AT MOST 1048576: true; the input reads as it did. -/
def confReadsUptoRow : OpenClaim := { program := "ytnhlpifbadncmaadoor", sum := "10fd27ea061428c8e1ed49f9f0f04ae278cce494b65765f924b2b0255212de05", func := "hustings/hustingslaw17.ConfReads", spec := "confReads", inPlace := ["internal/abi.NoEscape", "internal/bytealg.IndexByteString", "internal/bytealg.IndexString", "internal/bytealg.CountString"], named := ["hustings/conf.words", "internal/strconv.uint64pow10", "math/bits.deBruijn32tab", "math/bits.deBruijn64tab", "internal/bytealg.MaxLen", "unicode/utf8.first", "unicode/utf8.acceptRanges"], apart := false, laid := [("math/bits.deBruijn32tab", laid_math_bits_deBruijn32tab), ("math/bits.deBruijn64tab", laid_math_bits_deBruijn64tab), ("internal/strconv.uint64pow10", laid_internal_strconv_uint64pow10), ("unicode/utf8.acceptRanges", laid_unicode_utf8_acceptRanges), ("hustings/conf.words", laid_hustings_conf_words), ("unicode/utf8.first", laid_unicode_utf8_first)], narrowed := true }
def ConfReadsUptoSaid : Prop := confReadsUptoRow.holds Tryd.pinned (OpenSpec.upto confReadsSpec)

/-- 'hustingslaw17.ConfBack', WHERE WHAT IT READS IS OF BULK AT MOST 1048576: true; the input reads as it did. -/
def confBackUptoRow : OpenClaim := { program := "ytnhlpifbadncmaadoor", sum := "10fd27ea061428c8e1ed49f9f0f04ae278cce494b65765f924b2b0255212de05", func := "hustings/hustingslaw17.ConfBack", spec := "confBack", inPlace := ["internal/abi.NoEscape", "internal/bytealg.IndexByteString", "internal/bytealg.IndexString", "internal/bytealg.CountString"], named := ["hustings/conf.words", "internal/strconv.uint64pow10", "math/bits.deBruijn32tab", "math/bits.deBruijn64tab", "internal/bytealg.MaxLen", "unicode/utf8.first", "unicode/utf8.acceptRanges"], apart := false, laid := [("math/bits.deBruijn32tab", laid_math_bits_deBruijn32tab), ("math/bits.deBruijn64tab", laid_math_bits_deBruijn64tab), ("internal/strconv.uint64pow10", laid_internal_strconv_uint64pow10), ("unicode/utf8.acceptRanges", laid_unicode_utf8_acceptRanges), ("hustings/conf.words", laid_hustings_conf_words), ("unicode/utf8.first", laid_unicode_utf8_first)], narrowed := true }
def ConfBackUptoSaid : Prop := confBackUptoRow.holds Tryd.pinned (OpenSpec.upto confBackSpec)

/-- 'hustingslaw17.ConfEnough', WHERE WHAT IT READS IS OF BULK AT MOST 1048576: true; the input reads as it did. -/
def confEnoughUptoRow : OpenClaim := { program := "ytnhlpifbadncmaadoor", sum := "10fd27ea061428c8e1ed49f9f0f04ae278cce494b65765f924b2b0255212de05", func := "hustings/hustingslaw17.ConfEnough", spec := "confEnough", inPlace := ["internal/abi.NoEscape", "internal/bytealg.IndexByteString", "internal/bytealg.IndexString", "internal/bytealg.CountString"], named := ["hustings/conf.words", "internal/strconv.uint64pow10", "math/bits.deBruijn32tab", "math/bits.deBruijn64tab", "internal/bytealg.MaxLen", "unicode/utf8.first", "unicode/utf8.acceptRanges"], apart := false, laid := [("math/bits.deBruijn32tab", laid_math_bits_deBruijn32tab), ("math/bits.deBruijn64tab", laid_math_bits_deBruijn64tab), ("internal/strconv.uint64pow10", laid_internal_strconv_uint64pow10), ("unicode/utf8.acceptRanges", laid_unicode_utf8_acceptRanges), ("hustings/conf.words", laid_hustings_conf_words), ("unicode/utf8.first", laid_unicode_utf8_first)], narrowed := true }
def ConfEnoughUptoSaid : Prop := confEnoughUptoRow.holds Tryd.pinned (OpenSpec.upto confEnoughSpec)

/-- 'hustingslaw17.ConfFirst', WHERE WHAT IT READS IS OF BULK AT MOST 1048576: true; the input reads as it did. -/
def confFirstUptoRow : OpenClaim := { program := "ytnhlpifbadncmaadoor", sum := "10fd27ea061428c8e1ed49f9f0f04ae278cce494b65765f924b2b0255212de05", func := "hustings/hustingslaw17.ConfFirst", spec := "confFirst", inPlace := ["internal/abi.NoEscape", "internal/bytealg.IndexByteString", "internal/bytealg.IndexString", "internal/bytealg.CountString"], named := ["hustings/conf.words", "internal/strconv.uint64pow10", "math/bits.deBruijn32tab", "math/bits.deBruijn64tab", "internal/bytealg.MaxLen", "unicode/utf8.first", "unicode/utf8.acceptRanges"], apart := false, laid := [("math/bits.deBruijn32tab", laid_math_bits_deBruijn32tab), ("math/bits.deBruijn64tab", laid_math_bits_deBruijn64tab), ("internal/strconv.uint64pow10", laid_internal_strconv_uint64pow10), ("unicode/utf8.acceptRanges", laid_unicode_utf8_acceptRanges), ("hustings/conf.words", laid_hustings_conf_words), ("unicode/utf8.first", laid_unicode_utf8_first)], narrowed := true }
def ConfFirstUptoSaid : Prop := confFirstUptoRow.holds Tryd.pinned (OpenSpec.upto confFirstSpec)

/-- 'hustingslaw17.ConfRows', WHERE WHAT IT READS IS OF BULK AT MOST 1048576: true; the input reads as it did. -/
def confRowsUptoRow : OpenClaim := { program := "ytnhlpifbadncmaadoor", sum := "10fd27ea061428c8e1ed49f9f0f04ae278cce494b65765f924b2b0255212de05", func := "hustings/hustingslaw17.ConfRows", spec := "confRows", inPlace := ["internal/abi.NoEscape", "internal/bytealg.IndexByteString", "internal/bytealg.IndexString", "internal/bytealg.CountString"], named := ["hustings/conf.words", "internal/strconv.uint64pow10", "math/bits.deBruijn32tab", "math/bits.deBruijn64tab", "internal/bytealg.MaxLen", "unicode/utf8.first", "unicode/utf8.acceptRanges"], apart := false, laid := [("math/bits.deBruijn32tab", laid_math_bits_deBruijn32tab), ("math/bits.deBruijn64tab", laid_math_bits_deBruijn64tab), ("internal/strconv.uint64pow10", laid_internal_strconv_uint64pow10), ("unicode/utf8.acceptRanges", laid_unicode_utf8_acceptRanges), ("hustings/conf.words", laid_hustings_conf_words), ("unicode/utf8.first", laid_unicode_utf8_first)], narrowed := true }
def ConfRowsUptoSaid : Prop := confRowsUptoRow.holds Tryd.pinned (OpenSpec.upto confRowsSpec)

end Rows
end Go.Proofs.YtnhlpifbadncmaaDoor
