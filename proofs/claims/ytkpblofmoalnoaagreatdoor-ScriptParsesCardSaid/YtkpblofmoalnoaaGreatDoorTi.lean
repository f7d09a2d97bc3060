/-
 THE TIE of the listed variables: joined.
-/
import Derived.Test.YtkpblofmoalnoaaGreatDoorRows
import Derived.LaidByTextLater
import Derived.SevenTiedAt
import Derived.Test.YtkpblofmoalnoaaGreatDoorT0
import Derived.Test.YtkpblofmoalnoaaGreatDoorT1
import Derived.Test.YtkpblofmoalnoaaGreatDoorT2
import Derived.Test.YtkpblofmoalnoaaGreatDoorT3
import Derived.Test.YtkpblofmoalnoaaGreatDoorT4
import Derived.Test.YtkpblofmoalnoaaGreatDoorT5
import Derived.Test.YtkpblofmoalnoaaGreatDoorT6
import Derived.Test.YtkpblofmoalnoaaGreatDoorT7
import Derived.Test.YtkpblofmoalnoaaGreatDoorT8
import Derived.Test.YtkpblofmoalnoaaGreatDoorT9
namespace Go.Proofs.YtkpblofmoalnoaaGreatDoor
open Go
theorem uO : Tryz.pinned.checked.prog.pinnedFits "unicode/utf8.first" = true := by kernel_rfl
theorem aak : Tryz.pinned.checked.prog.headLifts.contains "ownunsafe" = false := by kernel_rfl
theorem aj5 : Tryz.pinned.checked.prog.listedFits [("hustings/conf.words", Rows.laid_hustings_conf_words), ("unicode/utf8.first", Rows.laid_unicode_utf8_first), ("unicode/utf8.acceptRanges", Rows.laid_unicode_utf8_acceptRanges), ("strconv.ErrSyntax", Rows.laid_strconv_ErrSyntax), ("strconv.ErrRange", Rows.laid_strconv_ErrRange), ("internal/strconv.uint64pow10", Rows.laid_internal_strconv_uint64pow10), ("math/bits.deBruijn32tab", Rows.laid_math_bits_deBruijn32tab), ("math/bits.deBruijn64tab", Rows.laid_math_bits_deBruijn64tab), ("errors.errorType", Rows.laid_errors_errorType), ("hustings/head.bits", Rows.laid_hustings_head_bits), ("hustings/heard.errBad", Rows.laid_hustings_heard_errBad), ("hustings/heard.errPass", Rows.laid_hustings_heard_errPass)] = true := by
 unfold Program.listedFits
 rw [aak]
 kernel_rfl
theorem tie : Tryz.prog.laidByTextLater [("hustings/conf.words", Rows.laid_hustings_conf_words), ("unicode/utf8.acceptRanges", Rows.laid_unicode_utf8_acceptRanges), ("strconv.ErrSyntax", Rows.laid_strconv_ErrSyntax), ("strconv.ErrRange", Rows.laid_strconv_ErrRange), ("internal/strconv.uint64pow10", Rows.laid_internal_strconv_uint64pow10), ("math/bits.deBruijn32tab", Rows.laid_math_bits_deBruijn32tab), ("math/bits.deBruijn64tab", Rows.laid_math_bits_deBruijn64tab), ("errors.errorType", Rows.laid_errors_errorType), ("hustings/head.bits", Rows.laid_hustings_head_bits), ("hustings/heard.errBad", Rows.laid_hustings_heard_errBad), ("hustings/heard.errPass", Rows.laid_hustings_heard_errPass)] [.data, .data, .sentinel, .sentinel, .data, .data, .data, .handle, .data, .sentinel, .sentinel] true :=
 Program.laidByTextLater_by_run_h 400 8 aiN ahs adL aiO aiP aiQ aiR aiS aiT aiU
theorem zB : Rows.scriptParsesRow.laidByTextAt .later Tryz.pinned [.data, .pinned, .data, .sentinel, .sentinel, .data, .data, .data, .handle, .data, .sentinel, .sentinel] true :=
 OpenClaim.laidByTextAt_pinned rfl rfl tie rfl rfl rfl rfl (fun y hy _e => by
  simp only [Rows.scriptParsesRow, List.zip_cons_cons, List.zip_nil_right, List.mem_cons, List.mem_nil_iff, or_false] at hy
  rcases hy with rfl | rfl | rfl | rfl | rfl | rfl | rfl | rfl | rfl | rfl | rfl | rfl
  · cases _e
  · exact ⟨uO, by kernel_rfl⟩
  · cases _e
  · cases _e
  · cases _e
  · cases _e
  · cases _e
  · cases _e
  · cases _e
  · cases _e
  · cases _e
  · cases _e) aj5
end Go.Proofs.YtkpblofmoalnoaaGreatDoor
