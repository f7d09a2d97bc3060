/-
 THE TIE of the listed variables: joined.
-/
import Derived.Test.YtgjlbilcnlffgaaGreatDoorRows
import Derived.LaidByTextLater
import Derived.SevenTiedAt
import Derived.Test.YtgjlbilcnlffgaaGreatDoorT0
import Derived.Test.YtgjlbilcnlffgaaGreatDoorT1
import Derived.Test.YtgjlbilcnlffgaaGreatDoorT2
import Derived.Test.YtgjlbilcnlffgaaGreatDoorT3
import Derived.Test.YtgjlbilcnlffgaaGreatDoorT4
import Derived.Test.YtgjlbilcnlffgaaGreatDoorT5
import Derived.Test.YtgjlbilcnlffgaaGreatDoorT6
import Derived.Test.YtgjlbilcnlffgaaGreatDoorT7
import Derived.Test.YtgjlbilcnlffgaaGreatDoorT8
import Derived.Test.YtgjlbilcnlffgaaGreatDoorT9
namespace Go.Proofs.YtgjlbilcnlffgaaGreatDoor
open Go
theorem kX : Tryz.pinned.checked.prog.pinnedFits "unicode/utf8.first" = true := by kernel_rfl
theorem YW : Tryz.pinned.checked.prog.headLifts.contains "ownunsafe" = false := by kernel_rfl
theorem afV : Tryz.pinned.checked.prog.listedFits [("hustings/conf.words", Rows.laid_hustings_conf_words), ("unicode/utf8.first", Rows.laid_unicode_utf8_first), ("unicode/utf8.acceptRanges", Rows.laid_unicode_utf8_acceptRanges), ("strconv.ErrSyntax", Rows.laid_strconv_ErrSyntax), ("strconv.ErrRange", Rows.laid_strconv_ErrRange), ("internal/strconv.uint64pow10", Rows.laid_internal_strconv_uint64pow10), ("math/bits.deBruijn32tab", Rows.laid_math_bits_deBruijn32tab), ("math/bits.deBruijn64tab", Rows.laid_math_bits_deBruijn64tab), ("errors.errorType", Rows.laid_errors_errorType), ("hustings/head.bits", Rows.laid_hustings_head_bits), ("hustings/heard.errBad", Rows.laid_hustings_heard_errBad), ("hustings/heard.errPass", Rows.laid_hustings_heard_errPass)] = true := by
 unfold Program.listedFits
 rw [YW]
 kernel_rfl
theorem tie : Tryz.prog.laidByTextLater [("hustings/conf.words", Rows.laid_hustings_conf_words), ("unicode/utf8.acceptRanges", Rows.laid_unicode_utf8_acceptRanges), ("strconv.ErrSyntax", Rows.laid_strconv_ErrSyntax), ("strconv.ErrRange", Rows.laid_strconv_ErrRange), ("internal/strconv.uint64pow10", Rows.laid_internal_strconv_uint64pow10), ("math/bits.deBruijn32tab", Rows.laid_math_bits_deBruijn32tab), ("math/bits.deBruijn64tab", Rows.laid_math_bits_deBruijn64tab), ("errors.errorType", Rows.laid_errors_errorType), ("hustings/head.bits", Rows.laid_hustings_head_bits), ("hustings/heard.errBad", Rows.laid_hustings_heard_errBad), ("hustings/heard.errPass", Rows.laid_hustings_heard_errPass)] [.data, .data, .sentinel, .sentinel, .data, .data, .data, .handle, .data, .sentinel, .sentinel] true :=
 Program.laidByTextLater_by_run_h 400 8 agM afJ ach agN agO agP agQ agR agS agT
theorem YX : Rows.scriptParsesRow.laidByTextAt .later Tryz.pinned [.data, .pinned, .data, .sentinel, .sentinel, .data, .data, .data, .handle, .data, .sentinel, .sentinel] true :=
 OpenClaim.laidByTextAt_pinned rfl rfl tie rfl rfl rfl rfl (fun y hy _e => by
  simp only [Rows.scriptParsesRow, List.zip_cons_cons, List.zip_nil_right, List.mem_cons, List.mem_nil_iff, or_false] at hy
  rcases hy with rfl | rfl | rfl | rfl | rfl | rfl | rfl | rfl | rfl | rfl | rfl | rfl
  · cases _e
  · exact ⟨kX, by kernel_rfl⟩
  · cases _e
  · cases _e
  · cases _e
  · cases _e
  · cases _e
  · cases _e
  · cases _e
  · cases _e
  · cases _e
  · cases _e) afV
theorem zg : Rows.scriptFirstRow.laidByTextAt .later Tryz.pinned [.data, .pinned, .data, .sentinel, .sentinel, .data, .data, .data, .handle, .data, .sentinel, .sentinel] true :=
 OpenClaim.laidByTextAt_pinned rfl rfl tie rfl rfl rfl rfl (fun y hy _e => by
  simp only [Rows.scriptFirstRow, List.zip_cons_cons, List.zip_nil_right, List.mem_cons, List.mem_nil_iff, or_false] at hy
  rcases hy with rfl | rfl | rfl | rfl | rfl | rfl | rfl | rfl | rfl | rfl | rfl | rfl
  · cases _e
  · exact ⟨kX, by kernel_rfl⟩
  · cases _e
  · cases _e
  · cases _e
  · cases _e
  · cases _e
  · cases _e
  · cases _e
  · cases _e
  · cases _e
  · cases _e) afV
end Go.Proofs.YtgjlbilcnlffgaaGreatDoor
