/- The ties of this seat, in parts: the given text wants more memory than a process has here. -/
import Derived.Test.YtcgpmbjoobilcaaGreatDoorSeatTieA
import Derived.Test.YtcgpmbjoobilcaaGreatDoorSeatTieB
import Derived.Test.YtcgpmbjoobilcaaGreatDoorSeatTieC
import Derived.Test.YtcgpmbjoobilcaaGreatDoorSeatTieD
import Derived.Test.YtcgpmbjoobilcaaGreatDoorSeatTieE
import Derived.LaidByTextLater
import Derived.SevenTiedAt
set_option linter.unusedSimpArgs false
set_option linter.unusedVariables false
namespace Go.Proofs.YtcgpmbjoobilcaaGreatDoor
open Go
set_option maxRecDepth 100000
theorem pin_laid_unicode_utf8_first : Tryz.pinned.checked.prog.pinnedFits "unicode/utf8.first" = true := by kernel_rfl
theorem noOwnUnsafe : Tryz.pinned.checked.prog.headLifts.contains "ownunsafe" = false := by kernel_rfl
theorem fits1 : Tryz.pinned.checked.prog.listedFits [("unicode/utf8.first", Rows.laid_unicode_utf8_first), ("unicode/utf8.acceptRanges", Rows.laid_unicode_utf8_acceptRanges), ("math/bits.deBruijn64tab", Rows.laid_math_bits_deBruijn64tab), ("internal/strconv.uint64pow10", Rows.laid_internal_strconv_uint64pow10), ("math/bits.deBruijn32tab", Rows.laid_math_bits_deBruijn32tab), ("strconv.ErrSyntax", Rows.laid_strconv_ErrSyntax), ("strconv.ErrRange", Rows.laid_strconv_ErrRange)] = true := by
 unfold Program.listedFits
 rw [noOwnUnsafe]
 kernel_rfl
theorem tie : Tryz.prog.laidByTextLater listed [.data, .data, .data, .data, .sentinel, .sentinel] true :=
 Program.laidByTextLater_by_run 400 8 tieA1 tieA2 tieA3 tieA4 tieA5 tieB tieC tieD tieE
theorem shellWordsUpto_row_tie : Rows.shellWordsUptoRow.laidByTextAt .later Tryz.pinned [.pinned, .data, .data, .data, .data, .sentinel, .sentinel] true :=
 OpenClaim.laidByTextAt_pinned rfl rfl tie rfl rfl rfl rfl (fun y hy _e => by
  simp only [Rows.shellWordsUptoRow, List.zip_cons_cons, List.zip_nil_right, List.mem_cons, List.mem_nil_iff, or_false] at hy
  rcases hy with rfl | rfl | rfl | rfl | rfl | rfl | rfl
  ·exact ⟨pin_laid_unicode_utf8_first, by kernel_rfl⟩
  ·cases _e
  ·cases _e
  ·cases _e
  ·cases _e
  ·cases _e
  ·cases _e) fits1
end Go.Proofs.YtcgpmbjoobilcaaGreatDoor
