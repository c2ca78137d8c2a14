/- The tie, part 2: who names the variables. -/
import Derived.Test.YtcgpmbjoobilcaaGreatDoorSeatTieA
import Derived.LaidByTextLater
import Derived.SevenTiedAt
set_option linter.unusedSimpArgs false
set_option linter.unusedVariables false
namespace Go.Proofs.YtcgpmbjoobilcaaGreatDoor
open Go
set_option maxRecDepth 100000
theorem tieB : varsNamedLaterB Tryz.prog (varsId Tryz.prog) listed = true := by kernel_rfl
end Go.Proofs.YtcgpmbjoobilcaaGreatDoor
