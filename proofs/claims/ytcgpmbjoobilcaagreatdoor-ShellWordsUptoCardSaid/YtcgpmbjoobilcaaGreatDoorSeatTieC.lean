/- The tie, part 3: the run that lays them ends. -/
import Derived.Test.YtcgpmbjoobilcaaGreatDoorSeatTieA
import Derived.LaidByTextLater
import Derived.SevenTiedAt
set_option linter.unusedSimpArgs false
set_option linter.unusedVariables false
namespace Go.Proofs.YtcgpmbjoobilcaaGreatDoor
open Go
set_option maxRecDepth 100000
theorem tieC (os : Os) (tape : Tape) : varsDone Tryz.prog 400 (varsId Tryz.prog) os tape = true := by kernel_rfl
end Go.Proofs.YtcgpmbjoobilcaaGreatDoor
