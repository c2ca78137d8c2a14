/- The tie, part 4: what they read as then. -/
import Derived.Test.YtcgpmbjoobilcaaGreatDoorSeatTieA
import Derived.LaidByTextLater
import Derived.SevenTiedAt
set_option linter.unusedSimpArgs false
set_option linter.unusedVariables false
namespace Go.Proofs.YtcgpmbjoobilcaaGreatDoor
open Go
set_option maxRecDepth 100000
theorem tieD (os : Os) (tape : Tape) : (DataW.laidRun Tryz.prog (varsWorld Tryz.prog 400 (varsId Tryz.prog) os tape).memory 8 (listed.map (·.1))).map (·.1) = some listed := by kernel_rfl
end Go.Proofs.YtcgpmbjoobilcaaGreatDoor
