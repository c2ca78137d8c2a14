/- The tie, part 5: where they lie. -/
import Derived.Test.YtcgpmbjoobilcaaGreatDoorSeatTieA
import Derived.LaidByTextLater
import Derived.SevenTiedAt
set_option linter.unusedSimpArgs false
set_option linter.unusedVariables false
namespace Go.Proofs.YtcgpmbjoobilcaaGreatDoor
open Go
set_option maxRecDepth 100000
theorem tieE (os : Os) (tape : Tape) : (DataW.laidRun Tryz.prog (varsWorld Tryz.prog 400 (varsId Tryz.prog) os tape).memory 8 (listed.map (·.1))).map (fun x => decide x.2.Nodup && laidRowsB Tryz.prog (varsWorld Tryz.prog 400 (varsId Tryz.prog) os tape).memory x.2) = some true := by kernel_rfl
end Go.Proofs.YtcgpmbjoobilcaaGreatDoor
