/- Kept calls: the machine runs them in the kernel. -/
import Derived.Test.YtcgpmbjoobilcaaGreatDoorSeatEnv21
import Derived.Test.YtcgpmbjoobilcaaGreatDoorSeatKn
set_option linter.unusedSimpArgs false
set_option linter.unusedVariables false
namespace Go.Proofs
open Go Go.Ax
theorem k211_ran : ranB k211 (callq SE21 100000 200 28 k211.args k211.memo.st pairK) = true := by decide +kernel
theorem k211_ok : k211.memo.Ok (callA SE21 100000 200) 28 := ms_ok k211_ran (by decide +kernel)
end Go.Proofs
