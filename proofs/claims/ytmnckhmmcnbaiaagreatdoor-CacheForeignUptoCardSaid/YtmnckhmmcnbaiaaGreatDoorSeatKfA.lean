/- Kept calls: the machine runs them in the kernel. -/
import Derived.Test.YtmnckhmmcnbaiaaGreatDoorSeatEnv20
import Derived.Test.YtmnckhmmcnbaiaaGreatDoorSeatKf
set_option linter.unusedSimpArgs false
set_option linter.unusedVariables false
namespace Go.Proofs
open Go Go.Ax
theorem kf1_ran : ranB kf1 (callq SE20 100000 200 9 kf1.args kf1.memo.st pairK) = true := by decide +kernel
theorem kf1_ok : kf1.memo.Ok (callA SE20 100000 200) 9 := ms_ok kf1_ran (by decide +kernel)
end Go.Proofs
