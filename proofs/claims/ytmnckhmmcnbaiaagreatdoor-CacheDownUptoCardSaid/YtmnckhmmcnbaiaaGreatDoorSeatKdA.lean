/- Kept calls: the machine runs them in the kernel. -/
import Derived.Test.YtmnckhmmcnbaiaaGreatDoorSeatEnv20
import Derived.Test.YtmnckhmmcnbaiaaGreatDoorSeatKd
set_option linter.unusedSimpArgs false
set_option linter.unusedVariables false
namespace Go.Proofs
open Go Go.Ax
theorem kd2_ran : ranB kd2 (callq SE20 100000 200 11 kd2.args kd2.memo.st pairK) = true := by decide +kernel
theorem kd2_ok : kd2.memo.Ok (callA SE20 100000 200) 11 := ms_ok kd2_ran (by decide +kernel)
theorem kd3_ran : ranB kd3 (callq SE20 100000 200 11 kd3.args kd3.memo.st pairK) = true := by decide +kernel
theorem kd3_ok : kd3.memo.Ok (callA SE20 100000 200) 11 := ms_ok kd3_ran (by decide +kernel)
end Go.Proofs
