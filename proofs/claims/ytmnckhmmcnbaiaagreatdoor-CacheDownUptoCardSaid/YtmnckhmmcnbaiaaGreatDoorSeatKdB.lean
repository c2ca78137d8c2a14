/- Kept calls: the machine runs them in the kernel. -/
import Derived.Test.YtmnckhmmcnbaiaaGreatDoorSeatEnv20
import Derived.Test.YtmnckhmmcnbaiaaGreatDoorSeatKd
set_option linter.unusedSimpArgs false
set_option linter.unusedVariables false
namespace Go.Proofs
open Go Go.Ax
theorem kd4_ran : ranB kd4 (callq SE20 100000 200 15 kd4.args kd4.memo.st pairK) = true := by decide +kernel
theorem kd4_ok : kd4.memo.Ok (callA SE20 100000 200) 15 := ms_ok kd4_ran (by decide +kernel)
theorem kd5_ran : ranB kd5 (callq SE20 100000 200 11 kd5.args kd5.memo.st pairK) = true := by decide +kernel
theorem kd5_ok : kd5.memo.Ok (callA SE20 100000 200) 11 := ms_ok kd5_ran (by decide +kernel)
end Go.Proofs
