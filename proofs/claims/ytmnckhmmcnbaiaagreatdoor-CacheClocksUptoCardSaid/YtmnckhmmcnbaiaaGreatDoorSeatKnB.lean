/- Kept calls: the machine runs them in the kernel. -/
import Derived.Test.YtmnckhmmcnbaiaaGreatDoorSeatEnv20
import Derived.Test.YtmnckhmmcnbaiaaGreatDoorSeatKn
set_option linter.unusedSimpArgs false
set_option linter.unusedVariables false
namespace Go.Proofs
open Go Go.Ax
theorem kn2_ran : ranB kn2 (callq SE20 100000 200 11 kn2.args kn2.memo.st pairK) = true := by decide +kernel
theorem kn2_ok : kn2.memo.Ok (callA SE20 100000 200) 11 := ms_ok kn2_ran (by decide +kernel)
theorem kn3_ran : ranB kn3 (callq SE20 100000 200 11 kn3.args kn3.memo.st pairK) = true := by decide +kernel
theorem kn3_ok : kn3.memo.Ok (callA SE20 100000 200) 11 := ms_ok kn3_ran (by decide +kernel)
end Go.Proofs
