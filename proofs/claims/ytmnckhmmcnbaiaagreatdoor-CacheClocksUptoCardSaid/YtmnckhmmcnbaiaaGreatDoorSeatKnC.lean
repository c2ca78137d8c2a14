/- Kept calls: the machine runs them in the kernel. -/
import Derived.Test.YtmnckhmmcnbaiaaGreatDoorSeatEnv20
import Derived.Test.YtmnckhmmcnbaiaaGreatDoorSeatKn
set_option linter.unusedSimpArgs false
set_option linter.unusedVariables false
namespace Go.Proofs
open Go Go.Ax
theorem kn4_ran : ranB kn4 (callq SE20 100000 200 11 kn4.args kn4.memo.st pairK) = true := by decide +kernel
theorem kn4_ok : kn4.memo.Ok (callA SE20 100000 200) 11 := ms_ok kn4_ran (by decide +kernel)
theorem kn5_ran : ranB kn5 (callq SE20 100000 200 11 kn5.args kn5.memo.st pairK) = true := by decide +kernel
theorem kn5_ok : kn5.memo.Ok (callA SE20 100000 200) 11 := ms_ok kn5_ran (by decide +kernel)
end Go.Proofs
