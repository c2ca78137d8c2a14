/- Kept calls: the machine runs them in the kernel. -/
import Derived.Test.YtmnckhmmcnbaiaaGreatDoorSeatEnv20
import Derived.Test.YtmnckhmmcnbaiaaGreatDoorSeatKi
set_option linter.unusedSimpArgs false
set_option linter.unusedVariables false
namespace Go.Proofs
open Go Go.Ax
theorem ki1_ran : ranB ki1 (callq SE20 100000 200 11 ki1.args ki1.memo.st pairK) = true := by decide +kernel
theorem ki1_ok : ki1.memo.Ok (callA SE20 100000 200) 11 := ms_ok ki1_ran (by decide +kernel)
end Go.Proofs
