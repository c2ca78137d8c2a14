/- Kept calls: the machine runs them in the kernel. -/
import Derived.Test.YtmnckhmmcnbaiaaGreatDoorSeatEnv20
import Derived.Test.YtmnckhmmcnbaiaaGreatDoorSeatKh
set_option linter.unusedSimpArgs false
set_option linter.unusedVariables false
namespace Go.Proofs
open Go Go.Ax
theorem kh6_ran : ranB kh6 (callq SE20 100000 200 82 kh6.args kh6.memo.st pairK) = true := by decide +kernel
theorem kh6_ok : kh6.memo.Ok (callA SE20 100000 200) 82 := ms_ok kh6_ran (by decide +kernel)
theorem kh8_ran : ranB kh8 (callq SE20 100000 200 83 kh8.args kh8.memo.st pairK) = true := by decide +kernel
theorem kh8_ok : kh8.memo.Ok (callA SE20 100000 200) 83 := ms_ok kh8_ran (by decide +kernel)
end Go.Proofs
