/- Kept calls: the machine runs them in the kernel. -/
import Derived.Test.YtmnckhmmcnbaiaaGreatDoorSeatEnv20
import Derived.Test.YtmnckhmmcnbaiaaGreatDoorSeatKn
set_option linter.unusedSimpArgs false
set_option linter.unusedVariables false
namespace Go.Proofs
open Go Go.Ax
theorem kn1_ran : ranB kn1 (callq SE20 100000 200 9 kn1.args kn1.memo.st pairK) = true := by decide +kernel
theorem kn1_ok : kn1.memo.Ok (callA SE20 100000 200) 9 := ms_ok kn1_ran (by decide +kernel)
end Go.Proofs
