/- Kept calls: the machine runs them in the kernel. -/
import Derived.Test.YtcgpmbjoobilcaaGreatDoorSeatEnv21
import Derived.Test.YtcgpmbjoobilcaaGreatDoorSeatKn
set_option linter.unusedSimpArgs false
set_option linter.unusedVariables false
namespace Go.Proofs
open Go Go.Ax
theorem k215_ran : ranB k215 (callq SE21 100000 200 29 k215.args k215.memo.st pairK) = true := by decide +kernel
theorem k215_ok : k215.memo.Ok (callA SE21 100000 200) 29 := ms_ok k215_ran (by decide +kernel)
theorem k216_ran : ranB k216 (callq SE21 100000 200 29 k216.args k216.memo.st pairK) = true := by decide +kernel
theorem k216_ok : k216.memo.Ok (callA SE21 100000 200) 29 := ms_ok k216_ran (by decide +kernel)
end Go.Proofs
