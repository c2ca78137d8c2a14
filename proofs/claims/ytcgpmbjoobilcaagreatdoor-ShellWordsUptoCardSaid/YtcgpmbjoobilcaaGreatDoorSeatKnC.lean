/- Kept calls: the machine runs them in the kernel. -/
import Derived.Test.YtcgpmbjoobilcaaGreatDoorSeatEnv21
import Derived.Test.YtcgpmbjoobilcaaGreatDoorSeatKn
set_option linter.unusedSimpArgs false
set_option linter.unusedVariables false
namespace Go.Proofs
open Go Go.Ax
theorem k214_ran : ranB k214 (callq SE21 100000 200 29 k214.args k214.memo.st pairK) = true := by decide +kernel
theorem k214_ok : k214.memo.Ok (callA SE21 100000 200) 29 := ms_ok k214_ran (by decide +kernel)
end Go.Proofs
