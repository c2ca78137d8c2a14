/- Kept calls: the machine runs them in the kernel. -/
import Derived.Test.YtcgpmbjoobilcaaGreatDoorSeatEnv21
import Derived.Test.YtcgpmbjoobilcaaGreatDoorSeatKn
set_option linter.unusedSimpArgs false
set_option linter.unusedVariables false
namespace Go.Proofs
open Go Go.Ax
theorem k212_ran : ranB k212 (callq SE21 100000 200 29 k212.args k212.memo.st pairK) = true := by decide +kernel
theorem k212_ok : k212.memo.Ok (callA SE21 100000 200) 29 := ms_ok k212_ran (by decide +kernel)
theorem k213_ran : ranB k213 (callq SE21 100000 200 29 k213.args k213.memo.st pairK) = true := by decide +kernel
theorem k213_ok : k213.memo.Ok (callA SE21 100000 200) 29 := ms_ok k213_ran (by decide +kernel)
end Go.Proofs
