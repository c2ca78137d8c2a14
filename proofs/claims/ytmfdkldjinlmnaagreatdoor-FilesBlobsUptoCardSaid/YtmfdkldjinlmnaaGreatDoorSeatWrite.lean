/- Kept calls of chapter 16's known: the machine runs them in the kernel. -/
import Derived.Test.YtmfdkldjinlmnaaGreatDoorSeatEnvP
set_option linter.unusedSimpArgs false
set_option linter.unusedVariables false
namespace Go.Proofs
open Go Go.Ax
theorem kc32_ran : ranB kc32 (callq SEP 100000 200 15 kc32.args kc32.memo.st pairK) = true := by decide +kernel
theorem kc32_ok : kc32.memo.Ok (callA SEP 100000 200) 15 := ms_ok kc32_ran (by decide +kernel)
theorem kc39_ran : ranB kc39 (callq SEP 100000 200 15 kc39.args kc39.memo.st pairK) = true := by decide +kernel
theorem kc39_ok : kc39.memo.Ok (callA SEP 100000 200) 15 := ms_ok kc39_ran (by decide +kernel)
end Go.Proofs
