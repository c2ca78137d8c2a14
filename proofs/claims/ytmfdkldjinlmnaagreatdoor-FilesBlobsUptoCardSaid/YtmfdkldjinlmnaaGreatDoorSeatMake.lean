/- Kept calls of chapter 16's known: the machine runs them in the kernel. -/
import Derived.Test.YtmfdkldjinlmnaaGreatDoorSeatEnvP
set_option linter.unusedSimpArgs false
set_option linter.unusedVariables false
namespace Go.Proofs
open Go Go.Ax
theorem kc12_ran : ranB kc12 (callq SEP 100000 200 35 kc12.args kc12.memo.st pairK) = true := by decide +kernel
theorem kc12_ok : kc12.memo.Ok (callA SEP 100000 200) 35 := ms_ok kc12_ran (by decide +kernel)
theorem kc19_ran : ranB kc19 (callq SEP 100000 200 35 kc19.args kc19.memo.st pairK) = true := by decide +kernel
theorem kc19_ok : kc19.memo.Ok (callA SEP 100000 200) 35 := ms_ok kc19_ran (by decide +kernel)
theorem kc26_ran : ranB kc26 (callq SEP 100000 200 35 kc26.args kc26.memo.st pairK) = true := by decide +kernel
theorem kc26_ok : kc26.memo.Ok (callA SEP 100000 200) 35 := ms_ok kc26_ran (by decide +kernel)
end Go.Proofs
