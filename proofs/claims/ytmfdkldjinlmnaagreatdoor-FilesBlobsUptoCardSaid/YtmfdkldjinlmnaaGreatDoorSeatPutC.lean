/- Kept calls of chapter 16's known: the machine runs them in the kernel. -/
import Derived.Test.YtmfdkldjinlmnaaGreatDoorSeatKc16
set_option linter.unusedSimpArgs false
set_option linter.unusedVariables false
namespace Go.Proofs
open Go Go.Ax
theorem kc31_ran : ranB kc31 (callq SE16 100000 200 84 kc31.args kc31.memo.st pairK) = true := by decide +kernel
theorem kc31_ok : kc31.memo.Ok (callA SE16 100000 200) 84 := ms_ok kc31_ran (by decide +kernel)
theorem kc36_ran : ranB kc36 (callq SE16 100000 200 84 kc36.args kc36.memo.st pairK) = true := by decide +kernel
theorem kc36_ok : kc36.memo.Ok (callA SE16 100000 200) 84 := ms_ok kc36_ran (by decide +kernel)
theorem kc38_ran : ranB kc38 (callq SE16 100000 200 84 kc38.args kc38.memo.st pairK) = true := by decide +kernel
theorem kc38_ok : kc38.memo.Ok (callA SE16 100000 200) 84 := ms_ok kc38_ran (by decide +kernel)
end Go.Proofs
