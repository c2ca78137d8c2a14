/- Kept calls of chapter 16's known: the machine runs them in the kernel. -/
import Derived.Test.YtmfdkldjinlmnaaGreatDoorSeatKc16
set_option linter.unusedSimpArgs false
set_option linter.unusedVariables false
namespace Go.Proofs
open Go Go.Ax
theorem kc23_ran : ranB kc23 (callq SE16 100000 200 84 kc23.args kc23.memo.st pairK) = true := by decide +kernel
theorem kc23_ok : kc23.memo.Ok (callA SE16 100000 200) 84 := ms_ok kc23_ran (by decide +kernel)
theorem kc24_ran : ranB kc24 (callq SE16 100000 200 84 kc24.args kc24.memo.st pairK) = true := by decide +kernel
theorem kc24_ok : kc24.memo.Ok (callA SE16 100000 200) 84 := ms_ok kc24_ran (by decide +kernel)
theorem kc25_ran : ranB kc25 (callq SE16 100000 200 84 kc25.args kc25.memo.st pairK) = true := by decide +kernel
theorem kc25_ok : kc25.memo.Ok (callA SE16 100000 200) 84 := ms_ok kc25_ran (by decide +kernel)
theorem kc29_ran : ranB kc29 (callq SE16 100000 200 84 kc29.args kc29.memo.st pairK) = true := by decide +kernel
theorem kc29_ok : kc29.memo.Ok (callA SE16 100000 200) 84 := ms_ok kc29_ran (by decide +kernel)
end Go.Proofs
