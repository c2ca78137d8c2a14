/- Kept calls of chapter 16's known: the machine runs them in the kernel. -/
import Derived.Test.YtmfdkldjinlmnaaGreatDoorSeatKc16
set_option linter.unusedSimpArgs false
set_option linter.unusedVariables false
namespace Go.Proofs
open Go Go.Ax
theorem kc9_ran : ranB kc9 (callq SE16 100000 200 84 kc9.args kc9.memo.st pairK) = true := by decide +kernel
theorem kc9_ok : kc9.memo.Ok (callA SE16 100000 200) 84 := ms_ok kc9_ran (by decide +kernel)
theorem kc10_ran : ranB kc10 (callq SE16 100000 200 84 kc10.args kc10.memo.st pairK) = true := by decide +kernel
theorem kc10_ok : kc10.memo.Ok (callA SE16 100000 200) 84 := ms_ok kc10_ran (by decide +kernel)
theorem kc11_ran : ranB kc11 (callq SE16 100000 200 84 kc11.args kc11.memo.st pairK) = true := by decide +kernel
theorem kc11_ok : kc11.memo.Ok (callA SE16 100000 200) 84 := ms_ok kc11_ran (by decide +kernel)
theorem kc16_ran : ranB kc16 (callq SE16 100000 200 84 kc16.args kc16.memo.st pairK) = true := by decide +kernel
theorem kc16_ok : kc16.memo.Ok (callA SE16 100000 200) 84 := ms_ok kc16_ran (by decide +kernel)
theorem kc17_ran : ranB kc17 (callq SE16 100000 200 84 kc17.args kc17.memo.st pairK) = true := by decide +kernel
theorem kc17_ok : kc17.memo.Ok (callA SE16 100000 200) 84 := ms_ok kc17_ran (by decide +kernel)
theorem kc18_ran : ranB kc18 (callq SE16 100000 200 84 kc18.args kc18.memo.st pairK) = true := by decide +kernel
theorem kc18_ok : kc18.memo.Ok (callA SE16 100000 200) 84 := ms_ok kc18_ran (by decide +kernel)
end Go.Proofs
