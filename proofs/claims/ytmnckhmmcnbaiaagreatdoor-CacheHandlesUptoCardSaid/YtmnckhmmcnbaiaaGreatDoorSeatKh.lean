/- Kept calls: what they look at, what they answer and what they leave. (Printed by program.) -/
import Derived.Test.YtmnckhmmcnbaiaaGreatDoorAxG
set_option linter.unusedSimpArgs false
set_option linter.unusedVariables false
namespace Go.Proofs
open Go Go.Ax
noncomputable section
/-- (*cistern/names.Names).Look -/
def kh6 : MS where
  args := [.pointer (some ⟨1849, 0, none⟩), .string (nbS 2 26159)]
  nx := 6095
  pre := [(1325, .map [(.int .i64 (.ofNat 1), .string (nbS 68 674837069413568931451088160437974111788814773378544498817697658293604630192305401752793634080290622010606068378478830551689310847473726846128678796472485727503617)), (.int .i64 (.ofNat 0), .string (nbS 7 83886420))]),
    (1326, .cells [.pointer (some ⟨1005, 0, none⟩), .pointer (some ⟨1357, 0, none⟩), .int .i64 (.ofNat 120), .int .i64 (.ofNat 160), .int .i64 (.ofNat 2), .int .i64 (.ofNat 1), .map (some 1324), .map (some 1325), .int .i64 (.ofNat 1)] 9 171966464),
    (1572, .cells [.pointer (some ⟨1326, 0, none⟩), .pointer (some ⟨1626, 0, none⟩), .int .i64 (.ofNat 1), .int .i64 (.ofNat 5), .int .i64 (.ofNat 1)] 5 228589568),
    (1849, .cells [.pointer (some ⟨1572, 0, none⟩)] 1 244318208)]
  ans := .tuple #[.int .i64 (.ofNat 2), .int .i64 (.ofNat 0)]
  nx' := 6795
  post := [(1325, .map [(.int .i64 (.ofNat 1), .string (nbS 68 674837069413568931451088160437974111788814773378544498817697658293604630192305401752793634080290622010606068378478830551689310847473726846128678796472485727503617)), (.int .i64 (.ofNat 0), .string (nbS 7 83886420))]),
    (1326, .cells [.pointer (some ⟨1005, 0, none⟩), .pointer (some ⟨1357, 0, none⟩), .int .i64 (.ofNat 120), .int .i64 (.ofNat 160), .int .i64 (.ofNat 2), .int .i64 (.ofNat 1), .map (some 1324), .map (some 1325), .int .i64 (.ofNat 1)] 9 171966464),
    (1572, .cells [.pointer (some ⟨1326, 0, none⟩), .pointer (some ⟨1626, 0, none⟩), .int .i64 (.ofNat 1), .int .i64 (.ofNat 5), .int .i64 (.ofNat 1)] 5 228589568),
    (1849, .cells [.pointer (some ⟨1572, 0, none⟩)] 1 244318208)]
/-- (*cistern/names.Names).Info -/
def kh8 : MS where
  args := [.pointer (some ⟨1849, 0, none⟩), .int .i64 (.ofNat 2)]
  nx := 6095
  pre := [(1325, .map [(.int .i64 (.ofNat 1), .string (nbS 68 674837069413568931451088160437974111788814773378544498817697658293604630192305401752793634080290622010606068378478830551689310847473726846128678796472485727503617)), (.int .i64 (.ofNat 0), .string (nbS 7 83886420))]),
    (1326, .cells [.pointer (some ⟨1005, 0, none⟩), .pointer (some ⟨1357, 0, none⟩), .int .i64 (.ofNat 120), .int .i64 (.ofNat 160), .int .i64 (.ofNat 2), .int .i64 (.ofNat 1), .map (some 1324), .map (some 1325), .int .i64 (.ofNat 1)] 9 171966464),
    (1572, .cells [.pointer (some ⟨1326, 0, none⟩), .pointer (some ⟨1626, 0, none⟩), .int .i64 (.ofNat 1), .int .i64 (.ofNat 5), .int .i64 (.ofNat 1)] 5 228589568),
    (1849, .cells [.pointer (some ⟨1572, 0, none⟩)] 1 244318208)]
  ans := .tuple #[.agg #[.int .i64 (.ofNat 2), .int .i64 (.ofNat 1), .int .i64 (.ofNat 0), .int .i64 (.ofNat 1)], .int .i64 (.ofNat 0)]
  nx' := 6331
  post := [(1325, .map [(.int .i64 (.ofNat 1), .string (nbS 68 674837069413568931451088160437974111788814773378544498817697658293604630192305401752793634080290622010606068378478830551689310847473726846128678796472485727503617)), (.int .i64 (.ofNat 0), .string (nbS 7 83886420))]),
    (1326, .cells [.pointer (some ⟨1005, 0, none⟩), .pointer (some ⟨1357, 0, none⟩), .int .i64 (.ofNat 120), .int .i64 (.ofNat 160), .int .i64 (.ofNat 2), .int .i64 (.ofNat 1), .map (some 1324), .map (some 1325), .int .i64 (.ofNat 1)] 9 171966464),
    (1572, .cells [.pointer (some ⟨1326, 0, none⟩), .pointer (some ⟨1626, 0, none⟩), .int .i64 (.ofNat 1), .int .i64 (.ofNat 5), .int .i64 (.ofNat 1)] 5 228589568),
    (1849, .cells [.pointer (some ⟨1572, 0, none⟩)] 1 244318208)]
end
end Go.Proofs
