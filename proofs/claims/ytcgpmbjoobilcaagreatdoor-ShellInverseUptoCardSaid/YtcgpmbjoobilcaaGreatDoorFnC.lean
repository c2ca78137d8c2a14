/- Replies as texts, the program's way. -/
import Derived.Test.YtcgpmbjoobilcaaGreatDoorFnA
set_option linter.unusedSimpArgs false
set_option linter.unusedVariables false
namespace Go.Cis
open Go Go.Ax Go.Lx Go.Proofs
set_option maxRecDepth 100000
theorem join_sp (L P : List Asn) (v : Value) (xs : List Bs) (sep : Bs) (hv : IsSl 1 v (xs.map fun x => [S x]) L P) (hl : (Lib.join xs sep).length ≤ 1099511627776) (hn : xs.length ≤ 1099511627776) : Sp SEL 23 [v, S sep] L P (fun r L' P' => r = S (Lib.join xs sep) ∧ L' = L ∧ P' = P) := Sp.join rfl hv hl hn
theorem wordOf_len (d : Bs) : (wordOf d).length ≤ 2 * d.length + 1 := by
 unfold wordOf
 split
 ·simp
 ·rw [hexOf_len]; omega
end Go.Cis
/- Replies as texts, the document's way. -/
namespace Go.Cis
open Go Go.Ax Go.Lx Go.Proofs
set_option maxRecDepth 100000
end Go.Cis
/- ShellTells: for all replies both tell the same. -/
namespace Go.Cis
open Go Go.Ax Go.Lx Go.Proofs
set_option maxRecDepth 100000
end Go.Cis
