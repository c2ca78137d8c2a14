/- This seat's machine, with texts joined and bytes looked for. -/
import Derived.Test.YtcgpmbjoobilcaaGreatDoorSgD
import Derived.Test.YtcgpmbjoobilcaaGreatDoorLxD
set_option linter.unusedSimpArgs false
set_option linter.unusedVariables false
namespace Go.Proofs
open Go Go.RowKit Go.Ax
noncomputable section
def SPrim21 : T (List Value → AS → Option (Value × AS)) := (SPrim20.set 23 joinP).set 258 idxP
def SE21 : Env := { P := Tryz.prog, ty := Tryz.tyTab, fn := Tryz.fnTab, prim := SPrim21, back := fun g => Nat.beq g 212 }
end
end Go.Proofs
