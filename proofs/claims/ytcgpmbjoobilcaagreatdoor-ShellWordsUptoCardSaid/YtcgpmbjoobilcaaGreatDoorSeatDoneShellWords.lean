/- ShellWords: for all inputs the law returns true: the card. -/
import Derived.Test.YtcgpmbjoobilcaaGreatDoorSeatPlainShellWords
import Derived.Test.YtcgpmbjoobilcaaGreatDoorSeatNoGo
import Derived.Test.YtcgpmbjoobilcaaGreatDoorSeatTies
set_option linter.unusedSimpArgs false
set_option linter.unusedVariables false
namespace Go.Proofs.YtcgpmbjoobilcaaGreatDoor.fnShellWords
open Go.ChangeShapes Go.WideShapes Go.ChangeAt Go.ChangeMaps Go.RowKit Go.Ax Go.Lx Go.Cis
theorem cardUpto : Rows.ShellWordsUptoCardSaid :=
 Claim7.holds_tied_plain_at .later [] _ _ _ _ saidUpto (fun _ h => by cases h) card_w (fun _ h => by cases h) shellWordsUpto_row_tie rfl ⟨rfl, rfl⟩ card_m rfl plain (goesBy_of noGo rfl)
#print axioms cardUpto
end Go.Proofs.YtcgpmbjoobilcaaGreatDoor.fnShellWords
