/- ChunkTight: for all inputs the law returns true: the card. -/
import Derived.Test.YtjadpdncjnokbaaGreatDoorSeatPlainChunkTight
import Derived.Test.YtjadpdncjnokbaaGreatDoorSeatNoGo
import Derived.Test.YtjadpdncjnokbaaGreatDoorTie
set_option linter.unusedSimpArgs false
set_option linter.unusedVariables false
namespace Go.Proofs.YtjadpdncjnokbaaGreatDoor.fnChunkTight
open Go.ChangeShapes Go.WideShapes Go.ChangeAt Go.ChangeMaps Go.RowKit Go.Ax Go.Lx Go.Cis
theorem cardUpto :Rows.ChunkTightUptoCardSaid:=
 Claim7.holds_tied_plain_at .later [] _ _ _ _ saidUpto (fun _ h=>by cases h) card_w (fun _ h=>by cases h) chunkTightUpto_row_tie rfl ⟨rfl,rfl⟩ card_m rfl plain (goesBy_of noGo rfl)
#print axioms cardUpto
end Go.Proofs.YtjadpdncjnokbaaGreatDoor.fnChunkTight
