/- CacheClocks: for all inputs the law returns true: the card. -/
import Derived.Test.YtmnckhmmcnbaiaaGreatDoorSeatPlainCacheClocks
import Derived.Test.YtmnckhmmcnbaiaaGreatDoorSeatNoGo
import Derived.Test.YtmnckhmmcnbaiaaGreatDoorSeatTies
set_option linter.unusedSimpArgs false
set_option linter.unusedVariables false
namespace Go.Proofs.YtmnckhmmcnbaiaaGreatDoor.fnCacheClocks
open Go.ChangeShapes Go.WideShapes Go.ChangeAt Go.ChangeMaps Go.RowKit Go.Ax
theorem cardUpto : Rows.CacheClocksUptoCardSaid :=
  Claim7.holds_tied_plain_at .later [] _ _ _ _ saidUpto (fun _ h => by cases h) card_w (fun _ h => by cases h) cacheClocksUpto_row_tie rfl ⟨rfl, rfl⟩ card_m rfl plain (goesBy_of noGo rfl)
#print axioms cardUpto
end Go.Proofs.YtmnckhmmcnbaiaaGreatDoor.fnCacheClocks
