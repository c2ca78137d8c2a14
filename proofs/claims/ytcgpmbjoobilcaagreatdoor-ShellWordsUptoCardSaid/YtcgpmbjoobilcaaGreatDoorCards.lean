/-
  DERIVED. GIVEN WITH THE SEED: THE CARDS: each row of YtcgpmbjoobilcaaGreatDoorRows.lean that lists a variable, with what it lists TIED to the program's text (the seventh form; the later family's looks); each row that meets fmt, with fmt's text TOLD by the authors' own Lean function (tested against real Go, not proved from fmt's source: count such statements apart). THE CARD IS WHAT COUNTS. Prove the row's statement (the work); the ties are given (YtcgpmbjoobilcaaGreatDoorTie.lean); close each card by the builder's one call (the guide's Derived/Test/ToyasCard.lean, 'card_holds'). Laid BY PROGRAM, IN A SANDBOX (cutbox-door.mjs). By AI agents, Wed Nov 11 2026. No macro, syntax, notation, axiom, sorry.
-/
import Derived.Test.YtcgpmbjoobilcaaGreatDoorRows
import GoSem.ClaimSeven
namespace Go.Proofs.YtcgpmbjoobilcaaGreatDoor
namespace Rows

/-- THE TIED CARD OF 'cisternlaw21.ShellTells'. -/
def shellTellsCard : Claim7 := { stood := { row := shellTellsRow, standIns := [], harness := (true, "d27ca9719b7bb74523ce45bc17815aac68ba05418da5f5e4e1df66608589ffdd"), looks := true }, kinds := [], alts := [], laidByText := true, laidKinds := [.pinned, .data, .data, .data, .data, .sentinel, .sentinel], laidTests := true, laidLooks := .later }
def ShellTellsCardSaid : Prop := Claim7.holds Tryz.pinned (.plain (OpenSpec.ofChange shellTellsSpec)) shellTellsCard

/-- THE TIED CARD OF 'cisternlaw21.ShellRefuses'. -/
def shellRefusesCard : Claim7 := { stood := { row := shellRefusesRow, standIns := [], harness := (true, "d27ca9719b7bb74523ce45bc17815aac68ba05418da5f5e4e1df66608589ffdd"), looks := true }, kinds := [], alts := [], laidByText := true, laidKinds := [.pinned, .data, .data, .data, .data, .sentinel, .sentinel], laidTests := true, laidLooks := .later }
def ShellRefusesCardSaid : Prop := Claim7.holds Tryz.pinned (.plain (OpenSpec.ofChange shellRefusesSpec)) shellRefusesCard

/-- THE TIED CARD OF 'cisternlaw21.ShellLines'. -/
def shellLinesCard : Claim7 := { stood := { row := shellLinesRow, standIns := [], harness := (true, "d27ca9719b7bb74523ce45bc17815aac68ba05418da5f5e4e1df66608589ffdd"), looks := true }, kinds := [], alts := [], laidByText := true, laidKinds := [.pinned, .data, .data, .data, .data, .sentinel, .sentinel], laidTests := true, laidLooks := .later }
def ShellLinesCardSaid : Prop := Claim7.holds Tryz.pinned (.plain (OpenSpec.ofChange shellLinesSpec)) shellLinesCard

/-- THE TIED CARD OF 'cisternlaw21.ShellInverse'. -/
def shellInverseCard : Claim7 := { stood := { row := shellInverseRow, standIns := [], harness := (true, "d27ca9719b7bb74523ce45bc17815aac68ba05418da5f5e4e1df66608589ffdd"), looks := true }, kinds := [], alts := [], laidByText := true, laidKinds := [.pinned, .data, .data, .data, .data, .sentinel, .sentinel], laidTests := true, laidLooks := .later }
def ShellInverseCardSaid : Prop := Claim7.holds Tryz.pinned (.plain (OpenSpec.ofChange shellInverseSpec)) shellInverseCard

/-- THE TIED CARD OF 'cisternlaw21.ShellWords'. -/
def shellWordsCard : Claim7 := { stood := { row := shellWordsRow, standIns := [], harness := (true, "d27ca9719b7bb74523ce45bc17815aac68ba05418da5f5e4e1df66608589ffdd"), looks := true }, kinds := [], alts := [], laidByText := true, laidKinds := [.pinned, .data, .data, .data, .data, .sentinel, .sentinel], laidTests := true, laidLooks := .later }
def ShellWordsCardSaid : Prop := Claim7.holds Tryz.pinned (.plain (OpenSpec.ofChange shellWordsSpec)) shellWordsCard

/-- THE SECOND FORM's CARD OF 'cisternlaw21.ShellTells'. -/
def shellTellsUptoCard : Claim7 := { stood := { row := shellTellsUptoRow, standIns := [], harness := (true, "d27ca9719b7bb74523ce45bc17815aac68ba05418da5f5e4e1df66608589ffdd"), looks := true }, kinds := [], alts := [], laidByText := true, laidKinds := [.pinned, .data, .data, .data, .data, .sentinel, .sentinel], laidTests := true, laidLooks := .later }
def ShellTellsUptoCardSaid : Prop := Claim7.holds Tryz.pinned (.plain (OpenSpec.upto shellTellsSpec)) shellTellsUptoCard

/-- THE SECOND FORM's CARD OF 'cisternlaw21.ShellRefuses'. -/
def shellRefusesUptoCard : Claim7 := { stood := { row := shellRefusesUptoRow, standIns := [], harness := (true, "d27ca9719b7bb74523ce45bc17815aac68ba05418da5f5e4e1df66608589ffdd"), looks := true }, kinds := [], alts := [], laidByText := true, laidKinds := [.pinned, .data, .data, .data, .data, .sentinel, .sentinel], laidTests := true, laidLooks := .later }
def ShellRefusesUptoCardSaid : Prop := Claim7.holds Tryz.pinned (.plain (OpenSpec.upto shellRefusesSpec)) shellRefusesUptoCard

/-- THE SECOND FORM's CARD OF 'cisternlaw21.ShellLines'. -/
def shellLinesUptoCard : Claim7 := { stood := { row := shellLinesUptoRow, standIns := [], harness := (true, "d27ca9719b7bb74523ce45bc17815aac68ba05418da5f5e4e1df66608589ffdd"), looks := true }, kinds := [], alts := [], laidByText := true, laidKinds := [.pinned, .data, .data, .data, .data, .sentinel, .sentinel], laidTests := true, laidLooks := .later }
def ShellLinesUptoCardSaid : Prop := Claim7.holds Tryz.pinned (.plain (OpenSpec.upto shellLinesSpec)) shellLinesUptoCard

/-- THE SECOND FORM's CARD OF 'cisternlaw21.ShellInverse'. -/
def shellInverseUptoCard : Claim7 := { stood := { row := shellInverseUptoRow, standIns := [], harness := (true, "d27ca9719b7bb74523ce45bc17815aac68ba05418da5f5e4e1df66608589ffdd"), looks := true }, kinds := [], alts := [], laidByText := true, laidKinds := [.pinned, .data, .data, .data, .data, .sentinel, .sentinel], laidTests := true, laidLooks := .later }
def ShellInverseUptoCardSaid : Prop := Claim7.holds Tryz.pinned (.plain (OpenSpec.upto shellInverseSpec)) shellInverseUptoCard

/-- THE SECOND FORM's CARD OF 'cisternlaw21.ShellWords'. -/
def shellWordsUptoCard : Claim7 := { stood := { row := shellWordsUptoRow, standIns := [], harness := (true, "d27ca9719b7bb74523ce45bc17815aac68ba05418da5f5e4e1df66608589ffdd"), looks := true }, kinds := [], alts := [], laidByText := true, laidKinds := [.pinned, .data, .data, .data, .data, .sentinel, .sentinel], laidTests := true, laidLooks := .later }
def ShellWordsUptoCardSaid : Prop := Claim7.holds Tryz.pinned (.plain (OpenSpec.upto shellWordsSpec)) shellWordsUptoCard
end Rows
end Go.Proofs.YtcgpmbjoobilcaaGreatDoor
