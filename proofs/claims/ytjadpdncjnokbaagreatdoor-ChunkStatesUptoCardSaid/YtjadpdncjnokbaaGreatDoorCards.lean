/-
  DERIVED. GIVEN WITH THE SEED: THE CARDS: each row of YtjadpdncjnokbaaGreatDoorRows.lean that lists a variable, with what it lists TIED to the program's text (the seventh form; the later family's looks); each row that meets fmt, with fmt's text TOLD by the authors' own Lean function (tested against real Go, not proved from fmt's source: count such statements apart). THE CARD IS WHAT COUNTS. Prove the row's statement (the work); the ties are given (YtjadpdncjnokbaaGreatDoorTie.lean); close each card by the builder's one call (the guide's Derived/Test/ToyasCard.lean, 'card_holds'). Laid BY PROGRAM, IN A SANDBOX (cutbox-door.mjs). By AI agents, Wed Nov 11 2026. No macro, syntax, notation, axiom, sorry.
-/
import Derived.Test.YtjadpdncjnokbaaGreatDoorRows
import GoSem.ClaimSeven
namespace Go.Proofs.YtjadpdncjnokbaaGreatDoor
namespace Rows

/-- THE TIED CARD OF 'cisternlaw12.TreeFull'. -/
def treeFullCard : Claim7 := { stood := { row := treeFullRow, standIns := [], harness := (true, "bcfc29ef27f9b51b8c89837767fa362fe4adb2dec07bc612b5ae5f65d21cb3f7"), looks := true }, kinds := [], alts := [], laidByText := true, laidKinds := [.data, .data, .pinned], laidTests := true, laidLooks := .later }
def TreeFullCardSaid : Prop := Claim7.holds Tryz.pinned (.plain (OpenSpec.ofChange treeFullSpec)) treeFullCard

/-- THE TIED CARD OF 'cisternlaw15.ChunkTight'. -/
def chunkTightCard : Claim7 := { stood := { row := chunkTightRow, standIns := [], harness := (true, "bcfc29ef27f9b51b8c89837767fa362fe4adb2dec07bc612b5ae5f65d21cb3f7"), looks := true }, kinds := [], alts := [], laidByText := true, laidKinds := [.data, .data, .pinned], laidTests := true, laidLooks := .later }
def ChunkTightCardSaid : Prop := Claim7.holds Tryz.pinned (.plain (OpenSpec.ofChange chunkTightSpec)) chunkTightCard

/-- THE TIED CARD OF 'cisternlaw15.ChunkStates'. -/
def chunkStatesCard : Claim7 := { stood := { row := chunkStatesRow, standIns := [], harness := (true, "bcfc29ef27f9b51b8c89837767fa362fe4adb2dec07bc612b5ae5f65d21cb3f7"), looks := true }, kinds := [], alts := [], laidByText := true, laidKinds := [.data, .data, .pinned], laidTests := true, laidLooks := .later }
def ChunkStatesCardSaid : Prop := Claim7.holds Tryz.pinned (.plain (OpenSpec.ofChange chunkStatesSpec)) chunkStatesCard

/-- THE TIED CARD OF 'cisternlaw19.EvictSpares'. -/
def evictSparesCard : Claim7 := { stood := { row := evictSparesRow, standIns := [], harness := (true, "bcfc29ef27f9b51b8c89837767fa362fe4adb2dec07bc612b5ae5f65d21cb3f7"), looks := true }, kinds := [], alts := [], laidByText := true, laidKinds := [.data, .data, .pinned], laidTests := true, laidLooks := .later }
def EvictSparesCardSaid : Prop := Claim7.holds Tryz.pinned (.plain (OpenSpec.ofChange evictSparesSpec)) evictSparesCard

/-- THE TIED CARD OF 'cisternlaw15.ChunkCuts'. -/
def chunkCutsCard : Claim7 := { stood := { row := chunkCutsRow, standIns := [], harness := (true, "bcfc29ef27f9b51b8c89837767fa362fe4adb2dec07bc612b5ae5f65d21cb3f7"), looks := true }, kinds := [], alts := [], laidByText := true, laidKinds := [.data, .data, .pinned], laidTests := true, laidLooks := .later }
def ChunkCutsCardSaid : Prop := Claim7.holds Tryz.pinned (.plain (OpenSpec.ofChange chunkCutsSpec)) chunkCutsCard

/-- THE TIED CARD OF 'cisternlaw19.EvictKeeps'. -/
def evictKeepsCard : Claim7 := { stood := { row := evictKeepsRow, standIns := [], harness := (true, "bcfc29ef27f9b51b8c89837767fa362fe4adb2dec07bc612b5ae5f65d21cb3f7"), looks := true }, kinds := [], alts := [], laidByText := true, laidKinds := [.data, .data, .pinned], laidTests := true, laidLooks := .later }
def EvictKeepsCardSaid : Prop := Claim7.holds Tryz.pinned (.plain (OpenSpec.ofChange evictKeepsSpec)) evictKeepsCard

/-- THE TIED CARD OF 'cisternlaw19.EvictRounds'. -/
def evictRoundsCard : Claim7 := { stood := { row := evictRoundsRow, standIns := [], harness := (true, "bcfc29ef27f9b51b8c89837767fa362fe4adb2dec07bc612b5ae5f65d21cb3f7"), looks := true }, kinds := [], alts := [], laidByText := true, laidKinds := [.data, .data, .pinned], laidTests := true, laidLooks := .later }
def EvictRoundsCardSaid : Prop := Claim7.holds Tryz.pinned (.plain (OpenSpec.ofChange evictRoundsSpec)) evictRoundsCard

/-- THE TIED CARD OF 'cisternlaw19.EvictPlays'. -/
def evictPlaysCard : Claim7 := { stood := { row := evictPlaysRow, standIns := [], harness := (true, "bcfc29ef27f9b51b8c89837767fa362fe4adb2dec07bc612b5ae5f65d21cb3f7"), looks := true }, kinds := [], alts := [], laidByText := true, laidKinds := [.data, .data, .pinned], laidTests := true, laidLooks := .later }
def EvictPlaysCardSaid : Prop := Claim7.holds Tryz.pinned (.plain (OpenSpec.ofChange evictPlaysSpec)) evictPlaysCard

/-- THE TIED CARD OF 'cisternlaw15.ChunkLasts'. -/
def chunkLastsCard : Claim7 := { stood := { row := chunkLastsRow, standIns := [], harness := (true, "bcfc29ef27f9b51b8c89837767fa362fe4adb2dec07bc612b5ae5f65d21cb3f7"), looks := true }, kinds := [], alts := [], laidByText := true, laidKinds := [.data, .data, .pinned], laidTests := true, laidLooks := .later }
def ChunkLastsCardSaid : Prop := Claim7.holds Tryz.pinned (.plain (OpenSpec.ofChange chunkLastsSpec)) chunkLastsCard

/-- THE SECOND FORM's CARD OF 'cisternlaw12.TreeFull'. -/
def treeFullUptoCard : Claim7 := { stood := { row := treeFullUptoRow, standIns := [], harness := (true, "bcfc29ef27f9b51b8c89837767fa362fe4adb2dec07bc612b5ae5f65d21cb3f7"), looks := true }, kinds := [], alts := [], laidByText := true, laidKinds := [.data, .data, .pinned], laidTests := true, laidLooks := .later }
def TreeFullUptoCardSaid : Prop := Claim7.holds Tryz.pinned (.plain (OpenSpec.upto treeFullSpec)) treeFullUptoCard

/-- THE SECOND FORM's CARD OF 'cisternlaw15.ChunkTight'. -/
def chunkTightUptoCard : Claim7 := { stood := { row := chunkTightUptoRow, standIns := [], harness := (true, "bcfc29ef27f9b51b8c89837767fa362fe4adb2dec07bc612b5ae5f65d21cb3f7"), looks := true }, kinds := [], alts := [], laidByText := true, laidKinds := [.data, .data, .pinned], laidTests := true, laidLooks := .later }
def ChunkTightUptoCardSaid : Prop := Claim7.holds Tryz.pinned (.plain (OpenSpec.upto chunkTightSpec)) chunkTightUptoCard

/-- THE SECOND FORM's CARD OF 'cisternlaw15.ChunkStates'. -/
def chunkStatesUptoCard : Claim7 := { stood := { row := chunkStatesUptoRow, standIns := [], harness := (true, "bcfc29ef27f9b51b8c89837767fa362fe4adb2dec07bc612b5ae5f65d21cb3f7"), looks := true }, kinds := [], alts := [], laidByText := true, laidKinds := [.data, .data, .pinned], laidTests := true, laidLooks := .later }
def ChunkStatesUptoCardSaid : Prop := Claim7.holds Tryz.pinned (.plain (OpenSpec.upto chunkStatesSpec)) chunkStatesUptoCard

/-- THE SECOND FORM's CARD OF 'cisternlaw19.EvictSpares'. -/
def evictSparesUptoCard : Claim7 := { stood := { row := evictSparesUptoRow, standIns := [], harness := (true, "bcfc29ef27f9b51b8c89837767fa362fe4adb2dec07bc612b5ae5f65d21cb3f7"), looks := true }, kinds := [], alts := [], laidByText := true, laidKinds := [.data, .data, .pinned], laidTests := true, laidLooks := .later }
def EvictSparesUptoCardSaid : Prop := Claim7.holds Tryz.pinned (.plain (OpenSpec.upto evictSparesSpec)) evictSparesUptoCard

/-- THE SECOND FORM's CARD OF 'cisternlaw15.ChunkCuts'. -/
def chunkCutsUptoCard : Claim7 := { stood := { row := chunkCutsUptoRow, standIns := [], harness := (true, "bcfc29ef27f9b51b8c89837767fa362fe4adb2dec07bc612b5ae5f65d21cb3f7"), looks := true }, kinds := [], alts := [], laidByText := true, laidKinds := [.data, .data, .pinned], laidTests := true, laidLooks := .later }
def ChunkCutsUptoCardSaid : Prop := Claim7.holds Tryz.pinned (.plain (OpenSpec.upto chunkCutsSpec)) chunkCutsUptoCard

/-- THE SECOND FORM's CARD OF 'cisternlaw19.EvictKeeps'. -/
def evictKeepsUptoCard : Claim7 := { stood := { row := evictKeepsUptoRow, standIns := [], harness := (true, "bcfc29ef27f9b51b8c89837767fa362fe4adb2dec07bc612b5ae5f65d21cb3f7"), looks := true }, kinds := [], alts := [], laidByText := true, laidKinds := [.data, .data, .pinned], laidTests := true, laidLooks := .later }
def EvictKeepsUptoCardSaid : Prop := Claim7.holds Tryz.pinned (.plain (OpenSpec.upto evictKeepsSpec)) evictKeepsUptoCard

/-- THE SECOND FORM's CARD OF 'cisternlaw19.EvictRounds'. -/
def evictRoundsUptoCard : Claim7 := { stood := { row := evictRoundsUptoRow, standIns := [], harness := (true, "bcfc29ef27f9b51b8c89837767fa362fe4adb2dec07bc612b5ae5f65d21cb3f7"), looks := true }, kinds := [], alts := [], laidByText := true, laidKinds := [.data, .data, .pinned], laidTests := true, laidLooks := .later }
def EvictRoundsUptoCardSaid : Prop := Claim7.holds Tryz.pinned (.plain (OpenSpec.upto evictRoundsSpec)) evictRoundsUptoCard

/-- THE SECOND FORM's CARD OF 'cisternlaw19.EvictPlays'. -/
def evictPlaysUptoCard : Claim7 := { stood := { row := evictPlaysUptoRow, standIns := [], harness := (true, "bcfc29ef27f9b51b8c89837767fa362fe4adb2dec07bc612b5ae5f65d21cb3f7"), looks := true }, kinds := [], alts := [], laidByText := true, laidKinds := [.data, .data, .pinned], laidTests := true, laidLooks := .later }
def EvictPlaysUptoCardSaid : Prop := Claim7.holds Tryz.pinned (.plain (OpenSpec.upto evictPlaysSpec)) evictPlaysUptoCard

/-- THE SECOND FORM's CARD OF 'cisternlaw15.ChunkLasts'. -/
def chunkLastsUptoCard : Claim7 := { stood := { row := chunkLastsUptoRow, standIns := [], harness := (true, "bcfc29ef27f9b51b8c89837767fa362fe4adb2dec07bc612b5ae5f65d21cb3f7"), looks := true }, kinds := [], alts := [], laidByText := true, laidKinds := [.data, .data, .pinned], laidTests := true, laidLooks := .later }
def ChunkLastsUptoCardSaid : Prop := Claim7.holds Tryz.pinned (.plain (OpenSpec.upto chunkLastsSpec)) chunkLastsUptoCard
end Rows
end Go.Proofs.YtjadpdncjnokbaaGreatDoor
