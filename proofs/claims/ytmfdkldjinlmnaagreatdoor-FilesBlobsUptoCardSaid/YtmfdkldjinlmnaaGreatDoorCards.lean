/-
  DERIVED. GIVEN WITH THE SEED: THE CARDS: each row of YtmfdkldjinlmnaaGreatDoorRows.lean that lists a variable, with what it lists TIED to the program's text (the seventh form; the later family's looks); each row that meets fmt, with fmt's text TOLD by the authors' own Lean function (tested against real Go, not proved from fmt's source: count such statements apart). THE CARD IS WHAT COUNTS. Prove the row's statement (the work); the ties are given (YtmfdkldjinlmnaaGreatDoorTie.lean); close each card by the builder's one call (the guide's Derived/Test/ToyasCard.lean, 'card_holds'). Laid BY PROGRAM, IN A SANDBOX (cutbox-door.mjs). By AI agents, Wed Nov 11 2026. No macro, syntax, notation, axiom, sorry.
-/
import Derived.Test.YtmfdkldjinlmnaaGreatDoorRows
import GoSem.ClaimSeven
namespace Go.Proofs.YtmfdkldjinlmnaaGreatDoor
namespace Rows

/-- THE TIED CARD OF 'cisternlaw16.FilesBlobs'. -/
def filesBlobsCard : Claim7 := { stood := { row := filesBlobsRow, standIns := [], harness := (true, "7c1c02d08634a394fc0dabd30e9c677e9d7c51a64c485156bc46465ed9e0443f"), looks := true }, kinds := [], alts := [], laidByText := true, laidKinds := [.data, .data, .data, .data, .pinned], laidTests := true, laidLooks := .later }
def FilesBlobsCardSaid : Prop := Claim7.holds Tryz.pinned (.plain (OpenSpec.ofChange filesBlobsSpec)) filesBlobsCard

/-- THE TIED CARD OF 'cisternlaw17.ManifestNames'. -/
def manifestNamesCard : Claim7 := { stood := { row := manifestNamesRow, standIns := [], harness := (true, "7c1c02d08634a394fc0dabd30e9c677e9d7c51a64c485156bc46465ed9e0443f"), looks := true }, kinds := [], alts := [], laidByText := true, laidKinds := [.data, .data, .data, .data, .sentinel, .sentinel, .pinned], laidTests := true, laidLooks := .later }
def ManifestNamesCardSaid : Prop := Claim7.holds Tryz.pinned (.plain (OpenSpec.ofChange manifestNamesSpec)) manifestNamesCard

/-- THE SECOND FORM's CARD OF 'cisternlaw16.FilesBlobs'. -/
def filesBlobsUptoCard : Claim7 := { stood := { row := filesBlobsUptoRow, standIns := [], harness := (true, "7c1c02d08634a394fc0dabd30e9c677e9d7c51a64c485156bc46465ed9e0443f"), looks := true }, kinds := [], alts := [], laidByText := true, laidKinds := [.data, .data, .data, .data, .pinned], laidTests := true, laidLooks := .later }
def FilesBlobsUptoCardSaid : Prop := Claim7.holds Tryz.pinned (.plain (OpenSpec.upto filesBlobsSpec)) filesBlobsUptoCard

/-- THE SECOND FORM's CARD OF 'cisternlaw17.ManifestNames'. -/
def manifestNamesUptoCard : Claim7 := { stood := { row := manifestNamesUptoRow, standIns := [], harness := (true, "7c1c02d08634a394fc0dabd30e9c677e9d7c51a64c485156bc46465ed9e0443f"), looks := true }, kinds := [], alts := [], laidByText := true, laidKinds := [.data, .data, .data, .data, .sentinel, .sentinel, .pinned], laidTests := true, laidLooks := .later }
def ManifestNamesUptoCardSaid : Prop := Claim7.holds Tryz.pinned (.plain (OpenSpec.upto manifestNamesSpec)) manifestNamesUptoCard
end Rows
end Go.Proofs.YtmfdkldjinlmnaaGreatDoor
