/-
  DERIVED. GIVEN WITH THE SEED: THE CARDS: each row of YtmnckhmmcnbaiaaGreatDoorRows.lean that lists a variable, with what it lists TIED to the program's text (the seventh form; the later family's looks); each row that meets fmt, with fmt's text TOLD by the authors' own Lean function (tested against real Go, not proved from fmt's source: count such statements apart). THE CARD IS WHAT COUNTS. Prove the row's statement (the work); the ties are given (YtmnckhmmcnbaiaaGreatDoorTie.lean); close each card by the builder's one call (the guide's Derived/Test/ToyasCard.lean, 'card_holds'). Laid BY PROGRAM, IN A SANDBOX (cutbox-door.mjs). By AI agents, Wed Nov 11 2026. No macro, syntax, notation, axiom, sorry.
-/
import Derived.Test.YtmnckhmmcnbaiaaGreatDoorRows
import GoSem.ClaimSeven
namespace Go.Proofs.YtmnckhmmcnbaiaaGreatDoor
namespace Rows

/-- THE TIED CARD OF 'cisternlaw20.CacheHandles'. -/
def cacheHandlesCard : Claim7 := { stood := { row := cacheHandlesRow, standIns := [], harness := (true, "fef889aae83ce77689c2deb87fd6d1adbd283c1442b7534d248a0754f94d4a8e"), looks := true }, kinds := [], alts := [], laidByText := true, laidKinds := [.pinned, .data, .data, .data, .data, .sentinel, .sentinel], laidTests := true, laidLooks := .later }
def CacheHandlesCardSaid : Prop := Claim7.holds Tryz.pinned (.plain (OpenSpec.ofChange cacheHandlesSpec)) cacheHandlesCard

/-- THE TIED CARD OF 'cisternlaw20.CacheClocks'. -/
def cacheClocksCard : Claim7 := { stood := { row := cacheClocksRow, standIns := [], harness := (true, "fef889aae83ce77689c2deb87fd6d1adbd283c1442b7534d248a0754f94d4a8e"), looks := true }, kinds := [], alts := [], laidByText := true, laidKinds := [.pinned, .data, .data, .data, .data, .sentinel, .sentinel], laidTests := true, laidLooks := .later }
def CacheClocksCardSaid : Prop := Claim7.holds Tryz.pinned (.plain (OpenSpec.ofChange cacheClocksSpec)) cacheClocksCard

/-- THE TIED CARD OF 'cisternlaw20.CacheForeign'. -/
def cacheForeignCard : Claim7 := { stood := { row := cacheForeignRow, standIns := [], harness := (true, "fef889aae83ce77689c2deb87fd6d1adbd283c1442b7534d248a0754f94d4a8e"), looks := true }, kinds := [], alts := [], laidByText := true, laidKinds := [.pinned, .data, .data, .data, .data, .sentinel, .sentinel], laidTests := true, laidLooks := .later }
def CacheForeignCardSaid : Prop := Claim7.holds Tryz.pinned (.plain (OpenSpec.ofChange cacheForeignSpec)) cacheForeignCard

/-- THE TIED CARD OF 'cisternlaw20.CacheDown'. -/
def cacheDownCard : Claim7 := { stood := { row := cacheDownRow, standIns := [], harness := (true, "fef889aae83ce77689c2deb87fd6d1adbd283c1442b7534d248a0754f94d4a8e"), looks := true }, kinds := [], alts := [], laidByText := true, laidKinds := [.pinned, .data, .data, .data, .data, .sentinel, .sentinel], laidTests := true, laidLooks := .later }
def CacheDownCardSaid : Prop := Claim7.holds Tryz.pinned (.plain (OpenSpec.ofChange cacheDownSpec)) cacheDownCard

/-- THE TIED CARD OF 'cisternlaw20.CacheSettings'. -/
def cacheSettingsCard : Claim7 := { stood := { row := cacheSettingsRow, standIns := [], harness := (true, "fef889aae83ce77689c2deb87fd6d1adbd283c1442b7534d248a0754f94d4a8e"), looks := true }, kinds := [], alts := [], laidByText := true, laidKinds := [.pinned, .data, .data, .data, .data, .sentinel, .sentinel], laidTests := true, laidLooks := .later }
def CacheSettingsCardSaid : Prop := Claim7.holds Tryz.pinned (.plain (OpenSpec.ofChange cacheSettingsSpec)) cacheSettingsCard

/-- THE SECOND FORM's CARD OF 'cisternlaw20.CacheHandles'. -/
def cacheHandlesUptoCard : Claim7 := { stood := { row := cacheHandlesUptoRow, standIns := [], harness := (true, "fef889aae83ce77689c2deb87fd6d1adbd283c1442b7534d248a0754f94d4a8e"), looks := true }, kinds := [], alts := [], laidByText := true, laidKinds := [.pinned, .data, .data, .data, .data, .sentinel, .sentinel], laidTests := true, laidLooks := .later }
def CacheHandlesUptoCardSaid : Prop := Claim7.holds Tryz.pinned (.plain (OpenSpec.upto cacheHandlesSpec)) cacheHandlesUptoCard

/-- THE SECOND FORM's CARD OF 'cisternlaw20.CacheClocks'. -/
def cacheClocksUptoCard : Claim7 := { stood := { row := cacheClocksUptoRow, standIns := [], harness := (true, "fef889aae83ce77689c2deb87fd6d1adbd283c1442b7534d248a0754f94d4a8e"), looks := true }, kinds := [], alts := [], laidByText := true, laidKinds := [.pinned, .data, .data, .data, .data, .sentinel, .sentinel], laidTests := true, laidLooks := .later }
def CacheClocksUptoCardSaid : Prop := Claim7.holds Tryz.pinned (.plain (OpenSpec.upto cacheClocksSpec)) cacheClocksUptoCard

/-- THE SECOND FORM's CARD OF 'cisternlaw20.CacheForeign'. -/
def cacheForeignUptoCard : Claim7 := { stood := { row := cacheForeignUptoRow, standIns := [], harness := (true, "fef889aae83ce77689c2deb87fd6d1adbd283c1442b7534d248a0754f94d4a8e"), looks := true }, kinds := [], alts := [], laidByText := true, laidKinds := [.pinned, .data, .data, .data, .data, .sentinel, .sentinel], laidTests := true, laidLooks := .later }
def CacheForeignUptoCardSaid : Prop := Claim7.holds Tryz.pinned (.plain (OpenSpec.upto cacheForeignSpec)) cacheForeignUptoCard

/-- THE SECOND FORM's CARD OF 'cisternlaw20.CacheDown'. -/
def cacheDownUptoCard : Claim7 := { stood := { row := cacheDownUptoRow, standIns := [], harness := (true, "fef889aae83ce77689c2deb87fd6d1adbd283c1442b7534d248a0754f94d4a8e"), looks := true }, kinds := [], alts := [], laidByText := true, laidKinds := [.pinned, .data, .data, .data, .data, .sentinel, .sentinel], laidTests := true, laidLooks := .later }
def CacheDownUptoCardSaid : Prop := Claim7.holds Tryz.pinned (.plain (OpenSpec.upto cacheDownSpec)) cacheDownUptoCard

/-- THE SECOND FORM's CARD OF 'cisternlaw20.CacheSettings'. -/
def cacheSettingsUptoCard : Claim7 := { stood := { row := cacheSettingsUptoRow, standIns := [], harness := (true, "fef889aae83ce77689c2deb87fd6d1adbd283c1442b7534d248a0754f94d4a8e"), looks := true }, kinds := [], alts := [], laidByText := true, laidKinds := [.pinned, .data, .data, .data, .data, .sentinel, .sentinel], laidTests := true, laidLooks := .later }
def CacheSettingsUptoCardSaid : Prop := Claim7.holds Tryz.pinned (.plain (OpenSpec.upto cacheSettingsSpec)) cacheSettingsUptoCard
end Rows
end Go.Proofs.YtmnckhmmcnbaiaaGreatDoor
