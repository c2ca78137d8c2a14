/-
  NARROWER THAN 'FOR EVERY INPUT', by the rows' own cells (each row's printed sentence says how): TreeFull: laid · ChunkTight: laid · ChunkStates: laid · EvictSpares: laid · ChunkCuts: laid · EvictKeeps: laid · EvictRounds: laid · EvictPlays: laid · ChunkLasts: laid.
  DERIVED. THE GIVEN ROWS OF THIS SEAT. 9 by the template 'for every input the law returns true; each argument reads behind the call as it read before'; 0 by the template 'total and deterministic' (their statements: YtjadpdncjnokbaaGreatDoorTotals.lean).
  GIVEN WITH THE SEED: the statements are not yours to turn. If you find one false, say at which input.
  Laid BY PROGRAM, IN A SANDBOX (cutbox-rows.mjs): the forced cells as the released guide's own fill.sh prints them over the translation 63ebfe674ce04099… (all of the seat's roots in one cut). By AI agents, Wed Nov 11 2026. No macro, syntax, notation, axiom, sorry.
-/
import Derived.Test.YtjadpdncjnokbaaGreatDoorChecked
import GoSem.PinnedTables
import GoSem.Claim
import GoSem.ClaimJoined
import GoSem.ClaimMapViews
import Derived.JoinedTies
import Derived.KernelRfl
namespace Go.Proofs.YtjadpdncjnokbaaGreatDoor
/- THE CELL 'sum', in the pinned program and in every row, IS THE sha256 OF THE DUMP (.gsa) THAT YtjadpdncjnokbaaGreatDoorProg.lean LOADS. Nothing in Lean hashes anything: it is a label: what it is worth is what the hold of that sum in a sandbox is worth. -/
noncomputable def Tryz.pinned : Pinned := { name := "ytjadpdncjnokbaagreatdoor", sum := "63ebfe674ce04099510d0780e6ecad5b465b093bd9afbe73824e27e7c158a8dd", checked := Tryz.checked }
namespace Rows
def none {H : Type} : Left H := { results := [], args := [] }

/- WHAT THE LISTED PACKAGE-LEVEL VARIABLES READ AS WHEN THE CALL BEGINS. Each datum BY PROGRAM (the guide's laid-datum.mjs) off the statement by which the dump's own 'gosem.cut.vars' lays the variable. In a bare row this is a premise. The card (YtjadpdncjnokbaaGreatDoorCards.lean) ties it to the program's text. -/
def laid_math_bits_deBruijn64tab {H : Type} : DataW H := .agg [.lit (.int .u8 0), .lit (.int .u8 1), .lit (.int .u8 56), .lit (.int .u8 2), .lit (.int .u8 57), .lit (.int .u8 49), .lit (.int .u8 28), .lit (.int .u8 3), .lit (.int .u8 61), .lit (.int .u8 58), .lit (.int .u8 42), .lit (.int .u8 50), .lit (.int .u8 38), .lit (.int .u8 29), .lit (.int .u8 17), .lit (.int .u8 4), .lit (.int .u8 62), .lit (.int .u8 47), .lit (.int .u8 59), .lit (.int .u8 36), .lit (.int .u8 45), .lit (.int .u8 43), .lit (.int .u8 51), .lit (.int .u8 22), .lit (.int .u8 53), .lit (.int .u8 39), .lit (.int .u8 33), .lit (.int .u8 30), .lit (.int .u8 24), .lit (.int .u8 18), .lit (.int .u8 12), .lit (.int .u8 5), .lit (.int .u8 63), .lit (.int .u8 55), .lit (.int .u8 48), .lit (.int .u8 27), .lit (.int .u8 60), .lit (.int .u8 41), .lit (.int .u8 37), .lit (.int .u8 16), .lit (.int .u8 46), .lit (.int .u8 35), .lit (.int .u8 44), .lit (.int .u8 21), .lit (.int .u8 52), .lit (.int .u8 32), .lit (.int .u8 23), .lit (.int .u8 11), .lit (.int .u8 54), .lit (.int .u8 26), .lit (.int .u8 40), .lit (.int .u8 15), .lit (.int .u8 34), .lit (.int .u8 20), .lit (.int .u8 31), .lit (.int .u8 10), .lit (.int .u8 25), .lit (.int .u8 14), .lit (.int .u8 19), .lit (.int .u8 9), .lit (.int .u8 13), .lit (.int .u8 8), .lit (.int .u8 7), .lit (.int .u8 6)]
def laid_unicode_utf8_acceptRanges {H : Type} : DataW H := .agg [.agg [.lit (.int .u8 128), .lit (.int .u8 191)], .agg [.lit (.int .u8 160), .lit (.int .u8 191)], .agg [.lit (.int .u8 128), .lit (.int .u8 159)], .agg [.lit (.int .u8 144), .lit (.int .u8 191)], .agg [.lit (.int .u8 128), .lit (.int .u8 143)], .agg [.lit (.int .u8 0), .lit (.int .u8 0)], .agg [.lit (.int .u8 0), .lit (.int .u8 0)], .agg [.lit (.int .u8 0), .lit (.int .u8 0)], .agg [.lit (.int .u8 0), .lit (.int .u8 0)], .agg [.lit (.int .u8 0), .lit (.int .u8 0)], .agg [.lit (.int .u8 0), .lit (.int .u8 0)], .agg [.lit (.int .u8 0), .lit (.int .u8 0)], .agg [.lit (.int .u8 0), .lit (.int .u8 0)], .agg [.lit (.int .u8 0), .lit (.int .u8 0)], .agg [.lit (.int .u8 0), .lit (.int .u8 0)], .agg [.lit (.int .u8 0), .lit (.int .u8 0)]]
/-- One of Go's own tables, pinned by name: the form's constant. -/
def laid_unicode_utf8_first : DataW Unit := Go.Pinned.utf8First

/-- 'cisternlaw12.TreeFull': WHATEVER THE INPUT: true; the input reads as it did. -/
def treeFullSpec : ChangeSpec := { name := "treeFull", fn := fun _ => fun
  | [d1, d2] => { results := [.lit (.bool true)], args := [d1, d2] }
  | _ => none }
def treeFullRow : OpenClaim := { program := "ytjadpdncjnokbaagreatdoor", sum := "63ebfe674ce04099510d0780e6ecad5b465b093bd9afbe73824e27e7c158a8dd", func := "cistern/cisternlaw12.TreeFull", spec := "treeFull", inPlace := ["internal/abi.NoEscape", "internal/bytealg.MakeNoZero", "slices.overlaps[cistern/api.Pair]", "maps.clone"], unfollowed := true, recurses := true, named := ["unicode/utf8.first", "unicode/utf8.acceptRanges", "math/bits.deBruijn64tab"], plainKeys := false, apart := false, laid := [("math/bits.deBruijn64tab", laid_math_bits_deBruijn64tab), ("unicode/utf8.acceptRanges", laid_unicode_utf8_acceptRanges), ("unicode/utf8.first", laid_unicode_utf8_first)] }
def TreeFullSaid : Prop := treeFullRow.holds Tryz.pinned (OpenSpec.ofChange treeFullSpec)

/-- ITS FALSE NEIGHBOUR: 'it returns false'. Refute it at one input. -/
def treeFullWrong : ChangeSpec := { name := "treeFull", fn := fun _ => fun
  | [d1, d2] => { results := [.lit (.bool false)], args := [d1, d2] }
  | _ => none }
def TreeFullWrongFalsely : Prop := treeFullRow.holds Tryz.pinned (OpenSpec.ofChange treeFullWrong)

/-- 'cisternlaw15.ChunkTight': WHATEVER THE INPUT: true; the input reads as it did. -/
def chunkTightSpec : ChangeSpec := { name := "chunkTight", fn := fun _ => fun
  | [d1, d2] => { results := [.lit (.bool true)], args := [d1, d2] }
  | _ => none }
def chunkTightRow : OpenClaim := { program := "ytjadpdncjnokbaagreatdoor", sum := "63ebfe674ce04099510d0780e6ecad5b465b093bd9afbe73824e27e7c158a8dd", func := "cistern/cisternlaw15.ChunkTight", spec := "chunkTight", inPlace := ["internal/abi.NoEscape", "internal/bytealg.MakeNoZero", "slices.overlaps[cistern/api.Pair]", "maps.clone"], unfollowed := true, recurses := true, named := ["unicode/utf8.first", "unicode/utf8.acceptRanges", "math/bits.deBruijn64tab"], plainKeys := false, apart := false, laid := [("math/bits.deBruijn64tab", laid_math_bits_deBruijn64tab), ("unicode/utf8.acceptRanges", laid_unicode_utf8_acceptRanges), ("unicode/utf8.first", laid_unicode_utf8_first)] }
def ChunkTightSaid : Prop := chunkTightRow.holds Tryz.pinned (OpenSpec.ofChange chunkTightSpec)

/-- ITS FALSE NEIGHBOUR: 'it returns false'. Refute it at one input. -/
def chunkTightWrong : ChangeSpec := { name := "chunkTight", fn := fun _ => fun
  | [d1, d2] => { results := [.lit (.bool false)], args := [d1, d2] }
  | _ => none }
def ChunkTightWrongFalsely : Prop := chunkTightRow.holds Tryz.pinned (OpenSpec.ofChange chunkTightWrong)

/-- 'cisternlaw15.ChunkStates': WHATEVER THE INPUT: true; the input reads as it did. -/
def chunkStatesSpec : ChangeSpec := { name := "chunkStates", fn := fun _ => fun
  | [d1, d2] => { results := [.lit (.bool true)], args := [d1, d2] }
  | _ => none }
def chunkStatesRow : OpenClaim := { program := "ytjadpdncjnokbaagreatdoor", sum := "63ebfe674ce04099510d0780e6ecad5b465b093bd9afbe73824e27e7c158a8dd", func := "cistern/cisternlaw15.ChunkStates", spec := "chunkStates", inPlace := ["internal/abi.NoEscape", "internal/bytealg.MakeNoZero", "slices.overlaps[cistern/api.Pair]", "maps.clone"], unfollowed := true, recurses := true, named := ["unicode/utf8.first", "unicode/utf8.acceptRanges", "math/bits.deBruijn64tab"], plainKeys := false, apart := false, laid := [("math/bits.deBruijn64tab", laid_math_bits_deBruijn64tab), ("unicode/utf8.acceptRanges", laid_unicode_utf8_acceptRanges), ("unicode/utf8.first", laid_unicode_utf8_first)] }
def ChunkStatesSaid : Prop := chunkStatesRow.holds Tryz.pinned (OpenSpec.ofChange chunkStatesSpec)

/-- ITS FALSE NEIGHBOUR: 'it returns false'. Refute it at one input. -/
def chunkStatesWrong : ChangeSpec := { name := "chunkStates", fn := fun _ => fun
  | [d1, d2] => { results := [.lit (.bool false)], args := [d1, d2] }
  | _ => none }
def ChunkStatesWrongFalsely : Prop := chunkStatesRow.holds Tryz.pinned (OpenSpec.ofChange chunkStatesWrong)

/-- 'cisternlaw19.EvictSpares': WHATEVER THE INPUT: true; the input reads as it did. -/
def evictSparesSpec : ChangeSpec := { name := "evictSpares", fn := fun _ => fun
  | [d1, d2, d3] => { results := [.lit (.bool true)], args := [d1, d2, d3] }
  | _ => none }
def evictSparesRow : OpenClaim := { program := "ytjadpdncjnokbaagreatdoor", sum := "63ebfe674ce04099510d0780e6ecad5b465b093bd9afbe73824e27e7c158a8dd", func := "cistern/cisternlaw19.EvictSpares", spec := "evictSpares", inPlace := ["internal/abi.NoEscape", "internal/bytealg.MakeNoZero", "slices.overlaps[cistern/api.Pair]", "maps.clone"], unfollowed := true, recurses := true, named := ["unicode/utf8.first", "unicode/utf8.acceptRanges", "math/bits.deBruijn64tab"], plainKeys := false, apart := false, laid := [("math/bits.deBruijn64tab", laid_math_bits_deBruijn64tab), ("unicode/utf8.acceptRanges", laid_unicode_utf8_acceptRanges), ("unicode/utf8.first", laid_unicode_utf8_first)] }
def EvictSparesSaid : Prop := evictSparesRow.holds Tryz.pinned (OpenSpec.ofChange evictSparesSpec)

/-- ITS FALSE NEIGHBOUR: 'it returns false'. Refute it at one input. -/
def evictSparesWrong : ChangeSpec := { name := "evictSpares", fn := fun _ => fun
  | [d1, d2, d3] => { results := [.lit (.bool false)], args := [d1, d2, d3] }
  | _ => none }
def EvictSparesWrongFalsely : Prop := evictSparesRow.holds Tryz.pinned (OpenSpec.ofChange evictSparesWrong)

/-- 'cisternlaw15.ChunkCuts': WHATEVER THE INPUT: true; the input reads as it did. -/
def chunkCutsSpec : ChangeSpec := { name := "chunkCuts", fn := fun _ => fun
  | [d1, d2] => { results := [.lit (.bool true)], args := [d1, d2] }
  | _ => none }
def chunkCutsRow : OpenClaim := { program := "ytjadpdncjnokbaagreatdoor", sum := "63ebfe674ce04099510d0780e6ecad5b465b093bd9afbe73824e27e7c158a8dd", func := "cistern/cisternlaw15.ChunkCuts", spec := "chunkCuts", inPlace := ["internal/abi.NoEscape", "internal/bytealg.MakeNoZero", "slices.overlaps[cistern/api.Pair]", "maps.clone"], unfollowed := true, recurses := true, named := ["unicode/utf8.first", "unicode/utf8.acceptRanges", "math/bits.deBruijn64tab"], plainKeys := false, apart := false, laid := [("math/bits.deBruijn64tab", laid_math_bits_deBruijn64tab), ("unicode/utf8.acceptRanges", laid_unicode_utf8_acceptRanges), ("unicode/utf8.first", laid_unicode_utf8_first)] }
def ChunkCutsSaid : Prop := chunkCutsRow.holds Tryz.pinned (OpenSpec.ofChange chunkCutsSpec)

/-- ITS FALSE NEIGHBOUR: 'it returns false'. Refute it at one input. -/
def chunkCutsWrong : ChangeSpec := { name := "chunkCuts", fn := fun _ => fun
  | [d1, d2] => { results := [.lit (.bool false)], args := [d1, d2] }
  | _ => none }
def ChunkCutsWrongFalsely : Prop := chunkCutsRow.holds Tryz.pinned (OpenSpec.ofChange chunkCutsWrong)

/-- 'cisternlaw19.EvictKeeps': WHATEVER THE INPUT: true; the input reads as it did. -/
def evictKeepsSpec : ChangeSpec := { name := "evictKeeps", fn := fun _ => fun
  | [d1, d2, d3] => { results := [.lit (.bool true)], args := [d1, d2, d3] }
  | _ => none }
def evictKeepsRow : OpenClaim := { program := "ytjadpdncjnokbaagreatdoor", sum := "63ebfe674ce04099510d0780e6ecad5b465b093bd9afbe73824e27e7c158a8dd", func := "cistern/cisternlaw19.EvictKeeps", spec := "evictKeeps", inPlace := ["internal/abi.NoEscape", "internal/bytealg.MakeNoZero", "slices.overlaps[cistern/api.Pair]", "maps.clone"], unfollowed := true, recurses := true, named := ["unicode/utf8.first", "unicode/utf8.acceptRanges", "math/bits.deBruijn64tab"], plainKeys := false, apart := false, laid := [("math/bits.deBruijn64tab", laid_math_bits_deBruijn64tab), ("unicode/utf8.acceptRanges", laid_unicode_utf8_acceptRanges), ("unicode/utf8.first", laid_unicode_utf8_first)] }
def EvictKeepsSaid : Prop := evictKeepsRow.holds Tryz.pinned (OpenSpec.ofChange evictKeepsSpec)

/-- ITS FALSE NEIGHBOUR: 'it returns false'. Refute it at one input. -/
def evictKeepsWrong : ChangeSpec := { name := "evictKeeps", fn := fun _ => fun
  | [d1, d2, d3] => { results := [.lit (.bool false)], args := [d1, d2, d3] }
  | _ => none }
def EvictKeepsWrongFalsely : Prop := evictKeepsRow.holds Tryz.pinned (OpenSpec.ofChange evictKeepsWrong)

/-- 'cisternlaw19.EvictRounds': WHATEVER THE INPUT: true; the input reads as it did. -/
def evictRoundsSpec : ChangeSpec := { name := "evictRounds", fn := fun _ => fun
  | [d1, d2] => { results := [.lit (.bool true)], args := [d1, d2] }
  | _ => none }
def evictRoundsRow : OpenClaim := { program := "ytjadpdncjnokbaagreatdoor", sum := "63ebfe674ce04099510d0780e6ecad5b465b093bd9afbe73824e27e7c158a8dd", func := "cistern/cisternlaw19.EvictRounds", spec := "evictRounds", inPlace := ["internal/abi.NoEscape", "internal/bytealg.MakeNoZero", "slices.overlaps[cistern/api.Pair]", "maps.clone"], unfollowed := true, recurses := true, named := ["unicode/utf8.first", "unicode/utf8.acceptRanges", "math/bits.deBruijn64tab"], plainKeys := false, apart := false, laid := [("math/bits.deBruijn64tab", laid_math_bits_deBruijn64tab), ("unicode/utf8.acceptRanges", laid_unicode_utf8_acceptRanges), ("unicode/utf8.first", laid_unicode_utf8_first)] }
def EvictRoundsSaid : Prop := evictRoundsRow.holds Tryz.pinned (OpenSpec.ofChange evictRoundsSpec)

/-- ITS FALSE NEIGHBOUR: 'it returns false'. Refute it at one input. -/
def evictRoundsWrong : ChangeSpec := { name := "evictRounds", fn := fun _ => fun
  | [d1, d2] => { results := [.lit (.bool false)], args := [d1, d2] }
  | _ => none }
def EvictRoundsWrongFalsely : Prop := evictRoundsRow.holds Tryz.pinned (OpenSpec.ofChange evictRoundsWrong)

/-- 'cisternlaw19.EvictPlays': WHATEVER THE INPUT: true; the input reads as it did. -/
def evictPlaysSpec : ChangeSpec := { name := "evictPlays", fn := fun _ => fun
  | [d] => { results := [.lit (.bool true)], args := [d] }
  | _ => none }
def evictPlaysRow : OpenClaim := { program := "ytjadpdncjnokbaagreatdoor", sum := "63ebfe674ce04099510d0780e6ecad5b465b093bd9afbe73824e27e7c158a8dd", func := "cistern/cisternlaw19.EvictPlays", spec := "evictPlays", inPlace := ["internal/abi.NoEscape", "internal/bytealg.MakeNoZero", "slices.overlaps[cistern/api.Pair]", "maps.clone"], unfollowed := true, recurses := true, named := ["unicode/utf8.first", "unicode/utf8.acceptRanges", "math/bits.deBruijn64tab"], plainKeys := false, apart := false, laid := [("math/bits.deBruijn64tab", laid_math_bits_deBruijn64tab), ("unicode/utf8.acceptRanges", laid_unicode_utf8_acceptRanges), ("unicode/utf8.first", laid_unicode_utf8_first)] }
def EvictPlaysSaid : Prop := evictPlaysRow.holds Tryz.pinned (OpenSpec.ofChange evictPlaysSpec)

/-- ITS FALSE NEIGHBOUR: 'it returns false'. Refute it at one input. -/
def evictPlaysWrong : ChangeSpec := { name := "evictPlays", fn := fun _ => fun
  | [d] => { results := [.lit (.bool false)], args := [d] }
  | _ => none }
def EvictPlaysWrongFalsely : Prop := evictPlaysRow.holds Tryz.pinned (OpenSpec.ofChange evictPlaysWrong)

/-- 'cisternlaw15.ChunkLasts': WHATEVER THE INPUT: true; the input reads as it did. -/
def chunkLastsSpec : ChangeSpec := { name := "chunkLasts", fn := fun _ => fun
  | [d1, d2] => { results := [.lit (.bool true)], args := [d1, d2] }
  | _ => none }
def chunkLastsRow : OpenClaim := { program := "ytjadpdncjnokbaagreatdoor", sum := "63ebfe674ce04099510d0780e6ecad5b465b093bd9afbe73824e27e7c158a8dd", func := "cistern/cisternlaw15.ChunkLasts", spec := "chunkLasts", inPlace := ["internal/abi.NoEscape", "internal/bytealg.MakeNoZero", "slices.overlaps[cistern/api.Pair]", "maps.clone"], unfollowed := true, recurses := true, named := ["unicode/utf8.first", "unicode/utf8.acceptRanges", "math/bits.deBruijn64tab"], plainKeys := false, apart := false, laid := [("math/bits.deBruijn64tab", laid_math_bits_deBruijn64tab), ("unicode/utf8.acceptRanges", laid_unicode_utf8_acceptRanges), ("unicode/utf8.first", laid_unicode_utf8_first)] }
def ChunkLastsSaid : Prop := chunkLastsRow.holds Tryz.pinned (OpenSpec.ofChange chunkLastsSpec)

/-- ITS FALSE NEIGHBOUR: 'it returns false'. Refute it at one input. -/
def chunkLastsWrong : ChangeSpec := { name := "chunkLasts", fn := fun _ => fun
  | [d1, d2] => { results := [.lit (.bool false)], args := [d1, d2] }
  | _ => none }
def ChunkLastsWrongFalsely : Prop := chunkLastsRow.holds Tryz.pinned (OpenSpec.ofChange chunkLastsWrong)

/- THE SECOND FORM. 'bulk': how many values and letters a reading holds, each counted each time it is reached (what is shared counts as often as it is met; a slice's spare places count too). A statement '..UptoSaid' is the law's where the arguments, and the package variables that the reading takes, are together of bulk at most 1048576: NARROWER than '..Said'. Prove '..Said' where nothing that the law and all that it calls make is longer than what came in: it says more and counts as full. Else prove '..UptoSaid'. A law counts once. -/
mutual
def uptoBulk {H : Type} : DataW H → Nat
  | .lit (.string bytes) => bytes.length + 1
  | .lit _ => 1
  | .nil => 1
  | .ptr d => uptoBulk d + 1
  | .slice elems spare => uptoBulkAll elems + uptoBulkAll spare + 1
  | .agg parts => uptoBulkAll parts + 1
  | .iface _ d => uptoBulk d + 1
  | .map entries => uptoBulkEntries entries + 1
  | .held _ => 1
def uptoBulkAll {H : Type} : List (DataW H) → Nat
  | [] => 0
  | d :: r => uptoBulk d + uptoBulkAll r
def uptoBulkEntries {H : Type} : List (Lit × DataW H) → Nat
  | [] => 0
  | x :: r => uptoBulkEntry x + uptoBulkEntries r
def uptoBulkEntry {H : Type} : Lit × DataW H → Nat
  | (.string bytes, d) => bytes.length + uptoBulk d + 1
  | (_, d) => uptoBulk d + 1
 end
def uptoSmall : (H : Type) → List (DataW H) → Bool := fun _ ds => decide (uptoBulkAll ds ≤ 1048576)
def OpenSpec.upto (s : _root_.Go.ChangeSpec) : _root_.Go.OpenSpec := { _root_.Go.OpenSpec.ofChange s with cond := some uptoSmall }

/-- 'cisternlaw12.TreeFull', WHERE WHAT IT READS IS OF BULK AT MOST 1048576: true; the input reads as it did. -/
def treeFullUptoRow : OpenClaim := { program := "ytjadpdncjnokbaagreatdoor", sum := "63ebfe674ce04099510d0780e6ecad5b465b093bd9afbe73824e27e7c158a8dd", func := "cistern/cisternlaw12.TreeFull", spec := "treeFull", inPlace := ["internal/abi.NoEscape", "internal/bytealg.MakeNoZero", "slices.overlaps[cistern/api.Pair]", "maps.clone"], unfollowed := true, recurses := true, named := ["unicode/utf8.first", "unicode/utf8.acceptRanges", "math/bits.deBruijn64tab"], plainKeys := false, apart := false, laid := [("math/bits.deBruijn64tab", laid_math_bits_deBruijn64tab), ("unicode/utf8.acceptRanges", laid_unicode_utf8_acceptRanges), ("unicode/utf8.first", laid_unicode_utf8_first)], narrowed := true }
def TreeFullUptoSaid : Prop := treeFullUptoRow.holds Tryz.pinned (OpenSpec.upto treeFullSpec)

/-- 'cisternlaw15.ChunkTight', WHERE WHAT IT READS IS OF BULK AT MOST 1048576: true; the input reads as it did. -/
def chunkTightUptoRow : OpenClaim := { program := "ytjadpdncjnokbaagreatdoor", sum := "63ebfe674ce04099510d0780e6ecad5b465b093bd9afbe73824e27e7c158a8dd", func := "cistern/cisternlaw15.ChunkTight", spec := "chunkTight", inPlace := ["internal/abi.NoEscape", "internal/bytealg.MakeNoZero", "slices.overlaps[cistern/api.Pair]", "maps.clone"], unfollowed := true, recurses := true, named := ["unicode/utf8.first", "unicode/utf8.acceptRanges", "math/bits.deBruijn64tab"], plainKeys := false, apart := false, laid := [("math/bits.deBruijn64tab", laid_math_bits_deBruijn64tab), ("unicode/utf8.acceptRanges", laid_unicode_utf8_acceptRanges), ("unicode/utf8.first", laid_unicode_utf8_first)], narrowed := true }
def ChunkTightUptoSaid : Prop := chunkTightUptoRow.holds Tryz.pinned (OpenSpec.upto chunkTightSpec)

/-- 'cisternlaw15.ChunkStates', WHERE WHAT IT READS IS OF BULK AT MOST 1048576: true; the input reads as it did. -/
def chunkStatesUptoRow : OpenClaim := { program := "ytjadpdncjnokbaagreatdoor", sum := "63ebfe674ce04099510d0780e6ecad5b465b093bd9afbe73824e27e7c158a8dd", func := "cistern/cisternlaw15.ChunkStates", spec := "chunkStates", inPlace := ["internal/abi.NoEscape", "internal/bytealg.MakeNoZero", "slices.overlaps[cistern/api.Pair]", "maps.clone"], unfollowed := true, recurses := true, named := ["unicode/utf8.first", "unicode/utf8.acceptRanges", "math/bits.deBruijn64tab"], plainKeys := false, apart := false, laid := [("math/bits.deBruijn64tab", laid_math_bits_deBruijn64tab), ("unicode/utf8.acceptRanges", laid_unicode_utf8_acceptRanges), ("unicode/utf8.first", laid_unicode_utf8_first)], narrowed := true }
def ChunkStatesUptoSaid : Prop := chunkStatesUptoRow.holds Tryz.pinned (OpenSpec.upto chunkStatesSpec)

/-- 'cisternlaw19.EvictSpares', WHERE WHAT IT READS IS OF BULK AT MOST 1048576: true; the input reads as it did. -/
def evictSparesUptoRow : OpenClaim := { program := "ytjadpdncjnokbaagreatdoor", sum := "63ebfe674ce04099510d0780e6ecad5b465b093bd9afbe73824e27e7c158a8dd", func := "cistern/cisternlaw19.EvictSpares", spec := "evictSpares", inPlace := ["internal/abi.NoEscape", "internal/bytealg.MakeNoZero", "slices.overlaps[cistern/api.Pair]", "maps.clone"], unfollowed := true, recurses := true, named := ["unicode/utf8.first", "unicode/utf8.acceptRanges", "math/bits.deBruijn64tab"], plainKeys := false, apart := false, laid := [("math/bits.deBruijn64tab", laid_math_bits_deBruijn64tab), ("unicode/utf8.acceptRanges", laid_unicode_utf8_acceptRanges), ("unicode/utf8.first", laid_unicode_utf8_first)], narrowed := true }
def EvictSparesUptoSaid : Prop := evictSparesUptoRow.holds Tryz.pinned (OpenSpec.upto evictSparesSpec)

/-- 'cisternlaw15.ChunkCuts', WHERE WHAT IT READS IS OF BULK AT MOST 1048576: true; the input reads as it did. -/
def chunkCutsUptoRow : OpenClaim := { program := "ytjadpdncjnokbaagreatdoor", sum := "63ebfe674ce04099510d0780e6ecad5b465b093bd9afbe73824e27e7c158a8dd", func := "cistern/cisternlaw15.ChunkCuts", spec := "chunkCuts", inPlace := ["internal/abi.NoEscape", "internal/bytealg.MakeNoZero", "slices.overlaps[cistern/api.Pair]", "maps.clone"], unfollowed := true, recurses := true, named := ["unicode/utf8.first", "unicode/utf8.acceptRanges", "math/bits.deBruijn64tab"], plainKeys := false, apart := false, laid := [("math/bits.deBruijn64tab", laid_math_bits_deBruijn64tab), ("unicode/utf8.acceptRanges", laid_unicode_utf8_acceptRanges), ("unicode/utf8.first", laid_unicode_utf8_first)], narrowed := true }
def ChunkCutsUptoSaid : Prop := chunkCutsUptoRow.holds Tryz.pinned (OpenSpec.upto chunkCutsSpec)

/-- 'cisternlaw19.EvictKeeps', WHERE WHAT IT READS IS OF BULK AT MOST 1048576: true; the input reads as it did. -/
def evictKeepsUptoRow : OpenClaim := { program := "ytjadpdncjnokbaagreatdoor", sum := "63ebfe674ce04099510d0780e6ecad5b465b093bd9afbe73824e27e7c158a8dd", func := "cistern/cisternlaw19.EvictKeeps", spec := "evictKeeps", inPlace := ["internal/abi.NoEscape", "internal/bytealg.MakeNoZero", "slices.overlaps[cistern/api.Pair]", "maps.clone"], unfollowed := true, recurses := true, named := ["unicode/utf8.first", "unicode/utf8.acceptRanges", "math/bits.deBruijn64tab"], plainKeys := false, apart := false, laid := [("math/bits.deBruijn64tab", laid_math_bits_deBruijn64tab), ("unicode/utf8.acceptRanges", laid_unicode_utf8_acceptRanges), ("unicode/utf8.first", laid_unicode_utf8_first)], narrowed := true }
def EvictKeepsUptoSaid : Prop := evictKeepsUptoRow.holds Tryz.pinned (OpenSpec.upto evictKeepsSpec)

/-- 'cisternlaw19.EvictRounds', WHERE WHAT IT READS IS OF BULK AT MOST 1048576: true; the input reads as it did. -/
def evictRoundsUptoRow : OpenClaim := { program := "ytjadpdncjnokbaagreatdoor", sum := "63ebfe674ce04099510d0780e6ecad5b465b093bd9afbe73824e27e7c158a8dd", func := "cistern/cisternlaw19.EvictRounds", spec := "evictRounds", inPlace := ["internal/abi.NoEscape", "internal/bytealg.MakeNoZero", "slices.overlaps[cistern/api.Pair]", "maps.clone"], unfollowed := true, recurses := true, named := ["unicode/utf8.first", "unicode/utf8.acceptRanges", "math/bits.deBruijn64tab"], plainKeys := false, apart := false, laid := [("math/bits.deBruijn64tab", laid_math_bits_deBruijn64tab), ("unicode/utf8.acceptRanges", laid_unicode_utf8_acceptRanges), ("unicode/utf8.first", laid_unicode_utf8_first)], narrowed := true }
def EvictRoundsUptoSaid : Prop := evictRoundsUptoRow.holds Tryz.pinned (OpenSpec.upto evictRoundsSpec)

/-- 'cisternlaw19.EvictPlays', WHERE WHAT IT READS IS OF BULK AT MOST 1048576: true; the input reads as it did. -/
def evictPlaysUptoRow : OpenClaim := { program := "ytjadpdncjnokbaagreatdoor", sum := "63ebfe674ce04099510d0780e6ecad5b465b093bd9afbe73824e27e7c158a8dd", func := "cistern/cisternlaw19.EvictPlays", spec := "evictPlays", inPlace := ["internal/abi.NoEscape", "internal/bytealg.MakeNoZero", "slices.overlaps[cistern/api.Pair]", "maps.clone"], unfollowed := true, recurses := true, named := ["unicode/utf8.first", "unicode/utf8.acceptRanges", "math/bits.deBruijn64tab"], plainKeys := false, apart := false, laid := [("math/bits.deBruijn64tab", laid_math_bits_deBruijn64tab), ("unicode/utf8.acceptRanges", laid_unicode_utf8_acceptRanges), ("unicode/utf8.first", laid_unicode_utf8_first)], narrowed := true }
def EvictPlaysUptoSaid : Prop := evictPlaysUptoRow.holds Tryz.pinned (OpenSpec.upto evictPlaysSpec)

/-- 'cisternlaw15.ChunkLasts', WHERE WHAT IT READS IS OF BULK AT MOST 1048576: true; the input reads as it did. -/
def chunkLastsUptoRow : OpenClaim := { program := "ytjadpdncjnokbaagreatdoor", sum := "63ebfe674ce04099510d0780e6ecad5b465b093bd9afbe73824e27e7c158a8dd", func := "cistern/cisternlaw15.ChunkLasts", spec := "chunkLasts", inPlace := ["internal/abi.NoEscape", "internal/bytealg.MakeNoZero", "slices.overlaps[cistern/api.Pair]", "maps.clone"], unfollowed := true, recurses := true, named := ["unicode/utf8.first", "unicode/utf8.acceptRanges", "math/bits.deBruijn64tab"], plainKeys := false, apart := false, laid := [("math/bits.deBruijn64tab", laid_math_bits_deBruijn64tab), ("unicode/utf8.acceptRanges", laid_unicode_utf8_acceptRanges), ("unicode/utf8.first", laid_unicode_utf8_first)], narrowed := true }
def ChunkLastsUptoSaid : Prop := chunkLastsUptoRow.holds Tryz.pinned (OpenSpec.upto chunkLastsSpec)

end Rows
end Go.Proofs.YtjadpdncjnokbaaGreatDoor
