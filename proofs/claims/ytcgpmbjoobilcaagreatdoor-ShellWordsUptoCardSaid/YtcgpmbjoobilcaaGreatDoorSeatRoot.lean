/- The variables that the laws of this seat begin with: three tables. -/
import Derived.Test.YtcgpmbjoobilcaaGreatDoorFnC
import Derived.Test.YtcgpmbjoobilcaaGreatDoorLxC
import Derived.Test.YtcgpmbjoobilcaaGreatDoorCards
import Derived.WalkKit
import Derived.ProofKit
import Derived.OpenShut
import Derived.ChangeSlices
import Derived.Lib.LaidTab
import Derived.Lib.SmallJoins
import Derived.Deep.Strs
import Derived.Lay
import Derived.LaidMore
import Derived.Stop.LaidErr
set_option linter.unusedSimpArgs false
set_option linter.unusedVariables false
namespace Go.Proofs.YtcgpmbjoobilcaaGreatDoor
open Go.ChangeShapes Go.WideShapes Go.ChangeAt Go.ChangeMaps Go.RowKit Go.Ax Go.Lx
theorem own : ownKnob Tryz.prog.godebug = none := by kernel_rfl
def z64 : List Int := [0, 1, 56, 2, 57, 49, 28, 3, 61, 58, 42, 50, 38, 29, 17, 4, 62, 47, 59, 36, 45, 43, 51, 22, 53, 39, 33, 30, 24, 18, 12, 5, 63, 55, 48, 27, 60, 41, 37, 16, 46, 35, 44, 21, 52, 32, 23, 11, 54, 26, 40, 15, 34, 20, 31, 10, 25, 14, 19, 9, 13, 8, 7, 6]
def z32 : List Int := [0, 1, 28, 2, 29, 14, 24, 3, 30, 22, 20, 15, 25, 17, 4, 8, 31, 27, 13, 23, 21, 19, 16, 7, 26, 12, 18, 6, 11, 5, 10, 9]
def z10 : List Int := [1, 10, 100, 1000, 10000, 100000, 1000000, 10000000, 100000000, 1000000000, 10000000000, 100000000000, 1000000000000, 10000000000000, 100000000000000, 1000000000000000, 10000000000000000, 100000000000000000, 1000000000000000000, 10000000000000000000]
theorem g2 : Tryz.prog.globalNamed "math/bits.deBruijn64tab" = some 2 := by kernel_rfl
theorem g2t : (Tryz.prog.globals[2]?).map (·.type) = some 379 := by kernel_rfl
theorem g5 : Tryz.prog.globalNamed "math/bits.deBruijn32tab" = some 5 := by kernel_rfl
theorem g5t : (Tryz.prog.globals[5]?).map (·.type) = some 466 := by kernel_rfl
theorem g0 : Tryz.prog.globalNamed "internal/strconv.uint64pow10" = some 0 := by kernel_rfl
theorem g0t : (Tryz.prog.globals[0]?).map (·.type) = some 233 := by kernel_rfl
theorem u379 : Tryz.prog.underlying 379 = some (.array 64 5) := by kernel_rfl
theorem u466 : Tryz.prog.underlying 466 = some (.array 32 5) := by kernel_rfl
theorem u233 : Tryz.prog.underlying 233 = some (.array 20 37) := by kernel_rfl
theorem u5 : Tryz.prog.underlying 5 = some (.int .u8) := by kernel_rfl
theorem u37 : Tryz.prog.underlying 37 = some (.int .u64) := by kernel_rfl
theorem c5 : Tryz.prog.cellsOf 5 = 1 := by kernel_rfl
theorem c37 : Tryz.prog.cellsOf 37 = 1 := by kernel_rfl
theorem c379 : Tryz.prog.cellsOf 379 = 64 := by kernel_rfl
theorem c466 : Tryz.prog.cellsOf 466 = 32 := by kernel_rfl
theorem c233 : Tryz.prog.cellsOf 233 = 20 := by kernel_rfl
theorem c9 : Tryz.prog.cellsOf 9 = 1 := by kernel_rfl
theorem heap_of {W : World} {n : String} {g : Nat} {k : IntKind} {zs : List Int} (hg : Tryz.prog.globalNamed n = some g) (h : Lib.TabIs Tryz.prog W n k zs) : ∃ e fr, W.heap[g]? = some (.cells (zs.map fun z => Value.int k z).toArray e fr) := by
 unfold Lib.TabIs World.var? at h
 rw [hg] at h
 simp only [Option.bind_some] at h
 match hw : W.heap[g]?, h with
 | some (.cells cs t fr), h =>
  obtain rfl := Option.some.inj h
  exact ⟨t, fr, rfl⟩
 | none, h => cases h
 | some (.map _ _), h => cases h
structure LaidW (W : World) : Prop where
 t0 : ∃ e fr, W.heap[0]? = some (.cells (z10.map fun z => Value.int .u64 z).toArray e fr)
 t2 : ∃ e fr, W.heap[2]? = some (.cells (z64.map fun z => Value.int .u8 z).toArray e fr)
 t5 : ∃ e fr, W.heap[5]? = some (.cells (z32.map fun z => Value.int .u8 z).toArray e fr)
set_option maxRecDepth 100000 in
theorem laidW_of {W : World} (h : laidMetH Tryz.prog Rows.shellTellsUptoRow.laid W) : LaidW W := by
 rw [MakeChecks.laidMetH_plain _ _ _ (by kernel_rfl)] at h
 have a2 : Lib.TabIs Tryz.prog W "math/bits.deBruijn64tab" .u8 z64 := Lib.tabIs_of_head g2 g2t u379 u5 c5 c379 h.tail.tail
 have a0 : Lib.TabIs Tryz.prog W "internal/strconv.uint64pow10" .u64 z10 := Lib.tabIs_of_head g0 g0t u233 u37 c37 c233 h.tail.tail.tail
 have a5 : Lib.TabIs Tryz.prog W "math/bits.deBruijn32tab" .u8 z32 := Lib.tabIs_of_head g5 g5t u466 u5 c5 c466 h.tail.tail.tail.tail
 exact ⟨heap_of g0 a0, heap_of g2 a2, heap_of g5 a5⟩
abbrev gs7 : List Nat := [0, 2]
theorem LaidW.cells {W : World} (h : LaidW W) : ∀ q, q ∈ gs7 ∨ q ∈ [5] → ∃ cs e fr, W.heap[q]? = some (.cells cs e fr) := fun q hq => by
 have hq' : q = 0 ∨ q = 2 ∨ q = 5 := by simpa [or_assoc] using hq
 rcases hq' with rfl | rfl | rfl
 ·obtain ⟨e, fr, h⟩ := h.t0; exact ⟨_, e, fr, h⟩
 ·obtain ⟨e, fr, h⟩ := h.t2; exact ⟨_, e, fr, h⟩
 ·obtain ⟨e, fr, h⟩ := h.t5; exact ⟨_, e, fr, h⟩
theorem bind_map {qs : List Nat} {k : IntKind} {zs : List Int} (j : Nat) (v : Value) (h : (zs.map fun z => Value.int k z)[j]? = some v) : (((zs.map fun z => Value.int k z).toArray)[j]?).bind (inV qs) = some v := by
 rw [List.getElem?_toArray, h]
 rw [List.getElem?_map] at h
 cases hz : zs[j]? with
 | none => rw [hz] at h; cases h
 | some z => rw [hz] at h; cases h; rfl
theorem pow_eq : Go.Cis.pow10V = z10.map fun z => Value.int .u64 z := by kernel_rfl
theorem tab_eq : tabV = z64.map fun z => Value.int .u8 z := by kernel_rfl
theorem stN_roN {w : World} {gs qs ms : List Nat} (ok : InOk w gs qs ms) {g : Nat} (hg : g ∈ gs) {cs : List Value} {e : TypeId} {fr : Nat × Nat} (hc : w.heap[g]? = some (.cells cs.toArray e fr)) (hv : ∀ (k : Nat) (v : Value), cs[k]? = some v → ((cs.toArray)[k]?).bind (inV qs) = some v) : ∃ U, (RoN g cs).p U (stN w gs qs ms).h ∧ ∀ b, U b → (stN w gs qs ms).h.get b ≠ none := by
 have h := stN_g ok hg
 rw [objN_eq hc] at h
 refine ⟨fun b => b = g, ⟨rfl, _, by rw [List.size_toArray] at h; exact h, fun k v hk => ?_⟩, fun b hb => by rw [hb, h]; simp⟩
 rw [cellT_get qs _ _ _ _ (fun j _ => rfl), if_pos (Nat.zero_le _), Nat.sub_zero, Array.getElem?_toList]
 exact hv k v hk
end Go.Proofs.YtcgpmbjoobilcaaGreatDoor
