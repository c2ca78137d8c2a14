/- Sorted keys of maps of texts, and one such map laid into another, at this dump. -/
import Derived.Test.YtcgpmbjoobilcaaGreatDoorSeatLay20
import Derived.Test.YtcgpmbjoobilcaaGreatDoorAxI
import Derived.Shelf.SlIterI.Nil
import Derived.Shelf.SortM.Plain
import Derived.Shelf.SortM.SortNone
import Derived.Shelf.SlMaps.Copy
import Derived.Test.YtcgpmbjoobilcaaGreatDoorSeatEnv16
set_option linter.unusedSimpArgs false
set_option linter.unusedVariables false
namespace Go.Proofs
open Go.RowKit Go.Maps Go.Sort Go.Shelf Go.Ax
theorem Tryz.sorts (m : Nat) : AnyZI.SortsIn Tryz.prog Tryz.laysSorted_ren Fence.wide m :=
  ⟨fun blk off cap ss W hH hblk hsz => callsIn_wide.2 (AnyM.slices_Sort_int Tryz.laysSort blk off cap ss W hH hblk hsz),
   fun p cap W => callsIn_wide.2 (AnyM.slices_Sort_int_none Tryz.laysSort p cap W)⟩
theorem Tryz.sortedC : SortedC Tryz.prog 208 308 3 3 := by
 intro Bm q nn D w hBm hcell hown hmax
 refine (callsIn_wide (n := 5)).1 ?_
 have hseq : SeqGives Fence.wide 2 Tryz.prog 308 #[.pointer (some ⟨Bm, 0, none⟩)] encZ (fun ss => ss.Perm (intKeys D)) (Maps.size D) w :=
  AnyZI.keys_gives (ρ := Tryz.laysKeys_ren) { Tryz.laysKeys with } Fence.wide _ trivial rfl (by omega) Bm q nn D _ hBm hcell hown
 have cS := AnyZI.sorted_in Tryz.laysSorted Fence.wide 5 trivial trivial trivial trivial rfl (by omega) (Tryz.sorts _) (enters_of Tryz.func307 (by kernel_rfl) rfl) 308 #[.pointer (some ⟨Bm, 0, none⟩)] trivial (enters_of Tryz.func308 (by kernel_rfl) rfl) _ _ (Nat.le_trans hmax (by unfold maxLen; omega)) (by omega) _ hseq
 refine cS.mono ?_
 rintro e w' ⟨v, ss, rfl, hS, hrow, hnil, hb⟩
 exact ⟨v, ss, rfl, hS, hrow, hnil, hb⟩
theorem Tryz.copyC : CopyC Tryz.prog 211 3 := by
 intro bd bs nd ns Dd Ds w hd hs hne hroom
 exact AnyX.maps_Copy Tryz.laysCopy (int_keyed (q := .i64) (by kernel_rfl)) _ bd bs nd ns Dd Ds w hd hs hne hroom
end Go.Proofs
/- This seat's machine, with sorted keys and maps laid into maps. -/
namespace Go.Proofs
open Go Go.RowKit Go.Ax
noncomputable section
theorem orCode16_ok {f : FuncId} {p : List Value → AS → Option (Value × AS)} (hp : POk Tryz.prog f p) : POk Tryz.prog f (orCode p fun args s => callq SE16 100000 200 f args s pairK) := by
 intro args s v s' h i w args' hR hG hv
 unfold orCode at h
 cases hq : p args s with
 | some r =>
  rw [hq] at h
  have h : some r = some (v, s') := h
  cases h
  exact hp args s v s' hq i w args' hR hG hv
 | none =>
  rw [hq] at h
  have h : callq SE16 100000 200 f args s pairK = some (v, s') := h
  exact SE16_calls 100000 200 f args s v s' (callA_of_q h) i w args' hR hG hv
def SPrim20 : T (List Value → AS → Option (Value × AS)) := (SPrim16.set 208 (orCode (sortedP 308 3) fun args s => callq SE16 100000 200 208 args s pairK)).set 211 (orCode copyP fun args s => callq SE16 100000 200 211 args s pairK)
def SE20 : Env := { P := Tryz.prog, ty := Tryz.tyTab, fn := Tryz.fnTab, prim := SPrim20, back := fun g => Nat.beq g 212 }
theorem SE20_prim : PrimOk SE20 := by
 intro f p hp
 have hp' : SPrim20.get f = some p := hp
 unfold SPrim20 at hp'
 rw [T.get_set] at hp'
 split at hp'
 ·rename_i h; subst h; cases hp'
  exact orCode16_ok (copy_ok (kt := 3) (by kernel_rfl) Tryz.func211 (by kernel_rfl) (by kernel_rfl) Tryz.copyC)
 rw [T.get_set] at hp'
 split at hp'
 ·rename_i h; subst h; cases hp'
  exact orCode16_ok (sorted_ok (kt := 3) (by kernel_rfl) Tryz.func208 (by kernel_rfl) (by kernel_rfl) Tryz.sortedC)
 exact SE16_prim f p hp'
end
end Go.Proofs
