/- Sorted keys of maps of texts, and one such map laid into another, at this dump. -/
import Derived.Test.YtmnckhmmcnbaiaaGreatDoorSeatLay20
import Derived.Test.YtmnckhmmcnbaiaaGreatDoorAxI
import Derived.Shelf.SlIterI.Nil
import Derived.Shelf.SortM.Plain
import Derived.Shelf.SortM.SortNone
import Derived.Shelf.SlMaps.Copy
set_option linter.unusedSimpArgs false
set_option linter.unusedVariables false
namespace Go.Proofs
open Go.RowKit Go.Maps Go.Sort Go.Shelf Go.Ax

theorem Tryz.sorts (m : Nat) : AnyZI.SortsIn Tryz.prog Tryz.laysSorted_ren Fence.wide m :=
  ⟨fun blk off cap ss W hH hblk hsz => callsIn_wide.2 (AnyM.slices_Sort_int Tryz.laysSort blk off cap ss W hH hblk hsz),
   fun p cap W => callsIn_wide.2 (AnyM.slices_Sort_int_none Tryz.laysSort p cap W)⟩

theorem Tryz.sortedC : SortedC Tryz.prog 95 184 3 3 := by
  intro Bm q nn D w hBm hcell hown hmax
  refine (callsIn_wide (n := 5)).1 ?_
  have hseq : SeqGives Fence.wide 2 Tryz.prog 184 #[.pointer (some ⟨Bm, 0, none⟩)] encZ (fun ss => ss.Perm (intKeys D)) (Maps.size D) w :=
    AnyZI.keys_gives (ρ := Tryz.laysKeys_ren) { Tryz.laysKeys with } Fence.wide _ trivial rfl (by omega) Bm q nn D _ hBm hcell hown
  have cS := AnyZI.sorted_in Tryz.laysSorted Fence.wide 5 trivial trivial trivial trivial rfl (by omega) (Tryz.sorts _) (enters_of Tryz.func183 (by kernel_rfl) rfl) 184 #[.pointer (some ⟨Bm, 0, none⟩)] trivial (enters_of Tryz.func184 (by kernel_rfl) rfl) _ _ (Nat.le_trans hmax (by unfold maxLen; omega)) (by omega) _ hseq
  refine cS.mono ?_
  rintro e w' ⟨v, ss, rfl, hS, hrow, hnil, hb⟩
  exact ⟨v, ss, rfl, hS, hrow, hnil, hb⟩

theorem Tryz.copyC : CopyC Tryz.prog 157 3 := by
  intro bd bs nd ns Dd Ds w hd hs hne hroom
  exact AnyX.maps_Copy Tryz.laysCopy (int_keyed (q := .i64) (by kernel_rfl)) _ bd bs nd ns Dd Ds w hd hs hne hroom
end Go.Proofs
