/- ShellWords: what its card asks of the program: stand-ins, its main. -/
import Derived.Test.YtcgpmbjoobilcaaGreatDoorSeatCardShellWords
set_option linter.unusedSimpArgs false
set_option linter.unusedVariables false
namespace Go.Proofs.YtcgpmbjoobilcaaGreatDoor.fnShellWords
open Go.ChangeShapes Go.WideShapes Go.ChangeAt Go.ChangeMaps Go.RowKit Go.Ax Go.Lx Go.Cis
theorem plain (f : FuncId) (fn : Func) (hf : Tryz.pinned.checked.prog.funcNamed "cistern/cisternlaw21.ShellWords" = some f) (hfn : Tryz.pinned.checked.prog.funcs[f]? = some fn) :
  true = Tryz.pinned.checked.prog.looks [] ∧ ∀ (j : Nat) t, fn.params[j]? = some t → Tryz.pinned.checked.prog.wantsStandIn t = false := by
 obtain rfl : f = 7 := Option.some.inj ((show Tryz.prog.funcNamed "cistern/cisternlaw21.ShellWords" = some 7 by kernel_rfl).symm.trans hf) |>.symm
 obtain rfl : fn = Tryz.f7 := (Option.some.inj (Tryz.func7.symm.trans hfn)).symm
 refine ⟨by kernel_rfl, fun j t ht => ?_⟩
 rw [Tryz.params7] at ht
 have hm : t ∈ [9, 3] := by
  have := Array.mem_of_getElem? ht
  simpa using this
 have hall : ([9, 3].all fun u => !Tryz.prog.wantsStandIn u) = true := by kernel_rfl
 exact (show Tryz.prog.wantsStandIn t = false by simpa using List.all_eq_true.1 hall t hm)
theorem card_w : Rows.shellWordsUptoRow.wfByText (Rows.OpenSpec.upto Rows.shellWordsSpec) = true := by kernel_rfl
theorem card_m : Tryz.pinned.checked.prog.mainIs = some (((true, "d27ca9719b7bb74523ce45bc17815aac68ba05418da5f5e4e1df66608589ffdd") : Bool × String).1, ((true, "d27ca9719b7bb74523ce45bc17815aac68ba05418da5f5e4e1df66608589ffdd") : Bool × String).2.toList) := by kernel_rfl
end Go.Proofs.YtcgpmbjoobilcaaGreatDoor.fnShellWords
