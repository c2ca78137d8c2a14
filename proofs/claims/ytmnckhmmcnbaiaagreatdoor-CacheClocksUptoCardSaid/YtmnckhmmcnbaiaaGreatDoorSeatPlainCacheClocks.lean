/- CacheClocks: what its card asks of the program: stand-ins, its main. -/
import Derived.Test.YtmnckhmmcnbaiaaGreatDoorSeatCardCacheClocks
set_option linter.unusedSimpArgs false
set_option linter.unusedVariables false
namespace Go.Proofs.YtmnckhmmcnbaiaaGreatDoor.fnCacheClocks
open Go.ChangeShapes Go.WideShapes Go.ChangeAt Go.ChangeMaps Go.RowKit Go.Ax
/-- No parameter wants a stand-in; the program's own looks are off: what the card asks. -/
theorem plain (f : FuncId) (fn : Func) (hf : Tryz.pinned.checked.prog.funcNamed "cistern/cisternlaw20.CacheClocks" = some f) (hfn : Tryz.pinned.checked.prog.funcs[f]? = some fn) :
    true = Tryz.pinned.checked.prog.looks [] ∧ ∀ (j : Nat) t, fn.params[j]? = some t → Tryz.pinned.checked.prog.wantsStandIn t = false := by
  obtain rfl : f = 4 := Option.some.inj ((show Tryz.prog.funcNamed "cistern/cisternlaw20.CacheClocks" = some 4 by kernel_rfl).symm.trans hf) |>.symm
  obtain rfl : fn = Tryz.f4 := (Option.some.inj (Tryz.func4.symm.trans hfn)).symm
  refine ⟨by kernel_rfl, fun j t ht => ?_⟩
  rw [Tryz.params4] at ht
  have hm : t ∈ [22] := by
    have := Array.mem_of_getElem? ht
    simp at this
    simp
    omega
  have hall : ([22].all fun u => !Tryz.prog.wantsStandIn u) = true := by kernel_rfl
  exact (show Tryz.prog.wantsStandIn t = false by simpa using List.all_eq_true.1 hall t hm)

theorem card_w : Rows.cacheClocksUptoRow.wfByText (Rows.OpenSpec.upto Rows.cacheClocksSpec) = true := by kernel_rfl
theorem card_m : Tryz.pinned.checked.prog.mainIs = some (((true, "fef889aae83ce77689c2deb87fd6d1adbd283c1442b7534d248a0754f94d4a8e") : Bool × String).1, ((true, "fef889aae83ce77689c2deb87fd6d1adbd283c1442b7534d248a0754f94d4a8e") : Bool × String).2.toList) := by kernel_rfl
end Go.Proofs.YtmnckhmmcnbaiaaGreatDoor.fnCacheClocks
