/- ChunkTight: what its card asks of the program: stand-ins, its main. -/
import Derived.Test.YtjadpdncjnokbaaGreatDoorSeatCardChunkTight
set_option linter.unusedSimpArgs false
set_option linter.unusedVariables false
namespace Go.Proofs.YtjadpdncjnokbaaGreatDoor.fnChunkTight
open Go.ChangeShapes Go.WideShapes Go.ChangeAt Go.ChangeMaps Go.RowKit Go.Ax Go.Lx Go.Cis
theorem plain (f : FuncId) (fn : Func) (hf : Tryz.pinned.checked.prog.funcNamed "cistern/cisternlaw15.ChunkTight" = some f) (hfn : Tryz.pinned.checked.prog.funcs[f]? = some fn) :
  true=Tryz.pinned.checked.prog.looks []∧∀(j:Nat) t,fn.params[j]? =some t→Tryz.pinned.checked.prog.wantsStandIn t=false:=by
 obtain rfl : f = 4 := Option.some.inj ((show Tryz.prog.funcNamed "cistern/cisternlaw15.ChunkTight" = some 4 by kernel_rfl).symm.trans hf) |>.symm
 obtain rfl:fn=Tryz.f4:=(Option.some.inj (Tryz.func4.symm.trans hfn)).symm;refine⟨by kernel_rfl,fun j t ht=>?_⟩;rw[Tryz.params4]at ht;have hm:t∈[3,45]:=by
  have:=Array.mem_of_getElem? ht;simpa using this
 have hall:([3,45].all fun u=> !Tryz.prog.wantsStandIn u)=true:=by kernel_rfl
 exact(show Tryz.prog.wantsStandIn t=false by simpa using List.all_eq_true.1 hall t hm)
theorem card_w :Rows.chunkTightUptoRow.wfByText (Rows.OpenSpec.upto Rows.chunkTightSpec)=true:=by kernel_rfl
theorem card_m : Tryz.pinned.checked.prog.mainIs = some (((true, "bcfc29ef27f9b51b8c89837767fa362fe4adb2dec07bc612b5ae5f65d21cb3f7") : Bool × String).1, ((true, "bcfc29ef27f9b51b8c89837767fa362fe4adb2dec07bc612b5ae5f65d21cb3f7") : Bool × String).2.toList) := by kernel_rfl
end Go.Proofs.YtjadpdncjnokbaaGreatDoor.fnChunkTight
