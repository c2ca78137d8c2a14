/- ChunkStates: what its card asks of the program: stand-ins, its main. -/
import Derived.Test.YtjadpdncjnokbaaGreatDoorSeatCardChunkStates
import Derived.Test.YtjadpdncjnokbaaGreatDoorTie
set_option linter.all false
open Array renaming mem_of_getElem?→Zs8
open Bool renaming or_false→V6
namespace Go.Proofs.YtjadpdncjnokbaaGreatDoor.fnChunkStates
open Go.ChangeShapes Go.WideShapes Go.ChangeAt Go.ChangeMaps Go.RowKit Go.Ax Go.Lx Go.Cis
theorem plain (f : FuncId) (fn : Func) (hf : Tryz.pinned.checked.prog.funcNamed "cistern/cisternlaw15.ChunkStates" = some f) (hfn : Tryz.pinned.checked.prog.funcs[f]? = some fn) :
  true=Tryz.pinned.checked.prog.looks []∧∀(j:Nat) t,fn.params[j]? =some t→Tryz.pinned.checked.prog.wantsStandIn t=false:=by
 obtain rfl : f = 5 := Option.some.inj ((show Tryz.prog.funcNamed "cistern/cisternlaw15.ChunkStates" = some 5 by kernel_rfl).symm.trans hf) |>.symm
 obtain rfl:fn=Tryz.f5:=(Option.some.inj (Tryz.func5.symm.trans hfn)).symm;refine⟨by kernel_rfl,fun j t ht=>?_⟩;rw[Tryz.params5]at ht;have hm:t∈[45,3]:=by
  have:=Zs8 ht;simpa using this
 have hall:([45,3].all fun u=> !Tryz.prog.wantsStandIn u)=true:=by kernel_rfl
 exact(show Tryz.prog.wantsStandIn t=false by simpa using List.all_eq_true.1 hall t hm)
theorem card_w :Rows.chunkStatesUptoRow.wfByText (Rows.OpenSpec.upto Rows.chunkStatesSpec)=true:=by kernel_rfl
theorem card_m : Tryz.pinned.checked.prog.mainIs = some (((true, "bcfc29ef27f9b51b8c89837767fa362fe4adb2dec07bc612b5ae5f65d21cb3f7") : Bool × String).1, ((true, "bcfc29ef27f9b51b8c89837767fa362fe4adb2dec07bc612b5ae5f65d21cb3f7") : Bool × String).2.toList) := by kernel_rfl
end Go.Proofs.YtjadpdncjnokbaaGreatDoor.fnChunkStates
namespace Go.Proofs.YtjadpdncjnokbaaGreatDoor
open Go
theorem noGo :Tryz.prog.funcs.any Func.goes=false:=by kernel_rfl
theorem goesBy_of{P:Program}(h:P.funcs.any Func.goes=false){c:OpenClaim}(hs:c.start=.entering):false=c.goesBy P:=by
 have key:∀g:FuncId,((P.funcs[g]?).any Func.goes)=false:=fun g=>by
  cases hf:P.funcs[g]? with
  |none=>rfl
  |some fn=>
   have hm:=Zs8 hf;rw[Array.any_eq_false]at h;obtain⟨i,hi,hfn⟩:=Array.mem_iff_getElem.1 hm;have:=h i hi;rw[hfn]at this;simpa using this
 unfold OpenClaim.goesBy Program.goesAt;rw[hs];simp only[V6];unfold Program.goesFrom;cases P.funcNamed c.func with
 |none=>rfl
 |some f=>
  show false=P.goes f;unfold Program.goes;rw[h,Bool.and_false,V6];simp[key]
end Go.Proofs.YtjadpdncjnokbaaGreatDoor
namespace Go.Proofs.YtjadpdncjnokbaaGreatDoor.fnChunkStates
open Go.ChangeShapes Go.WideShapes Go.ChangeAt Go.ChangeMaps Go.RowKit Go.Ax Go.Lx Go.Cis
theorem cardUpto :Rows.ChunkStatesUptoCardSaid:=
 Claim7.holds_tied_plain_at .later [] _ _ _ _ saidUpto (fun _ h=>by cases h) card_w (fun _ h=>by cases h) chunkStatesUpto_row_tie rfl ⟨rfl,rfl⟩ card_m rfl plain (goesBy_of noGo rfl)
#print axioms cardUpto
end Go.Proofs.YtjadpdncjnokbaaGreatDoor.fnChunkStates
