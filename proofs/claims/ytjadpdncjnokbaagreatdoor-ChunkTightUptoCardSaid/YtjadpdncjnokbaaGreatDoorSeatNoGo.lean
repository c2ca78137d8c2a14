/- No text of this program starts a goroutine. -/
import Derived.Test.YtjadpdncjnokbaaGreatDoorCards
import Derived.KernelRfl
set_option linter.unusedSimpArgs false
set_option linter.unusedVariables false
namespace Go.Proofs.YtjadpdncjnokbaaGreatDoor
open Go
theorem noGo :Tryz.prog.funcs.any Func.goes=false:=by kernel_rfl
theorem goesBy_of{P:Program}(h:P.funcs.any Func.goes=false){c:OpenClaim}(hs:c.start=.entering):false=c.goesBy P:=by
 have key:∀g:FuncId,((P.funcs[g]?).any Func.goes)=false:=fun g=>by
  cases hf:P.funcs[g]? with
  |none=>rfl
  |some fn=>
   have hm:=Array.mem_of_getElem? hf;rw[Array.any_eq_false]at h;obtain⟨i,hi,hfn⟩:=Array.mem_iff_getElem.1 hm;have:=h i hi;rw[hfn]at this;simpa using this
 unfold OpenClaim.goesBy Program.goesAt;rw[hs];simp only[Bool.or_false];unfold Program.goesFrom;cases P.funcNamed c.func with
 |none=>rfl
 |some f=>
  show false=P.goes f;unfold Program.goes;rw[h,Bool.and_false,Bool.or_false];simp[key]
end Go.Proofs.YtjadpdncjnokbaaGreatDoor
