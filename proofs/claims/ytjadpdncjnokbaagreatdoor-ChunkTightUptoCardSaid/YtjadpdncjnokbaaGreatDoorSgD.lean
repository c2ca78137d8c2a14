/- The machine whose runs show what is kept. -/
import Derived.Test.YtjadpdncjnokbaaGreatDoorSgC
import Derived.Test.YtjadpdncjnokbaaGreatDoorAxG
set_option linter.unusedSimpArgs false
set_option linter.unusedVariables false
namespace Go.Proofs
open Go Go.RowKit Go.Ax Go.Lx
noncomputable section
theorem Nx{t:T (List Value→AS→Option (Value×AS))}(hE:∀f p,t.get f=some p→POk Tryz.prog f p){g:FuncId}{q:List Value→AS→Option (Value×AS)}(hq:POk Tryz.prog g q):∀f p,(t.set g q).get f=some p→POk Tryz.prog f p:=by
 intro f p hp;rw[T.get_set]at hp;split at hp
 ·rename_i h;subst h;cases hp;exact hq
 ·exact hE f p hp
theorem Zc9(f:FuncId):POk Tryz.prog f (U5 f):=by
 intro args s v s' h i w args' hR hG hv;exact Zc6 100000 200 f args s v s' h i w args' hR hG hv
def orC(p:List Value→AS→Option (Value×AS))(els:List Value→AS→R)(args:List Value)(s:AS):R:=@Option.rec (Value×AS) (fun _=>R) (els args s) (fun r=>some r) (p args s)
theorem Zk8{f:FuncId}{p:List Value→AS→Option (Value×AS)}(hp:POk Tryz.prog f p):POk Tryz.prog f (orC p (U5 f)):=by
 intro args s v s' h i w args' hR hG hv;unfold orC at h;cases hq:p args s with
 |some r=>
  rw[hq]at h;have h:some r=some (v,s'):=h;cases h;exact hp args s v s' hq i w args' hR hG hv
 |none=>
  rw[hq]at h;have h:U5 f args s=some (v,s'):=h;exact Zc9 f args s v s' h i w args' hR hG hv
def Zk9 :T (List Value→AS→Option (Value×AS)):=(Cx.set 101 (orC Ta (U5 101))).set 153 (orC U3 (U5 153))
theorem Zyc :∀f p,Zk9.get f=some p→POk Tryz.prog f p:=Nx (Nx Zc4 (Zk8 Zk5)) (Zk8 Zk7)
def Zda(t:T (List Value→AS→Option (Value×AS))):Env:= {P:=Tryz.prog,ty:=Tryz.tyTab,fn:=Tryz.fnTab,prim:=t,back:=fun g=>Nat.beq g 221}
theorem Zyd{t}(h:∀f p,t.get f=some p→POk Tryz.prog f p)(F D:Nat):Xn Tryz.prog (Zs (Zda t) F D):=Iw (E:=Zda t) (by kernel_rfl) (Iy Tryz.tyTab_eq) (fun g hg=>Zc5 g hg) (I0 Tryz.fnTab_eq) h F D
def SEC :Env:=Zda Zk9
theorem Zla :Xn Tryz.prog (Zs SEC 100000 200):=Zyd Zyc 100000 200
end
end Go.Proofs
namespace Go.Proofs
open Go Go.RowKit Go.Ax Go.Lx
noncomputable section
theorem Zye :I6 Mj (Zs SEC 100000 200 25 Mj.args Mj.memo.st)=true:=by decide+kernel
theorem Zyf :Mj.memo.Ok (Zs SEC 100000 200) 25:=Zfg Zye (by decide+kernel)
theorem Zyg :POk Tryz.prog 25 (Hp [Mj] (U5 25)):=Zfb Zla (Zc9 25) _ (fun m hm=>by
 simp only[List.mem_cons,List.mem_nil_iff,or_false]at hm;subst hm;exact⟨Zyf,by decide+kernel⟩)
end
end Go.Proofs
namespace Go.Proofs
open Go Go.RowKit Go.Ax Go.Lx
noncomputable section
theorem G5{n:Nat}(h:I6 (k15 n) (Zs SEC 100000 200 26 (k15 n).args (k15 n).memo.st)=true)(h2:I7 (k15 n)=true)(h3:V5 (k15 n)=true):(k15 n).memo.Ok (Zs SEC 100000 200) 26∧V5 (k15 n)=true:=⟨Zfg h h2,h3⟩
theorem Zyh :(k15 1).memo.Ok (Zs SEC 100000 200) 26∧V5 (k15 1)=true:=G5 (n:=1) (by decide+kernel) (by decide+kernel) (by decide+kernel)
theorem Zyi :(k15 2).memo.Ok (Zs SEC 100000 200) 26∧V5 (k15 2)=true:=G5 (n:=2) (by decide+kernel) (by decide+kernel) (by decide+kernel)
theorem Zyj :(k15 3).memo.Ok (Zs SEC 100000 200) 26∧V5 (k15 3)=true:=G5 (n:=3) (by decide+kernel) (by decide+kernel) (by decide+kernel)
theorem Zyk :(k15 4).memo.Ok (Zs SEC 100000 200) 26∧V5 (k15 4)=true:=G5 (n:=4) (by decide+kernel) (by decide+kernel) (by decide+kernel)
theorem Zyl :(k15 5).memo.Ok (Zs SEC 100000 200) 26∧V5 (k15 5)=true:=G5 (n:=5) (by decide+kernel) (by decide+kernel) (by decide+kernel)
theorem Zym :(k15 6).memo.Ok (Zs SEC 100000 200) 26∧V5 (k15 6)=true:=G5 (n:=6) (by decide+kernel) (by decide+kernel) (by decide+kernel)
theorem Zyn :(k15 20).memo.Ok (Zs SEC 100000 200) 26∧V5 (k15 20)=true:=G5 (n:=20) (by decide+kernel) (by decide+kernel) (by decide+kernel)
theorem Zyo :(k15 60).memo.Ok (Zs SEC 100000 200) 26∧V5 (k15 60)=true:=G5 (n:=60) (by decide+kernel) (by decide+kernel) (by decide+kernel)
theorem Zyp :POk Tryz.prog 26 (Uw [k15 1,k15 2,k15 3,k15 4,k15 5,k15 6,k15 20,k15 60] (U5 26)):=Zff Zla (Zc9 26) _ (fun m hm=>by
 simp only[List.mem_cons,List.mem_nil_iff,or_false]at hm;rcases hm with rfl|rfl|rfl|rfl|rfl|rfl|rfl|rfl
 ·exact Zyh
 ·exact Zyi
 ·exact Zyj
 ·exact Zyk
 ·exact Zyl
 ·exact Zym
 ·exact Zyn
 ·exact Zyo)
end
end Go.Proofs
namespace Go.Proofs
open Go Go.RowKit Go.Ax Go.Lx
noncomputable section
theorem Zyq(F D:Nat):Xn SET.P (Zs SET F D):=
 Iw (E:=SET) (by kernel_rfl) (Iy Tryz.tyTab_eq) (fun g hg=>Zc5 g hg) (I0 Tryz.fnTab_eq)
  (Nx (Nx (Nx (Nx Zc4 (Zj9 Zk5 (Zj8 Zc6))) (Zj9 Zk7 (Zj8 Zc6))) Zyg) Zyp) F D
end
end Go.Proofs
