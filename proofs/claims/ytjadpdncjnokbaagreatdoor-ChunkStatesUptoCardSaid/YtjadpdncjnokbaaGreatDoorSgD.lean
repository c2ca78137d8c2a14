/- The machine whose runs show what is kept. -/
import Derived.Test.YtjadpdncjnokbaaGreatDoorSgC
set_option linter.all false
open List renaming mem_cons→Zg,mem_nil_iff→Zti
namespace Go.Proofs
open Go Go.RowKit Go.Ax Go.Lx
noncomputable section
theorem dw{t:T (List Value→AS→Option (Value×AS))}(hE:∀f p,t.get f=some p→POk Tryz.prog f p){g:FuncId}{q:List Value→AS→Option (Value×AS)}(hq:POk Tryz.prog g q):∀f p,(t.set g q).get f=some p→POk Tryz.prog f p:=by
 intro f p hp;rw[T.get_set]at hp;split at hp
 ·rename_i h;subst h;cases hp;exact hq
 ·exact hE f p hp
theorem GH(f:FuncId):POk Tryz.prog f (Ct f):=by
 intro args s v s' h i w args' hR hG hv;exact GJ 100000 200 f args s v s' h i w args' hR hG hv
def orC(p:List Value→AS→Option (Value×AS))(els:List Value→AS→R)(args:List Value)(s:AS):R:=@Option.rec (Value×AS) (fun _=>R) (els args s) (fun r=>some r) (p args s)
theorem AY{f:FuncId}{p:List Value→AS→Option (Value×AS)}(hp:POk Tryz.prog f p):POk Tryz.prog f (orC p (Ct f)):=by
 intro args s v s' h i w args' hR hG hv;unfold orC at h;cases hq:p args s with
 |some r=>
  rw[hq]at h;have h:some r=some (v,s'):=h;cases h;exact hp args s v s' hq i w args' hR hG hv
 |none=>
  rw[hq]at h;have h:Ct f args s=some (v,s'):=h;exact GH f args s v s' h i w args' hR hG hv
def AX :T (List Value→AS→Option (Value×AS)):=(mw.set 101 (orC dr (Ct 101))).set 153 (orC Cr (Ct 153))
theorem Zmi :∀f p,AX.get f=some p→POk Tryz.prog f p:=dw (dw GV (AY OL)) (AY AZ)
def GM(t:T (List Value→AS→Option (Value×AS))):Env:= {P:=Tryz.prog,ty:=Tryz.tyTab,fn:=Tryz.fnTab,prim:=t,back:=fun g=>Nat.beq g 221}
theorem Zmj{t}(h:∀f p,t.get f=some p→POk Tryz.prog f p)(F D:Nat):Mz Tryz.prog (Gw (GM t) F D):=YC (E:=GM t) (by kernel_rfl) (YF Tryz.tyTab_eq) (fun g hg=>GU g hg) (YT Tryz.fnTab_eq) h F D
def SEC :Env:=GM AX
theorem AV :Mz Tryz.prog (Gw SEC 100000 200):=Zmj Zmi 100000 200
end
end Go.Proofs
namespace Go.Proofs
open Go Go.RowKit Go.Ax Go.Lx
noncomputable section
theorem Zmk :YP Ij (Gw SEC 100000 200 25 Ij.args Ij.memo.st)=true:=by decide+kernel
theorem Zml :Ij.memo.Ok (Gw SEC 100000 200) 25:=BN Zmk (by decide+kernel)
theorem Zmm :POk Tryz.prog 25 (Tp [Ij] (Ct 25)):=BJ AV (GH 25) _ (fun m hm=>by
 simp only[Zg,Zti,or_false]at hm;subst hm;exact⟨Zml,by decide+kernel⟩)
end
end Go.Proofs
namespace Go.Proofs
open Go Go.RowKit Go.Ax Go.Lx
noncomputable section
theorem R3{n:Nat}(h:YP (k15 n) (Gw SEC 100000 200 26 (k15 n).args (k15 n).memo.st)=true)(h2:XZ (k15 n)=true)(h3:Bi (k15 n)=true):(k15 n).memo.Ok (Gw SEC 100000 200) 26∧Bi (k15 n)=true:=⟨BN h h2,h3⟩
theorem Zmn :(k15 1).memo.Ok (Gw SEC 100000 200) 26∧Bi (k15 1)=true:=R3 (n:=1) (by decide+kernel) (by decide+kernel) (by decide+kernel)
theorem Zmo :(k15 2).memo.Ok (Gw SEC 100000 200) 26∧Bi (k15 2)=true:=R3 (n:=2) (by decide+kernel) (by decide+kernel) (by decide+kernel)
theorem Zmp :(k15 3).memo.Ok (Gw SEC 100000 200) 26∧Bi (k15 3)=true:=R3 (n:=3) (by decide+kernel) (by decide+kernel) (by decide+kernel)
theorem Zmq :(k15 4).memo.Ok (Gw SEC 100000 200) 26∧Bi (k15 4)=true:=R3 (n:=4) (by decide+kernel) (by decide+kernel) (by decide+kernel)
theorem Zmr :(k15 5).memo.Ok (Gw SEC 100000 200) 26∧Bi (k15 5)=true:=R3 (n:=5) (by decide+kernel) (by decide+kernel) (by decide+kernel)
theorem Zms :(k15 6).memo.Ok (Gw SEC 100000 200) 26∧Bi (k15 6)=true:=R3 (n:=6) (by decide+kernel) (by decide+kernel) (by decide+kernel)
theorem Zmt :(k15 20).memo.Ok (Gw SEC 100000 200) 26∧Bi (k15 20)=true:=R3 (n:=20) (by decide+kernel) (by decide+kernel) (by decide+kernel)
theorem Zmu :(k15 60).memo.Ok (Gw SEC 100000 200) 26∧Bi (k15 60)=true:=R3 (n:=60) (by decide+kernel) (by decide+kernel) (by decide+kernel)
theorem Zmv :POk Tryz.prog 26 (Ce [k15 1,k15 2,k15 3,k15 4,k15 5,k15 6,k15 20,k15 60] (Ct 26)):=BM AV (GH 26) _ (fun m hm=>by
 simp only[Zg,Zti,or_false]at hm;rcases hm with rfl|rfl|rfl|rfl|rfl|rfl|rfl|rfl
 ·exact Zmn
 ·exact Zmo
 ·exact Zmp
 ·exact Zmq
 ·exact Zmr
 ·exact Zms
 ·exact Zmt
 ·exact Zmu)
end
end Go.Proofs
namespace Go.Proofs
open Go Go.RowKit Go.Ax Go.Lx
noncomputable section
theorem Zmw(F D:Nat):Mz SET.P (Gw SET F D):=
 YC (E:=SET) (by kernel_rfl) (YF Tryz.tyTab_eq) (fun g hg=>GU g hg) (YT Tryz.fnTab_eq)
  (dw (dw (dw (dw GV (LZ OL (EP GJ))) (LZ AZ (EP GJ))) Zmm) Zmv) F D
end
end Go.Proofs
