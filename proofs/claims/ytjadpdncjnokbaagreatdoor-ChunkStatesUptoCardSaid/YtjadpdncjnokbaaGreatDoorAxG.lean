/- The machine, quick in the kernel: the code made ready ahead (places of slots, sizes, offsets), all cases by closed recursors, what follows handed on. -/
import Derived.Test.YtjadpdncjnokbaaGreatDoorAxC
set_option linter.all false
open Nat renaming beq→Za,blt→Zh,eq_of_beq_eq_true→Zv,ble→Zb,div→Xl,le_of_ble_eq_true→Yr,mod→Ud,ble_eq→Vh,le_refl→Ze,zero_le→Zj,lt_of_lt_of_le→Yu,lt_or_ge→Zt
open List renaming mem_cons→Zg,mem_cons_of_mem→Zs,mem_cons_self→Zm,length_map→Zc,getElem?_map→Zy
open Array renaming ext'→Yt
open Bool renaming and_eq_true→Zi
open UInt8 renaming lt_iff_toNat_lt→Zpo
namespace Go.Ax
open Go
noncomputable section
def T.gk{α:Type}(t:T α):Nat→Option α:=
 T.rec (motive:=fun _=>Nat→Option α) (fun _=>none)
  (fun _ v _ gl gr i=>Nat.rec (motive:=fun _=>Option α) v (fun p _=>Bool.rec (motive:=fun _=>Option α) (gr (Xl p 2)) (gl (Xl p 2)) (Za (Ud p 2) 0)) i) t
def T.ok{α:Type}(d:Nat):Nat→Option α→T α:=
 Nat.rec (motive:=fun _=>Nat→Option α→T α) (fun _ x=>.n .e x .e)
  (fun _ ih i x=>Nat.rec (motive:=fun _=>T α) (.n .e x .e) (fun p _=>Bool.rec (motive:=fun _=>T α) (.n .e none (ih (Xl p 2) x)) (.n (ih (Xl p 2) x) none .e) (Za (Ud p 2) 0)) i) d
def T.pk{α:Type}(t:T α):Nat→Option α→T α:=
 T.rec (motive:=fun _=>Nat→Option α→T α) (fun i x=>T.ok i i x)
  (fun l v r sl sr i x=>Nat.rec (motive:=fun _=>T α) (.n l x r) (fun p _=>Bool.rec (motive:=fun _=>T α) (.n l v (sr (Xl p 2) x)) (.n (sl (Xl p 2) x) v r) (Za (Ud p 2) 0)) i) t
theorem T.gk_eq{α:Type}(t:T α):∀i,t.gk i=t.get i:=by
 induction t with
 |e=>intro i;rfl
 |n l v r ihl ihr=>
  intro i;cases i with
  |zero=>rfl
  |succ p=>
   show Bool.rec (motive:=fun _=>Option α) (r.gk (p/2)) (l.gk (p/2)) (Za (p%2) 0)=_;rw[T.get_succ,ihl,ihr];cases Za (p%2) 0<;>rfl
theorem T.ok_eq{α:Type}(d:Nat):∀i (x:Option α),T.ok d i x=T.one d i x:=by
 induction d with
 |zero=>intro i x;rfl
 |succ d ih=>
  intro i x;cases i with
  |zero=>rfl
  |succ p=>
   show Bool.rec (motive:=fun _=>T α) (.n .e none (T.ok d (p/2) x)) (.n (T.ok d (p/2) x) none .e) (Za (p%2) 0)=_;rw[T.one_succ,ih];cases Za (p%2) 0<;>rfl
theorem T.pk_eq{α:Type}(t:T α):∀i (x:Option α),t.pk i x=t.put i x:=by
 induction t with
 |e=>intro i x;exact T.ok_eq i i x
 |n l v r ihl ihr=>
  intro i x;cases i with
  |zero=>rfl
  |succ p=>
   show Bool.rec (motive:=fun _=>T α) (.n l v (r.pk (p/2) x)) (.n (l.pk (p/2) x) v r) (Za (p%2) 0)=_;rw[T.put_succ,ihl,ihr];cases Za (p%2) 0<;>rfl
end
end Go.Ax
namespace Go.Ax
open Go
noncomputable section
abbrev R :=Option (Value×AS)
def cmpL(a:List UInt8):List UInt8→Nat:=
 @List.rec UInt8 (fun _=>List UInt8→Nat) (fun b=>@List.rec UInt8 (fun _=>Nat) 1 (fun _ _ _=>0) b)
  (fun x _ ih b=>@List.rec UInt8 (fun _=>Nat) 2 (fun y t _=>@Bool.rec (fun _=>Nat) (@Bool.rec (fun _=>Nat) 2 0 (Zb (Nat.succ x.toNat) y.toNat)) (ih t) (Za x.toNat y.toNat)) b) a
theorem Zbk(x y:UInt8)(a b:List UInt8):cmpL (x::a) (y::b)=if x=y then cmpL a b else if x<y then 0 else 2:=by
 show @Bool.rec (fun _=>Nat) (@Bool.rec (fun _=>Nat) 2 0 (Zb (Nat.succ x.toNat) y.toNat)) (cmpL a b) (Za x.toNat y.toNat)=_;by_cases h:x=y
 ·subst h;rw[if_pos rfl,Nat.beq_refl]
 ·rw[if_neg h];have h1:Za x.toNat y.toNat=false:=by
   cases hb:Za x.toNat y.toNat with
   |false=>rfl
   |true=>exact absurd (UInt8.toNat_inj.1 (Zv hb)) h
  rw[h1];by_cases h2:x<y
  ·rw[if_pos h2];have:Zb (Nat.succ x.toNat) y.toNat=true:=by
    rw[Vh];exact Zpo.1 h2
   rw[this]
  ·rw[if_neg h2];have:Zb (Nat.succ x.toNat) y.toNat=false:=by
    cases hb:Zb (Nat.succ x.toNat) y.toNat with
    |false=>rfl
    |true=>
     rw[Vh]at hb;exact absurd (Zpo.2 hb) h2
   rw[this]
theorem NQ :∀(a b:List UInt8),cmpL a b≤2∧(cmpL a b=1↔a=b)∧(cmpL a b=0↔Op.bytesLess a b=true)
 |[],[]=>⟨by decide,by decide,by decide⟩
 |[],y::b=>⟨Zj _,by simp[cmpL],by simp[cmpL,Op.bytesLess]⟩
 |x::a,[]=>⟨Ze 2,by simp[cmpL],by simp[cmpL,Op.bytesLess]⟩
 |x::a,y::b=>by
  rw[Zbk];obtain⟨h1,h2,h3⟩:=NQ a b;by_cases h:x=y
  ·subst h;rw[if_pos rfl];refine⟨h1,by rw[h2];simp,?_⟩;rw[h3];simp[Op.bytesLess]
  ·rw[if_neg h];by_cases h4:x<y
   ·rw[if_pos h4];exact⟨Zj _,by simp[h],by simp[Op.bytesLess,h4]⟩
   ·rw[if_neg h4];exact⟨Ze _,by simp[h],by simp[Op.bytesLess,h,h4]⟩
def Zbl(a b:ByteArray):Nat:=cmpL a.data.toList b.data.toList
end
end Go.Ax
namespace Go.Ax
open Go
noncomputable section
def Wk(o o':Gg):Prop:=
 match o,o' with
 |.cells c n z,.cells c' n' z'=>n=n'∧z=z'∧∀k v,k<n→c.get k=some v→c'.get k=some v
 |.ro c n,.ro c' n'=>n=n'∧∀k v,k<n→c.get k=some v→c'.get k=some v
 |.map es,.map es'=>es=es'
 |.iter s p,.iter s' p'=>s=s'∧p=p'
 |.dead,_=>True
 |_,_=>False
theorem Wk.live{o o':Gg}(h:Wk o o')(ha:alive o=true):alive o'=true:=by
 cases o<;>cases o'<;>first|rfl|exact h.elim|cases ha
theorem Wk.fix{o o':Gg}(h:Wk o o')(ha:alive o=true):fixed o'=fixed o:=by
 cases o<;>cases o'<;>first|rfl|exact h.elim|cases ha
theorem Wk.or{i:Io}{o o':Gg}{x:Option Obj}{t:Nat}(h:Wk o o')(ha:alive o=true)(hr:OR i o' x t):OR i o x t:=by
 cases o with
 |cells c n z=>
  cases o' with
  |cells c' n' z'=>
   obtain⟨rfl,rfl,h3⟩:=h;obtain⟨cs,e,fr,h1,h2,h4,h5,h6⟩:=hr;exact⟨cs,e,fr,h1,h2,h4,fun k v hk hv=>h5 k v hk (h3 k v hk hv),h6⟩
  |_=>exact h.elim
 |ro c n=>
  cases o' with
  |ro c' n'=>
   obtain⟨rfl,h3⟩:=h;obtain⟨cs,e,fr,h1,h2,h5⟩:=hr;exact⟨cs,e,fr,h1,h2,fun k v hk hv=>h5 k v hk (h3 k v hk hv)⟩
  |_=>exact h.elim
 |map es=>
  cases o' with
  |map es'=>obtain rfl:es=es':=h;exact hr
  |_=>exact h.elim
 |iter s p=>
  cases o' with
  |iter s' p'=>obtain⟨rfl,rfl⟩:=h;exact hr
  |_=>exact h.elim
 |dead=>cases ha
 |far=>cases ha
def T.lay(t:T Gg)(l:List (Nat×Gg)):T Gg:=
 @List.rec (Nat×Gg) (fun _=>T Gg) t (fun x _ ih=>T.pk ih x.1 (some x.2)) l
theorem T.lay_get(t:T Gg):∀(l:List (Nat×Gg)) (b:Nat),(∃o,(b,o)∈l∧(t.lay l).get b=some o)∨((∀o,(b,o)∉l)∧(t.lay l).get b=t.get b)
 |[],b=>.inr ⟨by simp,rfl⟩
 |(a,x)::l,b=>by
  have e:(t.lay ((a,x)::l)).get b=if b=a then some x else(t.lay l).get b:=by
   show((t.lay l).pk a (some x)).get b=_;rw[T.pk_eq];exact T.get_set _ _ _ _
  by_cases h:b=a
  ·subst h;exact .inl ⟨x,by simp,by rw[e,if_pos rfl]⟩
  ·rw[if_neg h]at e;rcases T.lay_get t l b with⟨o,h1,h2⟩|⟨h1,h2⟩
   ·exact .inl ⟨o,Zs _ h1,e.trans h2⟩
   ·refine .inr ⟨fun o ho=>?_,e.trans h2⟩;rcases Zg.1 ho with h3|h3
    ·cases h3;exact h rfl
    ·exact h1 o h3
structure jg where
 args:List Value
 nx:Nat
 pre:List (Nat×Gg)
 ans:Value
 nx':Nat
 post:List (Nat×Gg)
def jg.st(m:jg):AS:=⟨T.e.lay m.pre,m.nx⟩
structure jg.Ok(m:jg)(call:Gu)(f:FuncId):Prop where
 run:∃t',call f m.args m.st=some (m.ans,t')∧t'.nx=m.nx'∧∀b o,(b,o)∈m.post→∃o',t'.h.get b=some o'∧Wk o o'
 live:∀b o,(b,o)∈m.pre→alive o=true
 pre:∀b o,(b,o)∈m.pre→fixed o=false→∃o',(b,o')∈m.post
 post:∀b o,(b,o)∈m.post→m.nx≤b∨∃o',(b,o')∈m.pre∧fixed o'=false
end
end Go.Ax
namespace Go.Ax
open Go
noncomputable section
def Gz(a b:Bool):Bool:=@Bool.rec (fun _=>Bool) false b a
theorem H5{a b:Bool}(h:Gz a b=true):a=true∧b=true:=by
 cases a with
 |true=>exact⟨rfl,h⟩
 |false=>cases h
def rx(v:Value):(Bool→Bool)→Bool:=
 @Value.rec (fun _=>(Bool→Bool)→Bool) (fun _=>Unit) (fun _=>Unit)
  (fun x0 f=>f x0)
  (fun _ _ _=>false)
  (fun _ _ _=>false)
  (fun _ _ _ _=>false)
  (fun _ _=>false)
  (fun _ _=>false)
  (fun _ _ _ _=>false)
  (fun _ _=>false)
  (fun _ _=>false)
  (fun _ _ _ _ _ _=>false)
  (fun _=>false)
  (fun _ _ _ _=>false)
  (fun _=>false)
  (fun _ _ _=>false)
  (fun _ _ _=>false)
  (fun _ _=>()) () (fun _ _ _ _=>()) v
def rz(v:Value):(IntKind→Int→Bool)→Bool:=
 @Value.rec (fun _=>(IntKind→Int→Bool)→Bool) (fun _=>Unit) (fun _=>Unit)
  (fun _ _=>false)
  (fun x0 x1 f=>f x0 x1)
  (fun _ _ _=>false)
  (fun _ _ _ _=>false)
  (fun _ _=>false)
  (fun _ _=>false)
  (fun _ _ _ _=>false)
  (fun _ _=>false)
  (fun _ _=>false)
  (fun _ _ _ _ _ _=>false)
  (fun _=>false)
  (fun _ _ _ _=>false)
  (fun _=>false)
  (fun _ _ _=>false)
  (fun _ _ _=>false)
  (fun _ _=>()) () (fun _ _ _ _=>()) v
def r7(v:Value):(FloatKind→Nat→Bool)→Bool:=
 @Value.rec (fun _=>(FloatKind→Nat→Bool)→Bool) (fun _=>Unit) (fun _=>Unit)
  (fun _ _=>false)
  (fun _ _ _=>false)
  (fun x0 x1 f=>f x0 x1)
  (fun _ _ _ _=>false)
  (fun _ _=>false)
  (fun _ _=>false)
  (fun _ _ _ _=>false)
  (fun _ _=>false)
  (fun _ _=>false)
  (fun _ _ _ _ _ _=>false)
  (fun _=>false)
  (fun _ _ _ _=>false)
  (fun _=>false)
  (fun _ _ _=>false)
  (fun _ _ _=>false)
  (fun _ _=>()) () (fun _ _ _ _=>()) v
def r8(v:Value):(ByteArray→Bool)→Bool:=
 @Value.rec (fun _=>(ByteArray→Bool)→Bool) (fun _=>Unit) (fun _=>Unit)
  (fun _ _=>false)
  (fun _ _ _=>false)
  (fun _ _ _=>false)
  (fun _ _ _ _=>false)
  (fun x0 f=>f x0)
  (fun _ _=>false)
  (fun _ _ _ _=>false)
  (fun _ _=>false)
  (fun _ _=>false)
  (fun _ _ _ _ _ _=>false)
  (fun _=>false)
  (fun _ _ _ _=>false)
  (fun _=>false)
  (fun _ _ _=>false)
  (fun _ _ _=>false)
  (fun _ _=>()) () (fun _ _ _ _=>()) v
def r9(v:Value):(Option Addr→Bool)→Bool:=
 @Value.rec (fun _=>(Option Addr→Bool)→Bool) (fun _=>Unit) (fun _=>Unit)
  (fun _ _=>false)
  (fun _ _ _=>false)
  (fun _ _ _=>false)
  (fun _ _ _ _=>false)
  (fun _ _=>false)
  (fun x0 f=>f x0)
  (fun _ _ _ _=>false)
  (fun _ _=>false)
  (fun _ _=>false)
  (fun _ _ _ _ _ _=>false)
  (fun _=>false)
  (fun _ _ _ _=>false)
  (fun _=>false)
  (fun _ _ _=>false)
  (fun _ _ _=>false)
  (fun _ _=>()) () (fun _ _ _ _=>()) v
def vd(v:Value):(Option Addr→Nat→Nat→Bool)→Bool:=
 @Value.rec (fun _=>(Option Addr→Nat→Nat→Bool)→Bool) (fun _=>Unit) (fun _=>Unit)
  (fun _ _=>false)
  (fun _ _ _=>false)
  (fun _ _ _=>false)
  (fun _ _ _ _=>false)
  (fun _ _=>false)
  (fun _ _=>false)
  (fun x0 x1 x2 f=>f x0 x1 x2)
  (fun _ _=>false)
  (fun _ _=>false)
  (fun _ _ _ _ _ _=>false)
  (fun _=>false)
  (fun _ _ _ _=>false)
  (fun _=>false)
  (fun _ _ _=>false)
  (fun _ _ _=>false)
  (fun _ _=>()) () (fun _ _ _ _=>()) v
def vf(v:Value):(Option Nat→Bool)→Bool:=
 @Value.rec (fun _=>(Option Nat→Bool)→Bool) (fun _=>Unit) (fun _=>Unit)
  (fun _ _=>false)
  (fun _ _ _=>false)
  (fun _ _ _=>false)
  (fun _ _ _ _=>false)
  (fun _ _=>false)
  (fun _ _=>false)
  (fun _ _ _ _=>false)
  (fun x0 f=>f x0)
  (fun _ _=>false)
  (fun _ _ _ _ _ _=>false)
  (fun _=>false)
  (fun _ _ _ _=>false)
  (fun _=>false)
  (fun _ _ _=>false)
  (fun _ _ _=>false)
  (fun _ _=>()) () (fun _ _ _ _=>()) v
def vg(v:Value):(Fn→Array Value→Array Value→Bool)→Bool:=
 @Value.rec (fun _=>(Fn→Array Value→Array Value→Bool)→Bool) (fun _=>Unit) (fun _=>Unit)
  (fun _ _=>false)
  (fun _ _ _=>false)
  (fun _ _ _=>false)
  (fun _ _ _ _=>false)
  (fun _ _=>false)
  (fun _ _=>false)
  (fun _ _ _ _=>false)
  (fun _ _=>false)
  (fun _ _=>false)
  (fun x0 x1 x2 _ _ f=>f x0 x1 x2)
  (fun _=>false)
  (fun _ _ _ _=>false)
  (fun _=>false)
  (fun _ _ _=>false)
  (fun _ _ _=>false)
  (fun _ _=>()) () (fun _ _ _ _=>()) v
def vh(v:Value):(Bool)→Bool:=
 @Value.rec (fun _=>(Bool)→Bool) (fun _=>Unit) (fun _=>Unit)
  (fun _ _=>false)
  (fun _ _ _=>false)
  (fun _ _ _=>false)
  (fun _ _ _ _=>false)
  (fun _ _=>false)
  (fun _ _=>false)
  (fun _ _ _ _=>false)
  (fun _ _=>false)
  (fun _ _=>false)
  (fun _ _ _ _ _ _=>false)
  (fun f=>f)
  (fun _ _ _ _=>false)
  (fun _=>false)
  (fun _ _ _=>false)
  (fun _ _ _=>false)
  (fun _ _=>()) () (fun _ _ _ _=>()) v
def vj(v:Value):(TypeId→Value→Bool)→Bool:=
 @Value.rec (fun _=>(TypeId→Value→Bool)→Bool) (fun _=>Unit) (fun _=>Unit)
  (fun _ _=>false)
  (fun _ _ _=>false)
  (fun _ _ _=>false)
  (fun _ _ _ _=>false)
  (fun _ _=>false)
  (fun _ _=>false)
  (fun _ _ _ _=>false)
  (fun _ _=>false)
  (fun _ _=>false)
  (fun _ _ _ _ _ _=>false)
  (fun _=>false)
  (fun x0 x1 _ f=>f x0 x1)
  (fun _=>false)
  (fun _ _ _=>false)
  (fun _ _ _=>false)
  (fun _ _=>()) () (fun _ _ _ _=>()) v
def vk(v:Value):(Bool)→Bool:=
 @Value.rec (fun _=>(Bool)→Bool) (fun _=>Unit) (fun _=>Unit)
  (fun _ _=>false)
  (fun _ _ _=>false)
  (fun _ _ _=>false)
  (fun _ _ _ _=>false)
  (fun _ _=>false)
  (fun _ _=>false)
  (fun _ _ _ _=>false)
  (fun _ _=>false)
  (fun _ _=>false)
  (fun _ _ _ _ _ _=>false)
  (fun _=>false)
  (fun _ _ _ _=>false)
  (fun f=>f)
  (fun _ _ _=>false)
  (fun _ _ _=>false)
  (fun _ _=>()) () (fun _ _ _ _=>()) v
def vp(v:Value):(Array Value→Bool)→Bool:=
 @Value.rec (fun _=>(Array Value→Bool)→Bool) (fun _=>Unit) (fun _=>Unit)
  (fun _ _=>false)
  (fun _ _ _=>false)
  (fun _ _ _=>false)
  (fun _ _ _ _=>false)
  (fun _ _=>false)
  (fun _ _=>false)
  (fun _ _ _ _=>false)
  (fun _ _=>false)
  (fun _ _=>false)
  (fun _ _ _ _ _ _=>false)
  (fun _=>false)
  (fun _ _ _ _=>false)
  (fun _=>false)
  (fun x0 _ f=>f x0)
  (fun _ _ _=>false)
  (fun _ _=>()) () (fun _ _ _ _=>()) v
def vq(v:Value):(Array Value→Bool)→Bool:=
 @Value.rec (fun _=>(Array Value→Bool)→Bool) (fun _=>Unit) (fun _=>Unit)
  (fun _ _=>false)
  (fun _ _ _=>false)
  (fun _ _ _=>false)
  (fun _ _ _ _=>false)
  (fun _ _=>false)
  (fun _ _=>false)
  (fun _ _ _ _=>false)
  (fun _ _=>false)
  (fun _ _=>false)
  (fun _ _ _ _ _ _=>false)
  (fun _=>false)
  (fun _ _ _ _=>false)
  (fun _=>false)
  (fun _ _ _=>false)
  (fun x0 _ f=>f x0)
  (fun _ _=>()) () (fun _ _ _ _=>()) v
theorem Zbm{v:Value}{f:Bool→Bool}(h:rx v f=true):∃x0,v=.bool x0∧f x0=true:=by
 cases v<;>first|exact⟨_,rfl,h⟩|cases h
theorem Zbn{v:Value}{f:IntKind→Int→Bool}(h:rz v f=true):∃x0 x1,v=.int x0 x1∧f x0 x1=true:=by
 cases v<;>first|exact⟨_,_,rfl,h⟩|cases h
theorem Zbo{v:Value}{f:FloatKind→Nat→Bool}(h:r7 v f=true):∃x0 x1,v=.float x0 x1∧f x0 x1=true:=by
 cases v<;>first|exact⟨_,_,rfl,h⟩|cases h
theorem Zbp{v:Value}{f:ByteArray→Bool}(h:r8 v f=true):∃x0,v=.string x0∧f x0=true:=by
 cases v<;>first|exact⟨_,rfl,h⟩|cases h
theorem Zbq{v:Value}{f:Option Addr→Bool}(h:r9 v f=true):∃x0,v=.pointer x0∧f x0=true:=by
 cases v<;>first|exact⟨_,rfl,h⟩|cases h
theorem Zbr{v:Value}{f:Option Addr→Nat→Nat→Bool}(h:vd v f=true):∃x0 x1 x2,v=.slice x0 x1 x2∧f x0 x1 x2=true:=by
 cases v<;>first|exact⟨_,_,_,rfl,h⟩|cases h
theorem Zbs{v:Value}{f:Option Nat→Bool}(h:vf v f=true):∃x0,v=.map x0∧f x0=true:=by
 cases v<;>first|exact⟨_,rfl,h⟩|cases h
theorem Zbt{v:Value}{f:Fn→Array Value→Array Value→Bool}(h:vg v f=true):∃x0 x1 x2,v=.func x0 x1 x2∧f x0 x1 x2=true:=by
 cases v<;>first|exact⟨_,_,_,rfl,h⟩|cases h
theorem Zbu{v:Value}{f:Bool}(h:vh v f=true):v=.nilFunc∧f=true:=by
 cases v<;>first|exact⟨rfl,h⟩|cases h
theorem Zbv{v:Value}{f:TypeId→Value→Bool}(h:vj v f=true):∃x0 x1,v=.iface x0 x1∧f x0 x1=true:=by
 cases v<;>first|exact⟨_,_,rfl,h⟩|cases h
theorem Zbw{v:Value}{f:Bool}(h:vk v f=true):v=.nilIface∧f=true:=by
 cases v<;>first|exact⟨rfl,h⟩|cases h
theorem Zbx{v:Value}{f:Array Value→Bool}(h:vp v f=true):∃x0,v=.agg x0∧f x0=true:=by
 cases v<;>first|exact⟨_,rfl,h⟩|cases h
theorem Zby{v:Value}{f:Array Value→Bool}(h:vq v f=true):∃x0,v=.tuple x0∧f x0=true:=by
 cases v<;>first|exact⟨_,rfl,h⟩|cases h
def vr(a b:Bool):Bool:=@Bool.rec (fun _=>Bool) (@Bool.rec (fun _=>Bool) true false b) b a
def knd(k:IntKind):Nat:=@IntKind.rec (fun _=>Nat) 0 1 2 3 4 5 6 7 k
def Rb(k:FloatKind):Nat:=@FloatKind.rec (fun _=>Nat) 0 1 k
theorem Zbz{a b:FloatKind}(h:Za (Rb a) (Rb b)=true):a=b:=by
 cases a<;>cases b<;>first|rfl|cases h
def eqI(a:Int):Int→Bool:=@Int.rec (fun _=>Int→Bool) (fun x b=>@Int.rec (fun _=>Bool) (Za x) (fun _=>false) b) (fun x b=>@Int.rec (fun _=>Bool) (fun _=>false) (Za x) b) a
def eqS(a b:ByteArray):Bool:=Za (Zbl a b) 1
def NL(a b:Addr):Bool:=Gz (Za a.block b.block) (Gz (Za a.off b.off) (@Option.rec _ (fun _=>Bool) (@Option.rec _ (fun _=>Bool) true (fun _=>false) b.spot) (fun _=>false) a.spot))
def Tl(a b:Option Addr):Bool:=@Option.rec _ (fun _=>Bool) (@Option.rec _ (fun _=>Bool) true (fun _=>false) b) (fun x=>@Option.rec _ (fun _=>Bool) false (fun y=>NL x y) b) a
def eqN(a b:Option Nat):Bool:=@Option.rec _ (fun _=>Bool) (@Option.rec _ (fun _=>Bool) true (fun _=>false) b) (fun x=>@Option.rec _ (fun _=>Bool) false (fun y=>Za x y) b) a
def vt(a b:Fn):Bool:=@Fn.rec (fun _=>Bool) (fun x=>@Fn.rec (fun _=>Bool) (fun y=>Za x y) (fun _=>false) (fun _ _=>false) (fun _ _ _ _=>false) (fun _=>false) b) (fun _=>false) (fun _ _=>false) (fun _ _ _ _=>false) (fun _=>false) a
def eqV(a:Value):Value→Bool:=
 @Value.rec (fun _=>Value→Bool) (fun _=>List Value→Bool) (fun _=>List Value→Bool)
  (fun b v=>rx v (vr b))
  (fun k n v=>rz v (fun k' n'=>Gz (Za (knd k) (knd k')) (eqI n n')))
  (fun k n v=>r7 v (fun k' n'=>Gz (Za (Rb k) (Rb k')) (Za n n')))
  (fun _ _ _ _=>false)
  (fun s v=>r8 v (eqS s))
  (fun a v=>r9 v (Tl a))
  (fun a n c v=>vd v (fun a' n' c'=>Gz (Tl a a') (Gz (Za n n') (Za c c'))))
  (fun r v=>vf v (eqN r))
  (fun _ _=>false)
  (fun fn x y ihx ihy v=>vg v (fun fn' x' y'=>Gz (vt fn fn') (Gz (ihx x'.toList) (ihy y'.toList))))
  (fun v=>vh v true)
  (fun t x ih v=>vj v (fun t' x'=>Gz (Za t t') (ih x')))
  (fun v=>vk v true)
  (fun a ih v=>vp v (fun a'=>ih a'.toList))
  (fun a ih v=>vq v (fun a'=>ih a'.toList))
  (fun l ih=>ih)
  (fun m=>@List.rec Value (fun _=>Bool) true (fun _ _ _=>false) m)
  (fun x l ihx ihl m=>@List.rec Value (fun _=>Bool) false (fun y m' _=>Gz (ihx y) (ihl m')) m)
  a
def Zb0(a:Array Value):List Value→Bool:=
 @Value.rec_1 (fun _=>Value→Bool) (fun _=>List Value→Bool) (fun _=>List Value→Bool)
  (fun b v=>rx v (vr b))
  (fun k n v=>rz v (fun k' n'=>Gz (Za (knd k) (knd k')) (eqI n n')))
  (fun k n v=>r7 v (fun k' n'=>Gz (Za (Rb k) (Rb k')) (Za n n')))
  (fun _ _ _ _=>false)
  (fun s v=>r8 v (eqS s))
  (fun a v=>r9 v (Tl a))
  (fun a n c v=>vd v (fun a' n' c'=>Gz (Tl a a') (Gz (Za n n') (Za c c'))))
  (fun r v=>vf v (eqN r))
  (fun _ _=>false)
  (fun fn x y ihx ihy v=>vg v (fun fn' x' y'=>Gz (vt fn fn') (Gz (ihx x'.toList) (ihy y'.toList))))
  (fun v=>vh v true)
  (fun t x ih v=>vj v (fun t' x'=>Gz (Za t t') (ih x')))
  (fun v=>vk v true)
  (fun a ih v=>vp v (fun a'=>ih a'.toList))
  (fun a ih v=>vq v (fun a'=>ih a'.toList))
  (fun l ih=>ih)
  (fun m=>@List.rec Value (fun _=>Bool) true (fun _ _ _=>false) m)
  (fun x l ihx ihl m=>@List.rec Value (fun _=>Bool) false (fun y m' _=>Gz (ihx y) (ihl m')) m)
  a
def Zb1(a:List Value):List Value→Bool:=
 @Value.rec_2 (fun _=>Value→Bool) (fun _=>List Value→Bool) (fun _=>List Value→Bool)
  (fun b v=>rx v (vr b))
  (fun k n v=>rz v (fun k' n'=>Gz (Za (knd k) (knd k')) (eqI n n')))
  (fun k n v=>r7 v (fun k' n'=>Gz (Za (Rb k) (Rb k')) (Za n n')))
  (fun _ _ _ _=>false)
  (fun s v=>r8 v (eqS s))
  (fun a v=>r9 v (Tl a))
  (fun a n c v=>vd v (fun a' n' c'=>Gz (Tl a a') (Gz (Za n n') (Za c c'))))
  (fun r v=>vf v (eqN r))
  (fun _ _=>false)
  (fun fn x y ihx ihy v=>vg v (fun fn' x' y'=>Gz (vt fn fn') (Gz (ihx x'.toList) (ihy y'.toList))))
  (fun v=>vh v true)
  (fun t x ih v=>vj v (fun t' x'=>Gz (Za t t') (ih x')))
  (fun v=>vk v true)
  (fun a ih v=>vp v (fun a'=>ih a'.toList))
  (fun a ih v=>vq v (fun a'=>ih a'.toList))
  (fun l ih=>ih)
  (fun m=>@List.rec Value (fun _=>Bool) true (fun _ _ _=>false) m)
  (fun x l ihx ihl m=>@List.rec Value (fun _=>Bool) false (fun y m' _=>Gz (ihx y) (ihl m')) m)
  a
def eqL(l:List Value):List Value→Bool:=
 @List.rec Value (fun _=>List Value→Bool) (fun m=>@List.rec Value (fun _=>Bool) true (fun _ _ _=>false) m)
  (fun x l ihl m=>@List.rec Value (fun _=>Bool) false (fun y m' _=>Gz (eqV x y) (ihl m')) m) l
theorem Zb2{a b:Bool}(h:vr a b=true):a=b:=by cases a<;>cases b<;>first|rfl|cases h
theorem Zb3{a b:IntKind}(h:Za (knd a) (knd b)=true):a=b:=by cases a<;>cases b<;>first|rfl|cases h
theorem Zb4{a b:Int}(h:eqI a b=true):a=b:=by
 cases a<;>cases b<;>first|exact congrArg _ (Zv h)|cases h
theorem NP{a b:ByteArray}(h:eqS a b=true):a=b:=by
 have:=(NQ a.data.toList b.data.toList).2.1.1 (Zv h);exact ByteArray.ext (Yt this)
theorem Zb5{a b:Addr}(h:NL a b=true):a=b:=by
 obtain⟨a1,a2,a3⟩:=a;obtain⟨b1,b2,b3⟩:=b;obtain⟨h1,h⟩:=H5 h;obtain⟨h2,h3⟩:=H5 h;obtain rfl:a1=b1:=Zv h1;obtain rfl:a2=b2:=Zv h2;cases a3<;>cases b3<;>first|rfl|cases h3
theorem BZ{a b:Option Addr}(h:Tl a b=true):a=b:=by
 cases a<;>cases b<;>first|rfl|exact congrArg _ (Zb5 h)|cases h
theorem Zb6{a b:Option Nat}(h:eqN a b=true):a=b:=by
 cases a<;>cases b<;>first|rfl|exact congrArg _ (Zv h)|cases h
theorem Zb7{a b:Fn}(h:vt a b=true):a=b:=by
 cases a<;>cases b<;>first|exact congrArg _ (Zv h)|cases h
theorem jh(a:Value):∀b,eqV a b=true→a=b:=by
 refine @Value.rec (fun a=>∀b,eqV a b=true→a=b) (fun a=>∀l,Zb0 a l=true→a.toList=l) (fun a=>∀l,Zb1 a l=true→a=l) ?_ ?_ ?_ ?_ ?_ ?_ ?_ ?_ ?_ ?_ ?_ ?_ ?_ ?_ ?_ ?_ ?_ ?_ a
 ·intro b v h;obtain⟨x,rfl,h1⟩:=Zbm h;rw[Zb2 h1]
 ·intro k n v h;obtain⟨x,y,rfl,h1⟩:=Zbn h;obtain⟨h1,h2⟩:=H5 h1;rw[Zb3 h1,Zb4 h2]
 ·intro k n v h;obtain⟨x,y,rfl,h1⟩:=Zbo h;obtain⟨h1,h2⟩:=H5 h1;rw[Zbz h1,Zv h2]
 ·intro k n m v h;cases h
 ·intro s v h;obtain⟨x,rfl,h1⟩:=Zbp h;rw[NP h1]
 ·intro s v h;obtain⟨x,rfl,h1⟩:=Zbq h;rw[BZ h1]
 ·intro a n c v h;obtain⟨x,y,z,rfl,h1⟩:=Zbr h;obtain⟨h1,h2⟩:=H5 h1;obtain⟨h2,h3⟩:=H5 h2;rw[BZ h1,Zv h2,Zv h3]
 ·intro s v h;obtain⟨x,rfl,h1⟩:=Zbs h;rw[Zb6 h1]
 ·intro s v h;cases h
 ·intro fn x y ihx ihy v h;obtain⟨fn',x',y',rfl,h1⟩:=Zbt h;obtain⟨h1,h2⟩:=H5 h1;obtain⟨h2,h3⟩:=H5 h2;rw[Zb7 h1,Yt (ihx _ h2),Yt (ihy _ h3)]
 ·intro v h;obtain⟨rfl,_⟩:=Zbu h;rfl
 ·intro t x ih v h;obtain⟨t',x',rfl,h1⟩:=Zbv h;obtain⟨h1,h2⟩:=H5 h1;rw[Zv h1,ih _ h2]
 ·intro v h;obtain⟨rfl,_⟩:=Zbw h;rfl
 ·intro a ih v h;obtain⟨x,rfl,h1⟩:=Zbx h;rw[Yt (ih _ h1)]
 ·intro a ih v h;obtain⟨x,rfl,h1⟩:=Zby h;rw[Yt (ih _ h1)]
 ·intro l ih;exact ih
 ·intro m h;cases m with
  |nil=>rfl
  |cons _ _=>cases h
 ·intro x l ihx ihl m h;cases m with
  |nil=>cases h
  |cons y m=>
   obtain⟨h1,h2⟩:=H5 h;rw[ihx _ h1,ihl _ h2]
theorem YL :∀(l m:List Value),eqL l m=true→l=m
 |[],[],_=>rfl
 |[],_::_,h=>by cases h
 |_::_,[],h=>by cases h
 |x::l,y::m,h=>by
  obtain⟨h1,h2⟩:=H5 h;rw[jh _ _ h1,YL l m h2]
def eqE(l:List (Value×Value)):List (Value×Value)→Bool:=
 @List.rec (Value×Value) (fun _=>List (Value×Value)→Bool) (fun m=>@List.rec (Value×Value) (fun _=>Bool) true (fun _ _ _=>false) m)
  (fun x l ihl m=>@List.rec (Value×Value) (fun _=>Bool) false (fun y m' _=>Gz (eqV x.1 y.1) (Gz (eqV x.2 y.2) (ihl m'))) m) l
theorem BY :∀(l m:List (Value×Value)),eqE l m=true→l=m
 |[],[],_=>rfl
 |[],_::_,h=>by cases h
 |_::_,[],h=>by cases h
 |x::l,y::m,h=>by
  obtain⟨h1,h2⟩:=H5 h;obtain⟨h2,h3⟩:=H5 h2;rw[Prod.ext (jh _ _ h1) (jh _ _ h2),BY l m h3]
inductive OS where
 |cells (l:List Value) (n z:Nat)
 |ro (l:List Value) (n:Nat)
 |map (es:List (Value×Value))
 |iter (s:ByteArray) (p:Nat)
 |dead
def OS.mk(x:OS):Gg:=@OS.rec (fun _=>Gg) (fun l n z=>.cells (T.e.fill 0 l) n z) (fun l n=>.ro (T.e.fill 0 l) n) (fun es=>.map es) (fun s p=>.iter s p) .dead x
def Rc(c:T Value)(l:List Value):Nat→Bool:=
 @List.rec Value (fun _=>Nat→Bool) (fun _=>true) (fun v _ ih k=>Gz (@Option.rec _ (fun _=>Bool) false (eqV v) (c.gk k)) (ih (Nat.succ k))) l
def Zb8(o:Gg):(T Value→Nat→Nat→Bool)→Bool:=@Gg.rec (fun _=>(T Value→Nat→Nat→Bool)→Bool) (fun c n z f=>f c n z) (fun _ _ _=>false) (fun _ _=>false) (fun _ _ _=>false) (fun _=>false) (fun _=>false) o
def iRo(o:Gg):(T Value→Nat→Bool)→Bool:=@Gg.rec (fun _=>(T Value→Nat→Bool)→Bool) (fun _ _ _ _=>false) (fun c n f=>f c n) (fun _ _=>false) (fun _ _ _=>false) (fun _=>false) (fun _=>false) o
def iMp(o:Gg):(List (Value×Value)→Bool)→Bool:=@Gg.rec (fun _=>(List (Value×Value)→Bool)→Bool) (fun _ _ _ _=>false) (fun _ _ _=>false) (fun es f=>f es) (fun _ _ _=>false) (fun _=>false) (fun _=>false) o
def iIt(o:Gg):(ByteArray→Nat→Bool)→Bool:=@Gg.rec (fun _=>(ByteArray→Nat→Bool)→Bool) (fun _ _ _ _=>false) (fun _ _ _=>false) (fun _ _=>false) (fun s p f=>f s p) (fun _=>false) (fun _=>false) o
def vv(x:OS):Gg→Bool:=
 @OS.rec (fun _=>Gg→Bool) (fun l n z o=>Zb8 o (fun c n' z'=>Gz (Za n n') (Gz (Za z z') (Rc c l 0))))
  (fun l n o=>iRo o (fun c n'=>Gz (Za n n') (Rc c l 0))) (fun es o=>iMp o (eqE es)) (fun s p o=>iIt o (fun s' p'=>Gz (eqS s s') (Za p p'))) (fun _=>true) x
theorem BX(c:T Value):∀(l:List Value) (k:Nat),Rc c l k=true→∀j v,l[j]? =some v→c.get (k+j)=some v
 |[],k,_,j,v,h=>by simp at h
 |x::l,k,h,j,v,hv=>by
  obtain⟨h1,h2⟩:=H5 h;cases j with
  |zero=>
   simp at hv;subst hv;rw[T.gk_eq]at h1;cases hc:c.get k with
   |none=>rw[hc]at h1;cases h1
   |some y=>
    rw[hc]at h1;rw[jh _ _ h1]
  |succ j=>
   have:=BX c l (k+1) h2 j v (by simpa using hv);rw[show k+(j+1)=k+1+j by omega];exact this
theorem BV{c:T Value}{l:List Value}(h:Rc c l 0=true)(k:Nat)(v:Value)(hv:((T.e:T Value).fill 0 l).get k=some v):c.get k=some v:=by
 by_cases hk:k<l.length
 ·rw[HV l k hk]at hv;have:=BX c l 0 h k v hv;rw[Nat.zero_add]at this;exact this
 ·rw[T.get_fill,if_neg (by omega)]at hv;cases hv
theorem Zb9{x:OS}{o:Gg}(h:vv x o=true):Wk x.mk o:=by
 cases x with
 |cells l n z=>
  cases o with
  |cells c n' z'=>
   obtain⟨h1,h2⟩:=H5 h;obtain⟨h2,h3⟩:=H5 h2;exact⟨Zv h1,Zv h2,fun k v _ hv=>BV h3 k v hv⟩
  |_=>cases h
 |ro l n=>
  cases o with
  |ro c n'=>
   obtain⟨h1,h3⟩:=H5 h;exact⟨Zv h1,fun k v _ hv=>BV h3 k v hv⟩
  |_=>cases h
 |map es=>
  cases o with
  |map es'=>exact BY _ _ h
  |_=>cases h
 |iter s p=>
  cases o with
  |iter s' p'=>
   obtain⟨h1,h2⟩:=H5 h;exact⟨NP h1,Zv h2⟩
  |_=>cases h
 |dead=>trivial
structure MS where
 args:List Value
 nx:Nat
 pre:List (Nat×OS)
 ans:Value
 nx':Nat
 post:List (Nat×OS)
def mkL(l:List (Nat×OS)):List (Nat×Gg):=@List.rec (Nat×OS) (fun _=>List (Nat×Gg)) [] (fun x _ ih=>(x.1,x.2.mk)::ih) l
theorem Cb :∀ {l:List (Nat×OS)} {b:Nat} {o:Gg},(b,o)∈mkL l→∃x,(b,x)∈l∧o=x.mk
 |[],_,_,h=>by cases h
 |x::l,b,o,h=>by
  rcases Zg.1 h with h|h
  ·cases h;exact⟨x.2,by simp,rfl⟩
  ·obtain⟨y,h1,h2⟩:=Cb h;exact⟨y,Zs _ h1,h2⟩
theorem Cc :∀ {l:List (Nat×OS)} {b:Nat} {x:OS},(b,x)∈l→(b,x.mk)∈mkL l
 |y::l,b,x,h=>by
  rcases Zg.1 h with h|h
  ·cases h;exact Zm
  ·exact Zs _ (Cc h)
def MS.memo(m:MS):jg:=⟨m.args,m.nx,mkL m.pre,m.ans,m.nx',mkL m.post⟩
def jk(h:T Gg)(l:List (Nat×OS)):Bool:=
 @List.rec (Nat×OS) (fun _=>Bool) true (fun x _ ih=>Gz (@Option.rec _ (fun _=>Bool) false (vv x.2) (h.gk x.1)) ih) l
theorem vw(h:T Gg):∀(l:List (Nat×OS)),jk h l=true→∀b x,(b,x)∈l→∃o,h.get b=some o∧Wk x.mk o
 |y::l,hl,b,x,hx=>by
  obtain⟨h1,h2⟩:=H5 hl;rcases Zg.1 hx with hx|hx
  ·subst hx;rw[T.gk_eq]at h1;cases hc:h.get b with
   |none=>simp only[hc]at h1;cases h1
   |some o=>simp only[hc]at h1;exact⟨o,rfl,Zb9 h1⟩
  ·exact vw h l h2 b x hx
def YP(m:MS)(r:R):Bool:=@Option.rec _ (fun _=>Bool) false (fun p=>Gz (eqV m.ans p.1) (Gz (Za p.2.nx m.nx') (jk p.2.h m.post))) r
def Tn(x:OS):Bool:=match x with
 |.ro _ _=>true
 |_=>false
def Zca(x:OS):Bool:=match x with
 |.dead=>true
 |_=>false
def XZ(m:MS):Bool:=
 m.pre.all (fun x=> !Zca x.2&&(Tn x.2||m.post.any fun y=>y.1==x.1))&&m.post.all (fun y=>Zb m.nx y.1||m.pre.any fun x=>x.1==y.1&& !Tn x.2)
theorem XY(x:OS):fixed x.mk=Tn x:=by cases x<;>rfl
end
end Go.Ax
namespace Go.Ax
open Go
noncomputable section
def nbV(n x:Nat):List Value:=Nat.rec (motive:=fun _=>Nat→List Value) (fun _=>[]) (fun _ ih x=>Hf x fun x=>.int .u8 (.ofNat (Ud x 256))::ih (Xl x 256)) n x
end
end Go.Ax
namespace Go.Ax
open Go Go.RowKit
noncomputable section
def vl1(n:Nat):Value→Bool
 |.bool _|.int _ _|.float _ _|.string _|.nilFunc|.nilIface|.pointer none|.slice none _ _|.map none=>true
 |.pointer (some p)=>Zh p.block n
 |.slice (some p) _ _=>Zh p.block n
 |.map (some r)=>Zh r n
 |_=>false
def vls(e:Value→Bool):List Value→Bool
 |[]=>true
 |v::l=>bif e v then vls e l else false
def vlF(n:Nat)(e:Value→Bool):Value→Bool
 |.func _ a c=>bif vls e a.toList then vls e c.toList else false
 |.iface _ v=>e v
 |.agg a=>vls e a.toList
 |.tuple a=>vls e a.toList
 |v=>vl1 n v
def vl(n:Nat):Value→Bool:=vlF n (vlF n (vl1 n))
def Io.cut(i:Io)(n:Nat):Io:=⟨fun b=>bif Zh b n then i b else none,i.lim⟩
theorem C7{i:Io}{n b:Nat}{x:Nat×Nat}(h:(i.cut n) b=some x):i b=some x∧b<n:=by
 unfold Io.cut at h;simp only at h;cases hb:Zh b n with
 |false=>rw[hb]at h;cases h
 |true=>rw[hb]at h;exact⟨h,by simpa using hb⟩
theorem Bh{i:Io}{n b:Nat}(h:b<n):(i.cut n) b=i b:=by
 have:Zh b n=true:=by simpa using h
 unfold Io.cut;simp[this]
theorem VR.cut1{i:Io}{n:Nat}{v v':Value}(h:VR i v v')(hv:vl1 n v=true):VR (i.cut n) v v':=by
 unfold vl1 at hv;cases h with
 |bool b=>exact .bool b
 |int k m=>exact .int k m
 |float k m=>exact .float k m
 |string t=>exact .string t
 |nilp=>exact .nilp
 |ptr h=>exact .ptr (by rw[Bh (by simpa using hv)];exact h)
 |nils h=>exact .nils h
 |slice h1 h2 h3 h4 h5 h6=>exact .slice (by rw[Bh (by simpa using hv)];exact h1) h2 h3 h4 h5 h6
 |nilm=>exact .nilm
 |map h=>exact .map (by rw[Bh (by simpa using hv)];exact h)
 |nilFunc=>exact .nilFunc
 |nilIface=>exact .nilIface
 |func f h h'=>cases hv
 |iface t h=>cases hv
 |agg h=>cases hv
 |tuple h=>cases hv
theorem VRs.cutS{i:Io}{n:Nat}{e:Value→Bool}(he:∀ {v v':Value},VR i v v'→e v=true→VR (i.cut n) v v'):∀ {l l':List Value},VRs i l l'→vls e l=true→VRs (i.cut n) l l'
 |_,_,.nil,_=>.nil
 |v::l,_,.cons h h',hv=>by
  have hv':(bif e v then vls e l else false)=true:=hv;cases hb:e v with
  |false=>rw[hb]at hv';cases hv'
  |true=>rw[hb]at hv';exact .cons (he h hb) (h'.cutS he hv')
theorem VR.cutF{i:Io}{n:Nat}{e:Value→Bool}(he:∀ {v v':Value},VR i v v'→e v=true→VR (i.cut n) v v'){v v':Value}(h:VR i v v')(hv:vlF n e v=true):VR (i.cut n) v v':=by
 cases h with
 |func f h h'=>
  unfold vlF at hv;simp only at hv;rename_i a a' c c';cases hb:vls e a with
  |false=>rw[hb]at hv;cases hv
  |true=>rw[hb]at hv;exact .func f (h.cutS he hb) (h'.cutS he hv)
 |iface t h=>exact .iface t (he h hv)
 |agg h=>exact .agg (h.cutS he hv)
 |tuple h=>exact .tuple (h.cutS he hv)
 |bool b=>exact .bool b
 |int k m=>exact .int k m
 |float k m=>exact .float k m
 |string t=>exact .string t
 |nilp=>exact .nilp
 |ptr h=>exact VR.cut1 (.ptr h) hv
 |nils h=>exact .nils h
 |slice h1 h2 h3 h4 h5 h6=>exact VR.cut1 (.slice h1 h2 h3 h4 h5 h6) hv
 |nilm=>exact .nilm
 |map h=>exact VR.cut1 (.map h) hv
 |nilFunc=>exact .nilFunc
 |nilIface=>exact .nilIface
theorem VR.cut{i:Io}{n:Nat}{v v':Value}(h:VR i v v')(hv:vl n v=true):VR (i.cut n) v v':=
 VR.cutF (fun h hv=>VR.cutF (fun h hv=>VR.cut1 h hv) h hv) h hv
def vlE(n:Nat):List (Value×Value)→Bool
 |[]=>true
 |e::l=>bif vl n e.2 then vlE n l else false
def osL(n:Nat):OS→Bool
 |.cells l _ _=>vls (vl n) l
 |.ro l _=>vls (vl n) l
 |.map es=>vlE n es
 |.iter _ _=>true
 |.dead=>false
def To(n:Nat):List (Nat×OS)→Bool
 |[]=>true
 |x::l=>bif Zh x.1 n&&osL n x.2 then To n l else false
theorem BU{n:Nat}:∀ {l:List (Nat×OS)},To n l=true→∀b x,(b,x)∈l→b<n∧osL n x=true
 |[],_,b,x,h=>by cases h
 |y::l,h,b,x,hm=>by
  have h':(bif Zh y.1 n&&osL n y.2 then To n l else false)=true:=h;cases hb:Zh y.1 n&&osL n y.2 with
  |false=>rw[hb]at h';cases h'
  |true=>
   rw[hb]at h';rcases Zg.1 hm with rfl|hm
   ·simpa using hb
   ·exact BU h' b x hm
theorem jm{e:Value→Bool}:∀ {l:List Value},vls e l=true→∀ {k:Nat} {v:Value},l[k]? =some v→e v=true
 |[],_,k,v,h=>by simp at h
 |x::l,h,k,v,hk=>by
  have h':(bif e x then vls e l else false)=true:=h;cases hb:e x with
  |false=>rw[hb]at h';cases h'
  |true=>
   rw[hb]at h';cases k with
   |zero=>simp at hk;subst hk;exact hb
   |succ k=>exact jm h' (by simpa using hk)
theorem MR.cutM{i:Io}{n:Nat}:∀ {es:List (Value×Value)} {l:List MapEntry},MR i es l→vlE n es=true→MR (i.cut n) es l
 |_,_,.nil,_=>.nil
 |(k,v)::es,_,.cons h h1 h',hv=>by
  have hv':(bif vl n v then vlE n es else false)=true:=hv;cases hb:vl n v with
  |false=>rw[hb]at hv';cases hv'
  |true=>rw[hb]at hv';exact .cons h (h1.cut hb) (h'.cutM hv')
theorem OR.cut{i:Io}{n:Nat}{x:OS}(hx:osL n x=true){o:Option Obj}{t:Nat}(h:OR i x.mk o t):OR (i.cut n) x.mk o t:=by
 cases x with
 |cells l m z=>
  obtain⟨cs,e,fr,h1,h2,h3,h4,h5⟩:=h;refine⟨cs,e,fr,h1,h2,h3,fun k v hk hv=>?_,h5⟩;obtain⟨v',g1,g2⟩:=h4 k v hk hv;rw[T.get_fill]at hv;split at hv
  ·exact⟨v',g1,g2.cut (jm hx hv)⟩
  ·cases hv
 |ro l m=>
  obtain⟨cs,e,fr,h1,h2,h4⟩:=h;refine⟨cs,e,fr,h1,h2,fun k v hk hv=>?_⟩;obtain⟨v',g1,g2⟩:=h4 k v hk hv;rw[T.get_fill]at hv;split at hv
  ·exact⟨v',g1,g2.cut (jm hx hv)⟩
  ·cases hv
 |map es=>
  obtain⟨h0,es',clk,l,h1,h2,h3,h4,h5⟩:=h;exact⟨h0,es',clk,l,h1,h2,h3.cutM hx,h4,h5⟩
 |iter s p=>exact h
 |dead=>cases hx
def stL(pre:List (Nat×OS))(nx:Nat):AS:=⟨T.e.lay (mkL pre),nx⟩
theorem Zcb{pre:List (Nat×OS)}{nx b:Nat}{o:Gg}(h:(stL pre nx).h.get b=some o):∃x,(b,x)∈pre∧o=x.mk:=by
 rcases T.lay_get T.e (mkL pre) b with⟨o',h1,h2⟩|⟨_,h2⟩
 ·have:some o=some o':=h.symm.trans h2;cases this;exact Cb h1
 ·have:some o=none:=h.symm.trans h2;cases this
theorem XX{n:Nat}{x:OS}(h:osL n x=true):alive x.mk=true:=by
 cases x with
 |dead=>cases h
 |_=>rfl
theorem XV{pre:List (Nat×OS)}{nx:Nat}{s:AS}(hpre:To nx pre=true)(hs:∀b x,(b,x)∈pre→∃o,s.h.get b=some o∧Wk x.mk o):
  ∀b o,(stL pre nx).h.get b=some o→∃x o',(b,x)∈pre∧o=x.mk∧s.h.get b=some o'∧Wk x.mk o'∧alive x.mk=true∧osL nx x=true∧b<nx:=fun b o ho=>by
 obtain⟨x,h1,h2⟩:=Zcb ho;obtain⟨o',h3,h4⟩:=hs b x h1;obtain⟨h5,h6⟩:=BU hpre b x h1;exact⟨x,o',h1,h2,h3,h4,XX h6,h6,h5⟩
theorem Rel.cutS{i:Io}{s:AS}{w:World}(hR:Rel i s w){pre:List (Nat×OS)}{nx:Nat}(hpre:To nx pre=true)(hs:∀b x,(b,x)∈pre→∃o,s.h.get b=some o∧Wk x.mk o):Rel (i.cut nx) (stL pre nx) w:=by
 have key:=XV hpre hs;refine⟨fun b o ho hal=>?_,fun b b' o o' q t t' ho ho' hal hal' e e'=>?_,fun b hb'=>?_,fun b c n z q t ho e=>?_,fun b q t e hor=>?_⟩
 ·obtain⟨x,o',h1,rfl,h3,h4,h5,h6,h7⟩:=key b o ho;obtain⟨q,t,g1,g2⟩:=hR.obj b o' h3 (h4.live h5);exact⟨q,t,by rw[Bh h7];exact g1,OR.cut h6 (h4.or h5 g2)⟩
 ·obtain⟨x,p,h1,rfl,h3,h4,h5,h6,h7⟩:=key b o ho;obtain⟨x',p',h1',rfl,h3',h4',h5',h6',h7'⟩:=key b' o' ho';exact hR.inj b b' p p' q t t' h3 h3' (h4.live h5) (h4'.live h5') (C7 e).1 (C7 e').1
 ·have hb'':nx≤b:=hb';refine⟨?_,?_⟩
  ·cases hc:(i.cut nx) b with
   |none=>rfl
   |some x=>have:=(C7 hc).2;omega
  ·cases hc:(stL pre nx).h.get b with
   |none=>rfl
   |some o=>obtain⟨_,_,_,_,_,_,_,_,h⟩:=key b o hc;omega
 ·obtain⟨x,o',h1,h2,h3,h4,h5,h6,h7⟩:=key b _ ho;rw[←h2]at h4;cases o' with
  |cells c' n' z'=>
   obtain⟨rfl,rfl,_⟩:=h4;exact hR.lim b c' n z q t h3 (C7 e).1
  |_=>exact h4.elim
 ·refine hR.dom b q t (C7 e).1 (hor.imp (fun h=>?_) id);cases hc:(stL pre nx).h.get b with
  |none=>exact absurd hc h
  |some o=>
   obtain⟨_,o',_,_,h3,_⟩:=key b o hc;rw[h3];exact fun h=>by cases h
end
end Go.Ax
namespace Go.Ax
open Go Go.RowKit
noncomputable section
def osD(n:Nat)(x:OS):Bool:=@OS.rec (fun _=>Bool) (fun l _ _=>vls (vl n) l) (fun l _=>vls (vl n) l) (fun es=>vlE n es) (fun _ _=>true) true x
def vz(n:Nat):List (Nat×OS)→Bool
 |[]=>true
 |x::l=>bif Zh x.1 n&&osD n x.2 then vz n l else false
theorem jp{n:Nat}:∀ {l:List (Nat×OS)},vz n l=true→∀b x,(b,x)∈l→b<n∧osD n x=true
 |[],_,b,x,h=>by cases h
 |y::l,h,b,x,hm=>by
  have h':(bif Zh y.1 n&&osD n y.2 then vz n l else false)=true:=h;cases hb:Zh y.1 n&&osD n y.2 with
  |false=>rw[hb]at h';cases h'
  |true=>
   rw[hb]at h';rcases Zg.1 hm with rfl|hm
   ·simpa using hb
   ·exact jp h' b x hm
def XU(m:MS):Bool:=To m.nx m.pre&&(vz m.nx m.post&&(vl m.nx m.ans&&(vls (vl m.nx) m.args&&Zb 1000 m.nx)))
def I9(m:MS)(args:List Value)(s:AS):Bool:=Gz (Zb m.nx s.nx) (Gz (eqL m.args args) (jk s.h m.pre))
def MS.leftN(m:MS)(s:AS):AS:=⟨s.h.lay (mkL m.post),s.nx⟩
theorem VRs.cutL{i:Io}{n:Nat}{l l':List Value}(h:VRs i l l')(hv:vls (vl n) l=true):VRs (i.cut n) l l':=h.cutS (fun h hv=>h.cut hv) hv
theorem Zcc{P:Program}{m:MS}{call:Gu}{f:FuncId}(hC:Mz P call)(hm:m.memo.Ok call f)(hk:XU m=true){args:List Value}{s:AS}(hf:I9 m args s=true){i:Io}{w:World}{args':List Value}(hR:Rel i s w)(hg:Gl i)(ha:VRs i args args'):
  Nc P f args' i s w m.ans (m.leftN s):=by
 unfold XU at hk;simp only[Zi]at hk;obtain⟨k1,k2,k3,k4,k5⟩:=hk;have k5:=Yr k5;obtain⟨f1,f2⟩:=H5 hf;obtain⟨f2,f3⟩:=H5 f2;have f1:=Yr f1;have hargs:m.args=args:=YL _ _ f2;subst hargs;have hs:=vw s.h m.pre f3;have key:=XV k1 hs;have hR0:Rel (i.cut m.nx) (stL m.pre m.nx) w:=hR.cutS k1 hs;have hst:m.memo.st=stL m.pre m.nx:=rfl;obtain⟨t',hrun,hnx,hpost⟩:=hm.run;rw[hst]at hrun;have hg0:Gl (i.cut m.nx):=fun g hg'=>by rw[Bh (by omega)];exact hg g hg'
 have hF:=hC f m.args _ m.ans t' hrun (i.cut m.nx) w args' hR0 hg0 (ha.cutL k4);have fin:∀v' w' i',VR i' m.ans v'→Rel i' t' w'→Fr (i.cut m.nx) (stL m.pre m.nx) w i' t' w'→VR i m.ans v'∧Rel i (m.leftN s) w'∧Fr i s w i (m.leftN s) w':=by
  intro v' w' i' hv hR' hF';have agree:∀b,b<m.nx→i' b=i b:=fun b hb=>by
   cases hi:i b with
   |some x=>exact hF'.le b x (by rw[Bh hb];exact hi)
   |none=>exact hF'.dom b hb (by rw[Bh hb];exact hi)
  have hle:Le (i'.cut m.nx) i:=⟨fun b x e=>by
    obtain⟨e1,e2⟩:=C7 e;rw[agree b e2]at e1;exact e1,fun b x e=>by
    obtain⟨e1,e2⟩:=C7 e;have e3:(i.cut m.nx) b=some x:=by rw[Bh e2,←agree b e2];exact e1
    exact(hF'.le.lim b x e3).symm⟩
  have back:∀ {v v':Value},VR i' v v'→vl m.nx v=true→VR i v v':=fun h hv=>(h.cut hv).mono hle;have inPost:∀b x,(b,x)∈m.post→b<m.nx∧∃p o,(b,p)∈m.pre∧fixed p.mk=false∧s.h.get b=some o∧Wk p.mk o∧alive o=true:=fun b x hb=>by
   obtain⟨h1,_⟩:=jp k2 b x hb;rcases hm.post b x.mk (Cc hb)with h|⟨o',h,h2⟩
   ·have:m.nx≤b:=h;omega
   ·obtain⟨p,h3,rfl⟩:=Cb h;obtain⟨o,h4,h5⟩:=hs b p h3;exact⟨h1,p,o,h3,h2,h4,h5,h5.live (hm.live b p.mk h)⟩
  have layGet:∀b,(∃x,(b,x)∈m.post∧(m.leftN s).h.get b=some x.mk)∨((∀x,(b,x)∉m.post)∧(m.leftN s).h.get b=s.h.get b):=fun b=>by
   rcases T.lay_get s.h (mkL m.post) b with⟨o,h1,h2⟩|⟨h1,h2⟩
   ·obtain⟨x,h3,rfl⟩:=Cb h1;exact .inl ⟨x,h3,h2⟩
   ·exact .inr ⟨fun x hx=>h1 _ (Cc hx),h2⟩
  have obEq:∀b t q,(i.cut m.nx) b=some (q,t)→fixed (obA s b)=true→fixed (obA (stL m.pre m.nx) b)=true:=fun b t q e h=>by
   cases hc:(stL m.pre m.nx).h.get b with
   |none=>unfold obA;rw[hc];rfl
   |some o=>
    obtain⟨x,o',_,rfl,h3,h4,h5,_,_⟩:=key b o hc;rw[C4 hc,←h4.fix h5,←C4 h3];exact h
  have same:∀b o q t,s.h.get b=some o→alive o=true→i b=some (q,t)→(∀x,(b,x)∉m.post)→w'.heap[q]? =w.heap[q]? :=fun b o q t ho hal hi hno=>by
   refine hF'.keep q (hR.dom b q t hi (.inl (by rw[ho];simp))) (fun b1 t1 e1=>?_);cases hc:(stL m.pre m.nx).h.get b1 with
   |none=>unfold obA;rw[hc];rfl
   |some o1=>
    obtain⟨x,o',h1,rfl,h3,h4,h5,_,_⟩:=key b1 o1 hc;have hb:b1=b:=hR.inj b1 b o' o q t1 t h3 ho (h4.live h5) hal (C7 e1).1 hi;subst hb;rw[C4 hc];cases hfx:fixed x.mk with
    |true=>rfl
    |false=>
     obtain⟨o2,h6⟩:=hm.pre b1 x.mk (Cc h1) hfx;obtain⟨y,h7,_⟩:=Cb h6;exact absurd h7 (hno y)
  refine⟨back hv k3,⟨fun b o ho hal=>?_,fun b b' o o' q t t1 ho ho' hal hal' e e'=>?_,fun b hb=>?_,fun b c n z q t ho e=>?_,fun b q t e hor=>?_⟩,
   ⟨.refl i,fun _ _ _ e=>.inl e,hF'.os,hF'.tape,hF'.output,hF'.size,fun q hq hn=>?_,fun b x e hfx=>?_,Ze _,fun _ _ e=>e,fun b hb hi hn=>?_,fun b hn=>?_⟩⟩
  ·rcases layGet b with⟨x,h1,h2⟩|⟨h1,h2⟩
   ·rw[h2]at ho;cases ho;obtain⟨hb,_⟩:=jp k2 b x h1;obtain⟨_,hx⟩:=jp k2 b x h1;obtain⟨o',g1,g2⟩:=hpost b x.mk (Cc h1);obtain⟨q,t,g3,g4⟩:=hR'.obj b o' g1 (g2.live hal);refine⟨q,t,by rw[←agree b hb];exact g3,?_⟩;have hx':osL m.nx x=true:=by
     cases x with
     |dead=>cases hal
     |_=>exact hx
    exact(OR.cut hx' (g2.or hal g4)).mono hle
   ·rw[h2]at ho;obtain⟨q,t,g1,g2⟩:=hR.obj b o ho hal;exact⟨q,t,g1,by rw[same b o q t ho hal g1 h1];exact g2⟩
  ·have up:∀b o,(m.leftN s).h.get b=some o→∃p,s.h.get b=some p∧(alive o=true→alive p=true):=fun b o ho=>by
    rcases layGet b with⟨x,h1,h2⟩|⟨h1,h2⟩
    ·obtain⟨_,p,p',h3,_,h4,_,h5⟩:=inPost b x h1;exact⟨p',h4,fun _=>h5⟩
    ·exact⟨o,by rw[←h2];exact ho,id⟩
   obtain⟨p,g1,g2⟩:=up b o ho;obtain⟨p',g1',g2'⟩:=up b' o' ho';exact hR.inj b b' p p' q t t1 g1 g1' (g2 hal) (g2' hal') e e'
  ·have hb':s.nx≤b:=hb;obtain⟨h1,h2⟩:=hR.fresh b hb';refine⟨h1,?_⟩;rcases layGet b with⟨x,h3,_⟩|⟨_,h4⟩
   ·obtain⟨_,_,o,_,_,h5,_⟩:=inPost b x h3;rw[h2]at h5;cases h5
   ·rw[h4,h2]
  ·rcases layGet b with⟨x,h1,h2⟩|⟨h1,h2⟩
   ·rw[h2]at ho;injection ho with ho
    obtain⟨hb,_⟩:=jp k2 b x h1;obtain⟨o',g1,g2⟩:=hpost b x.mk (Cc h1);rw[ho]at g2;cases o' with
    |cells c' n' z'=>
     obtain⟨rfl,rfl,_⟩:=g2;have e':i' b=some (q,t):=by rw[agree b hb];exact e
     obtain⟨l1,l2⟩:=hR'.lim b c' n z q t g1 e';have hl:i.lim b=i'.lim b:=(hF'.le.lim b (q,t) (by rw[Bh hb];exact e)).symm;rw[hl];exact⟨l1,l2⟩
    |_=>exact g2.elim
   ·rw[h2]at ho;obtain⟨l1,l2⟩:=hR.lim b c n z q t ho e;exact⟨l1,fun cs e' fr hw=>l2 cs e' fr (by rw[←same b _ q t ho rfl e h1];exact hw)⟩
  ·refine Yu (hR.dom b q t e (hor.imp (fun h=>?_) id)) hF'.size;rcases layGet b with⟨x,h1,_⟩|⟨_,h2⟩
   ·obtain⟨_,_,o,_,_,h5,_⟩:=inPost b x h1;rw[h5];exact fun h=>by cases h
   ·rw[←h2];exact h
  ·exact hF'.keep q hq (fun b t e=>obEq b t q e (hn b t (C7 e).1))
  ·rcases layGet b with⟨y,h1,_⟩|⟨_,h2⟩
   ·obtain⟨_,p,o,h3,h4,h5,h6,h7⟩:=inPost b y h1;rw[C4 h5]at hfx;rw[h6.fix (hm.live b p.mk (Cc h3)),h4]at hfx;cases hfx
   ·exact h2
  ·rcases layGet b with⟨x,h1,_⟩|⟨_,h2⟩
   ·obtain⟨_,_,o,_,_,h5,_⟩:=inPost b x h1;rw[hn]at h5;cases h5
   ·rw[h2];exact hn
  ·rcases layGet b with⟨x,_,h2⟩|⟨_,h2⟩
   ·rw[h2];exact fun h=>by cases h
   ·rw[h2];exact hn
 rcases hF with⟨v',w',i',q1,q2,q3,q4⟩|⟨q1,q2⟩
 ·obtain⟨z1,z2,z3⟩:=fin v' w' i' q2 q3 q4;exact .inl ⟨v',w',i,q1,z1,z2,z3⟩
 ·refine .inr ⟨q1,Calls.mono q2 (fun e w' he=>?_)⟩;cases e with
  |returned v'=>
   obtain⟨i',h1,h2,h3⟩:=he;exact⟨i,fin v' w' i' h1 h2 h3⟩
  |panicked c=>exact he.elim
  |outgrown=>exact he.elim
def Tp(ms:List MS)(els:List Value→AS→R):List Value→AS→R:=
 @List.rec MS (fun _=>List Value→AS→R) els (fun m _ ih args s=>@Bool.rec (fun _=>R) (ih args s) (some (m.ans,m.leftN s)) (I9 m args s)) ms
theorem BJ{P:Program}{call:Gu}{f:FuncId}(hC:Mz P call){els:List Value→AS→R}(he:POk P f els):∀(ms:List MS),(∀m∈ms,m.memo.Ok call f∧XU m=true)→POk P f (Tp ms els)
 |[],_=>he
 |m::ms,h=>by
  intro args s v s' hr i w args' hR hg ha;have hr': @Bool.rec (fun _=>R) (Tp ms els args s) (some (m.ans,m.leftN s)) (I9 m args s)=some (v,s'):=hr;cases hb:I9 m args s with
  |true=>
   rw[hb]at hr';injection hr' with hr'
   cases hr';obtain⟨h1,h2⟩:=h m (Zm ..);exact Zcc hC h1 h2 hb hR hg ha
  |false=>
   rw[hb]at hr';exact BJ hC he ms (fun m hm=>h m (Zs _ hm)) args s v s' hr' i w args' hR hg ha
end
end Go.Ax
namespace Go.Ax
open Go Go.RowKit
noncomputable section
def rn(n m b:Nat):Nat:=bif Zh b n then b else m+(b-n)
def ren1(n m:Nat):Value→Value
 |.pointer (some ⟨b,o,none⟩)=>.pointer (some ⟨rn n m b,o,none⟩)
 |.slice (some ⟨b,o,none⟩) k c=>.slice (some ⟨rn n m b,o,none⟩) k c
 |.map (some r)=>.map (some (rn n m r))
 |v=>v
def renF(e:Value→Value)(d:Value→Value):Value→Value
 |.func f a c=>.func f ⟨a.toList.map e⟩ ⟨c.toList.map e⟩
 |.iface t v=>.iface t (e v)
 |.agg a=>.agg ⟨a.toList.map e⟩
 |.tuple a=>.tuple ⟨a.toList.map e⟩
 |v=>d v
def ren(n m:Nat):Value→Value:=renF (renF (ren1 n m) (ren1 n m)) (ren1 n m)
def bf(n m:Nat)(x:OS):OS:=@OS.rec (fun _=>OS) (fun l k z=>.cells (l.map (ren n m)) k z) (fun l k=>.ro (l.map (ren n m)) k) (fun es=>.map (es.map fun e=>(e.1,ren n m e.2))) (fun s p=>.iter s p) .dead x
theorem Zcd{n m b:Nat}(h:b<n):rn n m b=b:=by
 have:Zh b n=true:=by simpa using h
 unfold rn;rw[this];rfl
theorem jq {n m b : Nat} (h : n ≤ b) : rn n m b = m + (b - n) := by
  have : Zh b n = false := by
    cases hb : Zh b n with
    | false => rfl
    | true => have : b < n := by simpa using hb
              omega
  unfold rn; rw [this]; rfl
section
variable {i j:Io}{n m N:Nat}(hj:∀b x,i b=some x→j (rn n m b)=some x∧j.lim (rn n m b)=i.lim b)
include hj
theorem VR.ren1{v v':Value}(h:VR i v v')(hv:vl1 N v=true):VR j (ren1 n m v) v':=by
 cases h with
 |bool b=>exact .bool b
 |int k a=>exact .int k a
 |float k a=>exact .float k a
 |string t=>exact .string t
 |nilp=>exact .nilp
 |ptr h=>exact .ptr (hj _ _ h).1
 |nils h=>exact .nils h
 |slice h1 h2 h3 h4 h5 h6=>exact .slice (hj _ _ h1).1 h2 h3 h4 h5 (by rw[(hj _ _ h1).2];exact h6)
 |nilm=>exact .nilm
 |map h=>exact .map (hj _ _ h).1
 |nilFunc=>exact .nilFunc
 |nilIface=>exact .nilIface
 |func f h h'=>cases hv
 |iface t h=>cases hv
 |agg h=>cases hv
 |tuple h=>cases hv
omit hj in
theorem VRs.renS{e:Value→Bool}{g:Value→Value}(he:∀ {v v':Value},VR i v v'→e v=true→VR j (g v) v'):∀ {l l':List Value},VRs i l l'→vls e l=true→VRs j (l.map g) l'
 |_,_,.nil,_=>.nil
 |v::l,_,.cons h h',hv=>by
  have hv':(bif e v then vls e l else false)=true:=hv;cases hb:e v with
  |false=>rw[hb]at hv';cases hv'
  |true=>rw[hb]at hv';exact .cons (he h hb) (h'.renS he hv')
theorem VR.renF{e:Value→Bool}{g:Value→Value}(he:∀ {v v':Value},VR i v v'→e v=true→VR j (g v) v'){v v':Value}(h:VR i v v')(hv:vlF N e v=true):VR j (renF g (Go.Ax.ren1 n m) v) v':=by
 cases h with
 |func f h h'=>
  unfold vlF at hv;simp only at hv;rename_i a a' c c';cases hb:vls e a with
  |false=>rw[hb]at hv;cases hv
  |true=>rw[hb]at hv;exact .func f (h.renS he hb) (h'.renS he hv)
 |iface t h=>exact .iface t (he h hv)
 |agg h=>exact .agg (h.renS he hv)
 |tuple h=>exact .tuple (h.renS he hv)
 |bool b=>exact .bool b
 |int k a=>exact .int k a
 |float k a=>exact .float k a
 |string t=>exact .string t
 |nilp=>exact .nilp
 |ptr h=>exact VR.ren1 hj (.ptr h) hv
 |nils h=>exact .nils h
 |slice h1 h2 h3 h4 h5 h6=>exact VR.ren1 hj (.slice h1 h2 h3 h4 h5 h6) hv
 |nilm=>exact .nilm
 |map h=>exact VR.ren1 hj (.map h) hv
 |nilFunc=>exact .nilFunc
 |nilIface=>exact .nilIface
theorem VR.ren{v v':Value}(h:VR i v v')(hv:vl N v=true):VR j (ren n m v) v':=
 VR.renF hj (fun h hv=>VR.renF hj (fun h hv=>VR.ren1 hj h hv) h hv) h hv
theorem MR.ren :∀ {es:List (Value×Value)} {l:List MapEntry},MR i es l→vlE N es=true→MR j (es.map fun e=>(e.1,Go.Ax.ren n m e.2)) l
 |_,_,.nil,_=>.nil
 |(k,v)::es,_,.cons h h1 h',hv=>by
  have hv':(bif vl N v then vlE N es else false)=true:=hv;cases hb:vl N v with
  |false=>rw[hb]at hv';cases hv'
  |true=>rw[hb]at hv';exact .cons h (VR.ren hj h1 hb) (MR.ren h' hv')
theorem OR.ren{x:OS}(hx:osL N x=true){o:Option Obj}{t:Nat}(h:OR i x.mk o t):OR j (bf n m x).mk o t:=by
 cases x with
 |cells l k z=>
  obtain⟨cs,e,fr,h1,h2,h3,h4,h5⟩:=h;refine⟨cs,e,fr,h1,h2,h3,fun a v hk hv=>?_,h5⟩;rw[T.get_fill]at hv;split at hv
  ·rename_i hc;rw[Zc]at hc;rw[Zy]at hv;cases hl:l[a-0]? with
   |none=>rw[hl]at hv;cases hv
   |some u=>
    rw[hl]at hv;cases hv;obtain⟨v',g1,g2⟩:=h4 a u hk (by rw[T.get_fill,if_pos hc];exact hl);exact⟨v',g1,VR.ren hj g2 (jm hx hl)⟩
  ·cases hv
 |ro l k=>
  obtain⟨cs,e,fr,h1,h2,h4⟩:=h;refine⟨cs,e,fr,h1,h2,fun a v hk hv=>?_⟩;rw[T.get_fill]at hv;split at hv
  ·rename_i hc;rw[Zc]at hc;rw[Zy]at hv;cases hl:l[a-0]? with
   |none=>rw[hl]at hv;cases hv
   |some u=>
    rw[hl]at hv;cases hv;obtain⟨v',g1,g2⟩:=h4 a u hk (by rw[T.get_fill,if_pos hc];exact hl);exact⟨v',g1,VR.ren hj g2 (jm hx hl)⟩
  ·cases hv
 |map es=>
  obtain⟨h0,es',clk,l,h1,h2,h3,h4,h5⟩:=h;refine⟨h0,es',clk,l,h1,h2,MR.ren hj h3 hx,?_,h5⟩;show(es.map _).Pairwise _;rw[List.pairwise_map];exact h4
 |iter s p=>exact h
 |dead=>cases hx
end
def v5(n n':Nat):List (Nat×OS)→Bool
 |[]=>true
 |x::l=>bif Zb n x.1&&(Zh x.1 n'&&osL n' x.2)then v5 n n' l else false
theorem BK{n n':Nat}:∀ {l:List (Nat×OS)},v5 n n' l=true→∀b x,(b,x)∈l→n≤b∧b<n'∧osL n' x=true
 |[],_,b,x,h=>by cases h
 |y::l,h,b,x,hm=>by
  have h':(bif Zb n y.1&&(Zh y.1 n'&&osL n' y.2)then v5 n n' l else false)=true:=h;cases hb:Zb n y.1&&(Zh y.1 n'&&osL n' y.2)with
  |false=>rw[hb]at h';cases h'
  |true=>
   rw[hb]at h';rcases Zg.1 hm with rfl|hm
   ·simp only[Zi]at hb;exact⟨Yr hb.1,by simpa using hb.2.1,hb.2.2⟩
   ·exact BK h' b x hm
def roL :List (Nat×OS)→Bool
 |[]=>true
 |x::l=>bif Tn x.2 then roL l else false
theorem BG :∀ {l:List (Nat×OS)},roL l=true→∀b x,(b,x)∈l→Tn x=true
 |[],_,b,x,h=>by cases h
 |y::l,h,b,x,hm=>by
  have h':(bif Tn y.2 then roL l else false)=true:=h;cases hb:Tn y.2 with
  |false=>rw[hb]at h';cases h'
  |true=>
   rw[hb]at h';rcases Zg.1 hm with rfl|hm
   ·exact hb
   ·exact BG h' b x hm
def Bi(m:MS):Bool:=To m.nx m.pre&&(roL m.pre&&(v5 m.nx m.nx' m.post&&(vl m.nx' m.ans&&(vls (vl m.nx) m.args&&Zb 1000 m.nx))))
def Cd(m:MS)(args:List Value)(s:AS):Bool:=Gz (Zb m.nx s.nx) (Gz (eqL m.args args) (jk s.h m.pre))
def MS.laid(m:MS)(k:Nat):List (Nat×OS):=m.post.map fun x=>(rn m.nx k x.1,bf m.nx k x.2)
def MS.leftW(m:MS)(s:AS):AS:=⟨s.h.lay (mkL (m.laid s.nx)),s.nx+(m.nx'-m.nx)⟩
def Io.join(i i':Io)(n m:Nat):Io:=⟨fun b=>bif Zh b m then i b else i' (b-m+n),fun b=>bif Zh b m then i.lim b else i'.lim (b-m+n)⟩
theorem BH{i i':Io}{n m b:Nat}(h:b<m):(i.join i' n m) b=i b∧(i.join i' n m).lim b=i.lim b:=by
 have:Zh b m=true:=by simpa using h
 unfold Io.join;simp[this]
theorem jr {i i' : Io} {n m b : Nat} (h : m ≤ b) : (i.join i' n m) b = i' (b - m + n) ∧ (i.join i' n m).lim b = i'.lim (b - m + n) := by
  have : Zh b m = false := by
    cases hb : Zh b m with
    | false => rfl
    | true => have : b < m := by simpa using hb
              omega
  unfold Io.join
  simp [this]
theorem Zce{P:Program}{m:MS}{call:Gu}{f:FuncId}(hC:Mz P call)(hm:m.memo.Ok call f)(hk:Bi m=true){args:List Value}{s:AS}(hf:Cd m args s=true){i:Io}{w:World}{args':List Value}(hR:Rel i s w)(hg:Gl i)(ha:VRs i args args'):
  Nc P f args' i s w (ren m.nx s.nx m.ans) (m.leftW s):=by
 unfold Bi at hk;simp only[Zi]at hk;obtain⟨k1,k0,k2,k3,k4,k5⟩:=hk;have k5:=Yr k5;obtain⟨f1,f2⟩:=H5 hf;obtain⟨f2,f3⟩:=H5 f2;have f1:=Yr f1;have hargs:m.args=args:=YL _ _ f2;subst hargs;have hs:=vw s.h m.pre f3;have key:=XV k1 hs;have hR0:Rel (i.cut m.nx) (stL m.pre m.nx) w:=hR.cutS k1 hs;have hst:m.memo.st=stL m.pre m.nx:=rfl;obtain⟨t',hrun,hnx,hpost⟩:=hm.run;rw[hst]at hrun;have hnx:t'.nx=m.nx':=hnx;have hg0:Gl (i.cut m.nx):=fun g hg'=>by rw[Bh (by omega)];exact hg g hg'
 have hF:=hC f m.args _ m.ans t' hrun (i.cut m.nx) w args' hR0 hg0 (ha.cutL k4);have far:∀b,fixed (obA (stL m.pre m.nx) b)=true:=fun b=>by
  cases hc:(stL m.pre m.nx).h.get b with
  |none=>unfold obA;rw[hc];rfl
  |some o=>
   obtain⟨x,o',h1,rfl,_⟩:=key b o hc;rw[C4 hc,XY];exact BG k0 b x h1
 have fin:∀v' w' i',VR i' m.ans v'→Rel i' t' w'→Fr (i.cut m.nx) (stL m.pre m.nx) w i' t' w'→VR (i.join i' m.nx s.nx) (ren m.nx s.nx m.ans) v'∧Rel (i.join i' m.nx s.nx) (m.leftW s) w'∧Fr i s w (i.join i' m.nx s.nx) (m.leftW s) w':=by
  intro v' w' i' hv hR' hF';have hn0:m.nx≤m.nx':=by have:=hF'.nx;rw[hnx]at this;exact this
  have agree:∀b,b<m.nx→i' b=i b:=fun b hb=>by
   cases hi:i b with
   |some x=>exact hF'.le b x (by rw[Bh hb];exact hi)
   |none=>exact hF'.dom b hb (by rw[Bh hb];exact hi)
  have hj:∀b x,i' b=some x→(i.join i' m.nx s.nx) (rn m.nx s.nx b)=some x∧(i.join i' m.nx s.nx).lim (rn m.nx s.nx b)=i'.lim b:=fun b x e=>by
   by_cases hb:b<m.nx
   ·rw[Zcd hb];obtain⟨e1,e2⟩:=BH (i:=i) (i':=i') (n:=m.nx) (show b<s.nx by omega);have e3:i b=some x:=by rw[←agree b hb];exact e
    exact⟨by rw[e1];exact e3,by rw[e2];exact(hF'.le.lim b x (by rw[Bh hb];exact e3)).symm⟩
   ·rw[jq (by omega)];obtain⟨e1,e2⟩:=jr (i:=i) (i':=i') (n:=m.nx) (show s.nx≤s.nx+(b-m.nx) by omega);have e4:s.nx+(b-m.nx)-s.nx+m.nx=b:=by omega
    rw[e4]at e1 e2;exact⟨by rw[e1];exact e,e2⟩
  have layGet:∀b,(∃b0 x,(b0,x)∈m.post∧b=s.nx+(b0-m.nx)∧m.nx≤b0∧b0<m.nx'∧osL m.nx' x=true∧(m.leftW s).h.get b=some (bf m.nx s.nx x).mk)∨(m.leftW s).h.get b=s.h.get b:=fun b=>by
   rcases T.lay_get s.h (mkL (m.laid s.nx)) b with⟨o,h1,h2⟩|⟨h1,h2⟩
   ·obtain⟨x,h3,rfl⟩:=Cb h1;unfold MS.laid at h3;obtain⟨⟨b0,x0⟩,h4,h5⟩:=List.mem_map.1 h3;obtain⟨h6,h7,h8⟩:=BK k2 b0 x0 h4;injection h5 with e1 e2
    subst e2;rw[jq h6]at e1;exact .inl ⟨b0,x0,h4,e1.symm,h6,h7,h8,h2⟩
   ·exact .inr h2
  have old:∀b,b<s.nx→(m.leftW s).h.get b=s.h.get b:=fun b hb=>by
   rcases layGet b with⟨b0,x,h1,h2,_⟩|h
   ·omega
   ·exact h
  have lowS:∀b o,s.h.get b=some o→b<s.nx:=fun b o h=>by
   rcases Zt b s.nx with e|e
   ·exact e
   ·rw[(hR.fresh b e).2]at h;cases h
  have lowI:∀b x,i b=some x→b<s.nx:=fun b x h=>by
   rcases Zt b s.nx with e|e
   ·exact e
   ·rw[(hR.fresh b e).1]at h;cases h
  have same:∀q,q<w.heap.size→w'.heap[q]? =w.heap[q]? :=fun q hq=>hF'.keep q hq (fun b t _=>far b);have newQ:∀b q t,m.nx≤b→i' b=some (q,t)→w.heap.size≤q:=fun b q t hb e=>by
   rcases hF'.new b q t e with h|h|⟨b0,t0,_,h⟩
   ·have:=(C7 h).2;omega
   ·exact h
   ·rw[far b0]at h;cases h
  have newO:∀b0 x,(b0,x)∈m.post→osL m.nx' x=true→∃o',t'.h.get b0=some o'∧Wk x.mk o'∧alive x.mk=true∧alive o'=true:=fun b0 x h1 h2=>by
   obtain⟨o',g1,g2⟩:=hpost b0 x.mk (Cc h1);exact⟨o',g1,g2,XX h2,g2.live (XX h2)⟩
  have jn:∀b0,m.nx≤b0→(i.join i' m.nx s.nx) (s.nx+(b0-m.nx))=i' b0∧(i.join i' m.nx s.nx).lim (s.nx+(b0-m.nx))=i'.lim b0:=fun b0 h=>by
   have:=jr (i:=i) (i':=i') (n:=m.nx) (show s.nx≤s.nx+(b0-m.nx) by omega);rw[show s.nx+(b0-m.nx)-s.nx+m.nx=b0 by omega]at this;exact this
  have jo:∀b,b<s.nx→(i.join i' m.nx s.nx) b=i b∧(i.join i' m.nx s.nx).lim b=i.lim b:=fun b h=>BH h;have hle:Le i (i.join i' m.nx s.nx):=⟨fun b x e=>by rw[(jo b (lowI b x e)).1];exact e,fun b x e=>(jo b (lowI b x e)).2⟩;refine⟨VR.ren hj hv k3,⟨fun b o ho hal=>?_,fun b b' o o' q t t1 ho ho' hal hal' e e'=>?_,fun b hb=>?_,fun b c n z q t ho e=>?_,fun b q t e hor=>?_⟩,
   ⟨hle,fun b q t e=>?_,hF'.os,hF'.tape,hF'.output,hF'.size,fun q hq _=>same q hq,fun b x e _=>old b (lowI b x e),by show s.nx≤s.nx+_;omega,fun b hb e=>by rw[(jo b hb).1];exact e,fun b hb _ hn=>by rw[old b hb];exact hn,fun b hn=>?_⟩⟩
  ·rcases layGet b with⟨b0,x,h1,rfl,h3,h4,h5,h6⟩|h
   ·rw[h6]at ho;cases ho;obtain⟨o',g1,g2,g3,g4⟩:=newO b0 x h1 h5;obtain⟨q,t,g5,g6⟩:=hR'.obj b0 o' g1 g4;exact⟨q,t,by rw[(jn b0 h3).1];exact g5,OR.ren hj h5 (g2.or g3 g6)⟩
   ·rw[h]at ho;obtain⟨q,t,g1,g2⟩:=hR.obj b o ho hal;have hq:=hR.dom b q t g1 (.inl (by rw[ho];simp));exact⟨q,t,hle b _ g1,by rw[same q hq];exact g2.mono hle⟩
  ·rcases layGet b with⟨b0,x,h1,rfl,h3,h4,h5,h6⟩|h
   ·rw[h6]at ho;cases ho;rw[(jn b0 h3).1]at e;obtain⟨o1,g1,g2,g3,g4⟩:=newO b0 x h1 h5;rcases layGet b' with⟨b0',x',h1',rfl,h3',h4',h5',h6'⟩|h'
    ·rw[(jn b0' h3').1]at e';obtain⟨o1',g1',g2',g3',g4'⟩:=newO b0' x' h1' h5';rw[hR'.inj b0 b0' o1 o1' q t t1 g1 g1' g4 g4' e e']
    ·rw[h']at ho';have hb':=lowS b' o' ho';rw[(jo b' hb').1]at e';have:=hR.dom b' q t1 e' (.inl (by rw[ho'];simp));have:=newQ b0 q t h3 e;omega
   ·rw[h]at ho;have hb:=lowS b o ho;rw[(jo b hb).1]at e;rcases layGet b' with⟨b0',x',h1',rfl,h3',h4',h5',h6'⟩|h'
    ·rw[(jn b0' h3').1]at e';have:=hR.dom b q t e (.inl (by rw[ho];simp));have:=newQ b0' q t1 h3' e';omega
    ·rw[h']at ho';have hb':=lowS b' o' ho';rw[(jo b' hb').1]at e';exact hR.inj b b' o o' q t t1 ho ho' hal hal' e e'
  ·have hb:s.nx+(m.nx'-m.nx)≤b:=hb;have h1:=jr (i:=i) (i':=i') (n:=m.nx) (show s.nx≤b by omega);have h2:=hR'.fresh (b-s.nx+m.nx) (by rw[hnx];omega);refine⟨by rw[h1.1];exact h2.1,?_⟩;rcases layGet b with⟨b0,x,_,rfl,h3,h4,_⟩|h
   ·omega
   ·rw[h];exact(hR.fresh b (by omega)).2
  ·rcases layGet b with⟨b0,x,h1,rfl,h3,h4,h5,h6⟩|h
   ·rw[h6]at ho;injection ho with ho
    obtain⟨o',g1,g2,g3,g4⟩:=newO b0 x h1 h5;rw[(jn b0 h3).1]at e;cases x with
    |cells l k z1=>
     injection ho with e1 e2 e3
     cases o' with
     |cells c' n' z'=>
      obtain⟨e4,e5,_⟩:=g2;subst e4 e5;obtain⟨l1,l2⟩:=hR'.lim b0 c' k z1 q t g1 e;rw[(jn b0 h3).2,←e3];exact⟨l1,l2⟩
     |_=>exact g2.elim
    |_=>cases ho
   ·rw[h]at ho;have hb:=lowS b _ ho;rw[(jo b hb).1]at e;rw[(jo b hb).2];obtain⟨l1,l2⟩:=hR.lim b c n z q t ho e;have hq:=hR.dom b q t e (.inl (by rw[ho];simp));exact⟨l1,fun cs e' fr hw=>l2 cs e' fr (by rw[←same q hq];exact hw)⟩
  ·by_cases hb:b<s.nx
   ·rw[(jo b hb).1]at e;refine Yu (hR.dom b q t e (hor.imp (fun h=>?_) id)) hF'.size;rw[old b hb]at h;exact h
   ·have h1:=jr (i:=i) (i':=i') (n:=m.nx) (show s.nx≤b by omega);rw[h1.1]at e;exact hR'.dom _ q t e (.inr (by omega))
  ·by_cases hb:b<s.nx
   ·rw[(jo b hb).1]at e;exact .inl e
   ·have h1:=jr (i:=i) (i':=i') (n:=m.nx) (show s.nx≤b by omega);rw[h1.1]at e;exact .inr (.inl (newQ _ q t (by omega) e))
  ·cases hc:s.h.get b with
   |none=>exact absurd hc hn
   |some o=>rw[old b (lowS b o hc),hc];simp
 rcases hF with⟨v',w',i',q1,q2,q3,q4⟩|⟨q1,q2⟩
 ·obtain⟨z1,z2,z3⟩:=fin v' w' i' q2 q3 q4;exact .inl ⟨v',w',_,q1,z1,z2,z3⟩
 ·refine .inr ⟨q1,Calls.mono q2 (fun e w' he=>?_)⟩;cases e with
  |returned v'=>
   obtain⟨i',h1,h2,h3⟩:=he;exact⟨_,fin v' w' i' h1 h2 h3⟩
  |panicked c=>exact he.elim
  |outgrown=>exact he.elim
def Ce(ms:List MS)(els:List Value→AS→R):List Value→AS→R:=
 @List.rec MS (fun _=>List Value→AS→R) els (fun m _ ih args s=>@Bool.rec (fun _=>R) (ih args s) (some (ren m.nx s.nx m.ans,m.leftW s)) (Cd m args s)) ms
theorem BM{P:Program}{call:Gu}{f:FuncId}(hC:Mz P call){els:List Value→AS→R}(he:POk P f els):∀(ms:List MS),(∀m∈ms,m.memo.Ok call f∧Bi m=true)→POk P f (Ce ms els)
 |[],_=>he
 |m::ms,h=>by
  intro args s v s' hr i w args' hR hg ha;have hr': @Bool.rec (fun _=>R) (Ce ms els args s) (some (ren m.nx s.nx m.ans,m.leftW s)) (Cd m args s)=some (v,s'):=hr;cases hb:Cd m args s with
  |true=>
   rw[hb]at hr';injection hr' with hr'
   cases hr';obtain⟨h1,h2⟩:=h m (Zm ..);exact Zce hC h1 h2 hb hR hg ha
  |false=>
   rw[hb]at hr';exact BM hC he ms (fun m hm=>h m (Zs _ hm)) args s v s' hr' i w args' hR hg ha
theorem BN{E:Env}{F D:Nat}{f:FuncId}{m:MS}(h1:YP m (Gw E F D f m.args m.memo.st)=true)(h2:XZ m=true):m.memo.Ok (Gw E F D) f:=by
 obtain⟨r,hr⟩:∃r,r=Gw E F D f m.args m.memo.st:=⟨_,rfl⟩;rw[←hr]at h1;have hrun:=hr.symm
 match r,h1 with
 |some (v,t'),h1=>
  obtain⟨e1,h1⟩:=H5 h1;obtain⟨e2,e3⟩:=H5 h1;unfold XZ at h2;simp only[Zi,List.all_eq_true,Bool.or_eq_true,List.any_eq_true,Bool.not_eq_true',beq_iff_eq,Vh]at h2;obtain⟨k1,k2⟩:=h2;refine⟨⟨t',?_,Zv e2,fun b o hb=>?_⟩,fun b o hb=>?_,fun b o hb hf=>?_,fun b o hb=>?_⟩
  ·have:=jh _ _ e1;show _=some (m.ans,t');rw[this];exact hrun
  ·obtain⟨x,hx,rfl⟩:=Cb hb;exact vw t'.h m.post e3 b x hx
  ·obtain⟨x,hx,rfl⟩:=Cb hb;have:=(k1 _ hx).1;cases x<;>first|rfl|cases this
  ·obtain⟨x,hx,rfl⟩:=Cb hb;rw[XY]at hf;rcases(k1 _ hx).2 with h|⟨y,h3,h4⟩
   ·rw[hf]at h;cases h
   ·obtain⟨yb,yx⟩:=y;have h4:yb=b:=h4;subst h4;exact⟨_,Cc h3⟩
  ·obtain⟨x,hx,rfl⟩:=Cb hb;rcases k2 _ hx with h|⟨y,h3,h4,h5⟩
   ·exact .inl h
   ·obtain⟨yb,yx⟩:=y;have h4:yb=b:=h4;subst h4;exact .inr ⟨_,Cc h3,by rw[XY];exact h5⟩
end
end Go.Ax
