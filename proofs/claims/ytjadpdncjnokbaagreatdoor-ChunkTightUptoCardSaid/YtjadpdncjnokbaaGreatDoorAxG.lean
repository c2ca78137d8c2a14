/- The machine, quick in the kernel: the code made ready ahead (places of slots, sizes, offsets), all cases by closed recursors, what follows handed on. -/
import Derived.Test.YtjadpdncjnokbaaGreatDoorAxA
import Derived.Test.YtjadpdncjnokbaaGreatDoorAxC
set_option linter.unusedSimpArgs false
set_option linter.unusedVariables false
namespace Go.Ax
open Go
noncomputable section
def T.gk{α:Type}(t:T α):Nat→Option α:=
 T.rec (motive:=fun _=>Nat→Option α) (fun _=>none)
  (fun _ v _ gl gr i=>Nat.rec (motive:=fun _=>Option α) v (fun p _=>Bool.rec (motive:=fun _=>Option α) (gr (Nat.div p 2)) (gl (Nat.div p 2)) (Nat.beq (Nat.mod p 2) 0)) i) t
def T.ok{α:Type}(d:Nat):Nat→Option α→T α:=
 Nat.rec (motive:=fun _=>Nat→Option α→T α) (fun _ x=>.n .e x .e)
  (fun _ ih i x=>Nat.rec (motive:=fun _=>T α) (.n .e x .e) (fun p _=>Bool.rec (motive:=fun _=>T α) (.n .e none (ih (Nat.div p 2) x)) (.n (ih (Nat.div p 2) x) none .e) (Nat.beq (Nat.mod p 2) 0)) i) d
def T.pk{α:Type}(t:T α):Nat→Option α→T α:=
 T.rec (motive:=fun _=>Nat→Option α→T α) (fun i x=>T.ok i i x)
  (fun l v r sl sr i x=>Nat.rec (motive:=fun _=>T α) (.n l x r) (fun p _=>Bool.rec (motive:=fun _=>T α) (.n l v (sr (Nat.div p 2) x)) (.n (sl (Nat.div p 2) x) v r) (Nat.beq (Nat.mod p 2) 0)) i) t
theorem T.gk_eq{α:Type}(t:T α):∀i,t.gk i=t.get i:=by
 induction t with
 |e=>intro i;rfl
 |n l v r ihl ihr=>
  intro i;cases i with
  |zero=>rfl
  |succ p=>
   show Bool.rec (motive:=fun _=>Option α) (r.gk (p/2)) (l.gk (p/2)) (Nat.beq (p%2) 0)=_;rw[T.get_succ,ihl,ihr];cases Nat.beq (p%2) 0<;>rfl
theorem T.ok_eq{α:Type}(d:Nat):∀i (x:Option α),T.ok d i x=T.one d i x:=by
 induction d with
 |zero=>intro i x;rfl
 |succ d ih=>
  intro i x;cases i with
  |zero=>rfl
  |succ p=>
   show Bool.rec (motive:=fun _=>T α) (.n .e none (T.ok d (p/2) x)) (.n (T.ok d (p/2) x) none .e) (Nat.beq (p%2) 0)=_;rw[T.one_succ,ih];cases Nat.beq (p%2) 0<;>rfl
theorem T.pk_eq{α:Type}(t:T α):∀i (x:Option α),t.pk i x=t.put i x:=by
 induction t with
 |e=>intro i x;exact T.ok_eq i i x
 |n l v r ihl ihr=>
  intro i x;cases i with
  |zero=>rfl
  |succ p=>
   show Bool.rec (motive:=fun _=>T α) (.n l v (r.pk (p/2) x)) (.n (l.pk (p/2) x) v r) (Nat.beq (p%2) 0)=_;rw[T.put_succ,ihl,ihr];cases Nat.beq (p%2) 0<;>rfl
end
end Go.Ax
namespace Go.Ax
open Go
noncomputable section
abbrev R :=Option (Value×AS)
def cmpL(a:List UInt8):List UInt8→Nat:=
 @List.rec UInt8 (fun _=>List UInt8→Nat) (fun b=>@List.rec UInt8 (fun _=>Nat) 1 (fun _ _ _=>0) b)
  (fun x _ ih b=>@List.rec UInt8 (fun _=>Nat) 2 (fun y t _=>@Bool.rec (fun _=>Nat) (@Bool.rec (fun _=>Nat) 2 0 (Nat.ble (Nat.succ x.toNat) y.toNat)) (ih t) (Nat.beq x.toNat y.toNat)) b) a
theorem Zn1(x y:UInt8)(a b:List UInt8):cmpL (x::a) (y::b)=if x=y then cmpL a b else if x<y then 0 else 2:=by
 show @Bool.rec (fun _=>Nat) (@Bool.rec (fun _=>Nat) 2 0 (Nat.ble (Nat.succ x.toNat) y.toNat)) (cmpL a b) (Nat.beq x.toNat y.toNat)=_;by_cases h:x=y
 ·subst h;rw[if_pos rfl,Nat.beq_refl]
 ·rw[if_neg h];have h1:Nat.beq x.toNat y.toNat=false:=by
   cases hb:Nat.beq x.toNat y.toNat with
   |false=>rfl
   |true=>exact absurd (UInt8.toNat_inj.1 (Nat.eq_of_beq_eq_true hb)) h
  rw[h1];by_cases h2:x<y
  ·rw[if_pos h2];have:Nat.ble (Nat.succ x.toNat) y.toNat=true:=by
    rw[Nat.ble_eq];exact UInt8.lt_iff_toNat_lt.1 h2
   rw[this]
  ·rw[if_neg h2];have:Nat.ble (Nat.succ x.toNat) y.toNat=false:=by
    cases hb:Nat.ble (Nat.succ x.toNat) y.toNat with
    |false=>rfl
    |true=>
     rw[Nat.ble_eq]at hb;exact absurd (UInt8.lt_iff_toNat_lt.2 hb) h2
   rw[this]
theorem Ze3 :∀(a b:List UInt8),cmpL a b≤2∧(cmpL a b=1↔a=b)∧(cmpL a b=0↔Op.bytesLess a b=true)
 |[],[]=>⟨by decide,by decide,by decide⟩
 |[],y::b=>⟨Nat.zero_le _,by simp[cmpL],by simp[cmpL,Op.bytesLess]⟩
 |x::a,[]=>⟨Nat.le_refl 2,by simp[cmpL],by simp[cmpL,Op.bytesLess]⟩
 |x::a,y::b=>by
  rw[Zn1];obtain⟨h1,h2,h3⟩:=Ze3 a b;by_cases h:x=y
  ·subst h;rw[if_pos rfl];refine⟨h1,by rw[h2];simp,?_⟩;rw[h3];simp[Op.bytesLess]
  ·rw[if_neg h];by_cases h4:x<y
   ·rw[if_pos h4];exact⟨Nat.zero_le _,by simp[h],by simp[Op.bytesLess,h4]⟩
   ·rw[if_neg h4];exact⟨Nat.le_refl _,by simp[h],by simp[Op.bytesLess,h,h4]⟩
def Zn2(a b:ByteArray):Nat:=cmpL a.data.toList b.data.toList
end
end Go.Ax
namespace Go.Ax
open Go
noncomputable section
def Wk(o o':Ze):Prop:=
 match o,o' with
 |.cells c n z,.cells c' n' z'=>n=n'∧z=z'∧∀k v,k<n→c.get k=some v→c'.get k=some v
 |.ro c n,.ro c' n'=>n=n'∧∀k v,k<n→c.get k=some v→c'.get k=some v
 |.map es,.map es'=>es=es'
 |.iter s p,.iter s' p'=>s=s'∧p=p'
 |.dead,_=>True
 |_,_=>False
theorem Wk.live{o o':Ze}(h:Wk o o')(ha:alive o=true):alive o'=true:=by
 cases o<;>cases o'<;>first|rfl|exact h.elim|cases ha
theorem Wk.fix{o o':Ze}(h:Wk o o')(ha:alive o=true):fixed o'=fixed o:=by
 cases o<;>cases o'<;>first|rfl|exact h.elim|cases ha
theorem Wk.or{i:Io}{o o':Ze}{x:Option Obj}{t:Nat}(h:Wk o o')(ha:alive o=true)(hr:OR i o' x t):OR i o x t:=by
 cases o with
 |cells c n z=>
  cases o' with
  |cells c' n' z'=>
   obtain⟨rfl,rfl,h3⟩:=h;obtain⟨cs,e,fr,h1,h2,h4,h5,h6⟩:=hr;exact⟨cs,e,fr,h1,h2,h4,fun k v hk hv=>h5 k v hk (h3 k v hk hv),h6⟩
  |_=>exact h.elim
 |ro c n=>
  cases o' with
  |ro c' n'=>
   obtain⟨rfl,h3⟩:=h;obtain⟨cs,e,fr,h1,h2,h5⟩:=hr;exact⟨cs,e,fr,h1,h2,fun k v hk hv=>h5 k v hk (h3 k v hk hv)⟩
  |_=>exact h.elim
 |map es=>
  cases o' with
  |map es'=>obtain rfl:es=es':=h;exact hr
  |_=>exact h.elim
 |iter s p=>
  cases o' with
  |iter s' p'=>obtain⟨rfl,rfl⟩:=h;exact hr
  |_=>exact h.elim
 |dead=>cases ha
 |far=>cases ha
def T.lay(t:T Ze)(l:List (Nat×Ze)):T Ze:=
 @List.rec (Nat×Ze) (fun _=>T Ze) t (fun x _ ih=>T.pk ih x.1 (some x.2)) l
theorem T.lay_get(t:T Ze):∀(l:List (Nat×Ze)) (b:Nat),(∃o,(b,o)∈l∧(t.lay l).get b=some o)∨((∀o,(b,o)∉l)∧(t.lay l).get b=t.get b)
 |[],b=>.inr ⟨by simp,rfl⟩
 |(a,x)::l,b=>by
  have e:(t.lay ((a,x)::l)).get b=if b=a then some x else(t.lay l).get b:=by
   show((t.lay l).pk a (some x)).get b=_;rw[T.pk_eq];exact T.get_set _ _ _ _
  by_cases h:b=a
  ·subst h;exact .inl ⟨x,by simp,by rw[e,if_pos rfl]⟩
  ·rw[if_neg h]at e;rcases T.lay_get t l b with⟨o,h1,h2⟩|⟨h1,h2⟩
   ·exact .inl ⟨o,List.mem_cons_of_mem _ h1,e.trans h2⟩
   ·refine .inr ⟨fun o ho=>?_,e.trans h2⟩;rcases List.mem_cons.1 ho with h3|h3
    ·cases h3;exact h rfl
    ·exact h1 o h3
structure Bp where
 args:List Value
 nx:Nat
 pre:List (Nat×Ze)
 ans:Value
 nx':Nat
 post:List (Nat×Ze)
def Bp.st(m:Bp):AS:=⟨T.e.lay m.pre,m.nx⟩
structure Bp.Ok(m:Bp)(call:Zq)(f:FuncId):Prop where
 run:∃t',call f m.args m.st=some (m.ans,t')∧t'.nx=m.nx'∧∀b o,(b,o)∈m.post→∃o',t'.h.get b=some o'∧Wk o o'
 live:∀b o,(b,o)∈m.pre→alive o=true
 pre:∀b o,(b,o)∈m.pre→fixed o=false→∃o',(b,o')∈m.post
 post:∀b o,(b,o)∈m.post→m.nx≤b∨∃o',(b,o')∈m.pre∧fixed o'=false
end
end Go.Ax
namespace Go.Ax
open Go
noncomputable section
def Zv(a b:Bool):Bool:=@Bool.rec (fun _=>Bool) false b a
theorem Yy{a b:Bool}(h:Zv a b=true):a=true∧b=true:=by
 cases a with
 |true=>exact⟨rfl,h⟩
 |false=>cases h
def D3(v:Value):(Bool→Bool)→Bool:=
 @Value.rec (fun _=>(Bool→Bool)→Bool) (fun _=>Unit) (fun _=>Unit)
  (fun x0 f=>f x0)
  (fun _ _ _=>false)
  (fun _ _ _=>false)
  (fun _ _ _ _=>false)
  (fun _ _=>false)
  (fun _ _=>false)
  (fun _ _ _ _=>false)
  (fun _ _=>false)
  (fun _ _=>false)
  (fun _ _ _ _ _ _=>false)
  (fun _=>false)
  (fun _ _ _ _=>false)
  (fun _=>false)
  (fun _ _ _=>false)
  (fun _ _ _=>false)
  (fun _ _=>()) () (fun _ _ _ _=>()) v
def D4(v:Value):(IntKind→Int→Bool)→Bool:=
 @Value.rec (fun _=>(IntKind→Int→Bool)→Bool) (fun _=>Unit) (fun _=>Unit)
  (fun _ _=>false)
  (fun x0 x1 f=>f x0 x1)
  (fun _ _ _=>false)
  (fun _ _ _ _=>false)
  (fun _ _=>false)
  (fun _ _=>false)
  (fun _ _ _ _=>false)
  (fun _ _=>false)
  (fun _ _=>false)
  (fun _ _ _ _ _ _=>false)
  (fun _=>false)
  (fun _ _ _ _=>false)
  (fun _=>false)
  (fun _ _ _=>false)
  (fun _ _ _=>false)
  (fun _ _=>()) () (fun _ _ _ _=>()) v
def D5(v:Value):(FloatKind→Nat→Bool)→Bool:=
 @Value.rec (fun _=>(FloatKind→Nat→Bool)→Bool) (fun _=>Unit) (fun _=>Unit)
  (fun _ _=>false)
  (fun _ _ _=>false)
  (fun x0 x1 f=>f x0 x1)
  (fun _ _ _ _=>false)
  (fun _ _=>false)
  (fun _ _=>false)
  (fun _ _ _ _=>false)
  (fun _ _=>false)
  (fun _ _=>false)
  (fun _ _ _ _ _ _=>false)
  (fun _=>false)
  (fun _ _ _ _=>false)
  (fun _=>false)
  (fun _ _ _=>false)
  (fun _ _ _=>false)
  (fun _ _=>()) () (fun _ _ _ _=>()) v
def D6(v:Value):(ByteArray→Bool)→Bool:=
 @Value.rec (fun _=>(ByteArray→Bool)→Bool) (fun _=>Unit) (fun _=>Unit)
  (fun _ _=>false)
  (fun _ _ _=>false)
  (fun _ _ _=>false)
  (fun _ _ _ _=>false)
  (fun x0 f=>f x0)
  (fun _ _=>false)
  (fun _ _ _ _=>false)
  (fun _ _=>false)
  (fun _ _=>false)
  (fun _ _ _ _ _ _=>false)
  (fun _=>false)
  (fun _ _ _ _=>false)
  (fun _=>false)
  (fun _ _ _=>false)
  (fun _ _ _=>false)
  (fun _ _=>()) () (fun _ _ _ _=>()) v
def D7(v:Value):(Option Addr→Bool)→Bool:=
 @Value.rec (fun _=>(Option Addr→Bool)→Bool) (fun _=>Unit) (fun _=>Unit)
  (fun _ _=>false)
  (fun _ _ _=>false)
  (fun _ _ _=>false)
  (fun _ _ _ _=>false)
  (fun _ _=>false)
  (fun x0 f=>f x0)
  (fun _ _ _ _=>false)
  (fun _ _=>false)
  (fun _ _=>false)
  (fun _ _ _ _ _ _=>false)
  (fun _=>false)
  (fun _ _ _ _=>false)
  (fun _=>false)
  (fun _ _ _=>false)
  (fun _ _ _=>false)
  (fun _ _=>()) () (fun _ _ _ _=>()) v
def D8(v:Value):(Option Addr→Nat→Nat→Bool)→Bool:=
 @Value.rec (fun _=>(Option Addr→Nat→Nat→Bool)→Bool) (fun _=>Unit) (fun _=>Unit)
  (fun _ _=>false)
  (fun _ _ _=>false)
  (fun _ _ _=>false)
  (fun _ _ _ _=>false)
  (fun _ _=>false)
  (fun _ _=>false)
  (fun x0 x1 x2 f=>f x0 x1 x2)
  (fun _ _=>false)
  (fun _ _=>false)
  (fun _ _ _ _ _ _=>false)
  (fun _=>false)
  (fun _ _ _ _=>false)
  (fun _=>false)
  (fun _ _ _=>false)
  (fun _ _ _=>false)
  (fun _ _=>()) () (fun _ _ _ _=>()) v
def D9(v:Value):(Option Nat→Bool)→Bool:=
 @Value.rec (fun _=>(Option Nat→Bool)→Bool) (fun _=>Unit) (fun _=>Unit)
  (fun _ _=>false)
  (fun _ _ _=>false)
  (fun _ _ _=>false)
  (fun _ _ _ _=>false)
  (fun _ _=>false)
  (fun _ _=>false)
  (fun _ _ _ _=>false)
  (fun x0 f=>f x0)
  (fun _ _=>false)
  (fun _ _ _ _ _ _=>false)
  (fun _=>false)
  (fun _ _ _ _=>false)
  (fun _=>false)
  (fun _ _ _=>false)
  (fun _ _ _=>false)
  (fun _ _=>()) () (fun _ _ _ _=>()) v
def Fa(v:Value):(Fn→Array Value→Array Value→Bool)→Bool:=
 @Value.rec (fun _=>(Fn→Array Value→Array Value→Bool)→Bool) (fun _=>Unit) (fun _=>Unit)
  (fun _ _=>false)
  (fun _ _ _=>false)
  (fun _ _ _=>false)
  (fun _ _ _ _=>false)
  (fun _ _=>false)
  (fun _ _=>false)
  (fun _ _ _ _=>false)
  (fun _ _=>false)
  (fun _ _=>false)
  (fun x0 x1 x2 _ _ f=>f x0 x1 x2)
  (fun _=>false)
  (fun _ _ _ _=>false)
  (fun _=>false)
  (fun _ _ _=>false)
  (fun _ _ _=>false)
  (fun _ _=>()) () (fun _ _ _ _=>()) v
def Fb(v:Value):(Bool)→Bool:=
 @Value.rec (fun _=>(Bool)→Bool) (fun _=>Unit) (fun _=>Unit)
  (fun _ _=>false)
  (fun _ _ _=>false)
  (fun _ _ _=>false)
  (fun _ _ _ _=>false)
  (fun _ _=>false)
  (fun _ _=>false)
  (fun _ _ _ _=>false)
  (fun _ _=>false)
  (fun _ _=>false)
  (fun _ _ _ _ _ _=>false)
  (fun f=>f)
  (fun _ _ _ _=>false)
  (fun _=>false)
  (fun _ _ _=>false)
  (fun _ _ _=>false)
  (fun _ _=>()) () (fun _ _ _ _=>()) v
def Fc(v:Value):(TypeId→Value→Bool)→Bool:=
 @Value.rec (fun _=>(TypeId→Value→Bool)→Bool) (fun _=>Unit) (fun _=>Unit)
  (fun _ _=>false)
  (fun _ _ _=>false)
  (fun _ _ _=>false)
  (fun _ _ _ _=>false)
  (fun _ _=>false)
  (fun _ _=>false)
  (fun _ _ _ _=>false)
  (fun _ _=>false)
  (fun _ _=>false)
  (fun _ _ _ _ _ _=>false)
  (fun _=>false)
  (fun x0 x1 _ f=>f x0 x1)
  (fun _=>false)
  (fun _ _ _=>false)
  (fun _ _ _=>false)
  (fun _ _=>()) () (fun _ _ _ _=>()) v
def Fe(v:Value):(Bool)→Bool:=
 @Value.rec (fun _=>(Bool)→Bool) (fun _=>Unit) (fun _=>Unit)
  (fun _ _=>false)
  (fun _ _ _=>false)
  (fun _ _ _=>false)
  (fun _ _ _ _=>false)
  (fun _ _=>false)
  (fun _ _=>false)
  (fun _ _ _ _=>false)
  (fun _ _=>false)
  (fun _ _=>false)
  (fun _ _ _ _ _ _=>false)
  (fun _=>false)
  (fun _ _ _ _=>false)
  (fun f=>f)
  (fun _ _ _=>false)
  (fun _ _ _=>false)
  (fun _ _=>()) () (fun _ _ _ _=>()) v
def Ff(v:Value):(Array Value→Bool)→Bool:=
 @Value.rec (fun _=>(Array Value→Bool)→Bool) (fun _=>Unit) (fun _=>Unit)
  (fun _ _=>false)
  (fun _ _ _=>false)
  (fun _ _ _=>false)
  (fun _ _ _ _=>false)
  (fun _ _=>false)
  (fun _ _=>false)
  (fun _ _ _ _=>false)
  (fun _ _=>false)
  (fun _ _=>false)
  (fun _ _ _ _ _ _=>false)
  (fun _=>false)
  (fun _ _ _ _=>false)
  (fun _=>false)
  (fun x0 _ f=>f x0)
  (fun _ _ _=>false)
  (fun _ _=>()) () (fun _ _ _ _=>()) v
def Fg(v:Value):(Array Value→Bool)→Bool:=
 @Value.rec (fun _=>(Array Value→Bool)→Bool) (fun _=>Unit) (fun _=>Unit)
  (fun _ _=>false)
  (fun _ _ _=>false)
  (fun _ _ _=>false)
  (fun _ _ _ _=>false)
  (fun _ _=>false)
  (fun _ _=>false)
  (fun _ _ _ _=>false)
  (fun _ _=>false)
  (fun _ _=>false)
  (fun _ _ _ _ _ _=>false)
  (fun _=>false)
  (fun _ _ _ _=>false)
  (fun _=>false)
  (fun _ _ _=>false)
  (fun x0 _ f=>f x0)
  (fun _ _=>()) () (fun _ _ _ _=>()) v
theorem Zn3{v:Value}{f:Bool→Bool}(h:D3 v f=true):∃x0,v=.bool x0∧f x0=true:=by
 cases v<;>first|exact⟨_,rfl,h⟩|cases h
theorem Zn4{v:Value}{f:IntKind→Int→Bool}(h:D4 v f=true):∃x0 x1,v=.int x0 x1∧f x0 x1=true:=by
 cases v<;>first|exact⟨_,_,rfl,h⟩|cases h
theorem Zn5{v:Value}{f:FloatKind→Nat→Bool}(h:D5 v f=true):∃x0 x1,v=.float x0 x1∧f x0 x1=true:=by
 cases v<;>first|exact⟨_,_,rfl,h⟩|cases h
theorem Zn6{v:Value}{f:ByteArray→Bool}(h:D6 v f=true):∃x0,v=.string x0∧f x0=true:=by
 cases v<;>first|exact⟨_,rfl,h⟩|cases h
theorem Zn7{v:Value}{f:Option Addr→Bool}(h:D7 v f=true):∃x0,v=.pointer x0∧f x0=true:=by
 cases v<;>first|exact⟨_,rfl,h⟩|cases h
theorem Zn8{v:Value}{f:Option Addr→Nat→Nat→Bool}(h:D8 v f=true):∃x0 x1 x2,v=.slice x0 x1 x2∧f x0 x1 x2=true:=by
 cases v<;>first|exact⟨_,_,_,rfl,h⟩|cases h
theorem Zn9{v:Value}{f:Option Nat→Bool}(h:D9 v f=true):∃x0,v=.map x0∧f x0=true:=by
 cases v<;>first|exact⟨_,rfl,h⟩|cases h
theorem Zoa{v:Value}{f:Fn→Array Value→Array Value→Bool}(h:Fa v f=true):∃x0 x1 x2,v=.func x0 x1 x2∧f x0 x1 x2=true:=by
 cases v<;>first|exact⟨_,_,_,rfl,h⟩|cases h
theorem Zob{v:Value}{f:Bool}(h:Fb v f=true):v=.nilFunc∧f=true:=by
 cases v<;>first|exact⟨rfl,h⟩|cases h
theorem Zoc{v:Value}{f:TypeId→Value→Bool}(h:Fc v f=true):∃x0 x1,v=.iface x0 x1∧f x0 x1=true:=by
 cases v<;>first|exact⟨_,_,rfl,h⟩|cases h
theorem Zod{v:Value}{f:Bool}(h:Fe v f=true):v=.nilIface∧f=true:=by
 cases v<;>first|exact⟨rfl,h⟩|cases h
theorem Zoe{v:Value}{f:Array Value→Bool}(h:Ff v f=true):∃x0,v=.agg x0∧f x0=true:=by
 cases v<;>first|exact⟨_,rfl,h⟩|cases h
theorem Zof{v:Value}{f:Array Value→Bool}(h:Fg v f=true):∃x0,v=.tuple x0∧f x0=true:=by
 cases v<;>first|exact⟨_,rfl,h⟩|cases h
def Fh(a b:Bool):Bool:=@Bool.rec (fun _=>Bool) (@Bool.rec (fun _=>Bool) true false b) b a
def knd(k:IntKind):Nat:=@IntKind.rec (fun _=>Nat) 0 1 2 3 4 5 6 7 k
def Gh(k:FloatKind):Nat:=@FloatKind.rec (fun _=>Nat) 0 1 k
theorem Zog{a b:FloatKind}(h:Nat.beq (Gh a) (Gh b)=true):a=b:=by
 cases a<;>cases b<;>first|rfl|cases h
def eqI(a:Int):Int→Bool:=@Int.rec (fun _=>Int→Bool) (fun x b=>@Int.rec (fun _=>Bool) (Nat.beq x) (fun _=>false) b) (fun x b=>@Int.rec (fun _=>Bool) (fun _=>false) (Nat.beq x) b) a
def eqS(a b:ByteArray):Bool:=Nat.beq (Zn2 a b) 1
def Ze4(a b:Addr):Bool:=Zv (Nat.beq a.block b.block) (Zv (Nat.beq a.off b.off) (@Option.rec _ (fun _=>Bool) (@Option.rec _ (fun _=>Bool) true (fun _=>false) b.spot) (fun _=>false) a.spot))
def Hm(a b:Option Addr):Bool:=@Option.rec _ (fun _=>Bool) (@Option.rec _ (fun _=>Bool) true (fun _=>false) b) (fun x=>@Option.rec _ (fun _=>Bool) false (fun y=>Ze4 x y) b) a
def eqN(a b:Option Nat):Bool:=@Option.rec _ (fun _=>Bool) (@Option.rec _ (fun _=>Bool) true (fun _=>false) b) (fun x=>@Option.rec _ (fun _=>Bool) false (fun y=>Nat.beq x y) b) a
def Fi(a b:Fn):Bool:=@Fn.rec (fun _=>Bool) (fun x=>@Fn.rec (fun _=>Bool) (fun y=>Nat.beq x y) (fun _=>false) (fun _ _=>false) (fun _ _ _ _=>false) (fun _=>false) b) (fun _=>false) (fun _ _=>false) (fun _ _ _ _=>false) (fun _=>false) a
def eqV(a:Value):Value→Bool:=
 @Value.rec (fun _=>Value→Bool) (fun _=>List Value→Bool) (fun _=>List Value→Bool)
  (fun b v=>D3 v (Fh b))
  (fun k n v=>D4 v (fun k' n'=>Zv (Nat.beq (knd k) (knd k')) (eqI n n')))
  (fun k n v=>D5 v (fun k' n'=>Zv (Nat.beq (Gh k) (Gh k')) (Nat.beq n n')))
  (fun _ _ _ _=>false)
  (fun s v=>D6 v (eqS s))
  (fun a v=>D7 v (Hm a))
  (fun a n c v=>D8 v (fun a' n' c'=>Zv (Hm a a') (Zv (Nat.beq n n') (Nat.beq c c'))))
  (fun r v=>D9 v (eqN r))
  (fun _ _=>false)
  (fun fn x y ihx ihy v=>Fa v (fun fn' x' y'=>Zv (Fi fn fn') (Zv (ihx x'.toList) (ihy y'.toList))))
  (fun v=>Fb v true)
  (fun t x ih v=>Fc v (fun t' x'=>Zv (Nat.beq t t') (ih x')))
  (fun v=>Fe v true)
  (fun a ih v=>Ff v (fun a'=>ih a'.toList))
  (fun a ih v=>Fg v (fun a'=>ih a'.toList))
  (fun l ih=>ih)
  (fun m=>@List.rec Value (fun _=>Bool) true (fun _ _ _=>false) m)
  (fun x l ihx ihl m=>@List.rec Value (fun _=>Bool) false (fun y m' _=>Zv (ihx y) (ihl m')) m)
  a
def Zoh(a:Array Value):List Value→Bool:=
 @Value.rec_1 (fun _=>Value→Bool) (fun _=>List Value→Bool) (fun _=>List Value→Bool)
  (fun b v=>D3 v (Fh b))
  (fun k n v=>D4 v (fun k' n'=>Zv (Nat.beq (knd k) (knd k')) (eqI n n')))
  (fun k n v=>D5 v (fun k' n'=>Zv (Nat.beq (Gh k) (Gh k')) (Nat.beq n n')))
  (fun _ _ _ _=>false)
  (fun s v=>D6 v (eqS s))
  (fun a v=>D7 v (Hm a))
  (fun a n c v=>D8 v (fun a' n' c'=>Zv (Hm a a') (Zv (Nat.beq n n') (Nat.beq c c'))))
  (fun r v=>D9 v (eqN r))
  (fun _ _=>false)
  (fun fn x y ihx ihy v=>Fa v (fun fn' x' y'=>Zv (Fi fn fn') (Zv (ihx x'.toList) (ihy y'.toList))))
  (fun v=>Fb v true)
  (fun t x ih v=>Fc v (fun t' x'=>Zv (Nat.beq t t') (ih x')))
  (fun v=>Fe v true)
  (fun a ih v=>Ff v (fun a'=>ih a'.toList))
  (fun a ih v=>Fg v (fun a'=>ih a'.toList))
  (fun l ih=>ih)
  (fun m=>@List.rec Value (fun _=>Bool) true (fun _ _ _=>false) m)
  (fun x l ihx ihl m=>@List.rec Value (fun _=>Bool) false (fun y m' _=>Zv (ihx y) (ihl m')) m)
  a
def Zoi(a:List Value):List Value→Bool:=
 @Value.rec_2 (fun _=>Value→Bool) (fun _=>List Value→Bool) (fun _=>List Value→Bool)
  (fun b v=>D3 v (Fh b))
  (fun k n v=>D4 v (fun k' n'=>Zv (Nat.beq (knd k) (knd k')) (eqI n n')))
  (fun k n v=>D5 v (fun k' n'=>Zv (Nat.beq (Gh k) (Gh k')) (Nat.beq n n')))
  (fun _ _ _ _=>false)
  (fun s v=>D6 v (eqS s))
  (fun a v=>D7 v (Hm a))
  (fun a n c v=>D8 v (fun a' n' c'=>Zv (Hm a a') (Zv (Nat.beq n n') (Nat.beq c c'))))
  (fun r v=>D9 v (eqN r))
  (fun _ _=>false)
  (fun fn x y ihx ihy v=>Fa v (fun fn' x' y'=>Zv (Fi fn fn') (Zv (ihx x'.toList) (ihy y'.toList))))
  (fun v=>Fb v true)
  (fun t x ih v=>Fc v (fun t' x'=>Zv (Nat.beq t t') (ih x')))
  (fun v=>Fe v true)
  (fun a ih v=>Ff v (fun a'=>ih a'.toList))
  (fun a ih v=>Fg v (fun a'=>ih a'.toList))
  (fun l ih=>ih)
  (fun m=>@List.rec Value (fun _=>Bool) true (fun _ _ _=>false) m)
  (fun x l ihx ihl m=>@List.rec Value (fun _=>Bool) false (fun y m' _=>Zv (ihx y) (ihl m')) m)
  a
def eqL(l:List Value):List Value→Bool:=
 @List.rec Value (fun _=>List Value→Bool) (fun m=>@List.rec Value (fun _=>Bool) true (fun _ _ _=>false) m)
  (fun x l ihl m=>@List.rec Value (fun _=>Bool) false (fun y m' _=>Zv (eqV x y) (ihl m')) m) l
theorem Zoj{a b:Bool}(h:Fh a b=true):a=b:=by cases a<;>cases b<;>first|rfl|cases h
theorem Zok{a b:IntKind}(h:Nat.beq (knd a) (knd b)=true):a=b:=by cases a<;>cases b<;>first|rfl|cases h
theorem Zol{a b:Int}(h:eqI a b=true):a=b:=by
 cases a<;>cases b<;>first|exact congrArg _ (Nat.eq_of_beq_eq_true h)|cases h
theorem Ze5{a b:ByteArray}(h:eqS a b=true):a=b:=by
 have:=(Ze3 a.data.toList b.data.toList).2.1.1 (Nat.eq_of_beq_eq_true h);exact ByteArray.ext (Array.ext' this)
theorem Zom{a b:Addr}(h:Ze4 a b=true):a=b:=by
 obtain⟨a1,a2,a3⟩:=a;obtain⟨b1,b2,b3⟩:=b;obtain⟨h1,h⟩:=Yy h;obtain⟨h2,h3⟩:=Yy h;obtain rfl:a1=b1:=Nat.eq_of_beq_eq_true h1;obtain rfl:a2=b2:=Nat.eq_of_beq_eq_true h2;cases a3<;>cases b3<;>first|rfl|cases h3
theorem Ze6{a b:Option Addr}(h:Hm a b=true):a=b:=by
 cases a<;>cases b<;>first|rfl|exact congrArg _ (Zom h)|cases h
theorem Zon{a b:Option Nat}(h:eqN a b=true):a=b:=by
 cases a<;>cases b<;>first|rfl|exact congrArg _ (Nat.eq_of_beq_eq_true h)|cases h
theorem Zoo{a b:Fn}(h:Fi a b=true):a=b:=by
 cases a<;>cases b<;>first|exact congrArg _ (Nat.eq_of_beq_eq_true h)|cases h
theorem Bq(a:Value):∀b,eqV a b=true→a=b:=by
 refine @Value.rec (fun a=>∀b,eqV a b=true→a=b) (fun a=>∀l,Zoh a l=true→a.toList=l) (fun a=>∀l,Zoi a l=true→a=l) ?_ ?_ ?_ ?_ ?_ ?_ ?_ ?_ ?_ ?_ ?_ ?_ ?_ ?_ ?_ ?_ ?_ ?_ a
 ·intro b v h;obtain⟨x,rfl,h1⟩:=Zn3 h;rw[Zoj h1]
 ·intro k n v h;obtain⟨x,y,rfl,h1⟩:=Zn4 h;obtain⟨h1,h2⟩:=Yy h1;rw[Zok h1,Zol h2]
 ·intro k n v h;obtain⟨x,y,rfl,h1⟩:=Zn5 h;obtain⟨h1,h2⟩:=Yy h1;rw[Zog h1,Nat.eq_of_beq_eq_true h2]
 ·intro k n m v h;cases h
 ·intro s v h;obtain⟨x,rfl,h1⟩:=Zn6 h;rw[Ze5 h1]
 ·intro s v h;obtain⟨x,rfl,h1⟩:=Zn7 h;rw[Ze6 h1]
 ·intro a n c v h;obtain⟨x,y,z,rfl,h1⟩:=Zn8 h;obtain⟨h1,h2⟩:=Yy h1;obtain⟨h2,h3⟩:=Yy h2;rw[Ze6 h1,Nat.eq_of_beq_eq_true h2,Nat.eq_of_beq_eq_true h3]
 ·intro s v h;obtain⟨x,rfl,h1⟩:=Zn9 h;rw[Zon h1]
 ·intro s v h;cases h
 ·intro fn x y ihx ihy v h;obtain⟨fn',x',y',rfl,h1⟩:=Zoa h;obtain⟨h1,h2⟩:=Yy h1;obtain⟨h2,h3⟩:=Yy h2;rw[Zoo h1,Array.ext' (ihx _ h2),Array.ext' (ihy _ h3)]
 ·intro v h;obtain⟨rfl,_⟩:=Zob h;rfl
 ·intro t x ih v h;obtain⟨t',x',rfl,h1⟩:=Zoc h;obtain⟨h1,h2⟩:=Yy h1;rw[Nat.eq_of_beq_eq_true h1,ih _ h2]
 ·intro v h;obtain⟨rfl,_⟩:=Zod h;rfl
 ·intro a ih v h;obtain⟨x,rfl,h1⟩:=Zoe h;rw[Array.ext' (ih _ h1)]
 ·intro a ih v h;obtain⟨x,rfl,h1⟩:=Zof h;rw[Array.ext' (ih _ h1)]
 ·intro l ih;exact ih
 ·intro m h;cases m with
  |nil=>rfl
  |cons _ _=>cases h
 ·intro x l ihx ihl m h;cases m with
  |nil=>cases h
  |cons y m=>
   obtain⟨h1,h2⟩:=Yy h;rw[ihx _ h1,ihl _ h2]
theorem I5 :∀(l m:List Value),eqL l m=true→l=m
 |[],[],_=>rfl
 |[],_::_,h=>by cases h
 |_::_,[],h=>by cases h
 |x::l,y::m,h=>by
  obtain⟨h1,h2⟩:=Yy h;rw[Bq _ _ h1,I5 l m h2]
def eqE(l:List (Value×Value)):List (Value×Value)→Bool:=
 @List.rec (Value×Value) (fun _=>List (Value×Value)→Bool) (fun m=>@List.rec (Value×Value) (fun _=>Bool) true (fun _ _ _=>false) m)
  (fun x l ihl m=>@List.rec (Value×Value) (fun _=>Bool) false (fun y m' _=>Zv (eqV x.1 y.1) (Zv (eqV x.2 y.2) (ihl m'))) m) l
theorem Ze7 :∀(l m:List (Value×Value)),eqE l m=true→l=m
 |[],[],_=>rfl
 |[],_::_,h=>by cases h
 |_::_,[],h=>by cases h
 |x::l,y::m,h=>by
  obtain⟨h1,h2⟩:=Yy h;obtain⟨h2,h3⟩:=Yy h2;rw[Prod.ext (Bq _ _ h1) (Bq _ _ h2),Ze7 l m h3]
inductive OS where
 |cells (l:List Value) (n z:Nat)
 |ro (l:List Value) (n:Nat)
 |map (es:List (Value×Value))
 |iter (s:ByteArray) (p:Nat)
 |dead
def OS.mk(x:OS):Ze:=@OS.rec (fun _=>Ze) (fun l n z=>.cells (T.e.fill 0 l) n z) (fun l n=>.ro (T.e.fill 0 l) n) (fun es=>.map es) (fun s p=>.iter s p) .dead x
def Gi(c:T Value)(l:List Value):Nat→Bool:=
 @List.rec Value (fun _=>Nat→Bool) (fun _=>true) (fun v _ ih k=>Zv (@Option.rec _ (fun _=>Bool) false (eqV v) (c.gk k)) (ih (Nat.succ k))) l
def Zop(o:Ze):(T Value→Nat→Nat→Bool)→Bool:=@Ze.rec (fun _=>(T Value→Nat→Nat→Bool)→Bool) (fun c n z f=>f c n z) (fun _ _ _=>false) (fun _ _=>false) (fun _ _ _=>false) (fun _=>false) (fun _=>false) o
def iRo(o:Ze):(T Value→Nat→Bool)→Bool:=@Ze.rec (fun _=>(T Value→Nat→Bool)→Bool) (fun _ _ _ _=>false) (fun c n f=>f c n) (fun _ _=>false) (fun _ _ _=>false) (fun _=>false) (fun _=>false) o
def iMp(o:Ze):(List (Value×Value)→Bool)→Bool:=@Ze.rec (fun _=>(List (Value×Value)→Bool)→Bool) (fun _ _ _ _=>false) (fun _ _ _=>false) (fun es f=>f es) (fun _ _ _=>false) (fun _=>false) (fun _=>false) o
def iIt(o:Ze):(ByteArray→Nat→Bool)→Bool:=@Ze.rec (fun _=>(ByteArray→Nat→Bool)→Bool) (fun _ _ _ _=>false) (fun _ _ _=>false) (fun _ _=>false) (fun s p f=>f s p) (fun _=>false) (fun _=>false) o
def Fj(x:OS):Ze→Bool:=
 @OS.rec (fun _=>Ze→Bool) (fun l n z o=>Zop o (fun c n' z'=>Zv (Nat.beq n n') (Zv (Nat.beq z z') (Gi c l 0))))
  (fun l n o=>iRo o (fun c n'=>Zv (Nat.beq n n') (Gi c l 0))) (fun es o=>iMp o (eqE es)) (fun s p o=>iIt o (fun s' p'=>Zv (eqS s s') (Nat.beq p p'))) (fun _=>true) x
theorem Ze8(c:T Value):∀(l:List Value) (k:Nat),Gi c l k=true→∀j v,l[j]? =some v→c.get (k+j)=some v
 |[],k,_,j,v,h=>by simp at h
 |x::l,k,h,j,v,hv=>by
  obtain⟨h1,h2⟩:=Yy h;cases j with
  |zero=>
   simp at hv;subst hv;rw[T.gk_eq]at h1;cases hc:c.get k with
   |none=>rw[hc]at h1;cases h1
   |some y=>
    rw[hc]at h1;rw[Bq _ _ h1]
  |succ j=>
   have:=Ze8 c l (k+1) h2 j v (by simpa using hv);rw[show k+(j+1)=k+1+j by omega];exact this
theorem Ze9{c:T Value}{l:List Value}(h:Gi c l 0=true)(k:Nat)(v:Value)(hv:((T.e:T Value).fill 0 l).get k=some v):c.get k=some v:=by
 by_cases hk:k<l.length
 ·rw[Zdo l k hk]at hv;have:=Ze8 c l 0 h k v hv;rw[Nat.zero_add]at this;exact this
 ·rw[T.get_fill,if_neg (by omega)]at hv;cases hv
theorem Zoq{x:OS}{o:Ze}(h:Fj x o=true):Wk x.mk o:=by
 cases x with
 |cells l n z=>
  cases o with
  |cells c n' z'=>
   obtain⟨h1,h2⟩:=Yy h;obtain⟨h2,h3⟩:=Yy h2;exact⟨Nat.eq_of_beq_eq_true h1,Nat.eq_of_beq_eq_true h2,fun k v _ hv=>Ze9 h3 k v hv⟩
  |_=>cases h
 |ro l n=>
  cases o with
  |ro c n'=>
   obtain⟨h1,h3⟩:=Yy h;exact⟨Nat.eq_of_beq_eq_true h1,fun k v _ hv=>Ze9 h3 k v hv⟩
  |_=>cases h
 |map es=>
  cases o with
  |map es'=>exact Ze7 _ _ h
  |_=>cases h
 |iter s p=>
  cases o with
  |iter s' p'=>
   obtain⟨h1,h2⟩:=Yy h;exact⟨Ze5 h1,Nat.eq_of_beq_eq_true h2⟩
  |_=>cases h
 |dead=>trivial
structure MS where
 args:List Value
 nx:Nat
 pre:List (Nat×OS)
 ans:Value
 nx':Nat
 post:List (Nat×OS)
def mkL(l:List (Nat×OS)):List (Nat×Ze):=@List.rec (Nat×OS) (fun _=>List (Nat×Ze)) [] (fun x _ ih=>(x.1,x.2.mk)::ih) l
theorem Ut :∀ {l:List (Nat×OS)} {b:Nat} {o:Ze},(b,o)∈mkL l→∃x,(b,x)∈l∧o=x.mk
 |[],_,_,h=>by cases h
 |x::l,b,o,h=>by
  rcases List.mem_cons.1 h with h|h
  ·cases h;exact⟨x.2,by simp,rfl⟩
  ·obtain⟨y,h1,h2⟩:=Ut h;exact⟨y,List.mem_cons_of_mem _ h1,h2⟩
theorem Uu :∀ {l:List (Nat×OS)} {b:Nat} {x:OS},(b,x)∈l→(b,x.mk)∈mkL l
 |y::l,b,x,h=>by
  rcases List.mem_cons.1 h with h|h
  ·cases h;exact List.mem_cons_self
  ·exact List.mem_cons_of_mem _ (Uu h)
def MS.memo(m:MS):Bp:=⟨m.args,m.nx,mkL m.pre,m.ans,m.nx',mkL m.post⟩
def Br(h:T Ze)(l:List (Nat×OS)):Bool:=
 @List.rec (Nat×OS) (fun _=>Bool) true (fun x _ ih=>Zv (@Option.rec _ (fun _=>Bool) false (Fj x.2) (h.gk x.1)) ih) l
theorem Fl(h:T Ze):∀(l:List (Nat×OS)),Br h l=true→∀b x,(b,x)∈l→∃o,h.get b=some o∧Wk x.mk o
 |y::l,hl,b,x,hx=>by
  obtain⟨h1,h2⟩:=Yy hl;rcases List.mem_cons.1 hx with hx|hx
  ·subst hx;rw[T.gk_eq]at h1;cases hc:h.get b with
   |none=>simp only[hc]at h1;cases h1
   |some o=>simp only[hc]at h1;exact⟨o,rfl,Zoq h1⟩
  ·exact Fl h l h2 b x hx
def I6(m:MS)(r:R):Bool:=@Option.rec _ (fun _=>Bool) false (fun p=>Zv (eqV m.ans p.1) (Zv (Nat.beq p.2.nx m.nx') (Br p.2.h m.post))) r
def Hn(x:OS):Bool:=match x with
 |.ro _ _=>true
 |_=>false
def Zor(x:OS):Bool:=match x with
 |.dead=>true
 |_=>false
def I7(m:MS):Bool:=
 m.pre.all (fun x=> !Zor x.2&&(Hn x.2||m.post.any fun y=>y.1==x.1))&&m.post.all (fun y=>Nat.ble m.nx y.1||m.pre.any fun x=>x.1==y.1&& !Hn x.2)
theorem I8(x:OS):fixed x.mk=Hn x:=by cases x<;>rfl
end
end Go.Ax
namespace Go.Ax
open Go
noncomputable section
def nbV(n x:Nat):List Value:=Nat.rec (motive:=fun _=>Nat→List Value) (fun _=>[]) (fun _ ih x=>Yd x fun x=>.int .u8 (.ofNat (Nat.mod x 256))::ih (Nat.div x 256)) n x
end
end Go.Ax
namespace Go.Ax
open Go Go.RowKit
noncomputable section
def vl1(n:Nat):Value→Bool
 |.bool _|.int _ _|.float _ _|.string _|.nilFunc|.nilIface|.pointer none|.slice none _ _|.map none=>true
 |.pointer (some p)=>Nat.blt p.block n
 |.slice (some p) _ _=>Nat.blt p.block n
 |.map (some r)=>Nat.blt r n
 |_=>false
def vls(e:Value→Bool):List Value→Bool
 |[]=>true
 |v::l=>bif e v then vls e l else false
def vlF(n:Nat)(e:Value→Bool):Value→Bool
 |.func _ a c=>bif vls e a.toList then vls e c.toList else false
 |.iface _ v=>e v
 |.agg a=>vls e a.toList
 |.tuple a=>vls e a.toList
 |v=>vl1 n v
def vl(n:Nat):Value→Bool:=vlF n (vlF n (vl1 n))
def Io.cut(i:Io)(n:Nat):Io:=⟨fun b=>bif Nat.blt b n then i b else none,i.lim⟩
theorem Jk{i:Io}{n b:Nat}{x:Nat×Nat}(h:(i.cut n) b=some x):i b=some x∧b<n:=by
 unfold Io.cut at h;simp only at h;cases hb:Nat.blt b n with
 |false=>rw[hb]at h;cases h
 |true=>rw[hb]at h;exact⟨h,by simpa using hb⟩
theorem V4{i:Io}{n b:Nat}(h:b<n):(i.cut n) b=i b:=by
 have:Nat.blt b n=true:=by simpa using h
 unfold Io.cut;simp[this]
theorem VR.cut1{i:Io}{n:Nat}{v v':Value}(h:VR i v v')(hv:vl1 n v=true):VR (i.cut n) v v':=by
 unfold vl1 at hv;cases h with
 |bool b=>exact .bool b
 |int k m=>exact .int k m
 |float k m=>exact .float k m
 |string t=>exact .string t
 |nilp=>exact .nilp
 |ptr h=>exact .ptr (by rw[V4 (by simpa using hv)];exact h)
 |nils h=>exact .nils h
 |slice h1 h2 h3 h4 h5 h6=>exact .slice (by rw[V4 (by simpa using hv)];exact h1) h2 h3 h4 h5 h6
 |nilm=>exact .nilm
 |map h=>exact .map (by rw[V4 (by simpa using hv)];exact h)
 |nilFunc=>exact .nilFunc
 |nilIface=>exact .nilIface
 |func f h h'=>cases hv
 |iface t h=>cases hv
 |agg h=>cases hv
 |tuple h=>cases hv
theorem VRs.cutS{i:Io}{n:Nat}{e:Value→Bool}(he:∀ {v v':Value},VR i v v'→e v=true→VR (i.cut n) v v'):∀ {l l':List Value},VRs i l l'→vls e l=true→VRs (i.cut n) l l'
 |_,_,.nil,_=>.nil
 |v::l,_,.cons h h',hv=>by
  have hv':(bif e v then vls e l else false)=true:=hv;cases hb:e v with
  |false=>rw[hb]at hv';cases hv'
  |true=>rw[hb]at hv';exact .cons (he h hb) (h'.cutS he hv')
theorem VR.cutF{i:Io}{n:Nat}{e:Value→Bool}(he:∀ {v v':Value},VR i v v'→e v=true→VR (i.cut n) v v'){v v':Value}(h:VR i v v')(hv:vlF n e v=true):VR (i.cut n) v v':=by
 cases h with
 |func f h h'=>
  unfold vlF at hv;simp only at hv;rename_i a a' c c';cases hb:vls e a with
  |false=>rw[hb]at hv;cases hv
  |true=>rw[hb]at hv;exact .func f (h.cutS he hb) (h'.cutS he hv)
 |iface t h=>exact .iface t (he h hv)
 |agg h=>exact .agg (h.cutS he hv)
 |tuple h=>exact .tuple (h.cutS he hv)
 |bool b=>exact .bool b
 |int k m=>exact .int k m
 |float k m=>exact .float k m
 |string t=>exact .string t
 |nilp=>exact .nilp
 |ptr h=>exact VR.cut1 (.ptr h) hv
 |nils h=>exact .nils h
 |slice h1 h2 h3 h4 h5 h6=>exact VR.cut1 (.slice h1 h2 h3 h4 h5 h6) hv
 |nilm=>exact .nilm
 |map h=>exact VR.cut1 (.map h) hv
 |nilFunc=>exact .nilFunc
 |nilIface=>exact .nilIface
theorem VR.cut{i:Io}{n:Nat}{v v':Value}(h:VR i v v')(hv:vl n v=true):VR (i.cut n) v v':=
 VR.cutF (fun h hv=>VR.cutF (fun h hv=>VR.cut1 h hv) h hv) h hv
def vlE(n:Nat):List (Value×Value)→Bool
 |[]=>true
 |e::l=>bif vl n e.2 then vlE n l else false
def osL(n:Nat):OS→Bool
 |.cells l _ _=>vls (vl n) l
 |.ro l _=>vls (vl n) l
 |.map es=>vlE n es
 |.iter _ _=>true
 |.dead=>false
def Ho(n:Nat):List (Nat×OS)→Bool
 |[]=>true
 |x::l=>bif Nat.blt x.1 n&&osL n x.2 then Ho n l else false
theorem Zfa{n:Nat}:∀ {l:List (Nat×OS)},Ho n l=true→∀b x,(b,x)∈l→b<n∧osL n x=true
 |[],_,b,x,h=>by cases h
 |y::l,h,b,x,hm=>by
  have h':(bif Nat.blt y.1 n&&osL n y.2 then Ho n l else false)=true:=h;cases hb:Nat.blt y.1 n&&osL n y.2 with
  |false=>rw[hb]at h';cases h'
  |true=>
   rw[hb]at h';rcases List.mem_cons.1 hm with rfl|hm
   ·simpa using hb
   ·exact Zfa h' b x hm
theorem Bt{e:Value→Bool}:∀ {l:List Value},vls e l=true→∀ {k:Nat} {v:Value},l[k]? =some v→e v=true
 |[],_,k,v,h=>by simp at h
 |x::l,h,k,v,hk=>by
  have h':(bif e x then vls e l else false)=true:=h;cases hb:e x with
  |false=>rw[hb]at h';cases h'
  |true=>
   rw[hb]at h';cases k with
   |zero=>simp at hk;subst hk;exact hb
   |succ k=>exact Bt h' (by simpa using hk)
theorem MR.cutM{i:Io}{n:Nat}:∀ {es:List (Value×Value)} {l:List MapEntry},MR i es l→vlE n es=true→MR (i.cut n) es l
 |_,_,.nil,_=>.nil
 |(k,v)::es,_,.cons h h1 h',hv=>by
  have hv':(bif vl n v then vlE n es else false)=true:=hv;cases hb:vl n v with
  |false=>rw[hb]at hv';cases hv'
  |true=>rw[hb]at hv';exact .cons h (h1.cut hb) (h'.cutM hv')
theorem OR.cut{i:Io}{n:Nat}{x:OS}(hx:osL n x=true){o:Option Obj}{t:Nat}(h:OR i x.mk o t):OR (i.cut n) x.mk o t:=by
 cases x with
 |cells l m z=>
  obtain⟨cs,e,fr,h1,h2,h3,h4,h5⟩:=h;refine⟨cs,e,fr,h1,h2,h3,fun k v hk hv=>?_,h5⟩;obtain⟨v',g1,g2⟩:=h4 k v hk hv;rw[T.get_fill]at hv;split at hv
  ·exact⟨v',g1,g2.cut (Bt hx hv)⟩
  ·cases hv
 |ro l m=>
  obtain⟨cs,e,fr,h1,h2,h4⟩:=h;refine⟨cs,e,fr,h1,h2,fun k v hk hv=>?_⟩;obtain⟨v',g1,g2⟩:=h4 k v hk hv;rw[T.get_fill]at hv;split at hv
  ·exact⟨v',g1,g2.cut (Bt hx hv)⟩
  ·cases hv
 |map es=>
  obtain⟨h0,es',clk,l,h1,h2,h3,h4,h5⟩:=h;exact⟨h0,es',clk,l,h1,h2,h3.cutM hx,h4,h5⟩
 |iter s p=>exact h
 |dead=>cases hx
def stL(pre:List (Nat×OS))(nx:Nat):AS:=⟨T.e.lay (mkL pre),nx⟩
theorem Zos{pre:List (Nat×OS)}{nx b:Nat}{o:Ze}(h:(stL pre nx).h.get b=some o):∃x,(b,x)∈pre∧o=x.mk:=by
 rcases T.lay_get T.e (mkL pre) b with⟨o',h1,h2⟩|⟨_,h2⟩
 ·have:some o=some o':=h.symm.trans h2;cases this;exact Ut h1
 ·have:some o=none:=h.symm.trans h2;cases this
theorem I9{n:Nat}{x:OS}(h:osL n x=true):alive x.mk=true:=by
 cases x with
 |dead=>cases h
 |_=>rfl
theorem Zaa{pre:List (Nat×OS)}{nx:Nat}{s:AS}(hpre:Ho nx pre=true)(hs:∀b x,(b,x)∈pre→∃o,s.h.get b=some o∧Wk x.mk o):
  ∀b o,(stL pre nx).h.get b=some o→∃x o',(b,x)∈pre∧o=x.mk∧s.h.get b=some o'∧Wk x.mk o'∧alive x.mk=true∧osL nx x=true∧b<nx:=fun b o ho=>by
 obtain⟨x,h1,h2⟩:=Zos ho;obtain⟨o',h3,h4⟩:=hs b x h1;obtain⟨h5,h6⟩:=Zfa hpre b x h1;exact⟨x,o',h1,h2,h3,h4,I9 h6,h6,h5⟩
theorem Rel.cutS{i:Io}{s:AS}{w:World}(hR:Rel i s w){pre:List (Nat×OS)}{nx:Nat}(hpre:Ho nx pre=true)(hs:∀b x,(b,x)∈pre→∃o,s.h.get b=some o∧Wk x.mk o):Rel (i.cut nx) (stL pre nx) w:=by
 have key:=Zaa hpre hs;refine⟨fun b o ho hal=>?_,fun b b' o o' q t t' ho ho' hal hal' e e'=>?_,fun b hb'=>?_,fun b c n z q t ho e=>?_,fun b q t e hor=>?_⟩
 ·obtain⟨x,o',h1,rfl,h3,h4,h5,h6,h7⟩:=key b o ho;obtain⟨q,t,g1,g2⟩:=hR.obj b o' h3 (h4.live h5);exact⟨q,t,by rw[V4 h7];exact g1,OR.cut h6 (h4.or h5 g2)⟩
 ·obtain⟨x,p,h1,rfl,h3,h4,h5,h6,h7⟩:=key b o ho;obtain⟨x',p',h1',rfl,h3',h4',h5',h6',h7'⟩:=key b' o' ho';exact hR.inj b b' p p' q t t' h3 h3' (h4.live h5) (h4'.live h5') (Jk e).1 (Jk e').1
 ·have hb'':nx≤b:=hb';refine⟨?_,?_⟩
  ·cases hc:(i.cut nx) b with
   |none=>rfl
   |some x=>have:=(Jk hc).2;omega
  ·cases hc:(stL pre nx).h.get b with
   |none=>rfl
   |some o=>obtain⟨_,_,_,_,_,_,_,_,h⟩:=key b o hc;omega
 ·obtain⟨x,o',h1,h2,h3,h4,h5,h6,h7⟩:=key b _ ho;rw[←h2]at h4;cases o' with
  |cells c' n' z'=>
   obtain⟨rfl,rfl,_⟩:=h4;exact hR.lim b c' n z q t h3 (Jk e).1
  |_=>exact h4.elim
 ·refine hR.dom b q t (Jk e).1 (hor.imp (fun h=>?_) id);cases hc:(stL pre nx).h.get b with
  |none=>exact absurd hc h
  |some o=>
   obtain⟨_,o',_,_,h3,_⟩:=key b o hc;rw[h3];exact fun h=>by cases h
end
end Go.Ax
namespace Go.Ax
open Go Go.RowKit
noncomputable section
def osD(n:Nat)(x:OS):Bool:=@OS.rec (fun _=>Bool) (fun l _ _=>vls (vl n) l) (fun l _=>vls (vl n) l) (fun es=>vlE n es) (fun _ _=>true) true x
def Fo(n:Nat):List (Nat×OS)→Bool
 |[]=>true
 |x::l=>bif Nat.blt x.1 n&&osD n x.2 then Fo n l else false
theorem Bu{n:Nat}:∀ {l:List (Nat×OS)},Fo n l=true→∀b x,(b,x)∈l→b<n∧osD n x=true
 |[],_,b,x,h=>by cases h
 |y::l,h,b,x,hm=>by
  have h':(bif Nat.blt y.1 n&&osD n y.2 then Fo n l else false)=true:=h;cases hb:Nat.blt y.1 n&&osD n y.2 with
  |false=>rw[hb]at h';cases h'
  |true=>
   rw[hb]at h';rcases List.mem_cons.1 hm with rfl|hm
   ·simpa using hb
   ·exact Bu h' b x hm
def Zab(m:MS):Bool:=Ho m.nx m.pre&&(Fo m.nx m.post&&(vl m.nx m.ans&&(vls (vl m.nx) m.args&&Nat.ble 1000 m.nx)))
def M5(m:MS)(args:List Value)(s:AS):Bool:=Zv (Nat.ble m.nx s.nx) (Zv (eqL m.args args) (Br s.h m.pre))
def MS.leftN(m:MS)(s:AS):AS:=⟨s.h.lay (mkL m.post),s.nx⟩
theorem VRs.cutL{i:Io}{n:Nat}{l l':List Value}(h:VRs i l l')(hv:vls (vl n) l=true):VRs (i.cut n) l l':=h.cutS (fun h hv=>h.cut hv) hv
theorem Zot{P:Program}{m:MS}{call:Zq}{f:FuncId}(hC:Xn P call)(hm:m.memo.Ok call f)(hk:Zab m=true){args:List Value}{s:AS}(hf:M5 m args s=true){i:Io}{w:World}{args':List Value}(hR:Rel i s w)(hg:Gl i)(ha:VRs i args args'):
  Xw P f args' i s w m.ans (m.leftN s):=by
 unfold Zab at hk;simp only[Bool.and_eq_true]at hk;obtain⟨k1,k2,k3,k4,k5⟩:=hk;have k5:=Nat.le_of_ble_eq_true k5;obtain⟨f1,f2⟩:=Yy hf;obtain⟨f2,f3⟩:=Yy f2;have f1:=Nat.le_of_ble_eq_true f1;have hargs:m.args=args:=I5 _ _ f2;subst hargs;have hs:=Fl s.h m.pre f3;have key:=Zaa k1 hs;have hR0:Rel (i.cut m.nx) (stL m.pre m.nx) w:=hR.cutS k1 hs;have hst:m.memo.st=stL m.pre m.nx:=rfl;obtain⟨t',hrun,hnx,hpost⟩:=hm.run;rw[hst]at hrun;have hg0:Gl (i.cut m.nx):=fun g hg'=>by rw[V4 (by omega)];exact hg g hg'
 have hF:=hC f m.args _ m.ans t' hrun (i.cut m.nx) w args' hR0 hg0 (ha.cutL k4);have fin:∀v' w' i',VR i' m.ans v'→Rel i' t' w'→Fr (i.cut m.nx) (stL m.pre m.nx) w i' t' w'→VR i m.ans v'∧Rel i (m.leftN s) w'∧Fr i s w i (m.leftN s) w':=by
  intro v' w' i' hv hR' hF';have agree:∀b,b<m.nx→i' b=i b:=fun b hb=>by
   cases hi:i b with
   |some x=>exact hF'.le b x (by rw[V4 hb];exact hi)
   |none=>exact hF'.dom b hb (by rw[V4 hb];exact hi)
  have hle:Le (i'.cut m.nx) i:=⟨fun b x e=>by
    obtain⟨e1,e2⟩:=Jk e;rw[agree b e2]at e1;exact e1,fun b x e=>by
    obtain⟨e1,e2⟩:=Jk e;have e3:(i.cut m.nx) b=some x:=by rw[V4 e2,←agree b e2];exact e1
    exact(hF'.le.lim b x e3).symm⟩
  have back:∀ {v v':Value},VR i' v v'→vl m.nx v=true→VR i v v':=fun h hv=>(h.cut hv).mono hle;have inPost:∀b x,(b,x)∈m.post→b<m.nx∧∃p o,(b,p)∈m.pre∧fixed p.mk=false∧s.h.get b=some o∧Wk p.mk o∧alive o=true:=fun b x hb=>by
   obtain⟨h1,_⟩:=Bu k2 b x hb;rcases hm.post b x.mk (Uu hb)with h|⟨o',h,h2⟩
   ·have:m.nx≤b:=h;omega
   ·obtain⟨p,h3,rfl⟩:=Ut h;obtain⟨o,h4,h5⟩:=hs b p h3;exact⟨h1,p,o,h3,h2,h4,h5,h5.live (hm.live b p.mk h)⟩
  have layGet:∀b,(∃x,(b,x)∈m.post∧(m.leftN s).h.get b=some x.mk)∨((∀x,(b,x)∉m.post)∧(m.leftN s).h.get b=s.h.get b):=fun b=>by
   rcases T.lay_get s.h (mkL m.post) b with⟨o,h1,h2⟩|⟨h1,h2⟩
   ·obtain⟨x,h3,rfl⟩:=Ut h1;exact .inl ⟨x,h3,h2⟩
   ·exact .inr ⟨fun x hx=>h1 _ (Uu hx),h2⟩
  have obEq:∀b t q,(i.cut m.nx) b=some (q,t)→fixed (obA s b)=true→fixed (obA (stL m.pre m.nx) b)=true:=fun b t q e h=>by
   cases hc:(stL m.pre m.nx).h.get b with
   |none=>unfold obA;rw[hc];rfl
   |some o=>
    obtain⟨x,o',_,rfl,h3,h4,h5,_,_⟩:=key b o hc;rw[Jh hc,←h4.fix h5,←Jh h3];exact h
  have same:∀b o q t,s.h.get b=some o→alive o=true→i b=some (q,t)→(∀x,(b,x)∉m.post)→w'.heap[q]? =w.heap[q]? :=fun b o q t ho hal hi hno=>by
   refine hF'.keep q (hR.dom b q t hi (.inl (by rw[ho];simp))) (fun b1 t1 e1=>?_);cases hc:(stL m.pre m.nx).h.get b1 with
   |none=>unfold obA;rw[hc];rfl
   |some o1=>
    obtain⟨x,o',h1,rfl,h3,h4,h5,_,_⟩:=key b1 o1 hc;have hb:b1=b:=hR.inj b1 b o' o q t1 t h3 ho (h4.live h5) hal (Jk e1).1 hi;subst hb;rw[Jh hc];cases hfx:fixed x.mk with
    |true=>rfl
    |false=>
     obtain⟨o2,h6⟩:=hm.pre b1 x.mk (Uu h1) hfx;obtain⟨y,h7,_⟩:=Ut h6;exact absurd h7 (hno y)
  refine⟨back hv k3,⟨fun b o ho hal=>?_,fun b b' o o' q t t1 ho ho' hal hal' e e'=>?_,fun b hb=>?_,fun b c n z q t ho e=>?_,fun b q t e hor=>?_⟩,
   ⟨.refl i,fun _ _ _ e=>.inl e,hF'.os,hF'.tape,hF'.output,hF'.size,fun q hq hn=>?_,fun b x e hfx=>?_,Nat.le_refl _,fun _ _ e=>e,fun b hb hi hn=>?_,fun b hn=>?_⟩⟩
  ·rcases layGet b with⟨x,h1,h2⟩|⟨h1,h2⟩
   ·rw[h2]at ho;cases ho;obtain⟨hb,_⟩:=Bu k2 b x h1;obtain⟨_,hx⟩:=Bu k2 b x h1;obtain⟨o',g1,g2⟩:=hpost b x.mk (Uu h1);obtain⟨q,t,g3,g4⟩:=hR'.obj b o' g1 (g2.live hal);refine⟨q,t,by rw[←agree b hb];exact g3,?_⟩;have hx':osL m.nx x=true:=by
     cases x with
     |dead=>cases hal
     |_=>exact hx
    exact(OR.cut hx' (g2.or hal g4)).mono hle
   ·rw[h2]at ho;obtain⟨q,t,g1,g2⟩:=hR.obj b o ho hal;exact⟨q,t,g1,by rw[same b o q t ho hal g1 h1];exact g2⟩
  ·have up:∀b o,(m.leftN s).h.get b=some o→∃p,s.h.get b=some p∧(alive o=true→alive p=true):=fun b o ho=>by
    rcases layGet b with⟨x,h1,h2⟩|⟨h1,h2⟩
    ·obtain⟨_,p,p',h3,_,h4,_,h5⟩:=inPost b x h1;exact⟨p',h4,fun _=>h5⟩
    ·exact⟨o,by rw[←h2];exact ho,id⟩
   obtain⟨p,g1,g2⟩:=up b o ho;obtain⟨p',g1',g2'⟩:=up b' o' ho';exact hR.inj b b' p p' q t t1 g1 g1' (g2 hal) (g2' hal') e e'
  ·have hb':s.nx≤b:=hb;obtain⟨h1,h2⟩:=hR.fresh b hb';refine⟨h1,?_⟩;rcases layGet b with⟨x,h3,_⟩|⟨_,h4⟩
   ·obtain⟨_,_,o,_,_,h5,_⟩:=inPost b x h3;rw[h2]at h5;cases h5
   ·rw[h4,h2]
  ·rcases layGet b with⟨x,h1,h2⟩|⟨h1,h2⟩
   ·rw[h2]at ho;injection ho with ho
    obtain⟨hb,_⟩:=Bu k2 b x h1;obtain⟨o',g1,g2⟩:=hpost b x.mk (Uu h1);rw[ho]at g2;cases o' with
    |cells c' n' z'=>
     obtain⟨rfl,rfl,_⟩:=g2;have e':i' b=some (q,t):=by rw[agree b hb];exact e
     obtain⟨l1,l2⟩:=hR'.lim b c' n z q t g1 e';have hl:i.lim b=i'.lim b:=(hF'.le.lim b (q,t) (by rw[V4 hb];exact e)).symm;rw[hl];exact⟨l1,l2⟩
    |_=>exact g2.elim
   ·rw[h2]at ho;obtain⟨l1,l2⟩:=hR.lim b c n z q t ho e;exact⟨l1,fun cs e' fr hw=>l2 cs e' fr (by rw[←same b _ q t ho rfl e h1];exact hw)⟩
  ·refine Nat.lt_of_lt_of_le (hR.dom b q t e (hor.imp (fun h=>?_) id)) hF'.size;rcases layGet b with⟨x,h1,_⟩|⟨_,h2⟩
   ·obtain⟨_,_,o,_,_,h5,_⟩:=inPost b x h1;rw[h5];exact fun h=>by cases h
   ·rw[←h2];exact h
  ·exact hF'.keep q hq (fun b t e=>obEq b t q e (hn b t (Jk e).1))
  ·rcases layGet b with⟨y,h1,_⟩|⟨_,h2⟩
   ·obtain⟨_,p,o,h3,h4,h5,h6,h7⟩:=inPost b y h1;rw[Jh h5]at hfx;rw[h6.fix (hm.live b p.mk (Uu h3)),h4]at hfx;cases hfx
   ·exact h2
  ·rcases layGet b with⟨x,h1,_⟩|⟨_,h2⟩
   ·obtain⟨_,_,o,_,_,h5,_⟩:=inPost b x h1;rw[hn]at h5;cases h5
   ·rw[h2];exact hn
  ·rcases layGet b with⟨x,_,h2⟩|⟨_,h2⟩
   ·rw[h2];exact fun h=>by cases h
   ·rw[h2];exact hn
 rcases hF with⟨v',w',i',q1,q2,q3,q4⟩|⟨q1,q2⟩
 ·obtain⟨z1,z2,z3⟩:=fin v' w' i' q2 q3 q4;exact .inl ⟨v',w',i,q1,z1,z2,z3⟩
 ·refine .inr ⟨q1,Calls.mono q2 (fun e w' he=>?_)⟩;cases e with
  |returned v'=>
   obtain⟨i',h1,h2,h3⟩:=he;exact⟨i,fin v' w' i' h1 h2 h3⟩
  |panicked c=>exact he.elim
  |outgrown=>exact he.elim
def Hp(ms:List MS)(els:List Value→AS→R):List Value→AS→R:=
 @List.rec MS (fun _=>List Value→AS→R) els (fun m _ ih args s=>@Bool.rec (fun _=>R) (ih args s) (some (m.ans,m.leftN s)) (M5 m args s)) ms
theorem Zfb{P:Program}{call:Zq}{f:FuncId}(hC:Xn P call){els:List Value→AS→R}(he:POk P f els):∀(ms:List MS),(∀m∈ms,m.memo.Ok call f∧Zab m=true)→POk P f (Hp ms els)
 |[],_=>he
 |m::ms,h=>by
  intro args s v s' hr i w args' hR hg ha;have hr': @Bool.rec (fun _=>R) (Hp ms els args s) (some (m.ans,m.leftN s)) (M5 m args s)=some (v,s'):=hr;cases hb:M5 m args s with
  |true=>
   rw[hb]at hr';injection hr' with hr'
   cases hr';obtain⟨h1,h2⟩:=h m (List.mem_cons_self ..);exact Zot hC h1 h2 hb hR hg ha
  |false=>
   rw[hb]at hr';exact Zfb hC he ms (fun m hm=>h m (List.mem_cons_of_mem _ hm)) args s v s' hr' i w args' hR hg ha
end
end Go.Ax
namespace Go.Ax
open Go Go.RowKit
noncomputable section
def rn(n m b:Nat):Nat:=bif Nat.blt b n then b else m+(b-n)
def ren1(n m:Nat):Value→Value
 |.pointer (some ⟨b,o,none⟩)=>.pointer (some ⟨rn n m b,o,none⟩)
 |.slice (some ⟨b,o,none⟩) k c=>.slice (some ⟨rn n m b,o,none⟩) k c
 |.map (some r)=>.map (some (rn n m r))
 |v=>v
def renF(e:Value→Value)(d:Value→Value):Value→Value
 |.func f a c=>.func f ⟨a.toList.map e⟩ ⟨c.toList.map e⟩
 |.iface t v=>.iface t (e v)
 |.agg a=>.agg ⟨a.toList.map e⟩
 |.tuple a=>.tuple ⟨a.toList.map e⟩
 |v=>d v
def ren(n m:Nat):Value→Value:=renF (renF (ren1 n m) (ren1 n m)) (ren1 n m)
def M6(n m:Nat)(x:OS):OS:=@OS.rec (fun _=>OS) (fun l k z=>.cells (l.map (ren n m)) k z) (fun l k=>.ro (l.map (ren n m)) k) (fun es=>.map (es.map fun e=>(e.1,ren n m e.2))) (fun s p=>.iter s p) .dead x
theorem Zou{n m b:Nat}(h:b<n):rn n m b=b:=by
 have:Nat.blt b n=true:=by simpa using h
 unfold rn;rw[this];rfl
theorem Bv {n m b : Nat} (h : n ≤ b) : rn n m b = m + (b - n) := by
  have : Nat.blt b n = false := by
    cases hb : Nat.blt b n with
    | false => rfl
    | true => have : b < n := by simpa using hb
              omega
  unfold rn; rw [this]; rfl
section
variable {i j:Io}{n m N:Nat}(hj:∀b x,i b=some x→j (rn n m b)=some x∧j.lim (rn n m b)=i.lim b)
include hj
theorem VR.ren1{v v':Value}(h:VR i v v')(hv:vl1 N v=true):VR j (ren1 n m v) v':=by
 cases h with
 |bool b=>exact .bool b
 |int k a=>exact .int k a
 |float k a=>exact .float k a
 |string t=>exact .string t
 |nilp=>exact .nilp
 |ptr h=>exact .ptr (hj _ _ h).1
 |nils h=>exact .nils h
 |slice h1 h2 h3 h4 h5 h6=>exact .slice (hj _ _ h1).1 h2 h3 h4 h5 (by rw[(hj _ _ h1).2];exact h6)
 |nilm=>exact .nilm
 |map h=>exact .map (hj _ _ h).1
 |nilFunc=>exact .nilFunc
 |nilIface=>exact .nilIface
 |func f h h'=>cases hv
 |iface t h=>cases hv
 |agg h=>cases hv
 |tuple h=>cases hv
omit hj in
theorem VRs.renS{e:Value→Bool}{g:Value→Value}(he:∀ {v v':Value},VR i v v'→e v=true→VR j (g v) v'):∀ {l l':List Value},VRs i l l'→vls e l=true→VRs j (l.map g) l'
 |_,_,.nil,_=>.nil
 |v::l,_,.cons h h',hv=>by
  have hv':(bif e v then vls e l else false)=true:=hv;cases hb:e v with
  |false=>rw[hb]at hv';cases hv'
  |true=>rw[hb]at hv';exact .cons (he h hb) (h'.renS he hv')
theorem VR.renF{e:Value→Bool}{g:Value→Value}(he:∀ {v v':Value},VR i v v'→e v=true→VR j (g v) v'){v v':Value}(h:VR i v v')(hv:vlF N e v=true):VR j (renF g (Go.Ax.ren1 n m) v) v':=by
 cases h with
 |func f h h'=>
  unfold vlF at hv;simp only at hv;rename_i a a' c c';cases hb:vls e a with
  |false=>rw[hb]at hv;cases hv
  |true=>rw[hb]at hv;exact .func f (h.renS he hb) (h'.renS he hv)
 |iface t h=>exact .iface t (he h hv)
 |agg h=>exact .agg (h.renS he hv)
 |tuple h=>exact .tuple (h.renS he hv)
 |bool b=>exact .bool b
 |int k a=>exact .int k a
 |float k a=>exact .float k a
 |string t=>exact .string t
 |nilp=>exact .nilp
 |ptr h=>exact VR.ren1 hj (.ptr h) hv
 |nils h=>exact .nils h
 |slice h1 h2 h3 h4 h5 h6=>exact VR.ren1 hj (.slice h1 h2 h3 h4 h5 h6) hv
 |nilm=>exact .nilm
 |map h=>exact VR.ren1 hj (.map h) hv
 |nilFunc=>exact .nilFunc
 |nilIface=>exact .nilIface
theorem VR.ren{v v':Value}(h:VR i v v')(hv:vl N v=true):VR j (ren n m v) v':=
 VR.renF hj (fun h hv=>VR.renF hj (fun h hv=>VR.ren1 hj h hv) h hv) h hv
theorem MR.ren :∀ {es:List (Value×Value)} {l:List MapEntry},MR i es l→vlE N es=true→MR j (es.map fun e=>(e.1,Go.Ax.ren n m e.2)) l
 |_,_,.nil,_=>.nil
 |(k,v)::es,_,.cons h h1 h',hv=>by
  have hv':(bif vl N v then vlE N es else false)=true:=hv;cases hb:vl N v with
  |false=>rw[hb]at hv';cases hv'
  |true=>rw[hb]at hv';exact .cons h (VR.ren hj h1 hb) (MR.ren h' hv')
theorem OR.ren{x:OS}(hx:osL N x=true){o:Option Obj}{t:Nat}(h:OR i x.mk o t):OR j (M6 n m x).mk o t:=by
 cases x with
 |cells l k z=>
  obtain⟨cs,e,fr,h1,h2,h3,h4,h5⟩:=h;refine⟨cs,e,fr,h1,h2,h3,fun a v hk hv=>?_,h5⟩;rw[T.get_fill]at hv;split at hv
  ·rename_i hc;rw[List.length_map]at hc;rw[List.getElem?_map]at hv;cases hl:l[a-0]? with
   |none=>rw[hl]at hv;cases hv
   |some u=>
    rw[hl]at hv;cases hv;obtain⟨v',g1,g2⟩:=h4 a u hk (by rw[T.get_fill,if_pos hc];exact hl);exact⟨v',g1,VR.ren hj g2 (Bt hx hl)⟩
  ·cases hv
 |ro l k=>
  obtain⟨cs,e,fr,h1,h2,h4⟩:=h;refine⟨cs,e,fr,h1,h2,fun a v hk hv=>?_⟩;rw[T.get_fill]at hv;split at hv
  ·rename_i hc;rw[List.length_map]at hc;rw[List.getElem?_map]at hv;cases hl:l[a-0]? with
   |none=>rw[hl]at hv;cases hv
   |some u=>
    rw[hl]at hv;cases hv;obtain⟨v',g1,g2⟩:=h4 a u hk (by rw[T.get_fill,if_pos hc];exact hl);exact⟨v',g1,VR.ren hj g2 (Bt hx hl)⟩
  ·cases hv
 |map es=>
  obtain⟨h0,es',clk,l,h1,h2,h3,h4,h5⟩:=h;refine⟨h0,es',clk,l,h1,h2,MR.ren hj h3 hx,?_,h5⟩;show(es.map _).Pairwise _;rw[List.pairwise_map];exact h4
 |iter s p=>exact h
 |dead=>cases hx
end
def Fp(n n':Nat):List (Nat×OS)→Bool
 |[]=>true
 |x::l=>bif Nat.ble n x.1&&(Nat.blt x.1 n'&&osL n' x.2)then Fp n n' l else false
theorem Zfc{n n':Nat}:∀ {l:List (Nat×OS)},Fp n n' l=true→∀b x,(b,x)∈l→n≤b∧b<n'∧osL n' x=true
 |[],_,b,x,h=>by cases h
 |y::l,h,b,x,hm=>by
  have h':(bif Nat.ble n y.1&&(Nat.blt y.1 n'&&osL n' y.2)then Fp n n' l else false)=true:=h;cases hb:Nat.ble n y.1&&(Nat.blt y.1 n'&&osL n' y.2)with
  |false=>rw[hb]at h';cases h'
  |true=>
   rw[hb]at h';rcases List.mem_cons.1 hm with rfl|hm
   ·simp only[Bool.and_eq_true]at hb;exact⟨Nat.le_of_ble_eq_true hb.1,by simpa using hb.2.1,hb.2.2⟩
   ·exact Zfc h' b x hm
def roL :List (Nat×OS)→Bool
 |[]=>true
 |x::l=>bif Hn x.2 then roL l else false
theorem Zfd :∀ {l:List (Nat×OS)},roL l=true→∀b x,(b,x)∈l→Hn x=true
 |[],_,b,x,h=>by cases h
 |y::l,h,b,x,hm=>by
  have h':(bif Hn y.2 then roL l else false)=true:=h;cases hb:Hn y.2 with
  |false=>rw[hb]at h';cases h'
  |true=>
   rw[hb]at h';rcases List.mem_cons.1 hm with rfl|hm
   ·exact hb
   ·exact Zfd h' b x hm
def V5(m:MS):Bool:=Ho m.nx m.pre&&(roL m.pre&&(Fp m.nx m.nx' m.post&&(vl m.nx' m.ans&&(vls (vl m.nx) m.args&&Nat.ble 1000 m.nx))))
def Uv(m:MS)(args:List Value)(s:AS):Bool:=Zv (Nat.ble m.nx s.nx) (Zv (eqL m.args args) (Br s.h m.pre))
def MS.laid(m:MS)(k:Nat):List (Nat×OS):=m.post.map fun x=>(rn m.nx k x.1,M6 m.nx k x.2)
def MS.leftW(m:MS)(s:AS):AS:=⟨s.h.lay (mkL (m.laid s.nx)),s.nx+(m.nx'-m.nx)⟩
def Io.join(i i':Io)(n m:Nat):Io:=⟨fun b=>bif Nat.blt b m then i b else i' (b-m+n),fun b=>bif Nat.blt b m then i.lim b else i'.lim (b-m+n)⟩
theorem Zfe{i i':Io}{n m b:Nat}(h:b<m):(i.join i' n m) b=i b∧(i.join i' n m).lim b=i.lim b:=by
 have:Nat.blt b m=true:=by simpa using h
 unfold Io.join;simp[this]
theorem Bw {i i' : Io} {n m b : Nat} (h : m ≤ b) : (i.join i' n m) b = i' (b - m + n) ∧ (i.join i' n m).lim b = i'.lim (b - m + n) := by
  have : Nat.blt b m = false := by
    cases hb : Nat.blt b m with
    | false => rfl
    | true => have : b < m := by simpa using hb
              omega
  unfold Io.join
  simp [this]
theorem Zov{P:Program}{m:MS}{call:Zq}{f:FuncId}(hC:Xn P call)(hm:m.memo.Ok call f)(hk:V5 m=true){args:List Value}{s:AS}(hf:Uv m args s=true){i:Io}{w:World}{args':List Value}(hR:Rel i s w)(hg:Gl i)(ha:VRs i args args'):
  Xw P f args' i s w (ren m.nx s.nx m.ans) (m.leftW s):=by
 unfold V5 at hk;simp only[Bool.and_eq_true]at hk;obtain⟨k1,k0,k2,k3,k4,k5⟩:=hk;have k5:=Nat.le_of_ble_eq_true k5;obtain⟨f1,f2⟩:=Yy hf;obtain⟨f2,f3⟩:=Yy f2;have f1:=Nat.le_of_ble_eq_true f1;have hargs:m.args=args:=I5 _ _ f2;subst hargs;have hs:=Fl s.h m.pre f3;have key:=Zaa k1 hs;have hR0:Rel (i.cut m.nx) (stL m.pre m.nx) w:=hR.cutS k1 hs;have hst:m.memo.st=stL m.pre m.nx:=rfl;obtain⟨t',hrun,hnx,hpost⟩:=hm.run;rw[hst]at hrun;have hnx:t'.nx=m.nx':=hnx;have hg0:Gl (i.cut m.nx):=fun g hg'=>by rw[V4 (by omega)];exact hg g hg'
 have hF:=hC f m.args _ m.ans t' hrun (i.cut m.nx) w args' hR0 hg0 (ha.cutL k4);have far:∀b,fixed (obA (stL m.pre m.nx) b)=true:=fun b=>by
  cases hc:(stL m.pre m.nx).h.get b with
  |none=>unfold obA;rw[hc];rfl
  |some o=>
   obtain⟨x,o',h1,rfl,_⟩:=key b o hc;rw[Jh hc,I8];exact Zfd k0 b x h1
 have fin:∀v' w' i',VR i' m.ans v'→Rel i' t' w'→Fr (i.cut m.nx) (stL m.pre m.nx) w i' t' w'→VR (i.join i' m.nx s.nx) (ren m.nx s.nx m.ans) v'∧Rel (i.join i' m.nx s.nx) (m.leftW s) w'∧Fr i s w (i.join i' m.nx s.nx) (m.leftW s) w':=by
  intro v' w' i' hv hR' hF';have hn0:m.nx≤m.nx':=by have:=hF'.nx;rw[hnx]at this;exact this
  have agree:∀b,b<m.nx→i' b=i b:=fun b hb=>by
   cases hi:i b with
   |some x=>exact hF'.le b x (by rw[V4 hb];exact hi)
   |none=>exact hF'.dom b hb (by rw[V4 hb];exact hi)
  have hj:∀b x,i' b=some x→(i.join i' m.nx s.nx) (rn m.nx s.nx b)=some x∧(i.join i' m.nx s.nx).lim (rn m.nx s.nx b)=i'.lim b:=fun b x e=>by
   by_cases hb:b<m.nx
   ·rw[Zou hb];obtain⟨e1,e2⟩:=Zfe (i:=i) (i':=i') (n:=m.nx) (show b<s.nx by omega);have e3:i b=some x:=by rw[←agree b hb];exact e
    exact⟨by rw[e1];exact e3,by rw[e2];exact(hF'.le.lim b x (by rw[V4 hb];exact e3)).symm⟩
   ·rw[Bv (by omega)];obtain⟨e1,e2⟩:=Bw (i:=i) (i':=i') (n:=m.nx) (show s.nx≤s.nx+(b-m.nx) by omega);have e4:s.nx+(b-m.nx)-s.nx+m.nx=b:=by omega
    rw[e4]at e1 e2;exact⟨by rw[e1];exact e,e2⟩
  have layGet:∀b,(∃b0 x,(b0,x)∈m.post∧b=s.nx+(b0-m.nx)∧m.nx≤b0∧b0<m.nx'∧osL m.nx' x=true∧(m.leftW s).h.get b=some (M6 m.nx s.nx x).mk)∨(m.leftW s).h.get b=s.h.get b:=fun b=>by
   rcases T.lay_get s.h (mkL (m.laid s.nx)) b with⟨o,h1,h2⟩|⟨h1,h2⟩
   ·obtain⟨x,h3,rfl⟩:=Ut h1;unfold MS.laid at h3;obtain⟨⟨b0,x0⟩,h4,h5⟩:=List.mem_map.1 h3;obtain⟨h6,h7,h8⟩:=Zfc k2 b0 x0 h4;injection h5 with e1 e2
    subst e2;rw[Bv h6]at e1;exact .inl ⟨b0,x0,h4,e1.symm,h6,h7,h8,h2⟩
   ·exact .inr h2
  have old:∀b,b<s.nx→(m.leftW s).h.get b=s.h.get b:=fun b hb=>by
   rcases layGet b with⟨b0,x,h1,h2,_⟩|h
   ·omega
   ·exact h
  have lowS:∀b o,s.h.get b=some o→b<s.nx:=fun b o h=>by
   rcases Nat.lt_or_ge b s.nx with e|e
   ·exact e
   ·rw[(hR.fresh b e).2]at h;cases h
  have lowI:∀b x,i b=some x→b<s.nx:=fun b x h=>by
   rcases Nat.lt_or_ge b s.nx with e|e
   ·exact e
   ·rw[(hR.fresh b e).1]at h;cases h
  have same:∀q,q<w.heap.size→w'.heap[q]? =w.heap[q]? :=fun q hq=>hF'.keep q hq (fun b t _=>far b);have newQ:∀b q t,m.nx≤b→i' b=some (q,t)→w.heap.size≤q:=fun b q t hb e=>by
   rcases hF'.new b q t e with h|h|⟨b0,t0,_,h⟩
   ·have:=(Jk h).2;omega
   ·exact h
   ·rw[far b0]at h;cases h
  have newO:∀b0 x,(b0,x)∈m.post→osL m.nx' x=true→∃o',t'.h.get b0=some o'∧Wk x.mk o'∧alive x.mk=true∧alive o'=true:=fun b0 x h1 h2=>by
   obtain⟨o',g1,g2⟩:=hpost b0 x.mk (Uu h1);exact⟨o',g1,g2,I9 h2,g2.live (I9 h2)⟩
  have jn:∀b0,m.nx≤b0→(i.join i' m.nx s.nx) (s.nx+(b0-m.nx))=i' b0∧(i.join i' m.nx s.nx).lim (s.nx+(b0-m.nx))=i'.lim b0:=fun b0 h=>by
   have:=Bw (i:=i) (i':=i') (n:=m.nx) (show s.nx≤s.nx+(b0-m.nx) by omega);rw[show s.nx+(b0-m.nx)-s.nx+m.nx=b0 by omega]at this;exact this
  have jo:∀b,b<s.nx→(i.join i' m.nx s.nx) b=i b∧(i.join i' m.nx s.nx).lim b=i.lim b:=fun b h=>Zfe h;have hle:Le i (i.join i' m.nx s.nx):=⟨fun b x e=>by rw[(jo b (lowI b x e)).1];exact e,fun b x e=>(jo b (lowI b x e)).2⟩;refine⟨VR.ren hj hv k3,⟨fun b o ho hal=>?_,fun b b' o o' q t t1 ho ho' hal hal' e e'=>?_,fun b hb=>?_,fun b c n z q t ho e=>?_,fun b q t e hor=>?_⟩,
   ⟨hle,fun b q t e=>?_,hF'.os,hF'.tape,hF'.output,hF'.size,fun q hq _=>same q hq,fun b x e _=>old b (lowI b x e),by show s.nx≤s.nx+_;omega,fun b hb e=>by rw[(jo b hb).1];exact e,fun b hb _ hn=>by rw[old b hb];exact hn,fun b hn=>?_⟩⟩
  ·rcases layGet b with⟨b0,x,h1,rfl,h3,h4,h5,h6⟩|h
   ·rw[h6]at ho;cases ho;obtain⟨o',g1,g2,g3,g4⟩:=newO b0 x h1 h5;obtain⟨q,t,g5,g6⟩:=hR'.obj b0 o' g1 g4;exact⟨q,t,by rw[(jn b0 h3).1];exact g5,OR.ren hj h5 (g2.or g3 g6)⟩
   ·rw[h]at ho;obtain⟨q,t,g1,g2⟩:=hR.obj b o ho hal;have hq:=hR.dom b q t g1 (.inl (by rw[ho];simp));exact⟨q,t,hle b _ g1,by rw[same q hq];exact g2.mono hle⟩
  ·rcases layGet b with⟨b0,x,h1,rfl,h3,h4,h5,h6⟩|h
   ·rw[h6]at ho;cases ho;rw[(jn b0 h3).1]at e;obtain⟨o1,g1,g2,g3,g4⟩:=newO b0 x h1 h5;rcases layGet b' with⟨b0',x',h1',rfl,h3',h4',h5',h6'⟩|h'
    ·rw[(jn b0' h3').1]at e';obtain⟨o1',g1',g2',g3',g4'⟩:=newO b0' x' h1' h5';rw[hR'.inj b0 b0' o1 o1' q t t1 g1 g1' g4 g4' e e']
    ·rw[h']at ho';have hb':=lowS b' o' ho';rw[(jo b' hb').1]at e';have:=hR.dom b' q t1 e' (.inl (by rw[ho'];simp));have:=newQ b0 q t h3 e;omega
   ·rw[h]at ho;have hb:=lowS b o ho;rw[(jo b hb).1]at e;rcases layGet b' with⟨b0',x',h1',rfl,h3',h4',h5',h6'⟩|h'
    ·rw[(jn b0' h3').1]at e';have:=hR.dom b q t e (.inl (by rw[ho];simp));have:=newQ b0' q t1 h3' e';omega
    ·rw[h']at ho';have hb':=lowS b' o' ho';rw[(jo b' hb').1]at e';exact hR.inj b b' o o' q t t1 ho ho' hal hal' e e'
  ·have hb:s.nx+(m.nx'-m.nx)≤b:=hb;have h1:=Bw (i:=i) (i':=i') (n:=m.nx) (show s.nx≤b by omega);have h2:=hR'.fresh (b-s.nx+m.nx) (by rw[hnx];omega);refine⟨by rw[h1.1];exact h2.1,?_⟩;rcases layGet b with⟨b0,x,_,rfl,h3,h4,_⟩|h
   ·omega
   ·rw[h];exact(hR.fresh b (by omega)).2
  ·rcases layGet b with⟨b0,x,h1,rfl,h3,h4,h5,h6⟩|h
   ·rw[h6]at ho;injection ho with ho
    obtain⟨o',g1,g2,g3,g4⟩:=newO b0 x h1 h5;rw[(jn b0 h3).1]at e;cases x with
    |cells l k z1=>
     injection ho with e1 e2 e3
     cases o' with
     |cells c' n' z'=>
      obtain⟨e4,e5,_⟩:=g2;subst e4 e5;obtain⟨l1,l2⟩:=hR'.lim b0 c' k z1 q t g1 e;rw[(jn b0 h3).2,←e3];exact⟨l1,l2⟩
     |_=>exact g2.elim
    |_=>cases ho
   ·rw[h]at ho;have hb:=lowS b _ ho;rw[(jo b hb).1]at e;rw[(jo b hb).2];obtain⟨l1,l2⟩:=hR.lim b c n z q t ho e;have hq:=hR.dom b q t e (.inl (by rw[ho];simp));exact⟨l1,fun cs e' fr hw=>l2 cs e' fr (by rw[←same q hq];exact hw)⟩
  ·by_cases hb:b<s.nx
   ·rw[(jo b hb).1]at e;refine Nat.lt_of_lt_of_le (hR.dom b q t e (hor.imp (fun h=>?_) id)) hF'.size;rw[old b hb]at h;exact h
   ·have h1:=Bw (i:=i) (i':=i') (n:=m.nx) (show s.nx≤b by omega);rw[h1.1]at e;exact hR'.dom _ q t e (.inr (by omega))
  ·by_cases hb:b<s.nx
   ·rw[(jo b hb).1]at e;exact .inl e
   ·have h1:=Bw (i:=i) (i':=i') (n:=m.nx) (show s.nx≤b by omega);rw[h1.1]at e;exact .inr (.inl (newQ _ q t (by omega) e))
  ·cases hc:s.h.get b with
   |none=>exact absurd hc hn
   |some o=>rw[old b (lowS b o hc),hc];simp
 rcases hF with⟨v',w',i',q1,q2,q3,q4⟩|⟨q1,q2⟩
 ·obtain⟨z1,z2,z3⟩:=fin v' w' i' q2 q3 q4;exact .inl ⟨v',w',_,q1,z1,z2,z3⟩
 ·refine .inr ⟨q1,Calls.mono q2 (fun e w' he=>?_)⟩;cases e with
  |returned v'=>
   obtain⟨i',h1,h2,h3⟩:=he;exact⟨_,fin v' w' i' h1 h2 h3⟩
  |panicked c=>exact he.elim
  |outgrown=>exact he.elim
def Uw(ms:List MS)(els:List Value→AS→R):List Value→AS→R:=
 @List.rec MS (fun _=>List Value→AS→R) els (fun m _ ih args s=>@Bool.rec (fun _=>R) (ih args s) (some (ren m.nx s.nx m.ans,m.leftW s)) (Uv m args s)) ms
theorem Zff{P:Program}{call:Zq}{f:FuncId}(hC:Xn P call){els:List Value→AS→R}(he:POk P f els):∀(ms:List MS),(∀m∈ms,m.memo.Ok call f∧V5 m=true)→POk P f (Uw ms els)
 |[],_=>he
 |m::ms,h=>by
  intro args s v s' hr i w args' hR hg ha;have hr': @Bool.rec (fun _=>R) (Uw ms els args s) (some (ren m.nx s.nx m.ans,m.leftW s)) (Uv m args s)=some (v,s'):=hr;cases hb:Uv m args s with
  |true=>
   rw[hb]at hr';injection hr' with hr'
   cases hr';obtain⟨h1,h2⟩:=h m (List.mem_cons_self ..);exact Zov hC h1 h2 hb hR hg ha
  |false=>
   rw[hb]at hr';exact Zff hC he ms (fun m hm=>h m (List.mem_cons_of_mem _ hm)) args s v s' hr' i w args' hR hg ha
theorem Zfg{E:Env}{F D:Nat}{f:FuncId}{m:MS}(h1:I6 m (Zs E F D f m.args m.memo.st)=true)(h2:I7 m=true):m.memo.Ok (Zs E F D) f:=by
 obtain⟨r,hr⟩:∃r,r=Zs E F D f m.args m.memo.st:=⟨_,rfl⟩;rw[←hr]at h1;have hrun:=hr.symm
 match r,h1 with
 |some (v,t'),h1=>
  obtain⟨e1,h1⟩:=Yy h1;obtain⟨e2,e3⟩:=Yy h1;unfold I7 at h2;simp only[Bool.and_eq_true,List.all_eq_true,Bool.or_eq_true,List.any_eq_true,Bool.not_eq_true',beq_iff_eq,Nat.ble_eq]at h2;obtain⟨k1,k2⟩:=h2;refine⟨⟨t',?_,Nat.eq_of_beq_eq_true e2,fun b o hb=>?_⟩,fun b o hb=>?_,fun b o hb hf=>?_,fun b o hb=>?_⟩
  ·have:=Bq _ _ e1;show _=some (m.ans,t');rw[this];exact hrun
  ·obtain⟨x,hx,rfl⟩:=Ut hb;exact Fl t'.h m.post e3 b x hx
  ·obtain⟨x,hx,rfl⟩:=Ut hb;have:=(k1 _ hx).1;cases x<;>first|rfl|cases this
  ·obtain⟨x,hx,rfl⟩:=Ut hb;rw[I8]at hf;rcases(k1 _ hx).2 with h|⟨y,h3,h4⟩
   ·rw[hf]at h;cases h
   ·obtain⟨yb,yx⟩:=y;have h4:yb=b:=h4;subst h4;exact⟨_,Uu h3⟩
  ·obtain⟨x,hx,rfl⟩:=Ut hb;rcases k2 _ hx with h|⟨y,h3,h4,h5⟩
   ·exact .inl h
   ·obtain⟨yb,yx⟩:=y;have h4:yb=b:=h4;subst h4;exact .inr ⟨_,Uu h3,by rw[I8];exact h5⟩
end
end Go.Ax
