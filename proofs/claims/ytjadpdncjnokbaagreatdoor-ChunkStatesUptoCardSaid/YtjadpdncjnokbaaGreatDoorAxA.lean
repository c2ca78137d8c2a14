/- An abstract machine for the operations of a Go program: memory by blocks, no capacities, no draws. Its trie, its state, its operations. -/
import Derived.WalkKit
import Derived.Lib.ConvBytes
import Derived.Lib.Builder
import Derived.Lib.UnsafeStr
set_option linter.all false
open Nat renaming beq→Za,ble→Zb,le_refl→Ze,blt→Zh,blt_eq→Yj,div→Xl,add_assoc→Ya,min→Y4,le_of_eq→Xo,mod→Ud,land→Xm,le_trans→Ye,lt_of_lt_of_le→Yu,zero_le→Zj,beq_eq→X0,lt_or_ge→Zt,le_succ→Ug,lt_irrefl→U3,add_mul→Yv,mod_lt→Kb,add_zero→Yg
open Bool renaming and_eq_true→Zi,false_eq_true→Vp,eq_iff_iff→U5,or_eq_true→Yq,not_true→Vx,and_eq_false_iff→Xz,and_false→Vq
open Array renaming length_toList→Y6,ext'→Yt,getElem?_eq_getElem→Y5,toList_map→U4,getElem?_toList→Yx,range→Vr,getElem?_eq_none→Uz,getElem?_setIfInBounds→Xy,ext→Zmx,getElem_setIfInBounds→Zmy,getElem_modify→Zm1,toList_push→Zm8,toList_modify→Zm9
open List renaming map_cons→Zr,mem_map→Zl,filter_cons→Ui,pairwise_cons→Yf,length_cons→Zf,getElem?_map→Zy,mem_cons→Zg,pairwise_map→Jm,getElem?_eq_some_iff→Yc,map_congr_left→Zm0,filter_eq_self→Jn,Pairwise→Xx,getElem?_range→J9,all_cons→Zm3,foldl_cons→Jj,ext_getElem?→Zm5,getElem?_eq_none→Xr,eq_nil_of_length_eq_zero→Vg,findIdx?_cons→Zm6,findIdx?_eq_none_iff→Kd,map_id'→Zm7,getElem?_cons_zero→Y7,getElem?_cons_succ→Y9,mem_of_getElem?→Y8,mem_singleton→Z6,pairwise_singleton→Kf
open Option renaming map_some→Xc,map_none→Zmz,isSome_some→Ka,isNone_some→Zm2,isSome_none→Ji
open Int renaming natCast_nonneg→Yk,emod_eq_of_lt→Uh
namespace Go.Ax
open Go
noncomputable section
inductive T(α:Type) where
 |e:T α
 |n (l:T α) (v:Option α) (r:T α):T α
def T.get{α:Type}(t:T α):Nat→Option α:=
 T.rec (motive:=fun _=>Nat→Option α) (fun _=>none)
  (fun _ v _ gl gr i=>Nat.rec (motive:=fun _=>Option α) v (fun p _=>Bool.rec (motive:=fun _=>Option α) (gr (Xl p 2)) (gl (Xl p 2)) (Za (Ud p 2) 0)) i) t
def T.one{α:Type}(d:Nat):Nat→Option α→T α:=
 Nat.rec (motive:=fun _=>Nat→Option α→T α) (fun _ x=>.n .e x .e)
  (fun _ ih i x=>Nat.rec (motive:=fun _=>T α) (.n .e x .e) (fun p _=>Bool.rec (motive:=fun _=>T α) (.n .e none (ih (Xl p 2) x)) (.n (ih (Xl p 2) x) none .e) (Za (Ud p 2) 0)) i) d
def T.put{α:Type}(t:T α):Nat→Option α→T α:=
 T.rec (motive:=fun _=>Nat→Option α→T α) (fun i x=>T.one i i x)
  (fun l v r sl sr i x=>Nat.rec (motive:=fun _=>T α) (.n l x r) (fun p _=>Bool.rec (motive:=fun _=>T α) (.n l v (sr (Xl p 2) x)) (.n (sl (Xl p 2) x) v r) (Za (Ud p 2) 0)) i) t
def T.set{α:Type}(t:T α)(i:Nat)(x:α):T α:=t.put i (some x)
theorem T.get_e{α:Type}(i:Nat):(T.e:T α).get i=none:=rfl
theorem T.get_zero{α:Type}(l r:T α)(v:Option α):(T.n l v r).get 0=v:=rfl
theorem T.get_succ{α:Type}(l r:T α)(v:Option α)(p:Nat):(T.n l v r).get (p+1)=bif Za (p%2) 0 then l.get (p/2)else r.get (p/2):=by
 show Bool.rec (motive:=fun _=>Option α) (r.get (p/2)) (l.get (p/2)) (Za (p%2) 0)=_;cases Za (p%2) 0<;>rfl
theorem T.one_zero{α:Type}(d:Nat)(x:Option α):T.one d 0 x=.n .e x .e:=by cases d<;>rfl
theorem T.one_succ{α:Type}(d p:Nat)(x:Option α):T.one (d+1) (p+1) x=bif Za (p%2) 0 then .n (T.one d (p/2) x) none .e else .n .e none (T.one d (p/2) x):=by
 show Bool.rec (motive:=fun _=>T α) (.n .e none (T.one d (p/2) x)) (.n (T.one d (p/2) x) none .e) (Za (p%2) 0)=_;cases Za (p%2) 0<;>rfl
theorem T.put_e{α:Type}(i:Nat)(x:Option α):(T.e:T α).put i x=T.one i i x:=rfl
theorem T.put_zero{α:Type}(l r:T α)(v x:Option α):(T.n l v r).put 0 x=.n l x r:=rfl
theorem T.put_succ{α:Type}(l r:T α)(v x:Option α)(p:Nat):(T.n l v r).put (p+1) x=bif Za (p%2) 0 then .n (l.put (p/2) x) v r else .n l v (r.put (p/2) x):=by
 show Bool.rec (motive:=fun _=>T α) (.n l v (r.put (p/2) x)) (.n (l.put (p/2) x) v r) (Za (p%2) 0)=_;cases Za (p%2) 0<;>rfl
theorem Ff(p:Nat):(Za (p%2) 0=true∧p%2=0)∨(Za (p%2) 0=false∧p%2=1):=by
 rcases Nat.mod_two_eq_zero_or_one p with h|h
 ·exact .inl ⟨by rw[h];rfl,h⟩
 ·exact .inr ⟨by rw[h];rfl,h⟩
theorem T.get_one{α:Type}(x:Option α):∀(d i j:Nat),i≤d→(T.one d i x).get j=if j=i then x else none:=by
 intro d
 induction d with
 |zero=>
  intro i j h;obtain rfl:i=0:=by omega
  rw[T.one_zero];cases j with
  |zero=>rfl
  |succ q=>rw[T.get_succ];rcases Ff q with⟨e,_⟩|⟨e,_⟩<;>simp[e,T.get_e]
 |succ d ih=>
  intro i j h;cases i with
  |zero=>
   rw[T.one_zero];cases j with
   |zero=>rfl
   |succ q=>rw[T.get_succ];rcases Ff q with⟨e,_⟩|⟨e,_⟩<;>simp[e,T.get_e]
  |succ p=>
   rw[T.one_succ];cases j with
   |zero=>rcases Ff p with⟨e,_⟩|⟨e,_⟩<;>simp[e,T.get_zero]
   |succ q=>
    rcases Ff p with⟨e,hp⟩|⟨e,hp⟩<;>rcases Ff q with⟨f,hq⟩|⟨f,hq⟩<;>simp only[e,f,cond_true,cond_false,T.get_succ,T.get_e]
    ·rw[ih _ _ (by omega)];by_cases hh:q=p
     ·subst hh;simp
     ·rw[if_neg (by omega),if_neg (by omega)]
    ·rw[if_neg (by omega)]
    ·rw[if_neg (by omega)]
    ·rw[ih _ _ (by omega)];by_cases hh:q=p
     ·subst hh;simp
     ·rw[if_neg (by omega),if_neg (by omega)]
theorem T.get_put{α:Type}(t:T α):∀(i j:Nat) (x:Option α),(t.put i x).get j=if j=i then x else t.get j:=by
 induction t with
 |e=>intro i j x;rw[T.put_e,T.get_one _ _ _ _ (Ze _),T.get_e]
 |n l v r ihl ihr=>
  intro i j x;cases i with
  |zero=>
   rw[T.put_zero];cases j with
   |zero=>rfl
   |succ q=>rw[T.get_succ,T.get_succ,if_neg (by omega)]
  |succ p=>
   rw[T.put_succ];cases j with
   |zero=>rw[if_neg (by omega)];rcases Ff p with⟨e,_⟩|⟨e,_⟩<;>simp[e,T.get_zero]
   |succ q=>
    rcases Ff p with⟨e,hp⟩|⟨e,hp⟩<;>rcases Ff q with⟨f,hq⟩|⟨f,hq⟩<;>simp only[e,f,cond_true,cond_false,T.get_succ]
    ·rw[ihl];by_cases hh:q=p
     ·subst hh;simp
     ·rw[if_neg (by omega),if_neg (by omega)]
    ·rw[if_neg (by omega)]
    ·rw[if_neg (by omega)]
    ·rw[ihr];by_cases hh:q=p
     ·subst hh;simp
     ·rw[if_neg (by omega),if_neg (by omega)]
theorem T.get_set{α:Type}(t:T α)(i j:Nat)(x:α):(t.set i x).get j=if j=i then some x else t.get j:=T.get_put t i j _
theorem T.get_set_same{α:Type}(t:T α)(i:Nat)(x:α):(t.set i x).get i=some x:=by rw[T.get_set,if_pos rfl]
theorem T.get_set_ne{α:Type}(t:T α){i j:Nat}(x:α)(h:j≠i):(t.set i x).get j=t.get j:=by rw[T.get_set,if_neg h]
def T.fill{α:Type}(t:T α)(i:Nat)(l:List α):T α:=
 List.rec (motive:=fun _=>Nat→T α→T α) (fun _ t=>t) (fun x _ ih i t=>ih (Nat.succ i) (t.put i (some x))) l i t
theorem T.fill_nil{α:Type}(t:T α)(i:Nat):t.fill i []=t:=rfl
theorem T.fill_cons{α:Type}(t:T α)(i:Nat)(x:α)(l:List α):t.fill i (x::l)=(t.set i x).fill (i+1) l:=rfl
theorem T.get_fill{α:Type}(l:List α):∀(t:T α) (i j:Nat),(t.fill i l).get j=if i≤j∧j<i+l.length then l[j-i]? else t.get j:=by
 induction l with
 |nil=>intro t i j;rw[T.fill_nil];simp;omega
 |cons x l ih=>
  intro t i j;rw[T.fill_cons,ih,T.get_set];simp only[Zf];by_cases h1:j=i
  ·subst h1;rw[if_neg (by omega),if_pos rfl,if_pos (by omega)];simp
  ·by_cases h2:i+1≤j∧j<i+1+l.length
   ·rw[if_pos h2,if_pos (by omega),List.getElem?_cons,if_neg (by omega)];congr 1
   ·rw[if_neg h2,if_neg h1,if_neg (by omega)]
def T.list{α:Type}(t:T α)(n:Nat):Nat→Option (List α):=
 Nat.rec (motive:=fun _=>Nat→Option (List α)) (fun _=>some [])
  (fun _ ih i=>Option.rec (motive:=fun _=>Option (List α)) none (fun x=>Option.rec (motive:=fun _=>Option (List α)) none (fun l=>some (x::l)) (ih (Nat.succ i))) (t.get i)) n
theorem T.list_zero{α:Type}(t:T α)(i:Nat):t.list 0 i=some []:=rfl
theorem T.list_succ{α:Type}(t:T α)(n i:Nat):t.list (n+1) i=match t.get i with
   |none=>none
   |some x=>match t.list n (i+1)with
    |none=>none
    |some l=>some (x::l):=by
 show Option.rec (motive:=fun _=>Option (List α)) none (fun x=>Option.rec (motive:=fun _=>Option (List α)) none (fun l=>some (x::l)) (t.list n (i+1))) (t.get i)=_;cases t.get i with
 |none=>rfl
 |some x=>cases t.list n (i+1)<;>rfl
theorem T.list_some{α:Type}(t:T α):∀(n i:Nat) (l:List α),t.list n i=some l→l.length=n∧∀k,k<n→t.get (i+k)=l[k]? :=by
 intro n
 induction n with
 |zero=>intro i l h;rw[T.list_zero]at h;cases h;exact⟨rfl,fun k hk=>by omega⟩
 |succ n ih=>
  intro i l h;rw[T.list_succ]at h;cases hg:t.get i with
  |none=>rw[hg]at h;simp at h
  |some x=>
   rw[hg]at h;cases hl:t.list n (i+1)with
   |none=>rw[hl]at h;simp at h
   |some m=>
    rw[hl]at h;simp only[Option.some.injEq]at h;subst h;obtain⟨h1,h2⟩:=ih _ _ hl;refine⟨by simp[h1],fun k hk=>?_⟩;cases k with
    |zero=>simpa using hg
    |succ k=>rw[show i+(k+1)=i+1+k by omega,h2 k (by omega)];simp
inductive Gg where
 |cells (c:T Value) (n:Nat) (z:Nat)
 |ro (c:T Value) (n:Nat)
 |map (es:List (Value×Value))
 |iter (s:ByteArray) (p:Nat)
 |dead
 |far
def zs(z:Nat):Nat:=z%1048576/2
def ze(z:Nat):Nat:=z/1048576
def tz(size e:Nat):Nat:=2*size+1048576*(e+1)
def zg(size z e:Nat):Nat:=(bif Za (ze z) (e+1)then tz size e else 2*size)+z%2
theorem Na{size e:Nat}(h:size<524288):zs (tz size e)=size:=by unfold zs tz;omega
theorem Nz{size e:Nat}(h:size<524288):ze (tz size e)=e+1:=by unfold ze tz;omega
theorem zj(size z e:Nat):(Za (ze z) (e+1)=true∧zg size z e=tz size e+z%2)∨(Za (ze z) (e+1)=false∧zg size z e=2*size+z%2):=by
 unfold zg;cases h:Za (ze z) (e+1)with
 |true=>exact .inl ⟨rfl,by rw[cond_true]⟩
 |false=>exact .inr ⟨rfl,by rw[cond_false]⟩
theorem R4{size z e:Nat}(h:size<524288):zs (zg size z e)=size:=by
 rcases zj size z e with⟨_,h1⟩|⟨_,h1⟩
 ·rw[h1];unfold zs tz;omega
 ·rw[h1];unfold zs;omega
theorem AU(size z e:Nat):zg size z e%2=z%2:=by
 rcases zj size z e with⟨_,h1⟩|⟨_,h1⟩
 ·rw[h1];unfold tz;omega
 ·rw[h1];omega
theorem mz{size z e:Nat}(h:size<524288)(hne:ze (zg size z e)≠0):ze z=e+1∧ze (zg size z e)=e+1:=by
 rcases zj size z e with⟨hb,h1⟩|⟨hb,h1⟩
 ·exact⟨Nat.eq_of_beq_eq_true hb,by rw[h1];unfold ze tz;omega⟩
 ·exact absurd (by rw[h1];unfold ze;omega) hne
structure AS where
 h:T Gg
 nx:Nat
def AS.new(s:AS)(o:Gg):AS:=⟨s.h.set s.nx o,s.nx+1⟩
def AS.upd(s:AS)(b:Nat)(o:Gg):AS:=⟨s.h.set b o,s.nx⟩
structure TI where
 desc:TypeDesc
 size:Nat
 zero:List Value
 bytes:Nat
def Hw :TypeDesc→Bool
 |.struct _|.array _ _=>true
 |_=>false
structure Env where
 P:Program
 ty:T TI
 fn:T Func
 prim:T (List Value→AS→Option (Value×AS))
 back:Nat→Bool:=fun _=>false
end
end Go.Ax
namespace Go.Ax
open Go
noncomputable section
abbrev Tm :=T Value
def cst :Value→Option Value
 |.int k n=>some (.int k n)
 |.bool b=>some (.bool b)
 |.string s=>some (.string s)
 |.pointer none=>some (.pointer none)
 |.slice none 0 0=>some (.slice none 0 0)
 |.map none=>some (.map none)
 |.nilFunc=>some .nilFunc
 |.nilIface=>some .nilIface
 |.float k n=>some (.float k n)
 |_=>none
def ev(tm:Tm):Operand→Option Value
 |.tmp i=>tm.get i
 |.const v=>cst v
 |.global g=>bif Zh g 1000 then some (.pointer (some ⟨g,0,none⟩))else none
 |.func f=>some (.func (.func f) #[] #[])
def evs(tm:Tm):List Operand→Option (List Value)
 |[]=>some []
 |x::l=>match ev tm x with
  |none=>none
  |some v=>match evs tm l with
   |none=>none
   |some vs=>some (v::vs)
def rdN(s:AS)(b o n:Nat):Option (List Value):=
 match s.h.get b with
 |some (.cells c m _)=>bif Zb (o+n) m then c.list n o else none
 |some (.ro c m)=>bif Zb (o+n) m then c.list n o else none
 |_=>none
def rd(s:AS)(b o:Nat):Option Value:=
 match s.h.get b with
 |some (.cells c m _)=>bif Zh o m then c.get o else none
 |some (.ro c m)=>bif Zh o m then c.get o else none
 |_=>none
def oneC :Value→Bool
 |.agg _|.tuple _=>false
 |_=>true
def ones :List Value→Bool
 |[]=>true
 |v::l=>oneC v&&ones l
def wrN(s:AS)(b o:Nat)(l:List Value):Option AS:=
 match s.h.get b with
 |some (.cells c m z)=>bif Zb (o+l.length) m&&ones l then some (s.upd b (.cells (c.fill o l) m z))else none
 |_=>none
def AS.rowz(s:AS)(z:Nat)(l:List Value):AS:=s.new (.cells (T.e.fill 0 l) l.length z)
def AS.row(s:AS)(l:List Value):Value×AS:=(.pointer (some ⟨s.nx,0,none⟩),s.rowz 0 l)
def plain :Value→Bool
 |.bool _|.int _ _|.float _ _|.string _|.nilFunc|.nilIface=>true
 |.iface _ v=>plain1 v
 |.agg cs=>cs.toList.all plain1
 |_=>false
 where plain1:Value→Bool
  |.bool _|.int _ _|.float _ _|.string _=>true
  |_=>false
def Hk(P:Program){α:Type}:Sem α→Option α
 |.pure a=>some a
 |.program k=>Hk P (k P)
 |.mark _ k=>Hk P k
 |_=>none
def Hf{α:Type}(n:Nat)(k:Nat→α):α:=Nat.rec (motive:=fun _=>(Nat→α)→α) (fun k=>k 0) (fun p _ k=>k (Nat.succ p)) n k
def Dh{α:Type}(n:Int)(k:Int→α):α:=match n with
 |.ofNat a=>Hf a fun a=>k (.ofNat a)
 |.negSucc a=>Hf a fun a=>k (.negSucc a)
def ieq :Int→Int→Bool
 |.ofNat a,.ofNat b=>Za a b
 |.negSucc a,.negSucc b=>Za a b
 |_,_=>false
def ilt :Int→Int→Bool
 |.ofNat a,.ofNat b=>Zh a b
 |.negSucc a,.negSucc b=>Zh b a
 |.negSucc _,.ofNat _=>true
 |.ofNat _,.negSucc _=>false
def H7(n:Int)(m:Nat):Nat:=match n with
 |.ofNat a=>a%m
 |.negSucc a=>m-1-a%m
def wrU(m:Nat)(n:Int):Int:=.ofNat (H7 n m)
def wrS(m h:Nat)(n:Int):Int:=Hf (H7 n m) fun r=>bif Zh r h then .ofNat r else .negSucc (m-1-r)
def Cu(k:IntKind)(n:Int):Int:=match k with
 |.i64=>wrS 18446744073709551616 9223372036854775808 n
 |.u8=>wrU 256 n
 |.u64=>wrU 18446744073709551616 n
 |.u32=>wrU 4294967296 n
 |.i32=>wrS 4294967296 2147483648 n
 |.u16=>wrU 65536 n
 |.i16=>wrS 65536 32768 n
 |.i8=>wrS 256 128 n
def Hu :IntKind→Nat
 |.i64|.u64=>18446744073709551616
 |.i32|.u32=>4294967296
 |.i16|.u16=>65536
 |.i8|.u8=>256
def Ba(k:IntKind)(n:Int):Option Value:=Dh (Cu k n) fun m=>some (.int k m)
def Nn(f:Nat→Nat→Nat)(k:IntKind)(a b:Int):Option Value:=Ba k (.ofNat (f (H7 a (Hu k)) (H7 b (Hu k))))
def Hy :IntKind→IntKind→Bool
 |.i64,.i64|.i32,.i32|.i16,.i16|.i8,.i8|.u64,.u64|.u32,.u32|.u16,.u16|.u8,.u8=>true
 |_,_=>false
def Bb(f:Int→Int→Bool)(_:IntKind)(a b:Int):Option Value:=some (.bool (f a b))
def iAr(f:Int→Int→Int)(k:IntKind)(a b:Int):Option Value:=Ba k (f a b)
def R5(k:IntKind)(a b:Int):Option Value:=bif ieq b 0 then none else Ba k (Int.tdiv a b)
def dx(k:IntKind)(a b:Int):Option Value:=bif ieq b 0 then none else Dh (Int.tmod a b) fun m=>some (.int k m)
def zk(k:IntKind)(a b:Int):Option Value:=Nn (fun x y=>Xm x (Hu k-1-y)) k a b
def iNo(_:IntKind)(_ _:Int):Option Value:=none
def H4(op:BinOp):IntKind→Int→Int→Option Value:=
 match op with
 |.add=>iAr Int.add
 |.sub=>iAr Int.sub
 |.mul=>iAr Int.mul
 |.quo=>R5
 |.rem=>dx
 |.and=>Nn Xm
 |.or=>Nn Nat.lor
 |.xor=>Nn Nat.xor
 |.andNot=>zk
 |.eql=>Bb ieq
 |.neq=>Bb fun a b=> !ieq a b
 |.lss=>Bb ilt
 |.leq=>Bb fun a b=> !ilt b a
 |.gtr=>Bb fun a b=>ilt b a
 |.geq=>Bb fun a b=> !ilt a b
 |_=>iNo
def inR(n:Int)(m:Nat):Bool:=match n with
 |.ofNat a=>Zh a m
 |.negSucc _=>false
def Fg :IntKind→Nat
 |.i64|.u64=>64
 |.i32|.u32=>32
 |.i16|.u16=>16
 |.i8|.u8=>8
def dz(k:IntKind)(a:Int)(n:Nat):Option Value:=Ba k (Int.mul a (.ofNat (2^bif Zb n (Fg k)then n else Fg k)))
def fb(k:IntKind)(a:Int)(n:Nat):Option Value:=Dh (Int.fdiv a (.ofNat (2^bif Zb n (Fg k)then n else Fg k))) fun m=>some (.int k m)
def Fh(op:BinOp)(k:IntKind)(a:Int)(k':IntKind)(b:Int):Option Value:=
 match op with
 |.shl=>(match b with
  |.negSucc _=>none
  |.ofNat n=>dz k a n)
 |.shr=>(match b with
  |.negSucc _=>none
  |.ofNat n=>fb k a n)
 |op=>bif Hy k k' then H4 op k a b else none
def ff(x y:ByteArray):Option Value:=if((x.size+y.size:Nat):Int)>IntKind.i64.max then none else some (.string (x++y))
def sNo(_ _:ByteArray):Option Value:=none
def R6(op:BinOp):ByteArray→ByteArray→Option Value:=
 match op with
 |.add=>ff
 |.eql=>fun x y=>some (.bool (x.toList==y.toList))
 |.neq=>fun x y=>some (.bool (!(x.toList==y.toList)))
 |.lss=>fun x y=>some (.bool (Op.bytesLess x.toList y.toList))
 |.leq=>fun x y=>some (.bool (Op.bytesLess x.toList y.toList||x.toList==y.toList))
 |.gtr=>fun x y=>some (.bool (!(Op.bytesLess x.toList y.toList||x.toList==y.toList)))
 |.geq=>fun x y=>some (.bool (!Op.bytesLess x.toList y.toList))
 |_=>sNo
def live(s:AS)(b:Nat):Bool:=
 match s.h.get b with
 |some (.cells _ _ z)=>Za (z%2) 0
 |_=>false
def eqD(E:Env)(s:AS)(d:TypeDesc)(x y:Value):Option Bool:=
 match d,x,y with
 |.bool,.bool a,.bool b=>some (a==b)
 |.pointer _,.pointer none,.pointer b=>some b.isNone
 |.pointer _,.pointer (some _),.pointer none=>some false
 |.pointer e,.pointer (some a),.pointer (some b)=>match E.ty.get e with
  |none=>none
  |some i=>bif Za i.size 0 then none else
   bif Za a.block b.block then some (Za a.off b.off&&a.spot.isNone&&b.spot.isNone)
   else bif live s a.block&&live s b.block then some false else none
 |.slice _,.slice none _ _,.slice b _ _=>some b.isNone
 |.slice _,.slice (some _) _ _,.slice none _ _=>some false
 |.map _ _,.map none,.map b=>some b.isNone
 |.map _ _,.map (some _),.map none=>some false
 |.func _ _ _,.nilFunc,.nilFunc=>some true
 |.func _ _ _,.nilFunc,.func _ _ _=>some false
 |.func _ _ _,.func _ _ _,.nilFunc=>some false
 |.interface _,.nilIface,.iface _ _=>some false
 |.interface _,.iface _ _,.nilIface=>some false
 |_,_,_=>none
def eqA(E:Env)(s:AS)(t:TypeId)(x y:Value):Option Bool:=
 match E.ty.get t with
 |none=>none
 |some i=>eqD E s i.desc x y
def R7 :Operand→Bool
 |.const _=>true
 |_=>false
def Ik(E:Env)(op:BinOp)(t:TypeId)(ox oy:Operand)(x y:Value):Option Value:=
 bif plain x&&plain y then(match Hk E.P (do eqGuard op t ox oy x y;binOp op t x y)with
  |some v=>bif plain v then some v else none
  |none=>none)else none
def Bo(E:Env)(s:AS)(op:BinOp)(t:TypeId)(ox oy:Operand)(x y:Value)(neg:Bool):Option Value:=
 match eqA E s t x y with
 |some b=>some (.bool (b !=neg))
 |none=>Ik E op t ox oy x y
def Fi :Value→Bool
 |.nilIface=>true
 |_=>false
def Il(E:Env)(s:AS)(op:BinOp)(t:TypeId)(ox oy:Operand)(x y:Value):Option Value:=
 bif Fi x&&Fi y then(bif R7 ox||R7 oy then(match E.ty.get t,op with
  |some ⟨.interface _,_,_,_⟩,.eql=>some (.bool true)
  |some ⟨.interface _,_,_,_⟩,.neq=>some (.bool false)
  |_,_=>none)else none)
 else match op with
 |.eql=>Bo E s op t ox oy x y false
 |.neq=>Bo E s op t ox oy x y true
 |_=>Ik E op t ox oy x y
def GN(op:BinOp)(k:IntKind)(a:Int)(y:Value):Option Value:=
 match y with
 |.int k' b=>Fh op k a k' b
 |_=>none
def GB(op:BinOp)(a:ByteArray)(y:Value):Option Value:=
 match y with
 |.string b=>R6 op a b
 |_=>none
def Fj(E:Env)(s:AS)(op:BinOp)(t:TypeId)(ox oy:Operand)(x y:Value):Option Value:=
 match x with
 |.int k a=>GN op k a y
 |.string a=>GB op a y
 |x=>Il E s op t ox oy x y
def placesOf(E:Env):List Field→Option (List (Nat×Nat))
 |[]=>some []
 |f::l=>match E.ty.get f.type with
  |none=>none
  |some i=>match placesOf E l with
   |none=>none
   |some r=>some ((f.offset,i.size)::r)
def Cv(place:Nat→Option (Nat×Nat))(cells:List Value):List (Nat×Value)→Option (List Value)
 |[]=>some cells
 |(i,v)::rest=>
  match place i with
  |none=>none
  |some (off,size)=>
   let vs:=v.cells.toList
   bif Za vs.length size&&Zb (off+vs.length) cells.length then Cv place (cells.take off++vs++cells.drop (off+vs.length)) rest else none
def partsOf(tm:Tm):List (Nat×Operand)→Option (List (Nat×Value))
 |[]=>some []
 |(i,x)::l=>match ev tm x with
  |none=>none
  |some v=>match partsOf tm l with
   |none=>none
   |some r=>some ((i,v)::r)
def fg(E:Env)(t:TypeId)(cs:List Value)(off:Nat):Option Value:=
 match E.ty.get t with
 |none=>none
 |some i=>bif Hw i.desc then(bif Zb (off+i.size) cs.length then some (.agg ⟨(cs.drop off).take i.size⟩)else none)else cs[off]?
def rep(n:Nat)(l:List Value):List Value:=Nat.rec (motive:=fun _=>List Value) [] (fun _ ih=>l++ih) n
def GC(s:ByteArray):List Value:=s.data.toList.map fun b=>.int .u8 b.toNat
def Bp :List Value→Option (List UInt8)
 |[]=>some []
 |.int .u8 n::l=>match Bp l with
  |none=>none
  |some r=>some (UInt8.ofNat n.toNat::r)
 |_=>none
def bnd(tm:Tm)(d:Nat)(m:Nat):Option Operand→Option Nat
 |none=>some d
 |some x=>match ev tm x with
  |some (.int _ i)=>if 0≤i∧i≤m then some i.toNat else none
  |_=>none
def Mn(tm:Tm)(n c:Nat)(lo hi mx:Option Operand):Option (Nat×Nat×Nat):=
 bif mx.isSome&&hi.isNone then none else
 match bnd tm c c mx with
 |none=>none
 |some m=>match bnd tm n m hi with
  |none=>none
  |some h=>bif Zb h m then(match bnd tm 0 h lo with
   |none=>none
   |some l=>some (l,h,m))else none
def Cw(s:AS)(a:Option Addr)(n:Nat):Bool:=
 match a with
 |none=>true
 |some a=>match s.h.get a.block with
  |some (.cells _ _ z)=>Za (zs z) n
  |_=>false
def GD(n:Nat)(l:List UInt8):List UInt8:=Nat.rec (motive:=fun _=>List UInt8→List UInt8) (fun l=>l) (fun _ ih l=>@List.rec UInt8 (fun _=>List UInt8) [] (fun _ t _=>ih t) l) n l
def fh(n:Nat)(l:List UInt8):List UInt8:=@List.rec UInt8 (fun _=>Nat→List UInt8) (fun _=>[]) (fun x _ ih n=>Nat.rec (motive:=fun _=>List UInt8) [] (fun m _=>x::ih m) n) l n
def zp(l:List UInt8):Nat:=@List.rec UInt8 (fun _=>Nat) 0 (fun _ _ ih=>Nat.succ ih) l
def GF{α:Type}(l:List UInt8)(f:List UInt8→α):α:=@List.rec UInt8 (fun _=>(List UInt8→α)→α) (fun f=>f []) (fun x _ ih f=>ih (fun t=>f (x::t))) l f
theorem GR{α:Type}:∀(l:List UInt8) (f:List UInt8→α),GF l f=f l
 |[],_=>rfl
 |x::l,f=>GR l (fun t=>f (x::t))
theorem zq :∀l:List UInt8,zp l=l.length
 |[]=>rfl
 |_::l=>congrArg Nat.succ (zq l)
theorem GT :∀(n:Nat) (l:List UInt8),GD n l=l.drop n
 |0,_=>rfl
 |_+1,[]=>rfl
 |n+1,_::l=>GT n l
theorem m6 :∀(l:List UInt8) (n:Nat),fh n l=l.take n
 |[],n=>by cases n<;>rfl
 |_::_,0=>rfl
 |x::l,n+1=>congrArg (x:: ·) (m6 l n)
def zr(b:ByteArray)(l h:Nat):Option Value:=GF (fh (Nat.sub h l) (GD l b.data.toList)) fun t=>some (.string ⟨⟨t⟩⟩)
theorem extract_toList(b:ByteArray)(l h:Nat):(b.extract l h).data.toList=(b.data.toList.drop l).take (h-l):=by
 rw[ByteArray.data_extract,Array.toList_extract,List.extract_eq_take_drop]
theorem GQ(b:ByteArray)(l h:Nat):zr b l h=some (.string (b.extract l h)):=by
 unfold zr;rw[GR,m6,GT];congr 2;apply ByteArray.ext;apply Yt;exact(extract_toList b l h).symm
def Bc(E:Env)(s:AS)(tm:Tm)(t:TypeId)(x:Value)(lo hi mx:Option Operand):Option Value:=
 match E.ty.get t with
 |none=>none
 |some i=>match i.desc,x with
  |.string,.string b=>match mx with
   |some _=>none
   |none=>Hf (zp b.data.toList) fun n=>match Mn tm n n lo hi none with
    |none=>none
    |some (l,h,_)=>zr b l h
  |.slice e,.slice a n c=>match E.ty.get e with
   |none=>none
   |some j=>match Mn tm n (c/2) lo hi mx with
    |none=>none
    |some (l,h,m)=>bif mx.isSome||Za (c%2) 1||Za l 0||Cw s a j.size then some (.slice (a.map fun a=>⟨a.block,a.off+l*j.size,none⟩) (h-l) (2*(m-l)+(bif mx.isSome then 1 else c%2)))else none
  |.array k e,.pointer (some a)=>match E.ty.get e with
   |none=>none
   |some j=>match Mn tm k k lo hi mx with
    |none=>none
    |some (l,h,m)=>some (.slice (some ⟨a.block,a.off+l*j.size,none⟩) (h-l) (2*(m-l)+1))
  |_,_=>none
def Fl(E:Env)(kt:TypeId)(a b:Value):Option Bool:=
 match a,b with
 |.int k x,.int k' y=>bif Hy k k' then some (ieq x y)else none
 |.string x,.string y=>some (x==y)
 |.bool x,.bool y=>some (x==y)
 |_,_=>none
def N0(E:Env)(kt:TypeId)(k:Value):List (Value×Value)→Option (Option Value)
 |[]=>some none
 |(a,v)::l=>match Fl E kt k a with
  |none=>none
  |some true=>some (some v)
  |some false=>N0 E kt k l
def Fo(E:Env)(kt:TypeId)(k v:Value):List (Value×Value)→Option (List (Value×Value))
 |[]=>some [(k,v)]
 |(a,u)::l=>match Fl E kt k a with
  |none=>none
  |some true=>some ((k,v)::l)
  |some false=>match Fo E kt k v l with
   |none=>none
   |some r=>some ((a,u)::r)
def fj(E:Env)(kt:TypeId)(k:Value):List (Value×Value)→Option (List (Value×Value))
 |[]=>some []
 |(a,u)::l=>match Fl E kt k a with
  |none=>none
  |some true=>some l
  |some false=>match fj E kt k l with
   |none=>none
   |some r=>some ((a,u)::r)
def Mo(i:TI)(k:Value):Bool:=
 match i.desc,k with
 |.int _,.int _ _=>true
 |.string,.string _=>true
 |.bool,.bool _=>true
 |_,_=>false
def m7 :TypeDesc→Bool
 |.int _=>true
 |_=>false
def Im(E:Env)(i:TI)(k:Value):Bool:=
 match i.desc,k with
 |.struct fs,.agg cs=>match fs.toList,cs.toList with
  |[f,g],[.int _ _,.int _ _]=>(match E.ty.get f.type,E.ty.get g.type with
   |some fi,some gi=>m7 fi.desc&&m7 gi.desc&&Za f.offset 0&&Za g.offset 1
   |_,_=>false)
  |_,_=>false
 |_,_=>false
def Fp(E:Env)(s:AS)(t:TypeId)(x:Value):Option Value:=
 match E.ty.get t with
 |none=>none
 |some i=>match i.desc,x with
  |.string,.string b=>some (.int .i64 b.size)
  |.array n _,_=>some (.int .i64 n)
  |.slice _,.slice _ n _=>some (.int .i64 n)
  |.map _ _,.map none=>some (.int .i64 0)
  |.map _ _,.map (some r)=>match s.h.get r with
   |some (.map es)=>some (.int .i64 es.length)
   |_=>none
  |_,_=>none
def fk(E:Env)(t:TypeId)(x:Value):Option Value:=
 match E.ty.get t with
 |none=>none
 |some i=>match i.desc,x with
  |.array n _,_=>some (.int .i64 n)
  |.slice _,.slice none _ _=>some (.int .i64 0)
  |.slice _,.slice _ _ c=>bif Za (c%2) 1 then some (.int .i64 ((c/2:Nat):Int))else none
  |_,_=>none
def B3(s:AS)(size m:Nat)(x:Value):Option (List Value):=
 match x with
 |.slice none _ _=>some []
 |.slice (some a) _ _=>bif Za m 0 then some []else rdN s a.block a.off (m*size)
 |.string b=>bif Za size 1 then some ((fh m b.data.toList).map fun b=>.int .u8 b.toNat)else none
 |_=>none
def Bq :Value→Option Nat
 |.slice _ n _=>some n
 |.string s=>some s.size
 |_=>none
def small :Nat:=1099511627776
def zt(E:Env)(s:AS)(e:TypeId)(x y:Value):Option (Value×AS):=
 match E.ty.get e,x,y with
 |some j,.slice none _ _,.int .i64 (.ofNat m)=>bif Za j.size 0||Za j.bytes 0||Za m 0||Zb 524288 j.size then none else
  bif Zb (m*j.bytes) small&&Zb m small then some (.slice (some ⟨s.nx,0,none⟩) m (2*m),s.rowz (tz j.size e) (rep m j.zero))else none
 |_,_,_=>none
def Ip(s:AS)(k:Nat)(y:Value):Option (T Value):=
 match y with
 |.slice (some a) _ _=>match s.h.get a.block with
  |some (.cells c m _)=>bif Za a.off 0&&Za m k then some c else none
  |_=>none
 |_=>none
def Di(s:AS)(j:TI)(n c m:Nat)(y:Value):Option (T Value):=
 bif Za n 0&&Za (c%2) 1&&Zh (c/2) m&&Zb (m*j.bytes) small then Ip s (m*j.size) y else none
def Cx(E:Env)(s:AS)(t u:TypeId)(x y:Value):Option (Value×AS):=
 match E.ty.get t,E.ty.get u with
 |some ti,some ui=>match ti.desc,ui.desc with
  |.slice e,.int _=>zt E s e x y
  |_,.int _=>none
  |.slice e,_=>match E.ty.get e with
   |none=>none
   |some j=>bif Za j.size 0||Za j.bytes 0||Zb 524288 j.size then none else
    match x,Bq y with
    |.slice a n c,some m=>match Di s j n c m y with
     |some t=>some (.slice (some ⟨s.nx,0,none⟩) (n+m) (2*(n+m)),s.new (.cells t (m*j.size) (tz j.size e)))
     |none=>match B3 s j.size m y with
     |none=>none
     |some new=>
      bif Za m 0 then some (.slice a n c,s)else
      bif Zb (n+m) (c/2)then(match a with
       |none=>none
       |some a=>match wrN s a.block (a.off+n*j.size) new with
        |none=>none
        |some s'=>some (.slice (some a) (n+m) c,s'))
      else bif Zb ((n+m)*j.bytes) small then(match a with
       |none=>some (.slice (some ⟨s.nx,0,none⟩) (n+m) (2*(n+m)),s.rowz (tz j.size e) new)
       |some a=>
        bif Za n 0&&Za (c%2) 1 then some (.slice (some ⟨s.nx,0,none⟩) (n+m) (2*(n+m)),s.rowz (tz j.size e) new)else
        match rdN s a.block a.off (n*j.size)with
        |none=>none
        |some old=>match s.h.get a.block with
         |some (.cells _ _ z)=>bif Za (c%2) 1 then some (.slice (some ⟨s.nx,0,none⟩) (n+m) (2*(n+m)),s.rowz (tz j.size e) (old++new))else
          bif Za (zs z) j.size&&ones new then some (.slice (some ⟨s.nx,0,none⟩) (n+m) (2*(n+m)),(s.upd a.block .dead).rowz (zg j.size z e) (old++new))else none
         |_=>none)
      else none
    |_,_=>none
  |_,_=>none
 |_,_=>none
def zw(E:Env)(s:AS)(t:TypeId)(x y:Value):Option (Value×AS):=
 match E.ty.get t with
 |none=>none
 |some ti=>match ti.desc with
  |.slice e=>match E.ty.get e with
   |none=>none
   |some j=>match x,Bq y with
    |.slice a n _,some m=>match B3 s j.size (Y4 m n) y with
     |none=>none
     |some new=>match a with
      |none=>some (.int .i64 (Y4 m n:Nat),s)
      |some a=>bif Za (Y4 m n) 0 then some (.int .i64 (Y4 m n:Nat),s)else match wrN s a.block a.off new with
       |none=>none
       |some s'=>some (.int .i64 (Y4 m n:Nat),s')
    |_,_=>none
  |_=>none
def zx :Value→Value→Option Value
 |.int k x,.int _ y=>some (.int k (if y>x then y else x))
 |_,_=>none
def z6 :Value→Value→Option Value
 |.int k x,.int _ y=>some (.int k (if y<x then y else x))
 |_,_=>none
def Iq(f:Value→Value→Option Value):Value→List Value→Option Value
 |x,[]=>some x
 |x,y::l=>match f x y with
  |none=>none
  |some z=>Iq f z l
def B4(E:Env)(s:AS)(t:TypeId)(x:Value):Option (Value×AS):=
 match E.ty.get t with
 |none=>none
 |some ti=>match ti.desc,x with
  |_,.map none=>some (.tuple #[],s)
  |_,.slice none _ _=>some (.tuple #[],s)
  |_,.map (some r)=>match s.h.get r with
   |some (.map _)=>some (.tuple #[],s.upd r (.map []))
   |_=>none
  |.slice e,.slice (some a) n _=>bif Za n 0 then some (.tuple #[],s)else
   match E.ty.get e with
   |none=>none
   |some j=>match wrN s a.block a.off (rep n j.zero)with
    |none=>none
    |some s'=>some (.tuple #[],s')
  |_,_=>none
def z7(E:Env)(s:AS)(t:TypeId)(m k:Value):Option (Value×AS):=
 match E.ty.get t with
 |none=>none
 |some ti=>match ti.desc,m with
  |.map kt _,.map (some r)=>match E.ty.get kt with
   |none=>none
   |some ki=>bif Mo ki k then(match s.h.get r with
    |some (.map es)=>match fj E kt k es with
     |none=>none
     |some es'=>some (.tuple #[],s.upd r (.map es'))
    |_=>none)else none
  |_,_=>none
def m8(s:AS)(x:Value):Option (Value×AS):=
 match x with
 |.slice none _ _=>some (.pointer none,s)
 |.slice (some a) _ c=>bif Za (c/2) 0 then none else some (.pointer (some ⟨a.block,a.off,none⟩),s)
 |_=>none
def fm(E:Env)(s:AS)(t:TypeId)(p n:Value):Option (Value×AS):=
 match n,p,E.ty.get t with
 |.int .i64 (.ofNat m),.pointer pa,some i=>bif Za m 0 then some (.string .empty,s)else match pa,i.desc with
  |some a,.pointer e=>match E.ty.get e,s.h.get a.block with
   |some j,some (.cells _ _ z)=>bif Za j.size 1&&Za (ze z) (e+1)&&Zb m small then(match rdN s a.block a.off m with
    |some l=>match Bp l with
     |some bs=>some (.string ⟨⟨bs⟩⟩,s.upd a.block .dead)
     |none=>none
    |none=>none)else none
   |_,_=>none
  |_,_=>none
 |_,_,_=>none
def R8(E:Env)(s:AS)(b:Builtin)(ts:List TypeId)(xs:List Value):Option (Value×AS):=
 match b,ts,xs with
 |.len,t::_,[x]=>match Fp E s t x with
  |none=>none
  |some v=>some (v,s)
 |.cap,t::_,[x]=>match fk E t x with
  |none=>none
  |some v=>some (v,s)
 |.append,t::u::_,[x,y]=>Cx E s t u x y
 |.copy,t::_,[x,y]=>zw E s t x y
 |.unsafeSliceData,_,[x]=>m8 s x
 |.unsafeString,[t,_],[x,y]=>fm E s t x y
 |.clear,t::_,[x]=>B4 E s t x
 |.delete,t::_,[x,y]=>z7 E s t x y
 |.max,_,x::l=>match Iq zx x l with
  |none=>none
  |some v=>some (v,s)
 |.min,_,x::l=>match Iq z6 x l with
  |none=>none
  |some v=>some (v,s)
 |_,_,_=>none
def Ir(E:Env)(s:AS)(src dst:TypeId)(x:Value):Option (Value×AS):=
 bif plain x then(match Hk E.P (convert src dst x)with
  |some v=>bif plain v then some (v,s)else none
  |none=>none)else none
def Cy(E:Env)(s:AS)(src dst:TypeId)(x:Value):Option (Value×AS):=
 match E.ty.get src,E.ty.get dst with
 |some si,some di=>match si.desc,di.desc,x with
  |_,.int k,.int _ n=>match Ba k n with
   |some v=>some (v,s)
   |none=>none
  |_,.string,.string b=>some (.string b,s)
  |_,.slice e,.string b=>match E.ty.get e with
   |some ⟨.int .u8,_,_,_⟩=>some (.slice (some ⟨s.nx,0,none⟩) b.size (2*b.size),s.rowz 3 (GC b))
   |_=>none
  |.slice e,.string,.slice a n _=>match E.ty.get e with
   |some ⟨.int .u8,_,_,_⟩=>match a with
    |none=>some (.string .empty,s)
    |some a=>bif Za n 0 then some (.string .empty,s)else match rdN s a.block a.off n with
     |none=>none
     |some l=>match Bp l with
      |none=>none
      |some bs=>some (.string ⟨⟨bs⟩⟩,s)
   |_=>none
  |.slice _,.slice e,.slice (some a) n c=>bif Za src dst then(match E.ty.get e with
   |some ⟨.int .u8,_,_,_⟩=>match s.h.get a.block with
    |some (.cells ct m z)=>some (.slice (some a) n c,s.upd a.block (.cells ct m (2*(z/2)+1)))
    |_=>none
   |_=>none)else none
  |.pointer t,.unsafePointer,.pointer p=>match p with
   |none=>some (.pointer none,s)
   |some a=>match E.ty.get t with
    |some j=>bif Za j.size 0 then none else match s.h.get a.block with
     |some (.cells _ m _)=>bif Zh a.off m then some (.pointer (some ⟨a.block,a.off,none⟩),s)else none
     |_=>none
    |none=>none
  |.unsafePointer,.pointer u,.pointer (some a)=>match E.ty.get u,s.h.get a.block with
   |some j,some (.cells _ m z)=>bif Za (ze z) (u+1)&&Za (zs z) 0&&Za a.off 0&&Zb j.size m&&Zb 1 j.size then some (.pointer (some ⟨a.block,0,none⟩),s)else none
   |_,_=>none
  |_,_,_=>Ir E s src dst x
 |_,_=>none
abbrev Res :=Option (Value×AS)
def B5(x:Operand)(_:Env)(tm:Tm)(s:AS):Res:=
 match ev tm x with
 |some v=>some (v,s)
 |none=>none
def Cz(c a b:Operand)(_:Env)(tm:Tm)(s:AS):Res:=
 match ev tm c with
 |some (.bool t)=>match ev tm (bif t then a else b)with
  |some v=>some (v,s)
  |none=>none
 |_=>none
def Fq(t:TypeId)(E:Env)(_:Tm)(s:AS):Res:=
 match E.ty.get t with
 |some i=>some (.pointer (some ⟨s.nx,0,none⟩),s.rowz (tz 0 t) i.zero)
 |none=>none
def Dj(t:TypeId)(x:Operand)(_:Env)(tm:Tm)(s:AS):Res:=
 match ev tm x with
 |some v=>some (.pointer (some ⟨s.nx,0,none⟩),s.rowz (tz 0 t) v.cells.toList)
 |none=>none
def Fs(t:TypeId)(ps:Array (Nat×Operand))(E:Env)(tm:Tm)(s:AS):Res:=
 match E.ty.get t,partsOf tm ps.toList with
 |some i,some l=>match i.desc with
  |.struct fs=>match placesOf E fs.toList with
   |none=>none
   |some pl=>match Cv (fun k=>pl[k]?) i.zero l with
    |none=>none
    |some cs=>some (.agg ⟨cs⟩,s)
  |.array _ e=>match E.ty.get e with
   |none=>none
   |some j=>match Cv (fun k=>some (k*j.size,j.size)) i.zero l with
    |none=>none
    |some cs=>some (.agg ⟨cs⟩,s)
  |_=>none
 |_,_=>none
def N1(t:TypeId)(n:Nat)(ps:Array (Nat×Operand))(E:Env)(tm:Tm)(s:AS):Res:=
 match E.ty.get t,partsOf tm ps.toList with
 |some i,some l=>match i.desc with
  |.slice e=>match E.ty.get e with
   |none=>none
   |some j=>bif Zb (n*j.size) 65536 then(match Cv (fun k=>some (k*j.size,j.size)) (rep n j.zero) l with
    |none=>none
    |some cs=>some (.slice (some ⟨s.nx,0,none⟩) n (2*n+1),(s.row cs).2))else none
  |_=>none
 |_,_=>none
def Bd(t:TypeId)(a:Operand)(E:Env)(tm:Tm)(s:AS):Res:=
 match E.ty.get t,ev tm a with
 |some i,some (.pointer (some p))=>bif Hw i.desc then(match rdN s p.block p.off i.size with
   |some l=>some (.agg ⟨l⟩,s)
   |none=>none)else(match rd s p.block p.off with
   |some v=>some (v,s)
   |none=>none)
 |_,_=>none
def Ft(t:TypeId)(a x:Operand)(E:Env)(tm:Tm)(s:AS):Res:=
 match E.ty.get t,ev tm a,ev tm x with
 |some i,some (.pointer (some p)),some v=>
  bif Za v.cells.toList.length i.size then(match wrN s p.block p.off v.cells.toList with
   |some s'=>some (.tuple #[],s')
   |none=>none)else none
 |_,_,_=>none
def R9(x:Operand)(_:Env)(tm:Tm)(s:AS):Res:=
 match ev tm x with
 |some (.pointer (some p))=>some (.pointer (some p),s)
 |some (.func (.func f) a b)=>some (.func (.func f) a b,s)
 |_=>none
def M5(op:BinOp)(t:TypeId)(x y:Operand)(E:Env)(tm:Tm)(s:AS):Res:=
 match ev tm x,ev tm y with
 |some a,some b=>match Fj E s op t x y a b with
  |some v=>some (v,s)
  |none=>none
 |_,_=>none
def GW :Value→Option Value
 |.bool b=>some (.bool (!b))
 |_=>none
def hUn(op:UnOp)(x:Operand)(E:Env)(tm:Tm)(s:AS):Res:=
 match ev tm x with
 |some v=>(match (match op with
   |.not=>GW v
   |_=>none)with
  |some u=>some (u,s)
  |none=>bif plain v then(match Hk E.P (Op.unary op v)with
   |some u=>bif plain u then some (u,s)else none
   |none=>none)else none)
 |none=>none
def N2(a b:TypeId)(x:Operand)(E:Env)(tm:Tm)(s:AS):Res:=
 match ev tm x with
 |some v=>Cy E s a b v
 |none=>none
def Fu(t:TypeId)(x:Operand)(E:Env)(tm:Tm)(s:AS):Res:=
 match E.ty.get t,ev tm x with
 |some i,some v=>match i.desc with
  |.interface _=>none
  |_=>some (.iface t v,s)
 |_,_=>none
def Fv(f:Fn)(a b:Array Operand)(_:Env)(tm:Tm)(s:AS):Res:=
 match evs tm a.toList,evs tm b.toList with
 |some l,some r=>some (.func f ⟨l⟩ ⟨r⟩,s)
 |_,_=>none
def fp(t:TypeId)(r:Option Operand)(E:Env)(tm:Tm)(s:AS):Res:=
 match r with
 |none=>some (.map (some s.nx),s.new (.map []))
 |some x=>match E.ty.get t,ev tm x with
  |some ⟨.map _ _,_,_,_⟩,some (.int _ _)=>some (.map (some s.nx),s.new (.map []))
  |_,_=>none
def Ta(t:TypeId)(l c:Operand)(E:Env)(tm:Tm)(s:AS):Res:=
 match E.ty.get t,ev tm l,ev tm c with
 |some i,some (.int _ n),some (.int _ m)=>match i.desc with
  |.slice e=>match E.ty.get e with
   |none=>none
   |some j=>if 0≤n∧n≤m∧m*j.bytes≤small∧m≤small then
    some (.slice (some ⟨s.nx,0,none⟩) n.toNat (2*m.toNat+1),(s.row (rep m.toNat j.zero)).2)else none
  |_=>none
 |_,_,_=>none
def No(t:TypeId)(x:Operand)(lo hi mx:Option Operand)(E:Env)(tm:Tm)(s:AS):Res:=
 match ev tm x with
 |some v=>match Bc E s tm t v lo hi mx with
  |some u=>some (u,s)
  |none=>none
 |none=>none
def Fw(t:TypeId)(x:Operand)(f:Nat)(E:Env)(tm:Tm)(s:AS):Res:=
 match E.ty.get t,ev tm x with
 |some i,some (.pointer (some p))=>match i.desc with
  |.struct fs=>match fs.toList[f]? with
   |some fd=>match E.ty.get fd.type with
    |some j=>bif Za j.size 0 then none else Hf (p.off+fd.offset) fun o=>some (.pointer (some ⟨p.block,o,none⟩),s)
    |none=>none
   |none=>none
  |_=>none
 |_,_=>none
def Is(t:TypeId)(x:Operand)(f:Nat)(E:Env)(tm:Tm)(s:AS):Res:=
 match E.ty.get t,ev tm x with
 |some i,some (.agg cs)=>match i.desc with
  |.struct fs=>match fs.toList[f]? with
   |some fd=>match fg E fd.type cs.toList fd.offset with
    |some v=>some (v,s)
    |none=>none
   |none=>none
  |_=>none
 |_,_=>none
def C0(t:TypeId)(x y:Operand)(E:Env)(tm:Tm)(s:AS):Res:=
 match E.ty.get t,ev tm x,ev tm y with
 |some i,some v,some (.int _ n)=>match i.desc,v with
  |.slice e,.slice (some a) m _=>match E.ty.get e with
   |some j=>bif inR n m then Hf (a.off+n.toNat* j.size) (fun o=>some (.pointer (some ⟨a.block,o,none⟩),s))else none
   |none=>none
  |.array m e,.pointer (some a)=>match E.ty.get e with
   |some j=>bif inR n m then Hf (a.off+n.toNat* j.size) (fun o=>some (.pointer (some ⟨a.block,o,none⟩),s))else none
   |none=>none
  |_,_=>none
 |_,_,_=>none
def Fx(t:TypeId)(x y:Operand)(E:Env)(tm:Tm)(s:AS):Res:=
 match E.ty.get t,ev tm x,ev tm y with
 |some i,some v,some (.int _ n)=>match i.desc,v with
  |.string,.string b=>if 0≤n then(match b.data.toList[n.toNat]? with
   |some c=>some (.int .u8 c.toNat,s)
   |none=>none)else none
  |.array m e,.agg cs=>match E.ty.get e with
   |some j=>bif inR n m then(match fg E e cs.toList (n.toNat* j.size)with
    |some v=>some (v,s)
    |none=>none)else none
   |none=>none
  |_,_=>none
 |_,_,_=>none
def Tb(t:TypeId)(x y:Operand)(ok:Bool)(E:Env)(tm:Tm)(s:AS):Res:=
 match E.ty.get t,ev tm x,ev tm y with
 |some i,some (.map r),some k=>match i.desc with
  |.map kt et=>match E.ty.get kt,E.ty.get et with
   |some ki,some ei=>bif Mo ki k then(
    match (match r with
     |none=>some none
     |some r=>match s.h.get r with
      |some (.map es)=>N0 E kt k es
      |_=>none)with
    |none=>none
    |some o=>let z:Value:=bif Hw ei.desc then .agg ⟨ei.zero⟩else ei.zero.headD (.tuple #[])
     some (bif ok then .tuple #[o.getD z,.bool o.isSome]else o.getD z,s))else none
   |_,_=>none
  |_=>none
 |_,_,_=>none
def Tc(t:TypeId)(m k x:Operand)(E:Env)(tm:Tm)(s:AS):Res:=
 match E.ty.get t,ev tm m,ev tm k,ev tm x with
 |some i,some (.map (some r)),some k,some v=>match i.desc with
  |.map kt _=>match E.ty.get kt with
   |some ki=>bif Mo ki k then(match s.h.get r with
    |some (.map es)=>match Fo E kt k v es with
     |none=>none
     |some es'=>some (.tuple #[],s.upd r (.map es'))
    |_=>none)else bif Im E ki k then(match s.h.get r with
    |some (.map [])=>some (.tuple #[],s.upd r (.map [(k,v)]))
    |_=>none)else none
   |none=>none
  |_=>none
 |_,_,_,_=>none
def m9(t:TypeId)(x:Operand)(E:Env)(tm:Tm)(s:AS):Res:=
 match E.ty.get t,ev tm x with
 |some i,some (.string b)=>match i.desc with
  |.string=>some (.pointer (some ⟨s.nx,0,none⟩),s.new (.iter b 0))
  |_=>none
 |_,_=>none
def pf(it:Operand)(str:Bool)(_:Env)(tm:Tm)(s:AS):Res:=
 match str,ev tm it with
 |true,some (.pointer (some ⟨r,0,none⟩))=>match s.h.get r with
  |some (.iter b p)=>if p<b.size then
    some (.tuple #[.bool true,.int .i64 p,.int .i32 (Utf8.decode b p).1],s.upd r (.iter b (p+(Utf8.decode b p).2)))
   else some (.tuple #[.bool false],s)
  |_=>none
 |_,_=>none
def Td(x:Operand)(t:TypeId)(ok:Bool)(E:Env)(tm:Tm)(s:AS):Res:=
 match E.ty.get t,ev tm x with
 |some i,some (.iface u v)=>match i.desc with
  |.interface _=>none
  |_=>bif Za u t then some (bif ok then .tuple #[v,.bool true]else v,s)else none
 |_,_=>none
def Fy(x:Operand)(i:Nat)(_:Env)(tm:Tm)(s:AS):Res:=
 match ev tm x with
 |some (.tuple vs)=>match vs.toList[i]? with
  |some v=>some (v,s)
  |none=>none
 |_=>none
def Br(c:Call)(E:Env)(tm:Tm)(s:AS):Res:=
 match c.callee with
 |.builtin b=>match evs tm c.args.toList with
  |some xs=>R8 E s b c.argTypes.toList xs
  |none=>none
 |_=>none
def hNo(_:Env)(_:Tm)(_:AS):Res:=none
def opA(op:Op):Env→Tm→AS→Res:=
 match op with
 |.move x=>B5 x
 |.assign x=>B5 x
 |.pick c a b=>Cz c a b
 |.alloc t=>Fq t
 |.box t x=>Dj t x
 |.build t ps=>Fs t ps
 |.buildSlice t n ps=>N1 t n ps
 |.load t a=>Bd t a
 |.store t a x=>Ft t a x
 |.nilCheck x=>R9 x
 |.binOp op t x y _=>M5 op t x y
 |.unOp op _ x=>hUn op x
 |.convert a b x=>N2 a b x
 |.makeInterface t x=>Fu t x
 |.makeFunc f a b=>Fv f a b
 |.makeMap t r=>fp t r
 |.makeSlice t l c=>Ta t l c
 |.slice t x lo hi mx=>No t x lo hi mx
 |.fieldAddr t x f=>Fw t x f
 |.field t x f=>Is t x f
 |.indexAddr t x y=>C0 t x y
 |.index t x y=>Fx t x y
 |.lookup t x y ok=>Tb t x y ok
 |.mapUpdate t m k x=>Tc t m k x
 |.insert t m k x=>Tc t m k x
 |.range t x=>m9 t x
 |.next it str=>pf it str
 |.typeAssert x _ t ok=>Td x t ok
 |.extract x i=>Fy x i
 |.call c=>Br c
 |_=>hNo
end
end Go.Ax
namespace Go.Ax
open Go
noncomputable section
inductive X where
 |nor
 |exit (i:Nat)
 |ret
abbrev Gu :=FuncId→List Value→AS→Option (Value×AS)
def Ha(ops:List Oper)(tm:Tm)(o:Oper):Option Bool:=
 match o.guard with
 |none=>some true
 |some (j,want)=>match ops[j]? with
  |some o'=>match o'.dst with
   |some d=>match tm.get d with
    |some (.bool b)=>some (b==want)
    |some _=>some false
    |none=>none
   |none=>none
  |none=>none
def Fz(f:Operand)(args:List Operand)(call:Gu)(tm:Tm)(s:AS):Option (Value×AS):=
 match ev tm f,evs tm args with
 |some (.func (.func g) first captured),some xs=>call g (first.toList++xs++captured.toList) s
 |_,_=>none
def It(c:Call)(E:Env)(call:Gu)(tm:Tm)(s:AS):Option (Value×AS):=
 match c.callee with
 |.value f=>Fz f c.args.toList call tm s
 |_=>Br c E tm s
def Hb(op:Op)(E:Env)(call:Gu)(tm:Tm)(s:AS):Option (Value×AS):=
 match op with
 |.call c=>It c E call tm s
 |op=>opA op E tm s
def Gq(N:Nat)(tm:Tm)(dst:Option Tmp)(v:Value):Option Tm:=
 match dst with
 |none=>some tm
 |some d=>bif Zb d N then some (tm.set d v)else none
def Mq(E:Env)(call:Gu)(N:Nat)(ops:List Oper)(l:List Oper):Tm→AS→Option (Tm×AS):=
 List.rec (motive:=fun _=>Tm→AS→Option (Tm×AS)) (fun tm s=>some (tm,s)) (fun o _ ih tm s=>
  match Ha ops tm o with
  |none=>none
  |some false=>match Gq N tm o.dst undef with
   |none=>none
   |some tm'=>ih tm' s
  |some true=>match Hb o.op E call tm s with
   |none=>none
   |some (v,s')=>match Gq N tm o.dst v with
    |none=>none
    |some tm'=>ih tm' s') l
def Gv :Op→Bool
 |.alloc _|.box _ _|.buildSlice _ _ _|.makeMap _ _|.makeSlice _ _ _=>true
 |_=>false
def pj(ty:T TI)(t:TypeId):Bool:=
 match ty.get t with
 |some i=>match i.desc with
  |.int _|.float _=>true
  |_=>false
 |none=>false
def eff(ty:T TI):Op→Bool
 |.store _ _ _|.mapUpdate _ _ _ _|.insert _ _ _ _|.range _ _|.next _ _=>true
 |.convert _ t _=> !pj ty t
 |.call ⟨.builtin .len,_,_⟩|.call ⟨.builtin .cap,_,_⟩|.call ⟨.builtin .max,_,_⟩|.call ⟨.builtin .min,_,_⟩=>false
 |.call _=>true
 |_=>false
def slotsOf :List Operand→List Nat
 |[]=>[]
 |.tmp i::l=>i::slotsOf l
 |_::l=>slotsOf l
def looks(ops:List Oper)(o:Oper):List Nat:=
 slotsOf o.op.operands.toList++(match o.guard with
  |none=>[]
  |some (j,_)=>match ops[j]? with
   |some o'=>o'.dst.toList
   |none=>[])
def Mr(e:Edge):Bool:=
 match e.ground with
 |.textOnly _|.gcOnly _=>false
 |_=>true
def Gt :List Oper→List Nat→List Nat
 |[],acc=>acc
 |o::l,acc=>Gt l (acc++[(o.after.toList.filter Mr).foldl (fun b e=>b|||2^e.on|||acc.getD e.on 0) 0])
def GL(i:Nat)(e:Edge):Bool:= !Mr e||Zh e.on i
def GP(ty:T TI)(ops:List Oper)(an:List Nat)(i:Nat)(o:Oper)(j:Nat)(p:Oper):Bool:=
 bif Zh i j then(
  (bif eff ty o.op&&eff ty p.op then(an.getD j 0).testBit i else true)&&
  (match o.dst with
   |some d=>bif (looks ops p).contains d||p.dst==some d then(an.getD j 0).testBit i else true
   |none=>true)&&
  (match p.dst with
   |some d=>bif (looks ops o).contains d then(an.getD j 0).testBit i else true
   |none=>true))else true
def Te(ty:T TI)(ops:List Oper):Bool:=
 (ops.zipIdx.all fun(o,i)=>o.after.toList.all (GL i)&&(match o.op with|.select _ _=>false|_=>true))&&
 (fun an=>ops.zipIdx.all fun(o,i)=>ops.zipIdx.all fun(p,j)=>GP ty ops an i o j p) (Gt ops [])
def B6 :Value→Value→Bool
 |.bool a,.bool b=>a==b
 |.int k a,.int l b=>k==l&&a==b
 |.float k a,.float l b=>k==l&&a==b
 |.string a,.string b=>a==b
 |.pointer a,.pointer b=>a==b
 |.slice a n c,.slice b m d=>a==b&&n==m&&c==d
 |.map a,.map b=>a==b
 |.nilFunc,.nilFunc=>true
 |.nilIface,.nilIface=>true
 |_,_=>false
def F0(e:Value→Value→Bool):List Value→List Value→Bool
 |[],[]=>true
 |a::l,b::m=>e a b&&F0 e l m
 |_,_=>false
def N3(e:Value→Value→Bool):Value→Value→Bool
 |.func (.func f) a c,.func (.func g) b d=>f==g&&F0 e a.toList b.toList&&F0 e c.toList d.toList
 |.iface t a,.iface u b=>t==u&&e a b
 |.agg a,.agg b=>F0 e a.toList b.toList
 |a,b=>B6 a b
def veq :Value→Value→Bool:=N3 (N3 (N3 B6))
def Dk :Op→Bool
 |.slice _ _ _ _ _|.load _ _|.lookup _ _ _ _|.binOp _ _ _ _ _|.call _|.nilCheck _|.typeAssert _ _ _ _|.waits _|.entry _=>true
 |_=>false
def N4(op:Op)(E:Env)(tm:Tm)(b:Nat):Option (Value×Gg):=
 match opA op E tm ⟨.e,b⟩with
 |none=>none
 |some (v,s')=>match s'.h.get b with
  |none=>none
  |some o=>some (v,o)
abbrev Gy :=List (Nat×Gg)
def laid(base bits:Nat)(news:Gy)(s:AS):AS:=
 news.foldl (fun s (x:Nat×Gg)=>bif bits.testBit x.1 then(match s.h.get (base+x.1)with
  |none=>s.upd (base+x.1) x.2
  |some _=>s)else s) s
structure Rec where
 i:Nat
 o:Oper
 tm:Tm
 v:Value
 news:Gy
def Np(E:Env)(call:Gu)(N:Nat)(ops:List Oper)(an:List Nat)(base:Nat)(l:List Oper):Nat→Tm→AS→List AS→List Rec→Gy→Option (Tm×AS×List AS×List Rec×Gy):=
 List.rec (motive:=fun _=>Nat→Tm→AS→List AS→List Rec→Gy→Option (Tm×AS×List AS×List Rec×Gy)) (fun _ tm s ss rs nw=>some (tm,s,ss,rs,nw)) (fun o _ ih i tm s ss rs nw=>
  match Ha ops tm o with
  |none=>none
  |some false=>match Gq N tm o.dst undef with
   |none=>none
   |some tm'=>ih (i+1) tm' s (bif eff E.ty o.op then ss++[s]else ss) rs nw
  |some true=>bif Gv o.op then(Hf (base+i) fun b=>match N4 o.op E tm b with
    |none=>none
    |some (v,x)=>match Gq N tm o.dst v with
     |none=>none
     |some tm'=>ih (i+1) tm' s ss rs (nw++[(i,x)]))
   else match Hb o.op E call tm (laid base (an.getD i 0) nw s)with
   |none=>none
   |some (v,s')=>match Gq N tm o.dst v with
    |none=>none
    |some tm'=>bif eff E.ty o.op then ih (i+1) tm' s' (ss++[s']) rs nw else ih (i+1) tm' s ss (⟨i,o,tm,v,nw⟩::rs) nw) l
def Tf(ty:T TI)(ops:List Oper)(bits:Nat):Nat:=((ops.zipIdx.filter fun(o,j)=>eff ty o.op&&bits.testBit j)).length
def Ti(ty:T TI)(ops:List Oper)(an:List Nat)(i:Nat):Nat:=((ops.zipIdx.filter fun(o,j)=>eff ty o.op&& !(an.getD j 0).testBit i)).length
def Iu(E:Env)(ops:List Oper)(an:List Nat)(base:Nat)(ss:List AS)(r:Rec):Bool:=
 bif !Dk r.o.op then true else ss.zipIdx.all fun(s,m)=>bif Zb (Tf E.ty ops (an.getD r.i 0)) m&&Zb m (Ti E.ty ops an r.i)then(match opA r.o.op E r.tm (laid base (an.getD r.i 0) r.news s)with
  |some (v,_)=>veq v r.v
  |none=>false)else true
def Tj(n:Nat):Nat:=2^n-1
def Dl(E:Env)(call:Gu)(N:Nat)(ops:List Oper)(tm:Tm)(s:AS):Option (Tm×AS):=
 bif (ops.any fun o=>eff E.ty o.op||Gv o.op)then(Hf (s.nx+ops.length) fun nx=>match Np E call N ops (Gt ops []) s.nx ops 0 tm ⟨s.h,nx⟩ [⟨s.h,nx⟩] [] []with
  |none=>none
  |some (tm',s',ss,rs,nw)=>bif rs.all (Iu E ops (Gt ops []) s.nx ss)then some (tm',laid s.nx (Tj ops.length) nw s')else none)
 else Mq E call N ops ops tm s
abbrev Nq :=Option (X×Tm×AS)
abbrev Run :=Code→Tm→AS→Nq
def AJ(_:Env)(_:Gu)(_:Nat)(_:Run)(tm:Tm)(s:AS):Nq:=some (.nor,tm,s)
def C1(ops:Array Oper)(draw:Bool)(E:Env)(call:Gu)(N:Nat)(_:Run)(tm:Tm)(s:AS):Nq:=
 match (bif draw then Dl E call N ops.toList tm s else Mq E call N ops.toList ops.toList tm s)with
 |none=>none
 |some (tm',s')=>some (.nor,tm',s')
def C2(a b:Code)(_:Env)(_:Gu)(_:Nat)(ih:Run)(tm:Tm)(s:AS):Nq:=
 match ih a tm s with
 |none=>none
 |some (x,tm',s')=>match x with
  |.nor=>ih b tm' s'
  |x=>some (x,tm',s')
def F3(x:Operand)(a b:Code)(_:Env)(_:Gu)(_:Nat)(ih:Run)(tm:Tm)(s:AS):Nq:=
 match ev tm x with
 |some (.bool t)=>ih (bif t then a else b) tm s
 |_=>none
def F4(i:Nat)(b:Code)(_:Env)(_:Gu)(_:Nat)(ih:Run)(tm:Tm)(s:AS):Nq:=
 match ih b tm s with
 |none=>none
 |some (x,tm',s')=>match x with
  |.exit j=>bif Za j i then some (.nor,tm',s')else some (.exit j,tm',s')
  |x=>some (x,tm',s')
def C3(b:Code)(_:Env)(_:Gu)(_:Nat)(ih:Run)(tm:Tm)(s:AS):Nq:=
 match ih b tm s with
 |none=>none
 |some (x,tm',s')=>match x with
  |.nor=>ih (.loop b) tm' s'
  |x=>some (x,tm',s')
def AK(i:Nat)(_:Env)(_:Gu)(_:Nat)(_:Run)(tm:Tm)(s:AS):Nq:=some (.exit i,tm,s)
def AG(_:Env)(_:Gu)(_:Nat)(_:Run)(tm:Tm)(s:AS):Nq:=some (.ret,tm,s)
def z8(f:Operand)(E:Env)(_:Gu)(_:Nat)(_:Run)(tm:Tm)(s:AS):Nq:=
 match ev tm f with
 |some (.func (.func g) ⟨[]⟩ ⟨[.pointer (some p)]⟩)=>bif E.back g then(match rd s p.block p.off with
  |some (.slice _ 0 _)=>some (.nor,tm,s)
  |_=>none)else none
 |_=>none
def cNo(_:Env)(_:Gu)(_:Nat)(_:Run)(_:Tm)(_:AS):Nq:=none
def pq(c:Code):Env→Gu→Nat→Run→Tm→AS→Nq:=
 match c with
 |.skip=>AJ
 |.region _ ops draw=>C1 ops draw
 |.seq a b=>C2 a b
 |.cond x a b=>F3 x a b
 |.block i b=>F4 i b
 |.loop b=>C3 b
 |.exit i=>AK i
 |.ret=>AG
 |.rangeFunc f _ _ _=>z8 f
 |_=>cNo
def Hp(E:Env)(call:Gu)(N:Nat)(F:Nat):Run:=
 Nat.rec (motive:=fun _=>Run) (fun _ _ _=>none) (fun _ ih c tm s=>pq c E call N ih tm s) F
def Be(E:Env)(tm:Tm)(s:AS):List ResultVar→Option (List Value)
 |[]=>some []
 |r::l=>match (match r with
   |.tmp t=>tm.get t
   |.cell a t=>match E.ty.get t,tm.get a with
    |some i,some (.pointer (some p))=>bif Hw i.desc then(match rdN s p.block p.off i.size with
     |some l=>some (.agg ⟨l⟩)
     |none=>none)else rd s p.block p.off
    |_,_=>none)with
  |none=>none
  |some v=>match Be E tm s l with
   |none=>none
   |some vs=>some (v::vs)
def Bt :List Value→Value
 |[v]=>v
 |l=>.tuple ⟨l⟩
def Gw(E:Env)(F:Nat)(D:Nat):Gu:=
 Nat.rec (motive:=fun _=>Gu) (fun _ _ _=>none) (fun _ ih f args s=>
  match E.prim.get f with
  |some p=>p args s
  |none=>match E.fn.get f with
   |none=>none
   |some fn=>match fn.body with
    |none=>none
    |some c=>bif Za fn.ntmps 0 then none else Hf (Nat.pred fn.ntmps) fun N=>match Hp E ih N F c (T.e.fill 0 args) s with
     |some (.exit _,_,_)=>none
     |none=>none
     |some (_,tm,s')=>match Be E tm s' fn.results.toList with
      |none=>none
      |some vs=>some (Bt vs,s')) D
end
end Go.Ax
namespace Go.Ax
open Go
structure Io where
 f:Nat→Option (Nat×Nat)
 lim:Nat→Nat×Nat
instance:CoeFun Io (fun _=>Nat→Option (Nat×Nat)):=⟨Io.f⟩
mutual
inductive VR(i:Io):Value→Value→Prop
 |bool (b:Bool):VR i (.bool b) (.bool b)
 |int (k:IntKind) (n:Int):VR i (.int k n) (.int k n)
 |float (k:FloatKind) (n:Nat):VR i (.float k n) (.float k n)
 |string (s:ByteArray):VR i (.string s) (.string s)
 |nilp:VR i (.pointer none) (.pointer none)
 |ptr {b o q t:Nat} (h:i b=some (q,t)):VR i (.pointer (some ⟨b,o,none⟩)) (.pointer (some ⟨q,t+o,none⟩))
 |nils {c:Nat} (h:c/2=0):VR i (.slice none 0 c) (.slice none 0 0)
 |slice {b o q t n c p c':Nat} (h:i b=some (q,t)) (hn:n≤c/2) (h1:c%2=1→c'=c/2) (h2:c/2≤c') (ho:p=t+o∨c'=0) (hl:c%2=0→c'≠0→p+c'*(i.lim b).1≤(i.lim b).2):
   VR i (.slice (some ⟨b,o,none⟩) n c) (.slice (some ⟨q,p,none⟩) n c')
 |nilm:VR i (.map none) (.map none)
 |map {b q:Nat} (h:i b=some (q,0)):VR i (.map (some b)) (.map (some q))
 |nilFunc:VR i .nilFunc .nilFunc
 |nilIface:VR i .nilIface .nilIface
 |func (f:Fn) {a a' c c':List Value} (h:VRs i a a') (h':VRs i c c'):VR i (.func f ⟨a⟩ ⟨c⟩) (.func f ⟨a'⟩ ⟨c'⟩)
 |iface (t:TypeId) {v v':Value} (h:VR i v v'):VR i (.iface t v) (.iface t v')
 |agg {a a':List Value} (h:VRs i a a'):VR i (.agg ⟨a⟩) (.agg ⟨a'⟩)
 |tuple {a a':List Value} (h:VRs i a a'):VR i (.tuple ⟨a⟩) (.tuple ⟨a'⟩)
inductive VRs(i:Io):List Value→List Value→Prop
 |nil:VRs i [] []
 |cons {v v':Value} {l l':List Value} (h:VR i v v') (h':VRs i l l'):VRs i (v::l) (v'::l')
end
structure Le(i j:Io):Prop where
 f:∀b x,i b=some x→j b=some x
 lim:∀b x,i b=some x→j.lim b=i.lim b
instance {i j:Io}:CoeFun (Le i j) (fun _=>∀b x,i b=some x→j b=some x):=⟨Le.f⟩
theorem Le.refl(i:Io):Le i i:=⟨fun _ _ h=>h,fun _ _ _=>rfl⟩
theorem Le.trans{i j k:Io}(h:Le i j)(h':Le j k):Le i k:=⟨fun b x e=>h' b x (h b x e),fun b x e=>(h'.lim b x (h b x e)).trans (h.lim b x e)⟩
mutual
theorem VR.mono{i j:Io}(hle:Le i j):∀ {v v':Value},VR i v v'→VR j v v'
 |_,_,.bool b=>.bool b
 |_,_,.int k n=>.int k n
 |_,_,.float k n=>.float k n
 |_,_,.string s=>.string s
 |_,_,.nilp=>.nilp
 |_,_,.ptr h=>.ptr (hle _ _ h)
 |_,_,.nils h=>.nils h
 |_,_,.slice h a b c d e=>.slice (hle _ _ h) a b c d (by rw[hle.lim _ _ h];exact e)
 |_,_,.nilm=>.nilm
 |_,_,.map h=>.map (hle _ _ h)
 |_,_,.nilFunc=>.nilFunc
 |_,_,.nilIface=>.nilIface
 |_,_,.func f h h'=>.func f (VRs.mono hle h) (VRs.mono hle h')
 |_,_,.iface t h=>.iface t (VR.mono hle h)
 |_,_,.agg h=>.agg (VRs.mono hle h)
 |_,_,.tuple h=>.tuple (VRs.mono hle h)
theorem VRs.mono{i j:Io}(hle:Le i j):∀ {l l':List Value},VRs i l l'→VRs j l l'
 |_,_,.nil=>.nil
 |_,_,.cons h h'=>.cons (VR.mono hle h) (VRs.mono hle h')
end
theorem VRs.length{i:Io}:∀ {l l':List Value},VRs i l l'→l.length=l'.length
 |_,_,.nil=>rfl
 |_,_,.cons _ h'=>by simp[h'.length]
theorem VRs.get{i:Io}:∀ {l l':List Value},VRs i l l'→∀ {k:Nat} {v:Value},l[k]? =some v→∃v',l'[k]? =some v'∧VR i v v'
 |_,_,.nil,k,v,h=>by simp at h
 |_,_,.cons h1 h',k,v,h=>by
  cases k with
  |zero=>simp at h;subst h;exact⟨_,rfl,h1⟩
  |succ k=>simp at h;simpa using h'.get h
theorem VRs.append{i:Io}:∀ {l l':List Value},VRs i l l'→∀ {m m':List Value},VRs i m m'→VRs i (l++m) (l'++m')
 |_,_,.nil,_,_,h=>h
 |_,_,.cons a b,_,_,h=>.cons a (b.append h)
theorem VRs.take{i:Io}:∀ {l l':List Value},VRs i l l'→∀n,VRs i (l.take n) (l'.take n)
 |_,_,.nil,n=>by simpa using VRs.nil
 |_,_,.cons a b,n=>by
  cases n with
  |zero=>exact .nil
  |succ n=>exact .cons a (b.take n)
theorem VRs.drop{i:Io}:∀ {l l':List Value},VRs i l l'→∀n,VRs i (l.drop n) (l'.drop n)
 |_,_,.nil,n=>by simpa using VRs.nil
 |_,_,.cons a b,n=>by
  cases n with
  |zero=>exact .cons a b
  |succ n=>exact b.drop n
theorem VRs.of_get{i:Io}:∀ {l l':List Value},l.length=l'.length→(∀(k:Nat) (v:Value),l[k]? =some v→∃v':Value,l'[k]? =some v'∧VR i v v')→VRs i l l'
 |[],[],_,_=>.nil
 |[],_::_,h,_=>by simp at h
 |_::_,[],h,_=>by simp at h
 |v::l,v'::l',h,hg=>by
  obtain⟨u,hu,hr⟩:=hg 0 v rfl;simp at hu;subst hu;exact .cons hr (VRs.of_get (by simpa using h) (fun k x hk=>by simpa using hg (k+1) x (by simpa using hk)))
theorem VR.cells{i:Io}:∀ {v v':Value},VR i v v'→VRs i v.cells.toList v'.cells.toList
 |_,_,.agg h=>h
 |_,_,.bool b=>.cons (.bool b) .nil
 |_,_,.int k n=>.cons (.int k n) .nil
 |_,_,.float k n=>.cons (.float k n) .nil
 |_,_,.string s=>.cons (.string s) .nil
 |_,_,.nilp=>.cons .nilp .nil
 |_,_,.ptr h=>.cons (.ptr h) .nil
 |_,_,.nils h=>.cons (.nils h) .nil
 |_,_,.slice h a b c d e=>.cons (.slice h a b c d e) .nil
 |_,_,.nilm=>.cons .nilm .nil
 |_,_,.map h=>.cons (.map h) .nil
 |_,_,.nilFunc=>.cons .nilFunc .nil
 |_,_,.nilIface=>.cons .nilIface .nil
 |_,_,.func f h h'=>.cons (.func f h h') .nil
 |_,_,.iface t h=>.cons (.iface t h) .nil
 |_,_,.tuple h=>.cons (.tuple h) .nil
theorem VR.oneC{i:Io}:∀ {v v':Value},VR i v v'→oneC v'=oneC v:=by
 intro v v' h;cases h<;>rfl
theorem VRs.ones{i:Io}:∀ {l l':List Value},VRs i l l'→ones l'=ones l
 |_,_,.nil=>rfl
 |_,_,.cons h h'=>by simp only[Go.Ax.ones,h.oneC,h'.ones]
def KD :Value→Value→Prop
 |.int k x,.int l y=>k=l∧x≠y
 |.string x,.string y=>x≠y
 |.bool x,.bool y=>x≠y
 |_,_=>False
inductive MR(i:Io):List (Value×Value)→List MapEntry→Prop
 |nil:MR i [] []
 |cons {k v:Value} {e:MapEntry} {l:List (Value×Value)} {m:List MapEntry} (h:e.key=k) (h1:VR i v e.val) (h':MR i l m):MR i ((k,v)::l) (e::m)
def Bn(m:List MapEntry)(clk:Nat):Prop:=(∀x∈m,x.born<clk)∧(m.map (·.born)).Nodup
theorem Bn.nil(clk:Nat):Bn [] clk:=⟨fun _ h=>(by cases h),Xx.nil⟩
def OR(i:Io):Gg→Option Obj→Nat→Prop
 |.cells c n z,o,t=>∃cs e fr,o=some (.cells cs e fr)∧t+n≤cs.size∧(fr.1=fr.2∨(z%2=1∧cs.size≤fr.1))∧(∀k v,k<n→c.get k=some v→∃v',cs[t+k]? =some v'∧VR i v v')∧(ze z≠0→e+1=ze z∧(zs z=0→t=0))
 |.ro c n,o,t=>∃cs e fr,o=some (.cells cs e fr)∧t+n≤cs.size∧∀k v,k<n→c.get k=some v→∃v',cs[t+k]? =some v'∧VR i v v'
 |.map es,o,t=>t=0∧∃es' clk l,o=some (.map es' clk)∧l.Perm es'.toList∧MR i es l∧es.Pairwise (fun a b=>KD a.1 b.1)∧Bn es'.toList clk
 |.iter s p,o,t=>t=0∧o=some (.stringIter s p)
 |.dead,_,_=>True
 |.far,_,_=>True
theorem MR.mono{i j:Io}(hle:Le i j):∀ {l:List (Value×Value)} {m:List MapEntry},MR i l m→MR j l m
 |_,_,.nil=>.nil
 |_,_,.cons h h1 h'=>.cons h (h1.mono hle) (h'.mono hle)
theorem OR.mono{i j:Io}(hle:Le i j){o:Gg}{x:Option Obj}{t:Nat}(h:OR i o x t):OR j o x t:=by
 cases o with
 |cells c n z=>
  obtain⟨cs,e,fr,h1,h2,h3,h4,h5⟩:=h;exact⟨cs,e,fr,h1,h2,h3,fun k v hk hv=>let ⟨v',a,b⟩:=h4 k v hk hv;⟨v',a,b.mono hle⟩,h5⟩
 |ro c n=>
  obtain⟨cs,e,fr,h1,h2,h4⟩:=h;exact⟨cs,e,fr,h1,h2,fun k v hk hv=>let ⟨v',a,b⟩:=h4 k v hk hv;⟨v',a,b.mono hle⟩⟩
 |map es=>
  obtain⟨h0,es',clk,l,h1,h2,h3,h4⟩:=h;exact⟨h0,es',clk,l,h1,h2,h3.mono hle,h4⟩
 |iter s p=>exact h
 |dead=>trivial
 |far=>trivial
def alive :Gg→Bool
 |.dead|.far=>false
 |_=>true
def fixed :Gg→Bool
 |.ro _ _|.far=>true
 |_=>false
noncomputable def obA(s:AS)(b:Nat):Gg:=(s.h.get b).getD .far
theorem C4{s:AS}{b:Nat}{o:Gg}(h:s.h.get b=some o):obA s b=o:=by simp[obA,h]
structure Rel(i:Io)(s:AS)(w:World):Prop where
 obj:∀b o,s.h.get b=some o→alive o=true→∃q t,i b=some (q,t)∧OR i o w.heap[q]? t
 inj:∀b b' o o' q t t',s.h.get b=some o→s.h.get b'=some o'→alive o=true→alive o'=true→i b=some (q,t)→i b'=some (q,t')→b=b'
 fresh:∀b,s.nx≤b→i b=none∧s.h.get b=none
 lim:∀b c n z q t,s.h.get b=some (.cells c n z)→i b=some (q,t)→(i.lim b).1=zs z∧∀cs e fr,w.heap[q]? =some (.cells cs e fr)→(i.lim b).2≤cs.size
 dom:∀b q t,i b=some (q,t)→s.h.get b≠none∨1000≤b→q<w.heap.size
theorem fq{s s':AS}{b:Nat}(h:s'.h.get b=s.h.get b):obA s' b=obA s b:=by unfold obA;rw[h]
structure Fr(i:Io)(s:AS)(w:World)(i':Io)(s':AS)(w':World):Prop where
 le:Le i i'
 new:∀b q t,i' b=some (q,t)→i b=some (q,t)∨w.heap.size≤q∨∃b0 t0,i b0=some (q,t0)∧fixed (obA s b0)=false
 os:w'.os=w.os
 tape:w'.tape=w.tape
 output:w'.output=w.output
 size:w.heap.size≤w'.heap.size
 keep:∀q,q<w.heap.size→(∀b t,i b=some (q,t)→fixed (obA s b)=true)→w'.heap[q]? =w.heap[q]?
 ro:∀b x,i b=some x→fixed (obA s b)=true→s'.h.get b=s.h.get b
 nx:s.nx≤s'.nx
 dom:∀b,b<s.nx→i b=none→i' b=none
 gone:∀b,b<s.nx→i b=none→s.h.get b=none→s'.h.get b=none
 stay:∀b,s.h.get b≠none→s'.h.get b≠none
theorem Fr.refl(i:Io)(s:AS)(w:World):Fr i s w i s w:=
 ⟨.refl i,fun _ _ _ h=>.inl h,rfl,rfl,rfl,Ze _,fun _ _ _=>rfl,fun _ _ _ _=>rfl,Ze _,fun _ _ h=>h,fun _ _ _ h=>h,fun _ h=>h⟩
theorem Fr.trans{i j k:Io}{s s1 s2:AS}{w w1 w2:World}(h:Fr i s w j s1 w1)(h':Fr j s1 w1 k s2 w2):Fr i s w k s2 w2 where
 le:=h.le.trans h'.le
 new:=by
  intro b q t e;rcases h'.new b q t e with e1|e1|⟨b0,t0,e1,e2⟩
  ·exact h.new b q t e1
  ·exact .inr (.inl (Ye h.size e1))
  ·rcases h.new b0 q t0 e1 with f1|f1|f1
   ·refine .inr (.inr ⟨b0,t0,f1,?_⟩);cases hf:fixed (obA s b0)with
    |false=>rfl
    |true=>rw[fq (h.ro b0 _ f1 hf),hf]at e2;cases e2
   ·exact .inr (.inl f1)
   ·exact .inr (.inr f1)
 os:=h'.os.trans h.os
 tape:=h'.tape.trans h.tape
 output:=h'.output.trans h.output
 size:=Ye h.size h'.size
 keep:=by
  intro q hq hn;rw[h'.keep q (Yu hq h.size) ?_,h.keep q hq hn];intro b t e;rcases h.new b q t e with f|f|⟨b0,t0,f1,f2⟩
  ·have hf:=hn b t f;rw[fq (h.ro b _ f hf)];exact hf
  ·omega
  ·rw[hn b0 t0 f1]at f2;cases f2
 ro:=fun b x e hf=>by
  have h1:=h.ro b x e hf;rw[h'.ro b x (h.le _ _ e) (by rw[fq h1];exact hf),h1]
 nx:=Ye h.nx h'.nx
 dom:=fun b hb e=>h'.dom b (Yu hb h.nx) (h.dom b hb e)
 gone:=fun b hb e g=>h'.gone b (Yu hb h.nx) (h.dom b hb e) (h.gone b hb e g)
 stay:=fun b g=>h'.stay b (h.stay b g)
def Gl(i:Io):Prop:=∀g,g<1000→i g=some (g,0)
theorem Gl.mono{i j:Io}(h:Gl i)(hle:Le i j):Gl j:=fun g hg=>hle _ _ (h g hg)
end Go.Ax
namespace Go.Ax
open Go
def Hh(w:World)(q:Nat)(o:Obj):World:= {w with heap:=w.heap.setIfInBounds q o}
def Hn(w:World)(o:Obj):World:= {w with heap:=w.heap.push o}
theorem Dm{w:World}{q:Nat}{o x:Obj}(h:w.heap[q]? =some x):(Hh w q o).heap[q]? =some o:=by
 have:q<w.heap.size:=by
  rcases Zt q w.heap.size with h'|h'
  ·exact h'
  ·rw[Uz h']at h;cases h
 simp[Hh,Xy,this]
theorem fv{w:World}{q k:Nat}{o:Obj}(h:k≠q):(Hh w q o).heap[k]? =w.heap[k]? :=by
 simp[Hh,Xy,Ne.symm h]
theorem fw(w:World)(q:Nat)(o:Obj):(Hh w q o).heap.size=w.heap.size:=by simp[Hh]
theorem pr(w:World)(o:Obj):(Hn w o).heap[w.heap.size]? =some o:=by
 show(w.heap.push o)[w.heap.size]? =_;simp
theorem F5{w:World}{k:Nat}{o:Obj}(h:k<w.heap.size):(Hn w o).heap[k]? =w.heap[k]? :=by
 show(w.heap.push o)[k]? =_;rw[Array.getElem?_push,if_neg (by omega)]
theorem Iv(w:World)(o:Obj):(Hn w o).heap.size=w.heap.size+1:=by
 show(w.heap.push o).size=_;simp
theorem lt_of_some{w:World}{k:Nat}{o:Obj}(h:w.heap[k]? =some o):k<w.heap.size:=by
 rcases Zt k w.heap.size with h'|h'
 ·exact h'
 ·rw[Uz h']at h;cases h
theorem HY :∀ {l:List Value},ones l=true→∀v∈l,v.oneCell'=true
 |[],_,v,hv=>by cases hv
 |a::l,h,v,hv=>by
  simp only[ones,Zi]at h;cases hv with
  |head=>cases a<;>first|rfl|simp[oneC]at h
  |tail _ hv=>exact HY h.2 v hv
theorem Bu(q p n:Nat):(⟨q,p,none⟩:Addr).add n=⟨q,p+n,none⟩:=by
 unfold Addr.add;split
 ·rename_i h;subst h;rfl
 ·rfl
theorem cell_of{w:World}{q k:Nat}{cs:Array Value}{e:TypeId}{fr:Nat×Nat}(h:w.heap[q]? =some (.cells cs e fr)):w.cell? ⟨q,k,none⟩=cs[k]? :=by
 simp[World.cell?,h]
theorem AH{w:World}{q k:Nat}{cs:Array Value}{e:TypeId}{fr:Nat×Nat}(h:w.heap[q]? =some (.cells cs e fr))(hk:k<cs.size)(hf:fr.2≤fr.1∨cs.size≤fr.1):w.frozen? ⟨q,k,none⟩=false:=by
 obtain⟨lo,hi⟩:=fr;simp only[World.frozen?,h];simp only at hf;simp only[Xz,decide_eq_false_iff_not];omega
theorem setCell_eq{w:World}{q k:Nat}{cs:Array Value}{e:TypeId}{fr:Nat×Nat}{v:Value}(h:w.heap[q]? =some (.cells cs e fr)):w.setCell ⟨q,k,none⟩ v=Hh w q (.cells (cs.setIfInBounds k v) e fr):=by
 have hq:=lt_of_some h;unfold World.setCell Hh;congr 1;apply Zmx
 ·simp
 ·intro j h1 h2;rw[Zm1,Zmy];by_cases hj:q=j
  ·subst hj;have:w.heap[q]=.cells cs e fr:=by simpa[Y5 hq]using h
   rw[if_pos rfl,if_pos rfl,this];rfl
  ·rw[if_neg hj,if_neg hj]
theorem AM{w:World}{q:Nat}{a b:Obj}:Hh (Hh w q a) q b=Hh w q b:=by
 simp[Hh]
theorem HX{P:Program}(q p:Nat):∀(vs:List Value) (i:Nat) (w:World) (cs:Array Value) (e:TypeId) (fr:Nat×Nat),w.heap[q]? =some (.cells cs e fr)→p+i+vs.length≤cs.size→
  (fr.2≤fr.1∨cs.size≤fr.1)→ones vs=true→
  ∃cs':Array Value,(storeCells ⟨q,p,none⟩ vs i).run P w=.ok () (Hh w q (.cells cs' e fr))∧cs'.size=cs.size∧∀k:Nat,cs'[k]? =if p+i≤k∧k<p+i+vs.length then vs[k-(p+i)]? else cs[k]? :=by
 intro vs
 induction vs with
 |nil=>
  intro i w cs e fr h _ _ _;refine⟨cs,?_,rfl,fun k=>by simp;omega⟩;have:Hh w q (.cells cs e fr)=w:=by
   have hq:=lt_of_some h;unfold Hh;congr 1;apply Zmx
   ·simp
   ·intro j h1 h2;rw[Zmy];by_cases hj:q=j
    ·subst hj;rw[if_pos rfl];simpa[Y5 hq]using h.symm
    ·rw[if_neg hj]
  rw[this];rfl
 |cons v vs ih=>
  intro i w cs e fr h hl hf ho;simp only[Zf]at hl;have ho':ones vs=true:=by simp only[ones,Zi]at ho;exact ho.2
  have hv:v.oneCell'=true:=HY ho v (by simp);have hc:w.cell? ⟨q,p+i,none⟩=some cs[p+i]:=by rw[cell_of h,Y5 (by omega)]
  have hfz:=AH (k:=p+i) h (by omega) hf;have h1:(Hh w q (.cells (cs.setIfInBounds (p+i) v) e fr)).heap[q]? =some (.cells (cs.setIfInBounds (p+i) v) e fr):=Dm h;obtain⟨cs',hrun,hsz,hget⟩:=ih (i+1) _ (cs.setIfInBounds (p+i) v) e fr h1 (by simp;omega) (by simpa using hf) ho';refine⟨cs',?_,by simpa using hsz,fun k=>?_⟩
  ·rw[storeCells,Bu];simp only[Sem.run_bind,run_store _ _ _ _ _ hv,hc,hfz,Vp,if_false,Result.andThen_ok];rw[setCell_eq h,hrun,AM]
  ·rw[hget];simp only[Zf];by_cases hk:k=p+i
   ·subst hk;rw[if_neg (by omega),if_pos (by omega)];simp[Xy];omega
   ·by_cases hk2:p+(i+1)≤k∧k<p+(i+1)+vs.length
    ·rw[if_pos hk2,if_pos (by omega),show k-(p+i)=(k-(p+(i+1)))+1 by omega];simp
    ·rw[if_neg hk2,if_neg (by omega)];simp[Ne.symm hk]
section
variable {i:Io}{s:AS}{w:World}
theorem Rel.at{P:Program}(h:Rel i s w){b q t:Nat}{o:Gg}(ho:s.h.get b=some o)(ha:alive o=true)(hi:i b=some (q,t)):OR i o w.heap[q]? t:=by
 obtain⟨q',t',e,hor⟩:=h.obj b o ho ha;rw[hi]at e;cases e;exact hor
theorem Rel.rd{b o q t:Nat}{v:Value}(h:Rel i s w)(hr:rd s b o=some v)(hi:i b=some (q,t)):∃v',w.cell? ⟨q,t+o,none⟩=some v'∧VR i v v':=by
 unfold Go.Ax.rd at hr;split at hr
 ·rename_i c m z he;obtain⟨cs,e,fr,h1,h2,h3,h4,h5⟩:=h.at (P:=default) he rfl hi;cases hb:Zh o m with
  |false=>rw[hb]at hr;cases hr
  |true=>
   rw[hb]at hr;obtain⟨v',a,b⟩:=h4 o v (by simpa[Yj]using hb) hr;exact⟨v',by rw[cell_of h1];exact a,b⟩
 ·rename_i c m he;obtain⟨cs,e,fr,h1,h2,h4⟩:=h.at (P:=default) he rfl hi;cases hb:Zh o m with
  |false=>rw[hb]at hr;cases hr
  |true=>
   rw[hb]at hr;obtain⟨v',a,b⟩:=h4 o v (by simpa[Yj]using hb) hr;exact⟨v',by rw[cell_of h1];exact a,b⟩
 ·cases hr
theorem Rel.rdN{P:Program}{b o n q t:Nat}{l:List Value}(h:Rel i s w)(hr:rdN s b o n=some l)(hi:i b=some (q,t)):
  ∃l':List Value,(loadCells ⟨q,t+o,none⟩ n).run P w=.ok l'.toArray w∧VRs i l l'∧l.length=n:=by
 have key:∀(c:T Value) (m:Nat),(∃cs e fr,w.heap[q]? =some (.cells cs e fr)∧t+m≤cs.size∧∀k v,k<m→c.get k=some v→∃v':Value,cs[t+k]? =some v'∧VR i v v')→
   (bif Zb (o+n) m then c.list n o else none)=some l→∃l':List Value,(loadCells ⟨q,t+o,none⟩ n).run P w=.ok l'.toArray w∧VRs i l l'∧l.length=n:=by
  intro c m ⟨cs,e,fr,h1,h2,h4⟩ hr;cases hb:Zb (o+n) m with
  |false=>rw[hb]at hr;cases hr
  |true=>
   rw[hb]at hr;have hle:o+n≤m:=by simpa using hb
   obtain⟨hl1,hl2⟩:=T.list_some c n o l hr
   let l':List Value:=(List.range n).map fun k=>cs.getD (t+o+k) undef
   have hcs:∀k,k<n→cs[t+o+k]? =l'[k]? :=by
    intro k hk;simp only[l',Zy,J9 hk,Xc];rw[Array.getD_eq_getD_getElem?];have:t+o+k<cs.size:=by omega
    simp[Y5 this]
   refine⟨l',?_,?_,hl1⟩
   ·have:=run_loadCells_list (P:=P) (w:=w) ⟨q,t+o,none⟩ l' (fun j v hj=>by
     have hjn:j<n:=by
      have:=(Yc.1 hj).1;simpa[l']using this
     rw[Bu,cell_of h1,hcs j hjn,hj])
    simpa[l']using this
   ·refine VRs.of_get (by simp[l',hl1]) (fun k v hk=>?_);have hkn:k<n:=by
     have:=(Yc.1 hk).1;omega
    have:=hl2 k hkn;rw[hk]at this;obtain⟨v',a,b⟩:=h4 (o+k) v (by omega) this;refine⟨v',?_,b⟩;rw[←hcs k hkn,Ya];exact a
 unfold Go.Ax.rdN at hr;split at hr
 ·rename_i c m z he;obtain⟨cs,e,fr,h1,h2,h3,h4,h5⟩:=h.at (P:=default) he rfl hi;exact key c m ⟨cs,e,fr,h1,h2,h4⟩ hr
 ·rename_i c m he;obtain⟨cs,e,fr,h1,h2,h4⟩:=h.at (P:=default) he rfl hi;exact key c m ⟨cs,e,fr,h1,h2,h4⟩ hr
 ·cases hr
end
end Go.Ax
namespace Go.Ax
open Go
def ext(i:Io)(n:Nat)(x:Nat×Nat)(lm:Nat×Nat:=(0,0)):Io:=⟨fun b=>if b=n then some x else i b,fun b=>if b=n then lm else i.lim b⟩
theorem G8(i:Io)(n:Nat)(x:Nat×Nat){lm:Nat×Nat}:ext i n x lm n=some x:=if_pos rfl
theorem G6{i:Io}{n b:Nat}{x lm:Nat×Nat}(h:b≠n):ext i n x lm b=i b:=if_neg h
theorem B7(i:Io)(n:Nat)(x:Nat×Nat){lm:Nat×Nat}:(ext i n x lm).lim n=lm:=if_pos rfl
theorem Iw{i:Io}{n b:Nat}{x lm:Nat×Nat}(h:b≠n):(ext i n x lm).lim b=i.lim b:=if_neg h
theorem Nb{i:Io}{n:Nat}{x lm:Nat×Nat}(h:i n=none):Le i (ext i n x lm):=
 ⟨fun b y e=>by rw[G6 (fun hb=>by subst hb;rw[h]at e;cases e)];exact e,fun b y e=>by rw[Iw (fun hb=>by subst hb;rw[h]at e;cases e)]⟩
section
variable {i:Io}{s:AS}{w:World}
theorem Rel.same{w':World}(h:Rel i s w)(e:w'.heap=w.heap):Rel i s w':=
 ⟨fun b o hb ha=>by rw[e];exact h.obj b o hb ha,h.inj,h.fresh,by rw[e];exact h.lim,by rw[e];exact h.dom⟩
theorem Fr.same{w':World}(e:w'.heap=w.heap)(h1:w'.os=w.os)(h2:w'.tape=w.tape)(h3:w'.output=w.output):Fr i s w i s w':=
 ⟨.refl i,fun _ _ _ h=>.inl h,h1,h2,h3,by rw[e];exact Ze _,fun q _ _=>by rw[e],fun _ _ _ _=>rfl,Ze _,fun _ _ h=>h,fun _ _ _ h=>h,fun _ h=>h⟩
theorem Rel.upd{w':World}{b q t:Nat}{o o':Gg}(h:Rel i s w)(hb:s.h.get b=some o)(ha:alive o=true)(hro:fixed o=false)(hi:i b=some (q,t))
  (hk:∀k,k≠q→w'.heap[k]? =w.heap[k]?) (hsz:w'.heap.size=w.heap.size) (h1:w'.os=w.os) (h2:w'.tape=w.tape) (h3:w'.output=w.output)
  (hor:alive o'=true→OR i o' w'.heap[q]? t)
  (hlim:∀c n z,o'=.cells c n z→(i.lim b).1=zs z∧∀cs e fr,w'.heap[q]? =some (.cells cs e fr)→(i.lim b).2≤cs.size:=by intro _ _ _ h;cases h):Rel i (s.upd b o') w'∧Fr i s w i (s.upd b o') w':=by
 have get:∀k,(s.upd b o').h.get k=if k=b then some o' else s.h.get k:=fun k=>T.get_set _ _ _ _
 refine⟨⟨?_,?_,?_,?_,?_⟩,⟨.refl i,fun _ _ _ e=>.inl e,h1,h2,h3,Xo hsz.symm,?_,?_,Ze _,fun _ _ h=>h,?_,fun k g=>by rw[get];split<;>first|(simp;done)|exact g⟩⟩
 ·intro k x hx hax;rw[get]at hx;by_cases hkb:k=b
  ·subst hkb;rw[if_pos rfl]at hx;cases hx;exact⟨q,t,hi,hor hax⟩
  ·rw[if_neg hkb]at hx;obtain⟨q',t',e,hr⟩:=h.obj k x hx hax;refine⟨q',t',e,?_⟩;have hq:q'≠q:=fun he=>hkb (h.inj k b x o q t' t hx hb hax ha (by rw[e,he]) hi);rw[hk q' hq];exact hr
 ·intro k k' x x' q1 t1 t2 hx hx' hax hax' e e';rw[get]at hx hx';by_cases hkb:k=b<;>by_cases hkb':k'=b
  ·rw[hkb,hkb']
  ·rw[if_neg hkb']at hx';rw[hkb]at e ⊢;exact h.inj b k' o x' q1 t1 t2 hb hx' ha hax' e e'
  ·rw[if_neg hkb]at hx;rw[hkb']at e' ⊢;exact h.inj k b x o q1 t1 t2 hx hb hax ha e e'
  ·rw[if_neg hkb]at hx;rw[if_neg hkb']at hx';exact h.inj k k' x x' q1 t1 t2 hx hx' hax hax' e e'
 ·intro k hk';have:=h.fresh k hk';refine⟨this.1,?_⟩;rw[get,if_neg (fun e=>by subst e;rw[this.1]at hi;cases hi)];exact this.2
 ·intro k c n z q' t' hx e;rw[get]at hx;by_cases hkb:k=b
  ·subst hkb;rw[if_pos rfl]at hx;cases hx;rw[hi]at e;cases e;exact hlim c n z rfl
  ·rw[if_neg hkb]at hx;obtain⟨g1,g2⟩:=h.lim k c n z q' t' hx e;refine⟨g1,fun cs e' fr hw=>g2 cs e' fr ?_⟩;have hq:q'≠q:=fun he=>hkb (h.inj k b _ o q t' t hx hb rfl ha (by rw[e,he]) hi);rw[←hk q' hq];exact hw
 ·intro k q' t' e hx;rw[get]at hx;rw[hsz];by_cases hkb:k=b
  ·subst hkb;exact h.dom k q' t' e (.inl (by rw[hb];simp))
  ·rw[if_neg hkb]at hx;exact h.dom k q' t' e hx
 ·intro k hk1 hn;refine hk k (fun e=>?_);subst e;have:=hn b t hi;rw[C4 hb,hro]at this;cases this
 ·intro k x e hf;unfold obA at hf;rw[get,if_neg (fun hkb=>by subst hkb;rw[hb]at hf;simp only[Option.getD_some,hro]at hf;cases hf)]
 ·intro k _ e g;rw[get,if_neg (fun hkb=>by subst hkb;rw[hb]at g;cases g)];exact g
theorem Rel.kill{b:Nat}{c:T Value}{n:Nat}{z:Nat}(h:Rel i s w)(hb:s.h.get b=some (.cells c n z)):Rel i (s.upd b .dead) w∧Fr i s w i (s.upd b .dead) w:=by
 obtain⟨q,t,hi,_⟩:=h.obj b _ hb rfl;exact h.upd hb rfl rfl hi (fun _ _=>rfl) rfl rfl rfl rfl (fun h=>by cases h)
theorem Rel.new{o:Gg}{x:Obj}{lm:Nat×Nat}(h:Rel i s w)(hor:OR (ext i s.nx (w.heap.size,0) lm) o (some x) 0)
  (hlim:∀c n z,o=.cells c n z→lm.1=zs z∧∀cs e fr,x=.cells cs e fr→lm.2≤cs.size:=by intro _ _ _ h;cases h):
  Rel (ext i s.nx (w.heap.size,0) lm) (s.new o) (Hn w x)∧Fr i s w (ext i s.nx (w.heap.size,0) lm) (s.new o) (Hn w x):=by
 have hnx:=h.fresh s.nx (Ze _);have hle:Le i (ext i s.nx (w.heap.size,0) lm):=Nb hnx.1;have get:∀k,(s.new o).h.get k=if k=s.nx then some o else s.h.get k:=fun k=>T.get_set _ _ _ _
 have hlt:∀k y q t,s.h.get k=some y→alive y=true→i k=some (q,t)→q<w.heap.size:=by
  intro k y q t hk ha e;obtain⟨q',t',e',hr⟩:=h.obj k y hk ha;rw[e]at e';cases e';cases y with
  |cells c n z=>obtain⟨cs,e,fr,h1,_⟩:=hr;exact lt_of_some h1
  |ro c n=>obtain⟨cs,e,fr,h1,_⟩:=hr;exact lt_of_some h1
  |map es=>obtain⟨_,es',clk,l,h1,_⟩:=hr;exact lt_of_some h1
  |iter a p=>obtain⟨_,h1⟩:=hr;exact lt_of_some h1
  |dead=>cases ha
  |far=>cases ha
 refine⟨⟨?_,?_,?_,?_,?_⟩,⟨hle,?_,rfl,rfl,rfl,by rw[Iv];omega,?_,?_,Ug _,fun k hk e=>by rw[G6 (by omega)];exact e,fun k hk _ e=>by rw[get,if_neg (by omega)];exact e,fun k g=>by rw[get];split<;>first|(simp;done)|exact g⟩⟩
 ·intro k y hk ha;rw[get]at hk;by_cases e:k=s.nx
  ·rw[if_pos e]at hk;cases hk;subst e;exact⟨w.heap.size,0,G8 _ _ _,by rw[pr];exact hor⟩
  ·rw[if_neg e]at hk;obtain⟨q,t,e',hr⟩:=h.obj k y hk ha;refine⟨q,t,by rw[G6 e];exact e',?_⟩;rw[F5 (hlt k y q t hk ha e')];exact hr.mono hle
 ·intro k k' y y' q t t' hk hk' ha ha' e e';rw[get]at hk hk';by_cases f:k=s.nx<;>by_cases f':k'=s.nx
  ·rw[f,f']
  ·rw[if_neg f']at hk';rw[G6 f']at e';rw[f,G8]at e;cases e;exact absurd (hlt k' y' _ _ hk' ha' e') (U3 _)
  ·rw[if_neg f]at hk;rw[G6 f]at e;rw[f',G8]at e';cases e';exact absurd (hlt k y _ _ hk ha e) (U3 _)
  ·rw[if_neg f]at hk;rw[if_neg f']at hk';rw[G6 f]at e;rw[G6 f']at e';exact h.inj k k' y y' q t t' hk hk' ha ha' e e'
 ·intro k hk;have hk':s.nx+1≤k:=hk;have hne:k≠s.nx:=by omega
  rw[G6 hne,get,if_neg hne];exact h.fresh k (by omega)
 ·intro k c n z q t hk e;rw[get]at hk;by_cases f:k=s.nx
  ·rw[if_pos f]at hk;cases hk;rw[f,G8]at e;cases e;rw[f,B7,pr];obtain⟨g1,g2⟩:=hlim c n z rfl;exact⟨g1,fun cs e fr hw=>g2 cs e fr (Option.some.inj hw)⟩
  ·rw[if_neg f]at hk;rw[G6 f]at e;rw[Iw f,F5 (hlt k _ q t hk rfl e)];exact h.lim k c n z q t hk e
 ·intro k q t e hk;rw[get]at hk;rw[Iv];by_cases f:k=s.nx
  ·rw[f,G8]at e;cases e;omega
  ·rw[if_neg f]at hk;rw[G6 f]at e;have:=h.dom k q t e hk;omega
 ·intro k q t e;by_cases f:k=s.nx
  ·rw[f,G8]at e;cases e;exact .inr (.inl (Ze _))
  ·rw[G6 f]at e;exact .inl e
 ·intro q hq _;exact F5 hq
 ·intro k y e _;rw[get,if_neg (fun f=>by rw[f,hnx.1]at e;cases e)]
theorem Rel.grow{w':World}{b q t p:Nat}{c:T Value}{n:Nat}{z:Nat}{o:Gg}{lm:Nat×Nat}(h:Rel i s w)(hb:s.h.get b=some (.cells c n z))(hi:i b=some (q,t))
  (hk:∀k,k≠q→w'.heap[k]? =w.heap[k]?) (hsz:w'.heap.size=w.heap.size) (h1:w'.os=w.os) (h2:w'.tape=w.tape) (h3:w'.output=w.output)
  (hor:OR (ext i s.nx (q,p) lm) o w'.heap[q]? p)
  (hlim:∀c n z,o=.cells c n z→lm.1=zs z∧∀cs e fr,w'.heap[q]? =some (.cells cs e fr)→lm.2≤cs.size):
  Rel (ext i s.nx (q,p) lm) ((s.upd b .dead).new o) w'∧Fr i s w (ext i s.nx (q,p) lm) ((s.upd b .dead).new o) w':=by
 have hnx:=h.fresh s.nx (Ze _);have hle:Le i (ext i s.nx (q,p) lm):=Nb hnx.1;have hbn:b≠s.nx:=fun e=>by rw[e,hnx.2]at hb;cases hb
 have get:∀k,((s.upd b .dead).new o).h.get k=if k=s.nx then some o else if k=b then some .dead else s.h.get k:=fun k=>by
  show((s.h.set b .dead).set s.nx o).get k=_;rw[T.get_set,T.get_set]
 refine⟨⟨?_,?_,?_,?_,?_⟩,⟨hle,?_,h1,h2,h3,Xo hsz.symm,?_,?_,Ug _,fun k hk e=>by rw[G6 (by omega)];exact e,?_,fun k g=>by rw[get];split<;>first|(simp;done)|(split<;>first|(simp;done)|exact g)⟩⟩
 ·intro k y hk' ha;rw[get]at hk';by_cases e:k=s.nx
  ·rw[if_pos e]at hk';cases hk';subst e;exact⟨q,p,G8 _ _ _,hor⟩
  ·rw[if_neg e]at hk';by_cases f:k=b
   ·rw[if_pos f]at hk';cases hk';cases ha
   ·rw[if_neg f]at hk';obtain⟨q',t',e',hr⟩:=h.obj k y hk' ha;have hq:q'≠q:=fun he=>f (h.inj k b y _ q t' t hk' hb ha rfl (by rw[e',he]) hi);refine⟨q',t',by rw[G6 e];exact e',?_⟩;rw[hk q' hq];exact hr.mono hle
 ·intro k k' y y' q1 t1 t2 hx hx' ha ha' e e';rw[get]at hx hx';by_cases f:k=s.nx
  ·by_cases f':k'=s.nx
   ·rw[f,f']
   ·rw[if_neg f']at hx';by_cases g:k'=b
    ·rw[if_pos g]at hx';cases hx';cases ha'
    ·rw[if_neg g]at hx';rw[G6 f']at e';rw[f,G8]at e;cases e;exact absurd (h.inj k' b y' _ q t2 t hx' hb ha' rfl e' hi) g
  ·rw[if_neg f]at hx;by_cases g:k=b
   ·rw[if_pos g]at hx;cases hx;cases ha
   ·rw[if_neg g]at hx;rw[G6 f]at e;by_cases f':k'=s.nx
    ·rw[f',G8]at e';cases e';exact absurd (h.inj k b y _ q t1 t hx hb ha rfl e hi) g
    ·rw[if_neg f']at hx';by_cases g':k'=b
     ·rw[if_pos g']at hx';cases hx';cases ha'
     ·rw[if_neg g']at hx';rw[G6 f']at e';exact h.inj k k' y y' q1 t1 t2 hx hx' ha ha' e e'
 ·intro k hk';have hk2:s.nx+1≤k:=hk';have hne:k≠s.nx:=by omega
  have hf:=h.fresh k (by omega);have hkb:k≠b:=fun e=>by rw[e,hi]at hf;cases hf.1
  rw[G6 hne,get,if_neg hne,if_neg hkb];exact hf
 ·intro k c' n' z' q1 t1 hx e;rw[get]at hx;by_cases f:k=s.nx
  ·rw[if_pos f]at hx;cases hx;rw[f,G8]at e;cases e;rw[f,B7];exact hlim c' n' z' rfl
  ·rw[if_neg f]at hx;by_cases g:k=b
   ·rw[if_pos g]at hx;cases hx
   ·rw[if_neg g]at hx;rw[G6 f]at e;rw[Iw f];have hq:q1≠q:=fun he=>g (h.inj k b _ _ q t1 t hx hb rfl rfl (by rw[e,he]) hi);rw[hk q1 hq];exact h.lim k c' n' z' q1 t1 hx e
 ·intro k q1 t1 e hx;rw[get]at hx;rw[hsz];by_cases f:k=s.nx
  ·rw[f,G8]at e;cases e;exact h.dom b q t hi (.inl (by rw[hb];simp))
  ·rw[if_neg f]at hx;rw[G6 f]at e;by_cases g:k=b
   ·subst g;exact h.dom k q1 t1 e (.inl (by rw[hb];simp))
   ·rw[if_neg g]at hx;exact h.dom k q1 t1 e hx
 ·intro k q1 t1 e;by_cases f:k=s.nx
  ·rw[f,G8]at e;cases e;exact .inr (.inr ⟨b,t,hi,by rw[C4 hb];rfl⟩)
  ·rw[G6 f]at e;exact .inl e
 ·intro k hk' hn;refine hk k (fun e=>?_);subst e;have:=hn b t hi;rw[C4 hb]at this;cases this
 ·intro k x e hf;have hkb:k≠b:=fun f=>by rw[f,C4 hb]at hf;cases hf
  rw[get,if_neg (fun f=>by rw[f,hnx.1]at e;cases e),if_neg hkb]
 ·intro k hk' _ g;have hkb:k≠b:=fun f=>by rw[f,hb]at g;cases g
  rw[get,if_neg (by omega),if_neg hkb];exact g
theorem HV(l:List Value)(k:Nat)(h:k<l.length):((T.e:T Value).fill 0 l).get k=l[k]? :=by
 rw[T.get_fill,if_pos (by omega)];rfl
theorem OR.row{j:Io}{l l':List Value}(hv:VRs j l l')(cs:Array Value)(e:TypeId)(fr:Nat×Nat)(z:Nat)(hze:ze z≠0→e+1=ze z)(hfr:fr.1=fr.2∨(z%2=1∧cs.size≤fr.1))(p:Nat)(hp:p+l.length≤cs.size)
  (hcs:∀k,k<l.length→cs[p+k]? =l'[k]?) (hp0:p=0∨zs z≠0:=by exact .inl rfl):OR j (.cells (T.e.fill 0 l) l.length z) (some (.cells cs e fr)) p:=by
 refine⟨cs,e,fr,rfl,hp,hfr,fun k v hk hg=>?_,fun h=>⟨hze h,fun h0=>hp0.resolve_right (fun h1=>h1 h0)⟩⟩;rw[HV l k hk]at hg;obtain⟨v',a,b⟩:=hv.get hg;exact⟨v',by rw[hcs k hk];exact a,b⟩
theorem Rel.wrN{P:Program}{s':AS}{b o q t:Nat}{l l':List Value}(h:Rel i s w)(hw:wrN s b o l=some s')(hi:i b=some (q,t))(hv:VRs i l l'):
  ∃w',(storeCells ⟨q,t+o,none⟩ l').run P w=.ok () w'∧Rel i s' w'∧Fr i s w i s' w':=by
 unfold Go.Ax.wrN at hw;split at hw
 ·rename_i c m z hb;cases hc:(Zb (o+l.length) m&&ones l)with
  |false=>rw[hc]at hw;cases hw
  |true=>
   rw[hc]at hw;cases hw;simp only[Zi]at hc;have hle:o+l.length≤m:=by simpa using hc.1
   obtain⟨cs,e,fr,h1,h2,h3,h4,h5⟩:=h.at (P:=P) hb rfl hi;have hlen:=hv.length;obtain⟨cs',hrun,hsz,hget⟩:=HX (P:=P) q (t+o) l' 0 w cs e fr h1 (by omega) (h3.imp (fun e=>Xo e.symm) (·.2)) (by rw[hv.ones];exact hc.2);refine⟨_,hrun,?_⟩;refine h.upd hb rfl rfl hi (fun k hk=>fv hk) (fw _ _ _) rfl rfl rfl (fun _=>?_) (fun c' n' z' hz=>?_)
   case refine_2=>
    cases hz;obtain⟨g1,g2⟩:=h.lim b _ _ _ _ _ hb hi;refine⟨g1,fun cs2 e2 fr2 hw=>?_⟩;rw[Dm h1]at hw;cases hw;rw[hsz];exact g2 cs e fr h1
   rw[Dm h1];refine⟨cs',e,fr,rfl,by omega,by rw[hsz];exact h3,fun k v hk hg=>?_,h5⟩;rw[T.get_fill]at hg;rw[hget];by_cases hr:o≤k∧k<o+l.length
   ·rw[if_pos hr]at hg;obtain⟨v',a,b⟩:=hv.get hg;refine⟨v',?_,b⟩;rw[if_pos (by omega),show t+k-(t+o+0)=k-o by omega];exact a
   ·rw[if_neg hr]at hg;rw[if_neg (by omega)];exact h4 k v hk hg
 ·cases hw
end
end Go.Ax
namespace Go.Ax
open Go
structure Gr(E:Env):Prop where
 ty:∀t ti,E.ty.get t=some ti→∃info,E.P.info? t=some info∧E.P.underlying t=some ti.desc∧info.size=ti.size∧info.bytes=ti.bytes∧
  ∃zv,info.zero=some zv∧zv.cells.toList=ti.zero∧(∀i,VR i zv zv)∧(Hw ti.desc=true→zv=.agg ⟨ti.zero⟩)∧(Hw ti.desc=false→ti.zero=[zv])∧ti.zero.length=ti.size
section
variable {E:Env}{i:Io}{s:AS}{w:World}
theorem G0(hT:Gr E){t:TypeId}{ti:TI}(h:E.ty.get t=some ti)(w:World):(underlying t).run E.P w=.ok ti.desc w:=by
 obtain⟨info,h1,h2,_⟩:=hT.ty t ti h;unfold underlying;simp[h2]
theorem z9(hT:Gr E){t:TypeId}{ti:TI}(h:E.ty.get t=some ti)(w:World):∃info,(typeInfo t).run E.P w=.ok info w∧info.size=ti.size∧info.bytes=ti.bytes:=by
 obtain⟨info,h1,h2,h3,h4,_⟩:=hT.ty t ti h;refine⟨info,?_,h3,h4⟩;unfold typeInfo;simp[h1]
theorem Hz(hT:Gr E){t:TypeId}{ti:TI}(h:E.ty.get t=some ti)(w:World):(sizeOf t).run E.P w=.ok ti.size w:=by
 obtain⟨info,h1,h2,h3⟩:=z9 hT h w;unfold Go.sizeOf;simp[h1,h2]
theorem ZZ(hT:Gr E){t:TypeId}{ti:TI}(h:E.ty.get t=some ti)(w:World):(isAgg t).run E.P w=.ok (Hw ti.desc) w:=by
 unfold isAgg;simp only[Sem.run_bind,G0 hT h,Result.andThen_ok];cases ti.desc<;>rfl
theorem Dn(hT:Gr E){t:TypeId}{ti:TI}(h:E.ty.get t=some ti)(w:World):∃zv,(zeroValue t).run E.P w=.ok zv w∧zv.cells.toList=ti.zero∧(∀i,VR i zv zv)∧(Hw ti.desc=true→zv=.agg ⟨ti.zero⟩)∧(Hw ti.desc=false→ti.zero=[zv])∧ti.zero.length=ti.size:=by
 obtain⟨info,h1,h2,h3,h4,zv,h5,h6⟩:=hT.ty t ti h;refine⟨zv,?_,h6⟩;unfold zeroValue typeInfo;simp[h1,h5]
def TR(i:Io)(tm:Tm)(ρ:Operand→Value):Prop:=∀x v,ev tm x=some v→VR i v (ρ x)
theorem TR.evs{tm:Tm}{ρ:Operand→Value}(h:TR i tm ρ):∀ {l:List Operand} {vs:List Value},evs tm l=some vs→VRs i vs (l.map ρ)
 |[],vs,e=>by simp only[Go.Ax.evs,Option.some.injEq]at e;subst e;exact .nil
 |x::l,vs,e=>by
  simp only[Go.Ax.evs]at e;cases h1:ev tm x with
  |none=>rw[h1]at e;cases e
  |some v=>
   rw[h1]at e;cases h2:Go.Ax.evs tm l with
   |none=>rw[h2]at e;cases e
   |some us=>rw[h2]at e;cases e;exact .cons (h x v h1) (h.evs h2)
def Sim(E:Env)(i:Io)(s:AS)(w:World)(m:Sem Value)(v:Value)(s':AS):Prop:=
 ∃v' w' i',m.run E.P w=.ok v' w'∧VR i' v v'∧Rel i' s' w'∧Fr i s w i' s' w'
def px(E:Env)(i:Io)(s:AS)(w:World)(m:Sem Unit)(s':AS):Prop:=
 ∃w' i',m.run E.P w=.ok () w'∧Rel i' s' w'∧Fr i s w i' s' w'
def Bf(E:Env)(i:Io)(s:AS)(w:World)(m:Sem Next)(v:Value)(s':AS):Prop:=
 ∃w' i',Rel i' s' w'∧Fr i s w i' s' w'∧((∃v',m.run E.P w=.ok (.value v') w'∧VR i' v v')∨(m.run E.P w=.ok .skip w'∧v=undef))
theorem Sim.ofPure(h:Rel i s w){m:Sem Value}{v v':Value}(hr:m.run E.P w=.ok v' w)(hv:VR i v v'):Sim E i s w m v s:=
 ⟨v',w,i,hr,hv,h,.refl i s w⟩
theorem Sim.next{m:Sem Value}{v:Value}{s':AS}(h:Sim E i s w m v s'):Bf E i s w (do let v←m;Pure.pure (Next.value v)) v s':=by
 obtain⟨v',w',i',h1,h2,h3,h4⟩:=h;exact⟨w',i',h3,h4,.inl ⟨v',by simp[h1],h2⟩⟩
theorem px.next{m:Sem Unit}{s':AS}(h:px E i s w m s'):Bf E i s w (do m;Pure.pure Next.skip) undef s':=by
 obtain⟨w',i',h1,h3,h4⟩:=h;exact⟨w',i',h3,h4,.inr ⟨by simp[h1],rfl⟩⟩
theorem VR.undef(i:Io):VR i undef undef:=.tuple .nil
theorem Rel.rowz(h:Rel i s w){l l':List Value}(hv:VRs i l l')(z:Nat)(cs:Array Value)(e:TypeId)(hze:ze z≠0→e+1=ze z)(fr:Nat×Nat)(hfr:fr.1=fr.2∨(z%2=1∧cs.size≤fr.1))(hp:l.length≤cs.size)(hcs:∀k,k<l.length→cs[k]? =l'[k]?)(lm:Nat×Nat)(hlm:lm.1=zs z∧lm.2≤cs.size):
  Rel (ext i s.nx (w.heap.size,0) lm) (s.rowz z l) (Hn w (.cells cs e fr))∧Fr i s w (ext i s.nx (w.heap.size,0) lm) (s.rowz z l) (Hn w (.cells cs e fr))∧Le i (ext i s.nx (w.heap.size,0) lm):=by
 have hle:Le i (ext i s.nx (w.heap.size,0) lm):=Nb (h.fresh s.nx (Ze _)).1;obtain⟨h2,h3⟩:=h.new (o:=.cells (T.e.fill 0 l) l.length z) (x:=.cells cs e fr) (OR.row (hv.mono hle) _ _ _ z hze hfr 0 (by simpa using hp) (fun k hk=>by simpa using hcs k hk)) (fun _ _ _ h=>by cases h;exact⟨hlm.1,fun _ _ _ h=>by cases h;exact hlm.2⟩);exact⟨h2,h3,hle⟩
theorem Sim.rowz(h:Rel i s w){l l':List Value}(hv:VRs i l l'){m:Sem Value}(e:TypeId)(z:Nat)(hze:ze z≠0→e+1=ze z)(hzs:zs z=0){w1:World}(hw1:w1.heap=w.heap)(ho:w1.os=w.os)(ht:w1.tape=w.tape)(hp:w1.output=w.output)
  (hr:m.run E.P w=.ok (.pointer (some ⟨w.heap.size,0,none⟩)) (Hn w1 (.cells l'.toArray e (0,0)))):Sim E i s w m (.pointer (some ⟨s.nx,0,none⟩)) (s.rowz z l):=by
 have h1:Rel i s w1:=h.same hw1;have hle:Le i (ext i s.nx (w1.heap.size,0)):=Nb (h.fresh s.nx (Ze _)).1;obtain⟨h2,h3⟩:=h1.new (o:=.cells (T.e.fill 0 l) l.length z) (x:=.cells l'.toArray e (0,0)) (OR.row (hv.mono hle) _ _ _ z hze (.inl rfl) 0 (by simp[hv.length]) (fun k _=>by simp)) (fun _ _ _ h=>by cases h;exact⟨hzs.symm,fun _ _ _ _=>Zj _⟩);refine⟨_,_,_,hr,?_,h2,(Fr.same hw1 ho ht hp).trans h3⟩;have:(⟨w.heap.size,0,none⟩:Addr)=⟨w1.heap.size,0+0,none⟩:=by rw[hw1]
 rw[this];exact .ptr (G8 _ _ _)
theorem AN(x:Operand){tm:Tm}{ρ:Operand→Value}(hR:Rel i s w)(hρ:TR i tm ρ){v:Value}{s':AS}(h:B5 x E tm s=some (v,s')):
  Bf E i s w (Pure.pure (.value (ρ x))) v s':=by
 unfold B5 at h;split at h
 ·rename_i u hu;cases h;exact⟨w,i,hR,.refl _ _ _,.inl ⟨_,rfl,hρ x _ hu⟩⟩
 ·cases h
theorem AB(c a b:Operand){tm:Tm}{ρ:Operand→Value}(hR:Rel i s w)(hρ:TR i tm ρ){v:Value}{s':AS}(h:Cz c a b E tm s=some (v,s')):
  Bf E i s w (do Pure.pure (Next.value (if←asBool (ρ c)then ρ a else ρ b))) v s':=by
 unfold Cz at h;split at h
 ·rename_i t ht;have hc:=hρ c _ ht;generalize hg:ρ c=y at hc;cases hc;split at h
  ·rename_i u hu;cases h;cases t with
   |true=>exact⟨w,i,hR,.refl _ _ _,.inl ⟨ρ a,by simp[asBool],hρ a _ (by simpa using hu)⟩⟩
   |false=>exact⟨w,i,hR,.refl _ _ _,.inl ⟨ρ b,by simp[asBool],hρ b _ (by simpa using hu)⟩⟩
  ·cases h
 ·cases h
theorem AC(hT:Gr E)(t:TypeId){tm:Tm}(hR:Rel i s w){v:Value}{s':AS}(h:Fq t E tm s=some (v,s')):
  Sim E i s w (Instr.alloc t true (.tuple #[])) v s':=by
 unfold Fq at h;split at h
 ·rename_i ti ht;cases h;obtain⟨zv,h1,h2,h3,_⟩:=Dn hT ht w;refine Sim.rowz hR (l':=zv.cells.toList) (by rw[←h2];exact(h3 i).cells) t (tz 0 t) (fun _=>(Nz (by omega)).symm) (Na (by omega)) (w1:=w) rfl rfl rfl rfl ?_;unfold Instr.alloc newVar newRow;simp[h1,Hn]
 ·cases h
theorem AD(t:TypeId)(x:Operand){tm:Tm}{ρ:Operand→Value}(hR:Rel i s w)(hρ:TR i tm ρ){v:Value}{s':AS}(h:Dj t x E tm s=some (v,s')):
  Sim E i s w (Instr.box t (ρ x)) v s':=by
 unfold Dj at h;split at h
 ·rename_i u hu;cases h;refine Sim.rowz hR (l':=(ρ x).cells.toList) (hρ x _ hu).cells t (tz 0 t) (fun _=>(Nz (by omega)).symm) (Na (by omega)) (w1:=w) rfl rfl rfl rfl ?_;unfold Instr.box newVar newRow;simp[Hn]
 ·cases h
theorem AF(hT:Gr E)(t:TypeId)(a:Operand){tm:Tm}{ρ:Operand→Value}(hR:Rel i s w)(hρ:TR i tm ρ){v:Value}{s':AS}(h:Bd t a E tm s=some (v,s')):
  Sim E i s w (Instr.loadAt t (ρ a)) v s':=by
 unfold Bd at h;split at h
 ·rename_i ti p ht hp;have hc:=hρ a _ hp;generalize hg:ρ a=y at hc;cases hc with
  | @ptr b o q t' hi=>
   have hA:=ZZ hT ht w;have hS:=Hz hT ht w;cases hagg:Hw ti.desc with
   |true=>
    rw[hagg]at h hA;simp only[cond_true]at h;split at h
    ·rename_i l hl;cases h;obtain⟨l',h1,h2,_⟩:=hR.rdN (P:=E.P) hl hi;refine Sim.ofPure hR (v':=.agg l'.toArray) ?_ (.agg h2);unfold Instr.loadAt Instr.sureAddr loadVar;simp[hA,hS,h1]
    ·cases h
   |false=>
    rw[hagg]at h hA;simp only[cond_false]at h;split at h
    ·rename_i u hu;cases h;obtain⟨v',h1,h2⟩:=hR.rd hu hi;refine Sim.ofPure hR (v':=v') ?_ h2;unfold Instr.loadAt Instr.sureAddr loadVar;simp[hA,h1]
    ·cases h
 ·cases h
theorem AT(hT:Gr E)(t:TypeId)(a x:Operand){tm:Tm}{ρ:Operand→Value}(hR:Rel i s w)(hρ:TR i tm ρ){v:Value}{s':AS}(h:Ft t a x E tm s=some (v,s')):
  px E i s w (Instr.storeAt t (ρ a) (ρ x)) s'∧v=undef:=by
 unfold Ft at h;split at h
 ·rename_i ti p u ht hp hu;have hc:=hρ a _ hp;generalize hg:ρ a=y at hc;cases hc with
  | @ptr b o q t' hi=>
   have hx:=(hρ x _ hu).cells;have hS:=Hz hT ht w;cases hb:Za u.cells.toList.length ti.size with
   |false=>rw[hb]at h;cases h
   |true=>
    rw[hb]at h;simp only[cond_true]at h;split at h
    ·rename_i s1 hs1;cases h;obtain⟨w',h1,h2,h3⟩:=hR.wrN (P:=E.P) hs1 hi hx;refine⟨⟨w',i,?_,h2,h3⟩,rfl⟩;unfold Instr.storeAt Instr.sureAddr storeVar;have hn:(ρ x).cells.size=ti.size:=by
      have:=hx.length;have hb':u.cells.toList.length=ti.size:=by simpa using hb
      simp only[Y6]at this hb';omega
     simp[hS,hn,h1]
    ·cases h
 ·cases h
theorem AQ(o:Oper)(x:Operand){tm:Tm}{ρ:Operand→Value}(hR:Rel i s w)(hρ:TR i tm ρ){v:Value}{s':AS}(ho:o.op=.nilCheck x)(h:R9 x E tm s=some (v,s')):
  Bf E i s w (execOp ρ o) v s':=by
 unfold R9 at h;split at h
 ·rename_i p hp;cases h;have hc:=hρ x _ hp;generalize hg:ρ x=y at hc;refine⟨w,i,hR,.refl _ _ _,.inl ⟨y,?_,hc⟩⟩;cases hc;unfold execOp;simp[ho,hg]
 ·rename_i f a b hp;cases h;have hc:=hρ x _ hp;generalize hg:ρ x=y at hc;refine⟨w,i,hR,.refl _ _ _,.inl ⟨y,?_,hc⟩⟩;cases hc;unfold execOp;simp[ho,hg]
 ·cases h
theorem AW(hT:Gr E)(t:TypeId)(x:Operand){tm:Tm}{ρ:Operand→Value}(hR:Rel i s w)(hρ:TR i tm ρ){v:Value}{s':AS}(h:Fu t x E tm s=some (v,s')):
  Sim E i s w (Instr.makeInterface t (ρ x)) v s':=by
 unfold Fu at h;split at h
 ·rename_i ti u ht hu;split at h
  ·cases h
  ·rename_i hd;cases h;refine Sim.ofPure hR (v':=.iface t (ρ x)) ?_ (.iface t (hρ x _ hu));unfold Instr.makeInterface;simp only[Sem.run_bind,G0 hT ht,Result.andThen_ok];cases hdd:ti.desc<;>first|rfl|exact absurd hdd (hd _)
 ·cases h
theorem AL(f:Fn)(a b:Array Operand){tm:Tm}{ρ:Operand→Value}(hR:Rel i s w)(hρ:TR i tm ρ){v:Value}{s':AS}(h:Fv f a b E tm s=some (v,s')):
  Sim E i s w (Instr.makeFunc f (a.map ρ) (b.map ρ)) v s':=by
 unfold Fv at h;split at h
 ·rename_i l r hl hr;cases h;refine Sim.ofPure hR (v':=.func f (a.map ρ) (b.map ρ)) rfl ?_;have e1:a.map ρ=⟨a.toList.map ρ⟩:=by simp[←U4]
  have e2:b.map ρ=⟨b.toList.map ρ⟩:=by simp[←U4]
  rw[e1,e2];exact .func f (hρ.evs hl) (hρ.evs hr)
 ·cases h
theorem AP(x:Operand)(k:Nat){tm:Tm}{ρ:Operand→Value}(hR:Rel i s w)(hρ:TR i tm ρ){v:Value}{s':AS}(h:Fy x k E tm s=some (v,s')):
  Sim E i s w (Instr.extract (ρ x) k) v s':=by
 unfold Fy at h;split at h
 ·rename_i vs hvs;have hc:=hρ x _ hvs;generalize hg:ρ x=y at hc;cases hc with
  |tuple hh=>
   split at h
   ·rename_i u hu;cases h;obtain⟨v',h1,h2⟩:=hh.get hu;refine Sim.ofPure hR (v':=v') ?_ h2;unfold Instr.extract;simp[h1]
   ·cases h
 ·cases h
end
end Go.Ax
namespace Go.Ax
open Go
theorem natK_eq{α:Type}(n:Nat)(k:Nat→α):Hf n k=k n:=by cases n<;>rfl
theorem fz{α:Type}(n:Int)(k:Int→α):Dh n k=k n:=by
 cases n<;>simp only[Dh,natK_eq]
section
variable {E:Env}{i:Io}{s:AS}{w:World}
theorem PZ(hT:Gr E)(t:TypeId)(x:Operand)(f:Nat){tm:Tm}{ρ:Operand→Value}(hR:Rel i s w)(hρ:TR i tm ρ){v:Value}{s':AS}(h:Fw t x f E tm s=some (v,s')):
  Sim E i s w (Instr.fieldAt t (ρ x) f) v s':=by
 unfold Fw at h;split at h
 ·rename_i ti p ht hp;have hc:=hρ x _ hp;generalize hg:ρ x=y at hc;cases hc with
  | @ptr b o q t' hi=>
   split at h
   ·rename_i fs hfs;split at h
    ·rename_i fd hfd;split at h
     ·rename_i tj hj;cases hz:Za tj.size 0 with
      |true=>rw[hz]at h;cases h
      |false=>
       rw[hz]at h;simp only[cond_false,natK_eq]at h;cases h;refine Sim.ofPure hR (v':=.pointer (some ⟨q,t'+(o+fd.offset),none⟩)) ?_ (.ptr hi);unfold Instr.fieldAt Instr.sureAddr fieldPlace;have hne:¬tj.size=0:=fun e=>by rw[e]at hz;cases hz
       have hfd':fs[f]? =some fd:=by rw[←Yx];exact hfd
       simp[G0 hT ht,Hz hT hj,hfs,hfd',hne,Bu,Ya]
     ·cases h
    ·cases h
   ·cases h
 ·cases h
theorem ZY(hT:Gr E){t:TypeId}{l l':List Value}{off:Nat}(hv:VRs i l l'){v:Value}(h:fg E t l off=some v):∃v',(part t l'.toArray off).run E.P w=.ok v' w∧VR i v v':=by
 unfold fg at h;split at h
 ·cases h
 ·rename_i ti ht;have hA:=ZZ hT ht w;have hS:=Hz hT ht w;cases hagg:Hw ti.desc with
  |true=>
   rw[hagg]at h hA;simp only[cond_true]at h;cases hb:Zb (off+ti.size) l.length with
   |false=>rw[hb]at h;cases h
   |true=>
    rw[hb]at h;cases h;refine⟨.agg ⟨(l'.drop off).take ti.size⟩,?_,.agg ((hv.drop off).take ti.size)⟩;unfold part;simp only[Sem.run_bind,hA,hS,Result.andThen_ok,if_true,Sem.run_pure];congr 2;apply Yt;simp[List.take_drop]
  |false=>
   rw[hagg]at h hA;simp only[cond_false]at h;obtain⟨v',h1,h2⟩:=hv.get h;refine⟨v',?_,h2⟩;unfold part;simp[hA,h1]
theorem PY(hT:Gr E)(t:TypeId)(x:Operand)(f:Nat){tm:Tm}{ρ:Operand→Value}(hR:Rel i s w)(hρ:TR i tm ρ){v:Value}{s':AS}(h:Is t x f E tm s=some (v,s')):
  Sim E i s w (Instr.field t (ρ x) f) v s':=by
 unfold Is at h;split at h
 ·rename_i ti cs ht hp;have hc:=hρ x _ hp;generalize hg:ρ x=y at hc;cases hc with
  |agg hh=>
   split at h
   ·rename_i fs hfs;split at h
    ·rename_i fd hfd;split at h
     ·rename_i u hu;cases h;obtain⟨v',h1,h2⟩:=ZY (w:=w) hT hh hu;refine Sim.ofPure hR (v':=v') ?_ h2;unfold Instr.field;have hfd':fs[f]? =some fd:=by rw[←Yx];exact hfd
      simp[G0 hT ht,hfs,hfd',asAgg,h1]
     ·cases h
    ·cases h
   ·cases h
 ·cases h
theorem ZX{n:Int}{m:Nat}(h:inR n m=true):0≤n∧n<(m:Int)∧n.toNat<m:=by
 cases n with
 |ofNat a=>
  have:a<m:=by simpa[inR,Yj]using h
  refine⟨Yk _,?_,this⟩;show(a:Int)<m;omega
 |negSucc a=>cases h
theorem PX(hT:Gr E)(t:TypeId)(x y:Operand){tm:Tm}{ρ:Operand→Value}(hR:Rel i s w)(hρ:TR i tm ρ){v:Value}{s':AS}(h:C0 t x y E tm s=some (v,s')):
  Sim E i s w (Instr.indexAt t (ρ x) (ρ y)) v s':=by
 unfold C0 at h;split at h
 ·rename_i ti u k n ht hu hn;have hcn:=hρ y _ hn;generalize hgn:ρ y=yn at hcn;cases hcn;have hc:=hρ x _ hu;generalize hg:ρ x=y at hc;have hd:=G0 hT ht w;split at h
  ·rename_i e a m c hdesc;cases hc with
   | @slice b o q t' _ _ p c' hi h1 h2 h3 h4=>
    split at h
    ·rename_i tj hj;cases hin:inR n m with
     |false=>rw[hin]at h;cases h
     |true=>
      rw[hin]at h;simp only[cond_true,natK_eq]at h;cases h;obtain⟨g1,g2,g3⟩:=ZX hin;have hp:p=t'+o:=h4.resolve_right (by omega);refine Sim.ofPure hR (v':=.pointer (some ⟨q,t'+(o+n.toNat* tj.size),none⟩)) ?_ (.ptr hi);unfold Instr.indexAt;simp[asIntOf,hd,hdesc,g1,g2,Hz hT hj,Bu,hp,Ya]
    ·cases h
  ·rename_i m e a hdesc;cases hc with
   | @ptr b o q t' hi=>
    split at h
    ·rename_i tj hj;cases hin:inR n m with
     |false=>rw[hin]at h;cases h
     |true=>
      rw[hin]at h;simp only[cond_true,natK_eq]at h;cases h;obtain⟨g1,g2,g3⟩:=ZX hin;refine Sim.ofPure hR (v':=.pointer (some ⟨q,t'+(o+n.toNat* tj.size),none⟩)) ?_ (.ptr hi);unfold Instr.indexAt;simp[asIntOf,hd,hdesc,g1,g2,Hz hT hj,Bu,Instr.sureAddr,Ya]
    ·cases h
  ·cases h
 ·cases h
theorem PV(hT:Gr E)(t:TypeId)(x y:Operand){tm:Tm}{ρ:Operand→Value}(hR:Rel i s w)(hρ:TR i tm ρ){v:Value}{s':AS}(h:Fx t x y E tm s=some (v,s')):
  Sim E i s w (Instr.index t (ρ x) (ρ y)) v s':=by
 unfold Fx at h;split at h
 ·rename_i ti u k n ht hu hn;have hcn:=hρ y _ hn;generalize hgn:ρ y=yn at hcn;cases hcn;have hc:=hρ x _ hu;generalize hg:ρ x=y at hc;have hd:=G0 hT ht w;split at h
  ·rename_i b hdesc;cases hc;split at h
   ·rename_i hn0;split at h
    ·rename_i c hcb;cases h;refine Sim.ofPure hR (v':=.int .u8 c.toNat) ?_ (.int _ _);unfold Instr.index;have hb:b[n.toNat]? =some c:=by
      obtain⟨hlt,he⟩:=Yc.1 hcb;have hlt':n.toNat<b.size:=by simpa using hlt
      rw[getElem?_pos b n.toNat hlt'];exact congrArg some he
     simp[asIntOf,hd,hdesc,hn0,hb]
    ·cases h
   ·cases h
  ·rename_i m e cs hdesc;cases hc with
   |agg hh=>
    split at h
    ·rename_i tj hj;cases hin:inR n m with
     |false=>rw[hin]at h;cases h
     |true=>
      rw[hin]at h;simp only[cond_true]at h;split at h
      ·rename_i u hu;cases h;obtain⟨g1,g2,g3⟩:=ZX hin;obtain⟨v',h1,h2⟩:=ZY (w:=w) hT hh hu;refine Sim.ofPure hR (v':=v') ?_ h2;unfold Instr.index;simp[asIntOf,hd,hdesc,g1,g2,Hz hT hj,h1]
      ·cases h
    ·cases h
  ·cases h
 ·cases h
theorem Ix{tm:Tm}{ρ:Operand→Value}(hρ:TR i tm ρ){d m:Nat}{x:Operand}{r:Nat}(h:bnd tm d m (some x)=some r)(m':Nat)(hm:m≤m')(code:BoundsCode):
  (Instr.sliceBound (ρ x) m' code).run E.P w=.ok r w∧r≤m:=by
 simp only[bnd]at h;split at h
 ·rename_i k n hn;have hc:=hρ x _ hn;generalize hg:ρ x=y at hc;cases hc;split at h
  ·rename_i hr;cases h;refine⟨?_,by omega⟩;unfold Instr.sliceBound;have:0≤n∧n≤(m':Int):=by omega
   simp[asIntOf,this]
  ·cases h
 ·cases h
theorem ZV{tm:Tm}{d m:Nat}{x:Operand}{r:Nat}(h:bnd tm d m (some x)=some r):r≤m:=by
 simp only[bnd]at h;split at h
 ·split at h
  ·cases h;omega
  ·cases h
 ·cases h
theorem p8{tm:Tm}{ρ:Operand→Value}(hρ:TR i tm ρ){n c:Nat}{lo hi mx:Option Operand}{l h m:Nat}(hb:Mn tm n c lo hi mx=some (l,h,m))(c':Nat)(hc:c≤c')(isS:Bool):
  (Instr.sliceBounds isS n c' (lo.map ρ) (hi.map ρ) (mx.map ρ)).run E.P w=.ok (l,h,if mx.isSome then m else c') w∧l≤h∧h≤m∧(mx.isSome=false→m=c):=by
 unfold Mn at hb;cases hmh:(mx.isSome&&hi.isNone)with
 |true=>rw[hmh]at hb;cases hb
 |false=>
  rw[hmh]at hb;simp only[cond_false]at hb;split at hb
  ·cases hb
  ·rename_i m0 hm0;split at hb
   ·cases hb
   ·rename_i h0 hh0;cases hle:Zb h0 m0 with
    |false=>rw[hle]at hb;cases hb
    |true=>
     rw[hle]at hb;simp only[cond_true]at hb;split at hb
     ·cases hb
     ·rename_i l0 hl0;cases hb;have hle':h≤m:=by simpa using hle
      have hl:l≤h:=by
       cases lo with
       |none=>simp only[bnd,Option.some.injEq]at hl0;omega
       |some x=>exact ZV hl0
      refine⟨?_,hl,hle',?_⟩
      ·unfold Instr.sliceBounds;cases mx with
       |none=>
        simp only[bnd,Option.some.injEq]at hm0;subst hm0;cases hi with
        |none=>
         simp only[bnd,Option.some.injEq]at hh0;subst hh0;cases lo with
         |none=>simp only[bnd,Option.some.injEq]at hl0;subst hl0;simp
         |some x=>simp[(Ix (E:=E) (w:=w) hρ hl0 n (Ze _) _).1]
        |some y=>
         have e1:=(Ix (E:=E) (w:=w) hρ hh0 c' hc (if isS then .sliceAcap else .sliceAlen)).1;cases lo with
         |none=>simp only[bnd,Option.some.injEq]at hl0;subst hl0;simp[e1]
         |some x=>simp[e1,(Ix (E:=E) (w:=w) hρ hl0 h (Ze _) _).1]
       |some z=>
        cases hi with
        |none=>simp at hmh
        |some y=>
         have e0:=(Ix (E:=E) (w:=w) hρ hm0 c' hc (if isS then .slice3Acap else .slice3Alen)).1;have e1:=(Ix (E:=E) (w:=w) hρ hh0 m (Ze _) .slice3B).1;cases lo with
         |none=>simp only[bnd,Option.some.injEq]at hl0;subst hl0;simp[e0,e1]
         |some x=>simp[e0,e1,(Ix (E:=E) (w:=w) hρ hl0 h (Ze _) _).1]
      ·intro hmx;cases mx with
       |none=>simp only[bnd,Option.some.injEq]at hm0;exact hm0.symm
       |some z=>cases hmx
theorem PU(hT:Gr E)(t:TypeId)(x:Operand)(lo hi mx:Option Operand){tm:Tm}{ρ:Operand→Value}(hR:Rel i s w)(hρ:TR i tm ρ){v:Value}{s':AS}(h:No t x lo hi mx E tm s=some (v,s')):
  Sim E i s w (Instr.sliceAt t (ρ x) (lo.map ρ) (hi.map ρ) (mx.map ρ)) v s':=by
 unfold No at h;split at h
 ·rename_i u hu;split at h
  ·rename_i r hr;cases h;have hc:=hρ x _ hu;generalize hg:ρ x=y at hc;unfold Bc at hr;split at hr
   ·cases hr
   ·rename_i ti ht;have hd:=G0 hT ht w;split at hr
    ·rename_i b hdesc;cases hc;cases mx with
     |some z=>cases hr
     |none=>
      simp only at hr;rw[natK_eq,zq]at hr;split at hr
      ·cases hr
      ·rename_i l h m hb;rw[GQ]at hr;cases hr
       replace hb:Mn tm b.size b.size lo hi none=some (l,h,m):=hb
       have:=(p8 (E:=E) (w:=w) hρ hb b.size (Ze _) false).1;refine Sim.ofPure hR (v':=.string (b.extract l h)) ?_ (.string _);unfold Instr.sliceAt Instr.slice;simp only[Zmz]at this;simp[hd,hdesc,this]
    ·rename_i e a n c hdesc;split at hr
     ·cases hr
     ·rename_i tj hj;split at hr
      ·cases hr
      ·rename_i l h m hb;cases hok:(mx.isSome||Za (c%2) 1||Za l 0||Cw s a tj.size)with
       |false=>rw[hok]at hr;cases hr
       |true=>
       rw[hok]at hr;cases hr;cases hc with
       |nils hc0=>
        obtain⟨g1,g2,g3,g4⟩:=p8 (E:=E) (w:=w) hρ hb 0 (by omega) true;have hm:m≤c/2:=by
         cases mx with
         |none=>have:=g4 rfl;omega
         |some z=>
          unfold Mn at hb;cases hi with
          |none=>simp at hb
          |some y=>
           simp only[Ka,Zm2,Vq,cond_false]at hb;split at hb
           ·cases hb
           ·rename_i m0 hm0;have:=ZV hm0;split at hb
            ·cases hb
            ·rename_i h0 _;cases hle:Zb h0 m0 with
             |false=>rw[hle]at hb;cases hb
             |true=>
              rw[hle]at hb;simp only[cond_true]at hb;split at hb
              ·cases hb
              ·cases hb;exact this
        have hl0:l=0:=by omega
        have hh0:h=0:=by omega
        have hm0:m=0:=by omega
        subst hl0;subst hh0;subst hm0;refine Sim.ofPure hR (v':=.slice none 0 0) ?_ ?_
        ·unfold Instr.sliceAt Instr.slice;simp[hd,hdesc,g1,Hz hT hj]
        ·simp only[Zmz,Nat.sub_zero];exact .nils (by cases mx<;>simp<;>omega)
       | @slice b o q t' _ _ p c' hib h1 h2 h3 h4 h5=>
        obtain⟨g1,g2,g3,g4⟩:=p8 (E:=E) (w:=w) hρ hb c' h3 true;cases mx with
        |none=>
         have hm:=g4 rfl;simp only[Ji,Vp,if_false,cond_false,Xc]at g1 ⊢;refine Sim.ofPure hR (v':=.slice (some (if c'=l then⟨q,p,none⟩else⟨q,p+l*tj.size,none⟩)) (h-l) (c'-l)) ?_ ?_
         ·unfold Instr.sliceAt Instr.slice;simp only[Zmz]at g1;by_cases hcl:c'=l
          ·subst hcl;simp[hd,hdesc,g1,Hz hT hj]
          ·simp[hd,hdesc,g1,Hz hT hj,hcl,Bu]
         ·by_cases hcl:c'=l
          ·rw[if_pos hcl];exact .slice hib (by omega) (by omega) (by omega) (.inr (by omega)) (fun _ h0=>absurd (by omega) h0)
          ·rw[if_neg hcl];have hpt:=h4.resolve_right (by omega);refine .slice hib (by omega) (by omega) (by omega) (.inl (by omega)) (fun hev _=>?_);have hc2:c%2=0:=by omega
           have hl5:=h5 hc2 (by omega);simp only[Ji,Bool.false_or,Yq,X0]at hok;rcases hok with(hok|hok)|hok
           ·omega
           ·subst hok;simpa using hl5
           ·unfold Cw at hok;simp only at hok;split at hok
            ·rename_i c1 n1 z1 hbl;obtain⟨k1,_⟩:=hR.lim _ _ _ _ _ _ hbl hib;have hz:zs z1=tj.size:=by simpa using hok
             rw[hz]at k1;rw[k1]at hl5 ⊢;have:c'*tj.size=l*tj.size+(c'-l)*tj.size:=by rw[←Yv];congr 1;omega
             omega
            ·cases hok
        |some z=>
         simp only[Ka,if_true,cond_true,Xc]at g1 ⊢;refine Sim.ofPure hR (v':=.slice (some (if m=l then⟨q,p,none⟩else⟨q,p+l*tj.size,none⟩)) (h-l) (m-l)) ?_ ?_
         ·unfold Instr.sliceAt Instr.slice;by_cases hcl:m=l<;>simp[hd,hdesc,g1,Hz hT hj,hcl,Bu]
         ·by_cases hcl:m=l
          ·rw[if_pos hcl];exact .slice hib (by omega) (by omega) (by omega) (.inr (by omega)) (fun h0=>by omega)
          ·rw[if_neg hcl];have hmc:m≤c/2:=by
            unfold Mn at hb;cases hi with
            |none=>simp at hb
            |some y=>
             simp only[Ka,Zm2,Vq,cond_false]at hb;split at hb
             ·cases hb
             ·rename_i m0 hm0;have:=ZV hm0;split at hb
              ·cases hb
              ·rename_i h0 _;cases hle:Zb h0 m0 with
               |false=>rw[hle]at hb;cases hb
               |true=>
                rw[hle]at hb;simp only[cond_true]at hb;split at hb
                ·cases hb
                ·cases hb;exact this
           refine .slice hib (by omega) (by omega) (by omega) (.inl ?_) (fun h0=>by omega);have:=h4.resolve_right (by omega);omega
    ·rename_i k e a hdesc;split at hr
     ·cases hr
     ·rename_i tj hj;split at hr
      ·cases hr
      ·rename_i l h m hb;cases hr;cases hc with
       | @ptr b o q t' hib=>
        obtain⟨g1,g2,g3,g4⟩:=p8 (E:=E) (w:=w) hρ hb k (Ze _) false;have hmm:(if mx.isSome=true then m else k)=m:=by
         cases mx with
         |none=>simp[g4 rfl]
         |some z=>simp
        rw[hmm]at g1;refine Sim.ofPure hR (v':=.slice (some (if m=l then⟨q,t'+o,none⟩else⟨q,t'+o+l*tj.size,none⟩)) (h-l) (m-l)) ?_ ?_
        ·unfold Instr.sliceAt Instr.sureAddr;by_cases hcl:m=l<;>simp[hd,hdesc,g1,Hz hT hj,hcl,Bu]
        ·by_cases hcl:m=l
         ·rw[if_pos hcl];exact .slice hib (by omega) (by omega) (by omega) (.inr (by omega)) (fun h0=>by omega)
         ·rw[if_neg hcl];exact .slice hib (by omega) (by omega) (by omega) (.inl (Ya _ _ _)) (fun h0=>by omega)
    ·cases hr
  ·cases h
 ·cases h
end
end Go.Ax
namespace Go.Ax
open Go
section
variable {E:Env}{i:Io}{s:AS}{w:World}
theorem ZU(P:Program){α:Type}(m:Sem α):∀(a:α),Hk P m=some a→∀w,m.run P w=.ok a w:=by
 induction m with
 |pure x=>intro a h w;simp only[Hk,Option.some.injEq]at h;subst h;rfl
 |program k ih=>intro a h w;exact ih P a h w
 |mark m k ih=>intro a h w;exact ih a h w
 |_=>intro a h w;simp[Hk]at h
theorem HU{v v':Value}(h:VR i v v')(hp:plain.plain1 v=true):v'=v:=by
 cases h<;>first|rfl|simp[plain.plain1]at hp
theorem HJ :∀ {l l':List Value},VRs i l l'→l.all plain.plain1=true→l'=l
 |_,_,.nil,_=>rfl
 |_,_,.cons h h',hp=>by
  simp only[Zm3,Zi]at hp;rw[HU h hp.1,HJ h' hp.2]
theorem p9{v v':Value}(h:VR i v v')(hp:plain v=true):v'=v:=by
 cases h with
 |iface t h=>rw[HU h (by simpa[plain]using hp)]
 |agg h=>rw[HJ h (by simpa[plain]using hp)]
 |_=>first|rfl|simp[plain]at hp
theorem HK{v:Value}(hp:plain.plain1 v=true):VR i v v:=by
 cases v<;>first|exact .bool _|exact .int _ _|exact .float _ _|exact .string _|(simp[plain.plain1]at hp)
theorem HG :∀ {l:List Value},l.all plain.plain1=true→VRs i l l
 |[],_=>.nil
 |v::l,hp=>by
  simp only[Zm3,Zi]at hp;exact .cons (HK hp.1) (HG hp.2)
theorem ZJ{v:Value}(hp:plain v=true):VR i v v:=by
 cases v with
 |iface t v=>exact .iface t (HK (by simpa[plain]using hp))
 |agg cs=>exact .agg (HG (by simpa[plain]using hp))
 |_=>first|exact .bool _|exact .int _ _|exact .float _ _|exact .string _|exact .nilFunc|exact .nilIface|(simp[plain]at hp)
theorem qc(n:Int)(m:Nat)(hm:0<m):((H7 n m:Nat):Int)=n%(m:Int):=by
 cases n with
 |ofNat a=>rfl
 |negSucc a=>
  show((m-1-a%m:Nat):Int)=Int.negSucc a%(m:Int);have h:=Kb a hm;rw[Int.negSucc_emod _ (by omega)];omega
theorem imod_lt(n:Int)(m:Nat)(hm:0<m):H7 n m<m:=by
 have h:=qc n m hm;have:=Int.emod_lt_of_pos n (show(0:Int)<m by omega);omega
theorem qf(m:Nat)(hm:0<m)(n:Int):wrU m n=n%(m:Int):=qc n m hm
theorem F6(m h:Nat)(hm:0<m)(n:Int):wrS m h n=if n%(m:Int)≥(h:Int)then n%(m:Int)-m else n%(m:Int):=by
 have e:=qc n m hm;have l:=imod_lt n m hm;unfold wrS;rw[natK_eq];cases hb:Zh (H7 n m) h with
 |true=>
  have:H7 n m<h:=by simpa[Yj]using hb
  rw[if_neg (by omega),←e];rfl
 |false=>
  have:¬H7 n m<h:=fun hh=>by rw[show Zh (H7 n m) h=true by simpa[Yj]using hh]at hb;cases hb
  rw[if_pos (by omega),←e];show Int.negSucc (m-1-H7 n m)=_;omega
theorem gh(k:IntKind)(n:Int):Cu k n=k.wrap n:=by
 cases k
 case i8=>show wrS 256 128 n=_;rw[F6 256 128 (by decide)];simp[IntKind.wrap,IntKind.bits,IntKind.signed]
 case i16=>show wrS 65536 32768 n=_;rw[F6 65536 32768 (by decide)];simp[IntKind.wrap,IntKind.bits,IntKind.signed]
 case i32=>show wrS 4294967296 2147483648 n=_;rw[F6 4294967296 2147483648 (by decide)];simp[IntKind.wrap,IntKind.bits,IntKind.signed]
 case i64=>show wrS 18446744073709551616 9223372036854775808 n=_;rw[F6 18446744073709551616 9223372036854775808 (by decide)];simp[IntKind.wrap,IntKind.bits,IntKind.signed]
 case u8=>show wrU 256 n=_;rw[qf 256 (by decide)];simp[IntKind.wrap,IntKind.bits,IntKind.signed]
 case u16=>show wrU 65536 n=_;rw[qf 65536 (by decide)];simp[IntKind.wrap,IntKind.bits,IntKind.signed]
 case u32=>show wrU 4294967296 n=_;rw[qf 4294967296 (by decide)];simp[IntKind.wrap,IntKind.bits,IntKind.signed]
 case u64=>show wrU 18446744073709551616 n=_;rw[qf 18446744073709551616 (by decide)];simp[IntKind.wrap,IntKind.bits,IntKind.signed]
theorem ZK(k:IntKind):Hu k=2^k.bits:=by cases k<;>rfl
theorem HM(k:IntKind):Fg k=k.bits:=by cases k<;>rfl
theorem Bv(k:IntKind)(n:Int):Ba k n=some (.int k (k.wrap n)):=by
 unfold Ba;rw[fz,gh]
theorem ieq_eq(a b:Int):ieq a b=(a==b):=by
 cases a<;>cases b<;>simp only[ieq]
 ·rename_i a b;rw[U5];simp;exact⟨fun h=>congrArg Int.ofNat h,fun h=>Int.ofNat.inj h⟩
 ·rfl
 ·rfl
 ·rename_i a b;rw[U5];simp
theorem ilt_eq(a b:Int):ilt a b=decide (a<b):=by
 cases a<;>cases b<;>simp only[ilt]<;>rename_i a b<;>rw[U5]<;>simp[Yj]<;>first|omega|(show a<b↔(a:Int)<(b:Int);omega)|skip
theorem HN{k k':IntKind}(h:Hy k k'=true):k=k':=by cases k<;>cases k'<;>first|rfl|cases h
theorem qg(k:IntKind)(a:Int):H7 a (Hu k)=(BitVec.ofInt k.bits a).toNat:=by
 have h:=qc a (Hu k) (by rw[ZK];exact Nat.two_pow_pos _);rw[BitVec.toNat_ofInt,←ZK];omega
theorem PK(n:Nat)(x y:BitVec n):(x&&& ~~~y).toNat=Xm x.toNat (2^n-1-y.toNat):=by
 rw[BitVec.toNat_and,BitVec.toNat_not];rfl
theorem PG{op:BinOp}{k:IntKind}{a b:Int}{v:Value}(h:H4 op k a b=some v)(t:TypeId)(w:World):(binOp op t (.int k a) (.int k b)).run E.P w=.ok v w:=by
 cases op
 case add=>simp only[H4,iAr,Bv,Option.some.injEq]at h;subst h;simp[binOp,Op.intArith]
 case sub=>simp only[H4,iAr,Bv,Option.some.injEq]at h;subst h;simp[binOp,Op.intArith];rfl
 case mul=>simp only[H4,iAr,Bv,Option.some.injEq]at h;subst h;simp[binOp,Op.intArith]
 case quo=>
  simp only[H4,R5,Bv]at h;cases hz:ieq b 0 with
  |true=>rw[hz]at h;cases h
  |false=>
   rw[hz]at h;cases h;have:¬b=0:=fun e=>by rw[ieq_eq,e]at hz;cases hz
   simp[binOp,Op.intDiv,this]
 case rem=>
  simp only[H4,dx,fz]at h;cases hz:ieq b 0 with
  |true=>rw[hz]at h;cases h
  |false=>
   rw[hz]at h;cases h;have:¬b=0:=fun e=>by rw[ieq_eq,e]at hz;cases hz
   simp[binOp,Op.intDiv,this]
 case and=>simp only[H4,Nn,Bv,qg,Option.some.injEq]at h;subst h;simp[binOp,Op.intBits]
 case or=>simp only[H4,Nn,Bv,qg,Option.some.injEq]at h;subst h;simp[binOp,Op.intBits]
 case xor=>simp only[H4,Nn,Bv,qg,Option.some.injEq]at h;subst h;simp[binOp,Op.intBits]
 case andNot=>
  simp only[H4,zk,Nn,Bv,qg,Option.some.injEq]at h;rw[ZK]at h;subst h;simp only[binOp,Op.intBits,Sem.run_pure,PK];simp
 case eql=>simp only[H4,Bb,Option.some.injEq]at h;subst h;simp[binOp,Op.intCmp,ieq_eq]
 case neq=>simp only[H4,Bb,Option.some.injEq]at h;subst h;simp[binOp,Op.intCmp,ieq_eq,bne]
 case lss=>simp only[H4,Bb,Option.some.injEq]at h;subst h;simp[binOp,Op.intCmp,ilt_eq]
 case leq=>simp only[H4,Bb,Option.some.injEq]at h;subst h;simp only[binOp,Op.intCmp,ilt_eq,ne_eq,not_true_eq_false,if_false,Sem.run_pure];congr 2;rw[U5];simp
 case gtr=>simp only[H4,Bb,Option.some.injEq]at h;subst h;simp[binOp,Op.intCmp,ilt_eq]
 case geq=>simp only[H4,Bb,Option.some.injEq]at h;subst h;simp only[binOp,Op.intCmp,ilt_eq,ne_eq,not_true_eq_false,if_false,Sem.run_pure];congr 2;rw[U5];simp
 all_goals (simp only[H4,iNo]at h;cases h)
end
end Go.Ax
namespace Go.Ax
open Go
section
variable {E:Env}{i:Io}{s:AS}{w:World}
theorem PH {op : BinOp} {k k' : IntKind} {a b : Int} {v : Value} (h : Fh op k a k' b = some v) (t : TypeId) (w : World) : (binOp op t (.int k a) (.int k' b)).run E.P w = .ok v w := by
  have gen : (bif Hy k k' then H4 op k a b else none) = some v → (binOp op t (.int k a) (.int k' b)).run E.P w = .ok v w := by
    intro hq
    cases hk : Hy k k' with
    | false => rw [hk] at hq; cases hq
    | true =>
      rw [hk, cond_true] at hq
      obtain rfl := HN hk
      exact PG hq t w
  cases op
  case shl =>
    clear gen
    simp only [Fh] at h
    cases b with
    | negSucc n => cases h
    | ofNat n =>
      simp only [dz, Bv, Option.some.injEq, HM] at h
      subst h
      have hm : (bif Zb n k.bits then n else k.bits) = min n k.bits := by
        cases hb : Zb n k.bits with
        | true => simp at hb; simp; omega
        | false => have : ¬ n ≤ k.bits := fun hh => by rw [show Zb n k.bits = true by simpa using hh] at hb; cases hb
                   simp; omega
      rw [hm]
      have hn : ¬ ((Int.ofNat n) < 0) := Int.not_lt.2 (Yk n)
      simp only [binOp, Op.shift]
      rw [if_neg hn]
      show Result.ok _ _ = Result.ok _ _
      simp
  case shr =>
    clear gen
    simp only [Fh] at h
    cases b with
    | negSucc n => cases h
    | ofNat n =>
      simp only [fb, fz, Option.some.injEq, HM] at h
      subst h
      have hm : (bif Zb n k.bits then n else k.bits) = min n k.bits := by
        cases hb : Zb n k.bits with
        | true => simp at hb; simp; omega
        | false => have : ¬ n ≤ k.bits := fun hh => by rw [show Zb n k.bits = true by simpa using hh] at hb; cases hb
                   simp; omega
      rw [hm]
      have hn : ¬ ((Int.ofNat n) < 0) := Int.not_lt.2 (Yk n)
      simp only [binOp, Op.shift]
      rw [if_neg hn]
      show Result.ok _ _ = Result.ok _ _
      simp
  all_goals exact gen h
theorem PM{op:BinOp}{a b:ByteArray}{v:Value}(h:R6 op a b=some v)(t:TypeId)(w:World):(binOp op t (.string a) (.string b)).run E.P w=.ok v w:=by
 cases op
 case add=>
  simp only[R6,ff]at h;split at h
  ·cases h
  ·rename_i hn;cases h;simp only[binOp,Op.stringOp];rw[if_neg hn];rfl
 all_goals first
  |(simp only[R6,Option.some.injEq]at h;subst h;simp[binOp,Op.stringOp];done)
  |(simp only[R6,sNo]at h;cases h)
theorem ZG {op : BinOp} {t : TypeId} {ox oy : Operand} {a b : Value} (h1 : a ≠ .nilIface ∨ b ≠ .nilIface) (h2 : (∀ cs, a ≠ .agg cs) ∨ ∀ cs, b ≠ .agg cs) (P : Program) (w : World) :
    (eqGuard op t ox oy a b).run P w = .ok () w := by
  unfold eqGuard
  cases op <;> first
    | rfl
    | (simp only [Vx, Vp, if_false]
       split
       · rcases h1 with h | h <;> exact absurd rfl h
       · rcases h2 with h | h <;> exact absurd rfl (h _)
       · rfl)
theorem Rel.live_cells{b q t:Nat}(h:Rel i s w)(hl:live s b=true)(hi:i b=some (q,t)):∃cs e fr,w.heap[q]? =some (.cells cs e fr)∧fr.2≤fr.1:=by
 unfold live at hl;split at hl
 ·rename_i c n z hb;obtain⟨cs,e,fr,h1,_,h3,_⟩:=h.at (P:=default) hb rfl hi;have hz:z%2=0:=by simpa using hl
  exact⟨cs,e,fr,h1,Xo<|Eq.symm<|h3.resolve_right (fun h=>by omega)⟩
 ·cases hl
theorem Rel.live_inj{b b' q t t':Nat}(h:Rel i s w)(hl:live s b=true)(hl':live s b'=true)(hi:i b=some (q,t))(hi':i b'=some (q,t')):b=b':=by
 unfold live at hl hl';split at hl
 ·rename_i c n z hb;split at hl'
  ·rename_i c' n' z' hb';exact h.inj b b' _ _ q t t' hb hb' rfl rfl hi hi'
  ·cases hl'
 ·cases hl
theorem notFrozen{w:World}{q:Nat}{cs:Array Value}{e:TypeId}{fr:Nat×Nat}(h:w.heap[q]? =some (.cells cs e fr))(hf:fr.2≤fr.1)(k:Nat)(x:Option Nat):w.frozen? ⟨q,k,x⟩=false:=by
 obtain⟨lo,hi⟩:=fr;simp only[World.frozen?,h];simp only at hf;simp only[Xz,decide_eq_false_iff_not];omega
theorem PN{P:Program}{a b:Addr}{cs cs':Array Value}{e e':TypeId}{fr fr':Nat×Nat}(hne:a.block≠b.block)(ha:w.heap[a.block]? =some (.cells cs e fr))(hb:w.heap[b.block]? =some (.cells cs' e' fr'))
  (hf:fr.2≤fr.1) (hf':fr'.2≤fr'.1):(sameAddr a b).run P w=.ok false w:=by
 have h1:∀k x,w.frozen? ⟨a.block,k,x⟩=false:=notFrozen ha hf;have h2:∀k x,w.frozen? ⟨b.block,k,x⟩=false:=notFrozen hb hf';have s1:w.shape? a.block=some (e,cs.size):=by simp[World.shape?,ha]
 have s2:w.shape? b.block=some (e',cs'.size):=by simp[World.shape?,hb]
 have f1:w.frozen? a=false:=h1 a.off a.spot;have f2:w.frozen? b=false:=h2 b.off b.spot;have hbe:(a.block==b.block)=false:=by simpa using hne
 have st:∀(x:Addr) (n:TypeId×Nat),w.shape? x.block=some n→(∀k y,w.frozen? ⟨x.block,k,y⟩=false)→(stringish x).run P w=.ok false w:=by
  intro x n hs hfz;have fx:w.frozen? x=false:=hfz x.off x.spot;unfold stringish;simp[fx,hs,hfz]
 unfold sameAddr noView viewAt mayBeOne;simp[hbe,f1,f2,s1,s2,st a _ s1 h1,st b _ s2 h2]
theorem PC(hT:Gr E){t:TypeId}{ti:TI}(ht:E.ty.get t=some ti){x y x' y':Value}(hR:Rel i s w)(hx:VR i x x')(hy:VR i y y'){b:Bool}(h:eqD E s ti.desc x y=some b):
  (Op.equal t x' y').run E.P w=.ok b w:=by
 have hd:=G0 hT ht w;have key:(Op.equal t x' y')=Op.equalIn (9999+1) t x' y':=rfl;rw[key,Op.equalIn];simp only[Sem.run_bind,hd,Result.andThen_ok];unfold eqD at h;split at h
 ·rename_i hdesc;rw[hdesc];cases hx;cases hy;cases h;rfl
 ·rename_i hdesc;rw[hdesc];cases hx;cases h;cases hy<;>rfl
 ·rename_i hdesc;rw[hdesc];cases hx;cases hy;cases h;rfl
 ·rename_i e a b' hdesc;rw[hdesc];split at h
  ·cases h
  ·rename_i te he;cases hz:Za te.size 0 with
   |true=>rw[hz]at h;cases h
   |false=>
    rw[hz]at h;simp only[cond_false]at h;have hne:te.size≠0:=fun e=>by rw[e]at hz;cases hz
    cases hx with
    | @ptr b1 o1 q1 t1 h1=>
     cases hy with
     | @ptr b2 o2 q2 t2 h2=>
      simp only[Sem.run_bind,Hz hT he,Result.andThen_ok,hne,ne_eq,not_false_eq_true,if_true];cases hb:Za b1 b2 with
      |true=>
       rw[hb]at h;have hbe:b1=b2:=by simpa using hb
       subst hbe;rw[h1]at h2;cases h2;simp only[cond_true,Option.isNone_none,Bool.and_true,Option.some.injEq]at h;subst h;unfold sameAddr;simp only[beq_self_eq_true,if_true,Sem.run_pure];congr 1;rw[U5];simp
      |false=>
       rw[hb]at h;simp only[cond_false]at h;cases hl:(live s b1&&live s b2)with
       |false=>rw[hl]at h;cases h
       |true=>
        rw[hl]at h;cases h;simp only[Zi]at hl;obtain⟨cs,e1,fr,g1,g2⟩:=hR.live_cells hl.1 h1;obtain⟨cs',e1',fr',g1',g2'⟩:=hR.live_cells hl.2 h2;have hq:q1≠q2:=fun e=>by
         subst e;have:=hR.live_inj hl.1 hl.2 h1 h2;subst this;simp at hb
        exact PN (a:=⟨q1,t1+o1,none⟩) (b:=⟨q2,t2+o2,none⟩) hq g1 g1' g2 g2'
 ·rename_i hdesc;rw[hdesc];cases hx;cases h;cases hy<;>rfl
 ·rename_i hdesc;rw[hdesc];cases hx;cases hy;cases h;rfl
 ·rename_i hdesc;rw[hdesc];cases hx;cases h;cases hy<;>rfl
 ·rename_i hdesc;rw[hdesc];cases hx;cases hy;cases h;rfl
 ·rename_i hdesc;rw[hdesc];cases hx;cases hy;cases h;rfl
 ·rename_i hdesc;rw[hdesc];cases hx;cases hy;cases h;rfl
 ·rename_i hdesc;rw[hdesc];cases hx;cases hy;cases h;rfl
 ·rename_i hdesc;rw[hdesc];cases hx;cases hy;cases h;rfl
 ·rename_i hdesc;rw[hdesc];cases hx;cases hy;cases h;rfl
 ·cases h
theorem PD(op:BinOp)(t:TypeId)(x y:Operand)(h:(R7 x||R7 y)=true)(P:Program)(w:World):(eqGuard op t x y .nilIface .nilIface).run P w=.ok () w:=by
 unfold eqGuard;cases op<;>first
  |rfl
  |(cases x<;>cases y<;>first|rfl|(simp[R7]at h))
theorem HB(hT:Gr E){t:TypeId}{ms:Array (String×TypeId)}{a b c}(ht:E.ty.get t=some ⟨.interface ms,a,b,c⟩):(Op.equal t .nilIface .nilIface).run E.P w=.ok true w:=by
 have hd:=G0 hT ht w;have key:(Op.equal t .nilIface .nilIface)=Op.equalIn (9999+1) t .nilIface .nilIface:=rfl;rw[key,Op.equalIn];simp only[Sem.run_bind,hd,Result.andThen_ok];rfl
theorem HF{op:BinOp}{t:TypeId}{ox oy:Operand}{x y x' y':Value}(hx:VR i x x')(hy:VR i y y'){v:Value}(h:Ik E op t ox oy x y=some v):
  (do eqGuard op t ox oy x' y';binOp op t x' y':Sem Value).run E.P w=.ok v w∧VR i v v:=by
 unfold Ik at h;cases hp:(plain x&&plain y)with
 |false=>rw[hp]at h;cases h
 |true=>
  rw[hp]at h;simp only[Zi]at hp;simp only[cond_true]at h;obtain rfl:=p9 hx hp.1;obtain rfl:=p9 hy hp.2;split at h
  ·rename_i u hu;cases hpu:plain u with
   |false=>rw[hpu]at h;cases h
   |true=>
    rw[hpu]at h;cases h;exact⟨ZU E.P _ _ hu w,ZJ hpu⟩
  ·cases h
theorem PF (hT : Gr E) (op : BinOp) (t : TypeId) (x y : Operand) {tm : Tm} {ρ : Operand → Value} (hR : Rel i s w) (hρ : TR i tm ρ) {v : Value} {s' : AS} (h : M5 op t x y E tm s = some (v, s')) :
    Sim E i s w (do eqGuard op t x y (ρ x) (ρ y); binOp op t (ρ x) (ρ y)) v s' := by
  unfold M5 at h
  split at h
  · rename_i a b ha hb
    split at h
    · rename_i u hu
      cases h
      have hx := hρ x _ ha
      have hy := hρ y _ hb
      generalize hgx : ρ x = x' at hx
      generalize hgy : ρ y = y' at hy
      suffices hs : ∃ v', (do eqGuard op t x y x' y'; binOp op t x' y' : Sem Value).run E.P w = .ok v' w ∧ VR i v v' by
        obtain ⟨v', h1, h2⟩ := hs
        exact Sim.ofPure hR h1 h2
      unfold Fj at hu
      split at hu
      · rename_i k n
        unfold GN at hu
        split at hu
        · rename_i k' m
          cases hx
          cases hy
          refine ⟨v, ?_, ?_⟩
          · simp only [Sem.run_bind, ZG (a := .int k n) (b := .int k' m) (.inl (by simp)) (.inl (by simp)), Result.andThen_ok]
            exact PH hu t w
          · unfold Fh at hu
            have plainV : ∀ (f : Option Value), f = some v → (∀ u, f = some u → ∃ k n, u = .int k n ∨ ∃ b, u = .bool b) → VR i v v := by
              intro f hf hall
              obtain ⟨k, n, h | ⟨b, h⟩⟩ := hall v hf
              · subst h; exact .int _ _
              · subst h; exact .bool _
            refine plainV _ hu ?_
            intro u hu'
            split at hu'
            · split at hu'
              · cases hu'
              · simp only [dz, Bv, Option.some.injEq] at hu'; exact ⟨_, _, .inl hu'.symm⟩
            · split at hu'
              · cases hu'
              · simp only [fb, fz, Option.some.injEq] at hu'; exact ⟨_, _, .inl hu'.symm⟩
            · cases hk : Hy k k' with
              | false => rw [hk] at hu'; cases hu'
              | true =>
                rw [hk, cond_true] at hu'
                cases op <;> simp only [H4, iAr, Bb, R5, dx, iNo, zk, Nn, Bv, fz, Option.some.injEq, reduceCtorEq] at hu' <;> first
                  | exact ⟨_, _, .inl hu'.symm⟩
                  | exact ⟨k, 0, .inr ⟨_, hu'.symm⟩⟩
                  | (cases hz : ieq m 0 with
                     | true => rw [hz] at hu'; cases hu'
                     | false => rw [hz] at hu'; cases hu'; exact ⟨_, _, .inl rfl⟩)
        · cases hu
      · rename_i n
        unfold GB at hu
        split at hu
        · rename_i m
          cases hx
          cases hy
          refine ⟨v, ?_, ?_⟩
          · simp only [Sem.run_bind, ZG (a := .string n) (b := .string m) (.inl (by simp)) (.inl (by simp)), Result.andThen_ok]
            exact PM hu t w
          · cases op <;> simp only [R6, ff, sNo, Option.some.injEq, reduceCtorEq] at hu <;> first
              | (subst hu; exact .bool _)
              | (split at hu
                 · cases hu
                 · cases hu; exact .string _)
        · cases hu
      · rename_i hni hns
        unfold Il at hu
        cases hnil : (Fi a && Fi b) with
        | true =>
          rw [hnil, cond_true] at hu
          simp only [Zi] at hnil
          have ea : a = .nilIface := by cases a <;> first | rfl | (simp [Fi] at hnil)
          have eb : b = .nilIface := by cases b <;> first | rfl | (simp [Fi] at hnil)
          subst ea; subst eb
          cases hx
          cases hy
          cases hcc : (R7 x || R7 y) with
          | false => rw [hcc] at hu; cases hu
          | true =>
            rw [hcc, cond_true] at hu
            have hgd : ∀ o : BinOp, (eqGuard o t x y .nilIface .nilIface).run E.P w = .ok () w := fun o => PD o t x y hcc E.P w
            split at hu
            · rename_i ms _ _ _ hty
              cases hu
              refine ⟨_, ?_, .bool true⟩
              have he := HB (w := w) hT hty
              simp [hgd, binOp, he]
            · rename_i ms _ _ _ hty
              cases hu
              refine ⟨_, ?_, .bool false⟩
              have he := HB (w := w) hT hty
              simp [hgd, binOp, he]
            · cases hu
        | false =>
          rw [hnil, cond_false] at hu
          have eqb : ∀ neg : Bool, (op = .eql ∧ neg = false ∨ op = .neq ∧ neg = true) → Bo E s op t x y a b neg = some v → ∃ v', (do eqGuard op t x y x' y'; binOp op t x' y' : Sem Value).run E.P w = .ok v' w ∧ VR i v v' := by
            intro neg hop he
            unfold Bo at he
            split at he
            · rename_i r hr
              cases he
              unfold eqA at hr
              split at hr
              · cases hr
              · rename_i ti hti
                have heq := PC hT hti hR hx hy hr
                have hsh : (x' ≠ .nilIface ∨ y' ≠ .nilIface) ∧ ((∀ cs, x' ≠ .agg cs) ∨ ∀ cs, y' ≠ .agg cs) ∧ (∀ k n, x' ≠ .int k n) ∧ (∀ k n, x' ≠ .float k n) ∧ (∀ k n m, x' ≠ .complex k n m) ∧ (∀ n, x' ≠ .string n) := by
                  unfold eqD at hr
                  split at hr <;> first
                    | (cases hr; done)
                    | (cases hx <;> cases hy <;> simp; done)
                    | (cases hx <;> simp <;> (cases hy <;> simp); done)
                refine ⟨.bool (r != neg), ?_, .bool _⟩
                obtain ⟨g1, g2, g3, g4, g5, g6⟩ := hsh
                simp only [Sem.run_bind, ZG g1 g2, Result.andThen_ok]
                rcases hop with ⟨rfl, rfl⟩ | ⟨rfl, rfl⟩
                · cases x' <;> first
                    | exact absurd rfl (g3 _ _)
                    | exact absurd rfl (g4 _ _)
                    | exact absurd rfl (g5 _ _ _)
                    | exact absurd rfl (g6 _)
                    | simp [binOp, heq]
                · cases x' <;> first
                    | exact absurd rfl (g3 _ _)
                    | exact absurd rfl (g4 _ _)
                    | exact absurd rfl (g5 _ _ _)
                    | exact absurd rfl (g6 _)
                    | simp [binOp, heq]
            · exact ⟨v, HF hx hy he⟩
          split at hu
          · exact eqb false (.inl ⟨rfl, rfl⟩) hu
          · exact eqb true (.inr ⟨rfl, rfl⟩) hu
          · exact ⟨v, HF hx hy hu⟩
    · cases h
  · cases h
end
end Go.Ax
namespace Go.Ax
open Go
section
variable {E:Env}{i:Io}{s:AS}{w:World}
theorem qh{tm:Tm}{ρ:Operand→Value}(hρ:TR i tm ρ):∀ {ps:List (Nat×Operand)} {l:List (Nat×Value)},partsOf tm ps=some l→
  l.map (·.1)=ps.map (·.1)∧VRs i (l.map (·.2)) (ps.map fun p=>ρ p.2)
 |[],l,h=>by simp only[partsOf,Option.some.injEq]at h;subst h;exact⟨rfl,.nil⟩
 |(k,x)::ps,l,h=>by
  simp only[partsOf]at h;cases h1:ev tm x with
  |none=>rw[h1]at h;cases h
  |some v=>
   rw[h1]at h;cases h2:partsOf tm ps with
   |none=>rw[h2]at h;cases h
   |some r=>
    rw[h2]at h;cases h;obtain⟨g1,g2⟩:=qh hρ h2;exact⟨by simp[g1],.cons (hρ x v h1) g2⟩
theorem HR(off:Nat):∀(vs:List Value) (k:Nat) (A B:List Value),A.length=off+k→vs.length≤B.length→
  (vs.zipIdx k).foldl (fun(cs:Array Value) (p:Value×Nat)=>cs.setIfInBounds (off+p.2) p.1) (Array.mk (A++B))=Array.mk (A++vs++B.drop vs.length)
 |[],k,A,B,_,_=>by simp
 |v::vs,k,A,[],_,h=>by simp at h
 |v::vs,k,A,b::B,hA,h=>by
  simp only[Zf]at h;rw[List.zipIdx_cons,Jj];have e:(Array.mk (A++b::B)).setIfInBounds (off+k) v=Array.mk ((A++[v])++B):=by
   apply Yt;simp only[Array.toList_setIfInBounds];rw[←hA,List.set_append_right _ _ (Ze _)];simp
  show List.foldl _ ((Array.mk (A++b::B)).setIfInBounds (off+k) v) _=_;rw[e,HR off vs (k+1) (A++[v]) B (by simp[hA];omega) (by omega)];simp
theorem foldl_set(vs:List Value)(off:Nat)(cs:List Value)(h:off+vs.length≤cs.length):
  vs.zipIdx.foldl (fun(cs:Array Value) (p:Value×Nat)=>cs.setIfInBounds (off+p.2) p.1) (Array.mk cs)=Array.mk (cs.take off++vs++cs.drop (off+vs.length)):=by
 have:=HR off vs 0 (cs.take off) (cs.drop off) (by simp;omega) (by simp;omega);rw[List.take_append_drop]at this;rw[this,List.drop_drop]
theorem gj(place:Nat→Option (Nat×Nat)):∀(l:List (Nat×Value)) (ks:List Nat) (us:List Value) (cells:List Value) (cells':List Value) (r:List Value),l.map (·.1)=ks→VRs i (l.map (·.2)) us→VRs i cells cells'→Cv place cells l=some r→
  ∃r',Instr.fill place ⟨cells'⟩ (ks.zip us)=some ⟨r'⟩∧VRs i r r'
 |[],ks,us,cells,cells',r,hk,hu,hc,h=>by
  simp only[List.map_nil]at hk hu;subst hk;simp only[Cv,Option.some.injEq]at h;subst h;exact⟨cells',rfl,hc⟩
 |(k,v)::l,ks,us,cells,cells',r,hk,hu,hc,h=>by
  simp only[Zr]at hk hu;subst hk;cases hu with
  | @cons _ v' _ us' hv hus=>
   simp only[Cv]at h;split at h
   ·cases h
   ·rename_i off size hp;cases hb:(Za v.cells.toList.length size&&Zb (off+v.cells.toList.length) cells.length)with
    |false=>rw[hb]at h;cases h
    |true=>
     rw[hb,cond_true]at h;simp only[Zi]at hb;have hb1:v.cells.toList.length=size:=by simpa using hb.1
     have hb2:off+v.cells.toList.length≤cells.length:=by simpa using hb.2
     have hvc:=hv.cells;have hlen:=hvc.length;have hcl:=hc.length;have hc2:VRs i (cells.take off++v.cells.toList++cells.drop (off+v.cells.toList.length)) (cells'.take off++v'.cells.toList++cells'.drop (off+v'.cells.toList.length)):=by
      rw[←hlen];exact((hc.take off).append hvc).append (hc.drop _)
     obtain⟨r',h1,h2⟩:=gj place l (l.map (·.1)) us' _ _ r rfl hus hc2 h;refine⟨r',?_,h2⟩;simp only[List.zip_cons_cons,Instr.fill,hp];have e1:v'.cells.size=size:=by rw[←Y6,←hlen];exact hb1
     have e2:¬(off+v'.cells.size>(Array.mk cells').size):=by
      rw[←Y6,←hlen];simp only[List.size_toArray];omega
     rw[if_neg (by
      rw[Yq,decide_eq_true_eq,decide_eq_true_eq];rintro(hh|hh)
      ·exact hh e1
      ·exact e2 hh)]
     have:=foldl_set v'.cells.toList off cells' (by omega);rw[←h1,←this,←Array.foldl_toList,Array.toList_zipIdx]
theorem HQ(hT:Gr E):∀ {fs:List Field} {pl:List (Nat×Nat)},placesOf E fs=some pl→(fs.mapM (m:=Sem) fun f=>do Pure.pure (f.offset,←Go.sizeOf f.type)).run E.P w=.ok pl w
 |[],pl,h=>by simp only[placesOf,Option.some.injEq]at h;subst h;rfl
 |f::fs,pl,h=>by
  simp only[placesOf]at h;split at h
  ·cases h
  ·rename_i tj hj;split at h
   ·cases h
   ·rename_i r hr;cases h;have ih:=HQ hT hr;rw[List.mapM_cons];simp only[Sem.run_bind,Hz hT hj,Result.andThen_ok,Sem.run_pure,ih]
theorem qj(ps:Array (Nat×Operand))(ρ:Operand→Value):(ps.map fun(k,x)=>(k,ρ x)).toList=(ps.toList.map (·.1)).zip (ps.toList.map fun p=>ρ p.2):=by
 rw[U4]
 induction ps.toList with
 |nil=>rfl
 |cons p l ih=>simp[ih]
theorem PR(hT:Gr E)(t:TypeId)(ps:Array (Nat×Operand)){tm:Tm}{ρ:Operand→Value}(hR:Rel i s w)(hρ:TR i tm ρ){v:Value}{s':AS}(h:Fs t ps E tm s=some (v,s')):
  Sim E i s w (Instr.build t (ps.map fun(k,x)=>(k,ρ x))) v s':=by
 unfold Fs at h;split at h
 ·rename_i ti l ht hl;obtain⟨hl1,hl2⟩:=qh hρ hl;obtain⟨zv,hz1,hz2,hz3,_⟩:=Dn hT ht w;have hzc:VRs i ti.zero zv.cells.toList:=by rw[←hz2];exact(hz3 i).cells
  have hd:=G0 hT ht w;split at h
  ·rename_i fs hdesc;split at h
   ·cases h
   ·rename_i pl hpl;split at h
    ·cases h
    ·rename_i cs hcs;cases h;obtain⟨r',h1,h2⟩:=gj (i:=i) (fun k=>pl[k]?) l _ _ ti.zero zv.cells.toList cs hl1 hl2 hzc hcs;refine Sim.ofPure hR (v':=.agg ⟨r'⟩) ?_ (.agg h2);unfold Instr.build;have hp:=HQ (w:=w) hT hpl;simp only[Sem.run_bind,hz1,hd,hdesc,Result.andThen_ok];rw[Array.mapM_eq_mapM_toList];simp only[Sem.run_map,hp,Result.andThen_ok];rw[qj];have:Instr.fill (fun x=>pl.toArray[x]?) zv.cells ((ps.toList.map (·.1)).zip (ps.toList.map fun p=>ρ p.2))=some ⟨r'⟩:=by
      rw[show(fun x=>pl.toArray[x]?)=fun k=>pl[k]? by funext k;simp];exact h1
     rw[this];rfl
  ·rename_i m e hdesc;split at h
   ·cases h
   ·rename_i tj hj;split at h
    ·cases h
    ·rename_i cs hcs;cases h;obtain⟨r',h1,h2⟩:=gj (i:=i) (fun k=>some (k*tj.size,tj.size)) l _ _ ti.zero zv.cells.toList cs hl1 hl2 hzc hcs;refine Sim.ofPure hR (v':=.agg ⟨r'⟩) ?_ (.agg h2);unfold Instr.build;simp only[Sem.run_bind,hz1,hd,hdesc,Hz hT hj,Result.andThen_ok];rw[qj];have:Instr.fill (fun i=>some (i*tj.size,tj.size)) zv.cells ((ps.toList.map (·.1)).zip (ps.toList.map fun p=>ρ p.2))=some ⟨r'⟩:=h1;rw[this];rfl
  ·cases h
 ·cases h
theorem Iy(n:Nat)(l:List Value):(rep n l).length=n*l.length:=by
 induction n with
 |zero=>simp only[Nat.zero_mul];rfl
 |succ n ih=>
  show(l++rep n l).length=_;rw[List.length_append,ih,Nat.succ_mul];omega
theorem PT(n:Nat)(l:List Value)(k:Nat)(h:k<n*l.length):(rep n l)[k]? =l[k%l.length]? :=by
 induction n generalizing k with
 |zero=>omega
 |succ n ih=>
  show(l++rep n l)[k]? =_;rw[List.getElem?_append];by_cases hk:k<l.length
  ·rw[if_pos hk,Nat.mod_eq_of_lt hk]
  ·rw[if_neg hk,ih _ (by rw[Yv,Nat.one_mul]at h;omega)];congr 1;exact(Nat.mod_eq_sub_mod (by omega)).symm
theorem VRs.rep(n:Nat){l l':List Value}(h:VRs i l l'):VRs i (rep n l) (rep n l'):=by
 induction n with
 |zero=>exact .nil
 |succ n ih=>exact h.append ih
theorem Iz(n:Nat)(zc:Array Value):((Vr (n*zc.size)).map (fun k=>zc[k%zc.size]!)).toList=rep n zc.toList:=by
 apply Zm5;intro k;simp only[U4,Array.toList_range,Zy];by_cases hk:k<n*zc.size
 ·rw[J9 hk,PT _ _ _ (by simpa using hk)];have hpos:0<zc.size:=by
   rcases Nat.eq_zero_or_pos zc.size with h|h
   ·rw[h]at hk;omega
   ·exact h
  have hm:=Kb k hpos;simp only[Xc,Y6];rw[getElem!_pos zc _ hm,Yx,Y5 hm]
 ·rw[Xr (by simpa using hk),Xr (by rw[Iy];simpa using hk)];rfl
theorem PQ(hT:Gr E)(t:TypeId)(n:Nat)(ps:Array (Nat×Operand)){tm:Tm}{ρ:Operand→Value}(hR:Rel i s w)(hρ:TR i tm ρ){v:Value}{s':AS}(h:N1 t n ps E tm s=some (v,s')):
  Sim E i s w (Instr.buildSlice t n (ps.map fun(k,x)=>(k,ρ x))) v s':=by
 unfold N1 at h;split at h
 ·rename_i ti l ht hl;obtain⟨hl1,hl2⟩:=qh hρ hl;have hd:=G0 hT ht w;split at h
  ·rename_i e hdesc;split at h
   ·cases h
   ·rename_i tj hj;cases hb:Zb (n*tj.size) 65536 with
    |false=>rw[hb]at h;cases h
    |true=>
     rw[hb,cond_true]at h;have hle:n*tj.size≤65536:=by simpa using hb
     split at h
     ·cases h
     ·rename_i cs hcs;cases h;obtain⟨zv,hz1,hz2,hz3,_,_,hzl⟩:=Dn hT hj w;have hrc:VRs i (rep n tj.zero) (rep n zv.cells.toList):=VRs.rep n (by rw[←hz2];exact(hz3 i).cells);obtain⟨r',h1,h2⟩:=gj (i:=i) (fun k=>some (k*tj.size,tj.size)) l _ _ _ _ cs hl1 hl2 hrc hcs;have hzs:zv.cells.size=tj.size:=by rw[←Y6,hz2];exact hzl
      have key:(Instr.buildSlice t n (ps.map fun(k,x)=>(k,ρ x))).run E.P w=.ok (.slice (some ⟨w.heap.size,0,none⟩) n n) (Hn w (.cells r'.toArray e (0,0))):=by
       unfold Instr.buildSlice;simp only[Sem.run_bind,hd,hdesc,Hz hT hj,Result.andThen_ok];rw[if_neg (by omega)];have hf:∀zc:Array Value,((Vr (n*tj.size)).map (fun k=>zc[k%zc.size]!)).toList=rep n zv.cells.toList→
         Instr.fill (fun i=>some (i*tj.size,tj.size)) ((Vr (n*tj.size)).map (fun k=>zc[k%zc.size]!)) (ps.map fun(k,x)=>(k,ρ x)).toList=some ⟨r'⟩:=by
        intro zc hzc;rw[qj,←h1];congr 1;exact Yt hzc
       by_cases hz0:n*tj.size=0
       ·rw[if_pos hz0];have:=hf #[] (by
         rw[hz0];have:(rep n zv.cells.toList).length=0:=by rw[Iy,Y6,hzs,hz0]
         rw[Vg this];simp)
        simp only[Sem.run_bind,Sem.run_pure,Result.andThen_ok,this,newRow,run_newObj];rfl
       ·rw[if_neg hz0];have:=hf zv.cells (by rw[←hzs];exact Iz n zv.cells);simp only[Sem.run_bind,Sem.run_pure,Result.andThen_ok,hz1,this,newRow,run_newObj];rfl
      obtain⟨g1,g2,g3⟩:=hR.rowz h2 0 r'.toArray e (fun h=>absurd rfl h) (0,0) (.inl rfl) (by simp[h2.length]) (fun k _=>by simp) (0,0) ⟨rfl,Zj _⟩;exact⟨_,_,_,key,.slice (G8 _ _ _) (by omega) (by omega) (by omega) (.inl rfl) (fun h0=>by omega),g1,g2⟩
  ·cases h
 ·cases h
end
end Go.Ax
namespace Go.Ax
open Go
section
variable {E:Env}{i:Io}{s:AS}{w:World}
theorem PW(hT:Gr E)(t:TypeId)(r:Option Operand){tm:Tm}{ρ:Operand→Value}(hR:Rel i s w)(hρ:TR i tm ρ){v:Value}{s':AS}(h:fp t r E tm s=some (v,s')):
  Sim E i s w (Instr.makeMap t (r.map ρ)) v s':=by
 have hnew:Sim E i s w (do Pure.pure (.map (some (←newObj (.map #[] 0))))) (.map (some s.nx)) (s.new (.map [])):=by
  obtain⟨h1,h2⟩:=hR.new (lm:=(0,0)) (o:=.map []) (x:=.map #[] 0) ⟨rfl, #[],0,[],rfl,List.Perm.refl _,.nil,Xx.nil,.nil _⟩;exact⟨_,_,_,rfl,.map (G8 _ _ _),h1,h2⟩
 unfold fp at h;cases r with
 |none=>cases h;exact hnew
 |some x=>
  simp only at h;split at h
  ·rename_i kt et a b c k n ht hn;cases h;have hc:=hρ x _ hn;generalize hg:ρ x=y at hc;cases hc;obtain⟨v',w',i',g1,g2,g3,g4⟩:=hnew;refine⟨v',w',i',?_,g2,g3,g4⟩;unfold Instr.makeMap;simp only[Xc,hg];have hd:=G0 hT ht w;simp only[Sem.run_bind,hd,Result.andThen_ok];simpa[asInt,asIntOf]using g1
  ·cases h
theorem PL(hT:Gr E)(t:TypeId)(l c:Operand){tm:Tm}{ρ:Operand→Value}(hR:Rel i s w)(hρ:TR i tm ρ){v:Value}{s':AS}(h:Ta t l c E tm s=some (v,s')):
  Sim E i s w (Instr.makeSlice t (ρ l) (ρ c)) v s':=by
 unfold Ta at h;split at h
 ·rename_i ti k n k' m ht hn hm;have hcn:=hρ l _ hn;generalize hgn:ρ l=yn at hcn;cases hcn;have hcm:=hρ c _ hm;generalize hgm:ρ c=ym at hcm;cases hcm;have hd:=G0 hT ht w;split at h
  ·rename_i e hdesc;split at h
   ·cases h
   ·rename_i tj hj;split at h
    ·rename_i hcond;cases h;obtain⟨c1,c2,c3,c4⟩:=hcond;obtain⟨zv,hz1,hz2,hz3,_,_,hzl⟩:=Dn hT hj w;obtain⟨info,hi1,hi2,hi3⟩:=z9 hT hj w;have hzs:zv.cells.size=tj.size:=by rw[←Y6,hz2];exact hzl
     have hw1:IntKind.i64.wrap n=n:=by
      rw[←gh];show wrS 18446744073709551616 9223372036854775808 n=n;rw[F6 _ _ (by decide)];unfold small at c4;have:n%((18446744073709551616:Nat):Int)=n:=Uh c1 (by omega);rw[this,if_neg (by omega)]
     have hw2:IntKind.i64.wrap m=m:=by
      rw[←gh];show wrS 18446744073709551616 9223372036854775808 m=m;rw[F6 _ _ (by decide)];unfold small at c4;have:m%((18446744073709551616:Nat):Int)=m:=Uh (by omega) (by omega);rw[this,if_neg (by omega)]
     have key:(Instr.makeSlice t (.int k n) (.int k' m)).run E.P w=.ok (.slice (some ⟨w.heap.size,0,none⟩) n.toNat m.toNat) (Hn w (.cells (rep m.toNat zv.cells.toList).toArray e (0,0))):=by
      unfold Instr.makeSlice;simp only[Sem.run_bind,hd,hdesc,Result.andThen_ok,asInt,asIntOf,Sem.run_pure,hi1,hi3,hw1,hw2,Hz hT hj];have hbig:(tj.bytes:Int)*m≤small:=by rw[Int.mul_comm];exact c3
      have hneg:¬((decide (m<0)||decide ((tj.bytes:Int)*m>2^48)||decide (n<0)||decide (n>m))=true):=by
       simp only[Yq,decide_eq_true_eq];unfold small at hbig;omega
      rw[if_neg hneg];simp only[Sem.run_bind,run_askRoom,Result.andThen_ok,Sem.run_pure,Hz hT hj];by_cases hz0:m.toNat* tj.size=0
      ·rw[if_pos hz0];have hr0:rep m.toNat zv.cells.toList=[]:=by
        apply Vg;rw[Iy,Y6,hzs,hz0]
       have hm0:(Vr 0).map (fun k=>(#[]:Array Value)[k%(#[]:Array Value).size]!)= #[]:=by simp
       simp only[Sem.run_bind,Sem.run_pure,Result.andThen_ok,hz0,newRow,run_newObj,hr0,hm0];rfl
      ·rw[if_neg hz0];have:(Vr (m.toNat* tj.size)).map (fun k=>zv.cells[k%zv.cells.size]!)=(rep m.toNat zv.cells.toList).toArray:=by
        apply Yt;rw[←hzs,Iz]
       simp only[Sem.run_bind,hz1,Result.andThen_ok,Sem.run_pure,this,newRow,run_newObj];rfl
     have hrc:VRs i (rep m.toNat tj.zero) (rep m.toNat zv.cells.toList):=VRs.rep _ (by rw[←hz2];exact(hz3 i).cells);obtain⟨g1,g2,g3⟩:=hR.rowz hrc 0 (rep m.toNat zv.cells.toList).toArray e (fun h=>absurd rfl h) (0,0) (.inl rfl) (by simp[hrc.length]) (fun k _=>by simp) (0,0) ⟨rfl,Zj _⟩;exact⟨_,_,_,key,.slice (G8 _ _ _) (by omega) (by omega) (by omega) (.inl rfl) (fun h0=>by omega),g1,g2⟩
    ·cases h
  ·cases h
 ·cases h
theorem PP(hT:Gr E)(t:TypeId)(x:Operand){tm:Tm}{ρ:Operand→Value}(hR:Rel i s w)(hρ:TR i tm ρ){v:Value}{s':AS}(h:m9 t x E tm s=some (v,s')):
  Sim E i s w (Instr.range t (ρ x)) v s':=by
 unfold m9 at h;split at h
 ·rename_i ti b ht hb;have hc:=hρ x _ hb;generalize hg:ρ x=y at hc;cases hc;have hd:=G0 hT ht w;split at h
  ·rename_i hdesc;cases h;obtain⟨h1,h2⟩:=hR.new (lm:=(0,0)) (o:=.iter b 0) (x:=.stringIter b 0) ⟨rfl,rfl⟩;refine⟨_,_,_,?_,.ptr (q:=w.heap.size) (t:=0) (G8 _ _ _),h1,h2⟩;unfold Instr.range;simp[hd,hdesc,Hn]
  ·cases h
 ·cases h
theorem SZ(it:Operand)(str:Bool)(ty:TypeId){tm:Tm}{ρ:Operand→Value}(hR:Rel i s w)(hρ:TR i tm ρ){v:Value}{s':AS}(h:pf it str E tm s=some (v,s')):
  Sim E i s w (Instr.next (ρ it) str ty) v s':=by
 unfold pf at h;split at h
 ·rename_i r hr;have hc:=hρ it _ hr;generalize hg:ρ it=y at hc;cases hc with
  | @ptr b o q t' hi=>
   split at h
   ·rename_i b p hb;obtain⟨ht0,hx⟩:=hR.at (P:=default) hb rfl hi;subst ht0;have hgo:(getObj q).run E.P w=.ok (.stringIter b p) w:=by simp[getObj,Sem.run,hx]
    have hso:∀o,(setObj q o).run E.P w=.ok () (Hh w q o):=by intro o;simp[setObj,Sem.run,hx,Hh]
    split at h
    ·rename_i hlt;cases h;obtain⟨h1,h2⟩:=hR.upd (w':=Hh w q (.stringIter b (p+(Utf8.decode b p).2))) (o':=.iter b (p+(Utf8.decode b p).2)) hb rfl rfl hi (fun k hk=>fv hk) (fw _ _ _) rfl rfl rfl
      (fun _=>⟨rfl,Dm hx⟩)
     refine⟨_,_,i,?_,.tuple (.cons (.bool true) (.cons (.int _ _) (.cons (.int _ _) .nil))),h1,h2⟩;unfold Instr.next;simp only[Yg,Sem.run_bind,hgo,Result.andThen_ok];rw[if_pos hlt];simp only[Sem.run_bind,hso,Result.andThen_ok];rfl
    ·rename_i hlt;cases h;refine Sim.ofPure hR (v':=.tuple #[.bool false]) ?_ (.tuple (.cons (.bool false) .nil));unfold Instr.next;simp only[Yg,Sem.run_bind,hgo,Result.andThen_ok];rw[if_neg hlt];rfl
   ·cases h
 ·cases h
theorem SY(hT:Gr E)(x:Operand)(xt t:TypeId)(ok:Bool){tm:Tm}{ρ:Operand→Value}(hR:Rel i s w)(hρ:TR i tm ρ){v:Value}{s':AS}(h:Td x t ok E tm s=some (v,s')):
  Sim E i s w (Instr.typeAssert (ρ x) xt t ok) v s':=by
 unfold Td at h;split at h
 ·rename_i ti u y ht hx;have hc:=hρ x _ hx;generalize hg:ρ x=y' at hc;cases hc with
  | @iface _ _ y'' hy=>
   have hd:=G0 hT ht w;split at h
   ·cases h
   ·rename_i hni;cases hb:Za u t with
    |false=>rw[hb]at h;cases h
    |true=>
     rw[hb,cond_true]at h;cases h;have hut:u=t:=by simpa using hb
     subst hut;have hrun:(Instr.typeAssert (.iface u y'') xt u ok).run E.P w=.ok (if ok then .tuple #[y'',.bool true]else y'') w:=by
      unfold Instr.typeAssert;simp only[Sem.run_bind,hd,Result.andThen_ok];cases hdd:ti.desc<;>first
       |exact absurd hdd (hni _)
       |simp
     refine Sim.ofPure hR hrun ?_;cases ok with
     |true=>exact .tuple (.cons hy (.cons (.bool true) .nil))
     |false=>exact hy
 ·cases h
theorem SX(op:UnOp)(x:Operand){tm:Tm}{ρ:Operand→Value}(hR:Rel i s w)(hρ:TR i tm ρ){v:Value}{s':AS}(h:hUn op x E tm s=some (v,s')):
  Sim E i s w (Op.unary op (ρ x)) v s':=by
 unfold hUn at h;split at h
 ·rename_i u hu;have hc:=hρ x _ hu;split at h
  ·rename_i r hr;cases h;split at hr
   ·unfold GW at hr;split at hr
    ·rename_i b;cases hr;generalize hg:ρ x=y at hc;cases hc;exact Sim.ofPure hR rfl (.bool _)
    ·cases hr
   ·cases hr
  ·cases hp:plain u with
   |false=>rw[hp]at h;cases h
   |true=>
    rw[hp,cond_true]at h;split at h
    ·rename_i r hr;cases hp2:plain r with
     |false=>rw[hp2]at h;cases h
     |true=>
      rw[hp2]at h;cases h;rw[p9 hc hp];exact Sim.ofPure hR (ZU E.P _ _ hr w) (ZJ hp2)
    ·cases h
 ·cases h
theorem HW(l:List UInt8):VRs i (l.map fun c=>Value.int .u8 c.toNat) (l.map fun c=>Value.int .u8 c.toNat):=by
 induction l with
 |nil=>exact .nil
 |cons a l ih=>exact .cons (.int _ _) ih
theorem ZH :∀ {l l':List Value} {bs:List UInt8},VRs i l l'→Bp l=some bs→∃ns:List Int,l'=ns.map (Value.int .u8)∧bs=ns.map fun n=>UInt8.ofNat n.toNat
 |_,_,bs,.nil,h=>by simp only[Bp,Option.some.injEq]at h;subst h;exact⟨[],rfl,rfl⟩
 |_,_,bs,.cons hv hl,h=>by
  cases hv<;>first|(simp[Bp]at h;done)|skip
  rename_i k n;cases k<;>first|(simp[Bp]at h;done)|skip
  simp only[Bp]at h;split at h
  ·cases h
  ·rename_i r hr;cases h;obtain⟨ns,h1,h2⟩:=ZH hl hr;exact⟨n::ns,by rw[h1];rfl,by rw[h2];rfl⟩
theorem SV(ns:List Int):∀(b:ByteArray),ns.foldl (fun r n=>r.push (UInt8.ofNat n.toNat)) b=⟨⟨b.data.toList++ns.map fun n=>UInt8.ofNat n.toNat⟩⟩:=by
 induction ns with
 |nil=>intro b;simp
 |cons n ns ih=>
  intro b;rw[Jj,ih];congr 1;apply Yt;simp[ByteArray.push]
theorem SU{a b:TypeId}{u u':Value}(hR:Rel i s w)(hc:VR i u u'){v:Value}{s':AS}(h:Ir E s a b u=some (v,s')):Sim E i s w (convert a b u') v s':=by
 unfold Ir at h;cases hp:plain u with
 |false=>rw[hp]at h;cases h
 |true=>
  rw[hp,cond_true]at h;split at h
  ·rename_i r hr;cases hp2:plain r with
   |false=>rw[hp2]at h;cases h
   |true=>
    rw[hp2]at h;cases h;rw[p9 hc hp];exact Sim.ofPure hR (ZU E.P _ _ hr w) (ZJ hp2)
  ·cases h
theorem SJ(hT:Gr E)(a b:TypeId)(x:Operand){tm:Tm}{ρ:Operand→Value}(hR:Rel i s w)(hρ:TR i tm ρ){v:Value}{s':AS}(h:N2 a b x E tm s=some (v,s')):
  Sim E i s w (convert a b (ρ x)) v s':=by
 unfold N2 at h;split at h
 ·rename_i u hu;have hc:=hρ x _ hu;unfold Cy at h;split at h
  ·rename_i si di hsi hdi;have hs:=G0 hT hsi w;have hd:=G0 hT hdi w;obtain⟨_,_,hsu,_⟩:=hT.ty a si hsi;obtain⟨_,_,hdu,_⟩:=hT.ty b di hdi;split at h
   ·rename_i k k' n hdesc;generalize hg:ρ x=y at hc;cases hc;simp only[Bv]at h;cases h;refine Sim.ofPure hR ?_ (.int _ _);simp[convert,hs,hd,hdesc,Conv.intToInt]
   ·rename_i bs hdesc;generalize hg:ρ x=y at hc;cases hc;cases h;refine Sim.ofPure hR ?_ (.string _);simp[convert,hs,hd,hdesc]
   ·rename_i e bs hdesc;generalize hg:ρ x=y at hc;cases hc;split at h
    ·rename_i tz1 tz2 tz3 he;cases h;obtain⟨_,_,heu,_⟩:=hT.ty e _ he;rw[hdesc]at hdu;have key:=Lib.run_convert_string_bytes (P:=E.P) w a b e bs hsu hdu heu;have hnew:=Lib.bytesWorld_at_new w e bs;have hsz:=Lib.bytesWorld_size w e bs;have hcs:bs.size≤(Lib.bytesCells w e bs).size:=by simp[Lib.bytesCells]
     have hget:∀k,k<(bs.data.toList.map fun c=>Value.int .u8 c.toNat).length→(Lib.bytesCells w e bs)[k]? =(bs.data.toList.map fun c=>Value.int .u8 c.toNat)[k]? :=by
      intro k hk;have hk':k<bs.data.size:=by simpa using hk
      unfold Lib.bytesCells;rw[Array.getElem?_append_left (by simpa using hk')];rw[←Yx,U4]
     obtain⟨g1,g2,g3⟩:=hR.rowz (HW (i:=i) bs.data.toList) 3 (Lib.bytesCells w e bs) e (fun h=>absurd rfl h) ((Lib.bytesCells w e bs).size,(Lib.bytesCells w e bs).size+1) (.inr ⟨rfl,Ze _⟩)
      (by simpa using hcs) hget (1,(Lib.bytesCells w e bs).size) ⟨rfl,Ze _⟩
     have hheap:(Lib.bytesWorld w e bs).heap=(Hn w (.cells (Lib.bytesCells w e bs) e ((Lib.bytesCells w e bs).size,(Lib.bytesCells w e bs).size+1))).heap:=by
      apply Array.ext_getElem?;intro j;by_cases hj:j<w.heap.size
      ·rw[Lib.bytesWorld_at_old w e bs j hj,F5 hj]
      ·by_cases hj2:j=w.heap.size
       ·subst hj2;rw[hnew,pr]
       ·rw[Uz (by omega),Uz (by rw[Iv];omega)]
     refine⟨_,_,_,key,?_,g1.same hheap,g2.trans (Fr.same hheap rfl rfl rfl)⟩;have hg:=grownCap_ge w bs.size 0 e;refine .slice (G8 _ _ _) (by omega) (by omega) (by omega) (.inl rfl) (fun _ _=>?_);rw[B7];simp[Lib.bytesCells];omega
    ·cases h
   ·rename_i e aa n c hsdesc hddesc;generalize hg:ρ x=y at hc;split at h
    ·rename_i tz1 tz2 tz3 he;obtain⟨_,_,heu,_⟩:=hT.ty e _ he;rw[hsdesc]at hsu;rw[hddesc]at hdu;split at h
     ·cases h;cases hc;refine Sim.ofPure hR (v':=.string .empty) ?_ (.string _);rw[run_convert_bytes_string w a b e _ _ _ hsu heu hdu];rfl
     ·rename_i ad;cases hc with
      | @slice b1 o q t' _ _ p c' hi h1 h2 h3 h4=>
       cases hz:Za n 0 with
       |true=>
        rw[hz,cond_true]at h;cases h;have hn0:n=0:=by simpa using hz
        subst hn0;refine Sim.ofPure hR (v':=.string .empty) ?_ (.string _);rw[run_convert_bytes_string w a b e _ _ _ hsu heu hdu,run_bytesToString w _ 0 c' [] rfl];rfl
       |false=>
        rw[hz,cond_false]at h;have hn0:n≠0:=fun e=>by rw[e]at hz;cases hz
        split at h
        ·cases h
        ·rename_i l hl;split at h
         ·cases h
         ·rename_i bs hbs;cases h;obtain⟨l',g1,g2,g3⟩:=hR.rdN (P:=E.P) hl hi;obtain⟨ns,e1,e2⟩:=ZH g2 hbs;have hp:p=t'+o:=h4.resolve_right (by omega);subst hp;rw[e1]at g1;refine Sim.ofPure hR (v':=.string ⟨⟨bs⟩⟩) ?_ (.string _);rw[run_convert_bytes_string w a b e _ _ _ hsu heu hdu,run_bytesToString w _ n c' ns g1,SV,e2];simp
    ·cases h
   ·rename_i e0 e ad n c hsdesc hddesc;generalize hg:ρ x=y at hc;cases hab:Za a b with
    |false=>rw[hab]at h;cases h
    |true=>
     rw[hab,cond_true]at h;have hab':a=b:=by simpa using hab
     split at h
     ·rename_i tz1 tz2 tz3 he;have heu:=G0 hT he w;rw[hsdesc]at hs;rw[hddesc]at hd;split at h
      ·rename_i ct m z hblk;cases h;cases hc with
       | @slice b1 o q t' _ _ p c' hi h1 h2 h3 h4 h5=>
        obtain⟨cs,e2,fr,g1,g2,g3,g4,g5⟩:=hR.at (P:=E.P) hblk rfl hi;obtain⟨lo,hi2⟩:=fr
        let fr':Nat×Nat:=if lo==hi2 then(cs.size,cs.size+1)else(min lo cs.size,max hi2 (cs.size+1))
        have hfr':cs.size≤fr'.1:=by
         simp only[fr'];by_cases hlh:lo=hi2
         ·simp[hlh]
         ·have:(lo==hi2)=false:=by simpa using hlh
          rw[this];simp only[Vp,if_false];rcases g3 with g3|g3
          ·exact absurd g3 hlh
          ·have:=g3.2;simp only at this;omega
        have hw:w.freeze ⟨q,cs.size,none⟩ 1=Hh w q (.cells cs e2 fr'):=by
         unfold World.freeze Hh;simp only[Nat.one_ne_zero,if_false];congr 1;have hq:=lt_of_some g1;apply Zmx
         ·simp
         ·intro j j1 j2;rw[Zm1,Zmy];by_cases hj:q=j
          ·subst hj;have:w.heap[q]=.cells cs e2 (lo,hi2):=by simpa[Y5 hq]using g1
           rw[if_pos rfl,if_pos rfl,this]
          ·rw[if_neg hj,if_neg hj]
        have hsh:w.shape? q=some (e2,cs.size):=by unfold World.shape?;rw[g1]
        have hupd:=hR.upd (w':=Hh w q (.cells cs e2 fr')) (o':=.cells ct m (2*(z/2)+1)) hblk rfl rfl hi (fun k hk=>fv hk) (fw _ _ _) rfl rfl rfl
         (fun _=>by
          rw[Dm g1];exact⟨cs,e2,fr',rfl,g2,.inr ⟨by omega,hfr'⟩,g4,fun h=>by
           have e1:ze (2*(z/2)+1)=ze z:=by unfold ze;omega
           have e2:zs (2*(z/2)+1)=zs z:=by unfold zs;omega
           rw[e1]at h;rw[e1,e2];exact g5 h⟩)
         (fun c2 n2 z2 h2'=>by
          cases h2';obtain⟨l1,l2⟩:=hR.lim _ _ _ _ _ _ hblk hi;refine⟨by rw[l1];unfold zs;omega,fun cs3 e3 fr3 h3'=>?_⟩;rw[Dm g1]at h3';cases h3';exact l2 _ _ _ g1)
        refine⟨_,_,_,?_,.slice hi h1 h2 h3 h4 h5,hupd.1,hupd.2⟩;subst hab';have hee:e0=e:=by
         have:=hs.symm.trans hd;cases this;rfl
        subst hee;unfold convert;simp only[Sem.run_bind,hs,hd,heu,Result.andThen_ok,beq_self_eq_true,markStringish,run_shape,hsh,run_freeze,Sem.run_pure];rw[hw]
      ·cases h
     ·cases h
   ·
    rename_i t0 p hsdesc hddesc;generalize hg:ρ x=y at hc;rw[hsdesc]at hsu;rw[hddesc]at hdu;cases p with
    |none=>
     cases h;cases hc;refine Sim.ofPure hR (v':=.pointer none) ?_ .nilp;have hs:=G0 hT hsi w;have hd:=G0 hT hdi w;rw[hsdesc]at hs;rw[hddesc]at hd;simp[convert,hs,hd,Conv.unsafePointer]
    |some ad=>
     simp only at h;split at h
     ·rename_i j hj;cases hz:Za j.size 0 with
      |true=>rw[hz]at h;cases h
      |false=>
       rw[hz,cond_false]at h;split at h
       ·rename_i c m z hb;cases hlt:Zh ad.off m with
        |false=>rw[hlt]at h;cases h
        |true=>
         rw[hlt]at h;cases h;cases hc with
         | @ptr b o q t hi=>
          obtain⟨cs,e,fr,g1,g2,g3,g4,g5⟩:=hR.at (P:=E.P) hb rfl hi;obtain⟨info,q1,_,q3,_⟩:=hT.ty t0 j hj;have ho:o<m:=by simpa[Yj]using hlt
          exact Sim.ofPure hR (Lib.run_to_unsafe w ⟨q,t+o,none⟩ hsu hdu q1 (by rw[q3];intro h0;rw[h0]at hz;cases hz) (by unfold World.shape?;rw[g1]) (by show t+o<cs.size;omega)) (.ptr hi)
       ·cases h
     ·cases h
   ·
    rename_i t0 ad hsdesc hddesc;generalize hg:ρ x=y at hc;rw[hsdesc]at hsu;rw[hddesc]at hdu;split at h
    ·rename_i j c m z hj hb;cases hcond:(Za (ze z) (t0+1)&&Za (zs z) 0&&Za ad.off 0&&Zb j.size m&&Zb 1 j.size)with
     |false=>rw[hcond]at h;cases h
     |true=>
      rw[hcond]at h;cases h;simp only[Zi,X0,Nat.ble_eq]at hcond;obtain⟨⟨⟨⟨k1,k2⟩,k3⟩,k4⟩,k5⟩:=hcond;cases hc with
      | @ptr b o q t hi=>
       obtain⟨cs,e,fr,g1,g2,g3,g4,g5⟩:=hR.at (P:=E.P) hb rfl hi;obtain⟨info,q1,_,q3,_⟩:=hT.ty t0 j hj;obtain⟨f1,f2⟩:=g5 (by rw[k1];exact Nat.succ_ne_zero _);have he:e=t0:=by rw[k1]at f1;exact Nat.succ.inj f1
       subst he;have ht0:=f2 k2;subst ht0;simp only at k3;subst k3;have hcell:E.P.cellsOf e=j.size:=by simp[Program.cellsOf,q1,q3]
       refine Sim.ofPure hR (Lib.run_from_unsafe w ⟨q,0+0,none⟩ hsu hdu q1 (by unfold World.shape?;rw[g1]) ?_) (.ptr hi);rw[hcell];have hd1:E.P.depth=(2*(E.P.types.size+Made.depth)+1)+1:=rfl;have hdiv:1≤cs.size/j.size:=(Nat.one_le_div_iff (by omega)).2 (by omega);rw[hd1];simp only[liesAt,Yq];left;rw[hd1];have hne:j.size≠0:=by omega
       simp[rowAt,hcell,hne,sameLayout,hdiv]
    ·cases h
   ·exact SU hR hc h
  ·cases h
 ·cases h
end
end Go.Ax
namespace Go.Ax
open Go
section
variable {E:Env}{i:Io}{s:AS}{w:World}
instance:LawfulBEq ByteArray where
 rfl {a}:=by cases a with|mk d=>show(d==d)=true;simp
 eq_of_beq {a b} h:=by cases a with|mk d=>cases b with|mk e=>have:(d==e)=true:=h;simpa using this
def KK :Value→Value→Prop
 |.int k _,.int l _=>k=l
 |.string _,.string _=>True
 |.bool _,.bool _=>True
 |_,_=>False
def keq :Value→Value→Bool
 |.int k x,.int l y=>k==l&&x==y
 |.string x,.string y=>x==y
 |.bool x,.bool y=>x==y
 |_,_=>false
theorem I0{kt:TypeId}{a b:Value}{r:Bool}(h:Fl E kt a b=some r):KK a b∧r=keq a b:=by
 unfold Fl at h;split at h
 ·rename_i k x l y;cases hk:Hy k l with
  |false=>rw[hk]at h;cases h
  |true=>
   rw[hk]at h;cases h;obtain rfl:=HN hk;exact⟨rfl,by simp[keq,ieq_eq]⟩
 ·cases h;exact⟨trivial,rfl⟩
 ·cases h;exact⟨trivial,rfl⟩
 ·cases h
theorem B8{a b:Value}(h:keq a b=true):a=b:=by
 unfold keq at h;split at h
 ·simp only[Zi,beq_iff_eq]at h;rw[h.1,h.2]
 ·simp only[beq_iff_eq]at h;rw[h]
 ·simp only[beq_iff_eq]at h;rw[h]
 ·cases h
theorem HL{a b:Value}(h:KK a b):keq a a=true:=by
 unfold KK at h;split at h<;>first|cases h;done|simp[keq]
theorem qk{a b:Value}(h:KD a b):KK a b:=by
 unfold KD at h;split at h
 ·exact h.1
 ·exact trivial
 ·exact trivial
 ·cases h
theorem Do{a b:Value}(h:KD a b):keq a b=false:=by
 unfold KD at h;split at h
 ·obtain⟨_,h2⟩:=h;simp[keq,h2]
 ·simp[keq,h]
 ·simpa[keq]using h
 ·cases h
theorem SK{a b:Value}(h:KK a b):KK b a:=by
 unfold KK at h;split at h
 ·exact h.symm
 ·exact trivial
 ·exact trivial
 ·cases h
theorem SG{a b c:Value}(h:KK a b)(h':KK b c):KK a c:=by
 cases a<;>cases b<;>simp only[KK]at h<;>cases c<;>simp only[KK]at h' ⊢
 exact h.trans h'
theorem HP{a b:Value}(h:KK a b)(hn:keq a b=false):KD a b:=by
 cases a<;>cases b<;>simp only[KK]at h<;>simp only[KD,keq]at hn ⊢
 ·simpa using hn
 ·subst h;simpa using hn
 ·simpa using hn
theorem gm{a b:Value}(h:KD a b):KD b a:=by
 refine HP (SK (qk h)) ?_;cases hq:keq b a with
 |false=>rfl
 |true=>have:=B8 hq;subst this;rw[HL (qk h)]at *;have:=Do h;rw[HL (qk h)]at this;cases this
theorem SH{d:TypeDesc}{k a:Value}{ki:TI}(hd:ki.desc=d)(hk:Mo ki k=true)(h:KK k a):Instr.sameNow d k a=some (keq k a):=by
 subst hd;unfold Mo at hk;split at hk
 ·rename_i k' x _ hdesc;rw[hdesc];cases a<;>simp only[KK]at h
  subst h;simp[Instr.sameNow,keq]
 ·rename_i hdesc;rw[hdesc];cases a<;>simp only[KK]at h
  simp[Instr.sameNow,keq]
 ·rename_i hdesc;rw[hdesc];cases a<;>simp only[KK]at h
  simp[Instr.sameNow,keq]
 ·cases hk
theorem findNow_spec{d:TypeDesc}{k:Value}{ki:TI}(hd:ki.desc=d)(hk:Mo ki k=true):∀(l:List MapEntry) (j:Nat),(∀e∈l,KK k e.key)→
  Instr.findNow d k l j=some ((l.findIdx? fun e=>keq k e.key).map fun n=>(n+j,((l[n]?).map (·.val)).getD undef))
 |[],j,_=>rfl
 |e::l,j,h=>by
  simp only[Instr.findNow,SH hd hk (h e (by simp))];cases hq:keq k e.key with
  |true=>simp[Zm6,hq]
  |false=>
   simp only[];rw[findNow_spec hd hk l (j+1) (fun x hx=>h x (by simp[hx]))];rw[Zm6,hq];simp only[Vp,if_false,Option.map_map];cases List.findIdx? (fun e=>keq k e.key) l with
   |none=>rfl
   |some n=>simp[Ya,Nat.add_comm 1 j]
theorem MR.keys :∀ {es:List (Value×Value)} {l:List MapEntry},MR i es l→l.map (·.key)=es.map (·.1)
 |_,_,.nil=>rfl
 |_,_,.cons h _ h'=>by simp[h,h'.keys]
theorem ZM{kt:TypeId}{k:Value}:∀ {es:List (Value×Value)} {l:List MapEntry} {r:Option Value},MR i es l→N0 E kt k es=some r→
  (∀p∈es.head?,KK k p.1)∧(r=none→∀e∈l,keq k e.key=false)∧(∀v,r=some v→∃e∈l,keq k e.key=true∧VR i v e.val)
 |_,_,r,.nil,h=>by
  simp only[N0,Option.some.injEq]at h;subst h;exact⟨by simp,by simp,by simp⟩
 |(a,v)::es,e::l,r,.cons hk hv h',h=>by
  simp only[N0]at h;split at h
  ·cases h
  ·rename_i hq;cases h;obtain⟨h1,h2⟩:=I0 hq;refine⟨by simpa using h1,by simp,fun u hu=>?_⟩;cases hu;exact⟨e,by simp,by rw[hk];exact h2.symm,hv⟩
  ·rename_i hq;obtain⟨h1,h2⟩:=I0 hq;obtain⟨g1,g2,g3⟩:=ZM h' h;refine⟨by simpa using h1,fun hr x hx=>?_,fun u hu=>?_⟩
   ·rcases Zg.1 hx with rfl|hx
    ·rw[hk];exact h2.symm
    ·exact g2 hr x hx
   ·obtain⟨x,hx,hx2⟩:=g3 u hu;exact⟨x,by simp[hx],hx2⟩
theorem MZ{es:List (Value×Value)}{k:Value}(hp:es.Pairwise (fun a b=>KD a.1 b.1))(h:∀p∈es.head?,KK k p.1):∀p∈es,KK k p.1:=by
 cases es with
 |nil=>simp
 |cons p es=>
  have h0:KK k p.1:=h p (by simp);intro q hq;rcases Zg.1 hq with rfl|hq
  ·exact h0
  ·exact SG h0 (qk (List.rel_of_pairwise_cons hp hq))
theorem SN{es:List (Value×Value)}{l:List MapEntry}(h:MR i es l){k:Value}(hall:∀p∈es,KK k p.1):∀e∈l,KK k e.key:=by
 intro e he;have:e.key∈l.map (·.key):=Zl.2 ⟨e,he,rfl⟩;rw[h.keys]at this;obtain⟨p,hp,hpe⟩:=Zl.1 this;rw[←hpe];exact hall p hp
theorem qp{l:List MapEntry}(hp:l.Pairwise (fun a b=>KD a.key b.key)){k:Value}{a b:MapEntry}(ha:a∈l)(hb:b∈l)(hka:keq k a.key=true)(hkb:keq k b.key=true):a=b:=by
 induction l with
 |nil=>cases ha
 |cons x l ih=>
  rw[Yf]at hp;have ea:=B8 hka;have eb:=B8 hkb;rcases Zg.1 ha with rfl|ha'<;>rcases Zg.1 hb with rfl|hb'
  ·rfl
  ·have:=Do (hp.1 b hb');rw[←ea,←eb]at this;rw[←eb,this]at hkb;cases hkb
  ·have:=Do (gm (hp.1 a ha'));rw[←ea,←eb]at this;rw[←eb,this]at hkb;cases hkb
  ·exact ih hp.2 ha' hb'
theorem MR.pair{es:List (Value×Value)}{l:List MapEntry}(h:MR i es l)(hp:es.Pairwise (fun a b=>KD a.1 b.1)):l.Pairwise (fun a b=>KD a.key b.key):=by
 have h1:(es.map (·.1)).Pairwise KD:=Jm.2 hp;rw[←h.keys]at h1;exact Jm.1 h1
theorem ZN(hT:Gr E){kt:TypeId}{ki:TI}(hki:E.ty.get kt=some ki){k:Value}(hk:Mo ki k=true){es:List (Value×Value)}{es':Array MapEntry}{l:List MapEntry}(hl:l.Perm es'.toList)(hm:MR i es l)
  (hp:es.Pairwise (fun a b=>KD a.1 b.1)) {r:Option Value} (h:N0 E kt k es=some r):
  ∃r':Option (Nat×Value),(Instr.findKey kt k es'.toList).run E.P w=.ok r' w∧(r=none→r'=none∧∀e∈es'.toList,keq k e.key=false)∧
   (∀v,r=some v→∃n v' e,r'=some (n,v')∧es'.toList[n]? =some e∧keq k e.key=true∧e.val=v'∧VR i v v'):=by
 obtain⟨h1,h2,h3⟩:=ZM hm h;have hall:=SN hm (MZ hp h1);have hall':∀e∈es'.toList,KK k e.key:=fun e he=>hall e (hl.mem_iff.2 he);have hd:=G0 hT hki w;refine⟨(es'.toList.findIdx? fun e=>keq k e.key).map fun n=>(n+0,((es'.toList[n]?).map (·.val)).getD undef),?_,?_,?_⟩
 ·unfold Instr.findKey;simp only[Sem.run_bind,hd,Result.andThen_ok,findNow_spec rfl hk _ 0 hall'];rfl
 ·intro hr;have:∀e∈es'.toList,keq k e.key=false:=fun e he=>h2 hr e (hl.mem_iff.2 he);refine⟨?_,this⟩;rw[Kd.2 (by simpa using this)];rfl
 ·intro v hv;obtain⟨e,he,hke,hve⟩:=h3 v hv;have he':e∈es'.toList:=hl.mem_iff.1 he;cases hf:es'.toList.findIdx? fun e=>keq k e.key with
  |none=>
   have:=Kd.1 hf e he';rw[hke]at this;cases this
  |some n=>
   obtain⟨hn,hkn,_⟩:=List.findIdx?_eq_some_iff_getElem.1 hf;have hmem:es'.toList[n]∈l:=hl.mem_iff.2 (List.getElem_mem hn);have hu:=qp (hm.pair hp) he hmem hke hkn;have hn':es'.toList[n]? =some es'.toList[n]:=List.getElem?_eq_getElem hn;refine⟨n,es'.toList[n].val,es'.toList[n],?_,hn',hkn,rfl,by rw[←hu];exact hve⟩;rw[Xc,hn'];rfl
theorem C5{q:Nat}{es':Array MapEntry}{clk:Nat}(h:w.heap[q]? =some (.map es' clk))(P:Program):(getObj q).run P w=.ok (.map es' clk) w:=by simp[getObj,Sem.run,h]
theorem I1{q:Nat}{es':Array MapEntry}{clk:Nat}(h:w.heap[q]? =some (.map es' clk))(P:Program)(o:Obj):(setObj q o).run P w=.ok () (Hh w q o):=by simp[setObj,Sem.run,h,Hh]
theorem Tk(hT:Gr E){kt:TypeId}{ki:TI}(hki:E.ty.get kt=some ki){k:Value}(hk:Mo ki k=true)(b:Bool)(n:Nat):(Instr.checkKey b (n+1) kt k).run E.P w=.ok () w:=by
 have hd:=G0 hT hki w;rw[Instr.checkKey];simp only[Sem.run_bind,hd,Result.andThen_ok];unfold Mo at hk;split at hk
 ·rename_i hdesc;rw[hdesc];rfl
 ·rename_i hdesc;rw[hdesc];rfl
 ·rename_i hdesc;rw[hdesc];rfl
 ·cases hk
theorem ZB{ki:TI}{k k':Value}(hk:Mo ki k=true)(h:VR i k k'):k'=k:=by
 unfold Mo at hk;split at hk<;>first|(cases hk;done)|(cases h;rfl)
theorem SB(hT:Gr E)(t:TypeId)(x y:Operand)(ok:Bool){tm:Tm}{ρ:Operand→Value}(hR:Rel i s w)(hρ:TR i tm ρ){v:Value}{s':AS}(h:Tb t x y ok E tm s=some (v,s')):
  Sim E i s w (Instr.lookup t (ρ x) (ρ y) ok) v s':=by
 unfold Tb at h;split at h
 ·rename_i ti m k ht hm hk;have hcm:=hρ x _ hm;generalize hgm:ρ x=m' at hcm;have hck:=hρ y _ hk;have hd:=G0 hT ht w;split at h
  ·rename_i kt et hdesc;split at h
   ·rename_i ki ei hki hei;cases hko:Mo ki k with
    |false=>rw[hko]at h;cases h
    |true=>
     rw[hko,cond_true]at h;rw[ZB hko hck];obtain⟨zv,hz1,hz2,hz3,hz4,hz5,_⟩:=Dn hT hei w;have hzv:(bif Hw ei.desc then Value.agg ⟨ei.zero⟩else ei.zero.headD (.tuple #[]))=zv:=by
      cases ha:Hw ei.desc with
      |true=>rw[cond_true];exact(hz4 ha).symm
      |false=>rw[cond_false,hz5 ha];rfl
     split at h
     ·cases h
     ·rename_i o ho;cases h
      suffices hs:∃v',VR i (o.getD zv) v'∧(Instr.lookup t m' k ok).run E.P w=.ok (if ok then .tuple #[v',.bool o.isSome]else v') w by
       obtain⟨v',h1,h2⟩:=hs;refine Sim.ofPure hR h2 ?_;rw[hzv];cases ok with
       |true=>exact .tuple (.cons h1 (.cons (.bool _) .nil))
       |false=>exact h1
      cases hcm with
      |nilm=>
       cases ho;refine⟨zv,hz3 i,?_⟩;unfold Instr.lookup;simp only[Sem.run_bind,hd,hdesc,Result.andThen_ok,Sem.run_pure,Tk hT hki hko];have hf:(Instr.findKey kt k (#[]:Array MapEntry).toList).run E.P w=.ok none w:=by
        unfold Instr.findKey;simp only[Sem.run_bind,G0 hT hki,Result.andThen_ok];rfl
       simp only[hf,Result.andThen_ok,Sem.run_bind,hz1,Sem.run_pure];cases ok<;>rfl
      | @map b q hib=>
       simp only at ho;split at ho
       ·rename_i es hes;obtain⟨_,es',clk,l,hw1,hw2,hw3,hw4,hw5⟩:=hR.at (P:=E.P) hes rfl hib;obtain⟨r',g1,g2,g3⟩:=ZN (w:=w) hT hki hko hw2 hw3 hw4 ho;cases o with
        |none=>
         obtain⟨e1,_⟩:=g2 rfl;subst e1;refine⟨zv,hz3 i,?_⟩;unfold Instr.lookup;simp only[Sem.run_bind,hd,hdesc,Result.andThen_ok,C5 hw1,Sem.run_pure,Tk hT hki hko,g1,hz1];cases ok<;>rfl
        |some u=>
         obtain⟨n,v',e,e1,_,_,_,e5⟩:=g3 u rfl;subst e1;refine⟨v',e5,?_⟩;unfold Instr.lookup;simp only[Sem.run_bind,hd,hdesc,Result.andThen_ok,C5 hw1,Sem.run_pure,Tk hT hki hko,g1];cases ok<;>rfl
       ·cases ho
   ·cases h
  ·cases h
 ·cases h
end
end Go.Ax
namespace Go.Ax
open Go
section
variable {E:Env}{i:Io}{s:AS}{w:World}
def Dp(k v:Value)(p:Value×Value):Value×Value:=if keq k p.1 then(k,v)else p
def F7(k v:Value)(e:MapEntry):MapEntry:=if keq k e.key then {e with key:=k,val:=v}else e
theorem MY{kt:TypeId}{k v:Value}:∀ {es es':List (Value×Value)},es.Pairwise (fun a b=>KD a.1 b.1)→Fo E kt k v es=some es'→
  ∃r,N0 E kt k es=some r∧(r=none→es'=es++[(k,v)])∧(∀u,r=some u→es'=es.map (Dp k v))
 |[],es',_,h=>by
  simp only[Fo,Option.some.injEq]at h;exact⟨none,rfl,fun _=>h.symm,by simp⟩
 |(a,u)::es,es',hp,h=>by
  rw[Yf]at hp;simp only[Fo]at h;simp only[N0];split at h
  ·cases h
  ·rename_i hq;cases h;obtain⟨h1,h2⟩:=I0 hq;refine⟨some u,rfl,by simp,fun _ _=>?_⟩;have hka:=B8 h2.symm;subst hka;rw[Zr,Dp,if_pos h2.symm];congr 1;have:∀p∈es,Dp k v p=p:=fun p hp'=>by
    have:=Do (hp.1 p hp');unfold Dp;rw[this];rfl
   rw[Zm0 this,Zm7]
  ·rename_i hq;obtain⟨h1,h2⟩:=I0 hq;split at h
   ·cases h
   ·rename_i r hr;cases h;obtain⟨o,g1,g2,g3⟩:=MY hp.2 hr;refine⟨o,g1,fun ho=>by rw[g2 ho];rfl,fun x hx=>?_⟩;rw[g3 x hx,Zr,Dp,if_neg (by rw[←h2];simp)]
theorem MX{kt:TypeId}{k:Value}:∀ {es es':List (Value×Value)},es.Pairwise (fun a b=>KD a.1 b.1)→fj E kt k es=some es'→
  ∃r,N0 E kt k es=some r∧es'=es.filter (fun p=> !keq k p.1)
 |[],es',_,h=>by
  simp only[fj,Option.some.injEq]at h;exact⟨none,rfl,h.symm⟩
 |(a,u)::es,es',hp,h=>by
  rw[Yf]at hp;simp only[fj]at h;simp only[N0];split at h
  ·cases h
  ·rename_i hq;cases h;obtain⟨h1,h2⟩:=I0 hq;refine⟨some u,rfl,?_⟩;have hka:=B8 h2.symm;subst hka;rw[Ui,←h2];simp only[Vx,Vp,if_false];symm;rw[Jn];intro p hp';rw[Do (hp.1 p hp')];rfl
  ·rename_i hq;obtain⟨h1,h2⟩:=I0 hq;split at h
   ·cases h
   ·rename_i r hr;cases h;obtain⟨o,g1,g2⟩:=MX hp.2 hr;refine⟨o,g1,?_⟩;rw[g2,Ui,←h2];rfl
theorem MR.put{k v v':Value}(hv:VR i v v'):∀ {es:List (Value×Value)} {l:List MapEntry},MR i es l→MR i (es.map (Dp k v)) (l.map (F7 k v'))
 |_,_,.nil=>.nil
 |(a,u)::es,e::l,.cons hk h1 h'=>by
  rw[Zr,Zr];unfold Dp F7;rw[hk];cases hq:keq k a with
  |true=>exact .cons rfl hv (MR.put hv h')
  |false=>exact .cons hk h1 (MR.put hv h')
theorem MR.filter{k:Value}:∀ {es:List (Value×Value)} {l:List MapEntry},MR i es l→MR i (es.filter (fun p=> !keq k p.1)) (l.filter (fun e=> !keq k e.key))
 |_,_,.nil=>.nil
 |(a,u)::es,e::l,.cons hk h1 h'=>by
  rw[Ui,Ui,hk];cases hq:keq k a with
  |true=>exact MR.filter h'
  |false=>exact .cons hk h1 (MR.filter h')
theorem MR.snoc{k v v':Value}(hv:VR i v v')(c:Nat):∀ {es:List (Value×Value)} {l:List MapEntry},MR i es l→MR i (es++[(k,v)]) (l++[{key:=k,val:=v',born:=c}])
 |_,_,.nil=>.cons rfl hv .nil
 |_,_,.cons hk h1 h'=>.cons hk h1 (MR.snoc hv c h')
theorem SC(k v:Value)(es:List (Value×Value)):(es.map (Dp k v)).map (·.1)=es.map (·.1):=by
 rw[List.map_map];apply Zm0;intro p _;simp only[Function.comp,Dp];cases hq:keq k p.1 with
 |true=>rw[if_pos rfl];exact B8 hq
 |false=>rw[if_neg (by simp)]
theorem SD{es es':List (Value×Value)}(h:es'.map (·.1)=es.map (·.1))(hp:es.Pairwise (fun a b=>KD a.1 b.1)):es'.Pairwise (fun a b=>KD a.1 b.1):=by
 have h1:(es.map (·.1)).Pairwise KD:=Jm.2 hp;rw[←h]at h1;exact Jm.1 h1
theorem SF{l:List MapEntry}(hp:l.Pairwise (fun a b=>KD a.key b.key)){k v':Value}:∀ {n:Nat} {e:MapEntry},l[n]? =some e→keq k e.key=true→
  l.modify n (fun e=> {e with key:=k,val:=v'})=l.map (F7 k v'):=by
 induction l with
 |nil=>intro n e h;simp at h
 |cons x l ih=>
  intro n e h hk;rw[Yf]at hp;cases n with
  |zero=>
   simp only[Y7,Option.some.injEq]at h;subst h;simp only[List.modify_zero_cons,Zr];congr 1
   ·simp[F7,hk]
   ·have hka:=B8 hk;subst hka;have:∀p∈l,F7 x.key v' p=p:=fun p hp'=>by
     have:=Do (hp.1 p hp');unfold F7;rw[this];rfl
    rw[Zm0 this,Zm7]
  |succ n=>
   simp only[Y9]at h;simp only[List.modify_succ_cons,Zr];rw[ih hp.2 h hk];congr 1;have hm:e∈l:=Y8 h;have hka:=B8 hk;have:=Do (gm (hp.1 e hm));rw[←hka]at this;simp[F7,this]
theorem SQ{l:List MapEntry}(hp:l.Pairwise (fun a b=>KD a.key b.key)){k:Value}:∀ {n:Nat} {e:MapEntry},l[n]? =some e→keq k e.key=true→
  l.eraseIdx n=l.filter (fun e=> !keq k e.key):=by
 induction l with
 |nil=>intro n e h;simp at h
 |cons x l ih=>
  intro n e h hk;rw[Yf]at hp;cases n with
  |zero=>
   simp only[Y7,Option.some.injEq]at h;subst h;rw[List.eraseIdx_cons_zero,Ui,hk];have hka:=B8 hk;subst hka;symm;simp only[Vx,Vp,if_false];rw[Jn];intro p hp';rw[Do (hp.1 p hp')];rfl
  |succ n=>
   simp only[Y9]at h;rw[List.eraseIdx_cons_succ,ih hp.2 h hk,Ui];have hm:e∈l:=Y8 h;have hka:=B8 hk;have:=Do (gm (hp.1 e hm));rw[←hka]at this;simp[this]
theorem MV{l l':List MapEntry}(h:l.Perm l')(hp:l.Pairwise (fun a b=>KD a.key b.key)):l'.Pairwise (fun a b=>KD a.key b.key):=
 (h.pairwise_iff (fun h=>gm h)).1 hp
theorem SL{k k':Value}(h:keq k k'=true){ki:TI}(hk:Mo ki k=true)(n:Nat):Instr.sameBits n k' k=true:=by
 obtain rfl:=B8 h;unfold Mo at hk;split at hk<;>first|(cases hk;done)|simp[Instr.sameBits]
theorem Bn.push{es:Array MapEntry}{clk:Nat}(h:Bn es.toList clk)(k v:Value):Bn (es.push {key:=k,val:=v,born:=clk}).toList (clk+1):=by
 rw[Zm8];refine⟨fun x hx=>?_,?_⟩
 ·rcases List.mem_append.1 hx with hx|hx
  ·have:=h.1 x hx;omega
  ·obtain rfl:=Z6.1 hx;exact Nat.lt_succ_self _
 ·rw[List.map_append];refine List.nodup_append.2 ⟨h.2,by simp,fun a ha b hb=>?_⟩;obtain⟨x,hx,rfl⟩:=Zl.1 ha;obtain rfl:b=clk:=by simpa using hb
  have:=h.1 x hx;omega
theorem Bn.modify{es:Array MapEntry}{clk:Nat}(h:Bn es.toList clk)(n:Nat)(k v:Value):Bn (es.modify n fun e=> {e with key:=k,val:=v}).toList clk:=by
 have e:((es.modify n fun e=> {e with key:=k,val:=v}).toList.map (·.born))=es.toList.map (·.born):=by
  rw[Zm9];apply Zm5;intro j;rw[Zy,Zy,List.getElem?_modify];cases es.toList[j]? with
  |none=>simp
  |some x=>by_cases hj:n=j<;>simp[hj]
 refine⟨fun x hx=>?_,by rw[e];exact h.2⟩;have:x.born∈(es.modify n fun e=> {e with key:=k,val:=v}).toList.map (·.born):=Zl.2 ⟨x,hx,rfl⟩
 rw[e]at this;obtain⟨y,hy,hyx⟩:=Zl.1 this;rw[←hyx];exact h.1 y hy
theorem Bn.filter{m:List MapEntry}{clk:Nat}(h:Bn m clk)(p:MapEntry→Bool):Bn (m.filter p) clk:=
 ⟨fun x hx=>h.1 x (List.mem_filter.1 hx).1,h.2.sublist (List.filter_sublist.map _)⟩
theorem Rel.mapNow{w':World}(hR:Rel i s w){b q:Nat}{es es2:List (Value×Value)}(hes:s.h.get b=some (.map es))(hib:i b=some (q,0))
  {es':Array MapEntry} {clk:Nat} (hw1:w.heap[q]? =some (.map es' clk)) {m':Array MapEntry} {clk':Nat} (hw:w'=Hh w q (.map m' clk')) {l:List MapEntry} (h1:l.Perm m'.toList) (h2:MR i es2 l) (h3:es2.Pairwise (fun a b=>KD a.1 b.1)) (h4:Bn m'.toList clk'):
  Rel i (s.upd b (.map es2)) w'∧Fr i s w i (s.upd b (.map es2)) w':=by
 subst hw;refine hR.upd hes rfl rfl hib (fun k hk=>fv hk) (fw _ _ _) rfl rfl rfl (fun _=>?_);rw[Dm hw1];exact⟨rfl,m',clk',l,rfl,h1,h2,h3,h4⟩
theorem SP{ki:TI}{k k':Value}(hk:Im E ki k=true)(h:VR i k k'):k'=k:=by
 unfold Im at hk;split at hk
 ·rename_i fs cs _;split at hk
  ·rename_i f g _ x _ y _ hcs;obtain⟨l⟩:=cs;simp only at hcs;subst hcs;cases h with
   |agg h=>
    cases h with
    |cons h1 h=>
    cases h with
    |cons h2 h=>
    cases h;cases h1;cases h2;rfl
  ·cases hk
 ·cases hk
theorem Zaa(hT:Gr E){kt:TypeId}{ki:TI}(hki:E.ty.get kt=some ki){k:Value}(hk:Im E ki k=true)(b:Bool)(n:Nat):(Instr.checkKey b (n+2) kt k).run E.P w=.ok () w:=by
 have hd:=G0 hT hki w;rw[Instr.checkKey];simp only[Sem.run_bind,hd,Result.andThen_ok];unfold Im at hk;split at hk
 ·rename_i fs cs hdesc;split at hk
  ·rename_i f g k1 x k2 y hfs hcs;obtain⟨l⟩:=cs;obtain⟨m⟩:=fs;simp only at hcs hfs;subst hcs;subst hfs;split at hk
   ·rename_i fi gi hf hg;simp only[Zi,X0]at hk;obtain⟨⟨⟨h1,h2⟩,h3⟩,h4⟩:=hk;have key:∀(h:Field) (hi:TI) (o:Nat) (kk:IntKind) (z:Int),E.ty.get h.type=some hi→m7 hi.desc=true→[Value.int k1 x,Value.int k2 y][o]? =some (.int kk z)→
      (part h.type #[.int k1 x,.int k2 y] o).run E.P w=.ok (.int kk z) w∧(Instr.checkKey b (n+1) h.type (.int kk z)).run E.P w=.ok () w:=fun h hi o kk z hh hint ho=>by
     have hint':∃q,hi.desc=.int q:=by
      unfold m7 at hint;split at hint
      ·exact⟨_,by assumption⟩
      ·cases hint
     obtain⟨q,hq⟩:=hint';refine⟨?_,?_⟩
     ·obtain⟨v',g1,g2⟩:=ZY (w:=w) (i:=⟨fun _=>none,fun _=>(0,0)⟩) hT (t:=h.type) (l:=[.int k1 x,.int k2 y]) (l':=[.int k1 x,.int k2 y]) (off:=o) (.cons (.int _ _) (.cons (.int _ _) .nil)) (v:=.int kk z) (by
       unfold fg;rw[hh];simp only[hq];exact ho)
      cases g2;exact g1
     ·rw[Instr.checkKey];simp only[Sem.run_bind,G0 hT hh w,Result.andThen_ok,hq];rfl
    rw[hdesc];obtain⟨p1,p2⟩:=key f fi f.offset k1 x hf h1 (by rw[h3];rfl);obtain⟨p3,p4⟩:=key g gi g.offset k2 y hg h2 (by rw[h4];rfl);simp only[List.forIn_toArray,List.forIn_cons,List.forIn_nil,Sem.run_bind]
    by_cases n1 : f.name = "_" <;> by_cases n2 : g.name = "_" <;> simp [n1, n2, Sem.run_bind, p1, p2, p3, p4]
   ·cases hk
  ·cases hk
 ·cases hk
theorem Zab(hT:Gr E)(t:TypeId)(m k x:Operand){tm:Tm}{ρ:Operand→Value}(hR:Rel i s w)(hρ:TR i tm ρ){v:Value}{s':AS}(h:Tc t m k x E tm s=some (v,s')):
  px E i s w (Instr.mapUpdate t (ρ m) (ρ k) (ρ x)) s'∧v=.tuple #[]:=by
 unfold Tc at h;split at h
 ·rename_i ti b kv xv ht hm hk hx;have hcm:=hρ m _ hm;generalize hgm:ρ m=m' at hcm;have hck:=hρ k _ hk;have hcx:=hρ x _ hx;have hd:=G0 hT ht w;cases hcm;rename_i q hib;split at h
  ·rename_i kt et hdesc;split at h
   ·rename_i ki hki;cases hko:Mo ki kv with
    |false=>
     rw[hko,cond_false]at h;cases hk2:Im E ki kv with
     |false=>rw[hk2]at h;cases h
     |true=>
      rw[hk2,cond_true]at h;rw[SP hk2 hck];split at h
      ·rename_i hes;cases h;refine⟨?_,rfl⟩;obtain⟨_,es',clk,l,hw1,hw2,hw3,hw4,hw5⟩:=hR.at (P:=E.P) hes rfl hib;cases hw3;have hnil:es'.toList=[]:=List.nil_perm.1 hw2;have hes0:es'= #[]:=Array.toList_inj.1 hnil;subst hes0;refine⟨Hh w q (.map (#[].push {key:=kv,val:=ρ x,born:=clk}) (clk+1)),i,?_,?_⟩
       ·unfold Instr.mapUpdate;have hfk:(Instr.findKey kt kv ([]:List MapEntry)).run E.P w=.ok none w:=by
         unfold Instr.findKey;simp only[Sem.run_bind,G0 hT hki w,Result.andThen_ok];rfl
        simp only[Sem.run_bind,hd,hdesc,Result.andThen_ok,C5 hw1,Zaa hT hki hk2,hfk,I1 hw1]
       ·refine hR.mapNow hes hib hw1 rfl (l:=[{key:=kv,val:=ρ x,born:=clk}]) (.refl _) (.cons rfl hcx .nil) (Kf _ _) (hw5.push kv (ρ x))
      ·cases h
    |true=>
     rw[hko,cond_true]at h;rw[ZB hko hck];split at h
     ·rename_i es hes;split at h
      ·cases h
      ·rename_i es2 hput;cases h;refine⟨?_,rfl⟩;obtain⟨_,es',clk,l,hw1,hw2,hw3,hw4,hw5⟩:=hR.at (P:=E.P) hes rfl hib;obtain⟨r,hf,p1,p2⟩:=MY hw4 hput;obtain⟨r',g1,g2,g3⟩:=ZN (w:=w) hT hki hko hw2 hw3 hw4 hf;cases r with
       |none=>
        obtain⟨e1,e2⟩:=g2 rfl;subst e1;refine⟨Hh w q (.map (es'.push {key:=kv,val:=ρ x,born:=clk}) (clk+1)),i,?_,?_⟩
        ·unfold Instr.mapUpdate;simp only[Sem.run_bind,hd,hdesc,Result.andThen_ok,C5 hw1,Tk hT hki hko,g1,I1 hw1]
        ·refine hR.mapNow hes hib hw1 rfl (l:=l++[{key:=kv,val:=ρ x,born:=clk}]) ?_ ?_ ?_ (hw5.push kv (ρ x))
         ·rw[Zm8];exact hw2.append_right _
         ·rw[p1 rfl];exact hw3.snoc hcx clk
         ·rw[p1 rfl];rw[List.pairwise_append];refine⟨hw4,Kf _ _,fun a ha c hc=>?_⟩;obtain rfl:=Z6.1 hc;obtain⟨h1,h2,_⟩:=ZM hw3 hf;refine gm (HP (MZ hw4 h1 a ha) ?_);have hmem:a.1∈es.map (·.1):=Zl.2 ⟨a,ha,rfl⟩;rw[←hw3.keys]at hmem;obtain⟨e,he,hee⟩:=Zl.1 hmem;have:=h2 rfl e he;rw[hee]at this;exact this
       |some u=>
        obtain⟨n,v',e,e1,e2,e3,e4,e5⟩:=g3 u rfl;subst e1;have hp':=MV hw2 (hw3.pair hw4);have hmod:=SF hp' (v':=ρ x) e2 e3;refine⟨Hh w q (.map (es'.modify n fun e=> {e with key:=kv,val:=ρ x}) clk),i,?_,?_⟩
        ·have hst:(Instr.keyThatStays (((es'[n]?).map (·.key)).getD kv) kv).run E.P w=.ok kv w:=by
          have:es'[n]? =some e:=by rw[←Yx];exact e2
          rw[this];unfold Instr.keyThatStays;have hs:Instr.sameBits 10000 ((Option.map (fun x=>x.key) (some e)).getD kv) kv=true:=SL e3 hko _;rw[if_pos hs];rfl
         unfold Instr.mapUpdate;simp only[Sem.run_bind,hd,hdesc,Result.andThen_ok,C5 hw1,Tk hT hki hko,g1,hst,I1 hw1]
        ·refine hR.mapNow hes hib hw1 rfl (l:=l.map (F7 kv (ρ x))) ?_ ?_ ?_ (hw5.modify n kv (ρ x))
         ·rw[Zm9,hmod];exact hw2.map _
         ·rw[p2 u rfl];exact hw3.put hcx
         ·rw[p2 u rfl];exact SD (SC kv xv es) hw4
     ·cases h
   ·cases h
  ·cases h
 ·cases h
theorem Zac(hT:Gr E)(t:TypeId)(ts:Array TypeId)(ty:TypeId){x y x' y':Value}(hR:Rel i s w)(hx:VR i x x')(hy:VR i y y')(hts:ts[0]? =some t){v:Value}{s':AS}(h:z7 E s t x y=some (v,s')):
  Sim E i s w (Builtin.delete_ ts ty #[x',y']) v s':=by
 unfold z7 at h;split at h
 ·cases h
 ·rename_i ti ht;have hd:=G0 hT ht w;split at h
  ·rename_i kt et b hdesc;split at h
   ·cases h
   ·rename_i ki hki;cases hko:Mo ki y with
    |false=>rw[hko]at h;cases h
    |true=>
     rw[hko,cond_true]at h;cases hx;rename_i q hib;rw[ZB hko hy];split at h
     ·rename_i es hes;split at h
      ·cases h
      ·rename_i es2 hdrop;cases h;obtain⟨_,es',clk,l,hw1,hw2,hw3,hw4,hw5⟩:=hR.at (P:=E.P) hes rfl hib;obtain⟨r,hf,p1⟩:=MX hw4 hdrop;obtain⟨r',g1,g2,g3⟩:=ZN (w:=w) hT hki hko hw2 hw3 hw4 hf;have hp':=MV hw2 (hw3.pair hw4);have hend:∀m':Array MapEntry,m'.toList=es'.toList.filter (fun e=> !keq y e.key)→Rel i (s.upd b (.map es2)) (Hh w q (.map m' clk))∧Fr i s w i (s.upd b (.map es2)) (Hh w q (.map m' clk)):=by
        intro m' hm;refine hR.mapNow hes hib hw1 rfl (l:=l.filter (fun e=> !keq y e.key)) ?_ ?_ ?_ (by rw[hm];exact hw5.filter _)
        ·rw[hm];exact hw2.filter _
        ·rw[p1];exact hw3.filter
        ·rw[p1];exact hw4.filter _
       cases r with
       |none=>
        obtain⟨e1,e2⟩:=g2 rfl;subst e1;refine⟨.tuple #[],Hh w q (.map es' clk),i,?_,.tuple .nil,hend _ ?_⟩
        ·unfold Builtin.delete_;simp[Sem.run_bind,hts,hd,hdesc,Result.andThen_ok,C5 hw1,Tk hT hki hko,g1,I1 hw1]
        ·symm;rw[Jn];intro e he;rw[e2 e he];rfl
       |some u=>
        obtain⟨n,v',e,e1,e2,e3,e4,e5⟩:=g3 u rfl;subst e1;refine⟨.tuple #[],Hh w q (.map (es'.eraseIdxIfInBounds n) clk),i,?_,.tuple .nil,hend _ ?_⟩
        ·unfold Builtin.delete_;simp[Sem.run_bind,hts,hd,hdesc,Result.andThen_ok,C5 hw1,Tk hT hki hko,g1,I1 hw1]
        ·rw[Array.toList_eraseIdxIfInBounds];exact SQ hp' e2 e3
     ·cases h
  ·cases h
end
end Go.Ax
