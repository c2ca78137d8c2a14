/- Whole numbers of all kinds: conversions, shifts, bits, quotients. -/
import Derived.Test.YtjadpdncjnokbaaGreatDoorLxA
import Derived.Lib.Join
import Derived.Lib.AtoiAll
import Derived.Lib.AtoiErrMem
import Derived.Laws.Bits64b
import Derived.Lib.TrailingZeros
import Derived.Test.YtjadpdncjnokbaaGreatDoorAxG
set_option linter.all false
open Nat renaming beq→Za,ble→Zb,ble_eq_true_of_le→Z0,eq_of_beq_eq_true→Zv,le_refl→Ze,land→Xm,zero_le→Zj,beq_refl→Yy,blt→Zh,sub_zero→Yl,mul_le_mul_right→Yo,lt_of_lt_of_le→Yu,pow_le_pow_right→Va,testBit_xor→Uv,zero_add→Zw,add_mul→Yv,zero_mul→Xh,testBit_lt_two_pow→Uw,shiftRight_eq_div_pow→Xe,lor→Ue,le_of_ble_eq_true→Yr,add_zero→Yg,eq_of_testBit_eq→Kz,testBit_and→K0,testBit_zero→K4,testBit_succ→K5,succ_mul→Vf,add_assoc→Ya,lt_or_ge→Zt,testBit_two_pow_mul_add→Zsf,testBit_shiftRight→Zsg,shiftRight_zero→Zsh,and_le_left→Zsi,pow_lt_pow_right→Ju,le_trans→Ye,testBit_two_pow_mul→Zsj,xor→Xw,xor_lt_two_pow→Xu,mod_eq_of_lt→Kc,mod_lt→Kb,mul_one→Vs,blt_eq→Yj,lt_of_le_of_lt→V0,mul_comm→Uc,add_comm→Vi,or_lt_two_pow→Jv,testBit_two_pow→Kh,testBit_eq_decide_div_mod_eq→Zr4
open List renaming mem_cons→Zg,mem_map→Zl,mem_append→Zk,mem_of_getElem?→Y8,replicate→Z7,mem_cons_self→Zm,length_eq_zero_iff→Yh,mem_cons_of_mem→Zs,getElem?_eq_some_iff→Yc,getElem?_eq_getElem→Zn,length_map→Zc,nodup_cons→Yz,length_drop→Z5,length_cons→Zf,mem_flatMap→Yb,length_take→Zq,length_nil→Zo,length→Yi,map_cons→Zr,length_replicate→Xf,getElem?_cons_succ→Y9,map_append→Zp,take_length→Ul,Perm→Yn,nodup_nil→U8,getElem?_map→Zy,getElem?_set→Zsk,replicate_succ→Jb,sum_cons→Uo
open Int renaming natCast_nonneg→Yk,ofNat_eq_natCast→Xv,mul→Uy,negSucc_eq→Xq,emod_eq_of_lt→Uh,toNat_natCast→Yp,one_mul→Zsm
open Bool renaming false_and→Xp,and_false→Vq,or_eq_false_iff→Vu,and_eq_true→Zi
open Option renaming bind_some→Uj,isSome_none→Ji,isSome→Zsl
open Array renaming getElem?_eq_some_iff→X5,getElem?_toList→Yx
namespace Go.Lx
open Go Go.Ax
variable {E:Env}{N:Nat}{ops l:List Oper}{al:Al}{L P:List Asn}{Q:Al→List Asn→List Asn→Prop}{pos:String}{af:Array Edge}
def InR :IntKind→Int→Prop
 |.i64,n=> -9223372036854775808≤n∧n<9223372036854775808
 |.i32,n=> -2147483648≤n∧n<2147483648
 |.i16,n=> -32768≤n∧n<32768
 |.i8,n=> -128≤n∧n<128
 |.u64,n=>0≤n∧n<18446744073709551616
 |.u32,n=>0≤n∧n<4294967296
 |.u16,n=>0≤n∧n<65536
 |.u8,n=>0≤n∧n<256
theorem KZ{n:Int}{m:Nat}(h:0≤n∧n<m):H7 n m=n.toNat:=by
 cases n with
 |ofNat a=>exact Kc (by have:=h.2;simp only[Xv]at this;omega)
 |negSucc a=>have:=h.1;rw[Xq]at this;omega
theorem WM(n:Int){m:Nat}(hm:0<m):(H7 n m:Int)=n%m:=by
 cases n with
 |ofNat a=>simp[H7]
 |negSucc a=>
  show((m-1-a%m:Nat):Int)=_;rw[Xq];have h1:a%m<m:=Kb _ hm;have h2:=Nat.div_add_mod a m;have:(-((a:Int)+1))=(m:Int)*(-((a/m:Nat):Int)-1)+((m-1-a%m:Nat):Int):=by
   have e1:((m-1-a%m:Nat):Int)=(m:Int)-1-((a%m:Nat):Int):=by omega
   rw[e1,Int.mul_sub,Int.mul_neg];have:((m:Int)*((a/m:Nat):Int))=(a:Int)-((a%m:Nat):Int):=by
    have:((m*(a/m)+a%m:Nat):Int)=(a:Int):=by rw[h2]
    rw[Int.natCast_add,Int.natCast_mul]at this;omega
   omega
  rw[this,Int.add_comm,Int.add_mul_emod_self_left];exact(Uh (by omega) (by omega)).symm
theorem WN{k:IntKind}{n:Int}(h:InR k n):Cu k n=n:=by
 have hu:∀m:Nat,0≤n∧n<m→wrU m n=n:=fun m h=>by
  unfold wrU;rw[KZ h];simp only[Xv];omega
 have hs:∀m d:Nat,0<m→m=2*d→ -(d:Int)≤n∧n<d→wrS m d n=n:=fun m d hm hd h=>by
  unfold wrS;rw[natK_eq];have e:=WM n hm;by_cases h0:n<0
  ·have:n%m=n+m:=by
    rw[←Int.add_emod_right];exact Uh (by omega) (by omega)
   have hb:Zh (H7 n m) d=false:=by
    cases hb:Zh (H7 n m) d with
    |false=>rfl
    |true=>have:=N7.1 hb;omega
   rw[hb];simp only[cond_false];rw[Xq];omega
  ·have:n%m=n:=Uh (by omega) (by omega);have hb:Zh (H7 n m) d=true:=N7.2 (by omega);rw[hb];simp only[cond_true,Xv];omega
 cases k<;>simp only[InR]at h
 all_goals first
  |exact hs _ _ (by decide) rfl (by omega)
  |exact hu _ (by omega)
theorem Ib{k:IntKind}{n:Int}(h:InR k n):Ba k n=some (.int k n):=by
 unfold Ba;rw[WN h];unfold Dh;cases n<;>simp only[natK_eq]
theorem WB(k:IntKind)(n:Int):Ba k n=some (.int k (Cu k n)):=by
 unfold Ba Dh;generalize Cu k n=m;cases m<;>simp only[natK_eq]
noncomputable def lh(E:Env)(u:TypeId):Option IntKind:=match E.ty.get u with
 |some i=>match i.desc with
  |.int k=>some k
  |_=>none
 |none=>none
theorem Zkb{u:TypeId}{k:IntKind}(h:lh E u=some k):∃i,E.ty.get u=some i∧i.desc=.int k:=by
 unfold lh at h;cases hi:E.ty.get u with
 |none=>rw[hi]at h;cases h
 |some i=>
  rw[hi]at h;simp only at h;cases hd:i.desc with
  |int k'=>rw[hd]at h;cases h;exact⟨i,rfl,hd⟩
  |_=>rw[hd]at h;cases h
theorem WC{x:Operand}{a b:TypeId}{k k':IntKind}{n m:Int}(hx:evl al x=some (.int k' n))(ha:(E.ty.get a).isSome=true)(hb:lh E b=some k)(hv:Cu k n=m)(tm:Tm)(s:AS)(hal:Has al tm):N2 a b x E tm s=some (.int k m,s):=by
 obtain⟨i,h1,h2⟩:=Zkb hb;unfold N2;rw[Gm hal hx];simp only;unfold Cy;cases hsa:E.ty.get a with
 |none=>rw[hsa]at ha;cases ha
 |some si=>
  rw[h1];simp only;rw[h2];cases hd:si.desc<;>simp only[WB,hv]
theorem Pu.ci{x:Operand}{a b:TypeId}{k k':IntKind}{n:Int}(hx:evl al x=some (.int k' n):=by rfl)(ha:(E.ty.get a).isSome=true:=by rfl)(hb:lh E b=some k:=by rfl)(hv:InR k n:=by simp only[Go.Lx.InR];omega):Pu E al (.convert a b x) (.int k n):=
 ⟨fun _ _ _=>rfl,fun tm s hal=>WC hx ha hb (WN hv) tm s hal⟩
theorem Pu.ciw{x:Operand}{a b:TypeId}{k k':IntKind}{n m:Int}(hm:Cu k n=m)(hx:evl al x=some (.int k' n):=by rfl)(ha:(E.ty.get a).isSome=true:=by rfl)(hb:lh E b=some k:=by rfl):Pu E al (.convert a b x) (.int k m):=
 ⟨fun _ _ _=>rfl,fun tm s hal=>WC hx ha hb hm tm s hal⟩
theorem wrap_u8(n:Nat):Cu .u8 (n:Int)=((n%256:Nat):Int):=rfl
theorem Pu.bi{op:BinOp}{x y:Operand}{u r:Nat}{k k':IntKind}{a b:Int}{v:Value}(h:Fh op k a k' b=some v)(hx:evl al x=some (.int k a):=by rfl)(hy:evl al y=some (.int k' b):=by rfl):Pu E al (.binOp op u x y r) v:=
 ⟨fun _ _ _=>rfl,fun tm s ha=>kh hx hy h tm s ha⟩
theorem Pu.i_shr{x y:Operand}{u r:Nat}{k k':IntKind}{a c:Int}{n:Nat}(hx:evl al x=some (.int k a):=by rfl)(hy:evl al y=some (.int k' (n:Int)):=by rfl)(hc:Int.fdiv a ((2^n:Nat):Int)=c:=by rfl)(hn:n≤Fg k:=by decide):Pu E al (.binOp .shr u x y r) (.int k c):=
 Pu.bi (by
  show fb k a n=_;unfold fb;rw[Z0 hn];simp only[cond_true,Xv];rw[hc];unfold Dh;cases c<;>simp only[natK_eq]) hx hy
theorem Pu.i_shl{x y:Operand}{u r:Nat}{k k':IntKind}{a:Int}{n:Nat}(hx:evl al x=some (.int k a):=by rfl)(hy:evl al y=some (.int k' (n:Int)):=by rfl)(hn:n≤Fg k:=by decide)(hr:InR k (a*((2^n:Nat):Int)):=by simp only[Go.Lx.InR];omega):Pu E al (.binOp .shl u x y r) (.int k (a*((2^n:Nat):Int))):=
 Pu.bi (by
  show dz k a n=_;unfold dz;rw[Z0 hn];exact Ib hr) hx hy
theorem yq{f:Nat→Nat→Nat}{k:IntKind}{a b:Nat}(ha:a<Hu k)(hb:b<Hu k)(hr:InR k ((f a b:Nat):Int)):Nn f k (a:Int) (b:Int)=some (.int k ((f a b:Nat):Int)):=by
 unfold Nn;rw[KZ (m:=Hu k) ⟨Yk _,by omega⟩,KZ (m:=Hu k) ⟨Yk _,by omega⟩];simp only[Yp];exact Ib hr
theorem Pu.i_and{x y:Operand}{u r:Nat}{k:IntKind}{a b:Nat}(hx:evl al x=some (.int k (a:Int)):=by rfl)(hy:evl al y=some (.int k (b:Int)):=by rfl)(ha:a<Hu k:=by(simp only[Go.Ax.Hu];omega))(hb:b<Hu k:=by(simp only[Go.Ax.Hu];omega))(hr:InR k ((Xm a b:Nat):Int)):Pu E al (.binOp .and u x y r) (.int k ((Xm a b:Nat):Int)):=
 Pu.bi (by show(bif Hy k k then Nn Xm k a b else none)=_;rw[M9];exact yq ha hb hr) hx hy
theorem Pu.i_or{x y:Operand}{u r:Nat}{k:IntKind}{a b:Nat}(hx:evl al x=some (.int k (a:Int)):=by rfl)(hy:evl al y=some (.int k (b:Int)):=by rfl)(ha:a<Hu k:=by(simp only[Go.Ax.Hu];omega))(hb:b<Hu k:=by(simp only[Go.Ax.Hu];omega))(hr:InR k ((Ue a b:Nat):Int)):Pu E al (.binOp .or u x y r) (.int k ((Ue a b:Nat):Int)):=
 Pu.bi (by show(bif Hy k k then Nn Ue k a b else none)=_;rw[M9];exact yq ha hb hr) hx hy
theorem Pu.i_andNot{x y:Operand}{u r:Nat}{k:IntKind}{a b:Nat}(hx:evl al x=some (.int k (a:Int)):=by rfl)(hy:evl al y=some (.int k (b:Int)):=by rfl)(ha:a<Hu k:=by(simp only[Go.Ax.Hu];omega))(hb:b<Hu k:=by(simp only[Go.Ax.Hu];omega))(hr:InR k ((Xm a (Hu k-1-b):Nat):Int)):Pu E al (.binOp .andNot u x y r) (.int k ((Xm a (Hu k-1-b):Nat):Int)):=
 Pu.bi (by show(bif Hy k k then Nn (fun x y=>Xm x (Hu k-1-y)) k a b else none)=_;rw[M9];exact yq (f:=fun x y=>Xm x (Hu k-1-y)) ha hb hr) hx hy
theorem Pu.i_quo{x y:Operand}{u r:Nat}{k:IntKind}{a b:Nat}(hx:evl al x=some (.int k (a:Int)):=by rfl)(hy:evl al y=some (.int k (b:Int)):=by rfl)(hb:0<b:=by omega)(hr:InR k ((a/b:Nat):Int):=by simp only[Go.Lx.InR];omega):Pu E al (.binOp .quo u x y r) (.int k ((a/b:Nat):Int)):=
 Pu.bi (by
  show(bif Hy k k then R5 k a b else none)=_;rw[M9];simp only[cond_true];unfold R5;rw[ieq_eq,decide_eq_false (by omega)];simp only[cond_false];exact Ib hr) hx hy
theorem Pu.i_rem{x y:Operand}{u r:Nat}{k:IntKind}{a b:Nat}(hx:evl al x=some (.int k (a:Int)):=by rfl)(hy:evl al y=some (.int k (b:Int)):=by rfl)(hb:0<b:=by omega):Pu E al (.binOp .rem u x y r) (.int k ((a%b:Nat):Int)):=
 Pu.bi (by
  show(bif Hy k k then dx k a b else none)=_;rw[M9];simp only[cond_true];unfold dx;rw[ieq_eq,decide_eq_false (by omega)];simp only[cond_false];show(Hf (a%b) fun c=>some (Value.int k (.ofNat c)))=_;rw[natK_eq];rfl) hx hy
theorem Zkc{ops:List Oper}{al:Al}{o:Oper}{j:Nat}{w:Bool}(hg:o.guard=some (j,w))(h:gd ops al j=some undef){tm:Tm}(ha:Has al tm):Ha ops tm o=some false:=by
 unfold Ha;rw[hg];simp only;unfold gd at h;cases ho:ops[j]? with
 |none=>rw[ho]at h;cases h
 |some o'=>
  rw[ho]at h;simp only at h ⊢;cases hd:o'.dst with
  |none=>rw[hd]at h;cases h
  |some d=>
   rw[hd]at h;simp only at h ⊢;rw[ha _ _ h];rfl
theorem WR.offU{E:Env}{N:Nat}{ops l:List Oper}{al:Al}{L P:List Asn}{Q:Al→List Asn→List Asn→Prop}{d:Tmp}{op:Op}{t:Nat}{j:Nat}{w:Bool}(h:WR E N ops l ((d,undef)::al) L P Q)(hg:gd ops al j=some undef:=by rfl)(hN:Zb d N=true:=by rfl):WR E N ops (⟨some d,op,t,pos,af,some (j,w)⟩::l) al L P Q:=by
 intro S s tm hs ha;obtain⟨tm1,s1,S1,al1,L1,P1,⟨F,D,e⟩,hr⟩:=h S s (tm.set d undef) hs (ha.set d undef);refine⟨tm1,s1,S1,al1,L1,P1,⟨F,D,?_⟩,hr⟩;rw[D6,Zkc rfl hg ha];simp only;have hp:Gq N tm (some d) undef=some (tm.set d undef):=by unfold Gq;simp only[hN,cond_true]
 rw[hp];exact e
end Go.Lx
namespace Go.Lx
open Go Go.Ax Go.RowKit
def ix(q:Nat):List Nat→Nat→Option Nat
 |[],_=>none
 |a::l,k=>if a=q then some k else ix q l (k+1)
theorem KY{q:Nat}:∀ {l:List Nat} {k j:Nat},ix q l k=some j→k≤j∧l[j-k]? =some q
 |[],k,j,h=>by cases h
 |a::l,k,j,h=>by
  unfold ix at h;split at h
  ·rename_i e;cases h;exact⟨Ze _,by simp[e]⟩
  ·obtain⟨h1,h2⟩:=KY h;refine⟨by omega,?_⟩;have e:j-k=(j-(k+1))+1:=by omega
   rw[e,Y9];exact h2
theorem WF{q:Nat}:∀ {l:List Nat} (k:Nat),q∈l→∃j,ix q l k=some j
 |a::l,k,h=>by
  unfold ix;split
  ·exact⟨_,rfl⟩
  ·rename_i e;exact WF (k+1) ((Zg.1 h).resolve_left (fun h=>e h.symm))
theorem WT{q:Nat}:∀ {l r:List Nat} {k j:Nat},q∈l→ix q (l++r) k=some j→∃m,j=k+m∧l[m]? =some q
 |[],_,_,_,h,_=>by cases h
 |a::l,r,k,j,h,e=>by
  have e:(if a=q then some k else ix q (l++r) (k+1))=some j:=e;by_cases ha:a=q
  ·rw[if_pos ha]at e;cases e;exact⟨0,rfl,by rw[ha];rfl⟩
  ·rw[if_neg ha]at e;obtain⟨m,h1,h2⟩:=WT ((Zg.1 h).resolve_left (fun h=>ha h.symm)) e;exact⟨m+1,by omega,h2⟩
theorem Zkd{q j:Nat}{as qs:List Nat}(hp:as<+:qs)(h:q∈as)(e:ix q qs 0=some j):as[j]? =some q:=by
 obtain⟨r,rfl⟩:=hp;obtain⟨m,h1,h2⟩:=WT h e;rw[show j=m by omega];exact h2
def inV(qs:List Nat):Value→Option Value
 |.int k n=>some (.int k n)
 |.bool b=>some (.bool b)
 |.string s=>some (.string s)
 |.float k n=>some (.float k n)
 |.slice none 0 0=>some (.slice none 0 0)
 |.slice (some ⟨q,p,none⟩) n c=>if n≤c then(ix q qs 0).map fun j=>.slice (some ⟨1000+j,p,none⟩) n (2*c+1)else none
 |.nilIface=>some .nilIface
 |.iface t (.pointer (some ⟨q,p,none⟩))=>(ix q qs 0).map fun j=>.iface t (.pointer (some ⟨1000+j,p,none⟩))
 |_=>none
theorem Zke{qs:List Nat}{a:Option Addr}{n c:Nat}{x:Value}(h:inV qs (.slice a n c)=some x):(n=0∧x=.slice none 0 0)∨∃q p j,a=some ⟨q,p,none⟩∧n≤c∧ix q qs 0=some j∧x=.slice (some ⟨1000+j,p,none⟩) n (2*c+1):=by
 match a,n,c,h with
 |none,0,0,h=>cases h;exact .inl ⟨rfl,rfl⟩
 |none,0,c+1,h=>cases h
 |none,n+1,c,h=>cases h
 |some ⟨q,p,some z⟩,n,c,h=>cases h
 |some ⟨q,p,none⟩,n,c,h=>
  have h:(if n≤c then(ix q qs 0).map fun j=>Value.slice (some ⟨1000+j,p,none⟩) n (2*c+1)else none)=some x:=h;split at h
  ·rename_i hn;cases hj:ix q qs 0 with
   |none=>rw[hj]at h;cases h
   |some j=>
    rw[hj]at h;cases h;exact .inr ⟨q,p,j,rfl,hn,hj,rfl⟩
  ·cases h
def ioN(qs:List Nat):Io:=⟨fun b=>if b<1000 then some (b,0)else(qs[b-1000]?).map fun q=>(q,0),fun _=>(0,0)⟩
theorem Ic(qs:List Nat):Gl (ioN qs):=fun g hg=>if_pos hg
theorem Ie{qs:List Nat}{q j:Nat}(h:qs[j]? =some q):ioN qs (1000+j)=some (q,0):=by
 show(if 1000+j<1000 then _ else(qs[1000+j-1000]?).map fun q=>(q,0))=_;rw[if_neg (by omega),Nat.add_sub_cancel_left,h];rfl
theorem WQ{qs:List Nat}:∀ {v x:Value},inV qs v=some x→VR (ioN qs) x v:=by
 intro v x h;unfold inV at h;split at h
 ·cases h;exact .int _ _
 ·cases h;exact .bool _
 ·cases h;exact .string _
 ·cases h;exact .float _ _
 ·cases h;exact .nils rfl
 ·rename_i q p n c;split at h
  ·rename_i hn;cases hj:ix q qs 0 with
   |none=>rw[hj]at h;cases h
   |some j=>
    rw[hj]at h;cases h;exact .slice (Ie (KY hj).2) (by omega) (by omega) (by omega) (.inl (by omega)) (by omega)
  ·cases h
 ·cases h;exact .nilIface
 ·rename_i t q p;cases hj:ix q qs 0 with
  |none=>rw[hj]at h;cases h
  |some j=>
   rw[hj]at h;cases h;have hp:VR (ioN qs) (.pointer (some ⟨1000+j,p,none⟩)) (.pointer (some ⟨q,0+p,none⟩)):=.ptr (Ie (KY hj).2);rw[Zw]at hp;exact .iface t hp
 ·cases h
noncomputable def lj(qs:List Nat):List Value→Nat→T Value→T Value
 |[],_,t=>t
 |v::l,i,t=>lj qs l (i+1) (match inV qs v with|some x=>t.set i x|none=>t)
theorem lq(qs:List Nat):∀(l:List Value) (i:Nat) (t:T Value) (j:Nat),(∀j,i≤j→t.get j=none)→(lj qs l i t).get j=if i≤j then(l[j-i]?).bind (inV qs)else t.get j
 |[],i,t,j,ht=>by
  show t.get j=_;split
  ·rename_i h;rw[ht j h];rfl
  ·rfl
 |v::l,i,t,j,ht=>by
  show(lj qs l (i+1) (match inV qs v with|some x=>t.set i x|none=>t)).get j=_
  have e:∀j,(match inV qs v with|some x=>t.set i x|none=>t).get j=if j=i then inV qs v else t.get j:=by
   intro j;cases hx:inV qs v with
   |none=>
    show t.get j=_;split
    ·rename_i h;rw[h];exact ht i (Ze _)
    ·rfl
   |some x=>
    show(t.set i x).get j=_;rw[T.get_set]
  rw[lq qs l (i+1) _ j (fun k hk=>by rw[e,if_neg (by omega)];exact ht k (by omega)),e];by_cases h1:j=i
  ·subst h1;rw[if_neg (by omega),if_pos rfl,if_pos (Ze _),Nat.sub_self];rfl
  ·rw[if_neg h1];by_cases h2:i≤j
   ·rw[if_pos h2,if_pos (by omega)];have e:j-i=(j-(i+1))+1:=by omega
    rw[e,Y9]
   ·rw[if_neg h2,if_neg (by omega)]
noncomputable def Bl(w:World)(qs:List Nat)(q:Nat):Gg:=match w.heap[q]? with
 |some (.cells cs _ _)=>.ro (lj qs cs.toList 0 .e) cs.size
 |_=>.far
noncomputable def df :List (Nat×Gg)→T Gg
 |[]=>.e
 |x::l=>(df l).set x.1 x.2
theorem WW :∀ {l:List (Nat×Gg)} {b:Nat} {o:Gg},(df l).get b=some o→(b,o)∈l
 |[],b,o,h=>by cases h
 |x::l,b,o,h=>by
  have h:((df l).set x.1 x.2).get b=some o:=h;rw[T.get_set]at h;split at h
  ·rename_i e;cases h;subst e;exact Zm ..
  ·exact Zs _ (WW h)
theorem KX :∀ {l:List (Nat×Gg)} {b:Nat} {o:Gg},(b,o)∈l→(∀o',(b,o')∈l→o'=o)→(df l).get b=some o
 |x::l,b,o,h,hu=>by
  show((df l).set x.1 x.2).get b=some o;rw[T.get_set];split
  ·rename_i e;subst e;rw[hu x.2 (Zm ..)]
  ·rename_i e;exact KX ((Zg.1 h).resolve_left (fun h=>e (by rw[←h]))) (fun o' ho=>hu o' (Zs _ ho))
noncomputable def inL(w:World)(qs:List Nat):List Nat→Nat→List (Nat×Gg)
 |[],_=>[]
 |q::l,j=>(1000+j,Bl w qs q)::inL w qs l (j+1)
theorem yr{w:World}{qs:List Nat}:∀ {l:List Nat} {j b:Nat} {o:Gg},(b,o)∈inL w qs l j→∃i q,l[i]? =some q∧b=1000+j+i∧o=Bl w qs q
 |q::l,j,b,o,h=>by
  rcases Zg.1 h with h|h
  ·cases h;exact⟨0,q,rfl,rfl,rfl⟩
  ·obtain⟨i,q',h1,h2,h3⟩:=yr h;exact⟨i+1,q',h1,by omega,h3⟩
theorem WL{w:World}{qs:List Nat}:∀ {l:List Nat} {j i q:Nat},l[i]? =some q→(1000+j+i,Bl w qs q)∈inL w qs l j
 |a::l,j,0,q,h=>by cases h;exact Zm ..
 |a::l,j,i+1,q,h=>by
  have:=WL (w:=w) (qs:=qs) (l:=l) (j:=j+1) (i:=i) (q:=q) h;rw[show 1000+(j+1)+i=1000+j+(i+1) by omega]at this;exact Zs _ this
noncomputable def stN(w:World)(gs qs as:List Nat):AS:=⟨df ((gs.map fun g=>(g,Bl w qs g))++inL w qs as 0),1000+qs.length⟩
structure Nl(w:World)(gs qs as:List Nat):Prop where
 low:∀g∈gs,g<1000
 pre:as<+:qs
 nd:as.Nodup
 dis:∀q∈as,q∉gs
 cells:∀q,q∈gs∨q∈as→∃cs e fr,w.heap[q]? =some (.cells cs e fr)
 lt:∀q∈qs,q<w.heap.size
theorem Nl.at{w:World}{gs qs as:List Nat}(ok:Nl w gs qs as){i q:Nat}(h:as[i]? =some q):qs[i]? =some q:=by
 obtain⟨rs,rfl⟩:=ok.pre;rw[List.getElem?_append_left (Yc.1 h).1];exact h
section
variable {w:World}{gs qs as:List Nat}
theorem dh{b:Nat}{o:Gg}(h:(stN w gs qs as).h.get b=some o):(b∈gs∧o=Bl w qs b)∨∃i q,as[i]? =some q∧b=1000+i∧o=Bl w qs q:=by
 have h:=WW h;rcases Zk.1 h with h|h
 ·obtain⟨g,hg,e⟩:=Zl.1 h;cases e;exact .inl ⟨hg,rfl⟩
 ·obtain⟨i,q,h1,h2,h3⟩:=yr h;exact .inr ⟨i,q,h1,by omega,h3⟩
theorem WP(ok:Nl w gs qs as){g:Nat}(h:g∈gs):(stN w gs qs as).h.get g=some (Bl w qs g):=by
 refine KX (Zk.2 (.inl (Zl.2 ⟨g,h,rfl⟩))) (fun o ho=>?_);rcases Zk.1 ho with ho|ho
 ·obtain⟨g',_,e⟩:=Zl.1 ho;cases e;rfl
 ·obtain⟨i,q,_,h2,_⟩:=yr ho;have:=ok.low g h;omega
theorem EZ(ok:Nl w gs qs as){i q:Nat}(h:as[i]? =some q):(stN w gs qs as).h.get (1000+i)=some (Bl w qs q):=by
 refine KX (Zk.2 (.inr ?_)) (fun o ho=>?_)
 ·have:=WL (w:=w) (qs:=qs) (l:=as) (j:=0) h;simpa using this
 ·rcases Zk.1 ho with ho|ho
  ·obtain⟨g',hg,e⟩:=Zl.1 ho;cases e;have:=ok.low _ hg;omega
  ·obtain⟨i',q',h1,h2,h3⟩:=yr ho;have:i'=i:=by omega
   subst this;rw[h]at h1;cases h1;exact h3
theorem lr{q:Nat}{cs:Array Value}{e:TypeId}{fr:Nat×Nat}(h:w.heap[q]? =some (.cells cs e fr)):Bl w qs q=.ro (lj qs cs.toList 0 .e) cs.size:=by
 unfold Bl;rw[h]
theorem Zkf{q:Nat}(h:∃cs e fr,w.heap[q]? =some (.cells cs e fr)):OR (ioN qs) (Bl w qs q) w.heap[q]? 0:=by
 obtain⟨cs,e,fr,h⟩:=h;rw[lr h];refine⟨cs,e,fr,h,by omega,fun k v hk hv=>?_⟩;rw[lq qs _ _ _ _ (fun j _=>rfl),if_pos (Zj _),Yl,Yx]at hv;rw[Zw];cases hc:cs[k]? with
 |none=>rw[hc]at hv;cases hv
 |some x=>
  rw[hc]at hv;exact⟨x,rfl,WQ hv⟩
theorem EY(ok:Nl w gs qs as){b:Nat}{o:Gg}(h:(stN w gs qs as).h.get b=some o):∃c n,o=.ro c n:=by
 have:∃q,(q∈gs∨q∈as)∧o=Bl w qs q:=by
  rcases dh h with⟨h1,h2⟩|⟨i,q,h1,_,h2⟩
  ·exact⟨b,.inl h1,h2⟩
  ·exact⟨q,.inr (Y8 h1),h2⟩
 obtain⟨q,hq,rfl⟩:=this;obtain⟨cs,e,fr,h⟩:=ok.cells q hq;exact⟨_,_,lr h⟩
theorem Zkg(ok:Nl w gs qs as){b:Nat}{o:Gg}(h:(stN w gs qs as).h.get b=some o):∃q,(q∈gs∨q∈as)∧ioN qs b=some (q,0)∧o=Bl w qs q:=by
 rcases dh h with⟨h1,h2⟩|⟨i,q,h1,rfl,h2⟩
 ·exact⟨b,.inl h1,Ic qs b (ok.low b h1),h2⟩
 ·exact⟨q,.inr (Y8 h1),Ie (ok.at h1),h2⟩
theorem EX(ok:Nl w gs qs as):Rel (ioN qs) (stN w gs qs as) w:=by
 refine⟨fun b o hb _=>?_,fun b b' o o' q t t' hb hb' _ _ e e'=>?_,fun b hb=>?_,fun b c n z q t hb _=>?_,fun b q t e hb=>?_⟩
 ·obtain⟨q,h1,h2,rfl⟩:=Zkg ok hb;exact⟨q,0,h2,Zkf (ok.cells q h1)⟩
 ·rcases dh hb with⟨h1,_⟩|⟨i,q1,h1,rfl,_⟩<;>rcases dh hb' with⟨h2,_⟩|⟨i',q2,h2,rfl,_⟩
  ·rw[Ic qs b (ok.low b h1)]at e;rw[Ic qs b' (ok.low b' h2)]at e';cases e;cases e';rfl
  ·rw[Ic qs b (ok.low b h1)]at e;rw[Ie (ok.at h2)]at e';cases e;cases e';exact absurd h1 (ok.dis _ (Y8 h2))
  ·rw[Ie (ok.at h1)]at e;rw[Ic qs b' (ok.low b' h2)]at e';cases e;cases e';exact absurd h2 (ok.dis _ (Y8 h1))
  ·rw[Ie (ok.at h1)]at e;rw[Ie (ok.at h2)]at e';cases e;cases e';have hi:i<as.length:=(Yc.1 h1).1;have:=(List.getElem?_inj hi ok.nd).1 (h1.trans h2.symm);rw[this]
 ·have hb:1000+qs.length≤b:=hb;refine⟨?_,?_⟩
  ·show(if b<1000 then _ else(qs[b-1000]?).map fun q=>(q,0))=none;rw[if_neg (by omega),List.getElem?_eq_none (by omega)];rfl
  ·cases hg:(stN w gs qs as).h.get b with
   |none=>rfl
   |some o=>
    rcases dh hg with⟨h1,_⟩|⟨i,q,h1,h2,_⟩
    ·have:=ok.low b h1;omega
    ·have:=(Yc.1 (ok.at h1)).1;omega
 ·obtain⟨_,_,h3⟩:=EY ok hb;cases h3
 ·have hc:∀q,q∈gs∨q∈as→q<w.heap.size:=fun q hq=>by
   obtain⟨cs,e,fr,h⟩:=ok.cells q hq;exact(X5.1 h).1
  by_cases hlt:b<1000
  ·rw[Ic qs b hlt]at e;cases e;rcases hb with hb|hb
   ·cases hg:(stN w gs qs as).h.get b with
    |none=>exact absurd hg hb
    |some o=>
     rcases dh hg with⟨h1,_⟩|⟨i,q,_,h2,_⟩
     ·exact hc b (.inl h1)
     ·omega
   ·omega
  ·have e:(if b<1000 then some (b,0)else(qs[b-1000]?).map fun q=>(q,0))=some (q,t):=e;rw[if_neg hlt]at e;cases hq:qs[b-1000]? with
   |none=>rw[hq]at e;cases e
   |some q'=>
    rw[hq]at e;cases e;exact ok.lt _ (Y8 hq)
theorem Zkh(ok:Nl w gs qs as){i':Io}{s':AS}{w':World}(hf:Fr (ioN qs) (stN w gs qs as) w i' s' w'):Below w.heap.size w w':=by
 refine⟨hf.os,hf.tape,hf.output,hf.size,fun k hk=>hf.keep k hk (fun b t _=>?_)⟩;unfold obA;cases hg:(stN w gs qs as).h.get b with
 |none=>rfl
 |some o=>
  obtain⟨c,n,rfl⟩:=EY ok hg;rfl
def Ro(b:Nat)(vs:List Value):Asn where
 p:=fun S h=>S b∧∃t m,h.get b=some (.ro t m)∧vs.length≤m∧∀(k:Nat) (v:Value),vs[k]? =some v→t.get k=some v
 loc:=fun S h h' e ⟨h1,t,m,h2,h3⟩=>⟨h1,t,m,by rw[e b h1];exact h2,h3⟩
theorem Zki(ok:Nl w gs qs as){P:List Asn}(h:∀A∈P,∃U,A.p U (stN w gs qs as).h∧∀b,U b→(stN w gs qs as).h.get b≠none):Sat [] P (fun _=>False) (stN w gs qs as):=
 ⟨trivial,fun A hA=>by
  obtain⟨U,h1,h2⟩:=h A hA;exact⟨U,h1,fun b hb=>⟨fun h=>h,h2 b hb⟩⟩,fun b h=>h.elim,fun b hb=>((EX ok).fresh b hb).2⟩
theorem Zkj(ok:Nl w gs qs as){g:Nat}(hg:g∈gs){cs:Array Value}{e:TypeId}{fr:Nat×Nat}(hc:w.heap[g]? =some (.cells cs e fr)){vs:List Value}(hv:∀(k:Nat) (v:Value),vs[k]? =some v→(cs[k]?).bind (inV qs)=some v):∃U,(Ro g vs).p U (stN w gs qs as).h∧∀b,U b→(stN w gs qs as).h.get b≠none:=by
 have h:=WP ok hg;rw[lr hc]at h;refine⟨fun b=>b=g,⟨rfl,_,_,h,?_,fun k v hk=>?_⟩,fun b hb=>by rw[hb,h];simp⟩
 ·cases hn:vs.length with
  |zero=>exact Zj _
  |succ n=>
   have:=hv n vs[n] (Zn (by omega));cases hcn:cs[n]? with
   |none=>rw[hcn]at this;cases this
   |some x=>have:=(X5.1 hcn).1;omega
 ·rw[lq qs _ _ _ _ (fun j _=>rfl),if_pos (Zj _),Yl,Yx];exact hv k v hk
theorem Zkk(ok:Nl w gs qs as){k:Nat}{es:List (List Value)}{v x:Value}(hx:inV qs v=some x)(hl:∀a n c,v=.slice a n c→n=es.length)(hv:∃a n c,v=.slice a n c)
  (hlen:∀e∈es,e.length=k) (hc:∀q p n c,v=.slice (some ⟨q,p,none⟩) n c→∀(i:Nat) (e:List Value),es[i]? =some e→∀(j:Nat) (y:Value),e[j]? =some y→(w.cell? ⟨q,p+(i*k+j),none⟩).bind (inV qs)=some y) (hk:0<k) (has:es≠[]→∀(q p n c:Nat),v=.slice (some ⟨q,p,none⟩) n c→q∈as):∃U,(SlR k x es).p U (stN w gs qs as).h∧∀b,U b→(stN w gs qs as).h.get b≠none:=by
 obtain⟨a,n,c,rfl⟩:=hv;have hn:=hl a n c rfl;subst hn;rcases Zke hx with⟨h0,rfl⟩|⟨q,p,j,rfl,hnc,hix,rfl⟩
 ·have hes:es=[]:=Yh.1 h0;subst hes;exact⟨fun _=>False,⟨_,_,rfl,Zj _,.inl rfl⟩,fun b h=>h.elim⟩
 ·cases hes:es with
  |nil=>
   subst hes;exact⟨fun _=>False,⟨_,_,rfl,Zj _,.inl rfl⟩,fun b h=>h.elim⟩
  |cons e0 er=>
   rw[←hes];have hne:0<es.length:=by rw[hes];exact Nat.zero_lt_succ _
   have ha:=Zkd ok.pre (has (by rw[hes];simp) q p _ _ rfl) hix;obtain⟨cs,e,fr,hcell⟩:=ok.cells q (.inr (Y8 ha));have hg:=EZ ok ha;rw[lr hcell]at hg;have hget:∀(i:Nat) (e:List Value),es[i]? =some e→∀(j:Nat) (y:Value),e[j]? =some y→(cs[p+(i*k+j)]?).bind (inV qs)=some y:=fun i e hi j y hy=>by
    have:=hc q p _ _ rfl i e hi j y hy;unfold World.cell? at this;simp only[hcell]at this;exact this
   refine⟨fun b=>b=1000+j,⟨_,_,rfl,by omega,.inr ⟨1000+j,p,_,_,rfl,rfl,hg,by omega,?_,fun i e hi=>?_⟩⟩,fun b hb=>by rw[hb,hg];simp⟩
   ·have hi:es.length-1<es.length:=by omega
    have h1:=Zn hi;have hle:=hlen _ (Y8 h1);have:=hget _ _ h1 (k-1) _ (Zn (by omega));cases hcn:cs[p+((es.length-1)*k+(k-1))]? with
    |none=>rw[hcn]at this;cases this
    |some y=>
     have hlt:=(X5.1 hcn).1;have e:(es.length-1)*k+k=es.length*k:=by
      rw[←Vf];congr 1;omega
     omega
   ·have hle:=hlen e (Y8 hi);refine⟨hle,fun m hm=>?_⟩;have hm':m<e.length:=by omega
    rw[lq qs _ _ _ _ (fun j _=>rfl),if_pos (Zj _),Yl,Yx,Zn hm',Ya];exact hget i e hi m _ (Zn hm')
theorem Zkl {E : Env} (hC : ∀ F D, Mz E.P (Gw E F D)) {f : FuncId} {fn : Func} (hf : E.P.funcs[f]? = some fn) (hn : (fn.name == "runtime.NumGoroutine") = false) (hb : fn.body.isNone = false) (ok : Nl w gs qs as) {args args' : List Value} (ha : VRs (ioN qs) args args')
  {P:List Asn} (hP:∀A∈P,∃U,A.p U (stN w gs qs as).h∧∀b,U b→(stN w gs qs as).h.get b≠none) {Q:Value→Prop} (h:Sp E f args [] P (fun v _ _=>Q v)):
  Calls E.P f ⟨args'⟩ w fun e w'=>∃v v' i',Q v∧e=.returned v'∧VR i' v v'∧Below w.heap.size w w':=by
 obtain⟨v,s',S',L',P',⟨F,D,hr⟩,_,_,hq⟩:=h _ _ (Zki ok hP);have hF:=hC F D f args _ v s' hr (ioN qs) w args' (EX ok) (Ic qs) ha
 have hn' : fn.name ≠ "runtime.NumGoroutine" := by simpa using hn
 have hcall:(callFunc f ⟨args'⟩).run E.P w=.ok (.enter f ⟨args'⟩) w:=by
  unfold callFunc;have hb':fn.body≠none:=fun e=>by rw[e]at hb;cases hb
  simp[hf,hn',hb']
 rcases hF with⟨v',w',i',h1,_⟩|⟨_,h2⟩
 ·rw[hcall]at h1;cases h1
 ·refine Calls.mono h2 (fun e w' he=>?_);cases e with
  |returned v'=>
   obtain⟨i',g1,g2,g3⟩:=he;exact⟨v,v',i',hq,rfl,g1,Zkh ok g3⟩
  |panicked c=>exact he.elim
  |outgrown=>exact he.elim
end
end Go.Lx
namespace Go.Lx
open Go Go.Ax
variable {E:Env}{N:Nat}{ops l:List Oper}{al:Al}{L P:List Asn}{Q:Al→List Asn→List Asn→Prop}{pos:String}{af:Array Edge}
def Tg(e:TypeId)(v:Value)(h:T Gg):Prop:=∀a n c,v=.slice (some a) n c→(n=0∧c=1)∨∀t m z,h.get a.block=some (.cells t m z)→ze z=e+1
theorem lx{e:TypeId}{s:AS}{t:T Value}{m z n c:Nat}(hz:ze z=e+1):Tg e (.slice (some ⟨s.nx,0,none⟩) n c) (s.new (.cells t m z)).h:=by
 intro a n' c' h;cases h;refine .inr (fun t' m' z' hg=>?_);have hg:(s.h.set s.nx (.cells t m z)).get s.nx=some (.cells t' m' z'):=hg;rw[T.get_set_same]at hg;cases hg;exact hz
theorem Zkm{s:AS}{e:TypeId}{j:TI}{v w v':Value}{s':AS}(h:Ia s e j v w=some (v',s'))(ht:Tg e v s.h):Tg e v' s'.h:=by
 unfold Ia at h;cases hb:(Za j.size 0||Za j.bytes 0||Zb 524288 j.size)with
 |true=>rw[hb]at h;cases h
 |false=>
  rw[hb]at h;simp only[cond_false]at h;simp only[Vu]at hb;have hsm:j.size<524288:=by
   rcases Zt j.size 524288 with g|g
   ·exact g
   ·have:=hb.2;rw[Z0 g]at this;cases this
  have htz:=Nz (e:=e) hsm;split at h
  ·rename_i a n c m hm;split at h
   ·cases h;exact lx htz
   ·split at h
    ·cases h
    ·rename_i new _;cases hm0:Za m 0 with
     |true=>rw[hm0]at h;cases h;exact ht
     |false=>
      rw[hm0]at h;simp only[cond_false]at h;have hmne:m≠0:=fun e=>by rw[e]at hm0;cases hm0
      cases hr:Zb (n+m) (c/2)with
      |true=>
       rw[hr]at h;simp only[cond_true]at h;have hr:=Yr hr;split at h
       ·cases h
       ·rename_i a;split at h
        ·cases h
        ·rename_i s1 hw;cases h;intro a' n' c' e';cases e';rcases ht a n c rfl with⟨_,hc⟩|hz
         ·omega
         refine .inr (fun t m' z hg=>?_);unfold wrN at hw;split at hw
         ·rename_i ct mm z0 hg0;have:=hz _ _ _ hg0;cases hbb:(Zb (a.off+n*j.size+new.length) mm&&ones new)with
          |false=>rw[hbb]at hw;cases hw
          |true=>
           rw[hbb]at hw;cases hw;have hg:(s.h.set a.block _).get a.block=some (.cells t m' z):=hg;rw[T.get_set_same]at hg;cases hg;exact this
         ·cases hw
      |false=>
       rw[hr]at h;simp only[cond_false]at h;cases hs:Zb ((n+m)*j.bytes) small with
       |false=>rw[hs]at h;cases h
       |true=>
        rw[hs]at h;simp only[cond_true]at h;split at h
        ·cases h;exact lx htz
        ·rename_i a;cases hz0:(Za n 0&&Za (c%2) 1)with
         |true=>rw[hz0]at h;cases h;exact lx htz
         |false=>
          rw[hz0]at h;simp only[cond_false]at h;split at h
          ·cases h
          ·split at h
           ·rename_i z hg;cases hc:Za (c%2) 1 with
            |true=>rw[hc]at h;cases h;exact lx htz
            |false=>
             rw[hc]at h;simp only[cond_false]at h;cases hq:(Za (zs z) j.size&&ones new)with
             |false=>rw[hq]at h;cases h
             |true=>
              rw[hq]at h;cases h;have:ze z=e+1:=by
               rcases ht a n c rfl with⟨_,hc1⟩|hz
               ·rw[hc1]at hc;cases hc
               ·exact hz _ _ _ hg
              exact lx (s:=s.upd a.block .dead) (by unfold zg;rw[this,Yy,cond_true];unfold ze tz;omega)
           ·cases h
  ·cases h
def OwZ(e:TypeId)(k:Nat)(v:Value)(es:List (List Value)):Asn where
 p:=fun S h=>(Ow k v es).p S h∧Tg e v h
 loc:=fun S h h' he ⟨h1,h2⟩=>⟨(Ow k v es).loc S h h' he h1,fun a n c hv=>by
  rcases h2 a n c hv with hl|hr
  ·exact .inl hl
  ·rcases h1 with⟨_,a',c',g1,g2,g3⟩|⟨b,c',m,z,t,g1,g2,_⟩
   ·subst g1;cases hv;exact .inl ⟨rfl,g3.resolve_left (fun h=>by cases h)⟩
   ·subst g1;cases hv;refine .inr (fun t m z hg=>hr t m z ?_);rw[←he _ g2];exact hg⟩
theorem Own.fst{A B:Asn}{L:List Asn}{S:Nat→Prop}{h:T Gg}(H:Own (A::L) S h)(f:∀S,A.p S h→B.p S h):Own (B::L) S h:=by
 obtain⟨S1,S2,h1,h2,hd,ha,hl⟩:=H;exact⟨S1,S2,h1,h2,hd,f _ ha,hl⟩
def Src(E:Env)(k:Nat)(u:TypeId)(w:Value)(fs:List (List Value))(L P:List Asn):Prop:=
 (∀S s,Sat L P S s→(∀f∈fs,f.length=k)∧B3 s k fs.length w=some fs.flatten∧Bq w=some fs.length∧(∀tt,fs≠[]→Ip s (fs.length*k) w=some tt→Mf k 0 tt fs))∧
 ∃ui,E.ty.get u=some ui∧((∃e',ui.desc=.slice e')∨ui.desc=.string)
theorem Src.sl{k:Nat}{u:TypeId}{w:Value}{fs:List (List Value)}(h:Gn k w fs L P)(hu:dd E u=true:=by rfl):Src E k u w fs L P:=by
 refine⟨fun S s hs=>?_,?_⟩
 ·have hU:=h.holds hs;have hfl:∀f∈fs,f.length=k:=by
   obtain⟨a,c,_,hor⟩:=hU;rcases hor with rfl|⟨b,o,m,z,t',_,_,_,h⟩
   ·exact fun f hf=>by cases hf
   ·exact h.len
  refine⟨hfl,?_,?_,fun tt hpos hsh=>?_⟩
  ·by_cases hf:fs=[]
   ·subst hf;obtain⟨a,c,h,_⟩:=hU;rw[h];cases a with
    |none=>rfl
    |some a=>rfl
   ·obtain⟨b,o,h1,h2⟩:=kz hU hf;rw[h1];unfold B3;simp only;have:Za fs.length 0=false:=by
     cases fs with
     |nil=>exact absurd rfl hf
     |cons x l=>rfl
    rw[this];exact h2
  ·obtain⟨a,c,h,_⟩:=hU;rw[h];rfl
  ·obtain⟨a',c',hw',hor⟩:=hU;rcases hor with hor|⟨b',o',m',z',t',rfl,u2,u3,u4⟩
   ·exact absurd hor hpos
   rw[hw']at hsh;unfold Ip at hsh;simp only at hsh;rcases u2 with u2|u2
   ·rw[u2]at hsh;simp only at hsh;cases hq:(Za o' 0&&Za m' (fs.length*k))with
    |false=>rw[hq]at hsh;cases hsh
    |true=>
     rw[hq]at hsh;simp only[cond_true,Option.some.injEq]at hsh;subst hsh;rw[Zi]at hq;obtain rfl:=Zv hq.1;exact u4
   ·rw[u2]at hsh;cases hsh
 ·obtain⟨i,e,h1,h2⟩:=WH hu;exact⟨i,h1,.inl ⟨e,h2⟩⟩
def byL(b:List UInt8):List (List Value):=b.map fun c=>[.int .u8 c.toNat]
theorem M4(b:List UInt8):(byL b).length=b.length:=Zc ..
theorem EV(a b:List UInt8):byL (a++b)=byL a++byL b:=Zp ..
theorem KV :∀b:List UInt8,(byL b).flatten=b.map fun c=>Value.int .u8 c.toNat
 |[]=>rfl
 |x::b=>by
  show Value.int .u8 x.toNat::(byL b).flatten=_;rw[KV b];rfl
theorem KU(b:List UInt8):∀f∈byL b,ones f=true:=fun f hf=>by
 obtain⟨c,_,rfl⟩:=Zl.1 hf;rfl
noncomputable def EU(E:Env)(u:TypeId):Bool:=match E.ty.get u with
 |some i=>match i.desc with
  |.string=>true
  |_=>false
 |none=>false
theorem Src.tx{u:TypeId}{b:Bs}(hu:EU E u=true:=by rfl):Src E 1 u (S b) (byL b) L P:=by
 refine⟨fun S s hs=>⟨fun f hf=>?_,?_,?_,fun tt _ h=>by cases h⟩,?_⟩
 ·obtain⟨c,_,rfl⟩:=Zl.1 hf;rfl
 ·show(bif Za 1 1 then some ((fh (byL b).length b.toArray.toList).map fun b=>Value.int .u8 b.toNat)else none)=_;rw[KV,m6,M4];show some ((List.take b.length b).map _)=_;rw[Ul]
 ·rw[M4];show some (ByteArray.size ⟨b.toArray⟩)=_;rfl
 ·unfold EU at hu;cases hi:E.ty.get u with
  |none=>rw[hi]at hu;cases hu
  |some i=>
   rw[hi]at hu;simp only at hu;refine⟨i,rfl,.inr ?_⟩;cases hd:i.desc with
   |string=>rfl
   |_=>rw[hd]at hu;cases hu
theorem WO.apz{x y:Operand}{ts:Array TypeId}{k t u:Nat}{e:TypeId}{j:TI}{v w:Value}{es fs:List (List Value)}{L':List Asn}{Q:Value→List Asn→List Asn→Prop}(hx:evl al x=some v)(hy:evl al y=some w)(h0:ts.toList=[t,u])(h1:slT E t=some (e,j))(h3:j.size=k)(h4:Za k 0=false)(h5:Za j.bytes 0=false)(h6:Zb 524288 k=false)
  (hr:Rem (OwZ e k v es) L L') (hw:Src E k u w fs L P) (hn:(es.length+fs.length)*j.bytes≤1099511627776) (ho:∀f∈fs,ones f=true) (h:∀v',Q v' (OwZ e k v' (es++fs)::L') P):WO E (.call ⟨.builtin .append, #[x,y],ts⟩) al L P Q:=by
 intro S s tm hs ha;obtain⟨q1,ui,g1,g2⟩:=hw;obtain⟨r1,r2,r3,r4⟩:=q1 S s hs;have hown:=hs.own.perm hr.perm;have htg:Tg e v s.h:=by
  obtain⟨S1,S2,_,_,_,hz,_⟩:=hown;exact hz.2
 obtain⟨v',s',S',k1,k2,k3⟩:=yp (L':=L') (P:=P) ⟨hown.fst (fun _ h=>h.1),hs.per,hs.ex,hs.fresh⟩ r1 r2 r3 r4 h1 g1 g2 h3 h4 h5 h6 hn ho;obtain⟨i,f1,f2,f3⟩:=M3 h1;have htg':=Zkm (by rw[←yk f1 f2 f3 g1 g2];exact k1) htg;exact⟨v',s',S',_,_,⟨0,0,lc ha hx hy h0 k1⟩,k2,⟨k3.own.fst (B:=OwZ e k v' (es++fs)) (fun _ h=>⟨h,htg'⟩),k3.per,k3.ex,k3.fresh⟩,h v'⟩
theorem WR.apz{x y:Operand}{d p k t u:Nat}{e:TypeId}{j:TI}{v w:Value}{es fs:List (List Value)}{L':List Asn}(hw:Src E k u w fs L P)(h:∀v',WR E N ops l ((d,v')::al) (OwZ e k v' (es++fs)::L') P Q)(hx:evl al x=some v:=by rfl)(hy:evl al y=some w:=by rfl)
  (hr:Rem (OwZ e k v es) L L':=by first|exact .z|exact .s .z|exact .s (.s .z)|exact .s (.s (.s .z))|exact .s (.s (.s (.s .z))))
  (h1:slT E t=some (e,j):=by rfl) (h3:j.size=k:=by rfl) (h4:Za k 0=false:=by rfl) (h5:Za j.bytes 0=false:=by rfl) (h6:Zb 524288 k=false:=by rfl)
  (hn:(es.length+fs.length)*j.bytes≤1099511627776:=by(simp only[Zf,Zo];omega)) (ho:∀f∈fs,ones f=true:=by first|exact KU _|simp[Go.Ax.ones,Go.Ax.oneC]) (hN:Zb d N=true:=by rfl):WR E N ops (⟨some d,.call ⟨.builtin .append, #[x,y], #[t,u]⟩,p,pos,af,none⟩::l) al L P Q:=
 WR.op rfl rfl hN (WO.apz hx hy rfl h1 h3 h4 h5 h6 hr hw hn ho h)
theorem Ent.nonez{k:Nat}{e:TypeId}:Ent L P (OwZ e k (.slice Option.none 0 0) []::L) P:=fun S s hs=>⟨S,fun _ h=>h,⟨⟨fun _=>False,S,fun _ h=>h.elim,fun _ h=>h,fun _ h _=>h.elim,⟨.inl ⟨rfl,_,_,rfl,by omega,.inl rfl⟩,fun a n c h=>by cases h⟩,hs.own⟩,hs.per,hs.ex,hs.fresh⟩⟩
theorem WD.wo{an:List Nat}{base i d t:Nat}{op:Op}{g:Option (Nat×Bool)}{NW:Hj}{Hs:Ni}{CK:List Chk}{K:Al→List Asn→List Asn→Prop}
  (h:WO E op al (Nw (an.getD i 0) NW++L) P (fun v L' P'=>WD E N ops an base l (i+1) ((d,v)::al) L' P' (Nj (an.getD i 0) NW) (Hs++[(L',P')]) CK K)) (hg:gOk ops al g=true:=by rfl) (hn:Gv op=false:=by rfl) (he:eff E.ty op=true:=by rfl) (hN:Zb d N=true:=by rfl):WD E N ops an base (⟨some d,op,t,pos,af,g⟩::l) i al L P NW Hs CK K:=
 WD.actE (Cn hg) hn he (fun tm v ha=>⟨_,yj hN,ha.set d v⟩) h
theorem If{b:Builtin}{xs:Array Operand}{ts:Array TypeId}{vs:List Value}{tm:Tm}{s:AS}{r:Option (Value×AS)}(ha:Has al tm)(hx:Me al xs.toList=some vs)(h:R8 E s b ts.toList vs=r):Br ⟨.builtin b,xs,ts⟩ E tm s=r:=by
 unfold Br;simp only;rw[kg ha hx];exact h
theorem WO.usd{x:Operand}{ts:Array TypeId}{k:Nat}{v:Value}{es:List (List Value)}{e:TypeId}{Q:Value→List Asn→List Asn→Prop}(hx:Me al #[x].toList=some [v])(hm:In (OwZ e k v es) L P)(hne:es≠[])(h:∀b n c,v=.slice (some ⟨b,0,none⟩) n c→Q (.pointer (some ⟨b,0,none⟩)) L P):WO E (.call ⟨.builtin .unsafeSliceData, #[x],ts⟩) al L P Q:=by
 intro S s tm hs ha;obtain⟨U,h1,_⟩:=hm.holds hs;rcases h1.1 with⟨h2,_⟩|⟨b,c,m,z,t,rfl,_,_,h4,_⟩
 ·exact absurd h2 hne
 ·refine⟨_,s,S,L,P,⟨0,0,?_⟩,.refl _ _,hs,h b _ c rfl⟩;have hc:Za (c/2) 0=false:=by
   have:es.length≠0:=fun e=>hne (Yh.1 e);cases hb:Za (c/2) 0 with
   |false=>rfl
   |true=>have:=Zv hb;omega
  refine If ha hx ?_;show(match ts.toList,[Value.slice (some ⟨b,0,none⟩) es.length c]with|_,[x]=>m8 s x|_,_=>none)=_
  show(bif Za (c/2) 0 then none else some (Value.pointer (some ⟨b,0,none⟩),s))=_;rw[hc];rfl
theorem KJ :∀b:List UInt8,Bp (byL b).flatten=some b
 |[]=>rfl
 |x::b=>by
  show Bp (Value.int .u8 x.toNat::(byL b).flatten)=_;unfold Bp;rw[KJ b];have:UInt8.ofNat ((x.toNat:Int)).toNat=x:=by simp
  rw[this]
def Any :Asn:=⟨fun _ _=>True,fun _ _ _ _ _=>trivial⟩
noncomputable def ptZ(E:Env)(t e:TypeId):Bool:=match E.ty.get t with
 |some i=>match i.desc with
  |.pointer e'=>(Za e' e&&(match E.ty.get e with|some j=>Za j.size 1|none=>false))
  |_=>false
 |none=>false
theorem WO.ustr{x y:Operand}{t u:TypeId}{v:Value}{bs:Bs}{e b n c:Nat}{L':List Asn}{Q:Value→List Asn→List Asn→Prop}(hx:Me al [x,y]=some [.pointer (some ⟨b,0,none⟩),.int .i64 (byL bs).length])(hv:v=.slice (some ⟨b,0,none⟩) n c)(hr:Rem (OwZ e 1 v (byL bs)) L L')(hne:bs≠[])(hlen:bs.length≤1099511627776)(ht:ptZ E t e=true)(h:Q (S bs) L' P):WO E (.call ⟨.builtin .unsafeString, #[x,y], #[t,u]⟩) al L P Q:=by
 intro S0 s tm hs ha;have hp:=hs.own.perm hr.perm;have hs1:Sat (OwZ e 1 v (byL bs)::L') P S0 s:=⟨hp,hs.per,hs.ex,hs.fresh⟩;have hz:(OwZ e 1 v (byL bs)).p S0 s.h∧∃m z tr,s.h.get b=some (.cells tr m z)∧(byL bs).length≤m∧Mf 1 0 tr (byL bs)∧ze z=e+1:=by
  obtain⟨S1,S2,q1,q2,q3,q4,q5⟩:=hp;refine⟨⟨?_,q4.2⟩,?_⟩
  ·rcases q4.1 with h|⟨b',c',m,z,tr,g1,g2,g3⟩
   ·exact .inl h
   ·exact .inr ⟨b',c',m,z,tr,g1,q1 _ g2,g3⟩
  ·rcases q4.1 with⟨h0,_⟩|⟨b',c',m,z,tr,g1,g2,g3,g4,g5,g6,g7⟩
   ·have:=congrArg Yi h0;rw[M4]at this;exact absurd (Yh.1 this) hne
   ·have htg:=q4.2;subst hv;cases g1;refine⟨m,z,tr,g3,by omega,g7,?_⟩;rcases htg _ _ _ rfl with⟨h0,_⟩|h
    ·rw[M4]at h0;exact absurd (Yh.1 h0) hne
    ·exact h _ _ _ g3
 obtain⟨_,m,z,tr,g1,g2,g3,g4⟩:=hz;have hrd:rdN s b 0 (byL bs).length=some (byL bs).flatten:=by
  unfold rdN;rw[g1];simp only;rw[Zw,Z0 g2];simp only[cond_true];have:=g3.read;rw[Vs]at this;exact this
 have hup:Sat (Any::L') P S0 (s.upd b .dead)∧Tr S0 s S0 (s.upd b .dead):=hs1.upd (A:=OwZ e 1 v (byL bs)) (B:=Any) .z (fun U h H=>by
  rcases H.1 with⟨h0,_⟩|⟨b',c',m,z,tr,k1,k2,_⟩
  ·have:=congrArg Yi h0;rw[M4]at this;exact absurd (Yh.1 this) hne
  ·subst hv;cases k1;exact k2) (fun _ _=>trivial)
 refine⟨S bs,s.upd b .dead,S0,L',P,⟨0,0,?_⟩,hup.2,⟨hup.1.own.drop,hup.1.per,hup.1.ex,hup.1.fresh⟩,h⟩;refine If ha hx ?_;show fm E s t (.pointer (some ⟨b,0,none⟩)) (.int .i64 (byL bs).length)=_;unfold ptZ at ht;unfold fm;cases hi:E.ty.get t with
 |none=>rw[hi]at ht;cases ht
 |some i=>
  rw[hi]at ht;simp only at ht ⊢;have hl:bs.length≠0:=fun h=>hne (Yh.1 h);have h0:Za (byL bs).length 0=false:=by
   rw[M4];cases hb:Za bs.length 0 with
   |false=>rfl
   |true=>exact absurd (Zv hb) hl
  show(bif Za (byL bs).length 0 then some (Value.string .empty,s)else _)=_;rw[h0];simp only[cond_false];split at ht
  ·rename_i e' hd;rw[hd];simp only;cases hj:E.ty.get e with
   |none=>rw[hj]at ht;cases hee:Za e' e<;>rw[hee]at ht<;>cases ht
   |some j=>
    rw[hj]at ht;cases hee:Za e' e with
    |false=>rw[hee]at ht;cases ht
    |true=>
     rw[hee]at ht;obtain rfl:=Zv hee;have ht:Za j.size 1=true:=ht;rw[hj,g1];simp only;have hsm:Zb (byL bs).length small=true:=Z0 (by rw[M4];exact hlen);rw[ht,g4,Yy,hsm];simp only[Bool.and_self,cond_true];rw[hrd];simp only;rw[KJ]
  ·cases ht
noncomputable def upK(E:Env)(a b u:TypeId):Bool:=match E.ty.get a,E.ty.get b with
 |some i,some i'=>match i.desc,i'.desc with
  |.pointer t,.unsafePointer=>(Za t u&&(match E.ty.get u with|some j=>Zb 1 j.size|none=>false))
  |.unsafePointer,.pointer t=>(Za t u&&(match E.ty.get u with|some j=>Zb 1 j.size|none=>false))
  |_,_=>false
 |_,_=>false
theorem Zkn{x:Operand}{a b u k:Nat}{cs:List Value}{tm:Tm}{s:AS}{Sx:Nat→Prop}(ha:Has al tm)(hs:Sat L P Sx s)(hx:evl al x=some (.pointer (some ⟨k,0,none⟩)))(hm:In (Pt k cs (tz 0 u)) L P)(ht:upK E a b u=true)(hl:cs.length=(match E.ty.get u with|some j=>j.size|none=>0)):N2 a b x E tm s=some (.pointer (some ⟨k,0,none⟩),s):=by
 obtain⟨U,⟨_,c,h2,_⟩,_⟩:=hm.holds hs;unfold N2;rw[Gm ha hx];simp only;unfold Cy;unfold upK at ht;cases hi:E.ty.get a with
 |none=>rw[hi]at ht;cases ht
 |some i=>
  rw[hi]at ht;cases hi':E.ty.get b with
  |none=>rw[hi']at ht;cases ht
  |some i'=>
   rw[hi']at ht;simp only at ht ⊢;split at ht
   ·rename_i t h3 h4;rw[h3,h4];simp only;cases hj:E.ty.get u with
    |none=>rw[hj]at ht;cases hee:Za t u<;>rw[hee]at ht<;>cases ht
    |some j=>
     rw[hj]at ht hl;cases hee:Za t u with
     |false=>rw[hee]at ht;cases ht
     |true=>
      rw[hee]at ht;obtain rfl:=Zv hee;have ht:Zb 1 j.size=true:=ht;have ht':=Yr ht;rw[hj];simp only;have h0:Za j.size 0=false:=by
       cases hb:Za j.size 0 with
       |false=>rfl
       |true=>have:=Zv hb;omega
      have hlt:Zh 0 cs.length=true:=by rw[Yj];simp only at hl;omega
      rw[h0,h2];simp only[cond_false];rw[hlt];rfl
   ·rename_i t h3 h4;rw[h3,h4];simp only;cases hj:E.ty.get u with
    |none=>rw[hj]at ht;cases hee:Za t u<;>rw[hee]at ht<;>cases ht
    |some j=>
     rw[hj]at ht hl;cases hee:Za t u with
     |false=>rw[hee]at ht;cases ht
     |true=>
      rw[hee]at ht;obtain rfl:=Zv hee;have ht:Zb 1 j.size=true:=ht;rw[hj,h2];simp only;have hle:Zb j.size cs.length=true:=Z0 (by simp only at hl;omega);have z1:ze (tz 0 t)=t+1:=Nz (by omega);have z2:zs (tz 0 t)=0:=Na (by omega);rw[z1,z2,Yy,hle,ht];rfl
   ·cases ht
theorem WR.up{x:Operand}{d t a b u k:Nat}{cs:List Value}(h:WR E N ops l ((d,.pointer (some ⟨k,0,none⟩))::al) L P Q)(hx:evl al x=some (.pointer (some ⟨k,0,none⟩)):=by rfl)
  (hm:In (Pt k cs (tz 0 u)) L P:=by first|assumption|exact .l0|exact .l1|exact .l2|exact .l3) (ht:upK E a b u=true:=by rfl) (hl:cs.length=(match E.ty.get u with|some j=>j.size|none=>0):=by rfl) (hN:Zb d N=true:=by rfl):WR E N ops (⟨some d,.convert a b x,t,pos,af,none⟩::l) al L P Q:=
 WR.op rfl rfl hN (WO.see (fun call tm S s hs ha=>Zkn ha hs hx hm ht hl) h)
noncomputable def ptK(E:Env)(u:TypeId):Bool:=match E.ty.get u with
 |some i=>match i.desc with
  |.pointer e=>(match E.ty.get e with|some j=>Zb 1 j.size|none=>false)
  |_=>false
 |none=>false
theorem Zko{op:BinOp}{u k:Nat}{x y:Operand}(hx:evl al x=some (.pointer (some ⟨k,0,none⟩)))(hy:evl al y=some (.pointer (some ⟨k,0,none⟩)))(hk:ptK E u=true)(tm:Tm)(s:AS)(ha:Has al tm){q:Bool}(hop:(op=.eql∧q=true)∨(op=.neq∧q=false)):M5 op u x y E tm s=some (.bool q,s):=by
 have h1:eqA E s u (.pointer (some ⟨k,0,none⟩)) (.pointer (some ⟨k,0,none⟩))=some true:=by
  unfold ptK at hk;unfold eqA;cases hi:E.ty.get u with
  |none=>rw[hi]at hk;cases hk
  |some i=>
   rw[hi]at hk;simp only at hk ⊢;split at hk
   ·rename_i e hd;rw[hd];cases hj:E.ty.get e with
    |none=>rw[hj]at hk;cases hk
    |some j=>
     rw[hj]at hk;have:=Yr hk;have h0:Za j.size 0=false:=by
      cases hb:Za j.size 0 with
      |false=>rfl
      |true=>have:=Zv hb;omega
     show(match E.ty.get e with|none=>none|some i=>bif Za i.size 0 then none else bif Za k k then some (Za 0 0&&true&&true)else _)=some true
     rw[hj];simp only;rw[h0,Yy];rfl
   ·cases hk
 unfold M5;rw[Gm ha hx,Gm ha hy];simp only;have hv:Fj E s op u x y (.pointer (some ⟨k,0,none⟩)) (.pointer (some ⟨k,0,none⟩))=Il E s op u x y (.pointer (some ⟨k,0,none⟩)) (.pointer (some ⟨k,0,none⟩)):=rfl;rw[hv];unfold Il;have hn:Fi (.pointer (some ⟨k,0,none⟩))=false:=rfl;rw[hn];simp only[Xp,cond_false];rcases hop with⟨rfl,rfl⟩|⟨rfl,rfl⟩
 ·simp only;unfold Bo;rw[h1];rfl
 ·simp only;unfold Bo;rw[h1];rfl
theorem Pu.pdiff{x y:Operand}{u r k:Nat}(hx:evl al x=some (.pointer (some ⟨k,0,none⟩)):=by rfl)(hy:evl al y=some (.pointer (some ⟨k,0,none⟩)):=by rfl)(hk:ptK E u=true:=by rfl):Pu E al (.binOp .neq u x y r) (.bool false):=⟨fun _ _ _=>rfl,fun tm s ha=>Zko hx hy hk tm s ha (.inr ⟨rfl,rfl⟩)⟩
theorem OwZ.pl{e:TypeId}{k:Nat}{v:Value}{es:List (List Value)}(h:In (OwZ e k v es) L P){S:Nat→Prop}{s:AS}(hs:Sat L P S s):SlP k v es s.h:=by
 obtain⟨U,h1,_⟩:=h.holds hs;exact Sl.pl (Ow.sl h1.1)
theorem Lk.lnz{x:Operand}{ts:Array TypeId}{k:Nat}{u e:TypeId}{j:TI}{v:Value}{es:List (List Value)}{e':TypeId}(hm:In (OwZ e' k v es) L P)(hx:evl al x=some v:=by rfl)(ht:ts.toList.head? =some u:=by rfl)(hu:slT E u=some (e,j):=by rfl):Lk E al L P (.call ⟨.builtin .len, #[x],ts⟩) (.int .i64 es.length):=
 ⟨fun _ _ _=>rfl,fun tm S s ha hs s'=>by
  have hU:=OwZ.pl hm hs;exact JK ha hx ht (QR hU hu)⟩
theorem Sp.noesc{f:FuncId}{v:Value}(hp:E.prim.get f=some rr:=by rfl):Sp E f [v] L P (fun r L' P'=>r=v∧L'=L∧P'=P):=
 Sp.prim hp (fun S s hs=>⟨v,s,S,L,P,rfl,.refl _ _,hs,rfl,rfl,rfl⟩)
theorem WR.fact{p:Prop}(hf:∀S s,Sat L P S s→p)(h:p→WR E N ops l al L P Q):WR E N ops l al L P Q:=fun S s tm hs ha=>h (hf S s hs) S s tm hs ha
theorem W.fact{p:Prop}{c:Code}{Q:X→Al→List Asn→List Asn→Prop}(hf:∀S s,Sat L P S s→p)(h:p→W E N c al L P Q):W E N c al L P Q:=fun S s tm hs ha=>h (hf S s hs) S s tm hs ha
theorem WD.fact{an:List Nat}{base i:Nat}{NW:Hj}{Hs:Ni}{CK:List Chk}{K:Al→List Asn→List Asn→Prop}{p:Prop}(hf:∀S s,Sat L P S s→p)(h:p→WD E N ops an base l i al L P NW Hs CK K):WD E N ops an base l i al L P NW Hs CK K:=by
 intro S0 s0 S s tm ss rs nw ht hb hdi ha hh hr;exact h (hf _ _ hdi.sat) S0 s0 S s tm ss rs nw ht hb hdi ha hh hr
theorem Hr{k:Nat}{v:Value}{es:List (List Value)}(h:In (Ow k v es) L P)(S:Nat→Prop)(s:AS)(hs:Sat L P S s):∃a c,v=.slice a es.length c:=by
 obtain⟨U,h1,_⟩:=h.holds hs;obtain⟨a,c,h,_⟩:=Sl.pl (Ow.sl h1);exact⟨a,c,h⟩
theorem KG{e:TypeId}{k:Nat}{v:Value}{es:List (List Value)}(h:In (OwZ e k v es) L P)(S:Nat→Prop)(s:AS)(hs:Sat L P S s):∃a c,v=.slice a es.length c:=by
 obtain⟨a,c,h,_⟩:=OwZ.pl h hs;exact⟨a,c,h⟩
theorem Gi{k:Nat}{v:Value}{es:List (List Value)}(h:Gn k v es L P)(S:Nat→Prop)(s:AS)(hs:Sat L P S s):∃a c,v=.slice a es.length c:=by
 obtain⟨a,c,h,_⟩:=h.holds hs;exact⟨a,c,h⟩
theorem Ent.take{A:Asn}{L1 L':List Asn}(hr:Rem A L L1)(h:Ent L1 P L' P):Ent L P (A::L') P:=(Ent.perm hr.perm).trans (Ent.under h rfl)
theorem KH{b:List UInt8}(h:b≠[]):byL b≠[]:=fun e=>h (by
 have:=congrArg Yi e;rw[M4]at this;exact Yh.1 this)
end Go.Lx
namespace Go.Lx
open Go Go.Ax
variable {E:Env}{N:Nat}{ops l:List Oper}{al:Al}{L P:List Asn}{Q:Al→List Asn→List Asn→Prop}
theorem Zkp{u n:Nat}{ps:Array (Nat×Operand)}{es:List (List Value)}{tm:Tm}{s:AS}(ha:Has al tm)(hf:bls E al u n ps=some es.flatten)(hn:es.length=n):N1 u n ps E tm s=some (.slice (some ⟨s.nx,0,none⟩) es.length (2*n+1),s.new (.cells (T.e.fill 0 es.flatten) es.flatten.length 0)):=by
 unfold bls at hf;cases hu:slT E u with
 |none=>rw[hu]at hf;cases hf
 |some p=>
  obtain⟨e,j⟩:=p;obtain⟨i,g1,g2,g3⟩:=M3 hu;cases hp:ptl al ps.toList with
  |none=>rw[hu,hp]at hf;cases hf
  |some r=>
   rw[hu,hp]at hf;simp only at hf;unfold N1;rw[g1,kp ha hp];simp only;rw[g2];simp only;rw[g3];simp only;cases hb:Zb (n*j.size) 65536 with
   |false=>rw[hb]at hf;cases hf
   |true=>
    rw[hb]at hf;simp only[cond_true]at hf ⊢;rw[hf];simp only;rw[hn];rfl
section
variable {an:List Nat}{base i:Nat}{NW:Hj}{Hs:Ni}{CK:List Chk}{K:Al→List Asn→List Asn→Prop}
theorem WD.bl{u n d t k:Nat}{ps:Array (Nat×Operand)}{pos:String}{af:Array Edge}{g:Option (Nat×Bool)}{es:List (List Value)}(h:∀b,WD E N ops an base l (i+1) ((d,.slice (some ⟨b,0,none⟩) es.length (2*n+1))::al) L P (NW++[(i,Ow k (.slice (some ⟨b,0,none⟩) es.length (2*n+1)) es)]) Hs CK K)
  (hf:bls E al u n ps=some es.flatten:=by rfl) (hn:es.length=n:=by rfl) (hk:∀e∈es,e.length=k:=by simp) (hg:gOk ops al g=true:=by rfl) (hN:Zb d N=true:=by rfl) (hl:i<ops.length:=by decide) (hlt:∀x∈NW,x.1<i:=by simp):WD E N ops an base (⟨some d,.buildSlice u n ps,t,pos,af,g⟩::l) i al L P NW Hs CK K:=
 WD.newE (ob:=.cells (T.e.fill 0 es.flatten) es.flatten.length 0) (Cn hg) rfl hN rfl hl (fun tm b ha=>JL (by
  show N1 u n ps E tm _=_;exact Zkp ha hf hn)) (fun b h hg=>by
  rw[Nk hk]at hg;exact Dd (.inl (by rw[hn])) (Co hk) h hg) hlt h
theorem WD.ap{x y:Operand}{ts:Array TypeId}{d t k by':Nat}{pos:String}{af:Array Edge}{g:Option (Nat×Bool)}{v w:Value}{es fs:List (List Value)}{L':List Asn}(hw:Gn k w fs (Nw (an.getD i 0) NW++L) P)(hr:Rem (Ow k v es) (Nw (an.getD i 0) NW++L) L')(h:∀v',WD E N ops an base l (i+1) ((d,v')::al) (Ow k v' (es++fs)::L') P (Nj (an.getD i 0) NW) (Hs++[(Ow k v' (es++fs)::L',P)]) CK K)(hx:evl al x=some v:=by rfl)(hy:evl al y=some w:=by rfl)
  (ht:ApT E k by' ts:=by exact ApT.mk') (hn:(es.length+fs.length)*by'≤1099511627776:=by(simp only[Zf,Zo];omega)) (ho:∀f∈fs,ones f=true:=by simp[Go.Ax.ones,Go.Ax.oneC]) (hg:gOk ops al g=true:=by rfl) (hN:Zb d N=true:=by rfl):WD E N ops an base (⟨some d,.call ⟨.builtin .append, #[x,y],ts⟩,t,pos,af,g⟩::l) i al L P NW Hs CK K:=
 WD.wo (WO.ap hx hy ht hr hw hn ho h) hg rfl rfl hN
end
noncomputable def csK(E:Env)(a b:TypeId):Bool:=match E.ty.get a,E.ty.get b with
 |some i,some i'=>match i.desc,i'.desc with
  |.slice e,.string=>(match E.ty.get e with|some ⟨.int .u8,_,_,_⟩=>true|_=>false)
  |_,_=>false
 |_,_=>false
theorem Zkq{x:Operand}{a b:TypeId}{v:Value}{bs:Bs}{tm:Tm}{s:AS}(ha:Has al tm)(hx:evl al x=some v)(hU:SlP 1 v (byL bs) s.h)(hk:csK E a b=true):N2 a b x E tm s=some (S bs,s):=by
 unfold N2;rw[Gm ha hx];simp only;unfold csK at hk;unfold Cy;cases hi:E.ty.get a with
 |none=>rw[hi]at hk;cases hk
 |some i=>
  rw[hi]at hk;cases hi':E.ty.get b with
  |none=>rw[hi']at hk;cases hk
  |some i'=>
   rw[hi']at hk;simp only at hk ⊢;split at hk
   ·rename_i e h1 h2;rw[h1,h2];cases hj:E.ty.get e with
    |none=>rw[hj]at hk;cases hk
    |some j=>
     rw[hj]at hk;have hu8:∃q1 q2 q3,j=⟨.int .u8,q1,q2,q3⟩:=by
      split at hk
      ·rename_i q1 q2 q3 he;cases he;exact⟨_,_,_,rfl⟩
      ·cases hk
     obtain⟨q1,q2,q3,rfl⟩:=hu8;by_cases hb:bs=[]
     ·subst hb;obtain⟨p,c,rfl,_⟩:=hU;cases p with
      |none=>
       show(match E.ty.get e with|some ⟨.int .u8,_,_,_⟩=>some (Value.string .empty,s)|_=>none)=_
       rw[hj];rfl
      |some p=>
       show(match E.ty.get e with|some ⟨.int .u8,_,_,_⟩=>(bif Za 0 0 then some (Value.string .empty,s)else _)|_=>none)=_
       rw[hj];rfl
     ·obtain⟨q,o,h3,h4⟩:=kz hU (KH hb);rw[h3];rw[Vs]at h4;show(match E.ty.get e with|some ⟨.int .u8,_,_,_⟩=>(bif Za (byL bs).length 0 then some (Value.string .empty,s)else(match rdN s q o (byL bs).length with|none=>none|some l=>match Bp l with|none=>none|some bs=>some (Value.string ⟨⟨bs⟩⟩,s)))|_=>none)=_
      rw[hj];simp only;have h0:Za (byL bs).length 0=false:=by
       cases hc:Za (byL bs).length 0 with
       |false=>rfl
       |true=>exact absurd (Yh.1 (Zv hc)) (KH hb)
      rw[h0,h4];simp only[cond_false];rw[KJ]
   ·cases hk
theorem WR.cs{x:Operand}{d t a b:Nat}{pos:String}{af:Array Edge}{v:Value}{bs:Bs}(hm:Gn 1 v (byL bs) L P)(h:WR E N ops l ((d,S bs)::al) L P Q)(hx:evl al x=some v:=by rfl)(hk:csK E a b=true:=by rfl)(hN:Zb d N=true:=by rfl):WR E N ops (⟨some d,.convert a b x,t,pos,af,none⟩::l) al L P Q:=
 WR.op rfl rfl hN (WO.see (fun call tm S s hs ha=>Zkq ha hx (hm.holds hs) hk) h)
theorem Pu.quoT{x y:Operand}{u r:Nat}{k:IntKind}{a b:Int}(hx:evl al x=some (.int k a):=by rfl)(hy:evl al y=some (.int k b):=by rfl)(hb:b≠0:=by decide)(hr:InR k (Int.tdiv a b)):Pu E al (.binOp .quo u x y r) (.int k (Int.tdiv a b)):=
 Pu.bi (by
  show(bif Hy k k then R5 k a b else none)=_;rw[M9];simp only[cond_true];unfold R5;rw[ieq_eq,decide_eq_false hb];simp only[cond_false];exact Ib hr) hx hy
theorem Pu.ngw{x:Operand}{u:Nat}{k:IntKind}{a r:Int}(hr:k.wrap (0-a)=r)(hx:evl al x=some (.int k a):=by rfl):Pu E al (.unOp .neg u x) (.int k r):=⟨fun _ _ _=>rfl,fun tm s ha=>by
 show hUn .neg x E tm s=_;unfold hUn;rw[Gm ha hx];show(match (none:Option Value)with|some u=>some (u,s)|none=>bif plain (Value.int k a)then(match some (Value.int k (k.wrap (0-a)))with|some u=>bif plain u then some (u,s)else none|none=>none)else none)=_
 rw[hr];rfl⟩
end Go.Lx
namespace Go.Lx
open Go Go.Ax
variable {E:Env}{N:Nat}{ops l:List Oper}{al:Al}{L P:List Asn}{Q:Al→List Asn→List Asn→Prop}
noncomputable def arT(E:Env)(t:TypeId):Option (Nat×Nat):=
 match E.ty.get t with
 |some i=>match i.desc with
  |.array m e=>match E.ty.get e with
   |some j=>some (m,j.size)
   |none=>none
  |_=>none
 |none=>none
theorem Zkr{t:TypeId}{m k:Nat}(h:arT E t=some (m,k)):∃i e j,E.ty.get t=some i∧i.desc=.array m e∧E.ty.get e=some j∧j.size=k:=by
 unfold arT at h;cases hi:E.ty.get t with
 |none=>rw[hi]at h;cases h
 |some i=>
  rw[hi]at h;simp only at h;split at h
  ·rename_i m' e hd;cases hj:E.ty.get e with
   |none=>rw[hj]at h;cases h
   |some j=>
    rw[hj]at h;cases h;exact⟨i,e,j,rfl,hd,hj,rfl⟩
  ·cases h
theorem Pu.iaA{x y:Operand}{u b o m k:Nat}{K:IntKind}{n:Int}(hx:evl al x=some (.pointer (some ⟨b,o,none⟩)):=by rfl)(hy:evl al y=some (.int K n):=by rfl)(hu:arT E u=some (m,k):=by rfl)(hn:0≤n∧n<m:=by omega):Pu E al (.indexAddr u x y) (.pointer (some ⟨b,o+n.toNat* k,none⟩)):=
 ⟨fun _ _ _=>rfl,fun tm s ha=>by
  obtain⟨i,e,j,g1,g2,g3,g4⟩:=Zkr hu;show C0 u x y E tm s=_;unfold C0;rw[g1,Gm ha hx,Gm ha hy];simp only;rw[g2];simp only;rw[g3];simp only;rw[QT hn,natK_eq,g4];rfl⟩
theorem Zks{b:Nat}{vs:List Value}(h:In (Ro b vs) L P){S:Nat→Prop}{s:AS}(hs:Sat L P S s){o:Nat}{v:Value}(hv:vs[o]? =some v):rd s b o=some v:=by
 obtain⟨U,⟨_,t,m,h1,h2,h3⟩,_⟩:=h.holds hs;have hlt:=(Yc.1 hv).1;unfold rd;rw[h1];have:Zh o m=true:=by rw[Yj];omega
 simp only[this,cond_true];exact h3 o v hv
theorem Ld.ro{x:Operand}{u b o:Nat}{v:Value}{i:TI}(hx:evl al x=some (.pointer (some ⟨b,o,none⟩)):=by rfl)(hu:E.ty.get u=some i:=by rfl)(hd:Hw i.desc=false:=by rfl):Ld E al (.load u x) v (fun L P=>∃vs,In (Ro b vs) L P∧vs[o]? =some v):=
 ⟨fun _ _ _=>rfl,fun tm ha L P S s s' hs he ⟨vs,hm,hv⟩=>by
  have hr:=yh he (Zks hm hs hv);show Bd u x E tm s'=_;unfold Bd;rw[hu,Gm ha hx];simp only;rw[hd];simp only[cond_false];rw[hr]⟩
theorem Pu.mulN{x y:Operand}{u r:Nat}{k:IntKind}{a b:Nat}(hx:evl al x=some (.int k (a:Int)):=by rfl)(hy:evl al y=some (.int k (b:Int)):=by rfl)(hr:InR k ((a*b:Nat):Int):=by simp only[Go.Lx.InR];omega):Pu E al (.binOp .mul u x y r) (.int k ((a*b:Nat):Int)):=
 Pu.bi (by
  show(bif Hy k k then iAr Uy k a b else none)=_;rw[M9];simp only[cond_true];have e:Uy (a:Int) (b:Int)=((a*b:Nat):Int):=rfl;unfold iAr;rw[e];exact Ib hr) hx hy
theorem Pu.addN{x y:Operand}{u r:Nat}{k:IntKind}{a b:Nat}(hx:evl al x=some (.int k (a:Int)):=by rfl)(hy:evl al y=some (.int k (b:Int)):=by rfl)(hr:InR k ((a+b:Nat):Int):=by simp only[Go.Lx.InR];omega):Pu E al (.binOp .add u x y r) (.int k ((a+b:Nat):Int)):=
 Pu.bi (by
  show(bif Hy k k then iAr Int.add k a b else none)=_;rw[M9];simp only[cond_true];have e:Int.add (a:Int) (b:Int)=((a+b:Nat):Int):=rfl;unfold iAr;rw[e];exact Ib hr) hx hy
theorem Pu.subN{x y:Operand}{u r:Nat}{k:IntKind}{a b:Nat}(hx:evl al x=some (.int k (a:Int)):=by rfl)(hy:evl al y=some (.int k (b:Int)):=by rfl)(hb:b≤a:=by omega)(hr:InR k ((a-b:Nat):Int):=by simp only[Go.Lx.InR];omega):Pu E al (.binOp .sub u x y r) (.int k ((a-b:Nat):Int)):=
 Pu.bi (by
  show(bif Hy k k then iAr Int.sub k a b else none)=_;rw[M9];simp only[cond_true];have e:Int.sub (a:Int) (b:Int)=((a-b:Nat):Int):=by
   show(a:Int)-(b:Int)=_;omega
  unfold iAr;rw[e];exact Ib hr) hx hy
end Go.Lx
namespace Go.Lx
open Go Go.Ax
variable {E:Env}{N:Nat}{ops l:List Oper}{al:Al}{L P:List Asn}{Q:Al→List Asn→List Asn→Prop}
theorem WR.ent{L' P':List Asn}(h:Ent L P L' P')(hk:WR E N ops l al L' P' Q):WR E N ops l al L P Q:=by
 intro S s tm hs ha;obtain⟨S',h1,h2⟩:=h S s hs;obtain⟨tm1,s1,S1,al1,L1,P1,e,ht,hr⟩:=hk S' s tm h2 ha;exact⟨tm1,s1,S1,al1,L1,P1,e,(Ru h1).trans ht,hr⟩
theorem Ent.pt{b z:Nat}{cs:List Value}:Ent (Pt b cs z::L) P L (Pt b cs z::P):=Ent.last (fun _ _ h=>h)
end Go.Lx
namespace Go.Lx
open Go Go.Ax
theorem N9(P:Program){α β:Type}(m:Sem α)(f:α→Sem β):Hk P (m>>=f)=(Hk P m).bind fun a=>Hk P (f a):=by
 show Hk P (Sem.bind m f)=_
 induction m with
 |pure a=>rfl
 |program k ih=>exact ih P
 |mark m k ih=>exact ih
 |_=>rfl
theorem KM{P:Program}{t:TypeId}{d:TypeDesc}(h:P.underlying t=some d):Hk P (underlying t)=some d:=by
 show Hk P (match P.underlying t with
  |some d=>pure d
  | none => stuck "no such type") = _
 rw[h];rfl
theorem Zkt{P:Program}{t n:Nat}{k:IntKind}(h:P.underlying t=some (.int k))(K:IntKind)(a b:Int):Hk P (Op.equalIn (n+1) t (.int K a) (.int K b))=some (a==b):=by
 unfold Op.equalIn;rw[N9,KM h];show Hk P (if K=K then pure (a==b)else _)=_;rw[if_pos rfl];rfl
theorem EJ{P:Program}{t off:Nat}{d:TypeDesc}{cs:Array Value}{v:Value}(h:P.underlying t=some d)(hd:Hw d=false)(hv:cs[off]? =some v):Hk P (part t cs off)=some v:=by
 unfold part isAgg;rw[N9,N9,KM h];cases d<;>first|(cases hd;done)|skip
 all_goals (simp only[Uj,hv];rfl)
noncomputable def KN(E:Env)(u:TypeId):Bool:=match E.ty.get u with
 |some i=>match i.desc with
  |.struct _=>true
  |_=>false
 |none=>false
theorem Zku{E:Env}{u:TypeId}{s:AS}{x y:Array Value}(h:KN E u=true):eqA E s u (.agg x) (.agg y)=none:=by
 unfold KN at h;unfold eqA;cases hi:E.ty.get u with
 |none=>rfl
 |some i=>
  rw[hi]at h;simp only at h ⊢;cases hd:i.desc with
  |struct F=>rfl
  |_=>rw[hd]at h;cases h
structure EqF(P:Program)(n:Nat)(xs ys:Array Value)(f:Field)(b:Bool):Prop where
 nm : f.name ≠ "_"
 eq:Hk P (do Op.equalIn n f.type (←part f.type xs f.offset) (←part f.type ys f.offset))=some b
inductive Ig(P:Program)(n:Nat)(xs ys:Array Value):List Field→List Bool→Prop
 |nil:Ig P n xs ys [] []
 |cons {f:Field} {b:Bool} {fs:List Field} {bs:List Bool} (h:EqF P n xs ys f b) (hr:Ig P n xs ys fs bs):Ig P n xs ys (f::fs) (b::bs)
theorem Zkv{P:Program}{n:Nat}{xs ys:Array Value}{G:Field→(Option Bool×Unit)→Sem (ForInStep (Option Bool×Unit))}(hG:∀f b,EqF P n xs ys f b→Hk P (G f (none,()))=some (if b=true then .yield (none,())else .done (some false,()))):∀ {F:List Field} {bs:List Bool},Ig P n xs ys F bs→Hk P (forIn F (none,()) G)=some (if bs.all id=true then(none,())else(some false,())):=fun h=>by
 induction h with
 |nil=>rfl
 | @cons f b fs bs h hr ih=>
  rw[List.forIn_cons,N9,hG f b h];cases b with
  |false=>rfl
  |true=>
   show Hk P (forIn fs (none,()) G)=_;rw[ih];rfl
theorem Zkw{P:Program}{t n:Nat}{F:Array Field}{xs ys:Array Value}{bs:List Bool}(hu:P.underlying t=some (.struct F))(hs:P.stoodInHeld t=false)(hf:Ig P n xs ys F.toList bs):Hk P (Op.equalIn (n+1) t (.agg xs) (.agg ys))=some (bs.all id):=by
 obtain⟨F⟩:=F;unfold Op.equalIn;rw[N9,KM hu];simp only[Uj];rw[N9];show Hk P (if P.stoodInHeld t=true then _ else _)=_;rw[if_neg (by rw[hs];decide),N9,List.forIn_toArray,Zkv (fun f b h=>?_) hf]
 ·cases bs.all id<;>rfl
 ·rw[if_pos h.nm];have he:=h.eq;rw[N9]at he ⊢;cases h1:Hk P (part f.type xs f.offset)with
  |none=>rw[h1]at he;cases he
  |some v=>
   rw[h1]at he;simp only[Uj]at he ⊢;rw[N9]at he ⊢;cases h2:Hk P (part f.type ys f.offset)with
   |none=>rw[h2]at he;cases he
   |some w=>
    rw[h2]at he;simp only[Uj]at he ⊢;rw[N9,he];cases b<;>rfl
theorem Zkx{P:Program}{t:TypeId}{op:BinOp}{ox oy:Operand}{xs ys:Array Value}(hg:P.eqGuardType P.depth t=false):Hk P (eqGuard op t ox oy (.agg xs) (.agg ys))=some ():=by
 unfold eqGuard;cases op<;>first|rfl|skip
 all_goals (show Hk P (if(!P.eqGuardType P.depth t)=true then pure ()else _)=some ();rw[hg];rfl)
theorem Pu.bin_struct_neq{E:Env}{al:Al}{x y:Operand}{u r:Nat}{xs ys:List Value}{F:Array Field}{bs:List Bool}{q:Bool}(hf:Ig E.P 9999 ⟨xs⟩ ⟨ys⟩ F.toList bs)(hq:q= !(bs.all id))(hu:E.P.underlying u=some (.struct F))(hs:E.P.stoodInHeld u=false)(hg:E.P.eqGuardType E.P.depth u=false)(hd:KN E u=true)(hp:xs.all plain.plain1=true)(hp':ys.all plain.plain1=true)
  (hx:evl al x=some (.agg ⟨xs⟩):=by rfl) (hy:evl al y=some (.agg ⟨ys⟩):=by rfl):Pu E al (.binOp .neq u x y r) (.bool q):=
 ⟨fun _ _ _=>rfl,fun tm s ha=>by
  show M5 .neq u x y E tm s=_;unfold M5;rw[Gm ha hx,Gm ha hy];simp only;have:Fj E s .neq u x y (.agg ⟨xs⟩) (.agg ⟨ys⟩)=some (.bool q):=by
   show Bo E s .neq u x y (.agg ⟨xs⟩) (.agg ⟨ys⟩) true=_;unfold Bo;rw[Zku hd];show Ik E .neq u x y _ _=_;unfold Ik;have h1:plain (.agg ⟨xs⟩)=true:=hp;have h2:plain (.agg ⟨ys⟩)=true:=hp';rw[h1,h2,N9,Zkx hg];show(match Hk E.P (binOp .neq u (.agg ⟨xs⟩) (.agg ⟨ys⟩))with
    |some v=>bif plain v then some v else none
    |none=>none)=_
   have h3:Hk E.P (binOp .neq u (.agg ⟨xs⟩) (.agg ⟨ys⟩))=some (.bool q):=by
    show Hk E.P (do pure (Value.bool (!(←Op.equal u (.agg ⟨xs⟩) (.agg ⟨ys⟩)))))=_;rw[N9];show Option.bind (Hk E.P (Op.equalIn (9999+1) u (.agg ⟨xs⟩) (.agg ⟨ys⟩))) _=_;rw[Zkw hu hs hf,hq];rfl
   rw[h3];rfl
  rw[this]⟩
inductive Rv(P:Program)(n:Nat)(xs ys:Array Value):List (Bool×TypeId×Nat)→List Bool→Prop
 |nil:Rv P n xs ys [] []
 |cons {t o:Nat} {b:Bool} {fs:List (Bool×TypeId×Nat)} {bs:List Bool} (h:Hk P (do Op.equalIn n t (←part t xs o) (←part t ys o))=some b) (hr:Rv P n xs ys fs bs):Rv P n xs ys ((false,t,o)::fs) (b::bs)
theorem Rv.fs {P : Program} {n : Nat} {xs ys : Array Value} : ∀ {F : List Field} {l : List (Bool × TypeId × Nat)} {bs : List Bool}, F.map (fun f => (f.name == "_", f.type, f.offset)) = l → Rv P n xs ys l bs → Ig P n xs ys F bs
 |[],_,_,h,e=>by
  subst h;cases e;exact .nil
 |f::F,l,bs,h,e=>by
  subst h;rw[Zr]at e
  generalize hn : (f.name == "_") = nm at e
  cases e with
  |cons h hr=>exact .cons ⟨by simpa using hn,h⟩ (Rv.fs rfl hr)
theorem dk{P:Program}{t o n:Nat}{k K:IntKind}{xs ys:Array Value}{a b:Int}(h:P.underlying t=some (.int k))(hx:xs[o]? =some (.int K a))(hy:ys[o]? =some (.int K b)):Hk P (do Op.equalIn (n+1) t (←part t xs o) (←part t ys o))=some (a==b):=by
 rw[N9,EJ h rfl hx];simp only[Uj];rw[N9,EJ h rfl hy];exact Zkt h K a b
end Go.Lx
namespace Go.Lx
open Go Go.Ax
variable {E:Env}{N:Nat}{ops l:List Oper}{al:Al}{L P:List Asn}{Q:Al→List Asn→List Asn→Prop}{pos:String}{af:Array Edge}
theorem Own.app :∀ {L1 L2:List Asn} {S:Nat→Prop} {h:T Gg},Own (L1++L2) S h→∃S1 S2,(∀b,S1 b→S b)∧(∀b,S2 b→S b)∧(∀b,S1 b→S2 b→False)∧Own L1 S1 h∧Own L2 S2 h
 |[],L2,S,h,H=>⟨fun _=>False,S,fun _ h=>h.elim,fun _ h=>h,fun _ h _=>h.elim,trivial,H⟩
 |A::L1,L2,S,h,⟨S1,S2,h1,h2,hd,ha,hl⟩=>by
  obtain⟨T1,T2,k1,k2,kd,g1,g2⟩:=Own.app hl;exact⟨fun b=>S1 b∨T1 b,T2,fun b hb=>hb.elim (h1 b) (fun hb=>h2 b (k1 b hb)),fun b hb=>h2 b (k2 b hb),fun b x y=>x.elim (fun x=>hd b x (k2 b y)) (fun x=>kd b x y),
   ⟨S1,T1,fun b hb=>.inl hb,fun b hb=>.inr hb,fun b x y=>hd b x (k1 b y),ha,g1⟩,g2⟩
theorem Own.join :∀ {L1 L2:List Asn} {S S1 S2:Nat→Prop} {h:T Gg},(∀b,S1 b→S b)→(∀b,S2 b→S b)→(∀b,S1 b→S2 b→False)→Own L1 S1 h→Own L2 S2 h→Own (L1++L2) S h
 |[],L2,S,S1,S2,h,h1,h2,hd,_,H=>H.sub h2
 |A::L1,L2,S,S1,S2,h,h1,h2,hd,⟨T1,T2,k1,k2,kd,ha,hl⟩,H=>
  ⟨T1,fun b=>T2 b∨S2 b,fun b hb=>h1 b (k1 b hb),fun b hb=>hb.elim (fun hb=>h1 b (k2 b hb)) (h2 b),fun b x y=>y.elim (kd b x) (fun y=>hd b (k1 b x) y),ha,
   Own.join (S1:=T2) (S2:=S2) (fun b hb=>.inl hb) (fun b hb=>.inr hb) (fun b x y=>hd b (k2 b x) y) hl H⟩
def Bx{α:Type}(c:α→Prop)(A:α→List Asn):Asn where
 p:=fun S h=>∃x,c x∧Own (A x) S h
 loc:=fun S h h' e ⟨x,h1,h2⟩=>⟨x,h1,h2.loc e⟩
theorem Ent.close{α:Type}{c:α→Prop}{A:α→List Asn}(x:α)(hx:c x):Ent (A x++L) P (Bx c A::L) P:=fun S s hs=>by
 obtain⟨S1,S2,h1,h2,hd,g1,g2⟩:=hs.own.app;exact⟨S,fun _ h=>h,⟨⟨S1,S2,h1,h2,hd,⟨x,hx,g1⟩,g2⟩,hs.per,hs.ex,hs.fresh⟩⟩
theorem Zky{α:Type}{c:α→Prop}{A:α→List Asn}{S:Nat→Prop}{s:AS}(hs:Sat (Bx c A::L) P S s):∃x,c x∧Sat (A x++L) P S s:=by
 obtain⟨S1,S2,h1,h2,hd,⟨x,hx,ha⟩,hl⟩:=hs.own;exact⟨x,hx,⟨Own.join h1 h2 hd ha hl,hs.per,hs.ex,hs.fresh⟩⟩
theorem Sp.open{α:Type}{c:α→Prop}{A:α→List Asn}{f:FuncId}{args:List Value}{Q:Value→List Asn→List Asn→Prop}(h:∀x,c x→Sp E f args (A x++L) P Q):Sp E f args (Bx c A::L) P Q:=fun S s hs=>by
 obtain⟨x,hx,h1⟩:=Zky hs;exact h x hx S s h1
theorem Sp.ent{f:FuncId}{args:List Value}{L' P':List Asn}{Q:Value→List Asn→List Asn→Prop}(h:Ent L P L' P')(hk:Sp E f args L' P' Q):Sp E f args L P Q:=fun S s hs=>by
 obtain⟨S1,h1,h2⟩:=h S s hs;obtain⟨v,s',S2,L2,P2,e,ht,hr⟩:=hk S1 s h2;exact⟨v,s',S2,L2,P2,e,(Ru h1).trans ht,hr⟩
theorem Sp.post{f:FuncId}{args:List Value}{Q Q':Value→List Asn→List Asn→Prop}(hk:Sp E f args L P Q)(h:∀v L' P',Q v L' P'→∃L2 P2,Ent L' P' L2 P2∧Q' v L2 P2):Sp E f args L P Q':=fun S s hs=>by
 obtain⟨v,s',S2,L2,P2,e,ht,h1,hq⟩:=hk S s hs;obtain⟨L3,P3,he,hq⟩:=h _ _ _ hq;obtain⟨S3,h3,h4⟩:=he S2 s' h1;exact⟨v,s',S3,L3,P3,e,ht.trans (Ru h3),h4,hq⟩
theorem Nx(L1 L2:List Asn)(A:Asn):(L1++A::L2).Perm (A::(L1++L2)):=List.perm_middle
theorem Sp.at{β:Type}{f:FuncId}{args:List Value}{A:Asn}{B:β→Asn}{R:Value→β→List Asn→Prop}(L1 L2:List Asn)(h:∀L,Sp E f args (A::L) P (fun r L' P'=>∃y,R r y P'∧L'=B y::L)):
  Sp E f args (L1++A::L2) P (fun r L' P'=>∃y,R r y P'∧L'=L1++B y::L2):=
 Sp.ent (.perm (Nx L1 L2 A)) ((h (L1++L2)).post (fun v L' P' ⟨y,h1,h2⟩=>⟨L1++B y::L2,P',by rw[h2];exact .perm (Nx L1 L2 (B y)).symm,y,h1,rfl⟩))
theorem EK(L1 L2 L3:List Asn)(A B:Asn):(L1++A::(L2++B::L3)).Perm (A::B::(L1++(L2++L3))):=
 (Nx L1 _ A).trans (.cons A ((Yn.append_left L1 (Nx L2 L3 B)).trans (Nx L1 _ B)))
theorem Sp.at2{β:Type}{f:FuncId}{args:List Value}{A A':Asn}{B B':β→Asn}{R:Value→β→List Asn→Prop}(L1 L2 L3:List Asn)(h:∀L,Sp E f args (A::A'::L) P (fun r L' P'=>∃y,R r y P'∧L'=B y::B' y::L)):
  Sp E f args (L1++A::(L2++A'::L3)) P (fun r L' P'=>∃y,R r y P'∧L'=L1++B y::(L2++B' y::L3)):=
 Sp.ent (.perm (EK L1 L2 L3 A A')) ((h (L1++(L2++L3))).post (fun v L' P' ⟨y,h1,h2⟩=>⟨L1++B y::(L2++B' y::L3),P',by rw[h2];exact .perm (EK L1 L2 L3 (B y) (B' y)).symm,y,h1,rfl⟩))
noncomputable def lz(E:Env)(t:TypeId):Option (TypeId×TI×TI):=
 match E.ty.get t with
 |some i=>match i.desc with
  |.map k e=>match E.ty.get k,E.ty.get e with
   |some ki,some ei=>some (k,ki,ei)
   |_,_=>none
  |_=>none
 |none=>none
theorem EG{t k:TypeId}{ki ei:TI}(h:lz E t=some (k,ki,ei)):∃i e,E.ty.get t=some i∧i.desc=.map k e∧E.ty.get k=some ki∧E.ty.get e=some ei:=by
 unfold lz at h;cases hi:E.ty.get t with
 |none=>rw[hi]at h;cases h
 |some i=>
  rw[hi]at h;simp only at h;cases hd:i.desc with
  |map u e=>
   rw[hd]at h;simp only at h;cases h1:E.ty.get u with
   |none=>rw[h1]at h;simp at h
   |some k1=>
    cases h2:E.ty.get e with
    |none=>rw[h1,h2]at h;simp at h
    |some e1=>
     rw[h1,h2]at h;simp only[Option.some.injEq,Prod.mk.injEq]at h;obtain⟨rfl,rfl,rfl⟩:=h;exact⟨i,e,rfl,hd,h1,h2⟩
  |_=>rw[hd]at h;cases h
def zv(ei:TI):Value:=bif Hw ei.desc then .agg ⟨ei.zero⟩else ei.zero.headD (.tuple #[])
theorem Zkz{t k b:Nat}{ki ei:TI}{es:List (Value×Value)}{x y:Operand}{w:Bool}{kv:Value}{o:Option Value}{tm:Tm}{s:AS}(ha:Has al tm)(hx:evl al x=some (.map (some b)))(hy:evl al y=some kv)(hu:lz E t=some (k,ki,ei))(hk:Mo ki kv=true)(hg:s.h.get b=some (.map es))(ho:N0 E k kv es=some o):
  Tb t x y w E tm s=some (bif w then .tuple #[o.getD (zv ei),.bool o.isSome]else o.getD (zv ei),s):=by
 obtain⟨i,e,g1,g2,g3,g4⟩:=EG hu;unfold Tb;rw[g1,Gm ha hx,Gm ha hy];simp only;rw[g2];simp only;rw[g3,g4];simp only;rw[hk];simp only[cond_true];rw[hg];simp only;rw[ho];rfl
theorem Ld.lu2{t k b:Nat}{ki ei:TI}{es:List (Value×Value)}{x y:Operand}{kv v:Value}{o:Option Value}(ho:N0 E k kv es=some o)(hx:evl al x=some (.map (some b)):=by rfl)(hy:evl al y=some kv:=by rfl)(hu:lz E t=some (k,ki,ei):=by rfl)(hk:Mo ki kv=true:=by rfl)(hv:.tuple #[o.getD (zv ei),.bool o.isSome]=v:=by rfl):
  Ld E al (.lookup t x y true) v (fun L P=>In (Mp b es) L P):=
 ⟨fun _ _ _=>rfl,fun tm ha L P S s s' hs he hm=>by
  obtain⟨U,⟨_,hg⟩,_⟩:=hm.holds hs;rw[←hv];exact Zkz ha hx hy hu hk (he b _ hg) ho⟩
theorem WR.mu{u k b t:Nat}{ki ei:TI}{es es':List (Value×Value)}{x y z:Operand}{kv v:Value}{L':List Asn}(ho:Fo E k kv v es=some es')(h:WR E N ops l al L' P Q)(hx:evl al x=some (.map (some b)):=by rfl)(hy:evl al y=some kv:=by rfl)(hz:evl al z=some v:=by rfl)(hu:lz E u=some (k,ki,ei):=by rfl)(hk:Mo ki kv=true:=by rfl)
  (hU:Upd (Mp b es) (Mp b es') L L':=by first|exact .z|exact .s .z|exact .s (.s .z)|exact .s (.s (.s .z))|exact .s (.s (.s (.s .z)))|exact .s (.s (.s (.s (.s .z))))|exact .s (.s (.s (.s (.s (.s .z)))))|exact .s (.s (.s (.s (.s (.s (.s .z))))))|exact .s (.s (.s (.s (.s (.s (.s (.s .z)))))))):WR E N ops (⟨none,.mapUpdate u x y z,t,pos,af,none⟩::l) al L P Q:=
 WR.op0 rfl rfl (fun S s tm hs ha=>by
  obtain⟨U,⟨_,hg⟩,_⟩:=(In.l hU.mem:In _ L P).holds hs;obtain⟨h3,h4⟩:=hs.upd hU (b:=b) (fun U h hp=>hp.1) (o:=.map es') (fun h hg=>⟨rfl,hg⟩);obtain⟨i,e,g1,g2,g3,g4⟩:=EG hu;refine⟨.tuple #[],_,S,L',P,⟨0,0,?_⟩,h4,h3,h⟩;show Tc u x y z E tm s=_;unfold Tc;rw[g1,Gm ha hx,Gm ha hy,Gm ha hz];simp only;rw[g2];simp only;rw[g3];simp only;rw[hk];simp only[cond_true];rw[hg];simp only;rw[ho])
def D9(w:List (Int×Bs)):List (Value×Value):=w.map fun x=>(.int .i64 x.1,S x.2)
def Nm :List (Int×Bs)→Int→Option Bs
 |[],_=>none
 |(a,s)::l,k=>if k=a then some s else Nm l k
def De :List (Int×Bs)→Int→Bs→List (Int×Bs)
 |[],k,s=>[(k,s)]
 |(a,u)::l,k,s=>if k=a then(k,s)::l else(a,u)::De l k s
theorem EH{kt:TypeId}(a b:Int):Fl E kt (.int .i64 a) (.int .i64 b)=some (decide (a=b)):=by
 show(bif Hy .i64 .i64 then some (ieq a b)else none)=_;have:Hy .i64 .i64=true:=rfl;rw[this,cond_true];rw[Go.Lx.ieq_eq]
theorem yt{kt:TypeId}(k:Int):∀w:List (Int×Bs),N0 E kt (.int .i64 k) (D9 w)=some ((Nm w k).map S)
 |[]=>rfl
 |(a,s)::w=>by
  show(match Fl E kt (.int .i64 k) (.int .i64 a)with
   |none=>none
   |some true=>some (some (S s))
   |some false=>N0 E kt (.int .i64 k) (D9 w))=_
  rw[EH];unfold Nm;by_cases h:k=a
  ·rw[decide_eq_true h,if_pos h];rfl
  ·rw[decide_eq_false h,if_neg h];exact yt k w
theorem EM{kt:TypeId}(k:Int)(s:Bs):∀w:List (Int×Bs),Fo E kt (.int .i64 k) (S s) (D9 w)=some (D9 (De w k s))
 |[]=>rfl
 |(a,u)::w=>by
  show(match Fl E kt (.int .i64 k) (.int .i64 a)with
   |none=>none
   |some true=>some ((Value.int .i64 k,S s)::D9 w)
   |some false=>match Fo E kt (.int .i64 k) (S s) (D9 w)with
    |none=>none
    |some r=>some ((Value.int .i64 a,S u)::r))=_
  rw[EH];unfold De;by_cases h:k=a
  ·rw[decide_eq_true h,if_pos h];rfl
  ·rw[decide_eq_false h,if_neg h,EM k s w];rfl
end Go.Lx
namespace Go.Lx
open Go Go.Ax Go.RowKit
def Fa(W:World)(v:Value)(es:List Value):Prop:=
 (v=.slice none 0 0∧es=[])∨∃b p c,v=.slice (some ⟨b,p,none⟩) es.length c∧es.length≤c∧b<W.heap.size∧∀(i:Nat) (y:Value),es[i]? =some y→W.cell? ⟨b,p+i,none⟩=some y
def blk :Value→List Nat
 |.slice (some a) _ _=>[a.block]
 |_=>[]
def nub :List Nat→List Nat
 |[]=>[]
 |a::l=>if a∈nub l then nub l else a::nub l
theorem mc{q:Nat}:∀ {l:List Nat},q∈nub l↔q∈l
 |[]=>Iff.rfl
 |a::l=>by
  unfold nub;split
  ·rename_i h;rw[mc,Zg];constructor
   ·exact .inr
   ·rintro(rfl|h')
    ·exact mc.1 h
    ·exact h'
  ·rw[Zg,Zg,mc]
theorem KB :∀l:List Nat,(nub l).Nodup
 |[]=>U8
 |a::l=>by
  unfold nub;split
  ·exact KB l
  ·rename_i h;exact Yz.2 ⟨h,KB l⟩
def Fb(vs:List (Value×List Value)):List Nat:=nub (vs.flatMap fun x=>if x.2=[]then []else blk x.1)
def Zk0(vs:List (Value×List Value)):List Nat:=vs.flatMap fun x=>blk x.1
def EN(y:Value):Prop:=∀qs,inV qs y=some y
theorem Zk1(k:IntKind)(n:Int):EN (.int k n):=fun _=>rfl
theorem Zk2{vs:List (Value×List Value)}{x:Value×List Value}{q:Nat}(hx:x∈vs)(hne:x.2≠[])(hq:q∈blk x.1):q∈Fb vs:=
 mc.2 (Yb.2 ⟨x,hx,by rw[if_neg hne];exact hq⟩)
theorem KC{vs:List (Value×List Value)}{q:Nat}(h:q∈Fb vs):∃x∈vs,x.2≠[]∧q∈blk x.1:=by
 obtain⟨x,hx,h⟩:=Yb.1 (mc.1 h);by_cases hne:x.2=[]
 ·rw[if_pos hne]at h;cases h
 ·rw[if_neg hne]at h;exact⟨x,hx,hne,h⟩
theorem Zk3{W:World}{a:Addr}{v:Value}(h:W.cell? a=some v):∃cs e fr,W.heap[a.block]? =some (.cells cs e fr):=by
 unfold World.cell? at h
 match hw:W.heap[a.block]?,h with
 |some (.cells cs e fr),_=>exact⟨cs,e,fr,rfl⟩
structure md(W:World)(gs D X:List Nat)(vs:List (Value×List Value)):Prop where
 low:∀g∈gs,g<1000
 cells:∀q,q∈gs∨q∈D→∃cs e fr,W.heap[q]? =some (.cells cs e fr)
 sl:∀x∈vs,Fa W x.1 x.2
 plain:∀x∈vs,∀y∈x.2,EN y
 nd:D.Nodup
 ap:∀q∈D,q∉Fb vs
 dis:∀q∈D++Fb vs,q∉gs
 lt:∀q∈X,q<W.heap.size
abbrev Ih(D X:List Nat)(vs:List (Value×List Value)):List Nat:=(D++Fb vs)++(Zk0 vs++X)
theorem Fa.lt{W:World}{v:Value}{es:List Value}(h:Fa W v es){q:Nat}(hq:q∈blk v):q<W.heap.size:=by
 rcases h with⟨rfl,_⟩|⟨b,p,c,rfl,_,h,_⟩
 ·cases hq
 ·rcases Zg.1 hq with rfl|hq
  ·exact h
  ·cases hq
theorem md.inOk{W:World}{gs D X:List Nat}{vs:List (Value×List Value)}(ok:md W gs D X vs):Nl W gs (Ih D X vs) (D++Fb vs):=by
 have hc:∀q,q∈gs∨q∈D++Fb vs→∃cs e fr,W.heap[q]? =some (.cells cs e fr):=fun q hq=>by
  rcases hq with hq|hq
  ·exact ok.cells q (.inl hq)
  rcases Zk.1 hq with hq|hq
  ·exact ok.cells q (.inr hq)
  obtain⟨x,hx,hne,hb⟩:=KC hq;rcases ok.sl x hx with⟨_,h⟩|⟨b,p,c,h1,h2,h3,h4⟩
  ·exact absurd h hne
  ·rw[h1]at hb;rcases Zg.1 hb with rfl|hb
   ·cases he:x.2 with
    |nil=>exact absurd he hne
    |cons y l=>exact Zk3 (h4 0 y (by rw[he];rfl))
   ·cases hb
 refine⟨ok.low,List.prefix_append _ _,List.nodup_append.2 ⟨ok.nd,KB _,fun a ha b hb e=>ok.ap a ha (e▸hb)⟩,ok.dis,hc,fun q hq=>?_⟩;rcases Zk.1 hq with hq|hq
 ·obtain⟨cs,e,fr,h⟩:=hc q (.inr hq);exact(X5.1 h).1
 ·rcases Zk.1 hq with hq|hq
  ·obtain⟨x,hx,hq⟩:=Yb.1 hq;exact(ok.sl x hx).lt hq
  ·exact ok.lt q hq
theorem md.at{W:World}{gs D X:List Nat}{vs:List (Value×List Value)}(ok:md W gs D X vs){v:Value}{es:List Value}(hx:(v,es)∈vs):
  ∃z,inV (Ih D X vs) v=some z∧∃U,(SlR 1 z (es.map fun y=>[y])).p U (stN W gs (Ih D X vs) (D++Fb vs)).h∧∀b,U b→(stN W gs (Ih D X vs) (D++Fb vs)).h.get b≠none:=by
 have hin:∃z,inV (Ih D X vs) v=some z:=by
  rcases ok.sl _ hx with⟨h,_⟩|⟨b,p,c,h1,h2,h3,h4⟩
  ·have h:v=.slice none 0 0:=h;subst h;exact⟨_,rfl⟩
  ·have h1:v=.slice (some ⟨b,p,none⟩) es.length c:=h1;have h2:es.length≤c:=h2;have hm:b∈Ih D X vs:=Zk.2 (.inr (Zk.2 (.inl (Yb.2 ⟨_,hx,by rw[h1];exact Zm ..⟩))));obtain⟨j,hj⟩:=WF 0 hm;refine⟨.slice (some ⟨1000+j,p,none⟩) es.length (2*c+1),?_⟩;rw[h1];show(if es.length≤c then(ix b (Ih D X vs) 0).map fun j=>Value.slice (some ⟨1000+j,p,none⟩) es.length (2*c+1)else none)=_;rw[if_pos h2,hj];rfl
 obtain⟨z,hz⟩:=hin;refine⟨z,hz,Zkk ok.inOk hz ?_ ?_ ?_ ?_ Nat.one_pos ?_⟩
 ·intro a n c e;rcases ok.sl _ hx with⟨h,h0⟩|⟨b,p,c',h1,h2,h3,h4⟩
  ·rw[Zc];have h:v=.slice none 0 0:=h;have h0:es=[]:=h0;rw[h]at e;cases e;rw[h0];rfl
  ·have h1:v=.slice (some ⟨b,p,none⟩) es.length c':=h1;rw[h1]at e;cases e;rw[Zc]
 ·rcases ok.sl _ hx with⟨h,h0⟩|⟨b,p,c',h1,h2,h3,h4⟩
  ·exact⟨_,_,_,h⟩
  ·exact⟨_,_,_,h1⟩
 ·intro e he;obtain⟨y,_,rfl⟩:=Zl.1 he;rfl
 ·intro q p n c e i f hf j y hy;rcases ok.sl _ hx with⟨h,h0⟩|⟨b,p',c',h1,h2,h3,h4⟩
  ·have h:v=.slice none 0 0:=h;rw[h]at e;cases e
  ·have h1:v=.slice (some ⟨b,p',none⟩) es.length c':=h1;rw[h1]at e;cases e;rw[Zy]at hf;cases hg:es[i]? with
   |none=>rw[hg]at hf;cases hf
   |some u=>
    rw[hg]at hf;cases hf;cases j with
    |succ j=>cases hy
    |zero=>
     cases hy;rw[show i*1+0=i by omega,h4 i _ hg];exact ok.plain _ hx _ (Y8 hg) _
 ·intro hne q p n c e;refine Zk.2 (.inr (Zk2 hx (fun h0=>hne ?_) (by show q∈blk v;rw[e];exact Zm ..)));have h0:es=[]:=h0;rw[h0];rfl
end Go.Lx
namespace Go.Lx
open Go Go.Ax
variable {E:Env}{N:Nat}{ops l:List Oper}{al:Al}{L P:List Asn}{Q:Al→List Asn→List Asn→Prop}{pos:String}{af:Array Edge}
theorem Zk4{k o i j:Nat}{t:T Value}{es:List (List Value)}{e e' vs:List Value}(h:Mf k o t es)(he:es[i]? =some e)(hs:Mx e j vs e'):Mf k o (t.fill (o+i*k+j) vs) (es.set i e'):=by
 obtain⟨s1,s2,s3⟩:=hs.spec;intro i' f hf;have hi:=(Yc.1 he).1;obtain⟨hk,hg⟩:=h i e he;rw[Zsk]at hf;by_cases hii:i=i'
 ·subst hii;rw[if_pos rfl,if_pos hi]at hf;cases hf;refine⟨by omega,fun m hm=>?_⟩;rw[T.get_fill,s3 m];by_cases hc:j≤m∧m<j+vs.length
  ·rw[if_pos hc,if_pos (by omega)];congr 1;omega
  ·rw[if_neg hc,if_neg (by omega)];exact hg m hm
 ·rw[if_neg hii]at hf;obtain⟨g1,g2⟩:=h i' f hf;refine⟨g1,fun m hm=>?_⟩;rw[T.get_fill,if_neg]
  ·exact g2 m hm
  ·rintro⟨a1,a2⟩;rcases Nat.lt_or_gt_of_ne hii with h1|h1
   ·have:(i+1)*k≤i'*k:=Yo _ h1;rw[Yv]at this;omega
   ·have:(i'+1)*k≤i*k:=Yo _ h1;rw[Yv]at this;omega
theorem WO.se{x y:Operand}{u k i j:Nat}{v w:Value}{es:List (List Value)}{e e':List Value}{ti:TI}{L':List Asn}{Q:Value→List Asn→List Asn→Prop}(he:es[i]? =some e)(hset:Mx e j w.cells.toList e')
  (hx:evl al x=some (.pointer (some ⟨(bs v).1,(bs v).2+i*k+j,none⟩))) (hy:evl al y=some w) (hi:E.ty.get u=some ti) (hsz:w.cells.toList.length=ti.size) (ho:ones w.cells.toList=true) (hu:Upd (Ow k v es) (Ow k v (es.set i e')) L L') (h:Q (.tuple #[]) L' P):WO E (.store u x y) al L P Q:=by
 intro S s tm hs ha;obtain⟨U,hU,_⟩:=(In.l hu.mem:In _ L P).holds hs;have hlt:=(Yc.1 he).1;rcases hU with⟨h0,_⟩|⟨b,c,m,z,t,rfl,g1,g2,g3,g4,g5,g6⟩
 ·subst h0;simp at hlt
 obtain⟨hk,_⟩:=g6 i e he;obtain⟨s1,s2,_⟩:=hset.spec;have hle:(bs (.slice (some ⟨b,0,none⟩) es.length c)).2+i*k+j+w.cells.toList.length≤m:=by
  show 0+i*k+j+w.cells.toList.length≤m;have a1:(i+1)*k≤es.length*k:=Yo _ hlt;have a2:=Yo k g3;rw[Yv]at a1;omega
 have hel:(es.set i e').length=es.length:=List.length_set ..;obtain⟨h3,h4⟩:=hs.upd hu (b:=b) (fun U h hp=>by
   rcases hp with⟨h0,_⟩|⟨b',c',m',z',t',e1,g1',_⟩
   ·subst h0;simp at hlt
   ·cases e1;exact g1') (o:=.cells (t.fill (0+i*k+j) w.cells.toList) m z) (fun h hg=>.inr ⟨b,c,m,z,_,by rw[hel],rfl,hg,by rw[hel];exact g3,g4,g5,Zk4 g6 he hset⟩)
 refine⟨_,_,S,L',P,⟨0,0,?_⟩,h4,h3,h⟩;show Ft u x y E tm s=_;unfold Ft;rw[hi,Gm ha hx,Gm ha hy];simp only;have e1:Za w.cells.toList.length ti.size=true:=by rw[hsz];exact Yy _
 rw[e1];simp only[cond_true];unfold wrN;have hb:(bs (.slice (some ⟨b,0,none⟩) es.length c)).1=b:=rfl;rw[hb,g2];simp only;have e2:Zb ((bs (.slice (some ⟨b,0,none⟩) es.length c)).2+i*k+j+w.cells.toList.length) m=true:=Z0 hle;rw[e2,ho];rfl
theorem KF :∀ {e vs:List Value},e.length=vs.length→Mx e 0 vs vs
 |[],[],_=>.nil
 |_::_,_::_,h=>.here (KF (by simpa using h))
theorem WR.se{x y:Operand}{u k i t:Nat}{v w:Value}{es:List (List Value)}{e vs:List Value}{ti:TI}{L':List Asn}(he:es[i]? =some e)(h:WR E N ops l al L' P Q)
  (hx:evl al x=some (.pointer (some ⟨(bs v).1,(bs v).2+i*k,none⟩)):=by rfl) (hy:evl al y=some w:=by rfl) (hc:w.cells.toList=vs:=by rfl) (hi:E.ty.get u=some ti:=by rfl) (hl:e.length=vs.length:=by rfl) (hsz:vs.length=ti.size:=by rfl) (ho:ones vs=true:=by rfl)
  (hu:Upd (Ow k v es) (Ow k v (es.set i vs)) L L':=by first|exact .z|exact .s .z|exact .s (.s .z)|exact .s (.s (.s .z))|exact .s (.s (.s (.s .z)))|exact .s (.s (.s (.s (.s .z))))|exact .s (.s (.s (.s (.s (.s .z)))))|exact .s (.s (.s (.s (.s (.s (.s .z))))))|exact .s (.s (.s (.s (.s (.s (.s (.s .z)))))))):WR E N ops (⟨none,.store u x y,t,pos,af,none⟩::l) al L P Q:=by
 subst hc;exact WR.op0 rfl rfl (WO.se (j:=0) he (KF hl) hx hy hi hsz ho hu h)
def slc(v:Value)(p q k:Nat):Value:=match v with
 |.slice a n c=>.slice (a.map fun a=>⟨a.block,a.off+p*k,none⟩) (q-p) (2*(c/2-p)+c%2)
 |v=>v
theorem EB{k o p q:Nat}{t:T Value}{es:List (List Value)}(h:Mf k o t es):Mf k (o+p*k) t ((es.drop p).take (q-p)):=fun i e he=>by
 have he':es[p+i]? =some e:=by
  rw[List.getElem?_take]at he;split at he
  ·rw[List.getElem?_drop]at he;exact he
  ·cases he
 obtain⟨h1,h2⟩:=h (p+i) e he';refine⟨h1,fun j hj=>?_⟩;rw[←h2 j hj,Yv];congr 1;omega
theorem KR{α:Type}{es:List α}{p q:Nat}(hpq:p≤q)(hq:q≤es.length):((es.drop p).take (q-p)).length=q-p:=by
 rw[Zq,Z5];omega
theorem Zk5{k p q n:Nat}(hpq:p≤q)(hq:q≤n):p*k+(q-p)*k≤n*k:=by
 rw[←Yv];exact Yo _ (by omega)
theorem Sl.part{k p q:Nat}{v:Value}{es:List (List Value)}{S:Nat→Prop}{h:T Gg}(H:(Sl k v es).p S h)(hpq:p≤q)(hq:q≤es.length):(Sl k (slc v p q k) ((es.drop p).take (q-p))).p S h:=by
 obtain⟨a,c,rfl,hle,hor⟩:=H;refine⟨a.map fun a=>⟨a.block,a.off+p*k,none⟩,2*(c/2-p)+c%2,by rw[KR hpq hq];rfl,by rw[KR hpq hq];omega,?_⟩;rcases hor with h0|⟨b,o,m,z,t,rfl,g1,g2,g3,g4,g5⟩
 ·subst h0;exact .inl (by simp)
 ·refine .inr ⟨b,o+p*k,m,z,t,rfl,g1,g2,by omega,?_,EB g5⟩;rw[KR hpq hq];have:=Zk5 (k:=k) hpq hq;omega
theorem Ow.part{k q:Nat}{v:Value}{es:List (List Value)}{S:Nat→Prop}{h:T Gg}(H:(Ow k v es).p S h)(hq:q≤es.length):(Ow k (slc v 0 q k) (es.take q)).p S h:=by
 rcases H with⟨rfl,a,c,rfl,h1,h2⟩|⟨b,c,m,z,t,rfl,g1,g2,g3,g4,g5,g6⟩
 ·have:q=0:=by simpa using hq
  subst this;refine .inl ⟨rfl,a.map fun a=>⟨a.block,a.off+0*k,none⟩,2*(c/2-0)+c%2,rfl,by omega,h2.imp (fun h=>by rw[h];rfl) (fun h=>by omega)⟩
 ·refine .inr ⟨b,2*(c/2-0)+c%2,m,z,t,?_,g1,g2,?_,?_,by omega,?_⟩
  ·show Value.slice (some ⟨b,0+0*k,none⟩) (q-0) _=_;rw[Zq,Nat.min_eq_left hq,Xh,Yl]
  ·rw[Zq];omega
  ·rw[show(2*(c/2-0)+c%2)/2=c/2 by omega];exact g4
  ·have:=EB (p:=0) (q:=q) g6;rw[Xh,Yg,List.drop_zero,Yl]at this;exact this
theorem Ent.slp{k p q:Nat}{v:Value}{es:List (List Value)}(hm:Sl k v es∈P)(hpq:p≤q)(hq:q≤es.length):Ent L P L (Sl k (slc v p q k) ((es.drop p).take (q-p))::P):=fun S s hs=>
 ⟨S,fun _ h=>h,⟨hs.own,fun A hA=>by
  rcases Zg.1 hA with rfl|hA
  ·obtain⟨U,h1,h2⟩:=hs.per _ hm;exact⟨U,Sl.part h1 hpq hq,h2⟩
  ·exact hs.per A hA,hs.ex,hs.fresh⟩⟩
theorem Ent.owp{k q:Nat}{v:Value}{es:List (List Value)}(hq:q≤es.length):Ent (Ow k v es::L) P (Ow k (slc v 0 q k) (es.take q)::L) P:=fun S s hs=>by
 obtain⟨S1,S2,h1,h2,h3,h4,h5⟩:=hs.own;exact⟨S,fun _ h=>h,⟨⟨S1,S2,h1,h2,h3,Ow.part h4 hq,h5⟩,hs.per,hs.ex,hs.fresh⟩⟩
def EC(k:Nat)(v:Value)(n:Nat)(s:AS):Prop:=∃a c,v=.slice a n c∧n≤c/2∧(n=0∨c%2=1∨Cw s a k=true)
theorem ED{s:AS}{b o k m z:Nat}{t:T Value}(h:s.h.get b=some (.cells t m z))(hz:zs z=k):Cw s (some ⟨b,o,none⟩) k=true:=by
 unfold Cw;simp only;rw[h];simp only;rw[hz];exact Yy _
theorem Gn.cut{k:Nat}{v:Value}{es:List (List Value)}(h:Gn k v es L P){S:Nat→Prop}{s:AS}(hs:Sat L P S s):EC k v es.length s:=by
 have key:∀ {U:Nat→Prop},(Sl k v es).p U s.h→EC k v es.length s:=fun {U} H=>by
  obtain⟨a,c,h1,h2,h3⟩:=H;refine⟨a,c,h1,h2,?_⟩;rcases h3 with h3|⟨b,o,m,z,t,rfl,_,g2,g3,_⟩
  ·subst h3;exact .inl rfl
  ·exact .inr (g3.imp id (ED g2))
 cases h with
 |s h=>obtain⟨U,h1,_⟩:=h.holds hs;exact key h1
 |o h=>obtain⟨U,h1,_⟩:=h.holds hs;exact key (Ow.sl h1)
 |f hF h=>obtain⟨U,h1,_⟩:=h.holds hs;exact key (hF _ _ h1)
 |r h=>
  obtain⟨U,⟨a,c,h1,h2,h3⟩,_⟩:=h.holds hs;refine⟨a,c,h1,h2,?_⟩;rcases h3 with h3|⟨b,o,m,t,rfl,_,_,g3,_⟩
  ·subst h3;exact .inl rfl
  ·exact .inr (.inl g3)
theorem WO.sl{x:Operand}{lo hi:Option Operand}{u k p q:Nat}{v:Value}{es:List (List Value)}{e:TypeId}{j:TI}{Q:Value→List Asn→List Asn→Prop}(hm:Gn k v es L P)(hp:bdl al 0 q lo p)(hq:∀c,es.length≤c→bdl al es.length c hi q)(hqe:q≤es.length)(hpq:p≤q)(hx:evl al x=some v)(hu:slT E u=some (e,j))(hk:j.size=k)(h:Q (slc v p q k) L P):WO E (.slice u x lo hi none) al L P Q:=
 WO.see (fun call tm S s hs ha=>by
  obtain⟨a,c,rfl,h1,h2⟩:=hm.cut hs;obtain⟨i,g1,g2,g3⟩:=M3 hu;show No u x lo hi none E tm s=_;unfold No;rw[Gm ha hx];simp only;have hb:Mn tm es.length (c/2) lo hi none=some (p,q,c/2):=by
   unfold Mn;simp only[Ji,Xp,cond_false];rw[show bnd tm (c/2) (c/2) none=some (c/2)from rfl];simp only;rw[D8 (hq _ h1) ha];simp only;rw[Z0 (by omega:q≤c/2)];simp only[cond_true];rw[D8 hp ha]
  have:Bc E s tm u (.slice a es.length c) lo hi none=some (slc (.slice a es.length c) p q k):=by
   unfold Bc;rw[g1];simp only;rw[g2];simp only;rw[g3];simp only;rw[hb];simp only;have hor:(Zsl (Option.none:Option Operand)||Za (c%2) 1||Za p 0||Cw s a j.size)=true:=by
    rcases h2 with h2|h2|h2
    ·have:p=0:=by omega
     subst this;simp
    ·rw[h2];simp
    ·rw[hk,h2];simp
   rw[hor];simp only[cond_true];rw[hk];rfl
  rw[this]) h
theorem WR.sl{x:Operand}{lo hi:Option Operand}{u k p q d t:Nat}{v:Value}{es:List (List Value)}{e:TypeId}{j:TI}(hm:Gn k v es L P)(hp:bdl al 0 q lo p)(hq:∀c,es.length≤c→bdl al es.length c hi q)(h:WR E N ops l ((d,slc v p q k)::al) L P Q)(hqe:q≤es.length:=by omega)(hpq:p≤q:=by omega)(hx:evl al x=some v:=by rfl)(hu:slT E u=some (e,j):=by rfl)(hk:j.size=k:=by rfl)(hN:Zb d N=true:=by rfl):WR E N ops (⟨some d,.slice u x lo hi none,t,pos,af,none⟩::l) al L P Q:=
 WR.op rfl rfl hN (WO.sl hm hp hq hqe hpq hx hu hk h)
end Go.Lx
namespace Go.Lx
open Go Go.Ax
variable {E:Env}{N:Nat}{ops l:List Oper}{al:Al}{L P:List Asn}{Q:Al→List Asn→List Asn→Prop}{pos:String}{af:Array Edge}
theorem KT{call:Gu}:∀ {l1 l2:List Oper} {tm tm1:Tm} {s s1:AS} {r:Option (Tm×AS)},Mq E call N ops l1 tm s=some (tm1,s1)→Mq E call N ops l2 tm1 s1=r→Mq E call N ops (l1++l2) tm s=r
 |[],l2,tm,tm1,s,s1,r,h,h2=>by
  have h:some (tm,s)=some (tm1,s1):=h;cases h;exact h2
 |o::l1,l2,tm,tm1,s,s1,r,h,h2=>by
  show Mq E call N ops (o::(l1++l2)) tm s=r;rw[D6]at h ⊢;cases hw:Ha ops tm o with
  |none=>rw[hw]at h;cases h
  |some b=>
   rw[hw]at h;cases b with
   |false=>
    simp only at h ⊢;cases hp:Gq N tm o.dst undef with
    |none=>rw[hp]at h;cases h
    |some tm'=>rw[hp]at h;exact KT h h2
   |true=>
    simp only at h ⊢;cases hx:Hb o.op E call tm s with
    |none=>rw[hx]at h;cases h
    |some p=>
     obtain⟨v,s'⟩:=p;rw[hx]at h;simp only at h ⊢;cases hp:Gq N tm o.dst v with
     |none=>rw[hp]at h;cases h
     |some tm'=>rw[hp]at h;exact KT h h2
theorem WR.app{l1 l2:List Oper}(h:WR E N ops l1 al L P (fun al' L' P'=>WR E N ops l2 al' L' P' Q)):WR E N ops (l1++l2) al L P Q:=by
 intro S s tm hs ha;obtain⟨tm1,s1,S1,al1,L1,P1,⟨F,D,e⟩,ht,ha1,hs1,hq⟩:=h S s tm hs ha;obtain⟨tm2,s2,S2,al2,L2,P2,⟨G,H,e2⟩,ht2,hr⟩:=hq S1 s1 tm1 hs1 ha1;refine⟨tm2,s2,S2,al2,L2,P2,⟨max F G,max D H,?_⟩,ht.trans ht2,hr⟩;exact KT (Rs (Nh D (max D H) F (max F G) (by omega) (by omega)) _ e) (Rs (Nh H (max D H) G (max F G) (by omega) (by omega)) _ e2)
def Rw(ops:List Oper)(N:Nat):Al→List Oper→Option Al
 |al,[]=>some al
 |al,o::l=>match o.guard,o.dst with
  |some (j,w),some d=>match gd ops al j with
   |some (.bool b)=>bif b==w then none else bif Zb d N then Rw ops N ((d,undef)::al) l else none
   |some v=>bif Zb d N then Rw ops N ((d,undef)::al) l else none
   |none=>none
  |_,_=>none
def yv(v:Value)(w:Bool):Option Bool:=match v with
 |.bool b=>some (b==w)
 |_=>some false
theorem Zk6{o:Oper}{j:Nat}{w:Bool}{v:Value}(hg:o.guard=some (j,w))(h:gd ops al j=some v){tm:Tm}(ha:Has al tm):Ha ops tm o=yv v w:=by
 unfold gd at h;unfold Ha;rw[hg];simp only;cases ho:ops[j]? with
 |none=>rw[ho]at h;cases h
 |some o'=>
  rw[ho]at h;simp only at h ⊢;cases hd:o'.dst with
  |none=>rw[hd]at h;cases h
  |some d=>
   rw[hd]at h;simp only at h ⊢;rw[ha d v h];cases v<;>rfl
theorem WR.skip1{o:Oper}{d j:Nat}{w:Bool}{v:Value}(hg:o.guard=some (j,w))(hd:o.dst=some d)(h:gd ops al j=some v)(hv:yv v w=some false)(hN:Zb d N=true)(hk:WR E N ops l ((d,undef)::al) L P Q):WR E N ops (o::l) al L P Q:=by
 intro S s tm hs ha;obtain⟨tm2,s2,S2,al2,L2,P2,⟨G,H,e2⟩,hr⟩:=hk S s (tm.set d undef) hs (ha.set d undef);refine⟨tm2,s2,S2,al2,L2,P2,⟨G,H,?_⟩,hr⟩;rw[D6,Zk6 hg h ha,hv];simp only;have hp:Gq N tm o.dst undef=some (tm.set d undef):=by unfold Gq;rw[hd];simp only[hN,cond_true]
 rw[hp];exact e2
theorem WR.skips :∀ {l:List Oper} {al al':Al},Rw ops N al l=some al'→Q al' L P→WR E N ops l al L P Q
 |[],al,al',h,hq=>by
  have h:some al=some al':=h;cases h;exact .nil hq
 |o::l,al,al',h,hq=>by
  unfold Rw at h;cases hg:o.guard with
  |none=>rw[hg]at h;cases h
  |some p=>
   obtain⟨j,w⟩:=p;cases hd:o.dst with
   |none=>rw[hg,hd]at h;cases h
   |some d=>
    rw[hg,hd]at h;simp only at h;cases hv:gd ops al j with
    |none=>rw[hv]at h;cases h
    |some v=>
     rw[hv]at h;have key:yv v w=some false∧Zb d N=true∧Rw ops N ((d,undef)::al) l=some al':=by
      have two:∀(X:Option Al),(bif Zb d N then X else none)=some al'→Zb d N=true∧X=some al':=fun X hX=>by
       cases hN:Zb d N with
       |true=>rw[hN]at hX;exact⟨rfl,hX⟩
       |false=>rw[hN]at hX;cases hX
      cases v with
      |bool b=>
       simp only at h;cases hb:(b==w)with
       |true=>rw[hb]at h;cases h
       |false=>
        rw[hb]at h;exact⟨by unfold yv;simp only[hb],two _ h⟩
      |_=>exact⟨rfl,two _ h⟩
     exact WR.skip1 hg hd hv key.1 key.2.1 (WR.skips key.2.2 hq)
def dm(i:Nat):List Nat→Al→Al→Prop
 |[],_,_=>True
 |k::ks,l,al=>(Za k i=true∨lk al k=lk l k)∧dm i ks l al
def Ny(i:Nat)(l al:Al):Prop:=dm i (l.map (·.1)) l al
theorem EF :∀ {l:Al} {k:Nat} {u:Value},lk l k=some u→k∈l.map (·.1)
 |[],k,u,h=>by cases h
 |(j,v)::l,k,u,h=>by
  have h:(bif Za j k then some v else lk l k)=some u:=h;cases hb:Za j k with
  |true=>
   obtain rfl:=Zv hb;exact Zm ..
  |false=>
   rw[hb]at h;exact Zs _ (EF h)
theorem dm.at{i k:Nat}{l al:Al}:∀ {ks:List Nat},dm i ks l al→k∈ks→Za k i=true∨lk al k=lk l k
 |j::ks,⟨h1,h2⟩,h=>by
  rcases Zg.1 h with rfl|h
  ·exact h1
  ·exact dm.at h2 h
theorem Ny.lk{i:Nat}{l al:Al}{k:Nat}{u:Value}(h:Ny i l al)(hk:Za k i=false)(e:Go.Lx.lk l k=some u):Go.Lx.lk al k=some u:=by
 rcases dm.at h (EF e)with h1|h1
 ·rw[h1]at hk;cases hk
 ·rw[h1];exact e
theorem Ny.has{i:Nat}{v:Value}{tm:Tm}(hi:tm.get i=some v){l al:Al}(h:Ny i l al)(hv:∀u,Go.Lx.lk l i=some u→u=v)(ha:Has al tm):∀k u,Go.Lx.lk l k=some u→tm.get k=some u:=fun k u e=>by
 cases hb:Za k i with
 |true=>
  obtain rfl:=Zv hb;rw[hi,hv u e]
 |false=>exact ha _ _ (h.lk hb e)
def gX(ops:List Oper)(i:Nat)(al:Al):Option (Nat×Bool)→Bool
 |none=>true
 |some (j,w)=>match ops[j]? with
  |some o=>match o.dst with
   |some d=>bif Za d i then false else match Go.Lx.lk al d with
    |some (.bool b)=>b==w
    |_=>false
   |none=>false
  |none=>false
theorem Zk7{i:Nat}{al al':Al}{g:Option (Nat×Bool)}(h:gX ops i al g=true)(hs:Ny i al al'):gOk ops al' g=true:=by
 cases g with
 |none=>rfl
 |some p=>
  obtain⟨j,w⟩:=p;unfold gX at h;unfold gOk gd;simp only at h ⊢;cases ho:ops[j]? with
  |none=>rw[ho]at h;cases h
  |some o=>
   rw[ho]at h;simp only at h ⊢;cases hd:o.dst with
   |none=>rw[hd]at h;cases h
   |some d=>
    rw[hd]at h;simp only at h ⊢;cases hb:Za d i with
    |true=>rw[hb]at h;cases h
    |false=>
     rw[hb]at h;simp only[cond_false]at h;cases hv:Go.Lx.lk al d with
     |none=>rw[hv]at h;cases h
     |some v=>
      rw[hv]at h;rw[hs.lk hb hv];cases v with
      |bool b=>exact h
      |_=>cases h
theorem WR.imp{Q':Al→List Asn→List Asn→Prop}(h:WR E N ops l al L P Q)(hq:∀al L P,Q al L P→Q' al L P):WR E N ops l al L P Q':=fun S s tm hs ha=>by
 obtain⟨tm1,s1,S1,al1,L1,P1,e,ht,h1,h2,h3⟩:=h S s tm hs ha;exact⟨tm1,s1,S1,al1,L1,P1,e,ht,h1,h2,hq _ _ _ h3⟩
theorem WR.sc(n:Nat){i d t:Nat}{x y:Operand}{g:Option (Nat×Bool)}{w q r:Bool}{l2:List Oper}
  (hon:q=w→WR E N ops (l.take n) ((i,.bool w)::al) L P (fun al' L' P'=>Ny i al al'∧Go.Lx.lk al' i=some (.bool w)∧evl al' (bif w then x else y)=some (.bool r)∧L'=L∧P'=P))
  (hoff:q=(!w)→∃al',Rw ops N ((i,.bool (!w))::al) (l.take n)=some al'∧Ny i al al'∧Go.Lx.lk al' i=some (.bool (!w))∧evl al' (bif !w then x else y)=some (.bool r))
  (h:WR E N ops l2 ((d,.bool r)::al) L P Q) (hl:l.drop n=⟨some d,.pick (.tmp i) x y,t,pos,af,g⟩::l2:=by rfl) (hi:Go.Lx.lk al i=some (.bool q):=by rfl) (hg:gX ops i al g=true:=by rfl) (hN:Zb d N=true:=by rfl):WR E N ops l al L P Q:=by
 rw[←List.take_append_drop n l,hl];refine WR.app ?_;have mid:WR E N ops (l.take n) al L P (fun al' L' P'=>∃b,q=b∧Ny i al al'∧Go.Lx.lk al' i=some (.bool b)∧evl al' (bif b then x else y)=some (.bool r)∧L'=L∧P'=P):=by
  by_cases hq:q=w
  ·intro S s tm hs ha;have ha':Has ((i,.bool w)::al) tm:=by
    intro k v e;have e:(bif Za i k then some (Value.bool w)else Go.Lx.lk al k)=some v:=e;cases hb:Za i k with
    |true=>
     rw[hb]at e;cases e;obtain rfl:=Zv hb;rw[←hq];exact ha _ _ hi
    |false=>rw[hb]at e;exact ha _ _ e
   obtain⟨tm1,s1,S1,al1,L1,P1,e,ht,ha1,hs1,k1,k2,k3,k4,k5⟩:=hon hq S s tm hs ha';exact⟨tm1,s1,S1,al1,L1,P1,e,ht,ha1,hs1,w,hq,k1,k2,k3,k4,k5⟩
  ·have hq':q=(!w):=by cases q<;>cases w<;>first|rfl|exact absurd rfl hq
   obtain⟨al',k1,k2,k3,k4⟩:=hoff hq';intro S s tm hs ha;have ha':Has ((i,.bool (!w))::al) tm:=by
    intro k v e;have e:(bif Za i k then some (Value.bool (!w))else Go.Lx.lk al k)=some v:=e;cases hb:Za i k with
    |true=>
     rw[hb]at e;cases e;obtain rfl:=Zv hb;rw[←hq'];exact ha _ _ hi
    |false=>rw[hb]at e;exact ha _ _ e
   obtain⟨tm1,s1,S1,al1,L1,P1,e,ht,ha1,hs1,k⟩:=(WR.skips (E:=E) (L:=L) (P:=P) (Q:=fun a L' P'=>a=al'∧L'=L∧P'=P) k1 ⟨rfl,rfl,rfl⟩) S s tm hs ha';obtain⟨rfl,rfl,rfl⟩:=k;exact⟨tm1,s1,S1,_,_,_,e,ht,ha1,hs1,!w,hq',k2,k3,k4,rfl,rfl⟩
 refine WR.imp mid (fun al1 L1 P1 ⟨b,hb,k1,k2,k3,e1,e2⟩=>?_);subst hb e1 e2;intro S s tm hs ha1;have hkeep:Has al tm:=Ny.has (v:=.bool q) (ha1 _ _ k2) k1 (fun u hu=>by rw[hi]at hu;cases hu;rfl) ha1;have hpick:∀call,Hb (.pick (.tmp i) x y) E call tm s=some (.bool r,s):=fun call=>by
  show Cz (.tmp i) x y E tm s=_;have h1:ev tm (.tmp i)=some (.bool q):=ha1 _ _ k2;have h2:=Gm ha1 k3;unfold Cz;rw[h1];simp only;rw[h2]
 obtain⟨tm2,s2,S2,al2,L2,P2,⟨G,H,e2⟩,hr⟩:=h S s (tm.set d (.bool r)) hs (hkeep.set d _);refine⟨tm2,s2,S2,al2,L2,P2,⟨G,H,?_⟩,hr⟩;have hgd:gOk ops al1 g=true:=Zk7 hg k1;have hw:Ha ops tm ⟨some d,.pick (.tmp i) x y,t,pos,af,g⟩=some true:=Cn (o:=⟨some d,.pick (.tmp i) x y,t,pos,af,g⟩) hgd tm ha1;rw[D6,hw];simp only;rw[hpick];simp only;have hp:Gq N tm (some d) (.bool r)=some (tm.set d (.bool r)):=by unfold Gq;simp only[hN,cond_true]
 rw[hp];exact e2
theorem WR.fin{i:Nat}{al al':Al}{x:Operand}{w r:Bool}(he:evl al' x=some (.bool r))(hx:Ny i al al':=by(repeat (first|exact True.intro|refine And.intro (Or.inr rfl) ?_|refine And.intro (Or.inl rfl) ?_)))(h1:Go.Lx.lk al' i=some (.bool w):=by rfl):WR E N ops [] al' L P (fun al' L' P'=>Ny i al al'∧Go.Lx.lk al' i=some (.bool w)∧evl al' x=some (.bool r)∧L'=L∧P'=P):=.nil ⟨hx,h1,he,rfl,rfl⟩
theorem WR.and(i n:Nat){d t:Nat}{x:Operand}{g:Option (Nat×Bool)}{q:Bool}(r:Bool){l2:List Oper}{al0:Al}
  (hon:q=true→WR E N ops (l.take n) ((i,.bool true)::al) L P (fun al' L' P'=>Ny i al al'∧Go.Lx.lk al' i=some (.bool true)∧evl al' x=some (.bool r)∧L'=L∧P'=P))
  (h:WR E N ops l2 ((d,.bool (q&&r))::al) L P Q) (k1:Rw ops N ((i,.bool false)::al) (l.take n)=some al0:=by rfl) (k2:Ny i al al0:=by(repeat (first|exact True.intro|refine And.intro (Or.inr rfl) ?_|refine And.intro (Or.inl rfl) ?_))) (k3:Go.Lx.lk al0 i=some (.bool false):=by rfl)
  (hl:l.drop n=⟨some d,.pick (.tmp i) x (.const (.bool false)),t,pos,af,g⟩::l2:=by rfl) (hi:Go.Lx.lk al i=some (.bool q):=by rfl) (hg:gX ops i al g=true:=by rfl) (hN:Zb d N=true:=by rfl):WR E N ops l al L P Q:=
 WR.sc n (w:=true) (r:=(q&&r)) (fun hq=>by
   subst hq;exact hon rfl) (fun hq=>by
   subst hq;exact⟨al0,k1,k2,k3,rfl⟩) h hl hi hg hN
theorem WR.or(i n:Nat){d t:Nat}{y:Operand}{g:Option (Nat×Bool)}{q:Bool}(r:Bool){l2:List Oper}{al0:Al}
  (hon:q=false→WR E N ops (l.take n) ((i,.bool false)::al) L P (fun al' L' P'=>Ny i al al'∧Go.Lx.lk al' i=some (.bool false)∧evl al' y=some (.bool r)∧L'=L∧P'=P))
  (h:WR E N ops l2 ((d,.bool (q||r))::al) L P Q) (k1:Rw ops N ((i,.bool true)::al) (l.take n)=some al0:=by rfl) (k2:Ny i al al0:=by(repeat (first|exact True.intro|refine And.intro (Or.inr rfl) ?_|refine And.intro (Or.inl rfl) ?_))) (k3:Go.Lx.lk al0 i=some (.bool true):=by rfl)
  (hl:l.drop n=⟨some d,.pick (.tmp i) (.const (.bool true)) y,t,pos,af,g⟩::l2:=by rfl) (hi:Go.Lx.lk al i=some (.bool q):=by rfl) (hg:gX ops i al g=true:=by rfl) (hN:Zb d N=true:=by rfl):WR E N ops l al L P Q:=
 WR.sc n (w:=false) (r:=(q||r)) (fun hq=>by
   subst hq;exact hon rfl) (fun hq=>by
   subst hq;exact⟨al0,k1,k2,k3,rfl⟩) h hl hi hg hN
theorem W.cutS{a b:Code}{Q:X→Al→List Asn→List Asn→Prop}(als:Al)(Lm Pm:List Asn)(h1:W E N a al L P (QH (fun al' L' P'=>Cm als al'∧Ent L' P' Lm Pm) Q))(h2:W E N b als Lm Pm Q):W E N (.seq a b) al L P Q:=
 W.cut (fun al' L' P'=>Cm als al'∧Ent L' P' Lm Pm) h1 (fun al' L' P' ⟨hs,he⟩=>.keep hs (.ent he h2))
end Go.Lx
namespace Go.Lx
open Go Go.Ax
variable {E:Env}{N:Nat}{al:Al}{L P:List Asn}
noncomputable def yw(E:Env)(u:TypeId):Bool:=match E.ty.get u with
 |some i=>match i.desc with
  |.bool=>true
  |_=>false
 |none=>false
theorem Zk8{u:TypeId}(h:yw E u=true):∃i,E.ty.get u=some i∧i.desc=.bool:=by
 unfold yw at h;cases hi:E.ty.get u with
 |none=>rw[hi]at h;cases h
 |some i=>
  rw[hi]at h;simp only at h;cases hd:i.desc with
  |bool=>exact⟨i,rfl,hd⟩
  |_=>rw[hd]at h;cases h
theorem Zk9{u:TypeId}(h:yw E u=true)(s:AS)(a b:Bool):eqA E s u (.bool a) (.bool b)=some (a==b):=by
 obtain⟨i,h1,h2⟩:=Zk8 h;unfold eqA;rw[h1];simp only;rw[h2];rfl
theorem Pu.bin_bool_neq{x y:Operand}{u r:Nat}{a b:Bool}(hx:evl al x=some (.bool a):=by rfl)(hy:evl al y=some (.bool b):=by rfl)(hu:yw E u=true:=by rfl):Pu E al (.binOp .neq u x y r) (.bool (a !=b)):=
 ⟨fun _ _ _=>rfl,fun tm s ha=>by
  show M5 .neq u x y E tm s=_;unfold M5;rw[Gm ha hx,Gm ha hy];simp only;have:Fj E s .neq u x y (.bool a) (.bool b)=some (.bool (a !=b)):=by
   show Bo E s .neq u x y (.bool a) (.bool b) true=_;unfold Bo;rw[Zk9 hu];simp only;cases a<;>cases b<;>rfl
  rw[this]⟩
theorem Pu.min{x y:Operand}{ts:Array TypeId}{a b c:Int}(hx:evl al x=some (.int .i64 a):=by rfl)(hy:evl al y=some (.int .i64 b):=by rfl)(hc:c=if b<a then b else a:=by omega):Pu E al (.call ⟨.builtin .min, #[x,y],ts⟩) (.int .i64 c):=
 ⟨fun _ _ _=>rfl,fun tm s ha=>by
  subst hc;refine If (vs:=[.int .i64 a,.int .i64 b]) ha (by show(match evl al x with|none=>none|some v=>match (match evl al y with|none=>none|some v=>some [v])with|none=>none|some vs=>some (v::vs))=_;rw[hx,hy]) ?_
  unfold R8;rfl⟩
theorem Pu.max{x y:Operand}{ts:Array TypeId}{a b c:Int}(hx:evl al x=some (.int .i64 a):=by rfl)(hy:evl al y=some (.int .i64 b):=by rfl)(hc:c=if b>a then b else a:=by omega):Pu E al (.call ⟨.builtin .max, #[x,y],ts⟩) (.int .i64 c):=
 ⟨fun _ _ _=>rfl,fun tm s ha=>by
  subst hc;refine If (vs:=[.int .i64 a,.int .i64 b]) ha (by show(match evl al x with|none=>none|some v=>match (match evl al y with|none=>none|some v=>some [v])with|none=>none|some vs=>some (v::vs))=_;rw[hx,hy]) ?_
  unfold R8;rfl⟩
end Go.Lx
namespace Go.Lx
def pop :Nat→Nat→Nat
 |0,_=>0
 |n+1,x=>x%2+pop n (x/2)
theorem Rx(n h b:Nat)(hb:b<256):pop (n+8) (256*h+b)=pop 8 b+pop n h:=by
 simp only[pop];rw[show(256*h+b)/2/2/2/2/2/2/2/2=h by omega];omega
theorem mg(h b m c s:Nat)(hb:b<256)(hs:s≤8)(hc:c<2^(8-s)):(256*h+b)>>>s&&&(256*m+c)=256*(h>>>s&&&m)+(b>>>s&&&c):=by
 have hc8:c<2^8:=Yu hc (Va (by decide) (by omega));have hx:(b>>>s&&&c)<2^8:=V0 Nat.and_le_right hc8;refine Kz (fun i=>?_);have e1:∀j,(256*h+b).testBit j=if j<8 then b.testBit j else h.testBit (j-8):=fun j=>Zsf (i:=8) h hb j
 have e2:∀j,(256*m+c).testBit j=if j<8 then c.testBit j else m.testBit (j-8):=fun j=>Zsf (i:=8) m hc8 j
 have e3:∀j,(256*(h>>>s&&&m)+(b>>>s&&&c)).testBit j=if j<8 then(b>>>s&&&c).testBit j else(h>>>s&&&m).testBit (j-8):=fun j=>Zsf (i:=8) _ hx j
 rw[e3,K0,Zsg,e1,e2,K0,K0,Zsg,Zsg];by_cases hi:i<8
 ·rw[if_pos hi,if_pos hi];by_cases hsi:s+i<8
  ·rw[if_pos hsi]
  ·have:c.testBit i=false:=Uw (Yu hc (Va (by decide) (by omega)));rw[this,Vq,Vq]
 ·rw[if_neg hi,if_neg hi,if_neg (by omega),show s+i-8=s+(i-8) by omega]
def mk :Nat→Nat→Nat
 |0,_=>0
 |k+1,c=>256*mk k c+c
def st1(k x:Nat):Nat:=(x>>>1&&&mk k 85)+(x&&&mk k 85)
def st2(k x:Nat):Nat:=(x>>>2&&&mk k 51)+(x&&&mk k 51)
def st3(k x:Nat):Nat:=(x>>>4+x)&&&mk k 15
theorem ER(k h b:Nat)(hb:b<256):st1 (k+1) (256*h+b)=256*st1 k h+st1 1 b:=by
 have h1:=mg h b (mk k 85) 85 1 hb (by decide) (by decide);have h0:=mg h b (mk k 85) 85 0 hb (by decide) (by decide);simp only[Zsh]at h0;show((256*h+b)>>>1&&&(256*mk k 85+85))+((256*h+b)&&&(256*mk k 85+85))=256*((h>>>1&&&mk k 85)+(h&&&mk k 85))+((b>>>1&&&85)+(b&&&85));rw[h1,h0];omega
theorem ET(k h b:Nat)(hb:b<256):st2 (k+1) (256*h+b)=256*st2 k h+st2 1 b:=by
 have h1:=mg h b (mk k 51) 51 2 hb (by decide) (by decide);have h0:=mg h b (mk k 51) 51 0 hb (by decide) (by decide);simp only[Zsh]at h0;show((256*h+b)>>>2&&&(256*mk k 51+51))+((256*h+b)&&&(256*mk k 51+51))=256*((h>>>2&&&mk k 51)+(h&&&mk k 51))+((b>>>2&&&51)+(b&&&51));rw[h1,h0];omega
theorem Zla(k h b:Nat)(hb:b≤68)(hh:h%16≤4):st3 (k+1) (256*h+b)=256*st3 k h+(b/16+b)%16:=by
 have e:(256*h+b)>>>4+(256*h+b)=256*(h>>>4+h)+((h%16)*16+b/16+b):=by
  rw[Xe,Xe];omega
 have h0:=mg (h>>>4+h) ((h%16)*16+b/16+b) (mk k 15) 15 0 (by omega) (by decide) (by decide);simp only[Zsh]at h0;show((256*h+b)>>>4+(256*h+b))&&&(256*mk k 15+15)=256*((h>>>4+h)&&&mk k 15)+_;rw[e,h0];have e2:((h%16)*16+b/16+b)&&&15=((h%16)*16+b/16+b)%16:=Nat.and_two_pow_sub_one_eq_mod _ 4;rw[e2];omega
theorem EQ :∀b,b<256→st1 1 b<256∧st2 1 (st1 1 b)≤68∧st2 1 (st1 1 b)%16≤4∧(st2 1 (st1 1 b)/16+st2 1 (st1 1 b))%16=pop 8 b:=by decide+kernel
theorem Zlb(k h:Nat):st2 k (st1 k h)%16≤4:=by
 cases k with
 |zero=>simp[st2,mk]
 |succ k=>
  have e:h=256*(h/256)+h%256:=by omega
  have hb:h%256<256:=by omega
  obtain⟨h1,h2,h3,h4⟩:=EQ _ hb;rw[e,ER k _ _ hb,ET k _ _ h1];omega
theorem Ry(k h b:Nat)(hb:b<256):st3 (k+1) (st2 (k+1) (st1 (k+1) (256*h+b)))=256*st3 k (st2 k (st1 k h))+pop 8 b:=by
 obtain⟨h1,h2,h3,h4⟩:=EQ _ hb;rw[ER k _ _ hb,ET k _ _ h1,Zla k _ _ h2 (Zlb k h),h4]
theorem Df :∀n x,pop n x≤n
 |0,_=>Ze _
 |n+1,x=>by
  have:=Df n (x/2);show x%2+pop n (x/2)≤n+1;omega
theorem Zlc(x:Nat):st3 0 (st2 0 (st1 0 x))=0:=by simp[st3,mk]
theorem Zld(p0 p1 p2 p3 p4 p5 p6 p7:Nat)(h0:p0≤8)(h1:p1≤8)(h2:p2≤8)(h3:p3≤8)(h4:p4≤8)(h5:p5≤8)(h6:p6≤8)(h7:p7≤8)(y:Nat)
  (hy:y=p0+256*p1+65536*p2+16777216*p3+4294967296*p4+1099511627776*p5+281474976710656*p6+72057594037927936*p7):
  ((y+y/256)+(y+y/256)/65536+((y+y/256)+(y+y/256)/65536)/4294967296)%128=p0+p1+p2+p3+p4+p5+p6+p7:=by
 have dv:∀(a q r c:Nat),a=c*q+r→r<c→a/c=q:=fun a q r c h hr=>by
  rw[h,Uc,Vi,Nat.add_mul_div_right _ _ (by omega),Nat.div_eq_of_lt hr,Zw]
 obtain⟨q,hq⟩:∃q,q=p1+256*p2+65536*p3+16777216*p4+4294967296*p5+1099511627776*p6+281474976710656*p7:=⟨_,rfl⟩;have e1:y/256=q:=dv y q p0 256 (by rw[hy,hq];clear h0 h1 h2 h3 h4 h5 h6 h7 hq hy;omega) (by omega);rw[e1];obtain⟨a,ha⟩:∃a,a=y+q:=⟨_,rfl⟩;rw[←ha];obtain⟨r,hr⟩:∃r,r=(p2+p3)+256*(p3+p4)+65536*(p4+p5)+16777216*(p5+p6)+4294967296*(p6+p7)+1099511627776*p7:=⟨_,rfl⟩;have e2:a/65536=r:=dv a r (p0+p1+256*(p1+p2)) 65536 (by rw[ha,hy,hq,hr];clear h0 h1 h2 h3 h4 h5 h6 h7 e1 ha hr hq hy;omega) (by clear hy hq ha hr e1;omega);rw[e2];obtain⟨b,hb⟩:∃b,b=a+r:=⟨_,rfl⟩;rw[←hb];obtain⟨t,ht⟩:∃t,t=(p4+p5+p6+p7)+256*(p5+p6+p7)+65536*(p6+p7)+16777216*p7:=⟨_,rfl⟩;have e3:b/4294967296=t:=dv b t ((p0+p1+p2+p3)+256*(p1+p2+p3+p4)+65536*(p2+p3+p4+p5)+16777216*(p3+p4+p5+p6)) 4294967296 (by rw[hb,ha,hy,hq,hr,ht];clear h0 h1 h2 h3 h4 h5 h6 h7 e1 e2 hb ht ha hr hq hy;omega) (by clear hy hq ha hr hb ht e1 e2;omega)
 rw[e3];obtain⟨u,hu⟩:∃u,b+t=128*u+(p0+p1+p2+p3+p4+p5+p6+p7):=⟨2*(p1+p2+p3+p4+(p5+p6+p7))+512*(p2+p3+p4+p5+(p6+p7))+131072*(p3+p4+p5+p6+p7)+33554432*(p4+p5+p6+p7)+8589934592*(p5+p6+p7)+2199023255552*(p6+p7)+562949953421312*p7,by rw[hb,ha,hy,hq,hr,ht];clear h0 h1 h2 h3 h4 h5 h6 h7 e1 e2 e3 hb ht ha hr hq hy;omega⟩;rw[hu];clear hy hq ha hr hb ht e1 e2 e3 hu;omega
theorem Zle(x:Nat)(hx:x<18446744073709551616):∃y,y=st3 8 (st2 8 (st1 8 x))∧y≤578721382704613384∧((y+y/256)+(y+y/256)/65536+((y+y/256)+(y+y/256)/65536)/4294967296)%128=pop 64 x:=by
 have key:∀(h:Nat),h=256*(h/256)+h%256:=fun h=>by omega
 obtain⟨x1,b0,e0,c0⟩:∃h b,x=256*h+b∧b<256:=⟨x/256,x%256,by omega,by omega⟩;obtain⟨x2,b1,e1,c1⟩:∃h b,x1=256*h+b∧b<256:=⟨x1/256,x1%256,by omega,by omega⟩;obtain⟨x3,b2,e2,c2⟩:∃h b,x2=256*h+b∧b<256:=⟨x2/256,x2%256,by omega,by omega⟩;obtain⟨x4,b3,e3,c3⟩:∃h b,x3=256*h+b∧b<256:=⟨x3/256,x3%256,by omega,by omega⟩;obtain⟨x5,b4,e4,c4⟩:∃h b,x4=256*h+b∧b<256:=⟨x4/256,x4%256,by omega,by omega⟩;obtain⟨x6,b5,e5,c5⟩:∃h b,x5=256*h+b∧b<256:=⟨x5/256,x5%256,by omega,by omega⟩;obtain⟨x7,b6,e6,c6⟩:∃h b,x6=256*h+b∧b<256:=⟨x6/256,x6%256,by omega,by omega⟩;obtain⟨x8,b7,e7,c7⟩:∃h b,x7=256*h+b∧b<256:=⟨x7/256,x7%256,by omega,by omega⟩;have hx8:x8=0:=by omega
 have p0:=Df 8 b0;have p1:=Df 8 b1;have p2:=Df 8 b2;have p3:=Df 8 b3;have p4:=Df 8 b4;have p5:=Df 8 b5;have p6:=Df 8 b6;have p7:=Df 8 b7;have z:pop 0 x8=0:=rfl;have q7:=Rx 0 x8 b7 c7;have q6:=Rx 8 x7 b6 c6;have q5:=Rx 16 x6 b5 c5;have q4:=Rx 24 x5 b4 c4;have q3:=Rx 32 x4 b3 c3;have q2:=Rx 40 x3 b2 c2;have q1:=Rx 48 x2 b1 c1;have q0:=Rx 56 x1 b0 c0;have s7:=Ry 0 x8 b7 c7;have s6:=Ry 1 x7 b6 c6;have s5:=Ry 2 x6 b5 c5;have s4:=Ry 3 x5 b4 c4;have s3:=Ry 4 x4 b3 c3;have s2:=Ry 5 x3 b2 c2;have s1:=Ry 6 x2 b1 c1;have s0:=Ry 7 x1 b0 c0;rw[←e7]at q7 s7;rw[←e6]at q6 s6;rw[←e5]at q5 s5;rw[←e4]at q4 s4;rw[←e3]at q3 s3;rw[←e2]at q2 s2;rw[←e1]at q1 s1;rw[←e0]at q0 s0
 have s8:=Zlc x8;simp only[Nat.reduceAdd]at s0 s1 s2 s3 s4 s5 s6 s7 q0 q1 q2 q3 q4 q5 q6 q7;have hY:st3 8 (st2 8 (st1 8 x))=256*(256*(256*(256*(256*(256*(256*(256*0+pop 8 b7)+pop 8 b6)+pop 8 b5)+pop 8 b4)+pop 8 b3)+pop 8 b2)+pop 8 b1)+pop 8 b0:=by rw[s0,s1,s2,s3,s4,s5,s6,s7,s8]
 have hP:pop 64 x=pop 8 b0+(pop 8 b1+(pop 8 b2+(pop 8 b3+(pop 8 b4+(pop 8 b5+(pop 8 b6+(pop 8 b7+0))))))):=by rw[q0,q1,q2,q3,q4,q5,q6,q7,z]
 refine⟨_,rfl,?_,?_⟩
 ·rw[hY];clear hY hP s0 s1 s2 s3 s4 s5 s6 s7 s8 q0 q1 q2 q3 q4 q5 q6 q7 z e0 e1 e2 e3 e4 e5 e6 e7 hx8 hx key;omega
 ·rw[hY,hP,Zld (pop 8 b0) (pop 8 b1) (pop 8 b2) (pop 8 b3) (pop 8 b4) (pop 8 b5) (pop 8 b6) (pop 8 b7) p0 p1 p2 p3 p4 p5 p6 p7 _ (by clear hY hP s0 s1 s2 s3 s4 s5 s6 s7 s8 q0 q1 q2 q3 q4 q5 q6 q7 z e0 e1 e2 e3 e4 e5 e6 e7 hx8 hx key;omega)];clear hY hP s0 s1 s2 s3 s4 s5 s6 s7 s8 q0 q1 q2 q3 q4 q5 q6 q7 z e0 e1 e2 e3 e4 e5 e6 e7 hx8 hx key;omega
end Go.Lx
namespace Go.Lx
open Go Go.Ax
variable {E:Env}{N:Nat}{ops l:List Oper}{al:Al}{L P:List Asn}{Q:Al→List Asn→List Asn→Prop}{pos:String}{af:Array Edge}
theorem Pu.shrN{x y:Operand}{u r:Nat}{k k':IntKind}{a n:Nat}(hx:evl al x=some (.int k (a:Int)):=by rfl)(hy:evl al y=some (.int k' (n:Int)):=by rfl)(hn:n≤Fg k:=by decide):Pu E al (.binOp .shr u x y r) (.int k ((a>>>n:Nat):Int)):=
 Pu.i_shr hx hy (by rw[Xe];exact(Int.natCast_ediv a (2^n)).symm▸(Int.fdiv_eq_ediv_of_nonneg _ (Yk _))) hn
theorem Pu.andU{x y:Operand}{u r:Nat}{a b:Nat}(hx:evl al x=some (.int .u64 (a:Int)):=by rfl)(hy:evl al y=some (.int .u64 (b:Int)):=by rfl)(ha:a<18446744073709551616:=by first|assumption|decide|omega)(hb:b<18446744073709551616:=by first|assumption|decide|omega):Pu E al (.binOp .and u x y r) (.int .u64 ((a&&&b:Nat):Int)):=
 Pu.i_and hx hy ha hb (by simp only[InR];have:a&&&b≤a:=Zsi;have e:Xm a b=a&&&b:=rfl;rw[e];omega)
theorem Zlf{a b n:Nat}(ha:a<2^n)(hb:b<2^n):a|||b<2^n:=Jv ha hb
theorem Pu.orU{x y:Operand}{u r:Nat}{a b:Nat}(hx:evl al x=some (.int .u64 (a:Int)):=by rfl)(hy:evl al y=some (.int .u64 (b:Int)):=by rfl)(ha:a<18446744073709551616:=by first|assumption|decide|omega)(hb:b<18446744073709551616:=by first|assumption|decide|omega):Pu E al (.binOp .or u x y r) (.int .u64 ((a|||b:Nat):Int)):=
 Pu.i_or hx hy ha hb (by simp only[InR];have:a|||b<2^64:=Zlf ha hb;have e:Ue a b=a|||b:=rfl;rw[e];omega)
theorem Pu.andNotU{x y:Operand}{u r:Nat}{a b:Nat}(hx:evl al x=some (.int .u64 (a:Int)):=by rfl)(hy:evl al y=some (.int .u64 (b:Int)):=by rfl)(ha:a<18446744073709551616:=by first|assumption|decide|omega)(hb:b<18446744073709551616:=by first|assumption|decide|omega):Pu E al (.binOp .andNot u x y r) (.int .u64 ((a&&&(18446744073709551615-b):Nat):Int)):=
 Pu.i_andNot hx hy ha hb (by simp only[InR];have:a&&&(Hu .u64-1-b)≤a:=Zsi;have e:Xm a (Hu .u64-1-b)=a&&&(Hu .u64-1-b):=rfl;rw[e];omega)
theorem Pu.bitU{x y:Operand}{u r:Nat}{k':IntKind}{n:Nat}(hx:evl al x=some (.int .u64 1):=by rfl)(hy:evl al y=some (.int k' (n:Int)):=by rfl)(hn:n<64:=by omega):Pu E al (.binOp .shl u x y r) (.int .u64 ((2^n:Nat):Int)):=by
 have h2:2^n<2^64:=Ju (by decide) hn;have:=Pu.i_shl (E:=E) (u:=u) (r:=r) (n:=n) hx hy (show n≤64 by omega) (by simp only[InR];rw[Zsm];have h3:((2^n:Nat):Int)<18446744073709551616:=Int.ofNat_lt.2 h2;exact⟨Yk _,h3⟩);rw[Zsm]at this;exact this
theorem Pu.notU{x:Operand}{u:Nat}{a:Nat}(hx:evl al x=some (.int .u64 (a:Int)):=by rfl)(ha:a<18446744073709551616:=by first|assumption|decide|omega):Pu E al (.unOp .xor u x) (.int .u64 ((18446744073709551615-a:Nat):Int)):=⟨fun _ _ _=>rfl,fun tm s hal=>by
 show hUn .xor x E tm s=_;unfold hUn;rw[Gm hal hx];have h1:(BitVec.ofInt 64 (a:Int)).toNat=a:=by
  rw[BitVec.ofInt_natCast,BitVec.toNat_ofNat];exact Kc (by omega)
 have h0:BitVec.ofInt 64 (IntKind.u64.max)=BitVec.allOnes 64:=by decide
 have e:IntKind.u64.wrap ((BitVec.ofInt 64 (IntKind.u64.max)^^^BitVec.ofInt 64 (a:Int)).toNat:Int)=((18446744073709551615-a:Nat):Int):=by
  rw[h0,BitVec.allOnes_xor,BitVec.toNat_not,h1,IntKind.wrap_u64];omega
 show(match (none:Option Value)with|some u=>some (u,s)|none=>bif plain (Value.int .u64 a)then(match some (Value.int .u64 (IntKind.u64.wrap ((BitVec.ofInt 64 (IntKind.u64.max)^^^BitVec.ofInt 64 (a:Int)).toNat:Int)))with|some u=>bif plain u then some (u,s)else none|none=>none)else none)=_
 rw[e];rfl⟩
theorem Upd.perm{A B:Asn}{L L':List Asn}(h:Upd A B L L'):∃L0,L.Perm (A::L0)∧(B::L0).Perm L':=by
 induction h with
 |z=>exact⟨_,.refl _,.refl _⟩
 | @s C L L' h ih=>
  obtain⟨L0,h1,h2⟩:=ih;exact⟨C::L0,(h1.cons C).trans (.swap A C L0),(Yn.swap C B L0).trans (h2.cons C)⟩
theorem Sp.up{f:FuncId}{args:List Value}{A B:Asn}{R:Value→Prop}{L L':List Asn}(hu:Upd A B L L')(h:∀L,Sp E f args (A::L) P (fun r L1 P1=>R r∧L1=B::L∧P1=P)):Sp E f args L P (fun r L1 P1=>R r∧L1=L'∧P1=P):=by
 obtain⟨L0,h1,h2⟩:=hu.perm;exact Sp.ent (.perm h1) ((h L0).post (fun v L1 P1 ⟨g1,g2,g3⟩=>⟨L',P1,by rw[g2];exact .perm h2,g1,rfl,g3⟩))
theorem Pu.mulU{x y:Operand}{u r:Nat}{a b:Nat}(hx:evl al x=some (.int .u64 (a:Int)):=by rfl)(hy:evl al y=some (.int .u64 (b:Int)):=by rfl):Pu E al (.binOp .mul u x y r) (.int .u64 ((a*b%18446744073709551616:Nat):Int)):=
 Pu.bi (by
  show(bif Hy .u64 .u64 then iAr Uy .u64 a b else none)=_;rw[M9];simp only[cond_true];have e:Uy (a:Int) (b:Int)=((a*b:Nat):Int):=rfl;unfold iAr;rw[e,WB];rfl) hx hy
theorem Pu.negU{x:Operand}{u:Nat}{a:Nat}(hx:evl al x=some (.int .u64 (a:Int)):=by rfl)(h0:a≠0:=by omega)(ha:a<18446744073709551616:=by first|assumption|omega):Pu E al (.unOp .neg u x) (.int .u64 ((18446744073709551616-a:Nat):Int)):=
 Pu.ngw (by rw[IntKind.wrap_u64];omega) hx
theorem Upd.same{A:Asn}{L L':List Asn}(h:Upd A A L L'):L=L':=by
 induction h with
 |z=>rfl
 |s h ih=>rw[ih]
theorem rep_one(z:Value):∀n,rep n [z]=Z7 n z
 |0=>rfl
 |n+1=>by
  show [z]++rep n [z]=_;rw[rep_one z n];rfl
theorem EW{z:Value}(hz:oneC z=true):∀n,ones (Z7 n z)=true
 |0=>rfl
 |n+1=>by
  rw[Jb];unfold ones;rw[hz,EW hz n];rfl
theorem WR.clearO{x:Operand}{ts:Array TypeId}{u e t:Nat}{j:TI}{v z:Value}{es:List (List Value)}{L':List Asn}(h:WR E N ops l al L' P Q)(hx:evl al x=some v:=by rfl)(ht:ts.toList.head? =some u:=by rfl)(hu:slT E u=some (e,j):=by rfl)(hj:j.zero=[z]:=by rfl)(hz:oneC z=true:=by rfl)
  (hU:Upd (Ow 1 v es) (Ow 1 v (es.map fun _=>[z])) L L':=by first|exact .z|exact .s .z|exact .s (.s .z)|exact .s (.s (.s .z))|exact .s (.s (.s (.s .z)))|exact .s (.s (.s (.s (.s .z))))|exact .s (.s (.s (.s (.s (.s .z)))))|exact .s (.s (.s (.s (.s (.s (.s .z))))))|exact .s (.s (.s (.s (.s (.s (.s (.s .z)))))))):WR E N ops (⟨none,.call ⟨.builtin .clear, #[x],ts⟩,t,pos,af,none⟩::l) al L P Q:=
 WR.op0 rfl rfl (fun S s tm hs ha=>by
  obtain⟨i,k1,k2,k3⟩:=M3 hu;obtain⟨U,hO,_⟩:=(In.l hU.mem:In _ L P).holds hs;have hts:ts.toList=u::ts.toList.tail:=by
   cases h':ts.toList with
   |nil=>rw[h']at ht;cases ht
   |cons a l=>rw[h']at ht;cases ht;rfl
  have hxs:Me al #[x].toList=some [v]:=by
   show Me al [x]=_;unfold Me;rw[hx];rfl
  have run:∀r,B4 E s u v=r→Hb (.call ⟨.builtin .clear, #[x],ts⟩) E (Gw E 0 0) tm s=r:=fun r hr=>
   If ha hxs (by rw[hts];exact hr)
  rcases hO with⟨rfl,a,c,rfl,_,_⟩|⟨b,c,m,y,t',rfl,g1,g2,g3,g4,g5,g6⟩
  ·have e0:B4 E s u (.slice a 0 c)=some (.tuple #[],s):=by
    unfold B4;rw[k1];cases a with
    |none=>simp only
    |some a=>simp only;rw[k2];rfl
   obtain rfl:L=L':=hU.same;exact⟨_,s,S,L,P,⟨0,0,run _ e0⟩,.refl _ _,hs,h⟩
  ·by_cases hn0:es.length=0
   ·obtain rfl:=Yh.1 hn0;obtain rfl:L=L':=hU.same;refine⟨.tuple #[],s,S,L,P,⟨0,0,run _ ?_⟩,.refl _ _,hs,h⟩;unfold B4;rw[k1];simp only;rw[k2];rfl
   ·have hm:es.length≤m:=by omega
    obtain⟨h3,h4⟩:=hs.upd hU (b:=b) (fun U h hp=>by
     rcases hp with⟨h0,_⟩|⟨b',c',m',z',t',e1,g1',_⟩
     ·rw[h0]at hn0;exact absurd rfl hn0
     ·cases e1;exact g1') (o:=.cells (t'.fill 0 (Z7 es.length z)) m y) (fun h hg=>.inr ⟨b,c,m,y,_,by rw[Zc],rfl,hg,by rw[Zc];exact g3,g4,g5,fun i e he=>by
      rw[Zy]at he;cases hq:es[i]? with
      |none=>rw[hq]at he;cases he
      |some w=>
       rw[hq]at he;cases he;have hi:=(Yc.1 hq).1;refine⟨rfl,fun q hq=>?_⟩;obtain rfl:q=0:=by omega
       rw[T.get_fill,Xf,if_pos ⟨by omega,by omega⟩,List.getElem?_replicate,if_pos (by omega)];rfl⟩)
    refine⟨.tuple #[],_,S,L',P,⟨0,0,run _ ?_⟩,h4,h3,h⟩;unfold B4;rw[k1];simp only;rw[k2];simp only;have hb0:Za es.length 0=false:=by
     cases hb:Za es.length 0 with
     |false=>rfl
     |true=>exact absurd (Zv hb) hn0
    rw[hb0,cond_false,k3];simp only;rw[hj,rep_one];unfold wrN;rw[g2];simp only;have e2:Zb (0+(Z7 es.length z).length) m=true:=Z0 (by rw[Xf];omega);rw[e2,EW hz];rfl)
theorem WD.se{an:List Nat}{base i0:Nat}{NW:Hj}{Hs:Ni}{CK:List Chk}{K:Al→List Asn→List Asn→Prop}{x y:Operand}{u k i t:Nat}{v w:Value}{es:List (List Value)}{e vs:List Value}{ti:TI}{L':List Asn}{g:Option (Nat×Bool)}(he:es[i]? =some e)(h:WD E N ops an base l (i0+1) al L' P (Nj (an.getD i0 0) NW) (Hs++[(L',P)]) CK K)
  (hx:evl al x=some (.pointer (some ⟨(bs v).1,(bs v).2+i*k,none⟩)):=by rfl) (hy:evl al y=some w:=by rfl) (hc:w.cells.toList=vs:=by rfl) (hi:E.ty.get u=some ti:=by rfl) (hl:e.length=vs.length:=by rfl) (hsz:vs.length=ti.size:=by rfl) (ho:ones vs=true:=by rfl)
  (hu:Upd (Ow k v es) (Ow k v (es.set i vs)) (Nw (an.getD i0 0) NW++L) L':=by first|exact .z|exact .s .z|exact .s (.s .z)|exact .s (.s (.s .z))|exact .s (.s (.s (.s .z)))|exact .s (.s (.s (.s (.s .z))))|exact .s (.s (.s (.s (.s (.s .z)))))|exact .s (.s (.s (.s (.s (.s (.s .z))))))|exact .s (.s (.s (.s (.s (.s (.s (.s .z)))))))) (hg:gOk ops al g=true:=by rfl):WD E N ops an base (⟨none,.store u x y,t,pos,af,g⟩::l) i0 al L P NW Hs CK K:=by
 subst hc;exact WD.actE (alF:=fun _=>al) (Cn hg) rfl rfl (fun tm v ha=>⟨tm,by unfold Gq;rfl,ha⟩) (WO.se (j:=0) he (KF hl) hx hy hi hsz ho hu h)
end Go.Lx
namespace Go.Lx
open Go Go.Ax
variable {E:Env}{N:Nat}{ops l:List Oper}{al:Al}{L P:List Asn}{Q:Al→List Asn→List Asn→Prop}
noncomputable def yz(E:Env)(t:TypeId):Bool:=match E.ty.get t with
 |some i=>match i.desc with
  |.interface _=>false
  |_=>true
 |none=>false
theorem EL{t:TypeId}(h:yz E t=true):∃i,E.ty.get t=some i∧∀m,i.desc≠ .interface m:=by
 unfold yz at h;cases hi:E.ty.get t with
 |none=>rw[hi]at h;cases h
 |some i=>
  refine⟨i,rfl,fun m e=>?_⟩;rw[hi]at h;simp only at h;rw[e]at h;cases h
theorem Pu.mi{x:Operand}{t:TypeId}{v:Value}(hx:evl al x=some v:=by rfl)(ht:yz E t=true:=by rfl):Pu E al (.makeInterface t x) (.iface t v):=
 ⟨fun _ _ _=>rfl,fun tm s ha=>by
  obtain⟨i,h1,h2⟩:=EL ht;show Fu t x E tm s=_;unfold Fu;rw[h1,Gm ha hx];simp only⟩
theorem Pu.ta{x:Operand}{u t:TypeId}{v:Value}(hx:evl al x=some (.iface t v):=by rfl)(ht:yz E t=true:=by rfl):Pu E al (.typeAssert x u t false) v:=
 ⟨fun _ _ _=>rfl,fun tm s ha=>by
  obtain⟨i,h1,h2⟩:=EL ht;show Td x t false E tm s=_;unfold Td;rw[h1,Gm ha hx];simp only;rw[Yy];rfl⟩
theorem Zlg{f:FuncId}(hp:E.prim.get f=some jc)(t r:Nat)(es:List (Value×Value))(hm:In (Mp r es) L P):Sp E f [.iface t (.map (some r))] L P (fun v L' P'=>∃b,v=.iface t (.map (some b))∧L'=Mp b es::L∧P'=P):=
 Sp.prim hp (fun S s hs=>by
  obtain⟨U,⟨_,hg⟩,_⟩:=hm.holds hs;obtain⟨h1,h2⟩:=hs.new (A:=Mp s.nx es) (o:=.map es) (fun h hg=>⟨rfl,hg⟩);refine⟨.iface t (.map (some s.nx)),_,_,_,P,?_,h2,h1,s.nx,rfl,rfl,rfl⟩;unfold jc;simp only;rw[hg])
end Go.Lx
namespace Go.Lx
open Go Go.Ax
variable {E E':Env}{L P:List Asn}
open Classical in
noncomputable def Cp(E:Env)(f:FuncId)(args:List Value)(s:AS):Option (Value×AS):=
 if h:∃r:Value×AS,Rt E f args s r.1 r.2 then some h.choose else none
theorem Rt.one{f:FuncId}{args:List Value}{s s1 s2:AS}{v1 v2:Value}(h1:Rt E f args s v1 s1)(h2:Rt E f args s v2 s2):(v1,s1)=(v2,s2):=by
 obtain⟨F,D,e1⟩:=h1;obtain⟨G,H,e2⟩:=h2;have a:=Nh D (max D H) F (max F G) (by omega) (by omega) _ _ _ _ e1;have b:=Nh H (max D H) G (max F G) (by omega) (by omega) _ _ _ _ e2;exact Option.some.inj (a.symm.trans b)
theorem Zlh{f:FuncId}{args:List Value}{s s':AS}{v:Value}(h:Rt E f args s v s'):Cp E f args s=some (v,s'):=by
 have hx:∃r:Value×AS,Rt E f args s r.1 r.2:=⟨(v,s'),h⟩;unfold Cp;rw[dif_pos hx];exact congrArg some (Rt.one hx.choose_spec h)
theorem EP{P:Program}{f:FuncId}(hE:∀F D,Mz P (Gw E F D)):POk P f (Cp E f):=by
 intro args s v s' h i w args' hR hG hv;unfold Cp at h;split at h
 ·rename_i hx;obtain⟨F,D,e⟩:=hx.choose_spec;have h:=Option.some.inj h;rw[h]at e;exact hE F D f args s v s' e i w args' hR hG hv
 ·cases h
noncomputable def orP(p q:List Value→AS→Option (Value×AS))(args:List Value)(s:AS):Option (Value×AS):=match p args s with
 |some r=>some r
 |none=>q args s
theorem LZ{P:Program}{f:FuncId}{p q:List Value→AS→Option (Value×AS)}(hp:POk P f p)(hq:POk P f q):POk P f (orP p q):=by
 intro args s v s' h i w args' hR hG hv;unfold orP at h;cases hx:p args s with
 |some r=>
  rw[hx]at h;simp only[Option.some.injEq]at h;subst h;exact hp args s v s' hx i w args' hR hG hv
 |none=>
  rw[hx]at h;exact hq args s v s' h i w args' hR hG hv
theorem Sp.lim{f:FuncId}{p:List Value→AS→Option (Value×AS)}{args:List Value}{Q:Value→List Asn→List Asn→Prop}(hp:E'.prim.get f=some p)(he:∀s,p args s=Cp E f args s)(h:Sp E f args L P Q):Sp E' f args L P Q:=
 Sp.prim hp (fun S s hs=>by
  obtain⟨v,s1,S1,L1,P1,e,hr⟩:=h S s hs;exact⟨v,s1,S1,L1,P1,by rw[he s];exact Zlh e,hr⟩)
end Go.Lx
namespace Go.Lx
def cn(f:Nat→Bool):Nat→Nat
 |0=>0
 |n+1=>cn f n+(f n).toNat
theorem LY(f:Nat→Bool):∀n,cn f (n+1)=(f 0).toNat+cn (fun j=>f (j+1)) n
 |0=>by simp[cn]
 |n+1=>by
  show cn f (n+1)+(f (n+1)).toNat=(f 0).toNat+(cn (fun j=>f (j+1)) n+(f (n+1)).toNat);rw[LY f n,Ya]
theorem LX(f:Nat→Bool)(a:Nat):∀b,cn f (a+b)=cn f a+cn (fun j=>f (a+j)) b
 |0=>rfl
 |b+1=>by
  show cn f (a+b)+(f (a+b)).toNat=cn f a+(cn (fun j=>f (a+j)) b+(f (a+b)).toNat);rw[LX f a b,Ya]
theorem KQ{f g:Nat→Bool}:∀n,(∀j,j<n→f j=g j)→cn f n=cn g n
 |0,_=>rfl
 |n+1,h=>by
  show cn f n+(f n).toNat=cn g n+(g n).toNat;rw[KQ n (fun j hj=>h j (by omega)),h n (by omega)]
theorem LV(f:Nat→Bool):∀n,cn f n≤n
 |0=>Ze _
 |n+1=>by
  have:=LV f n;show cn f n+(f n).toNat≤n+1;cases f n<;>simp<;>omega
theorem KW(f:Nat→Bool)(n:Nat):∀d,cn f n≤cn f (n+d)
 |0=>Ze _
 |d+1=>Ye (KW f n d) (Nat.le_add_right ..)
theorem KL{f:Nat→Bool}(n:Nat):∀d,(∀j,n≤j→f j=false)→cn f (n+d)=cn f n
 |0,_=>rfl
 |d+1,h=>by
  show cn f (n+d)+(f (n+d)).toNat=cn f n;rw[KL n d h,h (n+d) (by omega)];rfl
theorem LU{f g:Nat→Bool}:∀n,(∀j,j<n→f j=true∨g j=true)→n≤cn f n+cn g n
 |0,_=>Zj _
 |n+1,h=>by
  have h1:=LU n (fun j hj=>h j (by omega));have h2:=h n (by omega);show n+1≤cn f n+(f n).toNat+(cn g n+(g n).toNat);rcases h2 with h2|h2<;>rw[h2]<;>simp<;>omega
theorem mh{f g:Nat→Bool}{b:Nat}(hb:f b=false)(hg:g b=true)(h:∀j,j≠b→g j=f j):∀n,cn g n=cn f n+(decide (b<n)).toNat
 |0=>by simp[cn]
 |n+1=>by
  show cn g n+(g n).toNat=cn f n+(f n).toNat+_;rw[mh hb hg h n];by_cases e:n=b
  ·subst e;rw[hb,hg];simp
  ·rw[h n e];by_cases hl:b<n
   ·rw[decide_eq_true hl,decide_eq_true (show b<n+1 by omega)];omega
   ·rw[decide_eq_false hl,decide_eq_false (show¬b<n+1 by omega)];simp
theorem LJ :∀n x,pop n x=cn (fun j=>x.testBit j) n
 |0,_=>rfl
 |n+1,x=>by
  rw[LY];show x%2+pop n (x/2)=_;rw[LJ n (x/2)];have e:(x.testBit 0).toNat=x%2:=by
   rw[K4];rcases Nat.mod_two_eq_zero_or_one x with h|h<;>simp[h]
  rw[e];congr 1;exact KQ n (fun j _=>by rw[K5])
def mem(us:List Nat)(b:Nat):Bool:=(us[b/64]?.getD 0).testBit (b%64)
def Ht(us:List Nat):Nat:=(us.map (pop 64)).sum
theorem LK{us:List Nat}{i:Nat}(h:i<us.length):Ht (us.take (i+1))=Ht (us.take i)+pop 64 us[i]:=by
 unfold Ht;rw[List.take_add_one,Zn h];simp only[Option.toList_some,Zp,Zr,List.map_nil,List.sum_append,Uo,List.sum_nil,Yg]
theorem KP(us:List Nat):Ht us≤64*us.length:=by
 unfold Ht
 induction us with
 |nil=>simp
 |cons u us ih=>
  have:=Df 64 u;simp only[Zr,Uo,Zf];omega
theorem LG(us:List Nat):∀i,i≤us.length→Ht (us.take i)=cn (mem us) (64*i)
 |0,_=>rfl
 |i+1,h=>by
  rw[LK (by omega),LG us i (by omega),show 64*(i+1)=64*i+64 by omega,LX,LJ];congr 1;refine KQ 64 (fun j hj=>?_);unfold mem;rw[show(64*i+j)/64=i by omega,show(64*i+j)%64=j by omega,Zn (show i<us.length by omega)];rfl
theorem B0(us:List Nat):Ht us=cn (mem us) (64*us.length):=by
 have:=LG us us.length (Ze _)
 rwa [Ul]at this
def Gp(us:List Nat)(b:Nat):List Nat:=us.set (b/64) ((us[b/64]?.getD 0)|||2^(b%64))
def My(us:List Nat)(b:Nat):List Nat:=us.set (b/64) ((us[b/64]?.getD 0)&&&(18446744073709551615-2^(b%64)))
theorem LH(us:List Nat)(b x:Nat)(hb:b/64<us.length)(j:Nat):mem (us.set (b/64) x) j=if j/64=b/64 then x.testBit (j%64)else mem us j:=by
 unfold mem;rw[Zsk];by_cases h:b/64=j/64
 ·rw[if_pos h,if_pos (by omega),if_pos h.symm];rfl
 ·rw[if_neg h,if_neg (fun e=>h e.symm)]
theorem Ii(us:List Nat)(b:Nat)(hb:b<64*us.length)(j:Nat):mem (Gp us b) j=(mem us j||decide (j=b)):=by
 unfold Gp;rw[LH us b _ (by omega)];by_cases h:j/64=b/64
 ·rw[if_pos h,Nat.testBit_or,Kh];unfold mem;rw[h];congr 1;by_cases e:j=b
  ·subst e;simp
  ·rw[decide_eq_false e,decide_eq_false (by omega)]
 ·rw[if_neg h,decide_eq_false (fun e=>h (by rw[e])),Bool.or_false]
theorem y6(us:List Nat)(b:Nat)(hb:b<64*us.length)(j:Nat):mem (My us b) j=(mem us j&& !decide (j=b)):=by
 unfold My;rw[LH us b _ (by omega)];by_cases h:j/64=b/64
 ·have h2:2^(b%64)<2^64:=Ju (by decide) (by omega);have e64:18446744073709551615-2^(b%64)=2^64-(2^(b%64)+1):=by omega
  rw[if_pos h,K0,e64,Nat.testBit_two_pow_sub_succ h2,Kh,decide_eq_true (show j%64<64 by omega),Bool.true_and];unfold mem;rw[h];congr 2;by_cases e:j=b
  ·subst e;simp
  ·rw[decide_eq_false e,decide_eq_false (by omega)]
 ·rw[if_neg h,decide_eq_false (fun e=>h (by rw[e])),Bool.not_false,Bool.and_true]
theorem LM{us:List Nat}{i x:Nat}(h:∀u∈us,u<18446744073709551616)(hx:x<18446744073709551616):∀u∈us.set i x,u<18446744073709551616:=fun u hu=>(List.mem_or_eq_of_mem_set hu).elim (h u) (fun e=>e▸hx)
theorem LN{us:List Nat}{b:Nat}(h:∀u∈us,u<18446744073709551616):∀u∈Gp us b,u<18446744073709551616:=by
 refine LM h ?_;have h2:2^(b%64)<2^64:=Ju (by decide) (by omega);have h1:us[b/64]?.getD 0<2^64:=by
  cases hq:us[b/64]? with
  |none=>decide
  |some u=>exact h u (Y8 hq)
 exact Jv h1 h2
theorem Zli{us:List Nat}{b:Nat}(h:∀u∈us,u<18446744073709551616):∀u∈My us b,u<18446744073709551616:=by
 refine LM h ?_;have h1:us[b/64]?.getD 0<2^64:=by
  cases hq:us[b/64]? with
  |none=>decide
  |some u=>exact h u (Y8 hq)
 exact V0 Zsi h1
theorem Zlj{x:Nat}(h0:x≠0)(hx:x<18446744073709551616):Lib.ctz 64 x<64∧x.testBit (Lib.ctz 64 x)=true∧∀j,j<Lib.ctz 64 x→x.testBit j=false:=by
 obtain⟨m,hm,hk⟩:=Lib.ctzFrom_spec 64 x (by omega) hx;have e:Lib.ctz 64 x=Lib.ctzFrom 64 x:=by unfold Lib.ctz;rw[if_neg h0]
 rw[e];refine⟨hk,?_,fun j hj=>?_⟩
 ·have:(2^Lib.ctzFrom 64 x*(2*m+1)).testBit (Lib.ctzFrom 64 x)=true:=by
   rw[Zsj];simp
  rw[←hm]at this;exact this
 ·have:(2^Lib.ctzFrom 64 x*(2*m+1)).testBit j=false:=by
   rw[Zsj];simp;omega
  rw[←hm]at this;exact this
end Go.Lx
namespace Go.Lx
open Go Go.Ax
variable {E:Env}{N:Nat}{ops l:List Oper}{al:Al}{L P:List Asn}{Q:Al→List Asn→List Asn→Prop}{pos:String}{af:Array Edge}
def TgF(e k:Nat)(v:Value)(h:T Gg):Prop:=∀a n c,v=.slice (some a) n c→(n=0∧c=1)∨(c%2=0∧∀t m z,h.get a.block=some (.cells t m z)→z=tz k e)
theorem mj{e k:Nat}{s:AS}{t:T Value}{m z n c:Nat}(hz:z=tz k e):TgF e k (.slice (some ⟨s.nx,0,none⟩) n (2*c)) (s.new (.cells t m z)).h:=by
 intro a n' c' h;cases h;refine .inr ⟨by omega,fun t' m' z' hg=>?_⟩;have hg:(s.h.set s.nx (.cells t m z)).get s.nx=some (.cells t' m' z'):=hg;rw[T.get_set_same]at hg;cases hg;exact hz
theorem Zlk{s:AS}{e:TypeId}{j:TI}{v w v':Value}{s':AS}(h:Ia s e j v w=some (v',s'))(ht:TgF e j.size v s.h):TgF e j.size v' s'.h:=by
 unfold Ia at h;cases hb:(Za j.size 0||Za j.bytes 0||Zb 524288 j.size)with
 |true=>rw[hb]at h;cases h
 |false=>
  rw[hb]at h;simp only[cond_false]at h;simp only[Vu]at hb;have hsm:j.size<524288:=by
   rcases Zt j.size 524288 with g|g
   ·exact g
   ·have:=hb.2;rw[Z0 g]at this;cases this
  have htz:=Nz (e:=e) hsm;split at h
  ·rename_i a n c m hm;split at h
   ·cases h;exact mj rfl
   ·split at h
    ·cases h
    ·rename_i new _;cases hm0:Za m 0 with
     |true=>rw[hm0]at h;cases h;exact ht
     |false=>
      rw[hm0]at h;simp only[cond_false]at h;have hmne:m≠0:=fun e=>by rw[e]at hm0;cases hm0
      cases hr:Zb (n+m) (c/2)with
      |true=>
       rw[hr]at h;simp only[cond_true]at h;have hr:=Yr hr;split at h
       ·cases h
       ·rename_i a;split at h
        ·cases h
        ·rename_i s1 hw;cases h;intro a' n' c' e';cases e';rcases ht a n c rfl with⟨_,hc⟩|⟨hc2,hz⟩
         ·omega
         refine .inr ⟨hc2,fun t m' z hg=>?_⟩;unfold wrN at hw;split at hw
         ·rename_i ct mm z0 hg0;have:=hz _ _ _ hg0;cases hbb:(Zb (a.off+n*j.size+new.length) mm&&ones new)with
          |false=>rw[hbb]at hw;cases hw
          |true=>
           rw[hbb]at hw;cases hw;have hg:(s.h.set a.block _).get a.block=some (.cells t m' z):=hg;rw[T.get_set_same]at hg;cases hg;exact this
         ·cases hw
      |false=>
       rw[hr]at h;simp only[cond_false]at h;cases hs:Zb ((n+m)*j.bytes) small with
       |false=>rw[hs]at h;cases h
       |true=>
        rw[hs]at h;simp only[cond_true]at h;split at h
        ·cases h;exact mj rfl
        ·rename_i a;cases hz0:(Za n 0&&Za (c%2) 1)with
         |true=>rw[hz0]at h;cases h;exact mj rfl
         |false=>
          rw[hz0]at h;simp only[cond_false]at h;split at h
          ·cases h
          ·split at h
           ·rename_i z hg;cases hc:Za (c%2) 1 with
            |true=>rw[hc]at h;cases h;exact mj rfl
            |false=>
             rw[hc]at h;simp only[cond_false]at h;cases hq:(Za (zs z) j.size&&ones new)with
             |false=>rw[hq]at h;cases h
             |true=>
              rw[hq]at h;cases h;have hz2:z=tz j.size e:=by
               rcases ht a n c rfl with⟨_,hc1⟩|⟨_,hz⟩
               ·rw[hc1]at hc;cases hc
               ·exact hz _ _ _ hg
              exact mj (s:=s.upd a.block .dead) (by unfold zg;rw[hz2,htz,Yy,cond_true];unfold tz;omega)
           ·cases h
  ·cases h
def OwF(e:TypeId)(k:Nat)(v:Value)(es:List (List Value)):Asn where
 p:=fun S h=>(Ow k v es).p S h∧TgF e k v h
 loc:=fun S h h' he ⟨h1,h2⟩=>⟨(Ow k v es).loc S h h' he h1,fun a n c hv=>by
  rcases h2 a n c hv with hl|⟨hc,hr⟩
  ·exact .inl hl
  ·rcases h1 with⟨_,a',c',g1,g2,g3⟩|⟨b,c',m,z,t,g1,g2,_⟩
   ·subst g1;cases hv;exact .inl ⟨rfl,g3.resolve_left (fun h=>by cases h)⟩
   ·subst g1;cases hv;refine .inr ⟨hc,fun t m z hg=>hr t m z ?_⟩;rw[←he _ g2];exact hg⟩
theorem OwF.sl{e:TypeId}{k:Nat}{v:Value}{es:List (List Value)}{S:Nat→Prop}{h:T Gg}(H:(OwF e k v es).p S h):(Sl k v es).p S h:=Ow.sl H.1
theorem WO.apf{x y:Operand}{ts:Array TypeId}{k t u:Nat}{e:TypeId}{j:TI}{v w:Value}{es fs:List (List Value)}{L':List Asn}{Q:Value→List Asn→List Asn→Prop}(hx:evl al x=some v)(hy:evl al y=some w)(h0:ts.toList=[t,u])(h1:slT E t=some (e,j))(h3:j.size=k)(h4:Za k 0=false)(h5:Za j.bytes 0=false)(h6:Zb 524288 k=false)
  (hr:Rem (OwF e k v es) L L') (hw:Src E k u w fs L P) (hn:(es.length+fs.length)*j.bytes≤1099511627776) (ho:∀f∈fs,ones f=true) (h:∀v',Q v' (OwF e k v' (es++fs)::L') P):WO E (.call ⟨.builtin .append, #[x,y],ts⟩) al L P Q:=by
 intro S s tm hs ha;obtain⟨q1,ui,g1,g2⟩:=hw;obtain⟨r1,r2,r3,r4⟩:=q1 S s hs;have hown:=hs.own.perm hr.perm;have htg:TgF e k v s.h:=by
  obtain⟨S1,S2,_,_,_,hz,_⟩:=hown;exact hz.2
 obtain⟨v',s',S',k1,k2,k3⟩:=yp (L':=L') (P:=P) ⟨hown.fst (fun _ h=>h.1),hs.per,hs.ex,hs.fresh⟩ r1 r2 r3 r4 h1 g1 g2 h3 h4 h5 h6 hn ho;obtain⟨i,f1,f2,f3⟩:=M3 h1;subst h3;have htg':=Zlk (by rw[←yk f1 f2 f3 g1 g2];exact k1) htg;exact⟨v',s',S',_,_,⟨0,0,lc ha hx hy h0 k1⟩,k2,⟨k3.own.fst (B:=OwF e j.size v' (es++fs)) (fun _ h=>⟨h,htg'⟩),k3.per,k3.ex,k3.fresh⟩,h v'⟩
theorem WR.apf{x y:Operand}{d p k t u:Nat}{e:TypeId}{j:TI}{v w:Value}{es fs:List (List Value)}{L':List Asn}(hw:Src E k u w fs L P)(h:∀v',WR E N ops l ((d,v')::al) (OwF e k v' (es++fs)::L') P Q)(hx:evl al x=some v:=by rfl)(hy:evl al y=some w:=by rfl)
  (hr:Rem (OwF e k v es) L L':=by first|exact .z|exact .s .z|exact .s (.s .z)|exact .s (.s (.s .z))|exact .s (.s (.s (.s .z))))
  (h1:slT E t=some (e,j):=by rfl) (h3:j.size=k:=by rfl) (h4:Za k 0=false:=by rfl) (h5:Za j.bytes 0=false:=by rfl) (h6:Zb 524288 k=false:=by rfl)
  (hn:(es.length+fs.length)*j.bytes≤1099511627776:=by(simp only[Zf,Zo];omega)) (ho:∀f∈fs,ones f=true:=by first|exact KU _|simp[Go.Ax.ones,Go.Ax.oneC]) (hN:Zb d N=true:=by rfl):WR E N ops (⟨some d,.call ⟨.builtin .append, #[x,y], #[t,u]⟩,p,pos,af,none⟩::l) al L P Q:=
 WR.op rfl rfl hN (WO.apf hx hy rfl h1 h3 h4 h5 h6 hr hw hn ho h)
theorem Ent.nonef{k:Nat}{e:TypeId}:Ent L P (OwF e k (.slice Option.none 0 0) []::L) P:=fun S s hs=>⟨S,fun _ h=>h,⟨⟨fun _=>False,S,fun _ h=>h.elim,fun _ h=>h,fun _ h _=>h.elim,⟨.inl ⟨rfl,_,_,rfl,by omega,.inl rfl⟩,fun a n c h=>by cases h⟩,hs.own⟩,hs.per,hs.ex,hs.fresh⟩⟩
end Go.Lx
namespace Go.Lx
open Go Go.Ax
variable {E:Env}{N:Nat}{ops l:List Oper}{al:Al}{L P:List Asn}{Q:Al→List Asn→List Asn→Prop}{pos:String}{af:Array Edge}
theorem LB{s:AS}{tm:Tm}{al:Al}{a:Option Addr}{n c u p q k:Nat}{lo hi:Option Operand}{e:TypeId}{j:TI}(ha:Has al tm)(hu:slT E u=some (e,j))(hk:j.size=k)(hp:bdl al 0 q lo p)(hq:bdl al n (c/2) hi q)(hqc:q≤c/2)(hor:c%2=1∨p=0∨Cw s a k=true):
  Bc E s tm u (.slice a n c) lo hi none=some (slc (.slice a n c) p q k):=by
 obtain⟨i,g1,g2,g3⟩:=M3 hu;have hb:Mn tm n (c/2) lo hi none=some (p,q,c/2):=by
  unfold Mn;simp only[Ji,Xp,cond_false];rw[show bnd tm (c/2) (c/2) none=some (c/2)from rfl];simp only;rw[D8 hq ha];simp only;rw[Z0 hqc];simp only[cond_true];rw[D8 hp ha]
 unfold Bc;rw[g1];simp only;rw[g2];simp only;rw[g3];simp only;rw[hb];simp only;have hor:(Zsl (Option.none:Option Operand)||Za (c%2) 1||Za p 0||Cw s a j.size)=true:=by
  rcases hor with h|h|h
  ·rw[h];simp
  ·subst h;simp
  ·rw[hk,h];simp
 rw[hor];simp only[cond_true];rw[hk];rfl
theorem Ld.sl{x:Operand}{lo hi:Option Operand}{u k p q:Nat}{v:Value}{es:List (List Value)}{e:TypeId}{j:TI}(hp:bdl al 0 q lo p)(hq:∀c,es.length≤c→bdl al es.length c hi q)(hqe:q≤es.length:=by omega)(hpq:p≤q:=by omega)(hx:evl al x=some v:=by rfl)(hu:slT E u=some (e,j):=by rfl)(hk:j.size=k:=by rfl):
  Ld E al (.slice u x lo hi none) (slc v p q k) (fun L P=>Gn k v es L P):=
 ⟨fun _ _ _=>rfl,fun tm ha L P S s s' hs he hm=>by
  obtain⟨a,c,rfl,h1,h2⟩:=hm.cut hs;show No u x lo hi none E tm s'=_;unfold No;rw[Gm ha hx];simp only;rw[LB ha hu hk hp (hq _ h1) (by omega) (by
   rcases h2 with h2|h2|h2
   ·exact .inr (.inl (by omega))
   ·exact .inl h2
   ·refine .inr (.inr ?_);unfold Cw at h2 ⊢;cases a with
    |none=>rfl
    |some a=>
     simp only at h2 ⊢;cases hg:s.h.get a.block with
     |none=>rw[hg]at h2;cases h2
     |some o=>rw[he _ _ hg];rw[hg]at h2;exact h2)]⟩
theorem bdn{al:Al}{d m n:Nat}{x:Operand}(hx:evl al x=some (.int .i64 (n:Nat)):=by rfl)(hn:n≤m:=by omega):bdl al d m (some x) n:=⟨_,_,hx,Yk _,Int.ofNat_le.2 hn,Yp _⟩
theorem Pu.sl3{x:Operand}{lo hi mx:Operand}{u k p q m n c:Nat}{a:Addr}{e:TypeId}{j:TI}(hm:m≤c/2)(hqm:q≤m)(hpq:p≤q)(hx:evl al x=some (.slice (some a) n c):=by rfl)(hlo:evl al lo=some (.int .i64 (p:Nat)):=by rfl)(hhi:evl al hi=some (.int .i64 (q:Nat)):=by rfl)(hmx:evl al mx=some (.int .i64 (m:Nat)):=by rfl)(hu:slT E u=some (e,j):=by rfl)(hk:j.size=k:=by rfl):
  Pu E al (.slice u x (some lo) (some hi) (some mx)) (.slice (some ⟨a.block,a.off+p*k,none⟩) (q-p) (2*(m-p)+1)):=
 ⟨fun _ _ _=>rfl,fun tm s ha=>by
  obtain⟨i,g1,g2,g3⟩:=M3 hu;show No u x (some lo) (some hi) (some mx) E tm s=_;unfold No;rw[Gm ha hx];simp only;have hb:Mn tm n (c/2) (some lo) (some hi) (some mx)=some (p,q,m):=by
   unfold Mn;simp only[Option.isSome_some,Option.isNone_some,Vq,cond_false];rw[D8 (bdn hmx hm) ha];simp only;rw[D8 (bdn hhi hqm) ha];simp only;rw[Z0 hqm];simp only[cond_true];rw[D8 (bdn hlo hpq) ha]
  have:Bc E s tm u (.slice (some a) n c) (some lo) (some hi) (some mx)=some (.slice (some ⟨a.block,a.off+p*k,none⟩) (q-p) (2*(m-p)+1)):=by
   unfold Bc;rw[g1];simp only;rw[g2];simp only;rw[g3];simp only;rw[hb];simp only;rw[hk];rfl
  rw[this]⟩
theorem WR.slb{x:Operand}{lo hi:Option Operand}{u k p q d t b n c:Nat}{es:List (List Value)}{e:TypeId}{j:TI}(hm:In (Ow k (.slice (some ⟨b,0,none⟩) n c) es) L P)(hp:bdl al 0 q lo p)(hq:bdl al n (c/2) hi q)(hqc:q≤c/2)(h:WR E N ops l ((d,slc (.slice (some ⟨b,0,none⟩) n c) p q k)::al) L P Q)(hx:evl al x=some (.slice (some ⟨b,0,none⟩) n c):=by rfl)(hu:slT E u=some (e,j):=by rfl)(hk:j.size=k:=by rfl)(hN:Zb d N=true:=by rfl):WR E N ops (⟨some d,.slice u x lo hi none,t,pos,af,none⟩::l) al L P Q:=
 WR.op rfl rfl hN (WO.see (fun call tm S s hs ha=>by
  obtain⟨U,hO,_⟩:=hm.holds hs;show No u x lo hi none E tm s=_;unfold No;rw[Gm ha hx];simp only;rw[LB ha hu hk hp hq hqc (by
   rcases hO with⟨rfl,a,c',e1,c1,c2⟩|⟨b',c',m,z,t',e1,g1,g2,g3,g4,g5,_⟩
   ·cases e1;rcases c2 with c2|c2
    ·cases c2
    ·exact .inl (by omega)
   ·injection e1 with e1 e2 e3
    injection e1 with e1
    injection e1 with e1
    subst e1 e3;rcases g5 with g5|g5
    ·exact .inl g5
    ·exact .inr (.inr (ED g2 g5)))]) h)
theorem y7{k:Nat}{v:Value}{es:List (List Value)}(h:In (Ow k v es) L P)(hne:es≠[])(S:Nat→Prop)(s:AS)(hs:Sat L P S s):∃b c,v=.slice (some ⟨b,0,none⟩) es.length c∧es.length≤c/2:=by
 obtain⟨U,h1,_⟩:=h.holds hs;rcases h1 with⟨h0,_⟩|⟨b,c,m,z,t,rfl,_,_,h4,_⟩
 ·exact absurd h0 hne
 ·exact⟨b,c,rfl,h4⟩
theorem Zll{k:Nat}{v:Value}{es:List (List Value)}{S U:Nat→Prop}{s:AS}(hs:Sat L P S s)(hU:∀b,U b→S b)(h:(Sl k v es).p U s.h):Sat [Sl k v es] [] U s:=
 ⟨⟨U,fun _=>False,fun _ h=>h,fun _ h=>h.elim,fun b _ h=>h,h,trivial⟩,fun A hA=>(by cases hA),fun b hb=>hs.ex b (hU b hb),hs.fresh⟩
theorem Zlm{s s':AS}{t u:TypeId}{e:TypeId}{j ui:TI}{a:Addr}{n c m:Nat}{y v':Value}(ht:slT E t=some (e,j))(hu:E.ty.get u=some ui)(hui:(∃e',ui.desc=.slice e')∨ui.desc=.string)(hm:Bq y=some m)(hr:n+m≤c/2)(h:Cx E s t u (.slice (some a) n c) y=some (v',s')):v'=.slice (some a) (n+m) c:=by
 obtain⟨i,g1,g2,g3⟩:=M3 ht;rw[yk g1 g2 g3 hu hui]at h;unfold Ia at h;cases hb:(Za j.size 0||Za j.bytes 0||Zb 524288 j.size)with
 |true=>rw[hb]at h;cases h
 |false=>
  rw[hb]at h;simp only[cond_false]at h;rw[hm]at h;simp only at h;have hsh:Di s j n c m y=none:=by
   unfold Di;have:Zh (c/2) m=false:=by
    cases hb:Zh (c/2) m with
    |false=>rfl
    |true=>rw[N7]at hb;omega
   rw[this];simp
  rw[hsh]at h;simp only at h;cases hs:B3 s j.size m y with
  |none=>rw[hs]at h;cases h
  |some new=>
   rw[hs]at h;simp only at h;cases hm0:Za m 0 with
   |true=>
    have:m=0:=Zv hm0;subst this;rw[hm0]at h;simp only[cond_true,Option.some.injEq,Prod.mk.injEq]at h;exact h.1.symm
   |false=>
    rw[hm0,Z0 hr]at h;simp only[cond_false,cond_true]at h;cases hw:wrN s a.block (a.off+n*j.size) new with
    |none=>rw[hw]at h;cases h
    |some s1=>
     rw[hw]at h;simp only[Option.some.injEq,Prod.mk.injEq]at h;exact h.1.symm
theorem WO.apself{x y:Operand}{ts:Array TypeId}{k t u i p b c:Nat}{e:TypeId}{j:TI}{es:List (List Value)}{L':List Asn}{Q:Value→List Asn→List Asn→Prop}(hx:evl al x=some (slc (.slice (some ⟨b,0,none⟩) es.length c) 0 i k))(hy:evl al y=some (slc (.slice (some ⟨b,0,none⟩) es.length c) p es.length k))(h0:ts.toList=[t,u])(h1:slT E t=some (e,j))(h3:j.size=k)(h4:Za k 0=false)(h5:Za j.bytes 0=false)(h6:Zb 524288 k=false)
  (hr:Rem (Ow k (.slice (some ⟨b,0,none⟩) es.length c) es) L L') (hui:dd E u=true) (hip:i≤p) (hp:p≤es.length) (hn:es.length*j.bytes≤1099511627776) (ho:∀f∈es,ones f=true) (h:Q (.slice (some ⟨b,0,none⟩) (i+(es.length-p)) c) (Ow k (.slice (some ⟨b,0,none⟩) (i+(es.length-p)) c) (es.take i++es.drop p)::L') P):WO E (.call ⟨.builtin .append, #[x,y],ts⟩) al L P Q:=by
 intro S s tm hs ha;have hown:=hs.own.perm hr.perm;obtain⟨S1,S2,q1,q2,q3,hO,hL⟩:=hown;have hle:es.length≤c/2:=by
  rcases hO with⟨rfl,_⟩|⟨b',c',m,z,tt,e1,_,_,g,_⟩
  ·exact Zj _
  ·cases e1;exact g
 have hsl:=Sl.part (Ow.sl hO) hp (Ze es.length);have hfs:(es.drop p).take (es.length-p)=es.drop p:=List.take_of_length_le (by rw[Z5];exact Ze _);rw[hfs]at hsl;obtain⟨w1,ui,f1,f2⟩:=Src.sl (E:=E) (L:=[Sl k (slc (.slice (some ⟨b,0,none⟩) es.length c) p es.length k) (es.drop p)]) (P:=[]) (.s (.l (.head _))) hui;obtain⟨r1,r2,r3,r4⟩:=w1 S1 s (Zll hs q1 hsl);have hs1:Sat (Ow k (slc (.slice (some ⟨b,0,none⟩) es.length c) 0 i k) (es.take i)::L') P S s:=⟨⟨S1,S2,q1,q2,q3,Ow.part hO (by omega),hL⟩,hs.per,hs.ex,hs.fresh⟩;have hlen:(es.take i).length+(es.drop p).length=i+(es.length-p):=by rw[Zq,Z5];omega
 obtain⟨v',s',S',k1,k2,k3⟩:=yp hs1 r1 r2 r3 r4 h1 f1 f2 h3 h4 h5 h6 (by
  rw[hlen];exact Ye (Yo _ (by omega)) hn) (fun f hf=>ho f (List.mem_of_mem_drop hf))
 have hx2:slc (.slice (some ⟨b,0,none⟩) es.length c) 0 i k=.slice (some ⟨b,0,none⟩) i c:=by
  unfold slc;simp only[Option.map_some,Xh,Yg,Yl];congr 1;omega
 have hv:v'=.slice (some ⟨b,0,none⟩) (i+(es.length-p)) c:=by
  have k1':=k1;rw[hx2]at k1';have:=Zlm h1 f1 f2 r3 (by rw[Z5];omega) k1';rw[Z5]at this;exact this
 subst hv;exact⟨_,s',S',_,_,⟨0,0,lc ha hx hy h0 k1⟩,k2,k3,h⟩
theorem LC{z:List Value}:∀n,(rep n z).length=n*z.length
 |0=>by rw[Xh];rfl
 |n+1=>by
  show(z++rep n z).length=_;rw[List.length_append,LC n,Vf,Vi]
theorem GZ :∀ {a b:List Value},ones a=true→ones b=true→ones (a++b)=true
 |[],b,_,h=>h
 |x::a,b,h,h2=>by
  unfold ones at h;simp only[Zi]at h;show(oneC x&&ones (a++b))=true;rw[h.1,GZ h.2 h2];rfl
theorem LD{z:List Value}(hz:ones z=true):∀n,ones (rep n z)=true
 |0=>rfl
 |n+1=>GZ hz (LD hz n)
theorem WR.clrt{x:Operand}{ts:Array TypeId}{u k b n c o r cc t:Nat}{e:TypeId}{j:TI}{es:List (List Value)}(h:WR E N ops l al L P Q)(hm:Upd (Ow k (.slice (some ⟨b,0,none⟩) n c) es) (Ow k (.slice (some ⟨b,0,none⟩) n c) es) L L)(ho:es.length*k≤o)(hr:o+r*k≤c/2*k)(hne:es≠[]∨2≤c)
  (hx:evl al x=some (.slice (some ⟨b,o,none⟩) r cc):=by rfl) (ht:ts.toList.head? =some u:=by rfl) (hu:slT E u=some (e,j):=by rfl) (hk:j.zero.length=k:=by rfl) (hz:ones j.zero=true:=by rfl):WR E N ops (⟨none,.call ⟨.builtin .clear, #[x],ts⟩,t,pos,af,none⟩::l) al L P Q:=
 WR.op0 rfl rfl (fun S s tm hs ha=>by
  obtain⟨i,k1,k2,k3⟩:=M3 hu;have hts:ts.toList=u::ts.toList.tail:=by
   cases h':ts.toList with
   |nil=>rw[h']at ht;cases ht
   |cons a l=>rw[h']at ht;cases ht;rfl
  have hxs:Me al #[x].toList=some [.slice (some ⟨b,o,none⟩) r cc]:=by
   show Me al [x]=_;unfold Me;rw[hx];rfl
  have run:∀q,B4 E s u (.slice (some ⟨b,o,none⟩) r cc)=q→Hb (.call ⟨.builtin .clear, #[x],ts⟩) E (Gw E 0 0) tm s=q:=fun q hq=>
   If ha hxs (by rw[hts];exact hq)
  by_cases hr0:r=0
  ·subst hr0;refine⟨.tuple #[],s,S,L,P,⟨0,0,run _ ?_⟩,.refl _ _,hs,h⟩;unfold B4;rw[k1];simp only;rw[k2];rfl
  ·obtain⟨U,hO,_⟩:=(In.l hm.mem:In _ L P).holds hs;rcases hO with⟨h0,a,c',e1,c1,_⟩|⟨b',c',m,z,tt,e1,g1,g2,g3,g4,g5,g6⟩
   ·exfalso;cases e1;rcases hne with hne|hne
    ·exact hne h0
    ·omega
   ·injection e1 with e1 e2 e3
    injection e1 with e1
    injection e1 with e1
    subst e1 e3;have hn:n=es.length:=e2;obtain⟨h3,h4⟩:=hs.upd hm (b:=b) (fun U h hp=>by
     rcases hp with⟨h0,a,c',e1,c1,_⟩|⟨b',c',m',z',t',e1,g1',_⟩
     ·exfalso;cases e1;rcases hne with hne|hne
      ·exact hne h0
      ·omega
     ·injection e1 with e1 _ _
      injection e1 with e1
      injection e1 with e1
      subst e1;exact g1') (o:=.cells (tt.fill o (rep r j.zero)) m z) (fun h hg=>.inr ⟨b,c,m,z,_,by rw[hn],rfl,hg,g3,g4,g5,fun i e he=>by
      obtain⟨w1,w2⟩:=g6 i e he;refine⟨w1,fun q hq=>?_⟩;rw[T.get_fill,if_neg,w2 q hq];have hi:=(Yc.1 he).1;have:(i+1)*k≤es.length*k:=Yo _ hi;rw[Vf]at this;omega⟩)
    refine⟨.tuple #[],_,S,L,P,⟨0,0,run _ ?_⟩,h4,h3,h⟩;unfold B4;rw[k1];simp only;rw[k2];simp only;have hb0:Za r 0=false:=by
     cases hb:Za r 0 with
     |false=>rfl
     |true=>exact absurd (Zv hb) hr0
    rw[hb0,cond_false,k3];simp only;unfold wrN;rw[g2];simp only;have e2:Zb (o+(rep r j.zero).length) m=true:=Z0 (by rw[LC,hk];omega);rw[e2,LD hz];rfl)
theorem In.bel{A B:Asn}{L P:List Asn}(h:In A L P):In A (B::L) P:=by
 cases h with
 |l h=>exact .l (.tail _ h)
 |p h=>exact .p h
theorem Gn.bel{k:Nat}{v:Value}{es:List (List Value)}{B:Asn}{L P:List Asn}(h:Gn k v es L P):Gn k v es (B::L) P:=by
 cases h with
 |s h=>exact .s h.bel
 |o h=>exact .o h.bel
 |r h=>exact .r h.bel
 |f hF h=>exact .f hF h.bel
theorem Pu.cap0{x:Operand}{ts:Array TypeId}{u n c:Nat}{e:TypeId}{j:TI}(hx:evl al x=some (.slice none n c):=by rfl)(ht:ts.toList.head? =some u:=by rfl)(hu:slT E u=some (e,j):=by rfl):Pu E al (.call ⟨.builtin .cap, #[x],ts⟩) (.int .i64 0):=
 ⟨fun _ _ _=>rfl,fun tm s ha=>by
  obtain⟨i,g1,g2,g3⟩:=M3 hu;have hts:ts.toList=u::ts.toList.tail:=by
   cases h':ts.toList with
   |nil=>rw[h']at ht;cases ht
   |cons a l=>rw[h']at ht;cases ht;rfl
  have hxs:Me al #[x].toList=some [.slice none n c]:=by
   show Me al [x]=_;unfold Me;rw[hx];rfl
  refine If ha hxs ?_;rw[hts];show(match fk E u (.slice none n c)with
   |none=>none
   |some v=>some (v,s))=_
  unfold fk;rw[g1];simp only;rw[g2]⟩
theorem Ent.hd{A B:Asn}(h:∀S t,A.p S t→B.p S t):Ent (A::L) P (B::L) P:=fun S s hs=>⟨S,fun _ h=>h,⟨hs.own.fst (fun S=>h S s.h),hs.per,hs.ex,hs.fresh⟩⟩
theorem Ent.ofF{e:TypeId}{k:Nat}{v:Value}{es:List (List Value)}:Ent (OwF e k v es::L) P (Ow k v es::L) P:=Ent.hd (fun _ _ h=>h.1)
theorem Zln{z:List Value}{n:Nat}:(Z7 n z).flatten=rep n z:=by
 induction n with
 |zero=>rfl
 |succ n ih=>rw[Jb,List.flatten_cons,ih];rfl
theorem WR.apzero{x y:Operand}{ts:Array TypeId}{d t u k m p:Nat}{e:TypeId}{j ui:TI}{c0:Nat}{ki:IntKind}(hm:m≠0)(h:∀b,WR E N ops l ((d,.slice (some ⟨b,0,none⟩) m (2*m))::al) (OwF e k (.slice (some ⟨b,0,none⟩) m (2*m)) (Z7 m j.zero)::L) P Q)
  (hx:evl al x=some (.slice none 0 c0):=by rfl) (hy:evl al y=some (.int .i64 (m:Nat)):=by rfl) (h0:ts.toList=[t,u]:=by rfl) (h1:slT E t=some (e,j):=by rfl) (hu:E.ty.get u=some ui:=by rfl) (hui:ui.desc=.int ki:=by rfl) (h3:j.size=k:=by rfl) (hz:j.zero.length=k:=by rfl) (h4:Za k 0=false:=by rfl) (h5:Za j.bytes 0=false:=by rfl) (h6:Zb 524288 k=false:=by rfl)
  (hn:m*j.bytes≤1099511627776:=by omega) (hN:Zb d N=true:=by rfl):WR E N ops (⟨some d,.call ⟨.builtin .append, #[x,y],ts⟩,p,pos,af,none⟩::l) al L P Q:=
 WR.op rfl rfl hN (fun S s tm hs ha=>by
  obtain⟨i,g1,g2,g3⟩:=M3 h1;have hk0:k≠0:=fun e=>by subst e;cases h4
  have hb1:1≤j.bytes:=by
   rcases Nat.eq_zero_or_pos j.bytes with e|e
   ·rw[e]at h5;cases h5
   ·exact e
  have hml:(Z7 m j.zero).length=m:=Xf ..;have hfl:∀f∈Z7 m j.zero,f.length=k:=fun f hf=>by rw[List.eq_of_mem_replicate hf];exact hz
  have hk1:k<524288:=by
   rcases Zt k 524288 with g|g
   ·exact g
   ·rw[Z0 g]at h6;cases h6
  obtain⟨w1,w2⟩:=hs.new (A:=OwF e k (.slice (some ⟨s.nx,0,none⟩) m (2*m)) (Z7 m j.zero)) (o:=.cells (T.e.fill 0 (rep m j.zero)) (rep m j.zero).length (tz k e)) (fun h hg=>by
   refine⟨?_,fun a n c hv=>?_⟩
   ·rw[←Zln,Nk hfl]at hg;have:=Dd (k:=k) (es:=Z7 m j.zero) (c:=2*m) (.inr ⟨by rw[hml],Na hk1⟩) (Co hfl) h hg;rw[hml]at this;exact this
   ·cases hv;refine .inr ⟨by omega,fun t m' z hg'=>?_⟩;rw[hg]at hg';cases hg';rfl)
  refine⟨_,_,_,_,P,⟨0,0,lc ha hx hy h0 ?_⟩,w2,w1,h s.nx⟩;unfold Cx;rw[g1,hu];simp only;rw[g2,hui];simp only;unfold zt;rw[g3];show(bif Za j.size 0||Za j.bytes 0||Za m 0||Zb 524288 j.size then none else
   bif Zb (m*j.bytes) small&&Zb m small then some (Value.slice (some ⟨s.nx,0,none⟩) m (2*m),s.rowz (tz j.size e) (rep m j.zero))else none)=_
  have hm0:Za m 0=false:=by
   cases hb:Za m 0 with
   |false=>rfl
   |true=>exact absurd (Zv hb) hm
  have hms:m≤1099511627776:=Ye (Nat.le_mul_of_pos_right m hb1) hn;rw[h3,h4,h5,hm0,h6,Z0 (by unfold small;exact hn),Z0 (by unfold small;exact hms)];rfl)
theorem WR.bl0{u d t k:Nat}{e e':TypeId}{j:TI}{ps:Array (Nat×Operand)}(h:∀b,WR E N ops l ((d,.slice (some ⟨b,0,none⟩) 0 1)::al) (OwF e k (.slice (some ⟨b,0,none⟩) 0 1) []::L) P Q)(hps:ps= #[]:=by rfl)(hu:slT E u=some (e',j):=by rfl)(hN:Zb d N=true:=by rfl):WR E N ops (⟨some d,.buildSlice u 0 ps,t,pos,af,none⟩::l) al L P Q:=
 WR.op rfl rfl hN (fun S s tm hs ha=>by
  subst hps;obtain⟨i,g1,g2,g3⟩:=M3 hu;obtain⟨w1,w2⟩:=hs.new (A:=OwF e k (.slice (some ⟨s.nx,0,none⟩) 0 1) []) (o:=.cells (T.e.fill 0 []) 0 0) (fun h hg=>by
   refine⟨.inl ⟨rfl,_,_,rfl,by omega,.inr rfl⟩,fun a n c hv=>?_⟩;cases hv;exact .inl ⟨rfl,rfl⟩)
  refine⟨_,_,_,_,P,⟨0,0,?_⟩,w2,w1,h s.nx⟩;show N1 u 0 #[] E tm s=_;unfold N1;rw[g1];show(match i.desc with
   |.slice e=>match E.ty.get e with
    |none=>none
    |some j=>bif Zb (0*j.size) 65536 then(match Cv (fun k=>some (k*j.size,j.size)) (rep 0 j.zero) []with
     |none=>none
     |some cs=>some (Value.slice (some ⟨s.nx,0,none⟩) 0 (2*0+1),(s.row cs).2))else none
   |_=>none)=_
  rw[g2];simp only;rw[g3];simp only;rw[Xh];rfl)
end Go.Lx
namespace Go.Lx
open Go Go.Ax
variable {E:Env}{N:Nat}{ops l:List Oper}{al:Al}{L P:List Asn}{Q:Al→List Asn→List Asn→Prop}
noncomputable def cbK(E:Env)(a b:TypeId):Bool:=match E.ty.get a,E.ty.get b with
 |some _,some di=>(match di.desc with
  |.slice e=>(match E.ty.get e with
   |some ⟨.int .u8,_,_,_⟩=>true
   |_=>false)
  |_=>false)
 |_,_=>false
theorem WO.cb{x:Operand}{a b:TypeId}{bs:Bs}{Q:Value→List Asn→List Asn→Prop}(hx:evl al x=some (S bs))(hk:cbK E a b=true)(h:∀q:Nat,Q (.slice (some ⟨q,0,none⟩) bs.length (2*bs.length)) (Ow 1 (.slice (some ⟨q,0,none⟩) bs.length (2*bs.length)) (byL bs)::L) P):WO E (.convert a b x) al L P Q:=by
 intro S0 s tm hs ha;have hfl:∀e∈byL bs,e.length=1:=fun e he=>by
  obtain⟨c,_,rfl⟩:=Zl.1 he;rfl
 have hlen:(byL bs).flatten.length=(byL bs).length*1:=Nk hfl;have hbl:(byL bs).length=bs.length:=M4 bs;obtain⟨h1,h2⟩:=hs.new (A:=Ow 1 (.slice (some ⟨s.nx,0,none⟩) bs.length (2*bs.length)) (byL bs)) (o:=.cells (T.e.fill 0 (byL bs).flatten) (byL bs).flatten.length 3) (fun h hg=>by
  rw[hlen]at hg;rw[←hbl];exact Dd (k:=1) (z:=3) (.inr ⟨rfl,rfl⟩) (Co hfl) h hg)
 refine⟨_,_,_,_,P,⟨0,0,?_⟩,h2,h1,h s.nx⟩;show N2 a b x E tm s=_;unfold N2;rw[Gm ha hx];show Cy E s a b (S bs)=_;unfold cbK at hk;unfold Cy;cases hsi:E.ty.get a with
 |none=>rw[hsi]at hk;cases hk
 |some si=>
  cases hdi:E.ty.get b with
  |none=>rw[hsi,hdi]at hk;cases hk
  |some di=>
   rw[hsi,hdi]at hk;simp only at hk ⊢;cases hd:di.desc with
   |slice e=>
    rw[hd]at hk;simp only at hk ⊢;cases he:E.ty.get e with
    |none=>rw[he]at hk;cases hk
    |some ei=>
     rw[he]at hk;obtain⟨d,z,y,w⟩:=ei;cases d with
     |int k=>
      cases k with
      |u8=>
       simp only;have e1:(S bs:Value)=.string ⟨⟨bs⟩⟩:=rfl;have e2:GC ⟨⟨bs⟩⟩=(byL bs).flatten:=(KV bs).symm;have e3:(⟨⟨bs⟩⟩:ByteArray).size=bs.length:=rfl;rw[e2,e3];rfl
      |_=>cases hk
     |_=>cases hk
   |_=>rw[hd]at hk;cases hk
section
variable {an:List Nat}{base i:Nat}{NW:Hj}{Hs:Ni}{CK:List Chk}{K:Al→List Asn→List Asn→Prop}
theorem WD.cb{x:Operand}{d t a b:Nat}{pos:String}{af:Array Edge}{g:Option (Nat×Bool)}{bs:Bs}(h:∀q:Nat,WD E N ops an base l (i+1) ((d,.slice (some ⟨q,0,none⟩) bs.length (2*bs.length))::al) (Ow 1 (.slice (some ⟨q,0,none⟩) bs.length (2*bs.length)) (byL bs)::(Nw (an.getD i 0) NW++L)) P (Nj (an.getD i 0) NW) (Hs++[(Ow 1 (.slice (some ⟨q,0,none⟩) bs.length (2*bs.length)) (byL bs)::(Nw (an.getD i 0) NW++L),P)]) CK K)
  (hx:evl al x=some (S bs):=by rfl) (hk:cbK E a b=true:=by rfl) (he:eff E.ty (.convert a b x)=true:=by rfl) (hg:gOk ops al g=true:=by rfl) (hN:Zb d N=true:=by rfl):WD E N ops an base (⟨some d,.convert a b x,t,pos,af,g⟩::l) i al L P NW Hs CK K:=
 WD.wo (WO.cb hx hk h) hg rfl he hN
end
theorem Ent.fst{A B:Asn}(hAB:∀S h,A.p S h→B.p S h):Ent (A::L) P (B::L) P:=fun S s hs=>⟨S,fun _ h=>h,⟨hs.own.fst (fun S h=>hAB S _ h),hs.per,hs.ex,hs.fresh⟩⟩
end Go.Lx
namespace Go.Lx
open Go Go.Ax
variable {E:Env}{L P:List Asn}
def Blk(b:Nat)(o:Gg):Asn where
 p:=fun S h=>S b∧h.get b=some o
 loc:=fun S h h' e ⟨h1,h2⟩=>⟨h1,by rw[e b h1];exact h2⟩
theorem LF :∀(l:List (Nat×OS)) (S:Nat→Prop) (h:T Gg),(∀x∈l,S x.1∧h.get x.1=some x.2.mk)→(l.map (·.1)).Nodup→Own (l.map fun x=>Blk x.1 x.2.mk) S h
 |[],_,_,_,_=>trivial
 |x::l,S,h,hx,hn=>by
  have hn:=Yz.1 hn;obtain⟨h1,h2⟩:=hx x (Zm ..);refine⟨fun b=>b=x.1,fun b=>S b∧b≠x.1,fun b hb=>hb▸h1,fun b hb=>hb.1,fun b hb hb2=>hb2.2 hb,⟨rfl,h2⟩,LF l _ h (fun y hy=>?_) hn.2⟩;obtain⟨h3,h4⟩:=hx y (Zs _ hy);exact⟨⟨h3,fun e=>hn.1 (Zl.2 ⟨y,hy,e⟩)⟩,h4⟩
structure mp(m:MS):Prop where
 at_:∀x∈m.post,m.nx≤x.1∧x.1<m.nx'
 nd:(m.post.map (·.1)).Nodup
 le:m.nx≤m.nx'
theorem Zlo{m:MS}(h:mp m){k:Nat}{x:Nat×OS}(hx:x∈m.laid k):∃y∈m.post,x=(k+(y.1-m.nx),bf m.nx k y.2):=by
 obtain⟨y,hy,rfl⟩:=Zl.1 hx;exact⟨y,hy,by rw[jq (h.at_ y hy).1]⟩
theorem LR{m:MS}(h:mp m)(k:Nat):((m.laid k).map (·.1)).Nodup:=by
 unfold MS.laid;rw[List.map_map];have h2:=h.nd;have:∀(l:List (Nat×OS)),(∀x∈l,m.nx≤x.1)→(l.map (·.1)).Nodup→(l.map ((fun x:Nat×OS=>x.1) ∘ fun x=>(rn m.nx k x.1,bf m.nx k x.2))).Nodup:=by
  intro l
  induction l with
  |nil=>intro _ _;exact U8
  |cons x l ih=>
   intro h1 h2;obtain⟨h3,h4⟩:=Yz.1 h2;refine Yz.2 ⟨fun e=>?_,ih (fun y hy=>h1 y (Zs _ hy)) h4⟩;obtain⟨y,hy,he⟩:=Zl.1 e;have he:rn m.nx k y.1=rn m.nx k x.1:=he;have hx1:=h1 x (Zm ..);have hy1:=h1 y (Zs _ hy);rw[jq hx1,jq hy1]at he;exact h3 (Zl.2 ⟨y,hy,show y.1=x.1 by omega⟩)
 exact this m.post (fun x hx=>(h.at_ x hx).1) h2
theorem Sat.lay{m:MS}(h:mp m){S:Nat→Prop}{s:AS}(hs:Sat L P S s):Sat (((m.laid s.nx).map fun x=>Blk x.1 x.2.mk)++L) P (fun b=>S b∨∃x∈m.laid s.nx,x.1=b) (m.leftW s)∧Tr S s (fun b=>S b∨∃x∈m.laid s.nx,x.1=b) (m.leftW s):=by
 have hin:∀x∈m.laid s.nx,s.nx≤x.1∧x.1<s.nx+(m.nx'-m.nx):=fun x hx=>by
  obtain⟨y,hy,rfl⟩:=Zlo h hx;have:=h.at_ y hy;exact⟨by show s.nx≤s.nx+_;omega,by show s.nx+(y.1-m.nx)<_;omega⟩
 have hget:∀b,(∃x∈m.laid s.nx,x.1=b∧(m.leftW s).h.get b=some x.2.mk)∨((∀x∈m.laid s.nx,x.1≠b)∧(m.leftW s).h.get b=s.h.get b):=fun b=>by
  rcases T.lay_get s.h (mkL (m.laid s.nx)) b with⟨o,h1,h2⟩|⟨h1,h2⟩
  ·obtain⟨x,h3,rfl⟩:=Cb h1;exact .inl ⟨(b,x),h3,rfl,h2⟩
  ·exact .inr ⟨fun x hx e=>h1 x.2.mk (by rw[←e];exact Cc hx),h2⟩
 have hone:∀x∈m.laid s.nx,(m.leftW s).h.get x.1=some x.2.mk:=fun x hx=>by
  rcases hget x.1 with⟨y,hy,e,h2⟩|⟨h1,_⟩
  ·have nd:=LR h s.nx;have:y=x:=by
    have key:∀(l:List (Nat×OS)),(l.map (·.1)).Nodup→∀a∈l,∀b∈l,a.1=b.1→a=b:=by
     intro l
     induction l with
     |nil=>intro _ a ha;cases ha
     |cons z l ih=>
      intro hn a ha b hb hab;obtain⟨n1,n2⟩:=Yz.1 hn;rcases Zg.1 ha with ha2|ha2
      ·rcases Zg.1 hb with hb2|hb2
       ·rw[ha2,hb2]
       ·subst ha2;exact absurd (Zl.2 ⟨b,hb2,hab.symm⟩) n1
      ·rcases Zg.1 hb with hb2|hb2
       ·subst hb2;exact absurd (Zl.2 ⟨a,ha2,hab⟩) n1
       ·exact ih n2 a ha2 b hb2 hab
    exact key _ nd y hy x hx e
   subst this;exact h2
  ·exact absurd rfl (h1 x hx)
 have hlow:∀b,b<s.nx→(m.leftW s).h.get b=s.h.get b:=fun b hb=>by
  rcases hget b with⟨x,hx,e,_⟩|⟨_,h2⟩
  ·have:=hin x hx;omega
  ·exact h2
 have hdis:∀b,S b→(∃x∈m.laid s.nx,x.1=b)→False:=fun b hb ⟨x,hx,e⟩=>by
  have:=hs.lt b hb;have:=hin x hx;omega
 have htr:Tr S s (fun b=>S b∨∃x∈m.laid s.nx,x.1=b) (m.leftW s):=⟨by show s.nx≤s.nx+_;omega,fun b hb _=>hlow b hb,fun b hb=>hb.imp id (fun⟨x,hx,e⟩=>by have:=hin x hx;omega),fun b hb=>by rw[hlow b (hs.low hb)];exact hb⟩;have hown:Own (((m.laid s.nx).map fun x=>Blk x.1 x.2.mk)++L) (fun b=>S b∨∃x∈m.laid s.nx,x.1=b) (m.leftW s).h:=Own.join (S1:=fun b=>∃x∈m.laid s.nx,x.1=b) (S2:=S) (fun b hb=>.inr hb) (fun b hb=>.inl hb) (fun b x y=>hdis b y x) (LF _ _ _ (fun x hx=>⟨⟨x,hx,rfl⟩,hone x hx⟩) (LR h s.nx)) (hs.own.loc (fun b hb=>hlow b (hs.lt b hb)));refine⟨⟨hown,fun A hA=>htr.per hs.fresh (hs.per A hA),fun b hb=>?_,fun b hb=>?_⟩,htr⟩
 ·rcases hb with hb|⟨x,hx,rfl⟩
  ·rw[hlow b (hs.lt b hb)];exact hs.ex b hb
  ·rw[hone x hx];simp
 ·have hb:s.nx+(m.nx'-m.nx)≤b:=hb;rcases hget b with⟨x,hx,e,_⟩|⟨_,h2⟩
  ·have:=hin x hx;omega
  ·rw[h2];exact hs.fresh b (by omega)
theorem Sp.made{f:FuncId}{args:List Value}{p:List Value→AS→Option (Value×AS)}{m:MS}(hp:E.prim.get f=some p)(hm:mp m)(hv:∀S s,Sat L P S s→p args s=some (ren m.nx s.nx m.ans,m.leftW s)){Q:Value→List Asn→List Asn→Prop}(h:∀k,∃L' P',Ent (((m.laid k).map fun x=>Blk x.1 x.2.mk)++L) P L' P'∧Q (ren m.nx k m.ans) L' P'):Sp E f args L P Q:=
 Sp.prim hp (fun S s hs=>by
  obtain⟨h1,h2⟩:=Sat.lay hm hs;obtain⟨L',P',h3,h4⟩:=h s.nx;obtain⟨S2,h5,h6⟩:=h3 _ _ h1;exact⟨_,_,S2,L',P',hv S s hs,h2.trans (Ru h5),h6,h4⟩)
theorem Rz{m:MS}{ms:List MS}{els:List Value→AS→R}{args:List Value}{s:AS}(h:Cd m args s=true):Ce (m::ms) els args s=some (ren m.nx s.nx m.ans,m.leftW s):=by
 show @Bool.rec (fun _=>R) (Ce ms els args s) (some (ren m.nx s.nx m.ans,m.leftW s)) (Cd m args s)=_;rw[h]
theorem Hv{m:MS}{ms:List MS}{els:List Value→AS→R}{args:List Value}{s:AS}(h:eqL m.args args=false):Ce (m::ms) els args s=Ce ms els args s:=by
 show @Bool.rec (fun _=>R) (Ce ms els args s) (some (ren m.nx s.nx m.ans,m.leftW s)) (Cd m args s)=_;have:Cd m args s=false:=by
  unfold Cd;rw[h];cases Zb m.nx s.nx<;>rfl
 rw[this]
theorem dq{b z n:Nat}{cs:List Value}(hn:n=cs.length){S:Nat→Prop}{h:T Gg}(H:(Blk b (OS.cells cs n z).mk).p S h):(Pt b cs z).p S h:=by
 subst hn;refine⟨H.1,_,H.2,fun k hk=>?_⟩;rw[T.get_fill,if_pos ⟨Zj _,by omega⟩,Yl]
theorem LQ{b:Nat}{es:List (Value×Value)}{S:Nat→Prop}{h:T Gg}(H:(Blk b (OS.map es).mk).p S h):(Mp b es).p S h:=H
theorem mq{b z n c k:Nat}{es:List (List Value)}{cs:List Value}(hk:∀e∈es,e.length=k)(he:cs=es.flatten)(hn:n=es.length*k)(hc:c=2*es.length+1){S:Nat→Prop}{h:T Gg}(H:(Blk b (OS.cells cs n z).mk).p S h):(Ow k (.slice (some ⟨b,0,none⟩) es.length c) es).p S h:=by
 subst he hn hc;refine .inr ⟨b,_,_,z,_,rfl,H.1,H.2,by omega,?_,.inl (by omega),Co hk⟩;rw[show(2*es.length+1)/2=es.length by omega];exact Ze _
end Go.Lx
namespace Go.Lx
open Go Go.Ax
variable {E:Env}{L P:List Asn}
def Top :Asn:=⟨fun S h=>S 1000,fun _ _ _ _ h=>h⟩
def RoN(b:Nat)(vs:List Value):Asn where
 p:=fun S h=>S b∧∃t,h.get b=some (.ro t vs.length)∧∀(k:Nat) (v:Value),vs[k]? =some v→t.get k=some v
 loc:=fun S h h' e ⟨h1,t,h2,h3⟩=>⟨h1,t,by rw[e b h1];exact h2,h3⟩
theorem Top.nx{L P:List Asn}(h:Top∈P){S:Nat→Prop}{s:AS}(hs:Sat L P S s):1001≤s.nx:=by
 obtain⟨U,hu,hk⟩:=hs.per _ h;exact hs.low (hk 1000 hu).2
theorem mr{a b:Bool}(ha:a=true)(hb:b=true):Gz a b=true:=by subst ha hb;rfl
theorem LW{c:T Value}:∀ {l:List Value} {k:Nat},(∀v∈l,eqV v v=true)→(∀(j:Nat) (v:Value),l[j]? =some v→c.get (k+j)=some v)→Rc c l k=true
 |[],_,_,_=>rfl
 |x::l,k,he,h=>by
  show Gz (@Option.rec _ (fun _=>Bool) false (eqV x) (c.gk k)) (Rc c l (k+1))=true;have h0:=h 0 x rfl;rw[Yg]at h0;rw[T.gk_eq,h0];refine mr (he x (Zm ..)) (LW (fun v hv=>he v (Zs _ hv)) (fun j v hv=>?_));have:=h (j+1) v (by simpa using hv);rw[show k+(j+1)=k+1+j by omega]at this;exact this
theorem Zlp{c:T Value}{l:List Value}{n:Nat}(h:Rc c l 0=true):vv (.ro l n) (.ro c n)=true:=by
 show Gz (Za n n) (Rc c l 0)=true;exact mr (Yy n) h
theorem Zlq{g n:Nat}{vs:List Value}(hn:vs.length=n)(hv:vs.all (fun v=>eqV v v)=true)(hT:RoN g vs∈P){S:Nat→Prop}{s:AS}(hs:Sat L P S s):jk s.h [(g,.ro vs n)]=true:=by
 subst hn;obtain⟨U,⟨_,t,hg,hk⟩,_⟩:=hs.per _ hT;refine mr ?_ rfl;show @Option.rec _ (fun _=>Bool) false (vv (.ro vs vs.length)) (s.h.gk g)=true;rw[T.gk_eq,hg];exact Zlp (LW (fun v hv2=>List.all_eq_true.1 hv v hv2) (fun j v hj=>by rw[Zw];exact hk j v hj))
theorem LP{m:MS}{g n:Nat}{vs args:List Value}(hm:m.nx=1001)(hpre:m.pre=[(g,.ro vs n)])(hn:vs.length=n)(hv:vs.all (fun v=>eqV v v)=true)(hT:RoN g vs∈P)(hN:Top∈P)(ha:eqL m.args args=true){S:Nat→Prop}{s:AS}(hs:Sat L P S s):Cd m args s=true:=by
 have hnx:=Top.nx hN hs;refine mr (Z0 (by rw[hm];exact hnx)) (mr ha ?_);rw[hpre];exact Zlq hn hv hT hs
theorem Sp.kept{f:FuncId}{m:MS}{els:List Value→AS→R}{args:List Value}{g n:Nat}{vs:List Value}(hp:E.prim.get f=some (Tp [m] els))(hpost:m.post=[])(hm:m.nx=1001)(hpre:m.pre=[(g,.ro vs n)])(hn:vs.length=n)(hv:vs.all (fun v=>eqV v v)=true)(hT:RoN g vs∈P)(hN:Top∈P)(ha:eqL m.args args=true):Sp E f args L P (fun r L' P'=>r=m.ans∧L'=L∧P'=P):=
 Sp.prim hp (fun S s hs=>by
  have hf:I9 m args s=true:=LP hm hpre hn hv hT hN ha hs;have e:Tp [m] els args s= @Bool.rec (fun _=>R) (Tp [] els args s) (some (m.ans,m.leftN s)) (I9 m args s):=rfl;rw[hf]at e;have hl:m.leftN s=s:=by
   unfold MS.leftN;rw[hpost];rfl
  refine⟨m.ans,s,S,L,P,?_,.refl _ _,hs,rfl,rfl,rfl⟩;rw[e];show some (m.ans,m.leftN s)=_;rw[hl])
end Go.Lx
namespace Go.Lx
open Go Go.Ax
variable {E:Env}{al:Al}
theorem Pu.xorU{x y:Operand}{u r:Nat}{a b:Nat}(hx:evl al x=some (.int .u64 (a:Int)):=by rfl)(hy:evl al y=some (.int .u64 (b:Int)):=by rfl)(ha:a<18446744073709551616:=by first|assumption|decide|omega)(hb:b<18446744073709551616:=by first|assumption|decide|omega):Pu E al (.binOp .xor u x y r) (.int .u64 ((a^^^b:Nat):Int)):=
 Pu.bi (by
  show(bif Hy .u64 .u64 then Nn Xw .u64 a b else none)=_;rw[M9];exact yq (f:=Xw) ha hb (by simp only[InR];have:a^^^b<2^64:=Xu ha hb;have e:Xw a b=a^^^b:=rfl;rw[e];omega)) hx hy
def mir(x:Nat):Nat→Nat
 |0=>0
 |n+1=>mir x n*2+(x>>>n&&&1)
theorem Cq(x:Nat):∀n i,(mir x n).testBit i=(decide (i<n)&&x.testBit (n-1-i))
 |0,i=>by show(0:Nat).testBit i=_;rw[Nat.zero_testBit];simp
 |n+1,i=>by
  have h1:x>>>n&&&1=(x.testBit n).toNat:=by
   rw[Nat.and_one_is_mod,Zr4,Xe];have:x/2^n%2<2:=Kb _ (by decide);by_cases h:x/2^n%2=1
   ·rw[h];rfl
   ·have:x/2^n%2=0:=by omega
    rw[this];rfl
  show(mir x n*2+(x>>>n&&&1)).testBit i=_;rw[h1];cases i with
  |zero=>
   rw[K4];cases hb:x.testBit n with
   |true=>simp[hb]
   |false=>simp[hb]
  |succ i=>
   have hle:(x.testBit n).toNat≤1:=by cases x.testBit n<;>decide
   rw[K5,show(mir x n*2+(x.testBit n).toNat)/2=mir x n by omega,Cq x n i];have:n+1-1-(i+1)=n-1-i:=by omega
   rw[this];by_cases h:i<n
   ·rw[decide_eq_true h,decide_eq_true (by omega:i+1<n+1)]
   ·rw[decide_eq_false h,decide_eq_false (by omega:¬i+1<n+1)]
theorem mt(x n:Nat):mir x n<2^n:=Nat.lt_pow_two_of_testBit _ fun i hi=>by
 rw[Cq,decide_eq_false (by omega)];rfl
def R0(y:Nat):Nat:=if(y*2)>>>32=0 then y*2 else(y*2)^^^4374732215
def Bm :Nat→Nat→Nat
 |0,y=>y
 |j+1,y=>R0 (Bm j y)
def Mm :Nat→List UInt8→Nat
 |y,[]=>y
 |y,c::l=>Mm (Bm 8 (y^^^(mir c.toNat 8*2^24))) l
theorem Zlr :∀i,i<32→(4374732215:Nat).testBit i=(3988292384:Nat).testBit (31-i):=by decide
theorem OZ{y:Nat}(h:y<2^32):(y*2)>>>32=0↔y.testBit 31=false:=by
 rw[Xe,Zr4];have e1:(2:Nat)^32=4294967296:=by decide
 have e2:(2:Nat)^31=2147483648:=by decide
 rw[e1]at h ⊢;rw[e2,decide_eq_false_iff_not];omega
theorem OY(y i:Nat):(y*2).testBit i=(decide (0<i)&&y.testBit (i-1)):=by
 cases i with
 |zero=>rw[K4];simp
 |succ i=>rw[K5,Nat.mul_div_cancel _ (by decide)];simp
theorem Zls{x:Nat}(hx:x<2^32):R0 (mir x 32)=mir (M0 x) 32:=by
 have hxb:∀j,32≤j→x.testBit j=false:=fun j hj=>Uw (Yu hx (Va (by decide) hj));have hm:=mt x 32;have h31:(mir x 32).testBit 31=x.testBit 0:=by rw[Cq];rfl
 have hdiv:∀j,(x/2).testBit j=x.testBit (j+1):=fun j=>(K5 x j).symm;have h2:x%2=1↔x.testBit 0=true:=by rw[K4];simp
 refine Kz fun i=>?_;rw[Cq];unfold R0 M0;by_cases h0:x.testBit 0=true
 ·rw[if_neg (fun e=>by rw[(OZ hm).1 e]at h31;rw[←h31]at h0;cases h0),if_pos (h2.2 h0),Uv,OY,Cq,Uv,hdiv];by_cases hi:i<32
  ·rw[Zlr i hi,decide_eq_true hi];have e:32-1-i=31-i:=by omega
   rw[e];by_cases hp:0<i
   ·have e1:32-1-(i-1)=31-i+1:=by omega
    rw[decide_eq_true hp,decide_eq_true (by omega:i-1<32),e1];simp
   ·have:i=0:=by omega
    subst this;rw[hxb (31-0+1) (by decide)];simp
  ·rw[decide_eq_false hi,Xp];by_cases h32:i=32
   ·subst h32;have:x.testBit (32-1-(32-1))=true:=h0;rw[this];decide
   ·have hb:(4374732215:Nat).testBit i=false:=Uw (Yu (by decide:(4374732215:Nat)<2^33) (Va (by decide) (by omega)));rw[hb,decide_eq_false (by omega:¬i-1<32)];simp
 ·have h0':x.testBit 0=false:=by simpa using h0
  rw[if_pos ((OZ hm).2 (h31.trans h0')),if_neg (fun e=>h0 (h2.1 e)),OY,Cq,hdiv];by_cases hi:i<32
  ·rw[decide_eq_true hi];by_cases hp:0<i
   ·have e1:32-1-(i-1)=32-1-i+1:=by omega
    rw[decide_eq_true hp,decide_eq_true (by omega:i-1<32),e1];simp
   ·have:i=0:=by omega
    subst this;rw[hxb (32-1-0+1) (by decide)];simp
  ·rw[decide_eq_false hi,Xp];by_cases h32:i=32
   ·subst h32;have:x.testBit (32-1-(32-1))=false:=h0';rw[this];simp
   ·rw[decide_eq_false (by omega:¬i-1<32)];simp
theorem Zlt{x:Nat}(h:x<2^32):M0 x<2^32:=by
 unfold M0;split
 ·exact Xu (by omega) (by decide)
 ·omega
theorem GY{x:Nat}(h:x<2^32):∀j,Nr j x<2^32
 |0=>h
 |j+1=>Zlt (GY h j)
theorem OX{x:Nat}(h:x<2^32):∀j,Bm j (mir x 32)=mir (Nr j x) 32
 |0=>rfl
 |j+1=>by
  show R0 (Bm j (mir x 32))=mir (M0 (Nr j x)) 32;rw[OX h j,Zls (GY h j)]
theorem Zlu{x b:Nat}(hb:b<256):mir x 32^^^(mir b 8*2^24)=mir (x^^^b) 32:=by
 refine Kz fun i=>?_;rw[Uv,Cq,Cq,Uv,Uc,Zsj,Cq];by_cases hi:i<32
 ·rw[decide_eq_true hi];by_cases h24:24≤i
  ·rw[decide_eq_true (by omega:i≥24),decide_eq_true (by omega:i-24<8)];have:8-1-(i-24)=32-1-i:=by omega
   rw[this];simp
  ·rw[decide_eq_false (by omega:¬i≥24),Uw (Yu hb (Va (by decide:0<2) (by omega:8≤32-1-i)))];simp
 ·rw[decide_eq_false hi];by_cases h24:i≥24
  ·rw[decide_eq_false (by omega:¬i-24<8)];simp
  ·omega
theorem OV :∀(l:List UInt8) (x:Nat),x<2^32→Mm (mir x 32) l=mir (Ns x l) 32∧Ns x l<2^32
 |[],x,h=>⟨rfl,h⟩
 |c::l,x,h=>by
  have hc:c.toNat<256:=c.toNat_lt;have h1:x^^^c.toNat<2^32:=Xu h (by omega);have h2:=GY h1 8;show Mm (Bm 8 (mir x 32^^^(mir c.toNat 8*2^24))) l=_∧_;rw[Zlu hc,OX h1 8];exact OV l _ h2
theorem Zlv{x:Nat}(h:x<2^32):mir (mir x 32^^^4294967295) 32=x^^^4294967295:=by
 refine Kz fun i=>?_;rw[Cq,Uv,Cq,Uv];have hf:∀j,(4294967295:Nat).testBit j=decide (j<32):=fun j=>Nat.testBit_two_pow_sub_one 32 j;rw[hf,hf];by_cases hi:i<32
 ·have e:32-1-(32-1-i)=i:=by omega
  rw[e,decide_eq_true hi,decide_eq_true (by omega:32-1-i<32)];simp
 ·rw[decide_eq_false hi,Uw (Yu h (Va (by decide:0<2) (Nat.le_of_not_lt hi)))];simp
theorem Zlw :mir 4294967295 32=4294967295:=by decide
end Go.Lx
