/- The machine with more fuel answers the same. -/
import Derived.Test.YtjadpdncjnokbaaGreatDoorAxC
import Derived.KernelRfl
set_option linter.all false
open Nat renaming ble→Zb,beq→Za,le_refl→Ze,blt→Zh,zero_add→Zw,ble_eq_true_of_le→Z0,eq_of_beq_eq_true→Zv,le_of_ble_eq_true→Yr,mul_le_mul_right→Yo,lt_or_ge→Zt,le_trans→Ye,succ_mul→Vf,pred→Uf,sub_zero→Yl,zero_le→Zj,add_mul→Yv,blt_eq→Yj,beq_refl→Yy,lt_irrefl→U3,lt_succ_of_lt→Zr8,add_zero→Yg
open Int renaming negSucc_eq→Xq,ofNat_eq_natCast→Xv
open List renaming mem_append→Zk,replicate→Z7,getElem?_eq_some_iff→Yc,length_cons→Zf,mem_singleton→Z6,flatten_cons→V4,length_append→Zd,map_cons→Zr,mem_map→Zl,getElem?_append_left→Vt,getElem?_append_right→Vj,getElem?_cons_succ→Y9,mem_cons→Zg,nodup_cons→Yz,length_eq_zero_iff→Yh,length_nil→Zo,getElem?_cons_zero→Y7,all_eq_true→Xt,mem_of_getElem?→Y8
open Bool renaming and_eq_true→Zi,false_and→Xp
namespace Go.Lx
open Go Go.Ax
def Sub(c c':Gu):Prop:=∀f a s r,c f a s=some r→c' f a s=some r
theorem Zjp{c c':Gu}(h:Sub c c'){f:Operand}{args:List Operand}{tm:Tm}{s:AS}{r:Value×AS}(e:Fz f args c tm s=some r):Fz f args c' tm s=some r:=by
 unfold Fz at e ⊢;split at e
 ·exact h _ _ _ _ e
 ·cases e
theorem kf{c c':Gu}(h:Sub c c'){op:Op}{E:Env}{tm:Tm}{s:AS}{r:Value×AS}(e:Hb op E c tm s=some r):Hb op E c' tm s=some r:=by
 unfold Hb at e ⊢;split at e
 ·unfold It at e ⊢;split at e
  ·exact Zjp h e
  ·exact e
 ·exact e
theorem D6{E:Env}{call:Gu}{N:Nat}{ops l:List Oper}{o:Oper}{tm:Tm}{s:AS}:Mq E call N ops (o::l) tm s=match Ha ops tm o with
  |none=>none
  |some false=>match Gq N tm o.dst undef with
   |none=>none
   |some tm'=>Mq E call N ops l tm' s
  |some true=>match Hb o.op E call tm s with
   |none=>none
   |some (v,s')=>match Gq N tm o.dst v with
    |none=>none
    |some tm'=>Mq E call N ops l tm' s':=rfl
theorem Rs{c c':Gu}(h:Sub c c'){E:Env}{N:Nat}{ops:List Oper}:∀(l:List Oper) {tm:Tm} {s:AS} {r:Tm×AS},Mq E c N ops l tm s=some r→Mq E c' N ops l tm s=some r
 |[],_,_,_,e=>e
 |o::l,tm,s,r,e=>by
  rw[D6]at e ⊢;cases hw:Ha ops tm o with
  |none=>rw[hw]at e;cases e
  |some b=>
   rw[hw]at e;cases b with
   |false=>
    simp only at e ⊢;cases hp:Gq N tm o.dst undef with
    |none=>rw[hp]at e;cases e
    |some tm'=>rw[hp]at e;exact Rs h l e
   |true=>
    simp only at e ⊢;cases hx:Hb o.op E c tm s with
    |none=>rw[hx]at e;cases e
    |some p=>
     obtain⟨v,s'⟩:=p;rw[hx]at e;rw[kf h hx];simp only at e ⊢;cases hp:Gq N tm o.dst v with
     |none=>rw[hp]at e;cases e
     |some tm'=>rw[hp]at e;exact Rs h l e
theorem yg{E:Env}{call:Gu}{N:Nat}{ops:List Oper}{an:List Nat}{base:Nat}{o:Oper}{l:List Oper}{i:Nat}{tm:Tm}{s:AS}{ss:List AS}{rs:List Rec}{nw:Gy}:
  Np E call N ops an base (o::l) i tm s ss rs nw=match Ha ops tm o with
  |none=>none
  |some false=>match Gq N tm o.dst undef with
   |none=>none
   |some tm'=>Np E call N ops an base l (i+1) tm' s (bif eff E.ty o.op then ss++[s]else ss) rs nw
  |some true=>bif Gv o.op then(Hf (base+i) fun b=>match N4 o.op E tm b with
    |none=>none
    |some (v,x)=>match Gq N tm o.dst v with
     |none=>none
     |some tm'=>Np E call N ops an base l (i+1) tm' s ss rs (nw++[(i,x)]))
   else match Hb o.op E call tm (laid base (an.getD i 0) nw s)with
   |none=>none
   |some (v,s')=>match Gq N tm o.dst v with
    |none=>none
    |some tm'=>bif eff E.ty o.op then Np E call N ops an base l (i+1) tm' s' (ss++[s']) rs nw else Np E call N ops an base l (i+1) tm' s ss (⟨i,o,tm,v,nw⟩::rs) nw:=rfl
theorem natK_eq{α:Type}(n:Nat)(k:Nat→α):Hf n k=k n:=by cases n<;>rfl
theorem cq{c c':Gu}(h:Sub c c'){E:Env}{N:Nat}{ops:List Oper}{an:List Nat}{base:Nat}:∀(l:List Oper) {i:Nat} {tm:Tm} {s:AS} {ss:List AS} {rs:List Rec} {nw:Gy} {r},Np E c N ops an base l i tm s ss rs nw=some r→Np E c' N ops an base l i tm s ss rs nw=some r
 |[],_,_,_,_,_,_,_,e=>e
 |o::l,i,tm,s,ss,rs,nw,r,e=>by
  rw[yg]at e ⊢;cases hw:Ha ops tm o with
  |none=>rw[hw]at e;cases e
  |some b=>
   rw[hw]at e;cases b with
   |false=>
    simp only at e ⊢;cases hp:Gq N tm o.dst undef with
    |none=>rw[hp]at e;cases e
    |some tm'=>rw[hp]at e;exact cq h l e
   |true=>
    simp only at e ⊢;cases hn:Gv o.op with
    |true=>
     rw[hn]at e;simp only[cond_true,natK_eq]at e ⊢;cases hx:N4 o.op E tm (base+i)with
     |none=>rw[hx]at e;cases e
     |some p=>
      obtain⟨v,x⟩:=p;rw[hx]at e;simp only at e ⊢;cases hp:Gq N tm o.dst v with
      |none=>rw[hp]at e;cases e
      |some tm'=>rw[hp]at e;exact cq h l e
    |false=>
     rw[hn]at e;simp only[cond_false]at e ⊢;cases hx:Hb o.op E c tm (laid base (an.getD i 0) nw s)with
     |none=>rw[hx]at e;cases e
     |some p=>
      obtain⟨v,s'⟩:=p;rw[hx]at e;rw[kf h hx];simp only at e ⊢;cases hp:Gq N tm o.dst v with
      |none=>rw[hp]at e;cases e
      |some tm'=>
       rw[hp]at e;simp only at e ⊢;cases hf:eff E.ty o.op with
       |true=>rw[hf]at e;exact cq h l e
       |false=>rw[hf]at e;exact cq h l e
theorem Zjq{c c':Gu}(h:Sub c c'){E:Env}{N:Nat}{ops:List Oper}{tm:Tm}{s:AS}{r:Tm×AS}(e:Dl E c N ops tm s=some r):Dl E c' N ops tm s=some r:=by
 unfold Dl at e ⊢;cases hb:(ops.any fun o=>eff E.ty o.op||Gv o.op)with
 |false=>rw[hb]at e;exact Rs h _ e
 |true=>
  rw[hb]at e;simp only[cond_true,natK_eq]at e ⊢;cases hx:Np E c N ops (Gt ops []) s.nx ops 0 tm ⟨s.h,s.nx+ops.length⟩ [⟨s.h,s.nx+ops.length⟩] [] []with
  |none=>rw[hx]at e;cases e
  |some p=>rw[hx]at e;rw[cq h _ hx];exact e
def QG(r r':Run):Prop:=∀c tm s x,r c tm s=some x→r' c tm s=some x
theorem Zjr{c c':Gu}(h:Sub c c'){E:Env}{N:Nat}{r r':Run}(hr:QG r r'):∀(k:Code) {tm:Tm} {s:AS} {x},pq k E c N r tm s=some x→pq k E c' N r' tm s=some x:=by
 intro k tm s x e;cases k with
 |skip=>exact e
 |region id ops d=>
  show C1 ops d E c' N r' tm s=_;have e:C1 ops d E c N r tm s=_:=e;unfold C1 at e ⊢;cases d with
  |true=>
   simp only[cond_true]at e ⊢;cases hx:Dl E c N ops.toList tm s with
   |none=>rw[hx]at e;cases e
   |some p=>rw[hx]at e;rw[Zjq h hx];exact e
  |false=>
   simp only[cond_false]at e ⊢;cases hx:Mq E c N ops.toList ops.toList tm s with
   |none=>rw[hx]at e;cases e
   |some p=>rw[hx]at e;rw[Rs h _ hx];exact e
 |seq a b=>
  show C2 a b E c' N r' tm s=_;have e:C2 a b E c N r tm s=_:=e;unfold C2 at e ⊢;cases hx:r a tm s with
  |none=>rw[hx]at e;cases e
  |some p=>
   obtain⟨y,tm',s'⟩:=p;rw[hx]at e;rw[hr _ _ _ _ hx];cases y with
   |nor=>exact hr _ _ _ _ e
   |exit i=>exact e
   |ret=>exact e
 |cond y a b=>
  show F3 y a b E c' N r' tm s=_;have e:F3 y a b E c N r tm s=_:=e;unfold F3 at e ⊢;split at e
  ·exact hr _ _ _ _ e
  ·cases e
 |block i b=>
  show F4 i b E c' N r' tm s=_;have e:F4 i b E c N r tm s=_:=e;unfold F4 at e ⊢;cases hx:r b tm s with
  |none=>rw[hx]at e;cases e
  |some p=>
   obtain⟨y,tm',s'⟩:=p;rw[hx]at e;rw[hr _ _ _ _ hx];exact e
 |loop b=>
  show C3 b E c' N r' tm s=_;have e:C3 b E c N r tm s=_:=e;unfold C3 at e ⊢;cases hx:r b tm s with
  |none=>rw[hx]at e;cases e
  |some p=>
   obtain⟨y,tm',s'⟩:=p;rw[hx]at e;rw[hr _ _ _ _ hx];cases y with
   |nor=>exact hr _ _ _ _ e
   |exit i=>exact e
   |ret=>exact e
 |exit i=>exact e
 |ret=>exact e
 |rangeFunc f ps a b=>exact e
 |scope b=>exact e
 |label l=>exact e
 |goto l=>exact e
 |refuse w=>exact e
theorem T8{c c':Gu}(h:Sub c c'){E:Env}{N:Nat}:∀(F F':Nat),F≤F'→QG (Hp E c N F) (Hp E c' N F')
 |0,_,_,_,_,_,_,e=>by cases e
 |F+1,0,hle,_,_,_,_,_=>by omega
 |F+1,F'+1,hle,k,tm,s,x,e=>Zjr h (T8 h F F' (by omega)) k e
theorem Nh{E:Env}:∀(D D' F F':Nat),D≤D'→F≤F'→Sub (Gw E F D) (Gw E F' D')
 |0,_,_,_,_,_,_,_,_,_,e=>by cases e
 |D+1,0,_,_,hle,_,_,_,_,_,_=>by omega
 |D+1,D'+1,F,F',hle,hF,f,a,s,r,e=>by
  have ih:=Nh (E:=E) D D' F F' (by omega) hF;show(match E.prim.get f with
   |some p=>p a s
   |none=>match E.fn.get f with
    |none=>none
    |some fn=>match fn.body with
     |none=>none
     |some c=>bif Za fn.ntmps 0 then none else Hf (Uf fn.ntmps) fun N=>match Hp E (Gw E F' D') N F' c (T.e.fill 0 a) s with
      |some (.exit _,_,_)=>none
      |none=>none
      |some (_,tm,s')=>match Be E tm s' fn.results.toList with
       |none=>none
       |some vs=>some (Bt vs,s'))=some r
  have e:(match E.prim.get f with
   |some p=>p a s
   |none=>match E.fn.get f with
    |none=>none
    |some fn=>match fn.body with
     |none=>none
     |some c=>bif Za fn.ntmps 0 then none else Hf (Uf fn.ntmps) fun N=>match Hp E (Gw E F D) N F c (T.e.fill 0 a) s with
      |some (.exit _,_,_)=>none
      |none=>none
      |some (_,tm,s')=>match Be E tm s' fn.results.toList with
       |none=>none
       |some vs=>some (Bt vs,s'))=some r:=e
  cases hp:E.prim.get f with
  |some p=>rw[hp]at e;exact e
  |none=>
   rw[hp]at e;simp only at e ⊢;cases hf:E.fn.get f with
   |none=>rw[hf]at e;cases e
   |some fn=>
    rw[hf]at e;simp only at e ⊢;cases hb:fn.body with
    |none=>rw[hb]at e;cases e
    |some c=>
     rw[hb]at e;simp only at e ⊢;cases hn:Za fn.ntmps 0 with
     |true=>rw[hn]at e;cases e
     |false=>
      rw[hn]at e;simp only[cond_false,natK_eq]at e ⊢;cases hx:Hp E (Gw E F D) (Uf fn.ntmps) F c (T.e.fill 0 a) s with
      |none=>rw[hx]at e;cases e
      |some p=>rw[hx]at e;rw[T8 ih F F' hF _ _ _ _ hx];exact e
end Go.Lx
namespace Go.Lx
open Go Go.Ax
structure Asn where
 p:(Nat→Prop)→T Gg→Prop
 loc:∀S h h',(∀b,S b→h'.get b=h.get b)→p S h→p S h'
def Own :List Asn→(Nat→Prop)→T Gg→Prop
 |[],_,_=>True
 |A::L,S,h=>∃S1 S2,(∀b,S1 b→S b)∧(∀b,S2 b→S b)∧(∀b,S1 b→S2 b→False)∧A.p S1 h∧Own L S2 h
theorem Own.loc :∀ {L:List Asn} {S:Nat→Prop} {h h':T Gg},(∀b,S b→h'.get b=h.get b)→Own L S h→Own L S h'
 |[],_,_,_,_,_=>trivial
 |A::L,S,h,h',e,⟨S1,S2,h1,h2,hd,ha,hl⟩=>⟨S1,S2,h1,h2,hd,A.loc _ _ _ (fun b hb=>e b (h1 b hb)) ha,Own.loc (fun b hb=>e b (h2 b hb)) hl⟩
theorem Own.sub :∀ {L:List Asn} {S S':Nat→Prop} {h:T Gg},(∀b,S b→S' b)→Own L S h→Own L S' h
 |[],_,_,_,_,_=>trivial
 |A::L,S,S',h,e,⟨S1,S2,h1,h2,hd,ha,hl⟩=>⟨S1,S2,fun b hb=>e b (h1 b hb),fun b hb=>e b (h2 b hb),hd,ha,hl⟩
theorem Own.swap{A B:Asn}{L:List Asn}{S:Nat→Prop}{h:T Gg}(H:Own (A::B::L) S h):Own (B::A::L) S h:=by
 obtain⟨S1,S2,h1,h2,hd,ha,T1,T2,k1,k2,kd,hb,hl⟩:=H;exact⟨T1,fun b=>S1 b∨T2 b,fun b hb=>h2 b (k1 b hb),fun b hb=>hb.elim (h1 b) (fun hb=>h2 b (k2 b hb)),fun b x y=>y.elim (fun y=>hd b y (k1 b x)) (fun y=>kd b x y),hb,
  S1,T2,fun b hb=>.inl hb,fun b hb=>.inr hb,fun b x y=>hd b x (k2 b y),ha,hl⟩
theorem Own.tail{A:Asn}{L L':List Asn}{S:Nat→Prop}{h:T Gg}(H:Own (A::L) S h)(f:∀S,Own L S h→Own L' S h):Own (A::L') S h:=by
 obtain⟨S1,S2,h1,h2,hd,ha,hl⟩:=H;exact⟨S1,S2,h1,h2,hd,ha,f _ hl⟩
theorem Own.perm{L L':List Asn}(hp:L.Perm L'):∀ {S:Nat→Prop} {h:T Gg},Own L S h→Own L' S h:=by
 induction hp with
 |nil=>exact fun H=>H
 |cons x _ ih=>exact fun H=>H.tail (fun _=>ih)
 |swap x y l=>exact fun H=>H.swap
 |trans _ _ ih1 ih2=>exact fun H=>ih2 (ih1 H)
theorem Own.drop{A:Asn}{L:List Asn}{S:Nat→Prop}{h:T Gg}(H:Own (A::L) S h):Own L S h:=by
 obtain⟨S1,S2,h1,h2,hd,ha,hl⟩:=H;exact hl.sub h2
structure Sat(L P:List Asn)(S:Nat→Prop)(s:AS):Prop where
 own:Own L S s.h
 per:∀A∈P,∃U,A.p U s.h∧∀b,U b→¬S b∧s.h.get b≠none
 ex:∀b,S b→s.h.get b≠none
 fresh:∀b,s.nx≤b→s.h.get b=none
theorem Sat.low{L P:List Asn}{S:Nat→Prop}{s:AS}(h:Sat L P S s){b:Nat}(hb:s.h.get b≠none):b<s.nx:=by
 rcases Zt b s.nx with e|e
 ·exact e
 ·exact absurd (h.fresh b e) hb
theorem Sat.lt{L P:List Asn}{S:Nat→Prop}{s:AS}(h:Sat L P S s)(b:Nat)(hb:S b):b<s.nx:=h.low (h.ex b hb)
structure Tr(S:Nat→Prop)(s:AS)(S':Nat→Prop)(s':AS):Prop where
 nx:s.nx≤s'.nx
 keep:∀b,b<s.nx→¬S b→s'.h.get b=s.h.get b
 sub:∀b,S' b→S b∨s.nx≤b
 stay:∀b,s.h.get b≠none→s'.h.get b≠none
theorem Tr.refl(S:Nat→Prop)(s:AS):Tr S s S s:=⟨Ze _,fun _ _ _=>rfl,fun _ h=>.inl h,fun _ h=>h⟩
theorem Tr.trans{S S1 S2:Nat→Prop}{s s1 s2:AS}(h:Tr S s S1 s1)(h':Tr S1 s1 S2 s2):Tr S s S2 s2:=
 ⟨Ye h.nx h'.nx,fun b hb hn=>by
  rw[h'.keep b (Nat.lt_of_lt_of_le hb h.nx) (fun e=>(h.sub b e).elim hn (fun h=>by omega)),h.keep b hb hn],
  fun b hb=>(h'.sub b hb).elim (h.sub b) (fun e=>.inr (Ye h.nx e)),fun b hb=>h'.stay b (h.stay b hb)⟩
theorem Tr.per{S S':Nat→Prop}{s s':AS}(h:Tr S s S' s')(hf:∀b,s.nx≤b→s.h.get b=none){A:Asn}(H:∃U,A.p U s.h∧∀b,U b→¬S b∧s.h.get b≠none):∃U,A.p U s'.h∧∀b,U b→¬S' b∧s'.h.get b≠none:=by
 obtain⟨U,hu,hk⟩:=H;have hlt:∀b,U b→b<s.nx:=fun b hb=>by
  rcases Zt b s.nx with e|e
  ·exact e
  ·exact absurd (hf b e) (hk b hb).2
 have he:∀b,U b→s'.h.get b=s.h.get b:=fun b hb=>h.keep b (hlt b hb) (hk b hb).1;exact⟨U,A.loc _ _ _ he hu,fun b hb=>⟨fun e=>(h.sub b e).elim (hk b hb).1 (fun e=>by have:=hlt b hb;omega),by rw[he b hb];exact(hk b hb).2⟩⟩
abbrev Al :=List (Nat×Value)
def lk :Al→Nat→Option Value
 |[],_=>none
 |(k,v)::l,i=>bif Za k i then some v else lk l i
def Has(al:Al)(tm:Tm):Prop:=∀k v,lk al k=some v→tm.get k=some v
theorem Has.set{al:Al}{tm:Tm}(h:Has al tm)(d:Nat)(v:Value):Has ((d,v)::al) (tm.set d v):=fun k u e=>by
 rw[T.get_set];show(if k=d then some v else tm.get k)=some u;have e:(bif Za d k then some v else lk al k)=some u:=e;by_cases hk:k=d
 ·subst hk;rw[Yy]at e;rw[if_pos rfl];exact e
 ·have hb:Za d k=false:=by
   cases hb:Za d k with
   |false=>rfl
   |true=>exact absurd (Zv hb).symm hk
  rw[hb]at e;rw[if_neg hk];exact h k u e
def evl(al:Al):Operand→Option Value
 |.tmp i=>lk al i
 |.const v=>cst v
 |.global g=>bif Zh g 1000 then some (.pointer (some ⟨g,0,none⟩))else none
 |.func f=>some (.func (.func f) #[] #[])
theorem Gm{al:Al}{tm:Tm}(h:Has al tm){x:Operand}{v:Value}(e:evl al x=some v):ev tm x=some v:=by
 cases x with
 |tmp i=>exact h _ _ e
 |const v=>exact e
 |global g=>exact e
 |func f=>exact e
def Me(al:Al):List Operand→Option (List Value)
 |[]=>some []
 |x::l=>match evl al x with
  |none=>none
  |some v=>match Me al l with
   |none=>none
   |some vs=>some (v::vs)
theorem kg{al:Al}{tm:Tm}(h:Has al tm):∀ {l:List Operand} {vs:List Value},Me al l=some vs→evs tm l=some vs
 |[],_,e=>e
 |x::l,vs,e=>by
  unfold Me at e;unfold evs;cases hx:evl al x with
  |none=>rw[hx]at e;cases e
  |some v=>
   rw[hx]at e;rw[Gm h hx];cases hl:Me al l with
   |none=>rw[hl]at e;cases e
   |some ws=>rw[hl]at e;rw[kg h hl];exact e
def Cm :Al→Al→Prop
 |[],_=>True
 |(k,v)::l,al=>lk al k=some v∧Cm l al
theorem Cm.lk :∀ {l al:Al},Cm l al→∀k v,lk l k=some v→Go.Lx.lk al k=some v
 |[],_,_,_,_,e=>by cases e
 |(j,u)::l,al,⟨h1,h2⟩,k,v,e=>by
  have e:(bif Za j k then some u else Go.Lx.lk l k)=some v:=e;cases hb:Za j k with
  |true=>
   rw[hb]at e;obtain rfl:=Zv hb;rw[h1];exact e
  |false=>rw[hb]at e;exact Cm.lk h2 k v e
theorem Cm.has{l al:Al}(h:Cm l al){tm:Tm}(hs:Has al tm):Has l tm:=fun k v e=>hs k v (h.lk k v e)
variable {E:Env}{N:Nat}
def Rt(E:Env)(f:FuncId)(args:List Value)(s:AS)(v:Value)(s':AS):Prop:=∃F D,Gw E F D f args s=some (v,s')
def CR(E:Env)(N:Nat)(c:Code)(tm:Tm)(s:AS)(x:X)(tm':Tm)(s':AS):Prop:=∃F D F',Hp E (Gw E F D) N F' c tm s=some (x,tm',s')
def RR(E:Env)(N:Nat)(ops l:List Oper)(tm:Tm)(s:AS)(tm':Tm)(s':AS):Prop:=∃F D,Mq E (Gw E F D) N ops l tm s=some (tm',s')
def Sp(E:Env)(f:FuncId)(args:List Value)(L P:List Asn)(Q:Value→List Asn→List Asn→Prop):Prop:=
 ∀S s,Sat L P S s→∃v s' S' L' P',Rt E f args s v s'∧Tr S s S' s'∧Sat L' P' S' s'∧Q v L' P'
def W(E:Env)(N:Nat)(c:Code)(al:Al)(L P:List Asn)(Q:X→Al→List Asn→List Asn→Prop):Prop:=
 ∀S s tm,Sat L P S s→Has al tm→∃x tm' s' S' al' L' P',CR E N c tm s x tm' s'∧Tr S s S' s'∧Has al' tm'∧Sat L' P' S' s'∧Q x al' L' P'
def WR(E:Env)(N:Nat)(ops l:List Oper)(al:Al)(L P:List Asn)(Q:Al→List Asn→List Asn→Prop):Prop:=
 ∀S s tm,Sat L P S s→Has al tm→∃tm' s' S' al' L' P',RR E N ops l tm s tm' s'∧Tr S s S' s'∧Has al' tm'∧Sat L' P' S' s'∧Q al' L' P'
theorem UP(call:Gu)(F:Nat)(a b:Code)(tm:Tm)(s:AS):Hp E call N (F+1) (.seq a b) tm s=C2 a b E call N (Hp E call N F) tm s:=rfl
theorem Zjs(call:Gu)(F:Nat)(x:Operand)(a b:Code)(tm:Tm)(s:AS):Hp E call N (F+1) (.cond x a b) tm s=F3 x a b E call N (Hp E call N F) tm s:=rfl
theorem JZ(call:Gu)(F id:Nat)(ops:Array Oper)(d:Bool)(tm:Tm)(s:AS):Hp E call N (F+1) (.region id ops d) tm s=C1 ops d E call N (Hp E call N F) tm s:=rfl
theorem W.skip{al:Al}{L P:List Asn}{Q:X→Al→List Asn→List Asn→Prop}(h:Q .nor al L P):W E N .skip al L P Q:=
 fun S s tm hs ha=>⟨.nor,tm,s,S,al,L,P,⟨0,0,1,rfl⟩,.refl _ _,ha,hs,h⟩
theorem W.exit{i:Nat}{al:Al}{L P:List Asn}{Q:X→Al→List Asn→List Asn→Prop}(h:Q (.exit i) al L P):W E N (.exit i) al L P Q:=
 fun S s tm hs ha=>⟨.exit i,tm,s,S,al,L,P,⟨0,0,1,rfl⟩,.refl _ _,ha,hs,h⟩
theorem W.ret{al:Al}{L P:List Asn}{Q:X→Al→List Asn→List Asn→Prop}(h:Q .ret al L P):W E N .ret al L P Q:=
 fun S s tm hs ha=>⟨.ret,tm,s,S,al,L,P,⟨0,0,1,rfl⟩,.refl _ _,ha,hs,h⟩
theorem W.mono{c:Code}{al:Al}{L P:List Asn}{Q Q':X→Al→List Asn→List Asn→Prop}(h:W E N c al L P Q)(hq:∀x al L P,Q x al L P→Q' x al L P):W E N c al L P Q':=by
 intro S s tm hs ha;obtain⟨x,tm1,s1,S1,al1,L1,P1,e,ht,h1,h2,h3⟩:=h S s tm hs ha;exact⟨x,tm1,s1,S1,al1,L1,P1,e,ht,h1,h2,hq _ _ _ _ h3⟩
def Zjt(E:Env)(N:Nat)(b:Code)(Q:X→Al→List Asn→List Asn→Prop):X→Al→List Asn→List Asn→Prop
 |.nor,al,L,P=>W E N b al L P Q
 |.exit i,al,L,P=>Q (.exit i) al L P
 |.ret,al,L,P=>Q .ret al L P
theorem W.seq{a b:Code}{al:Al}{L P:List Asn}{Q:X→Al→List Asn→List Asn→Prop}(h:W E N a al L P (Zjt E N b Q)):W E N (.seq a b) al L P Q:=by
 intro S s tm hs ha;obtain⟨x,tm1,s1,S1,al1,L1,P1,⟨F,D,F',e⟩,ht,ha1,hs1,hq⟩:=h S s tm hs ha;cases x with
 |nor=>
  obtain⟨y,tm2,s2,S2,al2,L2,P2,⟨G,H,G',e2⟩,ht2,ha2,hs2,hq2⟩:=hq S1 s1 tm1 hs1 ha1;refine⟨y,tm2,s2,S2,al2,L2,P2,⟨max F G,max D H,max F' G'+1,?_⟩,ht.trans ht2,ha2,hs2,hq2⟩;rw[UP];unfold C2;rw[T8 (Nh D (max D H) F (max F G) (by omega) (by omega)) F' (max F' G') (by omega) _ _ _ _ e];exact T8 (Nh H (max D H) G (max F G) (by omega) (by omega)) G' (max F' G') (by omega) _ _ _ _ e2
 |exit i=>
  refine⟨_,tm1,s1,S1,al1,L1,P1,⟨F,D,F'+1,?_⟩,ht,ha1,hs1,hq⟩;rw[UP];unfold C2;rw[e]
 |ret=>
  refine⟨_,tm1,s1,S1,al1,L1,P1,⟨F,D,F'+1,?_⟩,ht,ha1,hs1,hq⟩;rw[UP];unfold C2;rw[e]
theorem W.cond{x:Operand}{a b:Code}{t:Bool}{al:Al}{L P:List Asn}{Q:X→Al→List Asn→List Asn→Prop}(hx:evl al x=some (.bool t))(h:W E N (bif t then a else b) al L P Q):W E N (.cond x a b) al L P Q:=by
 intro S s tm hs ha;obtain⟨y,tm1,s1,S1,al1,L1,P1,⟨F,D,F',e⟩,hr⟩:=h S s tm hs ha;refine⟨y,tm1,s1,S1,al1,L1,P1,⟨F,D,F'+1,?_⟩,hr⟩;rw[Zjs];unfold F3;rw[Gm ha hx];exact e
theorem W.yes{x:Operand}{a b:Code}{al:Al}{L P:List Asn}{Q:X→Al→List Asn→List Asn→Prop}(hx:evl al x=some (.bool true))(h:W E N a al L P Q):W E N (.cond x a b) al L P Q:=W.cond hx h
theorem W.no{x:Operand}{a b:Code}{al:Al}{L P:List Asn}{Q:X→Al→List Asn→List Asn→Prop}(hx:evl al x=some (.bool false))(h:W E N b al L P Q):W E N (.cond x a b) al L P Q:=W.cond hx h
theorem W.ite{x:Operand}{a b:Code}{t:Bool}{al:Al}{L P:List Asn}{Q:X→Al→List Asn→List Asn→Prop}(hx:evl al x=some (.bool t))(h1:t=true→W E N a al L P Q)(h2:t=false→W E N b al L P Q):W E N (.cond x a b) al L P Q:=by
 refine W.cond hx ?_;cases t with
 |true=>exact h1 rfl
 |false=>exact h2 rfl
def QH(R:Al→List Asn→List Asn→Prop)(Q:X→Al→List Asn→List Asn→Prop):X→Al→List Asn→List Asn→Prop
 |.nor,al,L,P=>R al L P
 |.exit i,al,L,P=>Q (.exit i) al L P
 |.ret,al,L,P=>Q .ret al L P
theorem W.cut{a b:Code}{al:Al}{L P:List Asn}{Q:X→Al→List Asn→List Asn→Prop}(R:Al→List Asn→List Asn→Prop)(h1:W E N a al L P (QH R Q))(h2:∀al L P,R al L P→W E N b al L P Q):W E N (.seq a b) al L P Q:=
 W.seq (h1.mono (fun x al L P h=>by
  cases x with
  |nor=>exact h2 _ _ _ h
  |exit i=>exact h
  |ret=>exact h))
def Zju(i:Nat)(Q:X→Al→List Asn→List Asn→Prop):X→Al→List Asn→List Asn→Prop
 |.nor,al,L,P=>Q .nor al L P
 |.exit j,al,L,P=>Q (bif Za j i then .nor else .exit j) al L P
 |.ret,al,L,P=>Q .ret al L P
theorem W.block{i:Nat}{b:Code}{al:Al}{L P:List Asn}{Q:X→Al→List Asn→List Asn→Prop}(h:W E N b al L P (Zju i Q)):W E N (.block i b) al L P Q:=by
 intro S s tm hs ha;obtain⟨x,tm1,s1,S1,al1,L1,P1,⟨F,D,F',e⟩,ht,ha1,hs1,hq⟩:=h S s tm hs ha;have hb:F4 i b E (Gw E F D) N (Hp E (Gw E F D) N F') tm s=match (some (x,tm1,s1):Nq)with
   |none=>none
   |some (x,tm',s')=>match x with
    |.exit j=>bif Za j i then some (.nor,tm',s')else some (.exit j,tm',s')
    |x=>some (x,tm',s'):=by
  unfold F4;rw[e];cases x<;>rfl
 cases x with
 |nor=>exact⟨.nor,tm1,s1,S1,al1,L1,P1,⟨F,D,F'+1,hb⟩,ht,ha1,hs1,hq⟩
 |ret=>exact⟨.ret,tm1,s1,S1,al1,L1,P1,⟨F,D,F'+1,hb⟩,ht,ha1,hs1,hq⟩
 |exit j=>
  refine⟨_,tm1,s1,S1,al1,L1,P1,⟨F,D,F'+1,?_⟩,ht,ha1,hs1,hq⟩;refine Eq.trans hb ?_;show(bif Za j i then some (X.nor,tm1,s1)else some (.exit j,tm1,s1))=some (bif Za j i then X.nor else .exit j,tm1,s1);cases Za j i<;>rfl
theorem W.keep{c:Code}{al al':Al}{L P:List Asn}{Q:X→Al→List Asn→List Asn→Prop}(h:Cm al' al)(hk:W E N c al' L P Q):W E N c al L P Q:=
 fun S s tm hs ha=>hk S s tm hs (h.has ha)
def Ent(L P L' P':List Asn):Prop:=∀S s,Sat L P S s→∃S',(∀b,S' b→S b)∧Sat L' P' S' s
theorem Ru{S S':Nat→Prop}{s:AS}(h:∀b,S' b→S b):Tr S s S' s:=⟨Ze _,fun _ _ _=>rfl,fun b e=>.inl (h b e),fun _ h=>h⟩
theorem W.ent{c:Code}{al:Al}{L P L' P':List Asn}{Q:X→Al→List Asn→List Asn→Prop}(h:Ent L P L' P')(hk:W E N c al L' P' Q):W E N c al L P Q:=by
 intro S s tm hs ha;obtain⟨S',h1,h2⟩:=h S s hs;obtain⟨x,tm1,s1,S1,al1,L1,P1,e,ht,hr⟩:=hk S' s tm h2 ha;exact⟨x,tm1,s1,S1,al1,L1,P1,e,(Ru h1).trans ht,hr⟩
def QM{α:Type}(J:α→Prop)(μ:α→Nat)(al:α→Al)(L P:α→List Asn)(n:Nat)(Q:X→Al→List Asn→List Asn→Prop):X→Al→List Asn→List Asn→Prop
 |.nor,al',L',P'=>∃a,J a∧μ a<n∧Cm (al a) al'∧Ent L' P' (L a) (P a)
 |.exit i,al',L',P'=>Q (.exit i) al' L' P'
 |.ret,al',L',P'=>Q .ret al' L' P'
theorem W.loop_at{α:Type}(J:α→Prop)(μ:α→Nat)(al:α→Al)(L P:α→List Asn){b:Code}{Q:X→Al→List Asn→List Asn→Prop}(h:∀a,J a→W E N b (al a) (L a) (P a) (QM J μ al L P (μ a) Q)):∀(n:Nat) (a:α),μ a≤n→J a→W E N (.loop b) (al a) (L a) (P a) Q:=by
 intro n
 induction n with
 |zero=>
  intro a hn hj S s tm hs ha;obtain⟨x,tm1,s1,S1,al1,L1,P1,⟨F,D,F',e⟩,ht,ha1,hs1,hq⟩:=h a hj S s tm hs ha;have hl:C3 b E (Gw E F D) N (Hp E (Gw E F D) N F') tm s=match (some (x,tm1,s1):Nq)with
   |none=>none
   |some (x,tm',s')=>match x with
    |.nor=>Hp E (Gw E F D) N F' (.loop b) tm' s'
    |x=>some (x,tm',s'):=by
   unfold C3;rw[e];cases x<;>rfl
  cases x with
  |nor=>obtain⟨a',_,h2,_⟩:=hq;omega
  |exit i=>exact⟨_,tm1,s1,S1,al1,L1,P1,⟨F,D,F'+1,hl⟩,ht,ha1,hs1,hq⟩
  |ret=>exact⟨_,tm1,s1,S1,al1,L1,P1,⟨F,D,F'+1,hl⟩,ht,ha1,hs1,hq⟩
 |succ n ih=>
  intro a hn hj S s tm hs ha;obtain⟨x,tm1,s1,S1,al1,L1,P1,⟨F,D,F',e⟩,ht,ha1,hs1,hq⟩:=h a hj S s tm hs ha;have hl:∀G H,F≤G→D≤H→∀G',F'≤G'→C3 b E (Gw E G H) N (Hp E (Gw E G H) N G') tm s=match (some (x,tm1,s1):Nq)with
   |none=>none
   |some (x,tm',s')=>match x with
    |.nor=>Hp E (Gw E G H) N G' (.loop b) tm' s'
    |x=>some (x,tm',s'):=fun G H h1 h2 G' h3=>by
   unfold C3;rw[T8 (Nh D H F G h2 h1) F' G' h3 _ _ _ _ e];cases x<;>rfl
  cases x with
  |nor=>
   obtain⟨a',h1,h2,h3,h4⟩:=hq;obtain⟨S2,h5,h6⟩:=h4 S1 s1 hs1;obtain⟨y,tm2,s2,S3,al2,L2,P2,⟨G,H,G',e2⟩,ht2,hr⟩:=ih a' (by omega) h1 S2 s1 tm1 h6 (h3.has ha1);refine⟨y,tm2,s2,S3,al2,L2,P2,⟨max F G,max D H,max F' G'+1,?_⟩,ht.trans ((Ru h5).trans ht2),hr⟩;refine Eq.trans (hl (max F G) (max D H) (by omega) (by omega) (max F' G') (by omega)) ?_;exact T8 (Nh H (max D H) G (max F G) (by omega) (by omega)) G' (max F' G') (by omega) _ _ _ _ e2
  |exit i=>exact⟨_,tm1,s1,S1,al1,L1,P1,⟨F,D,F'+1,hl F D (Ze _) (Ze _) F' (Ze _)⟩,ht,ha1,hs1,hq⟩
  |ret=>exact⟨_,tm1,s1,S1,al1,L1,P1,⟨F,D,F'+1,hl F D (Ze _) (Ze _) F' (Ze _)⟩,ht,ha1,hs1,hq⟩
theorem W.loop{α:Type}(J:α→Prop)(μ:α→Nat)(al:α→Al)(L P:α→List Asn){b:Code}{al0:Al}{L0 P0:List Asn}{Q:X→Al→List Asn→List Asn→Prop}(a0:α)(h0:J a0)(hs:Cm (al a0) al0)(he:Ent L0 P0 (L a0) (P a0))
  (h:∀a,J a→W E N b (al a) (L a) (P a) (QM J μ al L P (μ a) Q)):W E N (.loop b) al0 L0 P0 Q:=
 W.keep hs (W.ent he (W.loop_at J μ al L P h (μ a0) a0 (Ze _) h0))
theorem Ent.refl(L P:List Asn):Ent L P L P:=fun S s h=>⟨S,fun _ e=>e,h⟩
theorem W.region{id:Nat}{ops:Array Oper}{al:Al}{L P:List Asn}{Q:X→Al→List Asn→List Asn→Prop}(h:WR E N ops.toList ops.toList al L P (Q .nor)):W E N (.region id ops false) al L P Q:=by
 intro S s tm hs ha;obtain⟨tm1,s1,S1,al1,L1,P1,⟨F,D,e⟩,hr⟩:=h S s tm hs ha;refine⟨.nor,tm1,s1,S1,al1,L1,P1,⟨F,D,1,?_⟩,hr⟩;rw[JZ];unfold C1;simp only[cond_false];rw[e]
theorem WR.nil{ops:List Oper}{al:Al}{L P:List Asn}{Q:Al→List Asn→List Asn→Prop}(h:Q al L P):WR E N ops [] al L P Q:=
 fun S s tm hs ha=>⟨tm,s,S,al,L,P,⟨0,0,rfl⟩,.refl _ _,ha,hs,h⟩
def WO(E:Env)(op:Op)(al:Al)(L P:List Asn)(Q:Value→List Asn→List Asn→Prop):Prop:=
 ∀S s tm,Sat L P S s→Has al tm→∃v s' S' L' P',(∃F D,Hb op E (Gw E F D) tm s=some (v,s'))∧Tr S s S' s'∧Sat L' P' S' s'∧Q v L' P'
theorem WR.op{ops l:List Oper}{o:Oper}{d:Nat}{al:Al}{L P:List Asn}{Q:Al→List Asn→List Asn→Prop}(hg:o.guard=none)(hd:o.dst=some d)(hN:Zb d N=true)(h:WO E o.op al L P (fun v L' P'=>WR E N ops l ((d,v)::al) L' P' Q)):WR E N ops (o::l) al L P Q:=by
 intro S s tm hs ha;obtain⟨v,s1,S1,L1,P1,⟨F,D,e⟩,ht,hs1,hq⟩:=h S s tm hs ha;obtain⟨tm2,s2,S2,al2,L2,P2,⟨G,H,e2⟩,ht2,hr⟩:=hq S1 s1 (tm.set d v) hs1 (ha.set d v);refine⟨tm2,s2,S2,al2,L2,P2,⟨max F G,max D H,?_⟩,ht.trans ht2,hr⟩;have hw:Ha ops tm o=some true:=by unfold Ha;rw[hg]
 rw[D6,hw];simp only;rw[kf (Nh D (max D H) F (max F G) (by omega) (by omega)) e];simp only;have hp:Gq N tm o.dst v=some (tm.set d v):=by unfold Gq;rw[hd];simp only[hN,cond_true]
 rw[hp];exact Rs (Nh H (max D H) G (max F G) (by omega) (by omega)) _ e2
theorem WR.op0{ops l:List Oper}{o:Oper}{al:Al}{L P:List Asn}{Q:Al→List Asn→List Asn→Prop}(hg:o.guard=none)(hd:o.dst=none)(h:WO E o.op al L P (fun _ L' P'=>WR E N ops l al L' P' Q)):WR E N ops (o::l) al L P Q:=by
 intro S s tm hs ha;obtain⟨v,s1,S1,L1,P1,⟨F,D,e⟩,ht,hs1,hq⟩:=h S s tm hs ha;obtain⟨tm2,s2,S2,al2,L2,P2,⟨G,H,e2⟩,ht2,hr⟩:=hq S1 s1 tm hs1 ha;refine⟨tm2,s2,S2,al2,L2,P2,⟨max F G,max D H,?_⟩,ht.trans ht2,hr⟩;have hw:Ha ops tm o=some true:=by unfold Ha;rw[hg]
 rw[D6,hw];simp only;rw[kf (Nh D (max D H) F (max F G) (by omega) (by omega)) e];simp only;have hp:Gq N tm o.dst v=some tm:=by unfold Gq;rw[hd]
 rw[hp];exact Rs (Nh H (max D H) G (max F G) (by omega) (by omega)) _ e2
end Go.Lx
namespace Go.Lx
open Go Go.Ax
variable {E:Env}{N:Nat}{ops l:List Oper}{al:Al}{L P:List Asn}{Q:Al→List Asn→List Asn→Prop}{pos:String}{af:Array Edge}
def Pt(b:Nat)(cs:List Value)(z:Nat):Asn where
 p:=fun S h=>S b∧∃c,h.get b=some (.cells c cs.length z)∧∀k,k<cs.length→c.get k=cs[k]?
 loc:=fun S h h' e ⟨h1,c,h2,h3⟩=>⟨h1,c,by rw[e b h1,h2],h3⟩
def Mp(r:Nat)(es:List (Value×Value)):Asn where
 p:=fun S h=>S r∧h.get r=some (.map es)
 loc:=fun S h h' e ⟨h1,h2⟩=>⟨h1,by rw[e r h1,h2]⟩
theorem Own.mem{A:Asn}:∀ {L:List Asn} {S:Nat→Prop} {h:T Gg},A∈L→Own L S h→∃U,(∀b,U b→S b)∧A.p U h
 |[],_,_,hm,_=>by cases hm
 |B::L,S,h,hm,⟨S1,S2,h1,h2,_,ha,hl⟩=>by
  cases hm with
  |head=>exact⟨S1,h1,ha⟩
  |tail _ hm=>
   obtain⟨U,hu,hp⟩:=Own.mem hm hl;exact⟨U,fun b hb=>h2 b (hu b hb),hp⟩
inductive In(A:Asn):List Asn→List Asn→Prop
 |l {L P:List Asn} (h:A∈L):In A L P
 |p {L P:List Asn} (h:A∈P):In A L P
theorem In.l0{A:Asn}{L P:List Asn}:In A (A::L) P:=.l (.head _)
theorem In.l1{A B:Asn}{L P:List Asn}:In A (B::A::L) P:=.l (.tail _ (.head _))
theorem In.l2{A B C:Asn}{L P:List Asn}:In A (B::C::A::L) P:=.l (.tail _ (.tail _ (.head _)))
theorem In.l3{A B C D:Asn}{L P:List Asn}:In A (B::C::D::A::L) P:=.l (.tail _ (.tail _ (.tail _ (.head _))))
theorem In.l4{A B C D F:Asn}{L P:List Asn}:In A (B::C::D::F::A::L) P:=.l (.tail _ (.tail _ (.tail _ (.tail _ (.head _)))))
theorem In.l5{A B C D F G:Asn}{L P:List Asn}:In A (B::C::D::F::G::A::L) P:=.l (.tail _ (.tail _ (.tail _ (.tail _ (.tail _ (.head _))))))
theorem In.l6{A B C D F G H:Asn}{L P:List Asn}:In A (B::C::D::F::G::H::A::L) P:=.l (.tail _ (.tail _ (.tail _ (.tail _ (.tail _ (.tail _ (.head _)))))))
theorem In.l7{A B C D F G H I:Asn}{L P:List Asn}:In A (B::C::D::F::G::H::I::A::L) P:=.l (.tail _ (.tail _ (.tail _ (.tail _ (.tail _ (.tail _ (.tail _ (.head _))))))))
theorem In.l8{A B C D F G H I J:Asn}{L P:List Asn}:In A (B::C::D::F::G::H::I::J::A::L) P:=.l (.tail _ (.tail _ (.tail _ (.tail _ (.tail _ (.tail _ (.tail _ (.tail _ (.head _)))))))))
theorem In.p0{A:Asn}{L P:List Asn}:In A L (A::P):=.p (.head _)
theorem In.p1{A B:Asn}{L P:List Asn}:In A L (B::A::P):=.p (.tail _ (.head _))
theorem In.p2{A B C:Asn}{L P:List Asn}:In A L (B::C::A::P):=.p (.tail _ (.tail _ (.head _)))
theorem In.holds{A:Asn}{L P:List Asn}(h:In A L P){S:Nat→Prop}{s:AS}(hs:Sat L P S s):∃U,A.p U s.h∧∀b,U b→s.h.get b≠none:=by
 cases h with
 |l h=>
  obtain⟨U,h1,h2⟩:=hs.own.mem h;exact⟨U,h2,fun b hb=>hs.ex b (h1 b hb)⟩
 |p h=>
  obtain⟨U,h1,h2⟩:=hs.per A h;exact⟨U,h1,fun b hb=>(h2 b hb).2⟩
theorem N7{a b:Nat}:Zh a b=true↔a<b:=by rw[Yj]
theorem QN{b:Nat}{cs:List Value}{z:Nat}(h:In (Pt b cs z) L P){S:Nat→Prop}{s:AS}(hs:Sat L P S s){o:Nat}{v:Value}(hv:cs[o]? =some v):rd s b o=some v:=by
 obtain⟨U,⟨_,c,h1,h2⟩,_⟩:=h.holds hs;have hlt:o<cs.length:=(Yc.1 hv).1;unfold rd;rw[h1];have:Zh o cs.length=true:=by rw[Yj];exact hlt
 simp only[this,cond_true];rw[h2 o hlt,hv]
theorem T.list_of{α:Type}(t:T α):∀(n i:Nat) (l:List α),l.length=n→(∀k,k<n→t.get (i+k)=l[k]?)→t.list n i=some l
 |0,i,l,h,_=>by
  rw[T.list_zero];cases l with
  |nil=>rfl
  |cons x l=>cases h
 |n+1,i,l,h,hk=>by
  cases l with
  |nil=>cases h
  |cons x l=>
   have h0:=hk 0 (by omega);have ih:=T.list_of t n (i+1) l (by simpa using h) (fun k hk'=>by
    have:=hk (k+1) (by omega);rw[show i+1+k=i+(k+1) by omega];simpa using this)
   rw[T.list_succ];simp only[Yg,Y7]at h0;rw[h0,ih]
theorem JY{b:Nat}{cs:List Value}{z:Nat}(h:In (Pt b cs z) L P){S:Nat→Prop}{s:AS}(hs:Sat L P S s){o n:Nat}(hv:o+n≤cs.length):rdN s b o n=some ((cs.drop o).take n):=by
 obtain⟨U,⟨_,c,h1,h2⟩,_⟩:=h.holds hs;unfold rdN;rw[h1];have:Zb (o+n) cs.length=true:=Z0 hv;simp only[this,cond_true];refine T.list_of _ _ _ _ (by rw[List.length_take,List.length_drop];omega) (fun k hk=>?_);rw[h2 (o+k) (by omega),List.getElem?_take,if_pos hk,List.getElem?_drop]
theorem WO.pure{op:Op}{v:Value}{Q:Value→List Asn→List Asn→Prop}(hc:∀call tm s,Has al tm→Hb op E call tm s=some (v,s))(h:Q v L P):WO E op al L P Q:=
 fun S s tm hs ha=>⟨v,s,S,L,P,⟨0,0,hc _ tm s ha⟩,.refl _ _,hs,h⟩
theorem WO.see{op:Op}{v:Value}{Q:Value→List Asn→List Asn→Prop}(hc:∀call tm S s,Sat L P S s→Has al tm→Hb op E call tm s=some (v,s))(h:Q v L P):WO E op al L P Q:=
 fun S s tm hs ha=>⟨v,s,S,L,P,⟨0,0,hc _ tm S s hs ha⟩,.refl _ _,hs,h⟩
def Pu(E:Env)(al:Al)(op:Op)(v:Value):Prop:=(∀call tm s,Hb op E call tm s=opA op E tm s)∧∀tm s,Has al tm→opA op E tm s=some (v,s)
theorem WR.pu{d t:Nat}{op:Op}{v:Value}(hp:Pu E al op v)(h:WR E N ops l ((d,v)::al) L P Q)(hN:Zb d N=true:=by rfl):WR E N ops (⟨some d,op,t,pos,af,none⟩::l) al L P Q:=
 WR.op rfl rfl hN (WO.pure (fun call tm s ha=>by rw[hp.1];exact hp.2 tm s ha) h)
theorem Pu.mv{x:Operand}{v:Value}(hx:evl al x=some v:=by rfl):Pu E al (.move x) v:=⟨fun _ _ _=>rfl,fun tm s ha=>by show B5 x E tm s=_;unfold B5;rw[Gm ha hx]⟩
theorem Pu.as{x:Operand}{v:Value}(hx:evl al x=some v:=by rfl):Pu E al (.assign x) v:=⟨fun _ _ _=>rfl,fun tm s ha=>by show B5 x E tm s=_;unfold B5;rw[Gm ha hx]⟩
theorem Pu.pk{c x y:Operand}{b:Bool}{v:Value}(hc:evl al c=some (.bool b):=by rfl)(hx:evl al (bif b then x else y)=some v:=by rfl):Pu E al (.pick c x y) v:=
 ⟨fun _ _ _=>rfl,fun tm s ha=>by show Cz c x y E tm s=_;unfold Cz;rw[Gm ha hc];simp only;rw[Gm ha hx]⟩
theorem Pu.nc{x:Operand}{p:Addr}(hx:evl al x=some (.pointer (some p)):=by rfl):Pu E al (.nilCheck x) (.pointer (some p)):=⟨fun _ _ _=>rfl,fun tm s ha=>by show R9 x E tm s=_;unfold R9;rw[Gm ha hx]⟩
theorem Pu.ex{x:Operand}{i:Nat}{vs:Array Value}{v:Value}(hx:evl al x=some (.tuple vs):=by rfl)(hv:vs.toList[i]? =some v:=by rfl):Pu E al (.extract x i) v:=
 ⟨fun _ _ _=>rfl,fun tm s ha=>by show Fy x i E tm s=_;unfold Fy;rw[Gm ha hx];simp only;rw[hv]⟩
theorem Pu.nt{x:Operand}{u:Nat}{b:Bool}(hx:evl al x=some (.bool b):=by rfl):Pu E al (.unOp .not u x) (.bool (!b)):=⟨fun _ _ _=>rfl,fun tm s ha=>by show hUn .not x E tm s=_;unfold hUn;rw[Gm ha hx];rfl⟩
theorem Pu.mf{f:Fn}{a b:Array Operand}{as bs:List Value}(hx:Me al a.toList=some as:=by rfl)(hy:Me al b.toList=some bs:=by rfl):Pu E al (.makeFunc f a b) (.func f ⟨as⟩ ⟨bs⟩):=
 ⟨fun _ _ _=>rfl,fun tm s ha=>by show Fv f a b E tm s=_;unfold Fv;rw[kg ha hx,kg ha hy]⟩
noncomputable def fo(E:Env)(t:TypeId)(f:Nat):Option Nat:=
 match E.ty.get t with
 |some i=>match i.desc with
  |.struct fs=>match fs.toList[f]? with
   |some fd=>match E.ty.get fd.type with
    |some j=>bif Za j.size 0 then none else some fd.offset
    |none=>none
   |none=>none
  |_=>none
 |none=>none
theorem Pu.fa{x:Operand}{u f:Nat}{b o n o':Nat}(hx:evl al x=some (.pointer (some ⟨b,o,none⟩)):=by rfl)(hf:fo E u f=some n:=by rfl)(ho:o+n=o':=by first|(simp only[Nat.reduceAdd,Yg,Zw];exact rfl)|exact rfl):Pu E al (.fieldAddr u x f) (.pointer (some ⟨b,o',none⟩)):=
 ⟨fun _ _ _=>rfl,fun tm s ha=>by
  subst ho;show Fw u x f E tm s=_;unfold Fw;unfold fo at hf;cases hi:E.ty.get u with
  |none=>rw[hi]at hf;cases hf
  |some i=>
   rw[hi]at hf;rw[Gm ha hx];simp only at hf ⊢;cases hd:i.desc with
   |struct fs=>
    rw[hd]at hf;simp only at hf ⊢;cases hfd:fs.toList[f]? with
    |none=>rw[hfd]at hf;cases hf
    |some fd=>
     rw[hfd]at hf;simp only at hf ⊢;cases hj:E.ty.get fd.type with
     |none=>rw[hj]at hf;cases hf
     |some j=>
      rw[hj]at hf;simp only at hf ⊢;cases hz:Za j.size 0 with
      |true=>rw[hz]at hf;cases hf
      |false=>
       rw[hz]at hf;simp only[cond_false,Option.some.injEq]at hf ⊢;rw[natK_eq,hf]
   |_=>rw[hd]at hf;cases hf⟩
noncomputable def ldv(E:Env)(t:TypeId)(cs:List Value)(o:Nat):Option Value:=
 match E.ty.get t with
 |none=>none
 |some i=>bif Hw i.desc then(bif Zb (o+i.size) cs.length then some (.agg ⟨(cs.drop o).take i.size⟩)else none)else cs[o]?
def D7(s s':AS):Prop:=∀b o,s.h.get b=some o→s'.h.get b=some o
theorem D7.refl(s:AS):D7 s s:=fun _ _ h=>h
def Lk(E:Env)(al:Al)(L P:List Asn)(op:Op)(v:Value):Prop:=(∀call tm s,Hb op E call tm s=opA op E tm s)∧∀tm S s,Has al tm→Sat L P S s→∀s',opA op E tm s'=some (v,s')
def Ld(E:Env)(al:Al)(op:Op)(v:Value)(ok:List Asn→List Asn→Prop):Prop:=(∀call tm s,Hb op E call tm s=opA op E tm s)∧∀tm,Has al tm→∀L P S s s',Sat L P S s→D7 s s'→ok L P→opA op E tm s'=some (v,s')
theorem WR.lk{d t:Nat}{op:Op}{v:Value}(hp:Lk E al L P op v)(h:WR E N ops l ((d,v)::al) L P Q)(hN:Zb d N=true:=by rfl):WR E N ops (⟨some d,op,t,pos,af,none⟩::l) al L P Q:=
 WR.op rfl rfl hN (WO.see (fun call tm S s hs ha=>by rw[hp.1];exact hp.2 tm S s ha hs s) h)
theorem WR.lo{d t:Nat}{op:Op}{v:Value}{ok:List Asn→List Asn→Prop}(hp:Ld E al op v ok)(hk:ok L P)(h:WR E N ops l ((d,v)::al) L P Q)(hN:Zb d N=true:=by rfl):WR E N ops (⟨some d,op,t,pos,af,none⟩::l) al L P Q:=
 WR.op rfl rfl hN (WO.see (fun call tm S s hs ha=>by rw[hp.1];exact hp.2 tm ha L P S s s hs (D7.refl s) hk) h)
theorem yh{s s':AS}(he:D7 s s'){b o:Nat}{v:Value}(h:rd s b o=some v):rd s' b o=some v:=by
 unfold rd at h ⊢;cases hg:s.h.get b with
 |none=>rw[hg]at h;cases h
 |some x=>rw[hg]at h;rw[he b x hg];exact h
theorem QB{s s':AS}(he:D7 s s'){b o n:Nat}{v:List Value}(h:rdN s b o n=some v):rdN s' b o n=some v:=by
 unfold rdN at h ⊢;cases hg:s.h.get b with
 |none=>rw[hg]at h;cases h
 |some x=>rw[hg]at h;rw[he b x hg];exact h
theorem Zjv{x:Operand}{u b o:Nat}{cs:List Value}{v:Value}{tm:Tm}{s:AS}(ha:Has al tm)(hx:evl al x=some (.pointer (some ⟨b,o,none⟩)))(hv:ldv E u cs o=some v)(h1:∀w,cs[o]? =some w→rd s b o=some w)(h2:∀n,o+n≤cs.length→rdN s b o n=some ((cs.drop o).take n)):Bd u x E tm s=some (v,s):=by
 unfold Bd;unfold ldv at hv;cases hi:E.ty.get u with
 |none=>rw[hi]at hv;cases hv
 |some i=>
  rw[hi]at hv;rw[Gm ha hx];simp only at hv ⊢;cases hd:Hw i.desc with
  |true=>
   rw[hd]at hv;simp only[cond_true]at hv ⊢;cases hb:Zb (o+i.size) cs.length with
   |false=>rw[hb]at hv;cases hv
   |true=>
    rw[hb]at hv;simp only[cond_true,Option.some.injEq]at hv;rw[h2 _ (Yr hb)];simp only[hv]
  |false=>
   rw[hd]at hv;simp only[cond_false]at hv ⊢;rw[h1 _ hv]
def JX(E:Env)(u b o:Nat)(v:Value)(L P:List Asn):Prop:=∃cs z,In (Pt b cs z) L P∧ldv E u cs o=some v
theorem Ld.ld{x:Operand}{u b o:Nat}{v:Value}(hx:evl al x=some (.pointer (some ⟨b,o,none⟩)):=by rfl):Ld E al (.load u x) v (JX E u b o v):=
 ⟨fun _ _ _=>rfl,fun tm ha L P S s s' hs he ⟨cs,z,hm,hv⟩=>Zjv ha hx hv (fun w hw=>yh he (QN hm hs hw)) (fun n hn=>QB he (JY hm hs hn))⟩
theorem JX.mk{u b o z:Nat}{cs:List Value}{v:Value}(hm:In (Pt b cs z) L P:=by first|exact .l0|exact .l1|exact .l2|exact .l3|exact .l4|exact .l5|exact .l6|exact .l7|exact .l8|exact .l9|exact .p0|exact .p1|exact .p2|exact .p3|exact .p (by assumption)|exact .h1 (by assumption)|exact .h2 (by assumption)|exact .h3 (by assumption)|exact .g0 (by assumption)|exact .g1 (by assumption))(hv:ldv E u cs o=some v:=by rfl):JX E u b o v L P:=⟨cs,z,hm,hv⟩
theorem WR.ld{x:Operand}{d t u:Nat}{b o:Nat}{cs:List Value}{z:Nat}{v:Value}(h:WR E N ops l ((d,v)::al) L P Q)(hx:evl al x=some (.pointer (some ⟨b,o,none⟩)):=by rfl)
  (hm:In (Pt b cs z) L P:=by first|exact .l0|exact .l1|exact .l2|exact .l3|exact .l4|exact .l5|exact .l6|exact .l7|exact .l8|exact .l9|exact .p0|exact .p1|exact .p2|exact .p3|exact .p (by assumption)|exact .h1 (by assumption)|exact .h2 (by assumption)|exact .h3 (by assumption)|exact .g0 (by assumption)|exact .g1 (by assumption))
  (hv:ldv E u cs o=some v:=by rfl) (hN:Zb d N=true:=by rfl):WR E N ops (⟨some d,.load u x,t,pos,af,none⟩::l) al L P Q:=WR.lo (Ld.ld hx) ⟨cs,z,hm,hv⟩ h hN
theorem WR.lda{x:Operand}{d t u:Nat}{b o:Nat}{cs vs:List Value}{z:Nat}(h:WR E N ops l ((d,.agg ⟨vs⟩)::al) L P Q)(hx:evl al x=some (.pointer (some ⟨b,o,none⟩)):=by rfl)
  (hm:In (Pt b cs z) L P:=by first|exact .l0|exact .l1|exact .l2|exact .l3|exact .l4|exact .l5|exact .l6|exact .l7|exact .l8|exact .l9|exact .p0|exact .p1|exact .p2|exact .p3|exact .p (by assumption)|exact .h1 (by assumption)|exact .h2 (by assumption)|exact .h3 (by assumption)|exact .g0 (by assumption)|exact .g1 (by assumption))
  (hv:ldv E u cs o=some (.agg ⟨vs⟩):=by rfl) (hN:Zb d N=true:=by rfl):WR E N ops (⟨some d,.load u x,t,pos,af,none⟩::l) al L P Q:=WR.lo (Ld.ld hx) ⟨cs,z,hm,hv⟩ h hN
theorem JV{n:Int}(h: -9223372036854775808≤n∧n<9223372036854775808):Ba .i64 n=some (.int .i64 n):=by
 have e:Cu .i64 n=n:=by
  show wrS 18446744073709551616 9223372036854775808 n=n;unfold wrS;rw[natK_eq];cases n with
  |ofNat a=>
   have h2:a<9223372036854775808:=by have:=h.2;simp only[Xv]at this;omega
   have e1:H7 (.ofNat a) 18446744073709551616=a:=by show a%_=a;omega
   rw[e1];have:Zh a 9223372036854775808=true:=by rw[Yj];exact h2
   simp[this]
  |negSucc a=>
   have h1:a<9223372036854775808:=by have:=h.1;rw[Xq]at this;omega
   have e1:H7 (.negSucc a) 18446744073709551616=18446744073709551615-a:=by show 18446744073709551616-1-a%_=_;omega
   rw[e1];have:Zh (18446744073709551615-a) 9223372036854775808=false:=by
    cases hb:Zh (18446744073709551615-a) 9223372036854775808 with
    |false=>rfl
    |true=>rw[Yj]at hb;omega
   rw[this];simp only[cond_false];congr 1;omega
 unfold Ba;rw[e];unfold Dh;cases n<;>simp only[natK_eq]
theorem kh{op:BinOp}{u:TypeId}{x y:Operand}{k k':IntKind}{a b:Int}{v:Value}(hx:evl al x=some (.int k a))(hy:evl al y=some (.int k' b))(h:Fh op k a k' b=some v)(tm:Tm)(s:AS)(ha:Has al tm):M5 op u x y E tm s=some (v,s):=by
 unfold M5;rw[Gm ha hx,Gm ha hy];simp only;have:Fj E s op u x y (.int k a) (.int k' b)=some v:=h;rw[this]
theorem Pu.add{x y:Operand}{u r:Nat}{a b:Int}(hx:evl al x=some (.int .i64 a):=by rfl)(hy:evl al y=some (.int .i64 b):=by rfl)(hr: -9223372036854775808≤a+b∧a+b<9223372036854775808:=by omega):Pu E al (.binOp .add u x y r) (.int .i64 (a+b)):=
 ⟨fun _ _ _=>rfl,fun tm s ha=>kh hx hy (by exact JV hr) tm s ha⟩
theorem Pu.sub{x y:Operand}{u r:Nat}{a b:Int}(hx:evl al x=some (.int .i64 a):=by rfl)(hy:evl al y=some (.int .i64 b):=by rfl)(hr: -9223372036854775808≤a-b∧a-b<9223372036854775808:=by omega):Pu E al (.binOp .sub u x y r) (.int .i64 (a-b)):=
 ⟨fun _ _ _=>rfl,fun tm s ha=>kh hx hy (by exact JV hr) tm s ha⟩
theorem Pu.mul{x y:Operand}{u r:Nat}{a b:Int}(hx:evl al x=some (.int .i64 a):=by rfl)(hy:evl al y=some (.int .i64 b):=by rfl)(hr: -9223372036854775808≤a*b∧a*b<9223372036854775808:=by omega):Pu E al (.binOp .mul u x y r) (.int .i64 (a*b)):=
 ⟨fun _ _ _=>rfl,fun tm s ha=>kh hx hy (by exact JV hr) tm s ha⟩
theorem ilt_eq(a b:Int):ilt a b=decide (a<b):=by
 cases a<;>cases b<;>simp only[ilt]
 ·rename_i a b;by_cases h:a<b
  ·rw[decide_eq_true (by simp only[Xv];omega),N7.2 h]
  ·rw[decide_eq_false (by simp only[Xv];omega)];cases hb:Zh a b with
   |false=>rfl
   |true=>exact absurd (N7.1 hb) h
 ·rename_i a b;rw[decide_eq_false (by rw[Xq];simp only[Xv];omega)]
 ·rename_i a b;rw[decide_eq_true (by rw[Xq];simp only[Xv];omega)]
 ·rename_i a b;by_cases h:b<a
  ·rw[decide_eq_true (by rw[Xq,Xq];omega),N7.2 h]
  ·rw[decide_eq_false (by rw[Xq,Xq];omega)];cases hb:Zh b a with
   |false=>rfl
   |true=>exact absurd (N7.1 hb) h
theorem ieq_eq(a b:Int):ieq a b=decide (a=b):=by
 cases a<;>cases b<;>simp only[ieq]
 ·rename_i a b;by_cases h:a=b
  ·subst h;simp
  ·rw[decide_eq_false (by simp only[Xv,Xq];omega)];cases hb:Za a b with
   |false=>rfl
   |true=>exact absurd (Zv hb) h
 ·rw[decide_eq_false (by simp)]
 ·rw[decide_eq_false (by simp)]
 ·rename_i a b;by_cases h:a=b
  ·subst h;simp
  ·rw[decide_eq_false (by simp only[Xv,Xq];omega)];cases hb:Za a b with
   |false=>rfl
   |true=>exact absurd (Zv hb) h
theorem M9(k:IntKind):Hy k k=true:=by cases k<;>rfl
def kj :BinOp→Int→Int→Option Bool
 |.lss,a,b=>some (decide (a<b))
 |.leq,a,b=>some (decide (a≤b))
 |.gtr,a,b=>some (decide (b<a))
 |.geq,a,b=>some (decide (b≤a))
 |.eql,a,b=>some (decide (a=b))
 |.neq,a,b=>some (decide (a≠b))
 |_,_,_=>none
theorem Zjw{op:BinOp}{k:IntKind}{a b:Int}{t:Bool}(h:kj op a b=some t):Fh op k a k b=some (.bool t):=by
 cases op<;>simp only[kj,Option.some.injEq,reduceCtorEq]at h
 ·show(bif Hy k k then H4 .eql k a b else none)=_;rw[M9];show some (Value.bool (ieq a b))=_;rw[ieq_eq,h]
 ·show(bif Hy k k then H4 .neq k a b else none)=_;rw[M9];show some (Value.bool (!ieq a b))=_;rw[ieq_eq,←h];by_cases e:a=b<;>simp[e]
 ·show(bif Hy k k then H4 .lss k a b else none)=_;rw[M9];show some (Value.bool (ilt a b))=_;rw[ilt_eq,h]
 ·show(bif Hy k k then H4 .leq k a b else none)=_;rw[M9];show some (Value.bool (!ilt b a))=_;rw[ilt_eq,←h];by_cases e:b<a
  ·rw[decide_eq_true e,decide_eq_false (by omega)];rfl
  ·rw[decide_eq_false e,decide_eq_true (by omega)];rfl
 ·show(bif Hy k k then H4 .gtr k a b else none)=_;rw[M9];show some (Value.bool (ilt b a))=_;rw[ilt_eq,h]
 ·show(bif Hy k k then H4 .geq k a b else none)=_;rw[M9];show some (Value.bool (!ilt a b))=_;rw[ilt_eq,←h];by_cases e:a<b
  ·rw[decide_eq_true e,decide_eq_false (by omega)];rfl
  ·rw[decide_eq_false e,decide_eq_true (by omega)];rfl
theorem Pu.cmp{op:BinOp}{x y:Operand}{u r:Nat}{k:IntKind}{a b:Int}{q:Bool}(hx:evl al x=some (.int k a):=by rfl)(hy:evl al y=some (.int k b):=by rfl)(hq:kj op a b=some q:=by rfl):Pu E al (.binOp op u x y r) (.bool q):=
 ⟨fun _ _ _=>rfl,fun tm s ha=>kh hx hy (Zjw hq) tm s ha⟩
def N8 :BinOp→Int→Int→Bool→Prop
 |.lss,a,b,true=>a<b
 |.leq,a,b,true=>a≤b
 |.gtr,a,b,true=>b<a
 |.geq,a,b,true=>b≤a
 |.eql,a,b,true=>a=b
 |.neq,a,b,true=>a≠b
 |.lss,a,b,false=>b≤a
 |.leq,a,b,false=>b<a
 |.gtr,a,b,false=>a≤b
 |.geq,a,b,false=>a<b
 |.eql,a,b,false=>a≠b
 |.neq,a,b,false=>a=b
 |_,_,_,_=>False
theorem QC{op:BinOp}{a b:Int}{q:Bool}(h:N8 op a b q):kj op a b=some q:=by
 cases op<;>cases q<;>simp only[N8]at h<;>simp only[kj,Option.some.injEq]<;>first|exact decide_eq_true h|exact decide_eq_false (by omega)|exact absurd h id
theorem Pu.cy{op:BinOp}{x y:Operand}{u r:Nat}{k:IntKind}{a b:Int}(hx:evl al x=some (.int k a):=by rfl)(hy:evl al y=some (.int k b):=by rfl)(hq:N8 op a b true:=by simp only[Go.Lx.N8];omega):Pu E al (.binOp op u x y r) (.bool true):=Pu.cmp hx hy (QC hq)
theorem Pu.cn{op:BinOp}{x y:Operand}{u r:Nat}{k:IntKind}{a b:Int}(hx:evl al x=some (.int k a):=by rfl)(hy:evl al y=some (.int k b):=by rfl)(hq:N8 op a b false:=by simp only[Go.Lx.N8];omega):Pu E al (.binOp op u x y r) (.bool false):=Pu.cmp hx hy (QC hq)
end Go.Lx
namespace Go.Lx
open Go Go.Ax
variable {E:Env}{N:Nat}{ops l:List Oper}{al:Al}{L P:List Asn}{Q:Al→List Asn→List Asn→Prop}{pos:String}{af:Array Edge}
def cr :Nat→List Value→Al
 |_,[]=>[]
 |i,v::l=>(i,v)::cr (i+1) l
theorem QD :∀(l:List Value) (i k:Nat) (v:Value),lk (cr i l) k=some v→i≤k∧l[k-i]? =some v
 |[],_,_,_,e=>by cases e
 |u::l,i,k,v,e=>by
  have e:(bif Za i k then some u else lk (cr (i+1) l) k)=some v:=e;cases hb:Za i k with
  |true=>
   obtain rfl:=Zv hb;rw[hb]at e;exact⟨Ze _,by rw[Nat.sub_self];exact e⟩
  |false=>
   rw[hb]at e;obtain⟨h1,h2⟩:=QD l (i+1) k v e;refine⟨by omega,?_⟩;rw[show k-i=(k-(i+1))+1 by omega];simpa using h2
theorem Zjx(args:List Value):Has (cr 0 args) (T.e.fill 0 args):=fun k v e=>by
 obtain⟨_,h⟩:=QD args 0 k v e;rw[Yl]at h;rw[T.get_fill,if_pos ⟨Zj _,by rw[Zw];exact(Yc.1 h).1⟩,Yl,h]
inductive Res(E:Env)(al:Al)(L P:List Asn):List ResultVar→List Value→Prop
 |nil:Res E al L P [] []
 |tmp {t:Nat} {v:Value} {rs:List ResultVar} {vs:List Value} (h:lk al t=some v) (hr:Res E al L P rs vs):Res E al L P (.tmp t::rs) (v::vs)
 |cell {a t b o z:Nat} {cs:List Value} {v:Value} {rs:List ResultVar} {vs:List Value} (h:lk al a=some (.pointer (some ⟨b,o,none⟩))) (hm:In (Pt b cs z) L P) (hv:ldv E t cs o=some v) (hr:Res E al L P rs vs):Res E al L P (.cell a t::rs) (v::vs)
theorem Res.sound{rs:List ResultVar}{vs:List Value}(h:Res E al L P rs vs){S:Nat→Prop}{s:AS}{tm:Tm}(hs:Sat L P S s)(ha:Has al tm):Be E tm s rs=some vs:=by
 induction h with
 |nil=>rfl
 |tmp h hr ih=>
  unfold Be;simp only;rw[ha _ _ h,ih]
 | @cell a t b o z cs v rs vs h hm hv hr ih=>
  unfold Be;simp only;rw[ha _ _ h,ih];unfold ldv at hv;cases hi:E.ty.get t with
  |none=>rw[hi]at hv;cases hv
  |some i=>
   rw[hi]at hv;simp only at hv ⊢;cases hd:Hw i.desc with
   |true=>
    rw[hd]at hv;simp only[cond_true]at hv ⊢;cases hb:Zb (o+i.size) cs.length with
    |false=>rw[hb]at hv;cases hv
    |true=>
     rw[hb]at hv;simp only[cond_true,Option.some.injEq]at hv;rw[JY hm hs (Yr hb)];simp only[hv]
   |false=>
    rw[hd]at hv;simp only[cond_false]at hv ⊢;rw[QN hm hs hv]
def QF(E:Env)(rs:List ResultVar)(Q:Value→List Asn→List Asn→Prop):X→Al→List Asn→List Asn→Prop
 |.exit _,_,_,_=>False
 |.nor,al,L,P=>∃vs,Res E al L P rs vs∧∃L' P',Ent L P L' P'∧Q (Bt vs) L' P'
 |.ret,al,L,P=>∃vs,Res E al L P rs vs∧∃L' P',Ent L P L' P'∧Q (Bt vs) L' P'
theorem Sp.body{f:FuncId}{fn:Func}{c:Code}{rs:List ResultVar}{args:List Value}{Q:Value→List Asn→List Asn→Prop}(hp:E.prim.get f=none)(hf:E.fn.get f=some fn)(hb:fn.body=some c)(hn:fn.ntmps=N+1)(hr:fn.results.toList=rs)(h:W E N c (cr 0 args) L P (QF E rs Q)):Sp E f args L P Q:=by
 intro S s hs;obtain⟨x,tm1,s1,S1,al1,L1,P1,⟨F,D,F',e⟩,ht,ha1,hs1,hq⟩:=h S s _ hs (Zjx args);have hq':(∀i,x≠ .exit i)∧∃vs,Res E al1 L1 P1 rs vs∧∃L' P',Ent L1 P1 L' P'∧Q (Bt vs) L' P':=by
  cases x with
  |exit i=>exact hq.elim
  |nor=>exact⟨fun i e=>(by cases e),hq⟩
  |ret=>exact⟨fun i e=>(by cases e),hq⟩
 obtain⟨hx,vs,h1,L2,P2,hE,h2⟩:=hq';obtain⟨S2,hS,hs2⟩:=hE S1 s1 hs1;refine⟨Bt vs,s1,S2,L2,P2,⟨max F F',D+1,?_⟩,ht.trans (Ru hS),hs2,h2⟩;show(match E.prim.get f with
   |some p=>p args s
   |none=>match E.fn.get f with
    |none=>none
    |some fn=>match fn.body with
     |none=>none
     |some c=>bif Za fn.ntmps 0 then none else Hf (Uf fn.ntmps) fun N=>match Hp E (Gw E (max F F') D) N (max F F') c (T.e.fill 0 args) s with
      |some (.exit _,_,_)=>none
      |none=>none
      |some (_,tm,s')=>match Be E tm s' fn.results.toList with
       |none=>none
       |some vs=>some (Bt vs,s'))=_
 rw[hp];simp only;rw[hf];simp only;rw[hb];simp only;rw[hn,hr];have hz:Za (N+1) 0=false:=rfl;rw[hz];simp only[cond_false,natK_eq];have he:=T8 (Nh D D F (max F F') (Ze _) (by omega)) F' (max F F') (by omega) _ _ _ _ e;have hN:Uf (N+1)=N:=rfl;rw[hN,he];cases x with
 |exit i=>exact absurd rfl (hx i)
 |nor=>simp only;rw[h1.sound hs1 ha1]
 |ret=>simp only;rw[h1.sound hs1 ha1]
theorem Sp.bo{f:FuncId}{fn:Func}{c:Code}{rs:List ResultVar}{args:List Value}{Q:Value→List Asn→List Asn→Prop}(h:W E N c (cr 0 args) L P (QF E rs Q))(hp:E.prim.get f=none:=by kernel_rfl)(hf:E.fn.get f=some fn:=by kernel_rfl)(hb:fn.body=some c:=by rfl)(hn:fn.ntmps=N+1:=by kernel_rfl)(hr:fn.results.toList=rs:=by rfl):Sp E f args L P Q:=Sp.body hp hf hb hn hr h
theorem Sp.prim{f:FuncId}{p:List Value→AS→Option (Value×AS)}{args:List Value}{Q:Value→List Asn→List Asn→Prop}(hp:E.prim.get f=some p)(h:∀S s,Sat L P S s→∃v s' S' L' P',p args s=some (v,s')∧Tr S s S' s'∧Sat L' P' S' s'∧Q v L' P'):Sp E f args L P Q:=by
 intro S s hs;obtain⟨v,s1,S1,L1,P1,e,hr⟩:=h S s hs;refine⟨v,s1,S1,L1,P1,⟨0,1,?_⟩,hr⟩;show(match E.prim.get f with
   |some p=>p args s
   |none=>_)=_
 rw[hp];exact e
theorem Sp.mono{f:FuncId}{args:List Value}{Q Q':Value→List Asn→List Asn→Prop}(h:Sp E f args L P Q)(hq:∀v L P,Q v L P→Q' v L P):Sp E f args L P Q':=by
 intro S s hs;obtain⟨v,s1,S1,L1,P1,e,h1,h2,h3⟩:=h S s hs;exact⟨v,s1,S1,L1,P1,e,h1,h2,hq _ _ _ h3⟩
theorem WO.call{x:Operand}{xs:Array Operand}{ts:Array TypeId}{f:FuncId}{fs cs:Array Value}{vs:List Value}{Q:Value→List Asn→List Asn→Prop}(hf:evl al x=some (.func (.func f) fs cs))(hx:Me al xs.toList=some vs)(h:Sp E f (fs.toList++vs++cs.toList) L P Q):WO E (.call ⟨.value x,xs,ts⟩) al L P Q:=by
 intro S s tm hs ha;obtain⟨v,s1,S1,L1,P1,⟨F,D,e⟩,hr⟩:=h S s hs;refine⟨v,s1,S1,L1,P1,⟨F,D,?_⟩,hr⟩;show Fz x xs.toList (Gw E F D) tm s=_;unfold Fz;rw[Gm ha hf,kg ha hx];exact e
theorem WR.call{x:Operand}{xs:Array Operand}{ts:Array TypeId}{f:FuncId}{fs cs:Array Value}{vs:List Value}{d t:Nat}{Qs:Value→List Asn→List Asn→Prop}(h:Sp E f (fs.toList++vs++cs.toList) L P Qs)(hk:∀v L' P',Qs v L' P'→WR E N ops l ((d,v)::al) L' P' Q)
  (hf:evl al x=some (.func (.func f) fs cs):=by rfl) (hx:Me al xs.toList=some vs:=by rfl) (hN:Zb d N=true:=by rfl):WR E N ops (⟨some d,.call ⟨.value x,xs,ts⟩,t,pos,af,none⟩::l) al L P Q:=
 WR.op rfl rfl hN (WO.call hf hx (h.mono hk))
inductive Upd(A B:Asn):List Asn→List Asn→Prop
 |z {L:List Asn}:Upd A B (A::L) (B::L)
 |s {C:Asn} {L L':List Asn} (h:Upd A B L L'):Upd A B (C::L) (C::L')
theorem Own.upd{A B:Asn}{b:Nat}(hA:∀U h,A.p U h→U b){h h':T Gg}(he:∀k,k≠b→h'.get k=h.get k)(hB:B.p (fun k=>k=b) h'):∀ {L L':List Asn},Upd A B L L'→∀ {S:Nat→Prop},Own L S h→Own L' S h':=by
 intro L L' hu
 induction hu with
 |z=>
  intro S ⟨S1,S2,h1,h2,hd,ha,hl⟩;have hb:=hA _ _ ha;exact⟨fun k=>k=b,S2,fun k hk=>by cases hk;exact h1 _ hb,h2,fun k hk hk2=>by cases hk;exact hd _ hb hk2,hB,hl.loc (fun k hk=>he k (fun e=>by subst e;exact hd _ hb hk))⟩
 | @s C L1 L2 hu ih=>
  intro S ⟨S1,S2,h1,h2,hd,ha,hl⟩;have hm:A∈L1:=by
   clear ih hl
   induction hu with
   |z=>exact .head _
   |s _ ih=>exact .tail _ ih
  obtain⟨U,hU,hpU⟩:=hl.mem hm;have hb:=hU _ (hA _ _ hpU);exact⟨S1,S2,h1,h2,hd,C.loc _ _ _ (fun k hk=>he k (fun e=>by subst e;exact hd _ hk hb)) ha,ih hl⟩
theorem Upd.mem{A B:Asn}{L L':List Asn}(h:Upd A B L L'):A∈L:=by
 induction h with
 |z=>exact .head _
 |s _ ih=>exact .tail _ ih
theorem Sat.upd{A B:Asn}{b:Nat}{L':List Asn}(hu:Upd A B L L')(hA:∀U h,A.p U h→U b){S:Nat→Prop}{s:AS}(hs:Sat L P S s){o:Gg}(hB:∀h:T Gg,h.get b=some o→B.p (fun k=>k=b) h):Sat L' P S (s.upd b o)∧Tr S s S (s.upd b o):=by
 have hb:S b:=by
  obtain⟨U,hU,hp⟩:=hs.own.mem hu.mem;exact hU _ (hA _ _ hp)
 have he:∀k,k≠b→(s.upd b o).h.get k=s.h.get k:=fun k hk=>T.get_set_ne _ _ hk;have ht:Tr S s S (s.upd b o):=⟨Ze _,fun k hk hn=>he k (fun e=>by subst e;exact hn hb),fun k hk=>.inl hk,fun k hk=>by
  by_cases e:k=b
  ·subst e;show(s.h.set k o).get k≠none;rw[T.get_set_same];simp
  ·rw[he k e];exact hk⟩
 exact⟨⟨hs.own.upd hA he (hB _ (T.get_set_same _ _ _)) hu,fun A ha=>ht.per hs.fresh (hs.per A ha),fun k hk=>by
  by_cases e:k=b
  ·subst e;show(s.h.set k o).get k≠none;rw[T.get_set_same];simp
  ·rw[he k e];exact hs.ex k hk,fun k hk=>by
  rw[he k (fun e=>by subst e;have:=hs.lt _ hb;have hk:s.nx≤k:=hk;omega)];exact hs.fresh k hk⟩,ht⟩
theorem Sat.new{A:Asn}{S:Nat→Prop}{s:AS}(hs:Sat L P S s){o:Gg}(hA:∀h:T Gg,h.get s.nx=some o→A.p (fun k=>k=s.nx) h):Sat (A::L) P (fun k=>S k∨k=s.nx) (s.new o)∧Tr S s (fun k=>S k∨k=s.nx) (s.new o):=by
 have he:∀k,k≠s.nx→(s.new o).h.get k=s.h.get k:=fun k hk=>T.get_set_ne _ _ hk;have ht:Tr S s (fun k=>S k∨k=s.nx) (s.new o):=⟨Nat.le_succ _,fun k hk hn=>he k (by omega),fun k hk=>hk.imp id (fun e=>by omega),fun k hk=>by
  rw[he k (fun e=>by subst e;exact hk (hs.fresh _ (Ze _)))];exact hk⟩
 refine⟨⟨⟨fun k=>k=s.nx,S,fun k hk=>.inr hk,fun k hk=>.inl hk,fun k hk hk2=>by cases hk;exact absurd (hs.lt _ hk2) (U3 _),hA _ (T.get_set_same _ _ _),hs.own.loc (fun k hk=>he k (fun e=>by subst e;exact absurd (hs.lt _ hk) (U3 _)))⟩,
  fun A ha=>ht.per hs.fresh (hs.per A ha),fun k hk=>?_,fun k hk=>?_⟩,ht⟩
 ·rcases hk with hk|hk
  ·rw[he k (fun e=>by subst e;exact absurd (hs.lt _ hk) (U3 _))];exact hs.ex k hk
  ·subst hk;show(s.h.set s.nx o).get s.nx≠none;rw[T.get_set_same];simp
 ·have hk:s.nx+1≤k:=hk;rw[he k (by omega)];exact hs.fresh k (by omega)
theorem JU{b z:Nat}{cs:List Value}(h:T Gg)(hg:h.get b=some (.cells (T.e.fill 0 cs) cs.length z)):(Pt b cs z).p (fun k=>k=b) h:=
 ⟨rfl,_,hg,fun k hk=>by rw[T.get_fill,if_pos ⟨Zj _,by omega⟩,Yl]⟩
inductive Mx :List Value→Nat→List Value→List Value→Prop
 |nil {cs:List Value}:Mx cs 0 [] cs
 |here {x v:Value} {cs vs cs':List Value} (h:Mx cs 0 vs cs'):Mx (x::cs) 0 (v::vs) (v::cs')
 |skip {x:Value} {o:Nat} {cs vs cs':List Value} (h:Mx cs o vs cs'):Mx (x::cs) (o+1) vs (x::cs')
theorem Mx.spec{cs vs cs':List Value}{o:Nat}(h:Mx cs o vs cs'):o+vs.length≤cs.length∧cs'.length=cs.length∧∀k,cs'[k]? =if o≤k∧k<o+vs.length then vs[k-o]? else cs[k]? :=by
 induction h with
 |nil=>exact⟨by simp,rfl,fun k=>by rw[if_neg (by simp)]⟩
 | @here x v cs vs cs' h ih=>
  obtain⟨h1,h2,h3⟩:=ih;refine⟨by simp only[Zf];omega,by simp[h2],fun k=>?_⟩;cases k with
  |zero=>simp
  |succ k=>
   have:=h3 k;simp only[Zj,true_and,Zw,Yl,Zf,Y9,Nat.add_lt_add_iff_right]at this ⊢;exact this
 | @skip x o cs vs cs' h ih=>
  obtain⟨h1,h2,h3⟩:=ih;refine⟨by simp only[Zf];omega,by simp[h2],fun k=>?_⟩;cases k with
  |zero=>rw[if_neg (by omega)];rfl
  |succ k=>
   have:=h3 k;rw[Y9,Y9,this];by_cases hc:o≤k∧k<o+vs.length
   ·rw[if_pos hc,if_pos (by omega)];congr 1;omega
   ·rw[if_neg hc,if_neg (by omega)]
theorem WO.store{x y:Operand}{u b o z:Nat}{cs cs':List Value}{v:Value}{i:TI}{L':List Asn}{Q:Value→List Asn→List Asn→Prop}(hx:evl al x=some (.pointer (some ⟨b,o,none⟩)))(hy:evl al y=some v)(hi:E.ty.get u=some i)(hsz:v.cells.toList.length=i.size)(ho:ones v.cells.toList=true)
  (hset:Mx cs o v.cells.toList cs') (hu:Upd (Pt b cs z) (Pt b cs' z) L L') (h:Q (.tuple #[]) L' P):WO E (.store u x y) al L P Q:=by
 intro S s tm hs ha;obtain⟨U,⟨_,c,h1,h2⟩,_⟩:=(In.l hu.mem:In _ L P).holds hs;obtain⟨k1,k2,k3⟩:=hset.spec;obtain⟨h3,h4⟩:=hs.upd hu (b:=b) (fun U h hp=>hp.1) (o:=.cells (c.fill o v.cells.toList) cs.length z) (fun h hg=>⟨rfl,_,by rw[k2];exact hg,fun k hk=>by
  rw[T.get_fill,k3 k];rw[k2]at hk;by_cases hc:o≤k∧k<o+v.cells.toList.length
  ·rw[if_pos hc,if_pos hc]
  ·rw[if_neg hc,if_neg hc,h2 k hk]⟩)
 refine⟨_,_,S,L',P,⟨0,0,?_⟩,h4,h3,h⟩;show Ft u x y E tm s=_;unfold Ft;rw[hi,Gm ha hx,Gm ha hy];simp only;have e1:Za v.cells.toList.length i.size=true:=by rw[hsz];exact Yy _
 rw[e1];simp only[cond_true];unfold wrN;rw[h1];simp only;have e2:Zb (o+v.cells.toList.length) cs.length=true:=Z0 k1;rw[e2,ho];rfl
theorem WR.st{x y:Operand}{u b o z t:Nat}{cs cs' vs:List Value}{v:Value}{i:TI}{L':List Asn}(h:WR E N ops l al L' P Q)(hx:evl al x=some (.pointer (some ⟨b,o,none⟩)):=by rfl)(hy:evl al y=some v:=by rfl)(hc:v.cells.toList=vs:=by rfl)(hi:E.ty.get u=some i:=by rfl)
  (hu:Upd (Pt b cs z) (Pt b cs' z) L L':=by first|exact .z|exact .s .z|exact .s (.s .z)|exact .s (.s (.s .z))|exact .s (.s (.s (.s .z)))|exact .s (.s (.s (.s (.s .z))))|exact .s (.s (.s (.s (.s (.s .z)))))|exact .s (.s (.s (.s (.s (.s (.s .z))))))|exact .s (.s (.s (.s (.s (.s (.s (.s .z))))))))
  (hset:Mx cs o vs cs':=by(repeat (first|exact Mx.nil|apply Mx.here|apply Mx.skip))) (hsz:vs.length=i.size:=by rfl) (ho:ones vs=true:=by rfl):WR E N ops (⟨none,.store u x y,t,pos,af,none⟩::l) al L P Q:=by
 subst hc;exact WR.op0 rfl rfl (WO.store hx hy hi hsz ho hset hu h)
theorem WO.new{op:Op}{z:Nat}{cs:List Value}{val:Nat→Value}{Q:Value→List Asn→List Asn→Prop}(hc:∀call tm s,Has al tm→Hb op E call tm s=some (val s.nx,s.rowz z cs))(h:∀b,Q (val b) (Pt b cs z::L) P):WO E op al L P Q:=by
 intro S s tm hs ha;obtain⟨h1,h2⟩:=hs.new (A:=Pt s.nx cs z) (o:=.cells (T.e.fill 0 cs) cs.length z) (fun h hg=>JU h hg);exact⟨_,_,_,_,_,⟨0,0,hc _ tm s ha⟩,h2,h1,h s.nx⟩
theorem WR.nw{u d t:Nat}{i:TI}{cs:List Value}(h:∀b,WR E N ops l ((d,.pointer (some ⟨b,0,none⟩))::al) (Pt b cs (tz 0 u)::L) P Q)(hi:E.ty.get u=some i:=by rfl)(hz:i.zero=cs:=by rfl)(hN:Zb d N=true:=by rfl):WR E N ops (⟨some d,.alloc u,t,pos,af,none⟩::l) al L P Q:=
 WR.op rfl rfl hN (WO.new (val:=fun b=>.pointer (some ⟨b,0,none⟩)) (fun call tm s ha=>by
  show Fq u E tm s=_;unfold Fq;rw[hi,←hz]) h)
theorem WR.bx{x:Operand}{u d t:Nat}{v:Value}{cs:List Value}(h:∀b,WR E N ops l ((d,.pointer (some ⟨b,0,none⟩))::al) (Pt b cs (tz 0 u)::L) P Q)(hx:evl al x=some v:=by rfl)(hz:v.cells.toList=cs:=by rfl)(hN:Zb d N=true:=by rfl):WR E N ops (⟨some d,.box u x,t,pos,af,none⟩::l) al L P Q:=
 WR.op rfl rfl hN (WO.new (val:=fun b=>.pointer (some ⟨b,0,none⟩)) (fun call tm s ha=>by
  show Dj u x E tm s=_;unfold Dj;rw[Gm ha hx,←hz]) h)
def gd(ops:List Oper)(al:Al)(j:Nat):Option Value:=
 match ops[j]? with
 |some o=>match o.dst with
  |some d=>lk al d
  |none=>none
 |none=>none
theorem JJ{o:Oper}{j:Nat}{w b:Bool}(hg:o.guard=some (j,w))(h:gd ops al j=some (.bool b)){tm:Tm}(ha:Has al tm):Ha ops tm o=some (b==w):=by
 unfold Ha;rw[hg];simp only;unfold gd at h;cases ho:ops[j]? with
 |none=>rw[ho]at h;cases h
 |some o'=>
  rw[ho]at h;simp only at h ⊢;cases hd:o'.dst with
  |none=>rw[hd]at h;cases h
  |some d=>
   rw[hd]at h;simp only at h ⊢;rw[ha _ _ h]
theorem WR.on{d:Option Tmp}{op:Op}{t:Nat}{j:Nat}{w:Bool}(h:WR E N ops (⟨d,op,t,pos,af,none⟩::l) al L P Q)(hg:gd ops al j=some (.bool w):=by rfl):WR E N ops (⟨d,op,t,pos,af,some (j,w)⟩::l) al L P Q:=by
 intro S s tm hs ha;obtain⟨tm1,s1,S1,al1,L1,P1,⟨F,D,e⟩,hr⟩:=h S s tm hs ha;refine⟨tm1,s1,S1,al1,L1,P1,⟨F,D,?_⟩,hr⟩;rw[D6]at e ⊢;rw[JJ rfl hg ha];have:(w==w)=true:=by cases w<;>rfl
 rw[this];exact e
theorem WR.off{d:Tmp}{op:Op}{t:Nat}{j:Nat}{w:Bool}(h:WR E N ops l ((d,undef)::al) L P Q)(hg:gd ops al j=some (.bool (!w)):=by rfl)(hN:Zb d N=true:=by rfl):WR E N ops (⟨some d,op,t,pos,af,some (j,w)⟩::l) al L P Q:=by
 intro S s tm hs ha;obtain⟨tm1,s1,S1,al1,L1,P1,⟨F,D,e⟩,hr⟩:=h S s (tm.set d undef) hs (ha.set d undef);refine⟨tm1,s1,S1,al1,L1,P1,⟨F,D,?_⟩,hr⟩;rw[D6,JJ rfl hg ha];have:((!w)==w)=false:=by cases w<;>rfl
 rw[this];simp only;have hp:Gq N tm (some d) undef=some (tm.set d undef):=by unfold Gq;simp only[hN,cond_true]
 rw[hp];exact e
end Go.Lx
namespace Go.Lx
open Go Go.Ax
variable {E:Env}{N:Nat}{ops l:List Oper}{al:Al}{L P:List Asn}{Q:Al→List Asn→List Asn→Prop}{pos:String}{af:Array Edge}
def bs :Value→Nat×Nat
 |.slice (some a) _ _=>(a.block,a.off)
 |_=>(0,0)
def Mf(k o:Nat)(c:T Value)(es:List (List Value)):Prop:=∀i e,es[i]? =some e→e.length=k∧∀j,j<k→c.get (o+i*k+j)=e[j]?
def Sl(k:Nat)(v:Value)(es:List (List Value)):Asn where
 p:=fun S h=>∃a c,v=.slice a es.length c∧es.length≤c/2∧(es=[]∨∃b o m z t,a=some ⟨b,o,none⟩∧S b∧h.get b=some (.cells t m z)∧(c%2=1∨zs z=k)∧o+es.length*k≤m∧Mf k o t es)
 loc:=fun S h h' e ⟨a,c,h1,h0,h2⟩=>⟨a,c,h1,h0,h2.imp id fun⟨b,o,m,z,t,g1,g2,g3,g4⟩=>⟨b,o,m,z,t,g1,g2,by rw[e b g2];exact g3,g4⟩⟩
def SlR(k:Nat)(v:Value)(es:List (List Value)):Asn where
 p:=fun S h=>∃a c,v=.slice a es.length c∧es.length≤c/2∧(es=[]∨∃b o m t,a=some ⟨b,o,none⟩∧S b∧h.get b=some (.ro t m)∧c%2=1∧o+es.length*k≤m∧Mf k o t es)
 loc:=fun S h h' e ⟨a,c,h1,h0,h2⟩=>⟨a,c,h1,h0,h2.imp id fun⟨b,o,m,t,g1,g2,g3,g4⟩=>⟨b,o,m,t,g1,g2,by rw[e b g2];exact g3,g4⟩⟩
def Ow(k:Nat)(v:Value)(es:List (List Value)):Asn where
 p:=fun S h=>(es=[]∧∃a c,v=.slice a 0 c∧c≤1∧(a=none∨c=1))∨∃b c m z t,v=.slice (some ⟨b,0,none⟩) es.length c∧S b∧h.get b=some (.cells t m z)∧es.length≤c/2∧c/2*k≤m∧(c%2=1∨zs z=k)∧Mf k 0 t es
 loc:=fun S h h' e H=>H.imp id fun⟨b,c,m,z,t,g1,g2,g3,g4⟩=>⟨b,c,m,z,t,g1,g2,by rw[e b g2];exact g3,g4⟩
theorem Ow.sl{k:Nat}{v:Value}{es:List (List Value)}{S:Nat→Prop}{h:T Gg}(H:(Ow k v es).p S h):(Sl k v es).p S h:=by
 rcases H with⟨rfl,a,c,rfl,_⟩|⟨b,c,m,z,t,rfl,h2,h3,h4,h5,h6,h7⟩
 ·exact⟨a,c,rfl,Zj _,.inl rfl⟩
 ·refine⟨_,c,rfl,h4,.inr ⟨b,0,_,z,t,rfl,h2,h3,h6,?_,h7⟩⟩;have:=Yo k h4;omega
def SlP(k:Nat)(v:Value)(es:List (List Value))(h:T Gg):Prop:=∃a c,v=.slice a es.length c∧(es=[]∨∃b o m z t,a=some ⟨b,o,none⟩∧(h.get b=some (.cells t m z)∨h.get b=some (.ro t m))∧o+es.length*k≤m∧Mf k o t es)
theorem Sl.pl{k:Nat}{v:Value}{es:List (List Value)}{S:Nat→Prop}{h:T Gg}(H:(Sl k v es).p S h):SlP k v es h:=by
 obtain⟨a,c,h1,_,h2⟩:=H;exact⟨a,c,h1,h2.imp id fun⟨b,o,m,z,t,g1,g2,g3,g4,g5,g6⟩=>⟨b,o,m,z,t,g1,.inl g3,g5,g6⟩⟩
theorem SlR.pl{k:Nat}{v:Value}{es:List (List Value)}{S:Nat→Prop}{h:T Gg}(H:(SlR k v es).p S h):SlP k v es h:=by
 obtain⟨a,c,h1,_,h2⟩:=H;exact⟨a,c,h1,h2.imp id fun⟨b,o,m,t,g1,g2,g3,g0,g4,g5⟩=>⟨b,o,m,0,t,g1,.inr g3,g4,g5⟩⟩
inductive Gn(k:Nat)(v:Value)(es:List (List Value))(L P:List Asn):Prop
 |s (h:In (Sl k v es) L P)
 |o (h:In (Ow k v es) L P)
 |r (h:In (SlR k v es) L P)
 |f {F:Asn} (hF:∀S h,F.p S h→(Sl k v es).p S h) (h:In F L P)
theorem Gn.holds{k:Nat}{v:Value}{es:List (List Value)}(h:Gn k v es L P){S:Nat→Prop}{s:AS}(hs:Sat L P S s):SlP k v es s.h:=by
 cases h with
 |s h=>obtain⟨U,h1,_⟩:=h.holds hs;exact Sl.pl h1
 |o h=>obtain⟨U,h1,_⟩:=h.holds hs;exact Sl.pl (Ow.sl h1)
 |r h=>obtain⟨U,h1,_⟩:=h.holds hs;exact SlR.pl h1
 |f hF h=>obtain⟨U,h1,_⟩:=h.holds hs;exact Sl.pl (hF _ _ h1)
noncomputable def slT(E:Env)(t:TypeId):Option (TypeId×TI):=
 match E.ty.get t with
 |some i=>match i.desc with
  |.slice e=>match E.ty.get e with
   |some j=>some (e,j)
   |none=>none
  |_=>none
 |none=>none
theorem M3{t e:TypeId}{j:TI}(h:slT E t=some (e,j)):∃i,E.ty.get t=some i∧i.desc=.slice e∧E.ty.get e=some j:=by
 unfold slT at h;cases hi:E.ty.get t with
 |none=>rw[hi]at h;cases h
 |some i=>
  rw[hi]at h;simp only at h;cases hd:i.desc with
  |slice u=>
   rw[hd]at h;simp only at h;cases hj:E.ty.get u with
   |none=>rw[hj]at h;cases h
   |some j'=>
    rw[hj]at h;cases h;exact⟨i,rfl,hd,hj⟩
  |_=>rw[hd]at h;cases h
theorem QR{k:Nat}{v:Value}{es:List (List Value)}{s:AS}{h:T Gg}(H:SlP k v es h){t e:TypeId}{j:TI}(ht:slT E t=some (e,j)):Fp E s t v=some (.int .i64 es.length):=by
 obtain⟨a,c,rfl,_⟩:=H;obtain⟨i,h1,h2,h3⟩:=M3 ht;unfold Fp;rw[h1];simp only;rw[h2]
theorem JK{x:Operand}{ts:Array TypeId}{t:TypeId}{v w:Value}{tm:Tm}{s:AS}(ha:Has al tm)(hx:evl al x=some v)(ht:ts.toList.head? =some t)(h:Fp E s t v=some w):Br ⟨.builtin .len, #[x],ts⟩ E tm s=some (w,s):=by
 unfold Br;simp only;have:evs tm #[x].toList=some [v]:=by
  show evs tm [x]=_;unfold evs;rw[Gm ha hx];rfl
 rw[this];simp only;cases hts:ts.toList with
 |nil=>rw[hts]at ht;cases ht
 |cons u us=>
  rw[hts]at ht;cases ht;show(match Fp E s t v with
   |none=>none
   |some v=>some (v,s))=_
  rw[h]
theorem Lk.ln{x:Operand}{ts:Array TypeId}{k:Nat}{u e:TypeId}{j:TI}{v:Value}{es:List (List Value)}(hx:evl al x=some v:=by rfl)(ht:ts.toList.head? =some u:=by rfl)(hu:slT E u=some (e,j):=by rfl)
  (hm:Gn k v es L P:=by first|assumption|exact .s .p0|exact .s .p1|exact .s .p2|exact .s .p3|exact .s (.p (by assumption))|exact .s (.h1 (by assumption))|exact .s (.h2 (by assumption))|exact .s (.h3 (by assumption))|exact .r (.p (by assumption))|exact .r (.h1 (by assumption))|exact .r (.h2 (by assumption))|exact .o .l0|exact .o .l1|exact .o .l2|exact .o .l3|exact .s .l0|exact .s .l1|exact .s .l2|exact .s .l3|exact .r .p0|exact .r .p1|exact .r .l0|exact .r .l1):Lk E al L P (.call ⟨.builtin .len, #[x],ts⟩) (.int .i64 es.length):=
 ⟨fun _ _ _=>rfl,fun tm S s ha hs s'=>by
  have hU:=hm.holds hs;exact JK ha hx ht (QR hU hu)⟩
theorem QT{n:Int}{m:Nat}(h:0≤n∧n<m):inR n m=true:=by
 cases n with
 |ofNat a=>exact N7.2 (by have:=h.2;simp only[Xv]at this;omega)
 |negSucc a=>have:=h.1;rw[Xq]at this;omega
theorem Zjy{k:Nat}{v:Value}{es:List (List Value)}{h:T Gg}(H:SlP k v es h){x y:Operand}{K:IntKind}{n:Int}{tm:Tm}{s:AS}(ha:Has al tm)(hx:evl al x=some v)(hy:evl al y=some (.int K n)){t e:TypeId}{j:TI}(ht:slT E t=some (e,j))(hk:j.size=k)(hn:0≤n∧n<es.length):
  C0 t x y E tm s=some (.pointer (some ⟨(bs v).1,(bs v).2+n.toNat* k,none⟩),s):=by
 obtain⟨a,c,rfl,hor⟩:=H;obtain⟨i,h1,h2,h3⟩:=M3 ht;have hne:es≠[]:=fun e=>by subst e;simp at hn;omega
 rcases hor with hor|⟨b,o,m,z,t',rfl,_⟩
 ·exact absurd hor hne
 unfold C0;rw[h1,Gm ha hx,Gm ha hy];simp only;rw[h2];simp only;rw[h3];simp only;rw[QT hn];simp only[cond_true,natK_eq];rw[hk];rfl
theorem Lk.ia{x y:Operand}{u k:Nat}{e:TypeId}{j:TI}{v:Value}{K:IntKind}{n:Int}{es:List (List Value)}(hx:evl al x=some v:=by rfl)(hy:evl al y=some (.int K n):=by rfl)(hu:slT E u=some (e,j):=by rfl)
  (hm:Gn k v es L P:=by first|assumption|exact .s .p0|exact .s .p1|exact .s .p2|exact .s .p3|exact .s (.p (by assumption))|exact .s (.h1 (by assumption))|exact .s (.h2 (by assumption))|exact .s (.h3 (by assumption))|exact .r (.p (by assumption))|exact .r (.h1 (by assumption))|exact .r (.h2 (by assumption))|exact .o .l0|exact .o .l1|exact .o .l2|exact .o .l3|exact .s .l0|exact .s .l1|exact .s .l2|exact .s .l3|exact .r .p0|exact .r .p1|exact .r .l0|exact .r .l1) (hk:j.size=k:=by rfl) (hn:0≤n∧n<es.length:=by omega):Lk E al L P (.indexAddr u x y) (.pointer (some ⟨(bs v).1,(bs v).2+n.toNat* k,none⟩)):=
 ⟨fun _ _ _=>rfl,fun tm S s ha hs s'=>by
  have hU:=hm.holds hs;exact Zjy hU ha hx hy hu hk hn⟩
theorem QQ{k:Nat}{v:Value}{es:List (List Value)}{s:AS}(H:SlP k v es s.h){i j:Nat}{e:List Value}{w:Value}(he:es[i]? =some e)(hw:e[j]? =some w)(hj:j<k):rd s (bs v).1 ((bs v).2+i*k+j)=some w:=by
 obtain⟨a,c,rfl,hor⟩:=H;have hlt:i<es.length:=(Yc.1 he).1;rcases hor with hor|⟨b,o,m,z,t,rfl,h1,h2,h3⟩
 ·subst hor;simp at hlt
 obtain⟨h4,h5⟩:=h3 i e he;have hlt2:o+i*k+j<m:=by
  have:(i+1)*k≤es.length*k:=Yo _ hlt;rw[Yv]at this;omega
 have hb:Zh (o+i*k+j) m=true:=N7.2 hlt2;unfold rd;show(match s.h.get b with
  |some (.cells c m _)=>bif Zh (o+i*k+j) m then c.get (o+i*k+j)else none
  |some (.ro c m)=>bif Zh (o+i*k+j) m then c.get (o+i*k+j)else none
  |_=>none)=_
 rcases h1 with h1|h1
 ·rw[h1];simp only[hb,cond_true];rw[h5 j hj,hw]
 ·rw[h1];simp only[hb,cond_true];rw[h5 j hj,hw]
theorem JG{k:Nat}{v:Value}{es:List (List Value)}{s:AS}(H:SlP k v es s.h){i:Nat}{e:List Value}(he:es[i]? =some e):rdN s (bs v).1 ((bs v).2+i*k) k=some e:=by
 obtain⟨a,c,rfl,hor⟩:=H;have hlt:i<es.length:=(Yc.1 he).1;rcases hor with hor|⟨b,o,m,z,t,rfl,h1,h2,h3⟩
 ·subst hor;simp at hlt
 obtain⟨h4,h5⟩:=h3 i e he;have hlt2:o+i*k+k≤m:=by
  have:(i+1)*k≤es.length*k:=Yo _ hlt;rw[Yv]at this;omega
 have hb:Zb (o+i*k+k) m=true:=Z0 hlt2;have hl:t.list k (o+i*k)=some e:=T.list_of _ _ _ _ h4 (fun j hj=>h5 j hj);unfold rdN;show(match s.h.get b with
  |some (.cells c m _)=>bif Zb (o+i*k+k) m then c.list k (o+i*k)else none
  |some (.ro c m)=>bif Zb (o+i*k+k) m then c.list k (o+i*k)else none
  |_=>none)=_
 rcases h1 with h1|h1
 ·rw[h1];simp only[hb,cond_true];exact hl
 ·rw[h1];simp only[hb,cond_true];exact hl
noncomputable def sc(E:Env)(u:TypeId):Option Bool:=(E.ty.get u).map fun i=>Hw i.desc
theorem QW{x:Operand}{u b o:Nat}{w:Value}{tm:Tm}{s:AS}(ha:Has al tm)(hx:evl al x=some (.pointer (some ⟨b,o,none⟩)))(hu:sc E u=some false)(h:rd s b o=some w):Bd u x E tm s=some (w,s):=by
 unfold Bd;unfold sc at hu;cases hi:E.ty.get u with
 |none=>rw[hi]at hu;cases hu
 |some i=>
  rw[hi]at hu;rw[Gm ha hx];simp only[Option.map_some,Option.some.injEq]at hu ⊢;rw[hu];simp only[cond_false];rw[h]
theorem Zjz{x:Operand}{u b o:Nat}{i:TI}{e:List Value}{tm:Tm}{s:AS}(ha:Has al tm)(hx:evl al x=some (.pointer (some ⟨b,o,none⟩)))(hi:E.ty.get u=some i)(hd:Hw i.desc=true)(h:rdN s b o i.size=some e):Bd u x E tm s=some (.agg ⟨e⟩,s):=by
 unfold Bd;rw[hi,Gm ha hx];simp only;rw[hd];simp only[cond_true];rw[h]
def OkE(k i j:Nat)(v w:Value)(L P:List Asn):Prop:=∃es e,Gn k v es L P∧es[i]? =some e∧e[j]? =some w∧j<k
def OkA(k i:Nat)(v:Value)(e:List Value)(L P:List Asn):Prop:=∃es,Gn k v es L P∧es[i]? =some e
theorem OkE.mk{k i j:Nat}{v w:Value}{es:List (List Value)}{e:List Value}(he:es[i]? =some e)(hw:e[j]? =some w:=by rfl)(hj:j<k:=by decide)(hm:Gn k v es L P:=by first|assumption|exact .s .p0|exact .s .p1|exact .s .p2|exact .s .p3|exact .s (.p (by assumption))|exact .s (.h1 (by assumption))|exact .s (.h2 (by assumption))|exact .s (.h3 (by assumption))|exact .r (.p (by assumption))|exact .r (.h1 (by assumption))|exact .r (.h2 (by assumption))|exact .o .l0|exact .o .l1|exact .o .l2|exact .o .l3|exact .s .l0|exact .s .l1|exact .s .l2|exact .s .l3|exact .r .p0|exact .r .p1|exact .r .l0|exact .r .l1):OkE k i j v w L P:=⟨es,e,hm,he,hw,hj⟩
theorem OkA.mk{k i:Nat}{v:Value}{es:List (List Value)}{e:List Value}(he:es[i]? =some e)(hm:Gn k v es L P:=by first|assumption|exact .s .p0|exact .s .p1|exact .s .p2|exact .s .p3|exact .s (.p (by assumption))|exact .s (.h1 (by assumption))|exact .s (.h2 (by assumption))|exact .s (.h3 (by assumption))|exact .r (.p (by assumption))|exact .r (.h1 (by assumption))|exact .r (.h2 (by assumption))|exact .o .l0|exact .o .l1|exact .o .l2|exact .o .l3|exact .s .l0|exact .s .l1|exact .s .l2|exact .s .l3|exact .r .p0|exact .r .p1|exact .r .l0|exact .r .l1):OkA k i v e L P:=⟨es,hm,he⟩
theorem Ld.le{x:Operand}{u i:Nat}{v w:Value}(hx:evl al x=some (.pointer (some ⟨(bs v).1,(bs v).2+i*1,none⟩)):=by rfl)(hu:sc E u=some false:=by rfl):Ld E al (.load u x) w (OkE 1 i 0 v w):=
 ⟨fun _ _ _=>rfl,fun tm ha L P S s s' hs hex ⟨es,e,hm,he,hw,hj⟩=>by
  have hU:=hm.holds hs;exact QW ha hx hu (yh hex (QQ hU he hw hj))⟩
theorem Ld.lf{x:Operand}{u i j k:Nat}{v w:Value}(hx:evl al x=some (.pointer (some ⟨(bs v).1,(bs v).2+i*k+j,none⟩)):=by rfl)(hu:sc E u=some false:=by rfl):Ld E al (.load u x) w (OkE k i j v w):=
 ⟨fun _ _ _=>rfl,fun tm ha L P S s s' hs hex ⟨es,e,hm,he,hw,hj⟩=>by
  have hU:=hm.holds hs;exact QW ha hx hu (yh hex (QQ hU he hw hj))⟩
theorem Ld.la{x:Operand}{u i k:Nat}{v:Value}{e:List Value}{ti:TI}(hx:evl al x=some (.pointer (some ⟨(bs v).1,(bs v).2+i*k,none⟩)):=by rfl)(hu:E.ty.get u=some ti:=by rfl)(hd:Hw ti.desc=true:=by rfl)(hk:ti.size=k:=by rfl):Ld E al (.load u x) (.agg ⟨e⟩) (OkA k i v e):=
 ⟨fun _ _ _=>rfl,fun tm ha L P S s s' hs hex ⟨es,hm,he⟩=>by
  have hU:=hm.holds hs;subst hk;exact Zjz ha hx hu hd (QB hex (JG hU he))⟩
theorem WR.le{x:Operand}{d t u i:Nat}{v w:Value}{es:List (List Value)}(he:es[i]? =some [w])(h:WR E N ops l ((d,w)::al) L P Q)(hx:evl al x=some (.pointer (some ⟨(bs v).1,(bs v).2+i*1,none⟩)):=by rfl)(hu:sc E u=some false:=by rfl)
  (hm:Gn 1 v es L P:=by first|assumption|exact .s .p0|exact .s .p1|exact .s .p2|exact .s .p3|exact .s (.p (by assumption))|exact .s (.h1 (by assumption))|exact .s (.h2 (by assumption))|exact .s (.h3 (by assumption))|exact .r (.p (by assumption))|exact .r (.h1 (by assumption))|exact .r (.h2 (by assumption))|exact .o .l0|exact .o .l1|exact .o .l2|exact .o .l3|exact .s .l0|exact .s .l1|exact .s .l2|exact .s .l3|exact .r .p0|exact .r .p1|exact .r .l0|exact .r .l1) (hN:Zb d N=true:=by rfl):WR E N ops (⟨some d,.load u x,t,pos,af,none⟩::l) al L P Q:=WR.lo (Ld.le hx hu) ⟨es,_,hm,he,rfl,Nat.one_pos⟩ h hN
theorem WR.la{x:Operand}{d t u i k:Nat}{v:Value}{e:List Value}{es:List (List Value)}{ti:TI}(he:es[i]? =some e)(h:WR E N ops l ((d,.agg ⟨e⟩)::al) L P Q)(hx:evl al x=some (.pointer (some ⟨(bs v).1,(bs v).2+i*k,none⟩)):=by rfl)(hu:E.ty.get u=some ti:=by rfl)(hd:Hw ti.desc=true:=by rfl)(hk:ti.size=k:=by rfl)
  (hm:Gn k v es L P:=by first|assumption|exact .s .p0|exact .s .p1|exact .s .p2|exact .s .p3|exact .s (.p (by assumption))|exact .s (.h1 (by assumption))|exact .s (.h2 (by assumption))|exact .s (.h3 (by assumption))|exact .r (.p (by assumption))|exact .r (.h1 (by assumption))|exact .r (.h2 (by assumption))|exact .o .l0|exact .o .l1|exact .o .l2|exact .o .l3|exact .s .l0|exact .s .l1|exact .s .l2|exact .s .l3|exact .r .p0|exact .r .p1|exact .r .l0|exact .r .l1) (hN:Zb d N=true:=by rfl):WR E N ops (⟨some d,.load u x,t,pos,af,none⟩::l) al L P Q:=WR.lo (Ld.la hx hu hd hk) ⟨es,hm,he⟩ h hN
theorem WR.lf{x:Operand}{d t u i j k:Nat}{v w:Value}{e:List Value}{es:List (List Value)}(he:es[i]? =some e)(h:WR E N ops l ((d,w)::al) L P Q)(hw:e[j]? =some w:=by rfl)(hx:evl al x=some (.pointer (some ⟨(bs v).1,(bs v).2+i*k+j,none⟩)):=by rfl)(hu:sc E u=some false:=by rfl)
  (hm:Gn k v es L P:=by first|assumption|exact .s .p0|exact .s .p1|exact .s .p2|exact .s .p3|exact .s (.p (by assumption))|exact .s (.h1 (by assumption))|exact .s (.h2 (by assumption))|exact .s (.h3 (by assumption))|exact .r (.p (by assumption))|exact .r (.h1 (by assumption))|exact .r (.h2 (by assumption))|exact .o .l0|exact .o .l1|exact .o .l2|exact .o .l3|exact .s .l0|exact .s .l1|exact .s .l2|exact .s .l3|exact .r .p0|exact .r .p1|exact .r .l0|exact .r .l1) (hj:j<k:=by decide) (hN:Zb d N=true:=by rfl):WR E N ops (⟨some d,.load u x,t,pos,af,none⟩::l) al L P Q:=WR.lo (Ld.lf hx hu) ⟨es,e,hm,he,hw,hj⟩ h hN
theorem Sat.last{A B:Asn}(hAB:∀S h,A.p S h→B.p S h){S:Nat→Prop}{s:AS}(hs:Sat (A::L) P S s):∃S',(∀b,S' b→S b)∧Sat L (B::P) S' s:=by
 obtain⟨S1,S2,h1,h2,hd,ha,hl⟩:=hs.own;refine⟨S2,h2,hl,fun C hc=>?_,fun b hb=>hs.ex b (h2 b hb),hs.fresh⟩;cases hc with
 |head=>exact⟨S1,hAB _ _ ha,fun b hb=>⟨fun e=>hd b hb e,hs.ex b (h1 b hb)⟩⟩
 |tail _ hc=>
  obtain⟨U,hu,hk⟩:=hs.per C hc;exact⟨U,hu,fun b hb=>⟨fun e=>(hk b hb).1 (h2 b e),(hk b hb).2⟩⟩
theorem Ent.last{A B:Asn}(hAB:∀S h,A.p S h→B.p S h):Ent (A::L) P L (B::P):=fun S s hs=>hs.last hAB
theorem Ent.sl{k:Nat}{v:Value}{es:List (List Value)}:Ent (Ow k v es::L) P L (Sl k v es::P):=Ent.last (fun _ _=>Ow.sl)
theorem Ent.drop{A:Asn}:Ent (A::L) P L P:=fun S s hs=>⟨S,fun _ h=>h,⟨hs.own.drop,hs.per,hs.ex,hs.fresh⟩⟩
theorem Ent.forget{A:Asn}:Ent L (A::P) L P:=fun S s hs=>⟨S,fun _ h=>h,⟨hs.own,fun B hb=>hs.per B (.tail _ hb),hs.ex,hs.fresh⟩⟩
theorem Ent.d1{A:Asn}:Ent (A::L) P L P:=Ent.drop
theorem Ent.trans{L' P' L'' P'':List Asn}(h:Ent L P L' P')(h':Ent L' P' L'' P''):Ent L P L'' P'':=fun S s hs=>by
 obtain⟨S1,h1,h2⟩:=h S s hs;obtain⟨S2,h3,h4⟩:=h' S1 s h2;exact⟨S2,fun b hb=>h1 b (h3 b hb),h4⟩
theorem Ent.d2{A B:Asn}:Ent (A::B::L) P L P:=Ent.drop.trans Ent.drop
theorem Ent.d3{A B C:Asn}:Ent (A::B::C::L) P L P:=Ent.drop.trans Ent.d2
theorem Ent.d4{A B C D:Asn}:Ent (A::B::C::D::L) P L P:=Ent.drop.trans Ent.d3
theorem Ent.d5{A B C D F:Asn}:Ent (A::B::C::D::F::L) P L P:=Ent.drop.trans Ent.d4
theorem Ent.d6{A B C D F G:Asn}:Ent (A::B::C::D::F::G::L) P L P:=Ent.drop.trans Ent.d5
theorem Ent.under{A:Asn}{L' P':List Asn}(h:∀S s,Sat L P S s→∃S',(∀b,S' b→S b)∧Sat L' P' S' s)(hp:P'=P):Ent (A::L) P (A::L') P:=fun S s hs=>by
 subst hp;obtain⟨S1,S2,h1,h2,hd,ha,hl⟩:=hs.own;obtain⟨S',g1,g2⟩:=h S2 s ⟨hl,fun B hb=>by
  obtain⟨U,hu,hk⟩:=hs.per B hb;exact⟨U,hu,fun b hb=>⟨fun e=>(hk b hb).1 (h2 b e),(hk b hb).2⟩⟩,fun b hb=>hs.ex b (h2 b hb),hs.fresh⟩
 refine⟨fun b=>S1 b∨S' b,fun b hb=>hb.elim (h1 b) (fun e=>h2 b (g1 b e)),⟨S1,S',fun b hb=>.inl hb,fun b hb=>.inr hb,fun b x y=>hd b x (g1 b y),ha,g2.own⟩,fun B hb=>?_,fun b hb=>hb.elim (fun e=>hs.ex b (h1 b e)) (fun e=>g2.ex b e),hs.fresh⟩;obtain⟨U,hu,hk⟩:=hs.per B hb;exact⟨U,hu,fun b hb=>⟨fun e=>(hk b hb).1 (e.elim (h1 b) (fun e=>h2 b (g1 b e))),(hk b hb).2⟩⟩
theorem Ent.perm{L':List Asn}(h:L.Perm L'):Ent L P L' P:=fun S s hs=>⟨S,fun _ h=>h,⟨hs.own.perm h,hs.per,hs.ex,hs.fresh⟩⟩
theorem Ent.swap{A B:Asn}:Ent (A::B::L) P (B::A::L) P:=Ent.perm (.swap B A L)
end Go.Lx
namespace Go.Lx
open Go Go.Ax
variable {E:Env}{N:Nat}{ops l:List Oper}{al:Al}{L P:List Asn}{Q:Al→List Asn→List Asn→Prop}
abbrev Bs :=List UInt8
abbrev S(l:Bs):Value:=.string ⟨⟨l⟩⟩
noncomputable def isS(E:Env)(u:TypeId):Bool:=match E.ty.get u with
 |some i=>match i.desc with
  |.string=>true
  |_=>false
 |none=>false
theorem JH{u:TypeId}(h:isS E u=true):∃i,E.ty.get u=some i∧i.desc=.string:=by
 unfold isS at h;cases hi:E.ty.get u with
 |none=>rw[hi]at h;cases h
 |some i=>
  rw[hi]at h;simp only at h;cases hd:i.desc with
  |string=>exact⟨i,rfl,hd⟩
  |_=>rw[hd]at h;cases h
theorem Pu.ls{x:Operand}{ts:Array TypeId}{u:TypeId}{b:Bs}(hx:evl al x=some (S b):=by rfl)(ht:ts.toList.head? =some u:=by rfl)(hu:isS E u=true:=by rfl):Pu E al (.call ⟨.builtin .len, #[x],ts⟩) (.int .i64 b.length):=
 ⟨fun _ _ _=>rfl,fun tm s ha=>by
  obtain⟨i,h1,h2⟩:=JH hu;refine JK ha hx ht ?_;unfold Fp;rw[h1];simp only;rw[h2];rfl⟩
theorem toL(a:Bs):(⟨⟨a⟩⟩:ByteArray).toList=a:=ByteArray.toList_eq _
theorem cz{op:BinOp}{u:TypeId}{x y:Operand}{a b:ByteArray}{v:Value}(hx:evl al x=some (.string a))(hy:evl al y=some (.string b))(h:R6 op a b=some v)(tm:Tm)(s:AS)(ha:Has al tm):M5 op u x y E tm s=some (v,s):=by
 unfold M5;rw[Gm ha hx,Gm ha hy];simp only;have:Fj E s op u x y (.string a) (.string b)=some v:=h;rw[this]
theorem QL(a b:Bs):(a==b)=decide (a=b):=by
 by_cases h:a=b
 ·subst h;simp
 ·rw[decide_eq_false h];simpa using h
theorem Pu.seq{x y:Operand}{u r:Nat}{a b:Bs}{q:Bool}(hx:evl al x=some (S a):=by rfl)(hy:evl al y=some (S b):=by rfl)(hq:(decide (a=b))=q:=by rfl):Pu E al (.binOp .eql u x y r) (.bool q):=by
 subst hq;exact
 ⟨fun _ _ _=>rfl,fun tm s ha=>cz hx hy (by
  show some (Value.bool ((⟨⟨a⟩⟩:ByteArray).toList==(⟨⟨b⟩⟩:ByteArray).toList))=_;rw[toL,toL,QL]) tm s ha⟩
theorem Pu.sne{x y:Operand}{u r:Nat}{a b:Bs}{q:Bool}(hx:evl al x=some (S a):=by rfl)(hy:evl al y=some (S b):=by rfl)(hq:(decide (a≠b))=q:=by rfl):Pu E al (.binOp .neq u x y r) (.bool q):=by
 subst hq;exact
 ⟨fun _ _ _=>rfl,fun tm s ha=>cz hx hy (by
  show some (Value.bool (!((⟨⟨a⟩⟩:ByteArray).toList==(⟨⟨b⟩⟩:ByteArray).toList)))=_;rw[toL,toL];by_cases h:a=b
  ·simp[h]
  ·simp[h]) tm s ha⟩
abbrev Gf(a b:Bs):Bool:=Op.bytesLess a b
theorem Pu.slt{x y:Operand}{u r:Nat}{a b:Bs}{q:Bool}(hx:evl al x=some (S a):=by rfl)(hy:evl al y=some (S b):=by rfl)(hq:(Gf a b)=q:=by rfl):Pu E al (.binOp .lss u x y r) (.bool q):=by
 subst hq;exact
 ⟨fun _ _ _=>rfl,fun tm s ha=>cz hx hy (by
  show some (Value.bool (Op.bytesLess (⟨⟨a⟩⟩:ByteArray).toList (⟨⟨b⟩⟩:ByteArray).toList))=_;rw[toL,toL]) tm s ha⟩
theorem Pu.sge{x y:Operand}{u r:Nat}{a b:Bs}{q:Bool}(hx:evl al x=some (S a):=by rfl)(hy:evl al y=some (S b):=by rfl)(hq:(!Gf a b)=q:=by rfl):Pu E al (.binOp .geq u x y r) (.bool q):=by
 subst hq;exact
 ⟨fun _ _ _=>rfl,fun tm s ha=>cz hx hy (by
  show some (Value.bool (!Op.bytesLess (⟨⟨a⟩⟩:ByteArray).toList (⟨⟨b⟩⟩:ByteArray).toList))=_;rw[toL,toL]) tm s ha⟩
theorem Pu.sgt{x y:Operand}{u r:Nat}{a b:Bs}{q:Bool}(hx:evl al x=some (S a):=by rfl)(hy:evl al y=some (S b):=by rfl)(hq:(!(Gf a b||decide (a=b)))=q:=by rfl):Pu E al (.binOp .gtr u x y r) (.bool q):=by
 subst hq;exact
 ⟨fun _ _ _=>rfl,fun tm s ha=>cz hx hy (by
  show some (Value.bool (!(Op.bytesLess (⟨⟨a⟩⟩:ByteArray).toList (⟨⟨b⟩⟩:ByteArray).toList||(⟨⟨a⟩⟩:ByteArray).toList==(⟨⟨b⟩⟩:ByteArray).toList)))=_;rw[toL,toL,QL]) tm s ha⟩
theorem Pu.cat{x y:Operand}{u r:Nat}{a b:Bs}(hx:evl al x=some (S a):=by rfl)(hy:evl al y=some (S b):=by rfl)(hr:a.length+b.length<9223372036854775808:=by omega):Pu E al (.binOp .add u x y r) (S (a++b)):=
 ⟨fun _ _ _=>rfl,fun tm s ha=>cz hx hy (by
  show ff ⟨⟨a⟩⟩ ⟨⟨b⟩⟩=_;unfold ff;have hs:∀c:Bs,(⟨⟨c⟩⟩:ByteArray).size=c.length:=fun c=>rfl;rw[if_neg (by rw[hs,hs];show¬((a.length+b.length:Nat):Int)>9223372036854775807;omega)];congr 2) tm s ha⟩
theorem Pu.ix{x y:Operand}{u:Nat}{a:Bs}{K:IntKind}{n:Int}{c:UInt8}(hc:a[n.toNat]? =some c)(hx:evl al x=some (S a):=by rfl)(hy:evl al y=some (.int K n):=by rfl)(hu:isS E u=true:=by rfl)(hn:0≤n:=by omega):Pu E al (.index u x y) (.int .u8 c.toNat):=
 ⟨fun _ _ _=>rfl,fun tm s ha=>by
  obtain⟨i,h1,h2⟩:=JH hu;show Fx u x y E tm s=_;unfold Fx;rw[h1,Gm ha hx,Gm ha hy];simp only;rw[h2];simp only;rw[if_pos hn,hc]⟩
def bdl(al:Al)(d m:Nat):Option Operand→Nat→Prop
 |none,r=>r=d
 |some x,r=>∃k i,evl al x=some (.int k i)∧0≤i∧i≤m∧i.toNat=r
theorem D8{d m r:Nat}{x:Option Operand}(h:bdl al d m x r){tm:Tm}(ha:Has al tm):bnd tm d m x=some r:=by
 cases x with
 |none=>show some d=_;rw[show r=d from h]
 |some x=>
  obtain⟨k,i,h1,h2,h3,h4⟩:=h;unfold bnd;simp only;rw[Gm ha h1];simp only;rw[if_pos ⟨h2,h3⟩,h4]
theorem Pu.sls{x:Operand}{lo hi:Option Operand}{u:Nat}{a:Bs}{p q:Nat}(hp:bdl al 0 q lo p)(hq:bdl al a.length a.length hi q)(hx:evl al x=some (S a):=by rfl)(hu:isS E u=true:=by rfl)(hqa:q≤a.length:=by omega):Pu E al (.slice u x lo hi none) (S ((a.drop p).take (q-p))):=
 ⟨fun _ _ _=>rfl,fun tm s ha=>by
  obtain⟨i,h1,h2⟩:=JH hu;show No u x lo hi none E tm s=_;unfold No;rw[Gm ha hx];simp only;have:Bc E s tm u (S a) lo hi none=some (S ((a.drop p).take (q-p))):=by
   unfold Bc;rw[h1];simp only;rw[h2];simp only[natK_eq];have hl:zp (⟨⟨a⟩⟩:ByteArray).data.toList=a.length:=zq a;rw[hl];have hb:Mn tm a.length a.length lo hi none=some (p,q,a.length):=by
    unfold Mn;simp only[Option.isSome_none,Xp,cond_false];rw[show bnd tm a.length a.length none=some a.length from rfl];simp only;rw[D8 hq ha];simp only;rw[Z0 hqa];simp only[cond_true];rw[D8 hp ha]
   rw[hb];simp only;rw[GQ];congr 2;apply ByteArray.ext;apply Array.ext';exact extract_toList _ _ _
  rw[this]⟩
end Go.Lx
namespace Go.Lx
open Go Go.Ax
variable {E:Env}{N:Nat}{ops l:List Oper}{an:List Nat}{base i:Nat}{al:Al}{L P:List Asn}
structure Chk where
 lo:Nat
 hi:Nat
 ok:List Asn→List Asn→Prop
abbrev Ni :=List (List Asn×List Asn)
abbrev Hj :=List (Nat×Asn)
def Zj0(E:Env)(op:Op)(tm:Tm)(v:Value)(ok:List Asn→List Asn→Prop):Prop:=∀L P S s s',Sat L P S s→D7 s s'→ok L P→opA op E tm s'=some (v,s')
def JM(E:Env)(ops:List Oper)(an:List Nat)(r:Rec)(k:Chk):Prop:=
 k.lo≤Tf E.ty ops (an.getD r.i 0)∧Ti E.ty ops an r.i≤k.hi∧(Dk r.o.op=true→veq r.v r.v=true)∧Zj0 E r.o.op r.tm r.v k.ok
def JN(E:Env)(r:Rec):Prop:=(Dk r.o.op=true→veq r.v r.v=true)∧∀s,opA r.o.op E r.tm s=some (r.v,s)
structure DI(ops:List Oper)(base i:Nat)(L P:List Asn)(NW:Hj)(S:Nat→Prop)(s:AS)(nw:Gy):Prop where
 sat:Sat L P S s
 bnx:base+ops.length≤s.nx
 none:∀j A,(j,A)∈NW→s.h.get (base+j)=none∧j<ops.length
 nd:nw.Pairwise (fun a b=>a.1≠b.1)
 lt:∀x∈nw,x.1<i
 ndN:(NW.map (·.1)).Nodup
 news:∀j A,(j,A)∈NW→∃o,(j,o)∈nw∧∀h:T Gg,h.get (base+j)=some o→A.p (fun k=>k=base+j) h
 all:∀x∈nw,(∃A,(x.1,A)∈NW)∨s.h.get (base+x.1)≠Option.none
 ahead:∀j,i≤j→j<ops.length→s.h.get (base+j)=Option.none
def QP(ss:List AS)(Hs:Ni):Prop:=ss.length=Hs.length∧∀(m:Nat) (s:AS),ss[m]? =some s→∃(H:List Asn×List Asn) (S:Nat→Prop),Hs[m]? =some H∧Sat H.1 H.2 S s
def Zj1(E:Env)(ops:List Oper)(an:List Nat)(rs:List Rec)(CK:List Chk):Prop:=∀r∈rs,JN E r∨∃k∈CK,JM E ops an r k
def CkOk(CK:List Chk)(Hs:Ni):Prop:=∀k∈CK,∀(m:Nat) (H:List Asn×List Asn),k.lo≤m→m≤k.hi→Hs[m]? =some H→k.ok H.1 H.2
def WD(E:Env)(N:Nat)(ops:List Oper)(an:List Nat)(base:Nat)(l:List Oper)(i:Nat)(al:Al)(L P:List Asn)(NW:Hj)(Hs:Ni)(CK:List Chk)(K:Al→List Asn→List Asn→Prop):Prop:=
 ∀S0 s0 S s tm ss rs nw,Tr S0 s0 S s→s0.nx≤base→DI ops base i L P NW S s nw→Has al tm→QP ss Hs→Zj1 E ops an rs CK→∃F D tm' s' ss' rs' nw' S' al' L' P',Np E (Gw E F D) N ops an base l i tm s ss rs nw=some (tm',s',ss',rs',nw')∧
  rs'.all (Iu E ops an base ss')=true∧Tr S0 s0 S' (laid base (Tj ops.length) nw' s')∧Has al' tm'∧Sat L' P' S' (laid base (Tj ops.length) nw' s')∧K al' L' P'
theorem WZ(base bits:Nat)(nw:Gy)(s:AS):D7 s (laid base bits nw s):=fun b o h=>Du base bits nw s b o h
theorem Zj2{ss:List AS}{Hs:Ni}(hh:QP ss Hs){CK:List Chk}(hc:CkOk CK Hs){r:Rec}(hr:JN E r∨∃k∈CK,JM E ops an r k):Iu E ops an base ss r=true:=by
 unfold Iu;cases hs:Dk r.o.op with
 |false=>rfl
 |true=>
  simp only[Bool.not_true,cond_false];rw[Xt];intro x hx;obtain⟨s,m⟩:=x;have hm:ss[m]? =some s:=by
   have:=List.mem_zipIdx_iff_getElem?.1 hx;simpa using this
  simp only;cases hw:(Zb (Tf E.ty ops (an.getD r.i 0)) m&&Zb m (Ti E.ty ops an r.i))with
  |false=>rfl
  |true=>
   simp only[cond_true];rcases hr with⟨h1,h2⟩|⟨k,hk,h1,h2,h3,h4⟩
   ·rw[h2 _];exact h1 hs
   ·rw[Zi]at hw;obtain⟨H,S,g1,g2⟩:=hh.2 m s hm;have hok:=hc k hk m H (Ye h1 (Yr hw.1)) (Ye (Yr hw.2) h2) g1;rw[h4 _ _ _ _ _ g2 (WZ base (an.getD r.i 0) r.news s) hok];exact h3 hs
def Nw(bits:Nat):Hj→List Asn
 |[]=>[]
 |(j,A)::l=>bif bits.testBit j then A::Nw bits l else Nw bits l
def Nj(bits:Nat):Hj→Hj
 |[]=>[]
 |(j,A)::l=>bif bits.testBit j then Nj bits l else(j,A)::Nj bits l
theorem c9{bits:Nat}:∀ {NW:Hj} {x:Nat×Asn},x∈Nj bits NW↔x∈NW∧bits.testBit x.1=false
 |[],x=>by simp[Nj]
 |(j,A)::l,x=>by
  unfold Nj;cases hb:bits.testBit j with
  |true=>
   rw[cond_true,c9 (NW:=l),Zg];constructor
   ·exact fun h=>⟨.inr h.1,h.2⟩
   ·rintro⟨rfl|h,h2⟩
    ·rw[hb]at h2;cases h2
    ·exact⟨h,h2⟩
  |false=>
   rw[cond_false,Zg,c9 (NW:=l),Zg];constructor
   ·rintro(rfl|h)
    ·exact⟨.inl rfl,hb⟩
    ·exact⟨.inr h.1,h.2⟩
   ·rintro⟨rfl|h,h2⟩
    ·exact .inl rfl
    ·exact .inr ⟨h,h2⟩
theorem JB{bits:Nat}:∀ {NW:Hj},(NW.map (·.1)).Nodup→((Nj bits NW).map (·.1)).Nodup
 |[],h=>h
 |(j,A)::l,h=>by
  rw[Zr,Yz]at h;unfold Nj;cases bits.testBit j with
  |true=>exact JB h.2
  |false=>
   rw[cond_false,Zr,Yz];refine⟨fun hm=>h.1 ?_,JB h.2⟩;obtain⟨x,hx,e⟩:=Zl.1 hm;exact Zl.2 ⟨x,(c9.1 hx).1,e⟩
theorem JC{S:Nat→Prop}{s:AS}{nw:Gy}{NW:Hj}(h:DI ops base i L P NW S s nw)(bits:Nat){j:Nat}{A:Asn}(hm:(j,A)∈NW)(hb:bits.testBit j=true):∃o,(laid base bits nw s).h.get (base+j)=some o∧∀h:T Gg,h.get (base+j)=some o→A.p (fun k=>k=base+j) h:=by
 obtain⟨o,h1,h2⟩:=h.news j A hm;exact⟨o,rj base bits nw s h.nd (j,o) h1 hb (h.none j A hm).1,h2⟩
theorem db{S:Nat→Prop}{s:AS}{nw:Gy}{NW:Hj}(h:DI ops base i L P NW S s nw)(bits:Nat){k:Nat}(hk:∀j A,(j,A)∈NW→bits.testBit j=true→k≠base+j):(laid base bits nw s).h.get k=s.h.get k:=by
 cases hg:s.h.get k with
 |some o=>exact Du _ _ _ _ _ _ hg
 |none=>
  rw[I6 _ _ _ _ _ (fun x hx hb e=>?_),hg];rcases h.all x hx with⟨A,hA⟩|hn
  ·exact hk x.1 A hA hb e
  ·rw[←e]at hn;exact hn hg
theorem WY{S:Nat→Prop}{s:AS}{nw:Gy}{NW:Hj}(h:DI ops base i L P NW S s nw)(bits:Nat):∀(M:Hj),(∀x∈M,x∈NW)→(M.map (·.1)).Nodup→Own (Nw bits M++L) (fun b=>S b∨∃j A,(j,A)∈M∧bits.testBit j=true∧b=base+j) (laid base bits nw s).h
 |[],_,_=>(h.sat.own.loc (fun b hb=>db h bits (fun j A hm _ e=>h.sat.ex b hb (by rw[e];exact(h.none j A hm).1)))).sub (fun b hb=>.inl hb)
 |(j,A)::M,hM,hnd=>by
  rw[Zr,Yz]at hnd;have ih:=WY h bits M (fun x hx=>hM x (.tail _ hx)) hnd.2;unfold Nw;cases hb:bits.testBit j with
  |false=>
   rw[cond_false];exact ih.sub (fun b hb'=>hb'.imp id (fun⟨j',A',h1,h2,h3⟩=>⟨j',A',.tail _ h1,h2,h3⟩))
  |true=>
   rw[cond_true];obtain⟨o,h1,h2⟩:=JC h bits (hM _ (.head _)) hb;refine⟨fun k=>k=base+j,fun b=>S b∨∃j A,(j,A)∈M∧bits.testBit j=true∧b=base+j,fun k hk=>.inr ⟨j,A,.head _,hb,hk⟩,fun b hb'=>hb'.imp id (fun⟨j',A',h1,h2,h3⟩=>⟨j',A',.tail _ h1,h2,h3⟩),fun k hk hk2=>?_,h2 _ h1,ih⟩;subst hk;rcases hk2 with hk2|⟨j',A',g1,_,g3⟩
   ·exact h.sat.ex _ hk2 (h.none j A (hM _ (.head _))).1
   ·have:j=j':=by omega
    subst this;exact hnd.1 (Zl.2 ⟨_,g1,rfl⟩)
theorem DI.laid{S:Nat→Prop}{s:AS}{nw:Gy}{NW:Hj}(h:DI ops base i L P NW S s nw)(bits:Nat):DI ops base i (Nw bits NW++L) P (Nj bits NW) (fun b=>S b∨∃j A,(j,A)∈NW∧bits.testBit j=true∧b=base+j) (Go.Ax.laid base bits nw s) nw:=by
 have hx:∀b,s.h.get b≠Option.none→(Go.Ax.laid base bits nw s).h.get b=s.h.get b:=fun b hb=>db h bits (fun j A hm _ e=>hb (by rw[e];exact(h.none j A hm).1));refine⟨⟨WY h bits NW (fun _ h=>h) h.ndN,fun A hA=>?_,fun b hb=>?_,fun b hb=>?_⟩,by rw[Dt];exact h.bnx,fun j A hm=>?_,h.nd,h.lt,JB h.ndN,fun j A hm=>h.news j A (c9.1 hm).1,fun x hx'=>?_,fun j h1 h2=>?_⟩
 ·obtain⟨U,hu,hk⟩:=h.sat.per A hA;refine⟨U,A.loc _ _ _ (fun b hb=>hx b (hk b hb).2) hu,fun b hb=>⟨?_,by rw[hx b (hk b hb).2];exact(hk b hb).2⟩⟩;rintro(e|⟨j,A',h1,_,rfl⟩)
  ·exact(hk b hb).1 e
  ·exact(hk _ hb).2 (h.none j A' h1).1
 ·rcases hb with hb|⟨j,A,h1,h2,rfl⟩
  ·rw[hx b (h.sat.ex b hb)];exact h.sat.ex b hb
  ·obtain⟨o,g1,_⟩:=JC h bits h1 h2;rw[g1];simp
 ·rw[Dt]at hb;rw[db h bits (fun j A hm _ e=>by have:=(h.none j A hm).2;have:=h.bnx;omega)];exact h.sat.fresh b hb
 ·obtain⟨h1,h2⟩:=c9.1 hm;have h2:bits.testBit j=false:=h2;refine⟨?_,(h.none j A h1).2⟩;rw[db h bits (fun j' A' hm' hb' e=>by
   have:j=j':=by omega
   subst this;rw[h2]at hb';cases hb')]
  exact(h.none j A h1).1
 ·rcases h.all x hx' with⟨A,hA⟩|hn
  ·cases hb:bits.testBit x.1 with
   |false=>exact .inl ⟨A,c9.2 ⟨hA,hb⟩⟩
   |true=>
    obtain⟨o,g1,_⟩:=JC h bits hA hb;exact .inr (by rw[g1];simp)
  ·exact .inr (by rw[hx _ hn];exact hn)
 ·rw[db h bits (fun j' A hm _ e=>by
   obtain⟨o,g1,_⟩:=h.news j' A hm;have:=h.lt _ g1;have:j=j':=by omega
   subst this;simp only at *;omega)]
  exact h.ahead j h1 h2
theorem WX{S:Nat→Prop}{s:AS}{nw:Gy}{NW:Hj}(h:DI ops base i L P NW S s nw)(bits:Nat){s0:AS}{S0:Nat→Prop}(ht:Tr S0 s0 S s)(hb:s0.nx≤base):Tr S0 s0 (fun b=>S b∨∃j A,(j,A)∈NW∧bits.testBit j=true∧b=base+j) (laid base bits nw s):=
 ⟨by rw[Dt];exact ht.nx,fun b hb' hn=>by
  rw[db h bits (fun j A hm _ e=>by omega)];exact ht.keep b hb' hn,fun b hb'=>hb'.elim (ht.sub b) (fun⟨j,A,_,_,e⟩=>.inr (by omega)),fun b hb'=>by
  have:=ht.stay b hb';cases hg:s.h.get b with
  |none=>exact absurd hg this
  |some o=>rw[Du _ _ _ _ _ _ hg];simp⟩
variable {NW:Hj}{Hs:Ni}{CK:List Chk}{K:Al→List Asn→List Asn→Prop}
theorem DI.step{S:Nat→Prop}{s:AS}{nw:Gy}(h:DI ops base i L P NW S s nw):DI ops base (i+1) L P NW S s nw:=⟨h.sat,h.bnx,h.none,h.nd,fun x hx=>Zr8 (h.lt x hx),h.ndN,h.news,h.all,fun j h1 h2=>h.ahead j (by omega) h2⟩
theorem WD.nil(hc:CkOk CK Hs)(h:K al (Nw (Tj ops.length) NW++L) P):WD E N ops an base [] i al L P NW Hs CK K:=by
 intro S0 s0 S s tm ss rs nw ht hb hd ha hh hr;refine⟨0,0,tm,s,ss,rs,nw,_,al,_,P,rfl,?_,WX hd _ ht hb,ha,(hd.laid _).sat,h⟩;rw[Xt];exact fun r hr'=>Zj2 hh hc (hr r hr')
theorem Zj3{o:Oper}{tm:Tm}(hg:o.guard=none):Ha ops tm o=some true:=by unfold Ha;rw[hg]
theorem yj{tm:Tm}{d:Nat}{v:Value}(hN:Zb d N=true):Gq N tm (some d) v=some (tm.set d v):=by unfold Gq;simp only[hN,cond_true]
theorem WD.lookE{o:Oper}{d:Nat}{v:Value}(hg:∀tm,Has al tm→Ha ops tm o=some true)(hd:o.dst=some d)(hN:Zb d N=true)(hn:Gv o.op=false)(he:eff E.ty o.op=false)(hx:∀call tm s,Hb o.op E call tm s=opA o.op E tm s){CK':List Chk}(hck:∀k∈CK,k∈CK')
  (hrun:∀(tm:Tm) (S:Nat→Prop) (s s':AS),Has al tm→Sat L P S s→D7 s s'→opA o.op E tm s'=some (v,s'))
  (hrec:∀(tm:Tm) (nw:Gy) (S:Nat→Prop) (s:AS),Has al tm→Sat L P S s→JN E ⟨i,o,tm,v,nw⟩∨∃k∈CK',JM E ops an ⟨i,o,tm,v,nw⟩ k)
  (h:WD E N ops an base l (i+1) ((d,v)::al) L P NW Hs CK' K):WD E N ops an base (o::l) i al L P NW Hs CK K:=by
 intro S0 s0 S s tm ss rs nw ht hb hdi ha hh hr;obtain⟨F,D,tm',s',ss',rs',nw',S',al',L',P',e,hall⟩:=h S0 s0 S s (tm.set d v) ss (⟨i,o,tm,v,nw⟩::rs) nw ht hb hdi.step (ha.set d v) hh (fun r hr'=>by
  cases hr' with
  |head=>exact hrec tm nw S s ha hdi.sat
  |tail _ hr'=>exact(hr r hr').imp id (fun⟨k,hk,hx⟩=>⟨k,hck k hk,hx⟩))
 refine⟨F,D,tm',s',ss',rs',nw',S',al',L',P',?_,hall⟩;rw[yg,hg tm ha];simp only;rw[hn];simp only[cond_false];rw[hx,hrun tm S s _ ha hdi.sat (WZ _ _ _ _)];simp only;rw[hd,yj hN];simp only;rw[he];exact e
theorem WD.actE{o:Oper}(hg:∀tm,Has al tm→Ha ops tm o=some true)(hn:Gv o.op=false)(he:eff E.ty o.op=true){alF:Value→Al}(hal:∀(tm:Tm) (v:Value),Has al tm→∃tm',Gq N tm o.dst v=some tm'∧Has (alF v) tm')
  (h:WO E o.op al (Nw (an.getD i 0) NW++L) P (fun v L' P'=>WD E N ops an base l (i+1) (alF v) L' P' (Nj (an.getD i 0) NW) (Hs++[(L',P')]) CK K)):WD E N ops an base (o::l) i al L P NW Hs CK K:=by
 intro S0 s0 S s tm ss rs nw ht hb hdi ha hh hr;have hdl:=hdi.laid (an.getD i 0);have htl:=WX hdi (an.getD i 0) ht hb;obtain⟨v,s1,S1,L1,P1,⟨F1,D1,e1⟩,ht1,hs1,hq⟩:=h _ _ tm hdl.sat ha;obtain⟨tm2,hp,ha2⟩:=hal tm v ha;have hdi1:DI ops base (i+1) L1 P1 (Nj (an.getD i 0) NW) S1 s1 nw:=by
  have hk:∀k,k<base+ops.length→(Go.Ax.laid base (an.getD i 0) nw s).h.get k=none→s1.h.get k=none:=fun k hk hg0=>by
   rw[ht1.keep k (by have:=hdl.bnx;omega) (fun e=>hdl.sat.ex k e hg0)];exact hg0
  exact⟨hs1,Ye hdl.bnx ht1.nx,fun j A hm=>⟨hk _ (by have:=(hdl.none j A hm).2;omega) (hdl.none j A hm).1,(hdl.none j A hm).2⟩,hdl.nd,fun x hx=>Zr8 (hdl.lt x hx),hdl.ndN,hdl.news,fun x hx=>(hdl.all x hx).imp id (ht1.stay _),fun j h1 h2=>hk _ (by omega) (hdl.ahead j (by omega) h2)⟩
 obtain⟨F2,D2,tm',s',ss',rs',nw',S',al',L',P',e2,hall⟩:=hq S0 s0 S1 s1 tm2 (ss++[s1]) rs nw (htl.trans ht1) hb hdi1 ha2 ⟨by simp[hh.1],fun m s' hm=>by
  rcases Zt m ss.length with hlt|hge
  ·rw[Vt hlt]at hm;obtain⟨H,S2,g1,g2⟩:=hh.2 m s' hm;exact⟨H,S2,by rw[Vt (by rw[←hh.1];exact hlt)];exact g1,g2⟩
  ·rw[Vj hge]at hm;have hm0:m-ss.length=0:=by
    rcases Nat.eq_zero_or_pos (m-ss.length)with h|h
    ·exact h
    ·rw[List.getElem?_eq_none (by simp;omega)]at hm;cases hm
   rw[hm0]at hm;cases hm;exact⟨(L1,P1),S1,by rw[Vj (by rw[←hh.1];exact hge),←hh.1,hm0];rfl,hs1⟩⟩ hr
 refine⟨max F1 F2,max D1 D2,tm',s',ss',rs',nw',S',al',L',P',?_,hall⟩;rw[yg,hg tm ha];simp only;rw[hn];simp only[cond_false];rw[kf (Nh D1 (max D1 D2) F1 (max F1 F2) (by omega) (by omega)) e1];simp only;rw[hp];simp only;rw[he];simp only[cond_true];exact cq (Nh D2 (max D1 D2) F2 (max F1 F2) (by omega) (by omega)) _ e2
theorem WD.newE{o:Oper}{d:Nat}{v:Nat→Value}{ob:Gg}{A:Nat→Asn}(hg:∀tm,Has al tm→Ha ops tm o=some true)(hd:o.dst=some d)(hN:Zb d N=true)(hn:Gv o.op=true)(hi:i<ops.length)
  (hrun:∀(tm:Tm) (b:Nat),Has al tm→N4 o.op E tm b=some (v b,ob)) (hA:∀(b:Nat) (h:T Gg),h.get b=some ob→(A b).p (fun k=>k=b) h)
  (hlt:∀x∈NW,x.1<i)
  (h:∀b,WD E N ops an base l (i+1) ((d,v b)::al) L P (NW++[(i,A b)]) Hs CK K):WD E N ops an base (o::l) i al L P NW Hs CK K:=by
 intro S0 s0 S s tm ss rs nw ht hb hdi ha hh hr;have hdi1:DI ops base (i+1) L P (NW++[(i,A (base+i))]) S s (nw++[(i,ob)]):=by
  refine⟨hdi.sat,hdi.bnx,fun j B hm=>?_,?_,fun x hx=>?_,?_,fun j B hm=>?_,fun x hx=>?_,fun j h1 h2=>hdi.ahead j (by omega) h2⟩
  ·rcases Zk.1 hm with hm|hm
   ·exact hdi.none j B hm
   ·cases Z6.1 hm;exact⟨hdi.ahead i (Ze _) hi,hi⟩
  ·rw[List.pairwise_append];refine⟨hdi.nd,List.pairwise_singleton _ _,fun a ha b hb=>?_⟩;cases Z6.1 hb;have:=hdi.lt a ha;simp only;omega
  ·rcases Zk.1 hx with hx|hx
   ·exact Zr8 (hdi.lt x hx)
   ·cases Z6.1 hx;exact Nat.lt_succ_self i
  ·rw[List.map_append,List.nodup_append];refine⟨hdi.ndN,by simp,fun a ha b hb=>?_⟩;obtain⟨x,hx,rfl⟩:=Zl.1 ha;simp only[Zr,List.map_nil,Z6]at hb;subst hb;have:=hlt x hx;omega
  ·rcases Zk.1 hm with hm|hm
   ·obtain⟨o',g1,g2⟩:=hdi.news j B hm;exact⟨o',Zk.2 (.inl g1),g2⟩
   ·cases Z6.1 hm;exact⟨ob,Zk.2 (.inr (by simp)),hA _⟩
  ·rcases Zk.1 hx with hx|hx
   ·exact(hdi.all x hx).imp (fun⟨B,hB⟩=>⟨B,Zk.2 (.inl hB)⟩) id
   ·cases Z6.1 hx;exact .inl ⟨A (base+i),Zk.2 (.inr (by simp))⟩
 obtain⟨F,D,tm',s',ss',rs',nw',S',al',L',P',e,hall⟩:=h (base+i) S0 s0 S s (tm.set d (v (base+i))) ss rs (nw++[(i,ob)]) ht hb hdi1 (ha.set d _) hh hr;refine⟨F,D,tm',s',ss',rs',nw',S',al',L',P',?_,hall⟩;rw[yg,hg tm ha];simp only;rw[hn];simp only[cond_true,natK_eq];rw[hrun tm (base+i) ha];simp only;rw[hd,yj hN];exact e
theorem W.drawn{id:Nat}{os:Array Oper}{Q:X→Al→List Asn→List Asn→Prop}(h:∀base,WD E N os.toList (Gt os.toList []) base os.toList 0 al L P [] [(L,P)] [] (Q .nor))(ha:(os.toList.any fun o=>eff E.ty o.op||Gv o.op)=true:=by kernel_rfl):W E N (.region id os true) al L P Q:=by
 intro S s tm hs hal;have hs1:Sat L P S ⟨s.h,s.nx+os.toList.length⟩:=⟨hs.own,hs.per,hs.ex,fun b hb=>hs.fresh b (by have hb:s.nx+os.toList.length≤b:=hb;omega)⟩;obtain⟨F,D,tm',s',ss',rs',nw',S',al',L',P',e,h1,h2,h3,h4,h5⟩:=h s.nx S s S ⟨s.h,s.nx+os.toList.length⟩ tm [⟨s.h,s.nx+os.toList.length⟩] [] []
  ⟨Nat.le_add_right _ _,fun _ _ _=>rfl,fun _ h=>.inl h,fun _ h=>h⟩ (Ze _)
  ⟨hs1,Ze _,fun _ _ h=>(by cases h),List.Pairwise.nil,fun _ h=>by(cases h),List.nodup_nil,fun _ _ h=>(by cases h),fun _ h=>by(cases h),fun j _ _=>hs.fresh _ (by omega)⟩ hal
  ⟨rfl,fun m s' hm=>by
   cases m with
   |zero=>cases hm;exact⟨(L,P),S,rfl,hs1⟩
   |succ m=>cases hm⟩ (fun _ h=>(by cases h))
 refine⟨.nor,tm',_,S',al',L',P',⟨F,D,1,?_⟩,h2,h3,h4,h5⟩;rw[JZ];unfold C1;simp only[cond_true];unfold Dl;rw[ha];simp only[cond_true,natK_eq];rw[e];simp only;rw[h1];rfl
theorem W.quiet{id:Nat}{os:Array Oper}{Q:X→Al→List Asn→List Asn→Prop}(ha:(os.toList.any fun o=>eff E.ty o.op||Gv o.op)=false)(h:WR E N os.toList os.toList al L P (Q .nor)):W E N (.region id os true) al L P Q:=by
 intro S s tm hs hal;obtain⟨tm1,s1,S1,al1,L1,P1,⟨F,D,e⟩,hr⟩:=h S s tm hs hal;refine⟨.nor,tm1,s1,S1,al1,L1,P1,⟨F,D,1,?_⟩,hr⟩;rw[JZ];unfold C1;simp only[cond_true];unfold Dl;rw[ha];simp only[cond_false];rw[e]
theorem JD(k:IntKind)(n:Int):veq (.int k n) (.int k n)=true:=by simp[veq,N3,B6]
theorem JF(b:Bool):veq (.bool b) (.bool b)=true:=by simp[veq,N3,B6]
theorem JR(b:ByteArray):veq (.string b) (.string b)=true:=by simp[veq,N3,B6]
theorem JQ(p:Option Addr):veq (.pointer p) (.pointer p)=true:=by simp[veq,N3,B6]
theorem JW(a:Option Addr)(n c:Nat):veq (.slice a n c) (.slice a n c)=true:=by simp[veq,N3,B6]
theorem Zj4(a:Option Nat):veq (.map a) (.map a)=true:=by simp[veq,N3,B6]
def gOk(ops:List Oper)(al:Al):Option (Nat×Bool)→Bool
 |none=>true
 |some (j,w)=>match gd ops al j with
  |some (.bool b)=>b==w
  |_=>false
theorem Cn{o:Oper}(h:gOk ops al o.guard=true)(tm:Tm)(ha:Has al tm):Ha ops tm o=some true:=by
 cases hg:o.guard with
 |none=>exact Zj3 hg
 |some x=>
  obtain⟨j,w⟩:=x;rw[hg]at h;unfold gOk at h;simp only at h;cases hd:gd ops al j with
  |none=>rw[hd]at h;cases h
  |some v=>
   rw[hd]at h;cases v with
   |bool b=>
    rw[JJ hg hd ha];simp only at h;rw[h]
   |_=>cases h
theorem WD.pu{d t:Nat}{op:Op}{pos:String}{af:Array Edge}{g:Option (Nat×Bool)}{v:Value}(hp:Pu E al op v)(h:WD E N ops an base l (i+1) ((d,v)::al) L P NW Hs CK K)
  (hg:gOk ops al g=true:=by rfl) (hN:Zb d N=true:=by rfl) (hn:Gv op=false:=by rfl) (he:eff E.ty op=false:=by first|rfl|kernel_rfl)
  (hq:Dk op=true→veq v v=true:=by first|exact fun _=>rfl|exact fun _=>Go.Lx.JD _ _|exact fun _=>Go.Lx.JF _|exact fun _=>Go.Lx.JQ _|exact fun _=>Go.Lx.JR _|exact fun _=>Go.Lx.JW _ _ _|exact fun h=>nomatch h):WD E N ops an base (⟨some d,op,t,pos,af,g⟩::l) i al L P NW Hs CK K:=
 WD.lookE (Cn hg) rfl hN hn he hp.1 (fun _ h=>h) (fun tm S s s' ha _ _=>hp.2 tm s' ha) (fun tm nw S s ha _=>.inl ⟨hq,fun s=>hp.2 tm s ha⟩) h
theorem WD.lk{d t:Nat}{op:Op}{pos:String}{af:Array Edge}{g:Option (Nat×Bool)}{v:Value}(hp:Lk E al L P op v)(h:WD E N ops an base l (i+1) ((d,v)::al) L P NW Hs CK K)
  (hg:gOk ops al g=true:=by rfl) (hN:Zb d N=true:=by rfl) (hn:Gv op=false:=by rfl) (he:eff E.ty op=false:=by first|rfl|kernel_rfl)
  (hq:Dk op=true→veq v v=true:=by first|exact fun _=>rfl|exact fun _=>Go.Lx.JD _ _|exact fun _=>Go.Lx.JF _|exact fun _=>Go.Lx.JQ _|exact fun _=>Go.Lx.JR _|exact fun _=>Go.Lx.JW _ _ _|exact fun h=>nomatch h):WD E N ops an base (⟨some d,op,t,pos,af,g⟩::l) i al L P NW Hs CK K:=
 WD.lookE (Cn hg) rfl hN hn he hp.1 (fun _ h=>h) (fun tm S s s' ha hs _=>hp.2 tm S s ha hs s') (fun tm nw S s ha hs=>.inl ⟨hq,hp.2 tm S s ha hs⟩) h
def T9 :Value→Bool
 |.bool _|.int _ _|.float _ _|.string _|.pointer _|.slice _ _ _|.map _|.nilFunc|.nilIface=>true
 |_=>false
theorem WV{e:Value→Value→Bool}{v:Value}(h:T9 v=true):N3 e v v=true:=by
 cases v<;>first|(cases h;done)|simp[N3,B6]
theorem Zj5{v:Value}(h:T9 v=true):veq v v=true:=WV h
theorem WU{e:Value→Value→Bool}:∀ {vs:List Value},(∀v∈vs,T9 v=true)→F0 (N3 e) vs vs=true
 |[],_=>rfl
 |v::vs,h=>by
  unfold F0;rw[WV (h v (.head _)),WU (fun u hu=>h u (.tail _ hu))];rfl
theorem Zj6{vs:List Value}(h:∀v∈vs,T9 v=true):veq (.agg ⟨vs⟩) (.agg ⟨vs⟩)=true:=WU h
theorem Gn.one{k:Nat}{v:Value}{es:List (List Value)}(h:Gn k v es L P){S:Nat→Prop}{s:AS}(hs:Sat L P S s):T9 v=true:=by
 obtain⟨a,c,rfl,_⟩:=h.holds hs;rfl
inductive AOk(L P:List Asn):List Value→Prop
 |nil:AOk L P []
 |one {v:Value} {vs:List Value} (h:T9 v=true) (t:AOk L P vs):AOk L P (v::vs)
 |sl {v:Value} {vs:List Value} {k:Nat} {es:List (List Value)} (h:Gn k v es L P) (t:AOk L P vs):AOk L P (v::vs)
inductive VOk(L P:List Asn):Value→Prop
 |c {v:Value} (h:veq v v=true):VOk L P v
 |sl {v:Value} {k:Nat} {es:List (List Value)} (h:Gn k v es L P):VOk L P v
 |agg {vs:List Value} (h:AOk L P vs):VOk L P (.agg ⟨vs⟩)
theorem AOk.spec{S:Nat→Prop}{s:AS}(hs:Sat L P S s){vs:List Value}(h:AOk L P vs):∀v∈vs,T9 v=true:=by
 induction h with
 |nil=>exact fun v hv=>by cases hv
 |one h t ih=>
  intro v hv;cases hv with
  |head=>exact h
  |tail _ hv=>exact ih v hv
 |sl h t ih=>
  intro v hv;cases hv with
  |head=>exact h.one hs
  |tail _ hv=>exact ih v hv
theorem VOk.spec{S:Nat→Prop}{s:AS}(hs:Sat L P S s){v:Value}(h:VOk L P v):veq v v=true:=by
 cases h with
 |c h=>exact h
 |sl h=>exact Zj5 (h.one hs)
 |agg h=>exact Zj6 (h.spec hs)
theorem WD.lo(lo hi:Nat){d t:Nat}{op:Op}{pos:String}{af:Array Edge}{g:Option (Nat×Bool)}{v:Value}{ok:List Asn→List Asn→Prop}(hp:Ld E al op v ok)(hk:ok L P)(h:WD E N ops an base l (i+1) ((d,v)::al) L P NW Hs (⟨lo,hi,ok⟩::CK) K)
  (hw:(Zb lo (Tf E.ty ops (an.getD i 0))&&Zb (Ti E.ty ops an i) hi)=true:=by kernel_rfl)
  (hg:gOk ops al g=true:=by rfl) (hN:Zb d N=true:=by rfl) (hn:Gv op=false:=by rfl) (he:eff E.ty op=false:=by first|rfl|kernel_rfl)
  (hq:VOk L P v:=by first|exact .c rfl|exact .c (Go.Lx.JD _ _)|exact .c (Go.Lx.JQ _)|exact .c (Go.Lx.JR _)|exact .c (Go.Lx.JF _)|exact .c (Go.Lx.JW _ _ _)|exact .c (Go.Lx.Zj4 _)|exact .sl (by first|assumption|exact .s .p0|exact .s .p1|exact .s .p2|exact .s .p3|exact .s (.p (by assumption))|exact .s (.h1 (by assumption))|exact .s (.h2 (by assumption))|exact .o .l0|exact .o .l1|exact .o .l2)|exact .agg (by repeat (first|exact AOk.nil|refine AOk.one rfl ?_|refine AOk.sl (by assumption) ?_))|exact .c (by assumption)):WD E N ops an base (⟨some d,op,t,pos,af,g⟩::l) i al L P NW Hs CK K:=
 WD.lookE (Cn hg) rfl hN hn he hp.1 (fun _ h=>.tail _ h) (fun tm S s s' ha hs hx=>hp.2 tm ha L P S s s' hs hx hk) (fun tm nw S s ha hs=>.inr ⟨_,.head _,by
  rw[Zi]at hw;exact⟨Yr hw.1,Yr hw.2,fun _=>hq.spec hs,fun L P S s s' hs he hk=>hp.2 tm ha L P S s s' hs he hk⟩⟩) h
theorem WD.call{x:Operand}{xs:Array Operand}{ts:Array TypeId}{f:FuncId}{fs cs:Array Value}{vs:List Value}{d t:Nat}{pos:String}{af:Array Edge}{g:Option (Nat×Bool)}{Qs:Value→List Asn→List Asn→Prop}(h:Sp E f (fs.toList++vs++cs.toList) (Nw (an.getD i 0) NW++L) P Qs)
  (hk:∀v L' P',Qs v L' P'→WD E N ops an base l (i+1) ((d,v)::al) L' P' (Nj (an.getD i 0) NW) (Hs++[(L',P')]) CK K)
  (hf:evl al x=some (.func (.func f) fs cs):=by rfl) (hx:Me al xs.toList=some vs:=by rfl) (hg:gOk ops al g=true:=by rfl) (hN:Zb d N=true:=by rfl):WD E N ops an base (⟨some d,.call ⟨.value x,xs,ts⟩,t,pos,af,g⟩::l) i al L P NW Hs CK K:=
 WD.actE (Cn hg) rfl rfl (fun tm v ha=>⟨_,yj hN,ha.set d v⟩) (WO.call hf hx (h.mono hk))
theorem WD.st{x y:Operand}{u b o z t:Nat}{cs cs' vs:List Value}{pos:String}{af:Array Edge}{g:Option (Nat×Bool)}{v:Value}{ti:TI}{L':List Asn}(h:WD E N ops an base l (i+1) al L' P (Nj (an.getD i 0) NW) (Hs++[(L',P)]) CK K)(hx:evl al x=some (.pointer (some ⟨b,o,none⟩)):=by rfl)(hy:evl al y=some v:=by rfl)(hc:v.cells.toList=vs:=by rfl)(hi:E.ty.get u=some ti:=by rfl)
  (hu:Upd (Pt b cs z) (Pt b cs' z) (Nw (an.getD i 0) NW++L) L':=by first|exact .z|exact .s .z|exact .s (.s .z)|exact .s (.s (.s .z))|exact .s (.s (.s (.s .z)))|exact .s (.s (.s (.s (.s .z))))|exact .s (.s (.s (.s (.s (.s .z)))))|exact .s (.s (.s (.s (.s (.s (.s .z))))))|exact .s (.s (.s (.s (.s (.s (.s (.s .z))))))))
  (hset:Mx cs o vs cs':=by(repeat (first|exact Mx.nil|apply Mx.here|apply Mx.skip))) (hsz:vs.length=ti.size:=by rfl) (ho:ones vs=true:=by rfl) (hg:gOk ops al g=true:=by rfl):WD E N ops an base (⟨none,.store u x y,t,pos,af,g⟩::l) i al L P NW Hs CK K:=by
 subst hc;exact WD.actE (alF:=fun _=>al) (Cn hg) rfl rfl (fun tm v ha=>⟨tm,by unfold Gq;rfl,ha⟩) (WO.store hx hy hi hsz ho hset hu h)
theorem JL{op:Op}{tm:Tm}{b:Nat}{v:Value}{ob:Gg}(h:opA op E tm ⟨.e,b⟩=some (v,AS.new ⟨.e,b⟩ ob)):N4 op E tm b=some (v,ob):=by
 unfold N4;rw[h];simp only;show(match (T.e.set b ob).get b with
  |none=>none
  |some o=>some (v,o))=_
 rw[T.get_set_same]
theorem WD.nw{u d t:Nat}{pos:String}{af:Array Edge}{g:Option (Nat×Bool)}{ti:TI}{cs:List Value}(h:∀b,WD E N ops an base l (i+1) ((d,.pointer (some ⟨b,0,none⟩))::al) L P (NW++[(i,Pt b cs (tz 0 u))]) Hs CK K)(hi:E.ty.get u=some ti:=by rfl)(hz:ti.zero=cs:=by rfl)(hg:gOk ops al g=true:=by rfl)(hN:Zb d N=true:=by rfl)
  (hl:i<ops.length:=by decide) (hlt:∀x∈NW,x.1<i:=by simp):WD E N ops an base (⟨some d,.alloc u,t,pos,af,g⟩::l) i al L P NW Hs CK K:=
 WD.newE (Cn hg) rfl hN rfl hl (fun tm b ha=>JL (ob:=.cells (T.e.fill 0 cs) cs.length (tz 0 u)) (by
  show Fq u E tm _=_;unfold Fq;rw[hi,←hz];rfl)) (fun b h hg=>JU h hg) hlt h
theorem WD.bx{x:Operand}{u d t:Nat}{pos:String}{af:Array Edge}{g:Option (Nat×Bool)}{v:Value}{cs:List Value}(h:∀b,WD E N ops an base l (i+1) ((d,.pointer (some ⟨b,0,none⟩))::al) L P (NW++[(i,Pt b cs (tz 0 u))]) Hs CK K)(hx:evl al x=some v:=by rfl)(hz:v.cells.toList=cs:=by rfl)(hg:gOk ops al g=true:=by rfl)(hN:Zb d N=true:=by rfl)
  (hl:i<ops.length:=by decide) (hlt:∀x∈NW,x.1<i:=by simp):WD E N ops an base (⟨some d,.box u x,t,pos,af,g⟩::l) i al L P NW Hs CK K:=
 WD.newE (Cn hg) rfl hN rfl hl (fun tm b ha=>JL (ob:=.cells (T.e.fill 0 cs) cs.length (tz 0 u)) (by
  show Dj u x E tm _=_;unfold Dj;rw[Gm ha hx,←hz];rfl)) (fun b h hg=>JU h hg) hlt h
inductive Win(ok:List Asn→List Asn→Prop)(lo hi:Nat):Nat→Ni→Prop
 |nil {m:Nat}:Win ok lo hi m []
 |yes {m:Nat} {L P:List Asn} {Hs:Ni} (h:ok L P) (t:Win ok lo hi (m+1) Hs):Win ok lo hi m ((L,P)::Hs)
 |skip {m:Nat} {H:List Asn×List Asn} {Hs:Ni} (t:Win ok lo hi (m+1) Hs) (hb:(Zb lo m&&Zb m hi)=false:=by rfl):Win ok lo hi m (H::Hs)
theorem Win.spec{ok:List Asn→List Asn→Prop}{lo hi m:Nat}{Hs:Ni}(h:Win ok lo hi m Hs):∀(n:Nat) (H:List Asn×List Asn),lo≤m+n→m+n≤hi→Hs[n]? =some H→ok H.1 H.2:=by
 induction h with
 |nil=>intro n H _ _ e;cases e
 |yes h t ih=>
  intro n H h1 h2 e;cases n with
  |zero=>cases e;exact h
  |succ n=>exact ih n H (by omega) (by omega) (by simpa using e)
 |skip t hb ih=>
  intro n H h1 h2 e;cases n with
  |zero=>
   rw[Bool.and_eq_false_iff]at hb;rcases hb with hb|hb
   ·rw[Z0 (by omega)]at hb;cases hb
   ·rw[Z0 (by omega)]at hb;cases hb
  |succ n=>exact ih n H (by omega) (by omega) (by simpa using e)
theorem CkOk.nil{Hs:Ni}:CkOk [] Hs:=fun _ h=>by cases h
theorem CkOk.cons{lo hi:Nat}{ok:List Asn→List Asn→Prop}{CK:List Chk}{Hs:Ni}(h:Win ok lo hi 0 Hs)(t:CkOk CK Hs):CkOk (⟨lo,hi,ok⟩::CK) Hs:=fun k hk=>by
 cases hk with
 |head=>exact fun m H h1 h2 e=>h.spec m H (by rw[Zw];exact h1) (by rw[Zw];exact h2) e
 |tail _ hk=>exact t k hk
end Go.Lx
namespace Go.Lx
open Go Go.Ax
variable {E:Env}{N:Nat}{ops l:List Oper}{al:Al}{L P:List Asn}{Q:Al→List Asn→List Asn→Prop}
def ptl(al:Al):List (Nat×Operand)→Option (List (Nat×Value))
 |[]=>some []
 |(i,x)::l=>match evl al x with
  |none=>none
  |some v=>match ptl al l with
   |none=>none
   |some r=>some ((i,v)::r)
theorem kp{tm:Tm}(ha:Has al tm):∀ {l:List (Nat×Operand)} {r:List (Nat×Value)},ptl al l=some r→partsOf tm l=some r
 |[],_,e=>e
 |(i,x)::l,r,e=>by
  unfold ptl at e;unfold partsOf;cases hx:evl al x with
  |none=>rw[hx]at e;cases e
  |some v=>
   rw[hx]at e;rw[Gm ha hx];cases hl:ptl al l with
   |none=>rw[hl]at e;cases e
   |some ws=>rw[hl]at e;rw[kp ha hl];exact e
noncomputable def bld(E:Env)(al:Al)(t:TypeId)(ps:Array (Nat×Operand)):Option (List Value):=
 match E.ty.get t,ptl al ps.toList with
 |some i,some l=>match i.desc with
  |.struct fs=>match placesOf E fs.toList with
   |none=>none
   |some pl=>Cv (fun k=>pl[k]?) i.zero l
  |_=>none
 |_,_=>none
theorem Pu.bd{u:TypeId}{ps:Array (Nat×Operand)}{vs:List Value}(h:bld E al u ps=some vs:=by rfl):Pu E al (.build u ps) (.agg ⟨vs⟩):=
 ⟨fun _ _ _=>rfl,fun tm s ha=>by
  show Fs u ps E tm s=_;unfold Fs;unfold bld at h;cases hi:E.ty.get u with
  |none=>rw[hi]at h;cases h
  |some i=>
   cases hp:ptl al ps.toList with
   |none=>rw[hi,hp]at h;cases h
   |some r=>
    rw[hi,hp]at h;rw[kp ha hp];simp only at h ⊢;cases hd:i.desc with
    |struct fs=>
     rw[hd]at h;simp only at h ⊢;cases hpl:placesOf E fs.toList with
     |none=>rw[hpl]at h;cases h
     |some pl=>
      rw[hpl]at h;simp only at h ⊢;rw[h]
    |_=>rw[hd]at h;cases h⟩
def kq :Value→Option Bool
 |.pointer p=>some p.isNone
 |.slice a _ _=>some a.isNone
 |.map r=>some r.isNone
 |_=>none
theorem JP{d:TypeDesc}{s:AS}{v w:Value}{b:Bool}(hv:kq v=some b)(hw:(w=.pointer none∧∃e,d=.pointer e)∨(w=.slice none 0 0∧∃e,d=.slice e)∨(w=.map none∧∃k e,d=.map k e))(hk:(∃p,v=.pointer p∧∃e,d=.pointer e)∨(∃a n c,v=.slice a n c∧∃e,d=.slice e)∨(∃r,v=.map r∧∃k e,d=.map k e)):eqD E s d v w=some b:=by
 rcases hk with⟨p,rfl,e,rfl⟩|⟨a,n,c,rfl,e,rfl⟩|⟨r,rfl,k,e,rfl⟩
 ·rcases hw with⟨rfl,_⟩|⟨_,_,h⟩|⟨_,_,_,h⟩
  ·cases p with
   |none=>cases hv;rfl
   |some p=>cases hv;rfl
  ·cases h
  ·cases h
 ·rcases hw with⟨_,_,h⟩|⟨rfl,_⟩|⟨_,_,_,h⟩
  ·cases h
  ·cases a with
   |none=>cases hv;rfl
   |some p=>cases hv;rfl
  ·cases h
 ·rcases hw with⟨_,_,h⟩|⟨_,_,h⟩|⟨rfl,_⟩
  ·cases h
  ·cases h
  ·cases r with
   |none=>cases hv;rfl
   |some p=>cases hv;rfl
noncomputable def kr(E:Env)(u:TypeId)(v w:Value):Bool:=
 match E.ty.get u,v,w with
 |some i,.pointer _,.pointer none=>(match i.desc with|.pointer _=>true|_=>false)
 |some i,.slice _ _ _,.slice none 0 0=>(match i.desc with|.slice _=>true|_=>false)
 |some i,.map _,.map none=>(match i.desc with|.map _ _=>true|_=>false)
 |_,_,_=>false
theorem Zj7{u:TypeId}{s:AS}{v w:Value}{b:Bool}(hk:kr E u v w=true)(hb:kq v=some b):eqA E s u v w=some b∧plain v=false:=by
 unfold kr at hk;unfold eqA;split at hk
 ·rename_i i p hi;rw[hi];simp only at hk ⊢;split at hk
  ·rename_i e hd;refine⟨?_,rfl⟩;rw[hd];exact JP hb (.inl ⟨rfl,e,rfl⟩) (.inl ⟨_,rfl,e,rfl⟩)
  ·cases hk
 ·rename_i i a n c hi;rw[hi];simp only at hk ⊢;split at hk
  ·rename_i e hd;refine⟨?_,rfl⟩;rw[hd];exact JP hb (.inr (.inl ⟨rfl,e,rfl⟩)) (.inr (.inl ⟨_,_,_,rfl,e,rfl⟩))
  ·cases hk
 ·rename_i i r hi;rw[hi];simp only at hk ⊢;split at hk
  ·rename_i k e hd;refine⟨?_,rfl⟩;rw[hd];exact JP hb (.inr (.inr ⟨rfl,k,e,rfl⟩)) (.inr (.inr ⟨_,rfl,k,e,rfl⟩))
  ·cases hk
 ·cases hk
theorem WJ{op:BinOp}{u:TypeId}{x y:Operand}{v w:Value}{b:Bool}(hx:evl al x=some v)(hy:evl al y=some w)(hk:kr E u v w=true)(hb:kq v=some b)(tm:Tm)(s:AS)(ha:Has al tm){q:Bool}(hop:(op=.eql∧q=b)∨(op=.neq∧q= !b)):M5 op u x y E tm s=some (.bool q,s):=by
 obtain⟨h1,h2⟩:=Zj7 (s:=s) hk hb;unfold M5;rw[Gm ha hx,Gm ha hy];simp only;have hv:Fj E s op u x y v w=Il E s op u x y v w:=by
  cases v<;>first|rfl|cases hb
 rw[hv];have hn:Fi v=false:=by cases v<;>first|rfl|cases hb
 unfold Il;rw[hn];simp only[Xp,cond_false];rcases hop with⟨rfl,rfl⟩|⟨rfl,rfl⟩
 ·simp only;unfold Bo;rw[h1];simp
 ·simp only;unfold Bo;rw[h1];simp
theorem Pu.peq{x y:Operand}{u r:Nat}{v w:Value}{b:Bool}(hx:evl al x=some v:=by rfl)(hy:evl al y=some w:=by rfl)(hk:kr E u v w=true:=by rfl)(hb:kq v=some b:=by rfl):Pu E al (.binOp .eql u x y r) (.bool b):=⟨fun _ _ _=>rfl,fun tm s ha=>WJ hx hy hk hb tm s ha (.inl ⟨rfl,rfl⟩)⟩
theorem Pu.pne{x y:Operand}{u r:Nat}{v w:Value}{b:Bool}(hx:evl al x=some v:=by rfl)(hy:evl al y=some w:=by rfl)(hk:kr E u v w=true:=by rfl)(hb:kq v=some b:=by rfl):Pu E al (.binOp .neq u x y r) (.bool !b):=⟨fun _ _ _=>rfl,fun tm s ha=>WJ hx hy hk hb tm s ha (.inr ⟨rfl,rfl⟩)⟩
end Go.Lx
namespace Go.Lx
open Go Go.Ax
variable {E:Env}{N:Nat}{ops l:List Oper}{al:Al}{L P:List Asn}{Q:Al→List Asn→List Asn→Prop}{pos:String}{af:Array Edge}
theorem Nk{k:Nat}:∀ {es:List (List Value)},(∀e∈es,e.length=k)→es.flatten.length=es.length*k
 |[],_=>by simp
 |e::es,h=>by
  rw[V4,Zd,Nk (fun x hx=>h x (.tail _ hx)),h e (.head _),Zf,Yv];omega
theorem flat_get{k:Nat}:∀ {es:List (List Value)},(∀e∈es,e.length=k)→∀ {i:Nat} {e:List Value},es[i]? =some e→∀j,j<k→es.flatten[i*k+j]? =e[j]?
 |[],_,i,e,h=>by simp at h
 |e0::es,hk,0,e,h=>fun j hj=>by
  simp only[Y7,Option.some.injEq]at h;subst h;rw[V4,Nat.zero_mul,Zw,Vt (by rw[hk e0 (.head _)];exact hj)]
 |e0::es,hk,i+1,e,h=>fun j hj=>by
  have h0:=hk e0 (.head _);have e1:(i+1)*k=i*k+k:=Vf i k;rw[V4,Vj (by omega),show(i+1)*k+j-e0.length=i*k+j by omega];exact flat_get (fun x hx=>hk x (.tail _ hx)) (by simpa using h) j hj
theorem Co{k:Nat}{es:List (List Value)}(h:∀e∈es,e.length=k):Mf k 0 (T.e.fill 0 es.flatten) es:=fun i e he=>by
 have hlt:i<es.length:=(Yc.1 he).1;have hlen:=Nk h;refine⟨h e (Y8 he),fun j hj=>?_⟩;have:(i+1)*k≤es.length*k:=Yo _ hlt;rw[Vf]at this;rw[T.get_fill,if_pos ⟨Zj _,by omega⟩,Zw,Yl];exact flat_get h he j hj
theorem Mf.len{k o:Nat}{t:T Value}{es:List (List Value)}(h:Mf k o t es):∀e∈es,e.length=k:=fun e he=>by
 obtain⟨i,hi⟩:=List.getElem?_of_mem he;exact(h i e hi).1
theorem WK{k:Nat}:∀ {es:List (List Value)},(∀e∈es,e.length=k)→∀n,n<es.length*k→∃i j e,n=i*k+j∧j<k∧es[i]? =some e
 |[],_,n,hn=>by simp at hn
 |e0::es,hk,n,hn=>by
  rcases Zt n k with h|h
  ·exact⟨0,n,e0,by omega,h,rfl⟩
  ·rw[Zf,Vf]at hn;obtain⟨i,j,e,h1,h2,h3⟩:=WK (fun x hx=>hk x (.tail _ hx)) (n-k) (by omega);exact⟨i+1,j,e,by rw[Vf];omega,h2,by simpa using h3⟩
theorem Mf.read{k o:Nat}{t:T Value}{es:List (List Value)}(h:Mf k o t es):t.list (es.length*k) o=some es.flatten:=by
 refine T.list_of _ _ _ _ (Nk h.len) (fun n hn=>?_);obtain⟨i,j,e,rfl,h2,h3⟩:=WK h.len n hn;rw[flat_get h.len h3 j h2,←(h i e h3).2 j h2];congr 1;omega
theorem kz{k:Nat}{v:Value}{es:List (List Value)}{s:AS}(H:SlP k v es s.h)(hne:es≠[]):∃b o,v=.slice (some ⟨b,o,none⟩) es.length (match v with|.slice _ _ c=>c|_=>0)∧rdN s b o (es.length*k)=some es.flatten:=by
 obtain⟨a,c,rfl,hor⟩:=H;rcases hor with hor|⟨b,o,m,z,t,rfl,h1,h2,h3⟩
 ·exact absurd hor hne
 refine⟨b,o,rfl,?_⟩;have hb:Zb (o+es.length*k) m=true:=Z0 h2;unfold rdN;rcases h1 with h1|h1
 ·rw[h1];simp only[hb,cond_true];exact h3.read
 ·rw[h1];simp only[hb,cond_true];exact h3.read
inductive Rem(A:Asn):List Asn→List Asn→Prop
 |z {L:List Asn}:Rem A (A::L) L
 |s {B:Asn} {L L':List Asn} (h:Rem A L L'):Rem A (B::L) (B::L')
theorem Rem.perm{A:Asn}{L L':List Asn}(h:Rem A L L'):L.Perm (A::L'):=by
 induction h with
 |z=>exact .refl _
 | @s B L L' h ih=>exact(ih.cons B).trans (.swap A B L')
theorem Dd{k:Nat}{es:List (List Value)}{b z c:Nat}(hc:c=2*es.length+1∨(c=2*es.length∧zs z=k)){t:T Value}(ht:Mf k 0 t es)(h:T Gg)(hg:h.get b=some (.cells t (es.length*k) z)):(Ow k (.slice (some ⟨b,0,none⟩) es.length c) es).p (fun x=>x=b) h:=by
 refine .inr ⟨b,c,_,z,t,rfl,rfl,hg,by omega,?_,by omega,ht⟩;have:c/2=es.length:=by omega
 rw[this];exact Ze _
noncomputable def bls(E:Env)(al:Al)(t:TypeId)(n:Nat)(ps:Array (Nat×Operand)):Option (List Value):=
 match slT E t,ptl al ps.toList with
 |some (_,j),some l=>bif Zb (n*j.size) 65536 then Cv (fun k=>some (k*j.size,j.size)) (rep n j.zero) l else none
 |_,_=>none
theorem WR.bl{u n d t k:Nat}{ps:Array (Nat×Operand)}{es:List (List Value)}(h:∀v,WR E N ops l ((d,v)::al) (Ow k v es::L) P Q)(hf:bls E al u n ps=some es.flatten:=by rfl)(hn:es.length=n:=by rfl)(hk:∀e∈es,e.length=k:=by simp)(hN:Zb d N=true:=by rfl):WR E N ops (⟨some d,.buildSlice u n ps,t,pos,af,none⟩::l) al L P Q:=by
 refine WR.op rfl rfl hN (fun S s tm hs ha=>?_);obtain⟨h1,h2⟩:=hs.new (A:=Ow k (.slice (some ⟨s.nx,0,none⟩) es.length (2*n+1)) es) (o:=.cells (T.e.fill 0 es.flatten) es.flatten.length 0) (fun h hg=>by
  rw[Nk hk]at hg;exact Dd (.inl (by rw[hn])) (Co hk) h hg)
 refine⟨_,_,_,_,_,⟨0,0,?_⟩,h2,h1,h _⟩;show N1 u n ps E tm s=_;unfold bls at hf;cases hu:slT E u with
 |none=>rw[hu]at hf;cases hf
 |some p=>
  obtain⟨e,j⟩:=p;obtain⟨i,g1,g2,g3⟩:=M3 hu;cases hp:ptl al ps.toList with
  |none=>rw[hu,hp]at hf;cases hf
  |some r=>
   rw[hu,hp]at hf;simp only at hf;unfold N1;rw[g1,kp ha hp];simp only;rw[g2];simp only;rw[g3];simp only;cases hb:Zb (n*j.size) 65536 with
   |false=>rw[hb]at hf;cases hf
   |true=>
    rw[hb]at hf;simp only[cond_true]at hf ⊢;rw[hf];simp only;rw[hn];rfl
theorem Zj8(n:Nat)(z:List Value):rep n z=(Z7 n z).flatten:=by
 induction n with
 |zero=>rfl
 |succ n ih=>
  show z++rep n z=_;rw[ih,List.replicate_succ,V4]
theorem WR.mk{x y:Operand}{u d t k:Nat}{e:TypeId}{j:TI}{n:Int}{K K':IntKind}{z:List Value}(h:∀v,WR E N ops l ((d,v)::al) (Ow k v (Z7 n.toNat z)::L) P Q)(hx:evl al x=some (.int K n):=by rfl)(hy:evl al y=some (.int K' n):=by rfl)(hu:slT E u=some (e,j):=by rfl)(hz:j.zero=z:=by rfl)(hk:z.length=k:=by rfl)
  (hn:0≤n∧n*(j.bytes:Int)≤1099511627776∧n≤1099511627776:=by omega) (hN:Zb d N=true:=by rfl):WR E N ops (⟨some d,.makeSlice u x y,t,pos,af,none⟩::l) al L P Q:=by
 refine WR.op rfl rfl hN (fun S s tm hs ha=>?_);have hl:∀e∈Z7 n.toNat z,e.length=k:=fun e he=>by rw[List.eq_of_mem_replicate he];exact hk
 have hlen:(Z7 n.toNat z).length=n.toNat:=List.length_replicate;obtain⟨h1,h2⟩:=hs.new (A:=Ow k (.slice (some ⟨s.nx,0,none⟩) (Z7 n.toNat z).length (2*n.toNat+1)) (Z7 n.toNat z)) (o:=.cells (T.e.fill 0 (Z7 n.toNat z).flatten) (Z7 n.toNat z).flatten.length 0) (fun h hg=>by
  rw[Nk hl]at hg;exact Dd (.inl (by rw[hlen])) (Co hl) h hg)
 refine⟨_,_,_,_,_,⟨0,0,?_⟩,h2,h1,h _⟩;show Ta u x y E tm s=_;obtain⟨i,g1,g2,g3⟩:=M3 hu;unfold Ta;rw[g1,Gm ha hx,Gm ha hy];simp only;rw[g2];simp only;rw[g3];simp only;rw[if_pos ⟨hn.1,Int.le_refl _,by show n*(j.bytes:Int)≤((1099511627776:Nat):Int);exact hn.2.1,by show n≤((1099511627776:Nat):Int);exact hn.2.2⟩,hlen,hz,Zj8];rfl
theorem WG :∀(a b:List Value),ones (a++b)=(ones a&&ones b)
 |[],b=>rfl
 |x::a,b=>by
  show(oneC x&&ones (a++b))=((oneC x&&ones a)&&ones b);rw[WG a b,Bool.and_assoc]
theorem ones_flat :∀ {es:List (List Value)},(∀e∈es,ones e=true)→ones es.flatten=true
 |[],_=>rfl
 |e::es,h=>by
  rw[V4,WG,h e (.head _),ones_flat (fun x hx=>h x (.tail _ hx))];rfl
theorem Sat.turn{A:Asn}{B:Nat→Asn}{L':List Asn}{S:Nat→Prop}{s:AS}(hs:Sat (A::L') P S s){o:Gg}(hB:∀(b:Nat) (h:T Gg),h.get b=some o→(B b).p (fun x=>x=b) h):
  (∃S',Sat (B s.nx::L') P S' (s.new o)∧Tr S s S' (s.new o))∧∀b,(∀U h,A.p U h→U b)→∃S',Sat (B s.nx::L') P S' ((s.upd b .dead).new o)∧Tr S s S' ((s.upd b .dead).new o):=by
 refine⟨?_,fun b hb=>?_⟩
 ·obtain⟨h1,h2⟩:=hs.new (A:=B s.nx) (o:=o) (hB _);exact⟨_,⟨h1.own.tail (fun _ h=>h.drop),h1.per,h1.ex,h1.fresh⟩,h2⟩
 ·let D:Asn:=⟨fun S h=>S b,fun _ _ _ _ h=>h⟩
  obtain⟨h1,h2⟩:=hs.upd (B:=D) (L':=D::L') .z hb (o:=.dead) (fun h hg=>rfl);obtain⟨h3,h4⟩:=h1.new (A:=B (s.upd b .dead).nx) (o:=o) (hB _);exact⟨_,⟨h3.own.tail (fun _ h=>h.drop),h3.per,h3.ex,h3.fresh⟩,h2.trans h4⟩
theorem Zj9{k o:Nat}{t:T Value}{es fs:List (List Value)}(h:Mf k o t es)(hf:∀f∈fs,f.length=k):Mf k o (t.fill (o+es.length*k) fs.flatten) (es++fs):=fun i e he=>by
 have hl:=Nk hf;rcases Zt i es.length with hlt|hge
 ·rw[Vt hlt]at he;obtain⟨h1,h2⟩:=h i e he;refine⟨h1,fun j hj=>?_⟩;have:(i+1)*k≤es.length*k:=Yo _ hlt;rw[Vf]at this;rw[T.get_fill,if_neg (by omega)];exact h2 j hj
 ·rw[Vj hge]at he;have hi:i-es.length<fs.length:=(Yc.1 he).1;refine⟨hf e (Y8 he),fun j hj=>?_⟩;have e1:i*k=es.length*k+(i-es.length)*k:=by rw[←Yv];congr 1;omega
  have:(i-es.length+1)*k≤fs.length*k:=Yo _ hi;rw[Vf]at this;rw[T.get_fill,if_pos (by omega),show o+i*k+j-(o+es.length*k)=(i-es.length)*k+j by omega];exact flat_get hf he j hj
noncomputable def Ia(s:AS)(e:TypeId)(j:TI)(x y:Value):Option (Value×AS):=
 bif Za j.size 0||Za j.bytes 0||Zb 524288 j.size then none else
    match x,Bq y with
    |.slice a n c,some m=>match Di s j n c m y with
     |some t=>some (.slice (some ⟨s.nx,0,none⟩) (n+m) (2*(n+m)),s.new (.cells t (m*j.size) (tz j.size e)))
     |none=>match B3 s j.size m y with
     |none=>none
     |some new=>
      bif Za m 0 then some (.slice a n c,s)else
      bif Zb (n+m) (c/2)then(match a with
       |none=>none
       |some a=>match wrN s a.block (a.off+n*j.size) new with
        |none=>none
        |some s'=>some (.slice (some a) (n+m) c,s'))
      else bif Zb ((n+m)*j.bytes) small then(match a with
       |none=>some (.slice (some ⟨s.nx,0,none⟩) (n+m) (2*(n+m)),s.rowz (tz j.size e) new)
       |some a=>
        bif Za n 0&&Za (c%2) 1 then some (.slice (some ⟨s.nx,0,none⟩) (n+m) (2*(n+m)),s.rowz (tz j.size e) new)else
        match rdN s a.block a.off (n*j.size)with
        |none=>none
        |some old=>match s.h.get a.block with
         |some (.cells _ _ z)=>bif Za (c%2) 1 then some (.slice (some ⟨s.nx,0,none⟩) (n+m) (2*(n+m)),s.rowz (tz j.size e) (old++new))else
          bif Za (zs z) j.size&&ones new then some (.slice (some ⟨s.nx,0,none⟩) (n+m) (2*(n+m)),(s.upd a.block .dead).rowz (zg j.size z e) (old++new))else none
         |_=>none)
      else none
    |_,_=>none
theorem yk{s:AS}{t u:TypeId}{v w:Value}{e:TypeId}{j i ui:TI}(g1:E.ty.get t=some i)(g2:i.desc=.slice e)(g3:E.ty.get e=some j)(hu:E.ty.get u=some ui)(hui:(∃e',ui.desc=.slice e')∨ui.desc=.string):Cx E s t u v w=Ia s e j v w:=by
 unfold Cx;rw[g1,hu];simp only;rw[g2];rcases hui with⟨e',hui⟩|hui
 ·rw[hui];simp only;rw[g3];rfl
 ·rw[hui];simp only;rw[g3];rfl
theorem yp{k:Nat}{v w:Value}{es fs:List (List Value)}{L':List Asn}{S:Nat→Prop}{s:AS}(hs:Sat (Ow k v es::L') P S s)(hfl:∀f∈fs,f.length=k)(hsrc:B3 s k fs.length w=some fs.flatten)(hlenS:Bq w=some fs.length)(hwh:∀tt,fs≠[]→Ip s (fs.length*k) w=some tt→Mf k 0 tt fs)
  {t u:TypeId} {e:TypeId} {j ui:TI} (ht:slT E t=some (e,j)) (hu:E.ty.get u=some ui) (hui:(∃e',ui.desc=.slice e')∨ui.desc=.string) (hk:j.size=k) (hk0:Za k 0=false) (hby:Za j.bytes 0=false) (hk1:Zb 524288 k=false)
  (hn:(es.length+fs.length)*j.bytes≤1099511627776) (hone:∀f∈fs,ones f=true):∃v' s' S',Cx E s t u v w=some (v',s')∧Tr S s S' s'∧Sat (Ow k v' (es++fs)::L') P S' s':=by
 obtain⟨i,g1,g2,g3⟩:=M3 ht;have hsmall:k<524288:=by
  rcases Zt k 524288 with h|h
  ·exact h
  ·rw[Z0 h]at hk1;cases hk1
 have hle:Zb ((es.length+fs.length)*j.bytes) small=true:=Z0 (by unfold small;exact hn);have htz:zs (tz k e)=k:=Na hsmall;have share:∀ {n c:Nat} {tt:T Value},Di s j n c fs.length w=some tt→n=0∧∃S',Sat (Ow k (.slice (some ⟨s.nx,0,none⟩) fs.length (2*fs.length)) fs::L') P S' (s.new (.cells tt (fs.length*k) (tz k e)))∧Tr S s S' (s.new (.cells tt (fs.length*k) (tz k e))):=by
  intro n c tt hsh;unfold Di at hsh;cases hc:(Za n 0&&Za (c%2) 1&&Zh (c/2) fs.length&&Zb (fs.length*j.bytes) small)with
  |false=>rw[hc]at hsh;cases hsh
  |true=>
   rw[hc]at hsh;simp only[cond_true]at hsh;simp only[Zi]at hc;refine⟨Zv hc.1.1.1,?_⟩;have hpos:fs≠[]:=fun e=>by subst e;have:=N7.1 hc.1.2;simp at this
   rw[hk]at hsh;have u4:=hwh tt hpos hsh;obtain⟨S',q1,q2⟩:=(hs.turn (B:=fun b=>Ow k (.slice (some ⟨b,0,none⟩) fs.length (2*fs.length)) fs) (o:=.cells tt (fs.length*k) (tz k e)) (fun b h hg=>Dd (.inr ⟨rfl,htz⟩) u4 h hg)).1;exact⟨S',q1,q2⟩
 rw[yk g1 g2 g3 hu hui];unfold Ia;rw[hk,hk0,hby,hk1];simp only[Bool.or_self,cond_false];obtain⟨S1,S2,o1,o2,o3,o4,o5⟩:=hs.own;have hmz:∀ {n:Nat},Za fs.length 0=true→fs=[]:=fun h=>Yh.1 (Zv h);rcases o4 with⟨rfl,a,c,rfl,c1,c2⟩|⟨b,c,mm,z,tr,rfl,p2,p3,p4,pm,p6,p5⟩
 ·
  rw[hlenS];simp only;cases hsh:Di s j 0 c fs.length w with
  |some tt=>
   simp only;obtain⟨_,S',q1,q2⟩:=share hsh;exact⟨_,_,S',by rw[Zw],q2,q1⟩
  |none=>
   simp only;rw[hsrc];simp only;cases hm:Za fs.length 0 with
   |true=>
    have:=hmz (n:=0) hm;subst this;exact⟨_,s,S,rfl,.refl _ _,hs⟩
   |false=>
    have hpos:fs.length≠0:=fun e=>by rw[e]at hm;cases hm
    have e1:Zb (0+fs.length) (c/2)=false:=by
     cases hb:Zb (0+fs.length) (c/2)with
     |false=>rfl
     |true=>have:=Yr hb;omega
    rw[e1];simp only[cond_false];have hle':Zb ((0+fs.length)*j.bytes) small=true:=hle;rw[hle'];simp only[cond_true];obtain⟨S',q1,q2⟩:=(hs.turn (B:=fun b=>Ow k (.slice (some ⟨b,0,none⟩) fs.length (2*fs.length)) fs) (o:=.cells (T.e.fill 0 fs.flatten) fs.flatten.length (tz k e)) (fun b h hg=>by
     rw[Nk hfl]at hg;exact Dd (.inr ⟨rfl,htz⟩) (Co hfl) h hg)).1
    cases a with
    |none=>exact⟨_,_,S',by rw[Zw];rfl,q2,q1⟩
    |some a=>
     have hc1:c=1:=c2.resolve_left (fun h=>by cases h);subst hc1;exact⟨_,_,S',by rw[Zw];rfl,q2,q1⟩
 ·
  rw[hlenS];simp only;have hin:∀U h,(Ow k (.slice (some ⟨b,0,none⟩) es.length c) es).p U h→U b∨(es=[]∧c=1):=fun U h H=>by
   rcases H with⟨h1,a',c',h2,_,h3⟩|⟨b',c',m',z',t',h1,h2,_⟩
   ·subst h1;cases h2;exact .inr ⟨rfl,h3.resolve_left (fun h=>by cases h)⟩
   ·cases h1;exact .inl h2
  have hold:rdN s b 0 (es.length*k)=some es.flatten:=by
   unfold rdN;rw[p3];simp only;rw[Zw,Z0 (Ye (Yo k p4) pm)];simp only[cond_true];exact p5.read
  have hel:∀x∈es++fs,x.length=k:=fun x hx=>(Zk.1 hx).elim (p5.len x) (hfl x);have hflat:es.flatten++fs.flatten=(es++fs).flatten:=List.flatten_append.symm;cases hsh:Di s j es.length c fs.length w with
  |some tt=>
   simp only;obtain⟨h0,S',q1,q2⟩:=share hsh;have hes:es=[]:=Yh.1 h0;subst hes;exact⟨_,_,S',by rw[Zo,Zw],q2,q1⟩
  |none=>
   simp only;rw[hsrc];simp only;cases hm:Za fs.length 0 with
   |true=>
    have:=hmz (n:=0) hm;subst this;exact⟨_,s,S,rfl,.refl _ _,by rw[List.append_nil];exact hs⟩
   |false=>
    have hpos:fs.length≠0:=fun e=>by rw[e]at hm;cases hm
    simp only[cond_false];cases hroom:Zb (es.length+fs.length) (c/2)with
    |true=>
     simp only[cond_true];have hroom:=Yr hroom;have hfit:es.length*k+fs.length*k≤mm:=by
      have:=Yo k hroom;rw[Yv]at this;omega
     have hwr:wrN s b (0+es.length*k) fs.flatten=some (s.upd b (.cells (tr.fill (0+es.length*k) fs.flatten) mm z)):=by
      unfold wrN;rw[p3];simp only;rw[Nk hfl,ones_flat hone,Z0 (by omega)];rfl
     rw[hwr];simp only;have hne:¬(es=[]∧c=1):=fun⟨h1,h2⟩=>by subst h1;subst h2;rw[Zo]at hroom;omega
     obtain⟨q1,q2⟩:=hs.upd (B:=Ow k (.slice (some ⟨b,0,none⟩) (es.length+fs.length) c) (es++fs)) (L':=Ow k (.slice (some ⟨b,0,none⟩) (es.length+fs.length) c) (es++fs)::L') .z (fun U h H=>(hin U h H).resolve_right hne) (o:=.cells (tr.fill (0+es.length*k) fs.flatten) mm z) (fun h hg=>.inr ⟨b,c,mm,z,_,by rw[Zd],rfl,hg,by rw[Zd];exact hroom,pm,p6,by
      have:=Zj9 p5 hfl;exact this⟩)
     exact⟨_,_,S,rfl,q2,q1⟩
    |false=>
     simp only[cond_false];rw[hle];simp only[cond_true];have hnew:∀(zz:Nat),zs zz=k→∀(b:Nat) (h:T Gg),h.get b=some (.cells (T.e.fill 0 (es++fs).flatten) (es++fs).flatten.length zz)→(Ow k (.slice (some ⟨b,0,none⟩) (es++fs).length (2*(es++fs).length)) (es++fs)).p (fun x=>x=b) h:=fun zz hz b h hg=>by
      rw[Nk hel]at hg;exact Dd (.inr ⟨rfl,hz⟩) (Co hel) h hg
     cases hz0:(Za es.length 0&&Za (c%2) 1)with
     |true=>
      simp only[cond_true];rw[Zi]at hz0;have hes:es=[]:=Yh.1 (Zv hz0.1);subst hes;obtain⟨S',q1,q2⟩:=(hs.turn (hnew (tz k e) htz)).1;exact⟨_,_,S',by simp[AS.rowz],q2,q1⟩
     |false=>
      simp only[cond_false];rw[hold];simp only;rw[p3];simp only;cases hc1:Za (c%2) 1 with
      |true=>
       simp only[cond_true];obtain⟨S',q1,q2⟩:=(hs.turn (hnew (tz k e) htz)).1;exact⟨_,_,S',by rw[hflat,Zd];rfl,q2,q1⟩
      |false=>
       simp only[cond_false];have hzk:zs z=k:=p6.resolve_left (fun h=>by rw[h]at hc1;cases hc1);have hzb:Za (zs z) k=true:=by rw[hzk];exact Yy _
       rw[hzb,ones_flat hone];simp only[Bool.and_self,cond_true];have hne:¬(es=[]∧c=1):=fun⟨h1,h2⟩=>by subst h2;cases hc1
       obtain⟨S',q1,q2⟩:=(hs.turn (hnew (zg k z e) (R4 hsmall))).2 b (fun U h H=>(hin U h H).resolve_right hne);exact⟨_,_,S',by rw[hflat,Zd];rfl,q2,q1⟩
theorem Zka{k:Nat}{v w:Value}{es fs:List (List Value)}{L':List Asn}{S:Nat→Prop}{s:AS}(hs:Sat (Ow k v es::L') P S s)(hU:SlP k w fs s.h){t u:TypeId}{e e':TypeId}{j ui:TI}(ht:slT E t=some (e,j))(hu:E.ty.get u=some ui)(hui:ui.desc=.slice e')(hk:j.size=k)(hk0:Za k 0=false)(hby:Za j.bytes 0=false)(hk1:Zb 524288 k=false)
  (hn:(es.length+fs.length)*j.bytes≤1099511627776) (hone:∀f∈fs,ones f=true):∃v' s' S',Cx E s t u v w=some (v',s')∧Tr S s S' s'∧Sat (Ow k v' (es++fs)::L') P S' s':=by
 have hfl:∀f∈fs,f.length=k:=by
  obtain⟨a,c,_,hor⟩:=hU;rcases hor with rfl|⟨b,o,m,z,t',_,_,_,h⟩
  ·exact fun f hf=>by cases hf
  ·exact h.len
 have hsrc:B3 s k fs.length w=some fs.flatten:=by
  by_cases hf:fs=[]
  ·subst hf;obtain⟨a,c,h,_⟩:=hU;rw[h];cases a with
   |none=>rfl
   |some a=>rfl
  ·obtain⟨b,o,h1,h2⟩:=kz hU hf;rw[h1];unfold B3;simp only;have:Za fs.length 0=false:=by
    cases fs with
    |nil=>exact absurd rfl hf
    |cons x l=>rfl
   rw[this];exact h2
 have hlenS:Bq w=some fs.length:=by
  obtain⟨a,c,h,_⟩:=hU;rw[h];rfl
 refine yp hs hfl hsrc hlenS (fun tt hpos hsh=>?_) ht hu (.inl ⟨e',hui⟩) hk hk0 hby hk1 hn hone;obtain⟨a',c',hw',hor⟩:=hU;rcases hor with hor|⟨b',o',m',z',t',rfl,u2,u3,u4⟩
 ·exact absurd hor hpos
 rw[hw']at hsh;unfold Ip at hsh;simp only at hsh;rcases u2 with u2|u2
 ·rw[u2]at hsh;simp only at hsh;cases hq:(Za o' 0&&Za m' (fs.length*k))with
  |false=>rw[hq]at hsh;cases hsh
  |true=>
   rw[hq]at hsh;simp only[cond_true,Option.some.injEq]at hsh;subst hsh;rw[Zi]at hq;obtain rfl:=Zv hq.1;exact u4
 ·rw[u2]at hsh;cases hsh
noncomputable def dd(E:Env)(u:TypeId):Bool:=match E.ty.get u with
 |some i=>match i.desc with
  |.slice _=>true
  |_=>false
 |none=>false
theorem WH{u:TypeId}(h:dd E u=true):∃i e,E.ty.get u=some i∧i.desc=.slice e:=by
 unfold dd at h;cases hi:E.ty.get u with
 |none=>rw[hi]at h;cases h
 |some i=>
  rw[hi]at h;simp only at h;cases hd:i.desc with
  |slice e=>exact⟨i,e,rfl,hd⟩
  |_=>rw[hd]at h;cases h
theorem lc{x y:Operand}{ts:Array TypeId}{t u:TypeId}{v w:Value}{tm:Tm}{s:AS}{r:Value×AS}(ha:Has al tm)(hx:evl al x=some v)(hy:evl al y=some w)(ht:ts.toList=[t,u])(h:Cx E s t u v w=some r):Br ⟨.builtin .append, #[x,y],ts⟩ E tm s=some r:=by
 unfold Br;simp only;have:evs tm #[x,y].toList=some [v,w]:=by
  show evs tm [x,y]=_;unfold evs;rw[Gm ha hx];simp only;unfold evs;rw[Gm ha hy];rfl
 rw[this,ht];exact h
structure ApT(E:Env)(k by':Nat)(ts:Array TypeId):Prop where
 ok:∃t u e j,ts.toList=[t,u]∧slT E t=some (e,j)∧dd E u=true∧j.size=k∧Za k 0=false∧Za j.bytes 0=false∧Zb 524288 k=false∧j.bytes=by'
theorem ApT.mk'{k by' t u e:Nat}{j:TI}(h1:slT E t=some (e,j):=by rfl)(h2:dd E u=true:=by rfl)(h3:j.size=k:=by rfl)(h4:Za k 0=false:=by rfl)(h5:Za j.bytes 0=false:=by rfl)(h6:Zb 524288 k=false:=by rfl)(h7:j.bytes=by':=by rfl):ApT E k by' #[t,u]:=⟨t,u,e,j,rfl,h1,h2,h3,h4,h5,h6,h7⟩
theorem WO.ap{x y:Operand}{ts:Array TypeId}{k by':Nat}{v w:Value}{es fs:List (List Value)}{L':List Asn}{Q:Value→List Asn→List Asn→Prop}(hx:evl al x=some v)(hy:evl al y=some w)(ht:ApT E k by' ts)(hr:Rem (Ow k v es) L L')(hw:Gn k w fs L P)(hn:(es.length+fs.length)*by'≤1099511627776)(ho:∀f∈fs,ones f=true)(h:∀v',Q v' (Ow k v' (es++fs)::L') P):WO E (.call ⟨.builtin .append, #[x,y],ts⟩) al L P Q:=by
 intro S s tm hs ha;obtain⟨t,u,e,j,h0,h1,h2,h3,h4,h5,h6,rfl⟩:=ht.ok;obtain⟨ui,e',g1,g2⟩:=WH h2;obtain⟨v',s',S',k1,k2,k3⟩:=Zka ⟨hs.own.perm hr.perm,hs.per,hs.ex,hs.fresh⟩ (hw.holds hs) h1 g1 g2 h3 h4 h5 h6 hn ho;exact⟨v',s',S',_,_,⟨0,0,lc ha hx hy h0 k1⟩,k2,k3,h v'⟩
theorem WR.ap{x y:Operand}{ts:Array TypeId}{d t k by':Nat}{v w:Value}{es fs:List (List Value)}{L':List Asn}(h:∀v',WR E N ops l ((d,v')::al) (Ow k v' (es++fs)::L') P Q)(hx:evl al x=some v:=by rfl)(hy:evl al y=some w:=by rfl)
  (hr:Rem (Ow k v es) L L':=by first|exact .z|exact .s .z|exact .s (.s .z)|exact .s (.s (.s .z))|exact .s (.s (.s (.s .z))))
  (hw:Gn k w fs L P:=by first|assumption|exact .o .l0|exact .o .l1|exact .o .l2|exact .o .l3|exact .s .p0|exact .s .p1|exact .s .p2|exact .s .p3|exact .s (.p (by assumption))|exact .s (.h1 (by assumption))|exact .s (.h2 (by assumption)))
  (ht:ApT E k by' ts:=by exact ApT.mk') (hn:(es.length+fs.length)*by'≤1099511627776:=by(simp only[Zf,Zo];omega)) (ho:∀f∈fs,ones f=true:=by simp[Go.Ax.ones,Go.Ax.oneC]) (hN:Zb d N=true:=by rfl):WR E N ops (⟨some d,.call ⟨.builtin .append, #[x,y],ts⟩,t,pos,af,none⟩::l) al L P Q:=
 WR.op rfl rfl hN (WO.ap hx hy ht hr hw hn ho h)
theorem Ent.none{k:Nat}:Ent L P (Ow k (.slice none 0 0) []::L) P:=fun S s hs=>⟨S,fun _ h=>h,⟨⟨fun _=>False,S,fun _ h=>h.elim,fun _ h=>h,fun _ h _=>h.elim,.inl ⟨rfl,_,_,rfl,by omega,.inl rfl⟩,hs.own⟩,hs.per,hs.ex,hs.fresh⟩⟩
end Go.Lx
