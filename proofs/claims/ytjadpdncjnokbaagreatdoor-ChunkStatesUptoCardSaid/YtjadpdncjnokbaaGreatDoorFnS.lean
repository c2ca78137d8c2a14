/- tree.change. -/
import Derived.Test.YtjadpdncjnokbaaGreatDoorFnQ
set_option linter.all false
open List renaming length_map→Zc,length_append→Zd,append_assoc→Zu,mem_cons→Zg,getElem?_eq_getElem→Zn,append_nil→Z9,map_append→Zp,length_cons→Zf,mem_singleton→Z6,getElem_map→Yw,mem_cons_self→Zm,length_nil→Zo,mem_map→Zl,length_take→Zq,getElem?_map→Zy,Perm→Yn,getElem_of_mem→X6,length_drop→Z5,getElem_mem→Zz,length_replicate→Xf,mem_append→Zk,getElem_drop→Vw,pairwise_append→Ys,perm_middle→Vo,replicate→Z7,take_append_drop→Ym,not_mem_nil→Ut,Mem→Uu,take_of_length_le→Z8,map→Y3,takeWhile_cons_of_neg→Un,mem_cons_of_mem→Zs,take_succ_eq_append_getElem→Xb,perm_append_comm_assoc→Ua,pairwise_iff_getElem→Je,nodup_cons→Yz,length_zip→X9,nil_append→Xj,cons_append→Y0,takeWhile_cons_of_pos→J1,getElem?_append_right→Vj,set_append_right→Jk,drop_of_length_le→Vl,take_append_of_le_length→Zq6,getElem_take→Zq7,flatMap_cons→Zx,length_eq_zero_iff→Yh,filter_append→Zq8,filter_eq_nil_iff→Zq9,take_nil→Zra,flatMap_append→Yd,foldl_append→Zrb,drop_left→Jy,length_set→Vk,getElem?_append_left→Vt,getElem?_eq_none→Xr,getElem?_eq_some_iff→Yc,set_append_left→Zre,take_append→Zqm,drop_eq_getElem_cons→X7,Pairwise→Xx,map_cons→Zr,filter_eq_self→Jn,mem_flatMap→Yb,take_left→Kt,length_filter_le→Zrf,replicate_succ'→Zrg,foldl_cons→Jj,map_nil→Vd,getElem_zip→Zqx,length→Yi,nodup_nil→U8,replicate_succ→Jb,mem_replicate→Zrh,length_singleton→Jr
open Nat renaming zero_le→Zj,le_refl→Ze,ble→Zb,lt_or_ge→Zt,zero_add→Zw,xor_lt_two_pow→Xu,sub_self→Xs,pow_le_pow_right→Va,add_sub_cancel_left→Up,eq_zero_or_pos→Xi,pow_succ→Kx,mul_comm→Uc,zero_mul→Xh,ble_eq_true_of_le→Z0,blt→Zh,shiftRight_eq_div_pow→Xe,add_mul→Yv,mul_one→Vs,mul_le_mul_right→Yo,le_trans→Ye,le_of_lt→Zqs,min_self→Zqw,add_zero→Yg,testBit_lt_two_pow→Uw,lt_of_lt_of_le→Yu
open Bool renaming and_eq_true→Zi,and_eq_false_iff→Xz,false_or→Vb,or_eq_false_iff→Vu,or_eq_true→Yq
open Int renaming toNat_natCast→Yp,le_refl→Zrd,tdiv_nonneg→Zri,natCast_nonneg→Yk
open Prod renaming fst→J7,snd→Ky
open UInt8 renaming toNat_lt→Zrc,toNat_ofNat'→Jc
namespace Go.Cis
open Go Go.Ax Go.Lx Go.Proofs
set_option maxRecDepth 100000
variable (L P:List Asn)
theorem Zgz(t:Nat)(τ:Tr)(c:Nat)(hc:τ.count=(c:Nat)):Sp SET 140 [.pointer (some ⟨t,0,none⟩)] (trL t τ++L) P (fun r L' P'=>∃τ',(r=S (Ch τ.root c)∧τ'=τ∧P'=P)∧L'=trL t τ'++L):=
 (Zfs L P t τ c hc).post (fun v L' P' ⟨e0,e1,e2⟩=>⟨_,_,.refl _ _,τ,⟨e0,rfl,e2⟩,e1⟩)
theorem Zg0(r c:Nat):(Ch r c).length=7:=by unfold Ch Rj;simp
theorem Wob.form{τ τ1:Tr}(h:Wob τ τ1):∃a2 w2 α2 r c d,τ1=⟨τ.s,a2,{τ.σ with w:=w2},α2,r,c,d⟩:=by
 obtain⟨w,hw⟩:=h.w;have hs:=h.s;cases τ1;simp only at hs hw;subst hs hw;exact⟨_,_,_,_,_,_,rfl⟩
def CFn(P0:List Asn)(t:Nat)(τ:Tr)(fid:FuncId)(caps:Array Value)(Q:Nat→Tr→Prop):Prop:=
 ∀(L P:List Asn),(∀A∈P0,A∈P)→Sp SET fid ([]++[]++caps.toList) (trL t τ++L) P (fun r L' P'=>∃τ',((∀A∈P,A∈P')∧∃e:Nat,r=.int .i64 (e:Nat)∧Wob τ τ'∧Q e τ')∧L'=trL t τ'++L)
def ChO(τ:Tr)(Q:Nat→Tr→Prop)(P:List Asn)(r:Value)(τ':Tr)(P':List Asn):Prop:=
 (∀A∈P,A∈P')∧∃e:Nat,r=.int .i64 (e:Nat)∧((e≠0∧∃τ1 a',Q e τ1∧τ'= {τ with a:=a'})∨(e=0∧∃τ1,∃c:Nat,Q 0 τ1∧Wob τ τ1∧τ1.count=(c:Nat)∧τ'= {τ1 with σ:=τ1.σ.put 0 (Ch τ1.root c),α:=τ1.α.settle}))
theorem Zg1(L P P0:List Asn)(t:Nat)(τ:Tr)(fid:FuncId)(caps:Array Value)(Q:Nat→Tr→Prop)(hf:CFn P0 t τ fid caps Q)(h0:∀A∈P0,A∈P)(hQ:∀τ',Q 0 τ'→∃c:Nat,τ'.count=(c:Nat))(hn:0<τ.σ.n):Sp SET 74 [.pointer (some ⟨t,0,none⟩),.func (.func fid) #[] caps] (trL t τ++L) P (fun r L' P'=>∃τ',ChO τ Q P r τ' P'∧L'=trL t τ'++L):=by
 obtain⟨Q0,hQ0⟩:∃Q0:List Asn,Q0=P:=⟨P,rfl⟩;refine .bo (fn:=Tryz.f74) (N:=30) ?_;refine .seq (.region (.pu .as (.nil (.seq (.region (.pu .mv ?_))))));refine .call (RF _ _ _ _) ?_;rintro _ _ _ ⟨m,x,⟨rfl,hPe⟩,rfl⟩;subst hPe;refine .pu .as (.nil (.seq (.region (.pu .mv ?_))));refine .call (Sp.tr (tmL m t τ x) _ (fun L=>hf L _ h0)) ?_;rintro _ _ _ ⟨τ1,⟨hs1,e,rfl,wQ,hq⟩,rfl⟩;refine .pu .as (.nil ?_);by_cases he:e=0
 ·refine .seq (.seq (.region (.pu .mv (.pu .cy (.nil ?_)))));refine .yes rfl ?_;refine .drawn fun _=>?_;refine .pu .mv (.pu .nc (.pu .fa (.lo 0 1 .ld .mk ?_)));refine .pu .mv ?_;subst he;obtain⟨c,hc⟩:=hQ τ1 hq;obtain⟨w1,hw1⟩:=wQ.w;have hn1:(0:Int)<τ1.σ.n:=by rw[hw1];show(0:Int)<τ.σ.n;omega
  refine .call (Sp.tr (tmL m t τ x) _ (fun L=>Zgz L _ t τ1 c hc)) ?_;rintro _ _ _ ⟨τh,⟨rfl,hτh,hPh⟩,rfl⟩;have hτh:=hτh.symm;have hPh:=hPh.symm;subst hτh hPh;refine .call (Sp.up (.s (.s (.s (.s .z)))) (fun L=>w7 L _ _ _ 0 _ (Zrd _) hn1 (Ye (Nat.le_of_eq (Zg0 _ _)) (by decide)))) ?_;rintro _ L P ⟨rfl,rfl,rfl⟩;refine .pu .as (.nil (.cons (.yes .mk (.yes .mk (.skip .nil))) .nil) (.seq (.seq (.region (.pu .mv (.pu .cmp (.nil ?_)))))));refine .no rfl (.skip (.seq (.region (.pu .mv (.pu .nc (.pu .fa (.ld ?_)))))));refine .call (Sp.up (.s (.s (.s (.s (.s .z))))) (fun L=>Zfm L _ _ _)) ?_;rintro _ L P ⟨rfl,rfl,rfl⟩;refine .nil (.seq (.region (.pu .as (.nil (.ret ?_)))));exact⟨_,.tmp rfl .nil,_,_,Ent.d3,{τ1 with σ:=τ1.σ.put 0 (Ch τ1.root c),α:=τ1.α.settle},⟨hs1,0,rfl,.inr ⟨rfl,τ1,c,hq,wQ,hc,rfl⟩⟩,rfl⟩
 ·refine .seq (.seq (.region (.pu .mv (.pu .cn (.nil ?_)))));refine .no rfl (.skip (.seq (.seq (.region (.pu .mv (.pu .cy (.nil ?_)))))));refine .yes rfl (.seq (.region ?_));obtain⟨a2,w2,α2,r2,c2,d2,rfl⟩:=wQ.form;refine .pu .mv (.pu .mv ?_);refine .call (Sp.ent (Ent.pull (tmL m t τ x) _ _) (RQ _ _ t m τ x a2 w2 α2 r2 c2 d2)) ?_;rintro _ _ _ ⟨a',⟨rfl,rfl⟩,rfl⟩;refine .nil (.seq (.region (.pu .mv (.pu .as (.nil (.ret ?_))))));exact⟨_,.tmp rfl .nil,_,_,(Ent.trans (Ent.pull (trL t {τ with a:=a'}) (tmL m t τ x) _) Ent.d3),{τ with a:=a'},⟨hs1,e,rfl,.inl ⟨he,_,a',hq,rfl⟩⟩,rfl⟩
theorem RL{α:Type}{p:α→Bool}{C:List α}(h:∀c∈C,p c=false):∀B:List α,(B++C).takeWhile p=B.takeWhile p
 |[]=>by
  cases C with
  |nil=>rfl
  |cons c C=>rw[Xj,Un (by rw[h c (Zm ..)];simp)];rfl
 |b::B=>by
  rw[Y0];cases hb:p b with
  |true=>rw[J1 hb,J1 hb,RL h B]
  |false=>rw[Un (by simp[hb]),Un (by simp[hb])]
theorem RP{α:Type}{p:α→Bool}{X:List α}:∀ {A:List α},(∀a∈A,p a=true)→(A++X).takeWhile p=A++X.takeWhile p
 |[],_=>rfl
 |a::A,h=>by
  rw[Y0,J1 (h a (Zm ..)),RP (fun b hb=>h b (Zs _ hb))];rfl
theorem UJ{k:Bs}{A B C:List Pr}(hA:∀q∈A,Gf q.1 k=true)(hC:∀q∈C,Gf k q.1=true):lb ((A++B++C).map (·.1)) k=A.length+lb (B.map (·.1)) k:=by
 unfold lb;rw[Zu,Zp,Zp,RP (fun a ha=>by
  obtain⟨q,hq,rfl⟩:=Zl.1 ha;exact hA q hq),RL (fun c hc=>by
  obtain⟨q,hq,rfl⟩:=Zl.1 hc;exact wm _ _ (hC q hq)),Zd,Zc]
theorem Zg2{k:Bs}{A B C:List Pr}(hA:∀q∈A,Gf q.1 k=true)(hC:∀q∈C,Gf k q.1=true):(((A++B++C).map (·.1))[lb ((A++B++C).map (·.1)) k]? =some k)↔((B.map (·.1))[lb (B.map (·.1)) k]? =some k):=by
 have hle:=Rf (B.map (·.1)) k;rw[UJ hA hC,Zu,Zp,Vj (by rw[Zc];omega),Zc,Up,Zp];rcases Zt (lb (B.map (·.1)) k) (B.map (·.1)).length with h|h
 ·rw[Vt h]
 ·rw[Vj h];have e:(B.map (·.1))[lb (B.map (·.1)) k]? =none:=Xr h;rw[e,Nat.le_antisymm hle h,Xs];constructor
  ·intro h2;rcases C with _|⟨c,C⟩
   ·cases h2
   ·have h2:c.1=k:=Option.some.inj h2;have:=hC c (Zm ..);rw[h2,Dy]at this;cases this
  ·intro h2;cases h2
theorem TZ{k w:Bs}{A B C:List Pr}(hA:∀q∈A,Gf q.1 k=true)(hC:∀q∈C,Gf k q.1=true):Hd (A++B++C) k w=A++Hd B k w++C:=by
 have hle:=Rf (B.map (·.1)) k;rw[Zc]at hle;unfold Hd;rw[decide_eq_decide.2 (Zg2 hA hC),UJ hA hC];cases hd:decide ((B.map (·.1))[lb (B.map (·.1)) k]? =some k)with
 |true=>
  have hlt:=(Yc.1 (of_decide_eq_true hd)).1;rw[Zc]at hlt;simp only[cond_true];rw[Zu,Jk _ _ (by omega),Up,Zre _ _ hlt,Zu]
 |false=>
  simp only[cond_false];rw[Zu,Zqm,Z8 (by omega),Up,List.drop_append,Vl (by omega),Up,Zq6 hle,List.drop_append_of_le_length hle];simp
def j5(k w:Bs)(ps:List Pr):Option (List Pr):=some (Hd ps k w)
theorem TY{k w:Bs}{ps:List Pr}{q:Pr}(h:q∈Hd ps k w):q=(k,w)∨q∈ps:=by
 unfold Hd at h;cases hd:decide ((ps.map (·.1))[lb (ps.map (·.1)) k]? =some k)with
 |true=>
  rw[hd]at h;simp only[cond_true]at h;rcases List.mem_or_eq_of_mem_set h with h|h
  ·exact .inr h
  ·exact .inl h
 |false=>
  rw[hd]at h;simp only[cond_false]at h;rcases Zk.1 h with h|h
  ·exact .inr (List.mem_of_mem_take h)
  ·rcases Zg.1 h with h|h
   ·exact .inl h
   ·exact .inr (List.mem_of_mem_drop h)
theorem TX(k w:Bs):GOk k (j5 k w) where
 loc:=fun A B C hA hC=>by unfold j5;rw[TZ hA hC];rfl
 keys:=fun B B' h q hq=>by
  obtain rfl:=Option.some.inj h;rcases TY hq with e|e
  ·exact .inl (by rw[e])
  ·exact .inr ⟨q,e,rfl⟩
theorem TV{k w:Bs}{ps:List Pr}(h:rise (ps.map (·.1))=true):∃A C,(∀q∈A,Gf q.1 k=true)∧(∀q∈C,Gf k q.1=true)∧Hd ps k w=A++(k,w)::C∧((ps=A++C∧(ps.map (·.1))[lb (ps.map (·.1)) k]? ≠some k)∨∃x,x.1=k∧ps=A++x::C∧(ps.map (·.1))[lb (ps.map (·.1)) k]? =some k):=by
 have hs:=VF h k;have hle:=Rf (ps.map (·.1)) k;rw[Zc]at hle;have hA:∀q∈ps.take (lb (ps.map (·.1)) k),Gf q.1 k=true:=fun q hq=>by
  obtain⟨j,hj,rfl⟩:=X6 hq;rw[Zq]at hj;have:=(hs j (by rw[Zc];omega)).1 (by omega);rw[Yw]at this;rw[Zq7];exact this
 cases hd:decide ((ps.map (·.1))[lb (ps.map (·.1)) k]? =some k)with
 |true=>
  have hk:=of_decide_eq_true hd;obtain⟨hlt,hke⟩:=Yc.1 hk;have wR:lb (ps.map (·.1)) k<ps.length:=by rw[Zc]at hlt;exact hlt
  rw[Yw]at hke;refine⟨ps.take (lb (ps.map (·.1)) k),ps.drop (lb (ps.map (·.1)) k+1),hA,fun q hq=>?_,?_,.inr ⟨ps[lb (ps.map (·.1)) k],hke,?_,hk⟩⟩
  ·obtain⟨j,hj,rfl⟩:=X6 hq;rw[Z5]at hj;rw[Vw];have:=(Je.1 (Ml.1 h)) (lb (ps.map (·.1)) k) (lb (ps.map (·.1)) k+1+j) hlt (by rw[Zc];omega) (by omega);rw[Yw,Yw,hke]at this;exact this
  ·unfold Hd;rw[hd,cond_true,List.set_eq_take_append_cons_drop,if_pos wR]
  ·rw[←X7 wR,Ym]
 |false=>
  have hk:=of_decide_eq_false hd;refine⟨ps.take (lb (ps.map (·.1)) k),ps.drop (lb (ps.map (·.1)) k),hA,fun q hq=>?_,?_,.inl ⟨(Ym ..).symm,hk⟩⟩
  ·obtain⟨j,hj,rfl⟩:=X6 hq;rw[Z5]at hj;rw[Vw];have h1:=(hs (lb (ps.map (·.1)) k+j) (by rw[Zc];omega)).2 (by omega);rw[Yw]at h1;cases h2:Gf k (ps[lb (ps.map (·.1)) k+j]).1 with
   |true=>rfl
   |false=>
    exfalso;have e:=Tt _ _ h2 h1;rcases Xi j with h3|h3
    ·subst h3;refine hk ?_;rw[Zy,Zn (by omega)];exact congrArg some e.symm
    ·have h4:=(Je.1 (Ml.1 h)) (lb (ps.map (·.1)) k) (lb (ps.map (·.1)) k+j) (by rw[Zc];omega) (by rw[Zc];omega) (by omega);have h5:=(hs (lb (ps.map (·.1)) k) (by rw[Zc];omega)).2 (Ze _);rw[Yw,Yw,←e]at h4;rw[Yw]at h5;rw[h4]at h5;cases h5
  ·unfold Hd;rw[hd,cond_false]
theorem TU{k w:Bs}{ps:List Pr}:(Hd ps k w).length≤ps.length+1∧ps.length≤(Hd ps k w).length:=by
 have hle:=Rf (ps.map (·.1)) k;rw[Zc]at hle;unfold Hd;cases decide ((ps.map (·.1))[lb (ps.map (·.1)) k]? =some k)with
 |true=>simp
 |false=>
  simp only[cond_false,Zd,Zq,Zf,Z5];omega
theorem Zg3{k w:Bs}{ps:List Pr}(h:rise (ps.map (·.1))=true):rise ((Hd ps k w).map (·.1))=true:=by
 obtain⟨A,C,hA,hC,e,hp⟩:=TV (w:=w) h (k:=k);rw[e];have key:rise ((A++C).map (·.1))=true:=by
  rcases hp with⟨hp,_⟩|⟨x,_,hp,_⟩
  ·rw[←hp];exact h
  ·rw[hp]at h;rw[Ml]at h ⊢;exact Xx.sublist (by simp) h
 rw[Ml,Zp,Ys]at key ⊢;obtain⟨k1,k2,k3⟩:=key;rw[Zr];refine⟨k1,List.pairwise_cons.2 ⟨fun b hb=>?_,k2⟩,fun a ha b hb=>?_⟩
 ·obtain⟨q,hq,rfl⟩:=Zl.1 hb;exact hC q hq
 ·rcases Zg.1 hb with rfl|hb
  ·obtain⟨q,hq,rfl⟩:=Zl.1 ha;exact hA q hq
  ·exact k3 a ha b hb
theorem Zg4{k w:Bs}{ps:List Pr}(h:rise (ps.map (·.1))=true):weight (Hd ps k w)≤weight ps+(2+k.length+w.length):=by
 obtain⟨A,C,hA,hC,e,hp⟩:=TV (w:=w) h (k:=k);have c1:∀(a:Pr) (l:List Pr),weight (a::l)=2+a.1.length+a.2.length+weight l:=fun a l=>by unfold weight;simp
 rw[e,Cg,c1];rcases hp with⟨hp,_⟩|⟨x,_,hp,_⟩
 ·rw[hp,Cg];show _+(2+k.length+w.length+_)≤_;omega
 ·rw[hp,Cg,c1];show _+(2+k.length+w.length+_)≤_;omega
theorem Zg5{k w:Bs}{ps:List Pr}(hp:He (Gj ps))(hk:isKey k=true)(hw:w.length≤48):(Gj (Hd ps k w)).ok=true∧weight (Hd ps k w)≤316∧ps.length<255:=by
 have hl:=Mj hp.ok rfl;obtain⟨_,_,_,_,hr,_⟩:=Mh hl;have hr:rise (ps.map (·.1))=true:=hr;have hz:=hp.sz;rw[Nf rfl]at hz;have hz:2+weight ps≤160:=hz;have hm:=br ps;have hpl:=TU (k:=k) (w:=w) (ps:=ps);have hwt:=Zg4 (w:=w) hr (k:=k);have hkl:=(Rh hk).2;refine⟨D3 (jv (by omega) (fun q hq=>?_) (Zg3 hr)),by omega,by omega⟩;rcases TY hq with rfl|hq
 ·exact⟨hk,hw⟩
 ·have:=Cf hl q hq;exact⟨this.1,this.2.2⟩
theorem Zg6(t:Nat)(τ:Tr)(v:Value)(ps:List Pr)(bp bt z1 z2:Nat)(k w:Bs)(h1:Pt bp [S k,S w] z1∈P)(h2:Pt bt [.pointer (some ⟨t,0,none⟩)] z2∈P)(hv:NdV P v (Gj ps))(hpo:He (Gj ps))(hk:isKey k=true)(hw:w.length≤48)(hc0: -1000000≤τ.count)(hc1:τ.count≤1000000):Sp SET 79 [v,pp0 bp,pp0 bt] (trL t τ++L) P (fun r L' P'=>∃τ',FnO (j5 k w) 0 true τ ps P r τ' P'∧L'=trL t τ'++L):=by
 have hv0:=hv;obtain⟨pv,kv,iv,rfl,hpv,hkv,hiv⟩:=hv.ex;refine Sp.fact (Gi (.s (.p hpv))) fun⟨a1,c1,e1⟩=>?_;refine Sp.fact (Gi (.s (.p hkv))) fun⟨a2,c2,e2⟩=>?_;refine Sp.fact (Gi (.s (.p hiv))) fun⟨a3,c3,e3⟩=>?_;subst e1 e2 e3;obtain⟨xJ,hwt,hl⟩:=Zg5 hpo hk hw;have hpl:=TU (k:=k) (w:=w) (ps:=ps);refine .bo (fn:=Tryz.f79) (N:=29) ?_;refine .seq (.region ?_);refine .bx (cs:=[_,_,_,_]) fun b3=>?_;refine .nw (cs:=[.bool false,.slice none 0 0,.slice none 0 0,.slice none 0 0]) fun b4=>?_;refine .pu .as (.nil (.seq (.region (.lda (vs:=[_,_,_,_]) ?_))));refine .lda (vs:=[_,_]) ?_;refine .call (Zef _ _ _ (Gj ps) k w hv0 hpo.sm.small (Mj hpo.ok rfl) hk hw hl) ?_;rintro _ _ _ ⟨v1,rfl,hv1,rfl,hs1⟩;have xK:=hv1;have h22:=hs1 _ h2;have yP:=hs1 _ hpv;obtain⟨qv,rv,sv,rfl,hqv,hrv,hsv⟩:=hv1.ex
 refine .fact (Gi (.s (.p hqv))) fun⟨b1,d1,f1⟩=>?_;refine .fact (Gi (.s (.p hrv))) fun⟨b2,d2,f2⟩=>?_;refine .fact (Gi (.s (.p hsv))) fun⟨b3_,d3,f3⟩=>?_;subst f1 f2 f3;have hL1:(Y3 Ge (Gj (Hd (Gj ps).pairs k w)).pairs).length=(Hd ps k w).length:=Zc ..;have hL2:(Y3 Ge (Gj ps).pairs).length=ps.length:=Zc ..;refine .pu .mv (.pu .ex (.pu .ex ?_));refine .nw (cs:=[.bool false,.slice none 0 0,.slice none 0 0,.slice none 0 0]) fun b6=>?_;refine .st (vs:=[_,_,_,_]) ?_;refine .pu .as (.nil ?_);refine .seq (.drawn fun _=>?_);refine .lo 0 0 .ld .mk ?_;refine .pu .nc (.pu .fa (.lo 0 0 .ld .mk ?_));refine .pu .fa (.lo 0 0 .ld .mk ?_);refine .lk .ln ?_;refine .pu .fa (.lo 0 0 .ld .mk ?_);refine .lk .ln ?_;refine .pu .sub (.pu .add ?_);rw[show τ.count+(((Y3 Ge (Gj (Hd (Gj ps).pairs k w)).pairs).length:Int)-((Y3 Ge (Gj ps).pairs).length:Int))=τ.count+Ma true ps (Hd ps k w) by rw[hL1,hL2];rfl]
 refine .pu .nc (.pu .fa (.st (vs:=[_]) ?_));refine .nil (.cons (.yes .mk (.skip .nil)) (.cons (.yes .mk (.skip .nil)) (.cons (.yes .mk (.skip .nil)) (.cons (.yes .mk (.skip .nil)) .nil)))) (.seq (.region (.lda (vs:=[_,_,_,_]) ?_)));refine .pu .mv (.st (vs:=[_,_,_,_]) ?_);refine .pu .as (.nil (.ret ?_));exact⟨_,.cell rfl .l1 rfl (.tmp rfl .nil),_,_,Ent.d3,{τ with count:=τ.count+Ma true ps (Hd ps k w)},⟨hs1,.inl ⟨Hd ps k w,_,rfl,rfl,xK,xJ,hwt,rfl⟩⟩,rfl⟩
theorem Zg7(t bp bt z1 z2:Nat)(k w:Bs)(hk:isKey k=true)(hw:w.length≤48):xj [Pt bp [S k,S w] z1,Pt bt [.pointer (some ⟨t,0,none⟩)] z2] t 79 #[pp0 bp,pp0 bt] (j5 k w) 0 true:=
 fun L P τ v ps h0 hv hpo hc0 hc1=>Zg6 L P t τ v ps bp bt z1 z2 k w (h0 _ (.head _)) (h0 _ (.tail _ (.head _))) hv hpo hk hw hc0 hc1
theorem j6 :∀(l:List Nat) (f:Nat→Bool) (n:Nat),l.Nodup→(∀j,f j=true↔j∈l)→(∀j∈l,j<n)→cn f n=l.length
 |[],f,n,_,hf,_=>by
  have h0:∀j,f j=false:=fun j=>by
   cases h:f j with
   |false=>rfl
   |true=>exact absurd ((hf j).1 h) (by simp)
  have:=KL (f:=f) 0 n (fun j _=>h0 j);rw[Zw]at this;rw[this];rfl
 |x::l,f,n,hn,hf,hlt=>by
  obtain⟨h1,h2⟩:=Yz.1 hn;have ih:=j6 l (fun j=>decide (j∈l)) n h2 (fun j=>by simp) (fun j hj=>hlt j (Zs _ hj));rw[mh (f:=fun j=>decide (j∈l)) (g:=f) (b:=x) (by simp[h1]) ((hf x).2 (Zm ..)) (fun j hj=>by
   cases h:f j with
   |true=>
    rcases Zg.1 ((hf j).1 h)with e|e
    ·exact absurd e hj
    ·simp[e]
   |false=>
    have:j∉l:=fun e=>by rw[(hf j).2 (Zs _ e)]at h;cases h
    simp[this]),ih,decide_eq_true (hlt x (Zm ..))]
  rfl
theorem Below.cases{T:Tg}{pg:Nat→Option Bs}{r:Nat}{ps:List Pr}{gs:List Nat}{dp:Nat}(h:Below T pg r ps gs dp):(r=0∧ps=[]∧gs=[]∧dp=0)∨∃h,r≠0∧dp=h+1∧Sub T pg h r ps gs:=by
 cases h with
 |none=>exact .inl ⟨rfl,rfl,rfl,rfl⟩
 |some hr hs=>exact .inr ⟨_,hr,rfl,hs⟩
theorem Below.mk{T:Tg}{pg pg':Nat→Option Bs}{r:Nat}{ps:List Pr}{gs:List Nat}{dp:Nat}(h:Below T pg r ps gs dp)(hc:∀j∈gs,pg' j=pg j):Below T pg' r ps gs dp:=by
 cases h with
 |none=>exact .none
 |some hr hs=>exact .some hr (hs.congr hc)
structure Rep(T:Tg)(τ:Tr)(ps:List Pr)(gs:List Nat)(dp:Nat):Prop where
 bel:Below T τ.pg τ.root ps gs dp
 depth:τ.depth=dp
 count:τ.count=ps.length
 us:∀j,mem τ.α.us j=true↔j=0∨j∈gs
 nd:gs.Nodup
 g0:0∉gs
 ok:τ.α.Ok
 bk:τ.α.back≤1000000
 nn:τ.σ.n=τ.α.n
 ls:∀j,mem τ.α.ls j=false
 km:∀q∈ps,q.1.length≤T.m
theorem Rep.len{T:Tg}{τ:Tr}{ps:List Pr}{gs:List Nat}{dp:Nat}(h:Rep T τ ps gs dp):Ht τ.α.us=gs.length+1∧gs.length+1≤τ.α.n:=by
 have hul:=h.ok.ul;have hnd:(0::gs).Nodup:=Yz.2 ⟨h.g0,h.nd⟩;have hm:∀j,mem τ.α.us j=true↔j∈0::gs:=fun j=>by rw[h.us j,Zg]
 have h1:=j6 (0::gs) (mem τ.α.us) (64*τ.α.us.length) hnd hm (fun j hj=>by
  have:=h.ok.uo j ((hm j).2 hj);omega)
 have h2:=j6 (0::gs) (mem τ.α.us) τ.α.n hnd hm (fun j hj=>h.ok.uo j ((hm j).2 hj));have h3:=LV (mem τ.α.us) τ.α.n;rw[B0,h1];rw[h2]at h3;exact⟨rfl,h3⟩
theorem Rep.free{T:Tg}{τ:Tr}{ps:List Pr}{gs:List Nat}{dp:Nat}(h:Rep T τ ps gs dp):τ.α.free=(τ.α.n:Int)-1-gs.length-τ.α.back:=by
 have h1:=h.len.1;have h2:Ht τ.α.ls=0:=by
  have:=KL (f:=mem τ.α.ls) 0 (64*τ.α.ls.length) (fun j _=>h.ls j);rw[Zw]at this;rw[B0,this];rfl
 unfold AS0.free;rw[h1,h2];omega
theorem Sub.few{T:Tg}{pg:Nat→Option Bs}{h p:Nat}{ps:List Pr}{gs:List Nat}(H:Sub T pg h p ps gs):ps.length≤79*gs.length∧h+1≤gs.length:=by
 induction H with
 | @leaf p ps h ok=>
  have hz:=ok.sz;rw[Nf rfl]at hz;have hz:2+weight ps≤160:=hz;have:=br ps;simp only[Zf,Zo];omega
 | @inner h p ks hp ok hk sp ht km ih=>
  obtain⟨n1,_⟩:=D4 ok;have key:∀l:List Kid,(∀k∈l,k.ps.length≤79*k.gs.length∧h+1≤k.gs.length)→(l.flatMap (·.ps)).length≤79*(l.flatMap (·.gs)).length∧(l≠[]→h+1≤(l.flatMap (·.gs)).length):=by
   intro l
   induction l with
   |nil=>intro _;exact⟨by simp,fun h=>absurd rfl h⟩
   |cons k l ih2=>
    intro hl;have h1:=hl k (Zm ..);have h2:=ih2 (fun c hc=>hl c (Zs _ hc));simp only[Zx,Zd];exact⟨by omega,fun _=>by omega⟩
  obtain⟨h1,h2⟩:=key ks ih;have h2:=h2 (fun e=>n1 (by rw[e];rfl));simp only[Zf];omega
theorem Rep.few{T:Tg}{τ:Tr}{ps:List Pr}{gs:List Nat}{dp:Nat}(h:Rep T τ ps gs dp):ps.length≤323584∧dp≤4096∧gs.length≤4096:=by
 have h1:=h.len.2;have h2:=h.ok.n1;rcases h.bel.cases with⟨_,e1,e2,e3⟩|⟨h',_,e1,hs⟩
 ·subst e1 e2;exact⟨by simp,by omega,by simp⟩
 ·have:=hs.few;omega
theorem Rep.fit{T:Tg}{τ:Tr}{ps:List Pr}{gs:List Nat}{dp:Nat}(h:Rep T τ ps gs dp):Fit τ gs:=by
 have h1:=h.few.1;have h2:=h.count;exact⟨h.ok,h.bk,h.nn,(h.us 0).2 (.inl rfl),h.g0,h.nd,fun j hj=>(h.us j).2 (.inr hj),by omega,by omega⟩
def xp(T:Tg)(dp dp':Nat)(qs:List Pr)(gs':List Nat):Prop:=dp'≤dp∨dp'=dp+1∧∀h,dp=h+1→∃n,UZ T h qs n∧n+1≤gs'.length
def ChQ(T:Tg)(τ:Tr)(gs:List Nat)(dp:Nat)(ps':Option (List Pr))(e0:Nat)(e:Nat)(τ':Tr):Prop:=
 (e≠0∧(e=5∧τ.α.free<((2*dp+3:Nat):Int)∨e=e0∧ps'=none))∨
 (e=0∧∃qs gs',∃dp':Nat,ps'=some qs∧Below T τ'.pg τ'.root qs gs' dp'∧τ'.depth=dp'∧At τ gs gs' (2*dp+3) τ'∧τ'.count=(qs.length:Nat)∧xp T dp dp' qs gs'∧∀q∈qs,q.1.length≤T.m)
theorem ChQ.rep{T:Tg}{τ τ1:Tr}{ps:List Pr}{gs:List Nat}{dp:Nat}{ps':Option (List Pr)}{e0:Nat}(hr:Rep T τ ps gs dp)(h:ChQ T τ gs dp ps' e0 0 τ1){c:Nat}:∃qs gs' dp',ps'=some qs∧Rep T {τ1 with σ:=τ1.σ.put 0 (Ch τ1.root c),α:=τ1.α.settle} qs gs' dp'∧xp T dp dp' qs gs':=by
 rcases h with⟨h,_⟩|⟨_,qs,gs',dp',h1,h2,h3,h4,h5,hgw,hkm⟩
 ·exact absurd rfl h
 ·have g0':0∉gs':=fun e=>by
   rcases h4.nw 0 e with e|e
   ·exact hr.g0 e
   ·rw[(hr.us 0).2 (.inl rfl)]at e;cases e
  obtain⟨w,hw⟩:=h4.w;have hpg:∀j,j≠0→({τ1 with σ:=τ1.σ.put 0 (Ch τ1.root c),α:=τ1.α.settle}:Tr).pg j=τ1.pg j:=fun j hj=>by
   have:=Tr.pg_put τ1 0 j (Ch τ1.root c);rw[if_neg hj]at this;exact this
  refine⟨qs,gs',dp',h1,⟨?_,h3,h5,fun j=>?_,h4.nd,g0',h4.ok.settle,?_,?_,fun j=>v9 ..,hkm⟩,hgw⟩
  ·exact h2.mk (fun j hj=>hpg j (fun e=>g0' (by rw[←e];exact hj)))
  ·show mem τ1.α.us j=true↔_;rw[h4.us j,hr.us j];constructor
   ·rintro(⟨e|e,h⟩|e)
    ·exact .inl e
    ·exact absurd e h
    ·exact .inr e
   ·rintro(e|e)
    ·exact .inl ⟨.inl e,by rw[e];exact hr.g0⟩
    ·exact .inr e
  ·show τ1.α.back≤_;rw[h4.bk];exact hr.bk
  ·show τ1.σ.n=τ1.α.n;rw[h4.n,hw];exact hr.nn
theorem Zg8(dc:Bool)(a b:List Pr)(c:Int)(hc:c=a.length)(h:dc=true):c+Ma dc a b=b.length:=by
 subst h;show c+((b.length:Int)-a.length)=_;omega
theorem Zg9{k w:Bs}(hk:isKey k=true)(hw:w.length≤48):(Gj [(k,w)]).ok=true∧(Gj [(k,w)]).size≤160:=by
 have hkl:=(Rh hk).2;refine⟨D3 (jv (by simp) (fun q hq=>?_) rfl),?_⟩
 ·rcases Z6.1 hq with rfl
  exact⟨hk,hw⟩
 ·rw[Nf rfl];show 2+(2+k.length+w.length+0)≤160;omega
theorem TJ{T:Tg}{τ τ1:Tr}{gs:List Nat}{h:Nat}{ps:List Pr}{G:List Pr→Option (List Pr)}{e0 e:Nat}{dc:Bool}{P P':List Asn}{kv:Value}(he:e≠0)(H:N5 T h G e0 dc τ gs ps P (.tuple ⟨[kv,.int .i64 (e:Nat)]⟩) τ1 P'):Wob τ τ1∧ChQ T τ gs (h+1) (G ps) e0 e τ1:=by
 obtain⟨h1,h2,h3,⟨e',h4,h5,h6,h7⟩|⟨_,_,_,h4,_⟩⟩:=H
 ·have e1:e=e':=by have:=(Rp h4).2;omega
  subst e1;refine⟨h6,.inl ⟨he,?_⟩⟩;rcases h7 with⟨h7,h8⟩|h7
  ·exact .inl ⟨h7,by omega⟩
  ·exact .inr h7
 ·have:=(Rp h4).2;omega
theorem Zha{T:Tg}{τ τ2:Tr}{gs:List Nat}{h:Nat}{ps ps':List Pr}{G:List Pr→Option (List Pr)}{e0:Nat}{P P':List Asn}{c:Int}{r:Value}{ups:List Kid}(hkm:∀q∈ps',q.1.length≤T.m)(hwd:2≤ups.length→UZ T h ps' (ups.flatMap (·.gs)).length)(hG:G ps=some ps')(hc:c=(ps'.length:Nat))(H:RD T h ups τ gs (2*(h+1)) c ps' P r τ2 P'):(∀A∈P,A∈P')∧∃e:Nat,r=.int .i64 (e:Nat)∧Wob τ τ2∧ChQ T τ gs (h+1) (G ps) e0 e τ2:=by
 obtain⟨h1,⟨h2,h3,h4⟩|⟨h2,gs',dp',h3,h4,h5,h6,h7⟩⟩:=H
 ·exact⟨h1,5,h2,h3,.inl ⟨by decide,.inl ⟨rfl,by omega⟩⟩⟩
 ·refine⟨h1,0,h2,h5.wob,.inr ⟨rfl,ps',gs',dp',hG,h3,h4,h5.more (by omega),h6.trans hc,?_,hkm⟩⟩;rcases h7 with h7|⟨h7,h8,h9⟩
  ·exact .inl h7
  ·exact .inr ⟨h7,fun h' e=>by
    obtain rfl:h'=h:=by omega
    exact⟨_,hwd h8,h9⟩⟩
theorem TK{T:Tg}{τ τ2:Tr}{ps:List Pr}{gs:List Nat}{dp b:Nat}{k w:Bs}{P P':List Asn}{kv:Value}{e:Nat}(hr:Rep T τ ps gs dp)(hkl:k.length≤T.m)(hr0:τ.root=0)(hbn:b<τ.α.n)(hbu:mem τ.α.us b=false)(hbo:({τ.α with us:=Gp τ.α.us b}:AS0).Ok)(hz:(Gj [(k,w)]).size≤160)
  (hw:Ci {τ with α:= {τ.α with us:=Gp τ.α.us b},root:=b,count:=1,depth:=1} b (Gj [(k,w)]) P (.tuple ⟨[kv,.int .i64 (e:Nat)]⟩) τ2 P'):Wob τ τ2∧ChQ T τ gs dp (some (Hd ps k w)) 0 e τ2:=by
 rcases hr.bel.cases with⟨_,e1,e2,e3⟩|⟨h',h1,_⟩
 ·subst e1 e2 e3;have xL:At τ [] [] 0 τ:=At.refl hr.ok (by simp) (by simp);have wS:=xL.take hbn hbu hbo;have wT:At τ [] ([]++[b]) (0+1) {τ with α:= {τ.α with us:=Gp τ.α.us b},root:=b,count:=1,depth:=1}:=((wS.rt (x:=b)).count (x:=1)).dp (x:=1)
  by_cases he:e=0
  ·subst he;obtain⟨g1,g2,g3,pcs,tk,g4,g5,g6,g7,g8,g9,g10⟩:=hw.fine;have xM:=xh g5 g6 hz;have htk:tk=[]:=Yh.1 (by omega);subst htk;obtain⟨⟨k0,n0⟩,rfl⟩:=List.length_eq_one_iff.1 xM;have hn0:n0=Gj [(k,w)]:=g5.gl;subst hn0;have xA:At τ [] [b] (0+1+0) τ2:=wT.trans g9;have hb0:b≠0:=fun e=>by
    rw[e,(hr.us 0).2 (.inl rfl)]at hbu;cases hbu
   refine⟨xA.wob,.inr ⟨rfl,[(k,w)],[b],1,rfl,?_,g3,xA.more (by omega),g2,.inr ⟨rfl,fun h e=>by cases e⟩,fun q hq=>by rcases Z6.1 hq with rfl;exact hkl⟩⟩
   rw[g1];exact .some hb0 (.leaf (g10 (b,(k0,Gj [(k,w)])) (Zm ..)) (g5.ok _ (Zm ..)).1)
  ·obtain⟨rfl,g2,g3⟩:=hw.err he;have hf:=wT.fr;have g3:({τ.α with us:=Gp τ.α.us b}:AS0).free<2:=g3
   have hf:τ.α.free≤({τ.α with us:=Gp τ.α.us b}:AS0).free+((0+1:Nat):Int):=hf
   exact⟨wT.wob.trans g2,.inl ⟨he,.inl ⟨rfl,by omega⟩⟩⟩
 ·exact absurd hr0 h1
theorem Zhb(T:Tg)(L P:List Asn)(t:Nat)(τ:Tr)(ps:List Pr)(gs:List Nat)(dp:Nat)(bp bt bk z1 z2 z3:Nat)(k w:Bs)(hr:Rep T τ ps gs dp)(hTd:T.t=true→dp≤2)(h1:Pt bp [S k,S w] z1∈P)(h2:Pt bt [.pointer (some ⟨t,0,none⟩)] z2∈P)(h3:Pt bk [S k] z3∈P)(hT:Ro 0 G5∈P)(hk:isKey k=true)(hw:w.length≤48)(hkl:k.length≤T.m):Sp SET 75 [pp0 bt,pp0 bp,pp0 bk] (trL t τ++L) P (fun r L' P'=>∃τ',((∀A∈P,A∈P')∧∃e:Nat,r=.int .i64 (e:Nat)∧Wob τ τ'∧ChQ T τ gs dp (some (Hd ps k w)) 0 e τ')∧L'=trL t τ'++L):=by
 have wB:=hr.fit;have xN:=hr.few;refine .bo (fn:=Tryz.f75) (N:=60) ?_;refine .seq (.region (.pu .as (.nil ?_)));by_cases hr0:τ.root=0
 ·refine .seq (.seq (.region (.ld ?_)));refine .pu .nc (.pu .fa (.ld ?_));refine .pu .cy (.nil ?_);refine .yes rfl ?_;by_cases hf:τ.α.free≤0
  ·refine .seq (.region (.ld ?_));refine .pu .nc (.pu .fa (.ld ?_));refine .call (Sp.up (.s (.s .z)) (fun L=>w9 L _ _ _ hr.bk hT hf)) ?_;rintro _ L P ⟨rfl,rfl,rfl⟩;refine .pu .mv (.pu .ex (.pu .ex (.pu .as (.pu .as (.nil (.seq (.seq (.region (.pu .mv (.pu .cmp (.nil ?_)))))))))));refine .yes rfl (.seq (.region (.pu .mv (.pu .as (.nil (.ret ?_))))));exact⟨_,.tmp rfl .nil,_,_,.refl _ _,τ,⟨fun _ h=>h,5,rfl,⟨rfl,rfl,⟨_,rfl⟩,rfl,rfl,hr.ok⟩,.inl ⟨by decide,.inl ⟨rfl,by omega⟩⟩⟩,rfl⟩
  ·refine .seq (.region (.ld ?_));refine .pu .nc (.pu .fa (.ld ?_));refine .call (Sp.at [_,_] _ (fun L=>xb L _ _ _ hr.bk hT (by omega))) ?_;rintro _ _ _ ⟨b,⟨rfl,hbn,hbu,hbo,rfl⟩,rfl⟩;refine .pu .mv (.pu .ex (.pu .ex (.pu .as (.pu .as (.nil (.seq (.seq (.region (.pu .mv (.pu .cmp (.nil ?_)))))))))));refine .no rfl (.skip ?_);refine .seq (.drawn fun _=>?_);refine .lo 0 0 .ld .mk ?_;refine .lo 0 1 .ld .mk ?_;refine .lo 0 2 .ld .mk ?_;refine .pu .mv (.pu .nc (.pu .fa (.st (vs:=[_]) ?_)));refine .pu .nc (.pu .fa (.st (vs:=[_]) ?_));refine .pu .nc (.pu .fa (.st (vs:=[_]) ?_));refine .nil (.cons (.yes .mk (.yes .mk (.yes .mk (.skip .nil)))) (.cons (.yes .mk (.yes .mk (.skip (.skip .nil)))) (.cons (.yes .mk (.skip (.skip (.skip .nil)))) .nil))) (.seq (.region (.ld ?_)));refine .pu .mv (.lda (vs:=[_,_]) ?_);refine .bl (k:=2) (es:=[[_,_]]) fun v38=>?_;refine .fact (Hr .l0) fun⟨a38,c38,e38⟩=>?_
   subst e38;refine .pu (.bd (vs:=[_,_,_,_])) (.ent (Ent.sl.trans ((Ent.sl0 (k:=1) (c:=0)))) ?_);obtain⟨wI,hz1⟩:=Zg9 hk hw;refine .call (xc _ _ t {τ with α:= {τ.α with us:=Gp τ.α.us b},root:=b,count:=1,depth:=1} b _ (Gj [(k,w)]) ⟨⟨_,_,_,rfl,.tail _ (.head _),.head _,.head _⟩⟩ ⟨wI,Nd.ok_sm wI,fun _ e=>(by cases e),(Nd.ok_w wI).1,(Nd.ok_w wI).2⟩ (Ye hz1 (by decide)) (.tail _ (.tail _ hT)) hbo hr.bk hr.nn (by have:=Ii τ.α.us b (by have:=hr.ok.ul;omega) b;rw[this];simp)) ?_;rintro _ _ _ ⟨τ2,hwo,rfl⟩
   obtain⟨kv4,e4,rfl⟩:=hwo.shape;have hs4:=hwo.1;refine .pu .mv (.pu .ex (.pu .ex (.pu .as (.nil (.seq (.region (.pu .mv (.pu .as (.nil (.ret ?_))))))))));refine⟨_,.tmp rfl .nil,_,_,.refl _ _,τ2,⟨fun A hA=>hs4 _ (.tail _ (.tail _ hA)),e4,rfl,?_,?_⟩,rfl⟩
   ·exact(TK hr hkl hr0 hbn hbu hbo hz1 hwo).1
   ·exact(TK hr hkl hr0 hbn hbu hbo hz1 hwo).2
 ·refine .seq (.seq (.region (.ld ?_)));refine .pu .nc (.pu .fa (.ld ?_));refine .pu .cn (.nil ?_);refine .no rfl (.skip ?_);refine .seq (.drawn fun _=>?_);obtain⟨h,hrt,hdp,hsb⟩:∃h,τ.root≠0∧dp=h+1∧Sub T τ.pg h τ.root ps gs:=by
   rcases hr.bel.cases with⟨e,_⟩|h
   ·exact absurd e hr0
   ·exact h
  subst hdp;refine .lo 0 0 .ld .mk ?_;refine .lo 0 0 .ld .mk ?_;refine .pu .nc (.pu .fa (.lo 0 0 .ld .mk ?_));refine .lo 0 0 .ld .mk ?_;refine .pu .mf ?_;refine .call (RN T h _ _ [Pt bp [S k,S w] z1,Pt bt [.pointer (some ⟨t,0,none⟩)] z2] t τ τ.root ps gs k _ _ (j5 k w) 0 true (Zg7 t bp bt z1 z2 k w hk hw) (TX k w) (fun A hA=>by rcases Zg.1 hA with rfl|hA;exact h1;rcases Z6.1 hA with rfl;exact h2) hT wB hsb (fun e=>by have:=hTd e;omega) hr.km hkl) ?_;rintro _ _ _ ⟨τ1,heo,rfl⟩
  obtain⟨kv5,e5,rfl⟩:=heo.shape;have hs5:=heo.1;refine .pu .mv (.pu .ex (.pu .ex (.pu .as (.pu .as (.nil (.cons (.yes .mk (.skip .nil)) (.cons (.yes .mk (.skip .nil)) (.cons (.yes .mk (.skip .nil)) (.cons (.yes .mk (.skip .nil)) .nil)))) ?_)))));by_cases he:e5=0
  ·refine .seq (.seq (.region (.pu .mv (.pu .cn (.nil ?_)))));refine .no rfl (.skip (.seq (.region ?_)));subst he;obtain⟨ups,ps',xP,hGo,xB,hul,wS,xQ⟩:=heo.fine;have h22:=hs5 _ h2;have xR:τ1.depth=((h+1:Nat):Int):=heo.2.2.1.trans hr.depth;have hcc:τ1.count=(ps'.length:Nat):=by rw[xQ];exact Zg8 true ps ps' τ.count hr.count rfl
   refine .ld ?_;refine .pu .mv ?_;refine .call (Zgu T h _ _ t τ τ1 gs (2*(h+1)) ps' ups kv5 (hs5 _ hT) wB xB hul wS xP xR (by omega)) ?_;rintro _ _ _ ⟨τ2,hgo,rfl⟩;obtain⟨hs6,e6,rfl,xS,hq6⟩:=Zha (T:=T) (e0:=0) (RH (TX k w) hGo hr.km hkl) xB.wd hGo hcc hgo;refine .pu .as (.nil (.ret ?_));exact⟨_,.tmp rfl .nil,_,_,.refl _ _,τ2,⟨fun A hA=>hs6 _ (hs5 _ hA),e6,rfl,xS,hq6⟩,rfl⟩
  ·refine .seq (.seq (.region (.pu .mv (.pu .cy (.nil ?_)))));refine .yes rfl (.seq (.region (.pu .mv (.pu .as (.nil (.ret ?_))))));refine⟨_,.tmp rfl .nil,_,_,.refl _ _,τ1,⟨hs5,e5,rfl,?_,?_⟩,rfl⟩
   ·exact(TJ he heo).1
   ·exact(TJ he heo).2
def xq(T:Tg)(τ:Tr)(gs:List Nat)(dp:Nat)(ps':Option (List Pr))(e0:Nat)(P:List Asn)(r:Value)(τ':Tr)(P':List Asn):Prop:=
  (∀A∈P,A∈P')∧∃e:Nat,r=.int .i64 (e:Nat)∧
    ((e≠0∧(e=5∧τ.α.free<((2*dp+3:Nat):Int)∨e=e0∧ps'=none)∧∃a',τ'= {τ with a:=a'})∨
     (e=0∧∃qs gs' dp',ps'=some qs∧Rep T τ' qs gs' dp'∧xp T dp dp' qs gs'∧τ'.s=τ.s∧τ'.a=τ.a∧τ'.α.n=τ.α.n∧τ'.α.back=τ.α.back∧∃w,τ'.σ= {τ.σ with w:=w}))
theorem Zhc{T:Tg}{τ τ':Tr}{ps:List Pr}{gs:List Nat}{dp:Nat}{ps':Option (List Pr)}{e0:Nat}{P0 P P':List Asn}{r:Value}(hr:Rep T τ ps gs dp)(hP:∀A∈P0,A∈P)(H:ChO τ (ChQ T τ gs dp ps' e0) P r τ' P'):xq T τ gs dp ps' e0 P0 r τ' P':=by
 obtain⟨h1',e,h2,⟨h3,τ1,a',h4,h5⟩|⟨h3,τ1,c,h4,h5,h6,h7⟩⟩:=H
 ·refine⟨fun A hA=>h1' A (hP A hA),e,h2,.inl ⟨h3,?_,a',h5⟩⟩;rcases h4 with⟨_,h4⟩|⟨h4,_⟩
  ·exact h4
  ·exact absurd h4 h3
 ·subst h3 h7;obtain⟨qs,gs',dp',g1,g2,g3⟩:=ChQ.rep (c:=c) hr h4;obtain⟨w,hw⟩:=h5.w;exact⟨fun A hA=>h1' A (hP A hA),0,h2,.inr ⟨rfl,qs,gs',dp',g1,g2,g3,h5.s,h5.a,h5.n,h5.bk,De w 0 (Ch τ1.root c),by show PSt.put _ _ _=_;unfold PSt.put;rw[hw]⟩⟩
theorem Zhd{T:Tg}{τ:Tr}{gs:List Nat}{dp:Nat}{ps':Option (List Pr)}{e0:Nat}{τ':Tr}(h:ChQ T τ gs dp ps' e0 0 τ'):∃c:Nat,τ'.count=(c:Nat):=by
 rcases h with⟨h,_⟩|⟨_,qs,_,_,_,_,_,_,h,_⟩
 ·exact absurd rfl h
 ·exact⟨_,h⟩
theorem Zhe{P:List Asn}{a b c d X:Asn}(h:d∈P)(hX:X∈[a,b,c,d]):X∈b::c::a::P:=by
 simp only[Zg,Ut,or_false]at hX ⊢;rcases hX with rfl|rfl|rfl|rfl
 ·exact .inr (.inr (.inl rfl))
 ·exact .inl rfl
 ·exact .inr (.inl rfl)
 ·exact .inr (.inr (.inr h))
theorem Zhf(T:Tg)(L P:List Asn)(t:Nat)(τ:Tr)(ps:List Pr)(gs:List Nat)(dp:Nat)(k w:Bs)(hr:Rep T τ ps gs dp)(hTd:T.t=true→dp≤2)(hT:Ro 0 G5∈P)(hk:isKey k=true)(hw:w.length≤48)(hkm:k.length≤T.m):Sp SET 17 [.pointer (some ⟨t,0,none⟩),S k,S w] (trL t τ++L) P (fun r L' P'=>∃τ',xq T τ gs dp (some (Hd ps k w)) 0 P r τ' P'∧L'=trL t τ'++L):=by
 have hkl:=Rh hk;have hn0:0<τ.σ.n:=by rw[hr.nn];exact hr.ok.n0
 refine .bo (fn:=Tryz.f17) (N:=27) ?_;refine .seq (.region ?_);refine .bx (cs:=[_]) fun b3=>?_;refine .bx (cs:=[_]) fun b4=>?_;refine .pu .as (.nil (.seq (.seq (.region (.ld ?_)))));refine .pu .peq (.nil ?_);refine .no rfl (.skip (.seq (.seq (.region (.ld ?_)))));refine .pu (.seq (q:=false) (hq:=decide_eq_false hkl.1)) (.pu .mv (.on (.ld ?_)));refine .on (.pu .ls (.on (.pu .cn (.pu .pk (.pu .mv (.on (.pu .mv (.on (.pu .ls (.on (.pu .cn (.pu .pk (.nil ?_)))))))))))));refine .no rfl (.skip (.seq (.region (.ld ?_))));refine .pu .mv (.pu (.bd (vs:=[_,_])) ?_);refine .nw (cs:=[S [],S []]) fun b7=>?_;refine .st (vs:=[_,_]) ?_;refine .nil (.seq (.region (.ent (Ent.pt.trans (Ent.pt.trans Ent.pt)) ?_)));refine .ld ?_;refine .pu .mf ?_;refine .call (Zg1 _ _ [Pt b7 [S k,S w] (tz 0 42),Pt b3 [.pointer (some ⟨t,0,none⟩)] (tz 0 29),Pt b4 [S k] (tz 0 9),Ro 0 G5] t τ _ #[pp0 b3,pp0 b7,pp0 b4] (ChQ T τ gs dp (some (Hd ps k w)) 0) (fun L P h0=>Zhb T L P t τ ps gs dp b7 b3 b4 _ _ _ k w hr hTd (h0 _ (.head _)) (h0 _ (.tail _ (.head _))) (h0 _ (.tail _ (.tail _ (.head _)))) (h0 _ (.tail _ (.tail _ (.tail _ (.head _))))) hk hw hkm) (fun A hA=>Zhe hT hA) (fun _ h=>Zhd h) hn0) ?_;rintro _ _ _ ⟨τ',hch,rfl⟩
 refine .pu .as (.nil (.ret ?_));exact⟨_,.tmp rfl .nil,_,_,.refl _ _,τ',Zhc hr (fun A hA=>.tail _ (.tail _ (.tail _ hA))) hch,rfl⟩
def Ng(to:Bs)(k:Bs):Bool:=decide (to=[])||Gf k to
def sel(frm to:Bs)(ps:List Pr):List Pr:=ps.filter (fun q=> !Gf q.1 frm&&Ng to q.1)
theorem UK(frm to:Bs)(a b:List Pr):sel frm to (a++b)=sel frm to a++sel frm to b:=Zq8 ..
theorem TG{frm to:Bs}{ps:List Pr}(h:∀q∈ps,Gf q.1 frm=true):sel frm to ps=[]:=Zq9.2 (fun q hq=>by rw[h q hq];simp)
theorem Zhg{frm to:Bs}{ps:List Pr}(h:∀q∈ps,Ng to q.1=false):sel frm to ps=[]:=Zq9.2 (fun q hq=>by rw[h q hq];simp)
theorem Zhh{to a b:Bs}(h:Ng to b=true)(hab:Gf b a=false):Ng to a=true:=by
 unfold Ng at h ⊢;rw[Yq]at h ⊢;rcases h with h|h
 ·exact .inl h
 ·exact .inr (FN hab h)
theorem TH{frm to:Bs}{ps:List Pr}(h:rise (ps.map (·.1))=true):sel frm to ps=(ps.drop (lb (ps.map (·.1)) frm)).filter (fun q=>Ng to q.1):=by
 have hs:=VF h frm
 conv=>lhs;rw[←Ym (lb (ps.map (·.1)) frm) ps]
 rw[UK,TG (fun q hq=>by
  obtain⟨j,hj,rfl⟩:=X6 hq;rw[Zq]at hj;have:=(hs j (by rw[Zc];omega)).1 (by omega);rw[Yw]at this;rw[Zq7];exact this),Xj]
 unfold sel;refine List.filter_congr (fun q hq=>?_);obtain⟨j,hj,rfl⟩:=X6 hq;rw[Z5]at hj;have:=(hs (lb (ps.map (·.1)) frm+j) (by rw[Zc];omega)).2 (by omega);rw[Yw]at this;rw[Vw,this];rfl
theorem Zhi{to:Bs}{d:List Pr}{m most:Nat}(h:rise (d.map (·.1))=true)(hm:m≤d.length)(hmm:m≤most)(hp:∀j (hj:j<d.length),j<m→Ng to d[j].1=true)(hx:m=d.length∨most≤m∨∃hj:m<d.length,Ng to d[m].1=false):(d.filter (fun q=>Ng to q.1)).take most=d.take m:=by
 have e1:(d.take m).filter (fun q=>Ng to q.1)=d.take m:=Jn.2 (fun q hq=>by
  obtain⟨j,hj,rfl⟩:=X6 hq;rw[Zq]at hj;rw[Zq7];exact hp j (by omega) (by omega))
 conv=>lhs;rw[←Ym m d]
 rw[Zq8,e1];have hl:(d.take m).length=m:=by rw[Zq];omega
 rcases hx with hx|hx|⟨hj,hx⟩
 ·rw[Vl (by omega),List.filter_nil,Z9,Z8 (by omega)]
 ·have e:most=m:=by omega
  rw[Zq6 (by omega),Z8 (by omega)]
 ·have e2:(d.drop m).filter (fun q=>Ng to q.1)=[]:=Zq9.2 (fun q hq=>by
   obtain⟨j,hj2,rfl⟩:=X6 hq;rw[Z5]at hj2;rw[Vw];intro hb;rcases Xi j with h0|h0
   ·subst h0;rw[show d[m+0]=d[m]from rfl,hx]at hb;cases hb
   ·have:=(Je.1 (Ml.1 h)) m (m+j) (by rw[Zc];omega) (by rw[Zc];omega) (by omega);rw[Yw,Yw]at this;rw[Zhh hb (Rl this)]at hx;cases hx)
  rw[e2,Z9,Z8 (by omega)]
def TM(T:Tg)(h:Nat):Prop:=
 ∀(L P:List Asn) (t:Nat) (τ:Tr) (p:Nat) (ps:List Pr) (gs:List Nat) (frm to:Bs) (most:Nat) (outs:List Pr) (ov:Value),
  Sub T τ.pg h p ps gs→(∀j∈gs,((j:Nat):Int)<τ.σ.n)→outs.length≤most→outs.length+ps.length≤400000→most≤1099511627776→
  Sp SET 123 [.pointer (some ⟨t,0,none⟩),.int .i64 (p:Nat),S frm,S to,.int .i64 (most:Nat),ov] (Ow 2 ov (outs.map Ge)::(trL t τ++L)) P (fun r L' P'=>∃ov',r=.tuple ⟨[ov',.int .i64 0]⟩∧L'=Ow 2 ov' ((outs++(sel frm to ps).take (most-outs.length)).map Ge)::(trL t τ++L)∧∀A∈P,A∈P')
theorem Zhj(t:Nat)(τ:Tr)(p:Nat)(ps:List Pr)(frm to:Bs)(most:Nat)(outs:List Pr)(ov:Value)(hpg:τ.pg p=some (Gj ps).enc)(hpo:He (Gj ps))(hpn:((p:Nat):Int)<τ.σ.n)(ho:outs.length≤most)(hl:outs.length+ps.length≤400000)(hm:most≤1099511627776):Sp SET 123 [.pointer (some ⟨t,0,none⟩),.int .i64 (p:Nat),S frm,S to,.int .i64 (most:Nat),ov] (Ow 2 ov (outs.map Ge)::(trL t τ++L)) P (fun r L' P'=>∃ov',r=.tuple ⟨[ov',.int .i64 0]⟩∧L'=Ow 2 ov' ((outs++(sel frm to ps).take (most-outs.length)).map Ge)::(trL t τ++L)∧∀A∈P,A∈P'):=by
 have hr:rise (ps.map (·.1))=true:=(Mh (Mj hpo.ok rfl)).2.2.2.2.1;have hle:=Rf (ps.map (·.1)) frm;rw[Zc]at hle;refine .bo (fn:=Tryz.f123) (N:=118) ?_;refine .seq (.region (.pu .as (.pu .as (.nil (.seq (.region (.pu .mv (.pu .mv ?_))))))));refine .call (xd [_] _ _ _ _ _ _ hpn hpg hpo) ?_;rintro _ _ _ ⟨v,rfl,hv,rfl,hs1⟩;have hv0:=hv;obtain⟨pv,kv,iv,rfl,hpv,hkv,hiv⟩:=hv.ex;refine .fact (Gi (.s (.p hpv))) fun⟨a1,c1,e1⟩=>?_;refine .fact (Gi (.s (.p hkv))) fun⟨a2,c2,e2⟩=>?_;refine .fact (Gi (.s (.p hiv))) fun⟨a3,c3,e3⟩=>?_;subst e1 e2 e3;refine .pu .mv (.pu .ex (.pu .ex ?_));refine .nw (cs:=[.bool false,.slice none 0 0,.slice none 0 0,.slice none 0 0]) fun b14=>?_;refine .st (vs:=[_,_,_,_]) ?_;refine .pu .as (.nil (.seq (.seq (.region (.pu .mv (.pu .cmp (.nil ?_)))))));refine .no rfl (.skip (.seq (.region (.lda (vs:=[_,_,_,_]) ?_))))
 refine .pu .mv ?_;refine .call (XR _ _ _ (Gj ps) frm hv0 hpo.sm.small hpo.ok) ?_;rintro _ L P ⟨rfl,rfl,rfl⟩;rw[show(Gj ps).find frm=lb (ps.map (·.1)) frm from rfl];refine .pu .mv (.pu .ex (.pu .ex (.pu .as (.pu .as (.nil (.seq (.seq (.region (.pu .mv (.pu .cmp (.nil ?_)))))))))));refine .no rfl (.skip ?_);refine .seq (.block (W.loop (fun a:Nat×Value=>lb (ps.map (·.1)) frm≤a.1∧a.1≤ps.length∧outs.length+(a.1-lb (ps.map (·.1)) frm)≤most∧∀j (hj:j<ps.length),lb (ps.map (·.1)) frm≤j→j<a.1→Ng to ps[j].1=true) (fun a=>ps.length-a.1) (fun a=>[(16,.int .i64 (a.1:Nat)),(5,a.2),(14,pp0 b14),(3,S to),(4,.int .i64 (most:Nat))]) (fun a=>Ow 2 a.2 ((outs++(ps.drop (lb (ps.map (·.1)) frm)).take (a.1-lb (ps.map (·.1)) frm)).map Ge)::Pt b14 [.bool true,.slice a1 ((Gj ps).pairs.map Ge).length c1,.slice a2 ((Gj ps).keys.map encS).length c2,.slice a3 ((Gj ps).kids.map encI).length c3] (tz 0 131)::(trL t τ++L)) (fun _=>_) (lb (ps.map (·.1)) frm,ov) ⟨Ze _,hle,by show outs.length+(_-_)≤most;omega,fun j hj h1 h2=>absurd h2 (by show¬j<lb (ps.map (·.1)) frm;omega)⟩ ⟨rfl,rfl,rfl,rfl,rfl,trivial⟩ (by rw[Xs,List.take_zero,Z9];exact Ent.swap) (fun⟨i,ov1⟩ ⟨hi0,hi1,hi2,hi3⟩=>?_)))
 have hi0:lb (ps.map (·.1)) frm≤i:=hi0;have hi1:i≤ps.length:=hi1;have hi2:outs.length+(i-lb (ps.map (·.1)) frm)≤most:=hi2;have hL:((Gj ps).pairs.map Ge).length=ps.length:=Zc ..;have hL2:((outs++(ps.drop (lb (ps.map (·.1)) frm)).take (i-lb (ps.map (·.1)) frm)).map Ge).length=outs.length+(i-lb (ps.map (·.1)) frm):=by
  rw[Zc,Zd,Zq,Z5];omega
 refine .seq (.seq (.region (.pu .mv (.pu .fa (.ld ?_)))));refine .lk .ln ?_;refine .pu .cmp (.pu .mv ?_);refine .and 40 4 (decide ((((outs++(ps.drop (lb (ps.map (·.1)) frm)).take (i-lb (ps.map (·.1)) frm)).map Ge).length:Int)<(most:Nat))) (fun hq=>?_) ?_
 ·refine .on (.pu .mv (.on (.lk .ln ?_)));refine .on (.pu .mv (.on (.pu .cmp ?_)));exact .fin rfl
 refine .pu .mv ?_;refine .and 46 12 ((decide (to=[])||Gf ((ps[i]?.map (·.1)).getD []) to)) (fun hq=>?_) ?_
 ·have xT:=hq;refine .on (.pu .mv (.on (.pu .seq (.on (.pu .mv ?_)))));refine .or 49 8 (Gf ((ps[i]?.map (·.1)).getD []) to) (fun hq=>?_) ?_
  ·have hlt:i<ps.length:=by
    rw[Zi,decide_eq_true_eq,decide_eq_true_eq]at xT;omega
   have hgi:((Gj ps).pairs.map Ge)[((i:Nat):Int).toNat]? =some (Ge ps[i]):=C8 hlt;rw[show((ps[i]?.map (·.1)).getD [])=ps[i].1 by rw[Zn hlt];rfl];refine .on (.pu .fa (.on (.ld ?_)));refine .on (.pu .mv ?_);refine .on (.lk (.ia (k:=2) (es:=(Gj ps).pairs.map Ge) (hn:=⟨by omega,by omega⟩)) ?_);refine .on (.pu .fa (.on (.lf (k:=2) (i:=((i:Nat):Int).toNat) (j:=0) (v:=.slice a1 ((Gj ps).pairs.map Ge).length c1) hgi ?_)));refine .on (.pu .mv (.on (.pu .slt ?_)));exact .fin rfl
  exact .fin rfl
 refine .nil ?_;refine .ite rfl (fun wG=>?_) (fun wG=>?_)
 ·refine .skip (.seq (.block (.region ?_)));have hlt:i<ps.length:=by
   rw[Zi,Zi,decide_eq_true_eq,decide_eq_true_eq]at wG;omega
  have hgi:((Gj ps).pairs.map Ge)[((i:Nat):Int).toNat]? =some [S ps[i].1,S ps[i].2]:=C8 hlt;have hbt:Ng to ps[i].1=true:=by
   have:=(Zi _ _▸wG).2;rw[Zn hlt]at this;exact this
  refine .pu .mv (.pu .fa (.ld ?_));refine .pu .mv ?_;refine .lk (.ia (k:=2) (es:=(Gj ps).pairs.map Ge) (hn:=⟨by omega,by omega⟩)) ?_;refine .la hgi ?_;refine .bl (k:=2) (es:=[[_,_]]) fun v68=>?_;refine .ap (fun v69=>?_) (hr:=.s .z) (hw:=.o .l0) (hn:=by rw[hL2];show(_+1)*32≤_;omega) (ho:=fun f hf=>by rcases Z6.1 hf with rfl;rfl)
  refine .pu .as (.nil (.region (.pu .mv (.pu .add (.pu .as (.nil ?_))))));refine⟨(i+1,_),⟨by show lb (ps.map (·.1)) frm≤i+1;omega,by show i+1≤ps.length;omega,?_,fun j hj h1 h2=>?_⟩,by show ps.length-(i+1)<ps.length-i;omega,⟨rfl,rfl,rfl,rfl,rfl,trivial⟩,?_⟩
  ·rw[Zi,Zi,decide_eq_true_eq,decide_eq_true_eq]at wG;show outs.length+(i+1-lb (ps.map (·.1)) frm)≤most;omega
  ·have h2:j<i+1:=h2;rcases Zt j i with h3|h3
   ·exact hi3 j hj h1 h3
   ·have e:j=i:=by omega
    subst e;exact hbt
  ·have e1:i+1-lb (ps.map (·.1)) frm=(i-lb (ps.map (·.1)) frm)+1:=by omega
   have hld:i-lb (ps.map (·.1)) frm<(ps.drop (lb (ps.map (·.1)) frm)).length:=by rw[Z5];omega
   have e2:(ps.drop (lb (ps.map (·.1)) frm))[i-lb (ps.map (·.1)) frm]=ps[i]:=by
    rw[Vw];congr 1;omega
   show Ent _ _ (Ow 2 _ ((outs++(ps.drop (lb (ps.map (·.1)) frm)).take (i+1-lb (ps.map (·.1)) frm)).map Ge)::_) _;rw[e1,Xb hld,e2,←Zu,Zp (l₁:=outs++_)];exact Ent.dropAt [_] _ _
 refine .exit ?_;refine .seq (.block (W.loop (fun _:Unit=>True) (fun _=>0) (fun _=>[(16,.int .i64 (i:Nat)),(5,ov1),(14,pp0 b14),(3,S to),(4,.int .i64 (most:Nat))]) (fun _=>Ow 2 ov1 ((outs++(ps.drop (lb (ps.map (·.1)) frm)).take (i-lb (ps.map (·.1)) frm)).map Ge)::Pt b14 [.bool true,.slice a1 ((Gj ps).pairs.map Ge).length c1,.slice a2 ((Gj ps).keys.map encS).length c2,.slice a3 ((Gj ps).kids.map encI).length c3] (tz 0 131)::(trL t τ++L)) (fun _=>_) () trivial ⟨rfl,rfl,rfl,rfl,rfl,trivial⟩ (.refl _ _) (fun _ _=>?_)));have hL0:((Gj ps).kids.map encI).length=0:=rfl;refine .seq (.seq (.region (.pu .mv (.pu .fa (.ld ?_)))));refine .lk .ln ?_;refine .pu .cn (.pu .mv (.off (.off (.off (.off (.pu .pk (.pu .mv (.off (.off (.off (.offU (.offU (.off (.off (.offU (.offU (.offU (.offU (.offU (.offU (.offU (.offU (.off (.pu .pk (.nil ?_)))))))))))))))))))))))))
 refine .no rfl (.exit (.seq (.region (.pu .mv (.pu .as (.pu .as (.nil (.ret ?_))))))));refine⟨_,.tmp rfl (.tmp rfl .nil),_,_,(Ent.dropAt [_] _ _),ov1,rfl,?_,hs1⟩;have hld:(ps.drop (lb (ps.map (·.1)) frm)).length=ps.length-lb (ps.map (·.1)) frm:=Z5 ..;have wU:(sel frm to ps).take (most-outs.length)=(ps.drop (lb (ps.map (·.1)) frm)).take (i-lb (ps.map (·.1)) frm):=by
  rw[TH hr];refine Zhi (by rw[List.map_drop];exact VG hr _) (by omega) (by omega) (fun j hj h1=>?_) ?_
  ·rw[Vw];exact hi3 _ (by omega) (by omega) (by omega)
  ·rw[Xz,Xz,decide_eq_false_iff_not,decide_eq_false_iff_not]at wG;rcases wG with(h|h)|h
   ·exact .inl (by omega)
   ·exact .inr (.inl (by omega))
   ·rcases Zt i ps.length with h1|h1
    ·refine .inr (.inr ⟨by omega,?_⟩);rw[Zn h1]at h;have e2:(ps.drop (lb (ps.map (·.1)) frm))[i-lb (ps.map (·.1)) frm]'(by omega)=ps[i]:=by
      rw[Vw];congr 1;omega
     rw[e2];exact h
    ·exact .inl (by omega)
 rw[wU];rfl
theorem Zhk{outs X Y:List Pr}{most:Nat}(h:outs.length≤most):(outs++X.take (most-outs.length))++Y.take (most-(outs++X.take (most-outs.length)).length)=outs++(X++Y).take (most-outs.length):=by
 rw[Zqm,Zd,Zq,Zu];congr 3;omega
theorem Zhl{ks:List Kid}(hs:Sep ks)(hne:∀k∈ks,k.ps≠[]){i:Nat}(hi:i<ks.length)(h0:0<i){to:Bs}(ht:to≠[])(hk:Gf ks[i].key to=false):∀q∈(ks.drop i).flatMap (·.ps),Ng to q.1=false:=fun q hq=>by
 obtain⟨c,hc,hq⟩:=Yb.1 hq;obtain⟨j,hj,rfl⟩:=X6 hc;rw[Z5]at hj;rw[Vw]at hq;have hp:=Je.1 hs;have xU:Gf q.1 ks[i].key=false:=by
  have h1:=(hp 0 i (by omega) hi h0).2;rcases Xi j with e|e
  ·subst e;exact h1 q hq
  ·have h2:=hp i (i+j) hi (by omega) (by omega);obtain⟨q0,hq0⟩:=List.exists_mem_of_ne_nil _ (hne ks[i] (Zz hi));exact Rm (Rm (h1 q0 hq0) (Rl (h2.1 q0 hq0))) (h2.2 q hq)
 unfold Ng;rw[decide_eq_false ht,Vb];exact Rm hk xU
theorem Zhm{ks:List Kid}{i:Nat}(hi:i<ks.length)(h0:0<i):((nk ks)[i]'(by rw[xk];exact hi)).2=ks[i].key:=by
 rcases ks with _|⟨k,r⟩
 ·cases hi
 ·rcases i with _|i
  ·cases h0
  ·simp[nk,Mt,kK]
theorem TN(A B:Asn)(T L:List Asn):(A::B::(T++L)).Perm (A::(T++B::L)):=Yn.cons A (Vo.symm)
structure CoS where
 i:Nat
 ov:Value
 P:List Asn
theorem Zhn(T:Tg)(h:Nat)(ih:TM T h)(L P:List Asn)(t:Nat)(τ:Tr)(p:Nat)(ks:List Kid)(frm to:Bs)(most:Nat)(outs:List Pr)(ov:Value)(hpg:τ.pg p=some (Gh (ks.map kK)).enc)(hpo:He (Gh (ks.map kK)))(xC:∀k∈ks,Sub T τ.pg h k.page k.ps k.gs)(wJ:Sep ks)(hgn:∀j∈p::ks.flatMap (·.gs),((j:Nat):Int)<τ.σ.n)(ho:outs.length≤most)(hl:outs.length+(ks.flatMap (·.ps)).length≤400000)(hm:most≤1099511627776):Sp SET 123 [.pointer (some ⟨t,0,none⟩),.int .i64 (p:Nat),S frm,S to,.int .i64 (most:Nat),ov] (Ow 2 ov (outs.map Ge)::(trL t τ++L)) P (fun r L' P'=>∃ov',r=.tuple ⟨[ov',.int .i64 0]⟩∧L'=Ow 2 ov' ((outs++(sel frm to (ks.flatMap (·.ps))).take (most-outs.length)).map Ge)::(trL t τ++L)∧∀A∈P,A∈P'):=by
 obtain⟨Q0,hQ0⟩:∃Q0:List Asn,Q0=P:=⟨P,rfl⟩;have hpn:=hgn p (Zm ..);obtain⟨n1,n2,n3,n4,n5⟩:=D4 hpo;rw[Zc]at n2;have hne:∀k∈ks,k.ps≠[]:=fun k hk=>(xC k hk).ne;obtain⟨i0,xV,xW,xX⟩:∃i0,i0<ks.length∧(Gh (ks.map kK)).find frm=i0∧∀q∈(ks.take i0).flatMap (·.ps),Gf q.1 frm=true:=by
  obtain⟨A,o,C,rfl,hAl,hA,hC⟩:=RX hpo frm;refine⟨A.length,by simp,hAl.symm,?_⟩;rw[Kt];exact(RU wJ (hne o (by simp)) hA hC).1
 have hkl:((Gh (ks.map kK)).kids.map encI).length=ks.length:=by
  show(((ks.map kK).map (·.1)).map encI).length=_;simp
 have hks:((Gh (ks.map kK)).keys.map encS).length=ks.length-1:=by
  show(((ks.map kK).tail.map (·.2)).map encS).length=_;simp
 refine .bo (fn:=Tryz.f123) (N:=118) ?_;refine .seq (.region (.pu .as (.pu .as (.nil (.seq (.region (.pu .mv (.pu .mv ?_))))))));refine .call (xd [_] _ _ _ _ _ _ hpn hpg hpo) ?_;rintro _ _ _ ⟨v,rfl,hv,rfl,hs1⟩;have hv0:=hv;obtain⟨pv,kv,iv,rfl,hpv,hkv,hiv⟩:=hv.ex;refine .fact (Gi (.s (.p hpv))) fun⟨a1,c1,e1⟩=>?_;refine .fact (Gi (.s (.p hkv))) fun⟨a2,c2,e2⟩=>?_;refine .fact (Gi (.s (.p hiv))) fun⟨a3,c3,e3⟩=>?_;subst e1 e2 e3;refine .pu .mv (.pu .ex (.pu .ex ?_));refine .nw (cs:=[.bool false,.slice none 0 0,.slice none 0 0,.slice none 0 0]) fun b14=>?_;refine .st (vs:=[_,_,_,_]) ?_;refine .pu .as (.nil (.seq (.seq (.region (.pu .mv (.pu .cmp (.nil ?_)))))));refine .no rfl (.skip (.seq (.region (.lda (vs:=[_,_,_,_]) ?_))));refine .pu .mv ?_;refine .call (XR _ _ _ (Gh (ks.map kK)) frm hv0 hpo.sm.small hpo.ok) ?_;rintro _ L P ⟨rfl,rfl,rfl⟩
 rw[xW];obtain⟨Q1,hQ1⟩:∃Q1:List Asn,Q1=P:=⟨P,rfl⟩;have xY:=hQ1▸hkv;have xZ:=hQ1▸hiv;refine .pu .mv (.pu .ex (.pu .ex (.pu .as (.pu .as (.nil (.seq (.seq (.region (.pu .mv (.pu .cmp (.nil ?_)))))))))));refine .no rfl (.skip ?_);refine .seq (.block (W.loop (fun _:Unit=>True) (fun _=>0) (fun _=>[(16,.int .i64 (i0:Nat)),(5,ov),(14,pp0 b14),(3,S to),(4,.int .i64 (most:Nat)),(2,S frm),(0,.pointer (some ⟨t,0,none⟩))]) (fun _=>Pt b14 [.bool false,.slice a1 ((Gh (ks.map kK)).pairs.map Ge).length c1,.slice a2 ((Gh (ks.map kK)).keys.map encS).length c2,.slice a3 ((Gh (ks.map kK)).kids.map encI).length c3] (tz 0 131)::Ow 2 ov (outs.map Ge)::(trL t τ++L)) (fun _=>_) () trivial ⟨rfl,rfl,rfl,rfl,rfl,rfl,rfl,trivial⟩ (.refl _ _) (fun _ _=>?_)));have hL0:((Gh (ks.map kK)).pairs.map Ge).length=0:=rfl;refine .seq (.seq (.region (.pu .mv (.pu .fa (.ld ?_)))))
 refine .lk .ln ?_;refine .pu .cn (.pu .mv (.off (.off (.off (.off (.pu .pk (.pu .mv (.off (.off (.off (.offU (.offU (.offU (.offU (.offU (.offU (.offU (.offU (.off (.pu .pk (.nil ?_)))))))))))))))))))));refine .no rfl (.exit ?_);refine .seq (.block (W.loop (fun a:CoS=>i0≤a.i∧a.i≤ks.length∧∀A∈Q1,A∈a.P) (fun a=>ks.length-a.i) (fun a=>[(16,.int .i64 (a.i:Nat)),(5,a.ov),(14,pp0 b14),(3,S to),(4,.int .i64 (most:Nat)),(2,S frm),(0,.pointer (some ⟨t,0,none⟩))]) (fun a=>Ow 2 a.ov ((outs++(sel frm to ((ks.take a.i).flatMap (·.ps))).take (most-outs.length)).map Ge)::Pt b14 [.bool false,.slice a1 ((Gh (ks.map kK)).pairs.map Ge).length c1,.slice a2 ((Gh (ks.map kK)).keys.map encS).length c2,.slice a3 ((Gh (ks.map kK)).kids.map encI).length c3] (tz 0 131)::(trL t τ++L)) (fun a=>a.P) ⟨i0,ov,_⟩ ⟨Ze _,Zqs xV,fun A hA=>hQ1▸hA⟩ ⟨rfl,rfl,rfl,rfl,rfl,rfl,rfl,trivial⟩ (by rw[TG xX,Zra,Z9];exact Ent.swap) (fun a ha=>?_)))
 obtain⟨hi1,hi2,hs2⟩:=ha;generalize a.i=i at hi1 hi2 ⊢;generalize a.ov=ov1 at ⊢;generalize a.P=P2 at hs2 ⊢;have yQ:=hs2 _ xY;have yR:=hs2 _ xZ;have yS:((outs++(sel frm to ((ks.take i).flatMap (·.ps))).take (most-outs.length)).map Ge).length=(outs++(sel frm to ((ks.take i).flatMap (·.ps))).take (most-outs.length)).length:=Zc ..;have hlo:(outs++(sel frm to ((ks.take i).flatMap (·.ps))).take (most-outs.length)).length≤most:=by rw[Zd,Zq];omega
 refine .seq (.seq (.region (.pu .mv (.pu .fa (.ld ?_)))));refine .lk .ln ?_;refine .pu .cmp (.pu .mv ?_);refine .and 75 4 (decide ((((outs++(sel frm to ((ks.take i).flatMap (·.ps))).take (most-outs.length)).map Ge).length:Int)<(most:Nat))) (fun hq=>?_) ?_
 ·refine .on (.pu .mv (.on (.lk .ln ?_)));refine .on (.pu .mv (.on (.pu .cmp ?_)));exact .fin rfl
 refine .pu .mv ?_;refine .and 81 16 ((decide ((i:Int)=0)||decide (to=[])||Gf ((ks[i]?.map (·.key)).getD []) to)) (fun hq=>?_) ?_
 ·have yA:=hq;refine .on (.pu .mv (.on (.pu .cmp (.on (.pu .mv ?_)))));refine .or 84 2 (decide (to=[])) (fun hq=>?_) ?_
  ·refine .on (.pu .mv (.on (.pu .seq ?_)));exact .fin rfl
  refine .on (.pu .mv ?_);refine .or 88 8 (Gf ((ks[i]?.map (·.key)).getD []) to) (fun hq=>?_) ?_
  ·have hlt:i<ks.length:=by
    rw[Zi,decide_eq_true_eq,decide_eq_true_eq]at yA;omega
   have xD:0<i:=by
    rw[Vu,decide_eq_false_iff_not]at hq;omega
   have hgk:((Gh (ks.map kK)).keys.map encS)[((i:Int)-1).toNat]? =some [S ks[i].key]:=by
    obtain⟨g1,g2⟩:=(UX ks).key (k:=i) (by rw[xk];exact hlt) xD;rw[show((i:Int)-1).toNat=i-1 by omega,Zy,Zn g1,g2 g1];exact congrArg (fun x=>some (encS x)) (Zhm hlt xD)
   rw[show((ks[i]?.map (·.key)).getD [])=ks[i].key by rw[Zn hlt];rfl];refine .on (.pu .fa (.on (.ld ?_)));refine .on (.pu .mv (.on (.pu .sub ?_)));refine .on (.lk (.ia (k:=1) (es:=(Gh (ks.map kK)).keys.map encS) (hn:=⟨by omega,by omega⟩)) ?_);refine .on (.le hgk ?_);refine .on (.pu .mv (.on (.pu .slt ?_)));exact .fin rfl
  exact .fin rfl
 refine .nil ?_;refine .ite rfl (fun wK=>?_) (fun wK=>?_)
 ·refine .skip (.seq (.block (.seq (.region (.pu .mv ?_)))));have hlt:i<ks.length:=by
   rw[Zi,Zi,decide_eq_true_eq,decide_eq_true_eq]at wK;omega
  have hgi:((Gh (ks.map kK)).kids.map encI)[((i:Nat):Int).toNat]? =some [.int .i64 (ks[i].page:Nat)]:=by
   show((((ks.map kK).map (·.1)).map encI))[((i:Nat):Int).toNat]? =_;rw[Yp,Zy,Zy,Zy,Zn hlt];rfl
  have hci:=xC _ (Zz hlt);have yB:∀j∈ks[i].gs,((j:Nat):Int)<τ.σ.n:=fun j hj=>hgn j (Zs _ (Yb.2 ⟨_,Zz hlt,hj⟩));have htk:((ks.take i).flatMap (·.ps)).length+ks[i].ps.length≤(ks.flatMap (·.ps)).length:=by
   conv=>rhs;rw[←Ym i ks,X7 hlt,Yd,Zx]
   simp only[Zd];omega
  have hsl:(sel frm to ((ks.take i).flatMap (·.ps))).length≤((ks.take i).flatMap (·.ps)).length:=Zrf ..;have yC:(outs++(sel frm to ((ks.take i).flatMap (·.ps))).take (most-outs.length)).length+ks[i].ps.length≤400000:=by rw[Zd,Zq];omega
  refine .pu .fa (.ld ?_);refine .pu .mv ?_;refine .lk (.ia (k:=1) (es:=(Gh (ks.map kK)).kids.map encI) (hn:=⟨by omega,by omega⟩)) ?_;refine .le hgi ?_;refine .pu .mv (.pu .mv (.pu .mv (.pu .mv ?_)));refine .call (Sp.ent (.perm (TN _ _ (trL t τ) _)) (ih (Pt b14 [.bool false,.slice a1 ((Gh (ks.map kK)).pairs.map Ge).length c1,.slice a2 ((Gh (ks.map kK)).keys.map encS).length c2,.slice a3 ((Gh (ks.map kK)).kids.map encI).length c3] (tz 0 131)::L) _ t τ ks[i].page ks[i].ps ks[i].gs frm to most (outs++(sel frm to ((ks.take i).flatMap (·.ps))).take (most-outs.length)) ov1 hci yB hlo yC hm)) ?_;rintro _ _ _ ⟨ov2,rfl,rfl,hs3⟩;refine .pu .mv (.pu .ex (.pu .ex (.pu .as (.pu .as (.nil (.seq (.region (.pu .mv (.pu .cmp (.nil ?_))))))))));refine .no rfl (.skip (.region (.pu .mv (.pu .add (.pu .as (.nil ?_))))));refine⟨⟨i+1,ov2,_⟩,⟨by show i0≤i+1;omega,hlt,fun A hA=>hs3 _ (hs2 _ hA)⟩,by show ks.length-(i+1)<ks.length-i;omega,⟨rfl,rfl,rfl,rfl,rfl,rfl,rfl,trivial⟩,?_⟩
  rw[Zhk ho,←UK];show Ent _ _ (Ow 2 ov2 ((outs++(sel frm to ((ks.take (i+1)).flatMap (·.ps))).take (most-outs.length)).map Ge)::_) _;rw[Xb hlt,Yd,Zx,List.flatMap_nil,Z9];exact .perm (TN _ _ (trL t τ) _).symm
 refine .exit (.seq (.region (.pu .mv (.pu .as (.pu .as (.nil (.ret ?_)))))));refine⟨_,.tmp rfl (.tmp rfl .nil),_,_,(Ent.dropAt [_] _ _),ov1,rfl,?_,fun A hA=>hs2 _ (hQ1▸hs1 _ hA)⟩;have wU:(sel frm to (ks.flatMap (·.ps))).take (most-outs.length)=(sel frm to ((ks.take i).flatMap (·.ps))).take (most-outs.length):=by
  conv=>lhs;rw[←Ym i ks]
  rw[Yd,UK];have yD:ks.length≤i∨most≤(outs++(sel frm to ((ks.take i).flatMap (·.ps))).take (most-outs.length)).length∨∃hlt:i<ks.length,0<i∧to≠[]∧Gf ks[i].key to=false:=by
   rw[Xz,Xz,decide_eq_false_iff_not,decide_eq_false_iff_not]at wK;rcases wK with(h1|h1)|h1
   ·exact .inl (by omega)
   ·exact .inr (.inl (by omega))
   ·rcases Zt i ks.length with h2|h2
    ·rw[Zn h2,Vu,Vu,decide_eq_false_iff_not,decide_eq_false_iff_not]at h1;exact .inr (.inr ⟨h2,by omega,h1.1.2,h1.2⟩)
    ·exact .inl h2
  rcases yD with h1|h1|⟨h1,h2,h3,h4⟩
  ·rw[Vl h1];show(_++sel frm to []).take _=_;rw[show sel frm to []=[]from rfl,Z9]
  ·rw[Zd,Zq]at h1;rw[Zq6 (by omega)]
  ·rw[Zhg (Zhl wJ hne h1 h2 h3 h4),Z9]
 rw[wU];rfl
theorem TB(T:Tg):∀h,TM T h
 |0=>fun L P t τ p ps gs frm to most outs ov hs hg ho hl hm=>by
  cases hs with
  |leaf hpg hpo=>exact Zhj L P t τ p ps frm to most outs ov hpg hpo (hg p (Zm ..)) ho hl hm
 |h+1=>fun L P t τ p ps gs frm to most outs ov hs hg ho hl hm=>by
  cases hs with
  | @inner _ _ ks hpg hpo hk wJ htl hkm=>exact Zhn T h (TB T h) L P t τ p ks frm to most outs ov hpg hpo hk wJ hg ho hl hm
theorem TD(T:Tg)(L P:List Asn)(t:Nat)(τ:Tr)(ps:List Pr)(gs:List Nat)(dp:Nat)(frm to:Bs)(most:Nat)(hr:Rep T τ ps gs dp)(hm:most≤1099511627776):Sp SET 65 [.pointer (some ⟨t,0,none⟩),S frm,S to,.int .i64 (most:Nat)] (trL t τ++L) P (fun r L' P'=>∃ov,r=.tuple ⟨[ov,.int .i64 0]⟩∧L'=Ow 2 ov (((sel frm to ps).take most).map Ge)::(trL t τ++L)∧∀A∈P,A∈P'):=by
 have xN:=hr.few;refine .bo (fn:=Tryz.f65) (N:=33) ?_;refine .seq (.region (.pu .as (.pu .as (.nil (.seq (.block (.seq (.region (.pu .mv (.pu .peq (.pu .mv (.on (.pu .mv (.on (.pu .cn (.pu .pk (.pu .as (.nil ?_))))))))))))))))));refine .no rfl ?_;by_cases hr0:τ.root=0
 ·refine .seq (.region (.pu .mv (.pu .nc (.pu .fa (.ld ?_)))));refine .pu .cy (.pu .as (.nil ?_));refine .yes rfl (.seq (.region (.pu .as (.pu .as (.nil (.ret ?_))))));refine⟨_,.tmp rfl (.tmp rfl .nil),_,_,(Ent.none (k:=2)),_,rfl,?_,fun _ h=>h⟩;rcases hr.bel.cases with⟨_,e,_⟩|⟨_,e,_⟩
  ·subst e;rw[show(sel frm to []).take most=[]from Zra];rfl
  ·exact absurd hr0 e
 ·refine .seq (.region (.pu .mv (.pu .nc (.pu .fa (.ld ?_)))));refine .pu .cn (.pu .as (.nil ?_));refine .no rfl (.skip (.seq (.region (.pu .mv (.pu .mv ?_)))));obtain⟨h,hrt,hdp,hsb⟩:∃h,τ.root≠0∧dp=h+1∧Sub T τ.pg h τ.root ps gs:=by
   rcases hr.bel.cases with⟨e,_⟩|h
   ·exact absurd e hr0
   ·exact h
  have hgn:∀j∈gs,((j:Nat):Int)<τ.σ.n:=fun j hj=>by
   have h1:=hr.ok.uo j ((hr.us j).2 (.inr hj));have h2:=hr.nn;omega
  refine .ent (Ent.none (k:=2)) ?_;refine .pu .nc (.pu .fa (.ld ?_));refine .pu .mv (.pu .mv (.pu .mv ?_));refine .call (TB T h _ _ t τ τ.root ps gs frm to most [] _ hsb hgn (Zj _) (by show 0+ps.length≤400000;omega) hm) ?_;rintro _ _ _ ⟨ov,rfl,rfl,hs1⟩;refine .pu .ex (.pu .ex (.pu .as (.pu .as (.nil (.ret ?_)))));refine⟨_,.tmp rfl (.tmp rfl .nil),_,_,.refl _ _,ov,rfl,?_,hs1⟩;rfl
theorem TF{k:Bs}{ps:List Pr}(h:rise (ps.map (·.1))=true):(sel k [] ps).take 1=(ps.drop (lb (ps.map (·.1)) k)).take 1:=by
 have e:(ps.drop (lb (ps.map (·.1)) k)).filter (fun q=>Ng [] q.1)=ps.drop (lb (ps.map (·.1)) k):=Jn.2 (fun q _=>rfl);rw[TH h,e]
theorem Rep.rise{T:Tg}{τ:Tr}{ps:List Pr}{gs:List Nat}{dp:Nat}(h:Rep T τ ps gs dp):Go.Cis.rise (ps.map (·.1))=true:=by
 rcases h.bel.cases with⟨_,e,_⟩|⟨_,_,_,hs⟩
 ·subst e;rfl
 ·exact hs.rise
theorem Zho(T:Tg)(L P:List Asn)(t:Nat)(τ:Tr)(ps:List Pr)(gs:List Nat)(dp:Nat)(k:Bs)(hr:Rep T τ ps gs dp)(hd:ps.drop (lb (ps.map (·.1)) k)=[]):Sp SET 158 [.pointer (some ⟨t,0,none⟩),S k] (trL t τ++L) P (fun r L' P'=>r=.tuple ⟨[S [],.int .i64 7]⟩∧L'=trL t τ++L∧∀A∈P,A∈P'):=by
 refine .bo (fn:=Tryz.f158) (N:=33) ?_;refine .seq (.region (.pu .as (.pu .as (.nil (.seq (.seq (.region (.pu .mv (.pu .peq (.nil ?_))))))))));refine .no rfl (.skip (.seq (.region (.pu .mv (.pu .mv ?_)))));refine .call (TD T _ _ t τ ps gs dp k [] 1 hr (by decide)) ?_;rintro _ _ _ ⟨ov,rfl,rfl,hs1⟩;rw[TF hr.rise,hd,Zra];have hl0:(Y3 Ge ([]:List Pr)).length=0:=rfl;refine .pu .mv (.pu .ex (.pu .ex (.pu .as (.pu .as (.nil (.seq (.seq (.region (.pu .mv (.pu .cmp (.nil ?_)))))))))));refine .no rfl (.skip (.seq (.seq (.region (.pu .mv (.lk .ln ?_))))));refine .pu .cy (.pu .mv (.off (.off (.off (.off (.off (.off (.pu .pk (.nil ?_)))))))));refine .yes rfl (.seq (.region (.pu .as (.pu .as (.nil (.ret ?_))))));exact⟨_,.tmp rfl (.tmp rfl .nil),_,_,.drop,rfl,rfl,hs1⟩
theorem TT(T:Tg)(L P:List Asn)(t:Nat)(τ:Tr)(ps:List Pr)(gs:List Nat)(dp:Nat)(k:Bs)(q:Pr)(qs:List Pr)(hr:Rep T τ ps gs dp)(hd:ps.drop (lb (ps.map (·.1)) k)=q::qs):Sp SET 158 [.pointer (some ⟨t,0,none⟩),S k] (trL t τ++L) P (fun r L' P'=>(q.1=k∧r=.tuple ⟨[S q.2,.int .i64 0]⟩∨q.1≠k∧r=.tuple ⟨[S [],.int .i64 7]⟩)∧L'=trL t τ++L∧∀A∈P,A∈P'):=by
 refine .bo (fn:=Tryz.f158) (N:=33) ?_;refine .seq (.region (.pu .as (.pu .as (.nil (.seq (.seq (.region (.pu .mv (.pu .peq (.nil ?_))))))))));refine .no rfl (.skip (.seq (.region (.pu .mv (.pu .mv ?_)))));refine .call (TD T _ _ t τ ps gs dp k [] 1 hr (by decide)) ?_;rintro _ _ _ ⟨ov,rfl,rfl,hs1⟩;rw[TF hr.rise,hd,show(q::qs).take 1=[q]from rfl];have hl1:(Y3 Ge [q]).length=1:=rfl;have hg0:(([q].map Ge))[(0:Int).toNat]? =some [S q.1,S q.2]:=rfl;refine .fact (Hr .l0) fun⟨a1,c1,e1⟩=>?_;subst e1;refine .pu .mv (.pu .ex (.pu .ex (.pu .as (.pu .as (.nil (.seq (.seq (.region (.pu .mv (.pu .cmp (.nil ?_)))))))))));refine .no rfl (.skip ?_);by_cases hk:q.1=k
 ·refine .seq (.seq (.region (.pu .mv (.lk .ln ?_))));refine .pu .cn (.pu .mv (.on (.pu .mv ?_)));refine .on (.lk (.ia (k:=2) (es:=[q].map Ge) (hn:=⟨by omega,by omega⟩)) ?_);refine .on (.pu .fa (.on (.lf (k:=2) (i:=0) (j:=0) (v:=.slice a1 ([q].map Ge).length c1) hg0 ?_)));refine .on (.pu .mv ?_);refine .on (.pu (.sne (q:=false) (hq:=by rw[hk];simp)) ?_);refine .pu .pk (.nil ?_);refine .no rfl (.skip (.seq (.region (.pu .mv ?_))));refine .lk (.ia (k:=2) (es:=[q].map Ge) (hn:=⟨by omega,by omega⟩)) ?_;refine .pu .fa (.lf (k:=2) (i:=0) (j:=1) (v:=.slice a1 ([q].map Ge).length c1) hg0 ?_);refine .pu .as (.pu .as (.nil (.ret ?_)));exact⟨_,.tmp rfl (.tmp rfl .nil),_,_,.drop,.inl ⟨hk,rfl⟩,rfl,hs1⟩
 ·refine .seq (.seq (.region (.pu .mv (.lk .ln ?_))));refine .pu .cn (.pu .mv (.on (.pu .mv ?_)));refine .on (.lk (.ia (k:=2) (es:=[q].map Ge) (hn:=⟨by omega,by omega⟩)) ?_);refine .on (.pu .fa (.on (.lf (k:=2) (i:=0) (j:=0) (v:=.slice a1 ([q].map Ge).length c1) hg0 ?_)));refine .on (.pu .mv ?_);refine .on (.pu (.sne (q:=true) (hq:=by simp[hk])) ?_);refine .pu .pk (.nil ?_);refine .yes rfl (.seq (.region (.pu .as (.pu .as (.nil (.ret ?_))))));exact⟨_,.tmp rfl (.tmp rfl .nil),_,_,.drop,.inr ⟨hk,rfl⟩,rfl,hs1⟩
def Nu(ps:List Pr)(k:Bs):Option Bs:=match ps.drop (lb (ps.map (·.1)) k)with
 |[]=>none
 |q::_=>if q.1=k then some q.2 else none
theorem TQ(T:Tg)(L P:List Asn)(t:Nat)(τ:Tr)(ps:List Pr)(gs:List Nat)(dp:Nat)(k:Bs)(hr:Rep T τ ps gs dp):Sp SET 158 [.pointer (some ⟨t,0,none⟩),S k] (trL t τ++L) P (fun r L' P'=>r=(match Nu ps k with|some v=>.tuple ⟨[S v,.int .i64 0]⟩|none=>.tuple ⟨[S [],.int .i64 7]⟩)∧L'=trL t τ++L∧∀A∈P,A∈P'):=by
 rcases hd:ps.drop (lb (ps.map (·.1)) k)with _|⟨q,qs⟩
 ·have e:Nu ps k=none:=by unfold Nu;rw[hd]
  rw[e];exact Zho T L P t τ ps gs dp k hr hd
 ·by_cases hk:q.1=k
  ·have e:Nu ps k=some q.2:=by unfold Nu;rw[hd];exact if_pos hk
   rw[e];refine(TT T L P t τ ps gs dp k q qs hr hd).post (fun v L' P' ⟨h1,h2,h3⟩=>⟨_,_,.refl _ _,?_,h2,h3⟩);rcases h1 with⟨_,h4⟩|⟨h1,_⟩
   ·exact h4
   ·exact absurd hk h1
  ·have e:Nu ps k=none:=by unfold Nu;rw[hd];exact if_neg hk
   rw[e];refine(TT T L P t τ ps gs dp k q qs hr hd).post (fun v L' P' ⟨h1,h2,h3⟩=>⟨_,_,.refl _ _,?_,h2,h3⟩);rcases h1 with⟨h1,_⟩|⟨_,h4⟩
   ·exact absurd h1 hk
   ·exact h4
def Gk(n i:Nat):Bs:=(List.range i).reverse.map (fun j=>UInt8.ofNat (n/2^(8*j)))
theorem TW(n i:Nat):Gk n (i+1)=UInt8.ofNat (n/2^(8*i))::Gk n i:=by
 unfold Gk;rw[List.range_succ,List.reverse_append];rfl
theorem Hm(n i:Nat):(Gk n i).length=i:=by unfold Gk;simp
def M7(n m i:Nat):Bs:=Z7 (m-i) 0++Gk n i
theorem UG(n m i:Nat)(h:i≤m):(M7 n m i).length=m:=by unfold M7;rw[Zd,Xf,Hm];omega
theorem Zhp{n m i:Nat}(h:i<m):(M7 n m i).set (m-1-i) (UInt8.ofNat (n/2^(8*i)))=M7 n m (i+1):=by
 unfold M7;rw[Zre _ _ (by rw[Xf];omega),TW];have e:m-i=(m-(i+1))+1:=by omega
 have e2:m-1-i=m-(i+1):=by omega
 rw[e2,e,Zrg,Jk _ _ (by rw[Xf];exact Ze _),Xf,Xs,Zu];rfl
theorem Rq(bs:Bs)(i:Nat)(b:UInt8):(byL bs).set i [Value.int .u8 b.toNat]=byL (bs.set i b):=by unfold byL;rw[List.map_set]
theorem T5(n m:Nat)(hm:m≤4)(hn:n≤1099511627776):Sp SET 172 [.int .i64 (n:Nat),.int .i64 (m:Nat)] L P (fun r L' P'=>r=S (Gk n m)∧L'=L∧P'=P):=by
 have hl0:(byL (M7 n m 0)).length=m:=by unfold byL;rw[Zc,UG _ _ _ (Zj _)]
 have e0:Z7 ((m:Nat):Int).toNat [Value.int .u8 0]=byL (M7 n m 0):=by
  unfold byL M7 Gk;rw[Yp];simp
 refine .bo (fn:=Tryz.f172) (N:=27) ?_;refine .seq (.region (.pu .as (.nil (.seq (.region (.pu .mv ?_))))));refine .mk (k:=1) (z:=[.int .u8 0]) (fun v8=>?_) (hn:=⟨by omega,by show(m:Int)*1≤_;omega,by omega⟩);rw[e0];refine .pu .as (.nil (.seq (.seq (.region (.pu .mv (.lk .ln ?_))))));refine .pu .mv (.nil ?_);refine .block (W.loop (fun i:Nat=>i≤m) (fun i=>m-i) (fun i=>[(11,.int .i64 (i:Nat)),(10,.int .i64 ((byL (M7 n m 0)).length:Nat)),(5,v8),(0,.int .i64 (n:Nat)),(1,.int .i64 (m:Nat))]) (fun i=>Ow 1 v8 (byL (M7 n m i))::L) (fun _=>P) 0 (Zj _) ⟨rfl,rfl,rfl,rfl,rfl,trivial⟩ (.refl _ _) (fun i hi=>?_));have hli:(byL (M7 n m i)).length=m:=by unfold byL;rw[Zc,UG _ _ _ hi]
 by_cases hlt:i<m
 ·refine .seq (.region (.pu .cy (.nil (.seq (.yes rfl (.skip (.seq (.block (.seq (.region (.pu .mv (.pu .as (.nil (.region (.pu .mv (.pu .mv (.pu .sub (.pu .mv (.pu .sub (.pu .mv (.pu .mv (.pu .mul ?_))))))))))))))))))))));refine .pu (.shrN (n:=8*i) (hn:=by show 8*i≤64;omega)) ?_;refine .pu (.ciw (wrap_u8 (n>>>(8*i)))) ?_;rw[Xe,bq];have hrl:=UG n m i hi;have hgx:(byL (M7 n m i))[((m:Int)-1-i).toNat]? =some [.int .u8 ((M7 n m i)[m-1-i]'(by omega)).toNat]:=by
   rw[show((m:Int)-1-i).toNat=m-1-i by omega];unfold byL;rw[Zy,Zn (by omega)];rfl
  refine .lk (.ia (k:=1) (es:=byL (M7 n m i)) (hm:=.o .l0) (hn:=⟨by omega,by omega⟩)) ?_;refine .se (k:=1) (vs:=[_]) (i:=((m:Int)-1-i).toNat) (e:=[.int .u8 ((M7 n m i)[m-1-i]'(by omega)).toNat]) hgx ?_;rw[show((m:Int)-1-i).toNat=m-1-i by omega,Rq,Zhp hlt];refine .nil (.region (.pu .add (.pu .mv (.nil ?_))));refine⟨i+1,hlt,by show m-(i+1)<m-i;omega,⟨rfl,rfl,rfl,rfl,rfl,trivial⟩,.refl _ _⟩
 ·refine .seq (.region (.pu .cn (.nil (.seq (.no rfl (.exit (.seq (.region ?_))))))));have e:i=m:=by omega
  subst e;refine .pu .mv ?_;refine .cs (bs:=Gk n i) (.o (by
   have e2:M7 n i i=Gk n i:=by unfold M7;rw[Xs];rfl
   rw[e2];exact .l0)) ?_
  refine .pu .as (.nil (.ret ?_));exact⟨_,.tmp rfl .nil,_,_,.drop,rfl,rfl,rfl⟩
def H3(s:Bs):Nat:=s.foldl (fun n b=>n*256+b.toNat) 0
theorem UH{s:Bs}{i:Nat}(h:i<s.length):H3 (s.take (i+1))=H3 (s.take i)*256+s[i].toNat:=by
 unfold H3;rw[Xb h,Zrb];rfl
theorem UM(s:Bs):∀i,i≤s.length→H3 (s.take i)<256^i
 |0,_=>by simp[H3]
 |i+1,h=>by
  have ih:=UM s i (by omega);have hb:=s[i].toNat_lt;rw[UH h,Kx];omega
theorem TP(a b:Nat)(h:b<256):Nat.lor (a*256) b=a*256+b:=by
 have:=Nat.two_pow_add_eq_or_of_lt (i:=8) (b:=b) (by omega) a;rw[Uc a 256];exact this.symm
theorem T6(s:Bs)(hl:s.length≤5):Sp SET 220 [S s] L P (fun r L' P'=>r=.int .i64 (H3 s:Nat)∧L'=L∧P'=P):=by
 refine .bo (fn:=Tryz.f220) (N:=18) ?_;refine .seq (.region (.pu .as (.nil (.seq (.region (.pu .as (.nil (.seq (.seq (.region (.pu .mv (.pu .ls (.pu .mv (.nil ?_))))))))))))));refine .block (W.loop (fun i:Nat=>i≤s.length) (fun i=>s.length-i) (fun i=>[(7,.int .i64 (i:Nat)),(6,.int .i64 (s.length:Nat)),(3,.int .i64 (H3 (s.take i):Nat)),(0,S s)]) (fun _=>L) (fun _=>P) 0 (Zj _) ⟨rfl,rfl,rfl,rfl,trivial⟩ (.refl _ _) (fun i hi=>?_));by_cases hlt:i<s.length
 ·refine .seq (.region (.pu .cy (.nil (.seq (.yes rfl (.skip (.seq (.block (.seq (.region ?_))))))))));have hgs:s[((i:Nat):Int).toNat]? =some s[i]:=by simp[hlt]
  have hb:=s[i].toNat_lt;have wR:=UM s i hi;have yT:=UM s (i+1) hlt;have hp:256^i≤256^4:=Va (by decide) (by omega);have hp2:256^(i+1)≤256^5:=Va (by decide) (by omega);have hq:(256:Nat)^4=4294967296:=by decide
  have hq2:(256:Nat)^5=1099511627776:=by decide
  refine .pu .mv (.pu .as (.nil (.region (.pu .mv (.pu (.i_shl) ?_)))));rw[show((H3 (s.take i):Nat):Int)*((2^8:Nat):Int)=((H3 (s.take i)*256:Nat):Int)from rfl];refine .pu .mv (.pu .mv (.pu (.ix hgs) (.pu .ci ?_)));refine .pu (.i_or (a:=H3 (s.take i)*256) (b:=s[i].toNat) (hr:=by rw[TP _ _ hb,←UH hlt];simp only[InR];omega)) ?_;rw[TP _ _ hb,←UH hlt];refine .pu .as (.nil (.region (.pu .add (.pu .mv (.nil ?_)))));refine⟨i+1,hlt,by show s.length-(i+1)<s.length-i;omega,⟨rfl,rfl,rfl,rfl,trivial⟩,.refl _ _⟩
 ·refine .seq (.region (.pu .cn (.nil (.seq (.no rfl (.exit (.seq (.region ?_))))))));have e:s.take i=s:=Z8 (by omega);rw[e];refine .pu .mv (.pu .as (.nil (.ret ?_)));exact⟨_,.tmp rfl .nil,_,_,.refl _ _,rfl,rfl,rfl⟩
def G7(ino idx:Nat):Bs:=120::(Gk ino 4++Gk idx 1)
theorem UN(ino idx:Nat)(h1:ino≤1099511627776)(h2:idx≤1099511627776):Sp SET 109 [.int .i64 (ino:Nat),.int .i64 (idx:Nat)] L P (fun r L' P'=>r=S (G7 ino idx)∧L'=L∧P'=P):=by
 refine .bo (fn:=Tryz.f109) (N:=10) ?_;refine .seq (.region (.pu .as (.nil (.seq (.region (.pu .mv ?_))))));refine .call (T5 _ _ ino 4 (by omega) h1) ?_;rintro _ L P ⟨rfl,rfl,rfl⟩;refine .pu (.cat (hr:=by simp only[Zd,Zf,Zo,Hm];omega)) ?_;refine .pu .mv ?_;refine .call (T5 _ _ idx 1 (by omega) h2) ?_;rintro _ L P ⟨rfl,rfl,rfl⟩;refine .pu (.cat (hr:=by simp only[Zd,Zf,Zo,Hm];omega)) ?_;refine .pu .as (.nil (.ret ?_));exact⟨_,.tmp rfl .nil,_,_,.refl _ _,rfl,rfl,rfl⟩
structure Mc where
 ino:Nat
 idx:Nat
 st:Nat
 ep:Nat
 num:Nat
 sum:Nat
 blk:Nat
def hC(h:Mc):List Value:=[.int .i64 (h.ino:Nat),.int .i64 (h.idx:Nat),.int .i64 (h.st:Nat),.int .i64 (h.ep:Nat),.int .i64 (h.num:Nat),.int .i64 (h.sum:Nat),.int .i64 (h.blk:Nat)]
def Mb(h:Mc):Bs:=Gk h.st 1++Gk h.blk 2++Gk h.ep 4++Gk h.num 4++Gk h.sum 4
structure Mc.Fit(h:Mc):Prop where
 ino:h.ino<4294967296
 idx:h.idx<256
 st:1≤h.st∧h.st≤3
 ep:h.ep<4294967296
 num:h.num<4294967296
 sum:h.sum<4294967296
 blk:h.blk<65536
theorem Zhq(h:Mc)(hf:h.Fit):Sp SET 164 [.agg ⟨hC h⟩] L P (fun r L' P'=>r=S (Mb h)∧L'=L∧P'=P):=by
 obtain⟨f1,f2,f3,f4,f5,f6,f7⟩:=hf;unfold hC;refine .bo (fn:=Tryz.f164) (N:=25) ?_;refine .seq (.region ?_);refine .bx (cs:=[_,_,_,_,_,_,_]) fun b1=>?_;refine .pu .as (.nil ?_);refine .seq (.drawn fun _=>?_);refine .pu .fa (.pu .fa (.lo 0 0 .ld .mk ?_));refine .call (T5 _ _ h.st 1 (by omega) (by omega)) ?_;rintro _ L P ⟨rfl,rfl,rfl⟩;refine .pu .fa (.lo 0 1 .ld .mk ?_);refine .call (T5 _ _ h.blk 2 (by omega) (by omega)) ?_;rintro _ L P ⟨rfl,rfl,rfl⟩;refine .pu (.cat (hr:=by simp only[Zd,Zf,Zo,Hm];omega)) ?_;refine .pu .fa (.pu .fa (.lo 0 2 .ld .mk ?_));refine .call (T5 _ _ h.ep 4 (by omega) (by omega)) ?_;rintro _ L P ⟨rfl,rfl,rfl⟩;refine .pu (.cat (hr:=by simp only[Zd,Zf,Zo,Hm];omega)) ?_;refine .pu .fa (.pu .fa (.lo 0 3 .ld .mk ?_))
 refine .call (T5 _ _ h.num 4 (by omega) (by omega)) ?_;rintro _ L P ⟨rfl,rfl,rfl⟩;refine .pu (.cat (hr:=by simp only[Zd,Zf,Zo,Hm];omega)) ?_;refine .pu .fa (.pu .fa (.lo 0 4 .ld .mk ?_));refine .call (T5 _ _ h.sum 4 (by omega) (by omega)) ?_;rintro _ L P ⟨rfl,rfl,rfl⟩;refine .pu (.cat (hr:=by simp only[Zd,Zf,Zo,Hm];omega)) ?_;refine .pu .as (.nil (.cons (.yes .mk (.yes .mk (.yes .mk (.yes .mk (.yes .mk (.skip .nil)))))) (.cons (.yes .mk (.yes .mk (.yes .mk (.yes .mk (.skip (.skip .nil)))))) (.cons (.yes .mk (.yes .mk (.yes .mk (.skip (.skip (.skip .nil)))))) (.cons (.yes .mk (.yes .mk (.skip (.skip (.skip (.skip .nil)))))) (.cons (.yes .mk (.skip (.skip (.skip (.skip (.skip .nil)))))) .nil))))) (.ret ?_));exact⟨_,.tmp rfl .nil,_,_,.drop,rfl,rfl,rfl⟩
theorem j7(b:UInt8)(s:Bs)(k:Nat):s.foldl (fun n b=>n*256+b.toNat) k=k*256^s.length+H3 s:=by
 unfold H3
 induction s generalizing k with
 |nil=>simp
 |cons c s ih=>
  rw[Jj,ih,Jj,ih (0*256+c.toNat),Zf,Kx];rw[Yv,Xh,Zw,Nat.mul_assoc,Uc 256 (256^s.length),Nat.add_assoc]
theorem IZ(n:Nat):∀i,H3 (Gk n i)=n%256^i
 |0=>by simp[H3,Gk,Nat.mod_one]
 |i+1=>by
  rw[TW];show(Gk n i).foldl _ (0*256+(UInt8.ofNat (n/2^(8*i))).toNat)=_;rw[j7 0,Hm,IZ n i,Xh,Zw,Kx];have e:(2:Nat)^(8*i)=256^i:=by rw[Nat.pow_mul]
  have e2:(UInt8.ofNat (n/2^(8*i))).toNat=n/256^i%256:=by rw[e];simp[Jc]
  rw[e2,Nat.mod_mul];rw[Uc (256^i),Nat.add_comm]
theorem D5{n i:Nat}(h:n<256^i):H3 (Gk n i)=n:=by rw[IZ,Nat.mod_eq_of_lt h]
theorem bz(ino idx:Nat):(G7 ino idx).length=6:=by unfold G7;simp[Hm]
theorem UB(h:Mc):(Mb h).length=15:=by unfold Mb;simp[Hm]
theorem Rr{α:Type}(A B C:List α){p q:Nat}(hp:A.length=p)(hq:p+B.length=q):((A++(B++C)).drop p).take (q-p)=B:=by
 subst hp;rw[Jy,show q-A.length=B.length by omega,Kt]
theorem Zhr(h:Mc)(hf:h.Fit):Sp SET 159 [.agg ⟨[S (G7 h.ino h.idx),S (Mb h)]⟩] L P (fun r L' P'=>r=.tuple ⟨[.agg ⟨hC h⟩,.bool true]⟩∧L'=L∧P'=P):=by
 obtain⟨f1,f2,f3,f4,f5,f6,f7⟩:=hf;have c1:decide ((h.st:Int)≥1)=true:=decide_eq_true (by omega);have c2:decide ((h.st:Int)≤3)=true:=decide_eq_true (by omega);have hkl:=bz h.ino h.idx;have hvl:=UB h;have hkk:(Gk h.ino 4++Gk h.idx 1).length=5:=by simp[Hm]
 have q0:((G7 h.ino h.idx).drop 1).take ((G7 h.ino h.idx).length-1)=Gk h.ino 4++Gk h.idx 1:=by
  rw[hkl];have:=Rr [120] (Gk h.ino 4++Gk h.idx 1) ([]:Bs) (p:=1) (q:=6) rfl (by rw[hkk]);rw[Z9]at this;exact this
 have q1:((Gk h.ino 4++Gk h.idx 1).drop 0).take (4-0)=Gk h.ino 4:=Rr [] (Gk h.ino 4) (Gk h.idx 1) rfl (by rw[Hm]);have q2:((Gk h.ino 4++Gk h.idx 1).drop 4).take ((Gk h.ino 4++Gk h.idx 1).length-4)=Gk h.idx 1:=by
  rw[hkk];have:=Rr (Gk h.ino 4) (Gk h.idx 1) ([]:Bs) (p:=4) (q:=5) (Hm _ _) (by rw[Hm]);rw[Z9]at this;exact this
 have q3:((Mb h).drop 0).take (1-0)=Gk h.st 1:=by
  unfold Mb;simp only[Zu];exact Rr [] (Gk h.st 1) _ rfl (by rw[Hm])
 have q4:((Mb h).drop 3).take (7-3)=Gk h.ep 4:=by
  unfold Mb;rw[Zu,Zu];exact Rr (Gk h.st 1++Gk h.blk 2) (Gk h.ep 4) _ (by rw[Zd,Hm,Hm]) (by rw[Hm])
 have q5:((Mb h).drop 7).take (11-7)=Gk h.num 4:=by
  unfold Mb;rw[Zu];exact Rr (Gk h.st 1++Gk h.blk 2++Gk h.ep 4) (Gk h.num 4) _ (by simp only[Zd,Hm]) (by rw[Hm])
 have q6:((Mb h).drop 11).take ((Mb h).length-11)=Gk h.sum 4:=by
  rw[hvl];have:=Rr (Gk h.st 1++Gk h.blk 2++Gk h.ep 4++Gk h.num 4) (Gk h.sum 4) ([]:Bs) (p:=11) (q:=15) (by simp only[Zd,Hm]) (by rw[Hm]);rw[Z9]at this;exact this
 have q7:((Mb h).drop 1).take (3-1)=Gk h.blk 2:=by
  unfold Mb;simp only[Zu];exact Rr (Gk h.st 1) (Gk h.blk 2) _ (Hm _ _) (by rw[Hm])
 generalize Mb h=V at hvl q3 q4 q5 q6 q7 ⊢;generalize G7 h.ino h.idx=K at hkl q0 ⊢;generalize Gk h.ino 4++Gk h.idx 1=K2 at hkk q0 q1 q2;refine .bo (fn:=Tryz.f159) (N:=56) ?_;refine .seq (.region ?_);refine .bx (cs:=[_,_]) fun b1=>?_;refine .nw (cs:=[.int .i64 0,.int .i64 0,.int .i64 0,.int .i64 0,.int .i64 0,.int .i64 0,.int .i64 0]) fun b2=>?_;refine .pu .as (.nil (.seq (.seq (.region (.pu .fa (.ld ?_))))));refine .pu .ls (.pu .cn (.pu .mv (.on (.pu .fa (.on (.ld ?_))))));refine .on (.pu .ls (.on (.pu .cn (.pu .pk (.nil ?_)))));refine .no rfl (.skip ?_);refine .seq (.quiet (by kernel_rfl) ?_);refine .pu .fa (.ld ?_);refine .pu (.sls (a:=K) (p:=1) (q:=(K).length) (bdn (n:=1) (hn:=by omega)) rfl) ?_;rw[q0];refine .pu .fa (.ld ?_);refine .pu .as (.pu .as (.nil ?_));refine .seq (.drawn fun _=>?_);refine .pu .mv ?_;refine .pu (.sls (a:=K2) (p:=0) (q:=4) rfl (bdn (n:=4) (hn:=by omega))) ?_
 rw[q1];refine .call (T6 _ _ (Gk h.ino 4) (by rw[Hm];omega)) ?_;rintro _ L P ⟨rfl,rfl,rfl⟩;rw[D5 (by omega)];refine .pu .mv ?_;refine .pu (.sls (a:=K2) (p:=4) (q:=K2.length) (bdn (n:=4) (hn:=by omega)) rfl) ?_;rw[q2];refine .call (T6 _ _ (Gk h.idx 1) (by rw[Hm];omega)) ?_;rintro _ L P ⟨rfl,rfl,rfl⟩;rw[D5 (by omega)];refine .pu .mv ?_;refine .pu (.sls (a:=V) (p:=0) (q:=1) rfl (bdn (n:=1) (hn:=by omega))) ?_;rw[q3];refine .call (T6 _ _ (Gk h.st 1) (by rw[Hm];omega)) ?_;rintro _ L P ⟨rfl,rfl,rfl⟩;rw[D5 (by omega)];refine .pu .mv ?_;refine .pu (.sls (a:=V) (p:=3) (q:=7) (bdn (n:=3) (hn:=by omega)) (bdn (n:=7) (hn:=by omega))) ?_;rw[q4];refine .call (T6 _ _ (Gk h.ep 4) (by rw[Hm];omega)) ?_;rintro _ L P ⟨rfl,rfl,rfl⟩;rw[D5 (by omega)];refine .pu .mv ?_;refine .pu (.sls (a:=V) (p:=7) (q:=11) (bdn (n:=7) (hn:=by omega)) (bdn (n:=11) (hn:=by omega))) ?_
 rw[q5];refine .call (T6 _ _ (Gk h.num 4) (by rw[Hm];omega)) ?_;rintro _ L P ⟨rfl,rfl,rfl⟩;rw[D5 (by omega)];refine .pu .mv ?_;refine .pu (.sls (a:=V) (p:=11) (q:=(V).length) (bdn (n:=11) (hn:=by omega)) rfl) ?_;rw[q6];refine .call (T6 _ _ (Gk h.sum 4) (by rw[Hm];omega)) ?_;rintro _ L P ⟨rfl,rfl,rfl⟩;rw[D5 (by omega)];refine .pu (.bd (vs:=[_,_,_,_,_,_])) (.pu .mv ?_);refine .pu (.sls (a:=V) (p:=1) (q:=3) (bdn (n:=1) (hn:=by omega)) (bdn (n:=3) (hn:=by omega))) ?_;rw[q7];refine .call (T6 _ _ (Gk h.blk 2) (by rw[Hm];omega)) ?_;rintro _ L P ⟨rfl,rfl,rfl⟩;rw[D5 (by omega)];refine .pu (.bd (vs:=[_,_,_,_,_,_,_])) ?_;refine .nw (cs:=[.int .i64 0,.int .i64 0,.int .i64 0,.int .i64 0,.int .i64 0,.int .i64 0,.int .i64 0]) (hlt:=by show∀x∈([]:Hj),_;simp) fun b6=>?_
 refine .st (vs:=[_,_,_,_,_,_,_]) ?_;refine .nil .nil ?_;refine .seq (.drawn fun _=>?_);refine .lo 0 0 .ld .mk ?_;refine .pu .fa (.pu .fa (.lo 0 0 .ld .mk ?_));refine .pu .cy (.pu .mv (.pu .fa (.pu .fa (.lo 0 1 .ld .mk ?_))));refine .pu .cy (.pu .pk (.st (vs:=[_,_,_,_,_,_,_]) ?_));refine .pu .as (.nil (.cons (.yes .mk (.yes .mk .nil)) (.cons (.yes .mk (.skip .nil)) (.cons (.yes .mk (.skip .nil)) .nil))) (.ret ?_));exact⟨_,.cell rfl .l1 rfl (.tmp rfl .nil),_,_,.d3,rfl,rfl,rfl⟩
theorem Zhs(T:Tg)(L1 L P:List Asn)(t:Nat)(τ:Tr)(ps:List Pr)(gs:List Nat)(dp:Nat)(k w:Bs)(hr:Rep T τ ps gs dp)(ho:Nu ps k=some w):Sp SET 158 [.pointer (some ⟨t,0,none⟩),S k] (L1++(trL t τ++L)) P (fun r L' P'=>r=.tuple ⟨[S w,.int .i64 0]⟩∧L'=L1++(trL t τ++L)∧∀A∈P,A∈P'):=
 Sp.ent (Ent.pull _ _ _) ((TQ T (L1++L) P t τ ps gs dp k hr).post (fun v L' P' ⟨h1,h2,h3⟩=>⟨_,_,by rw[h2];exact Ent.push _ _ _,by rw[ho]at h1;exact h1,rfl,h3⟩))
theorem Zht(T:Tg)(L1 L P:List Asn)(t:Nat)(τ:Tr)(ps:List Pr)(gs:List Nat)(dp:Nat)(k:Bs)(hr:Rep T τ ps gs dp)(ho:Nu ps k=none):Sp SET 158 [.pointer (some ⟨t,0,none⟩),S k] (L1++(trL t τ++L)) P (fun r L' P'=>r=.tuple ⟨[S [],.int .i64 7]⟩∧L'=L1++(trL t τ++L)∧∀A∈P,A∈P'):=
 Sp.ent (Ent.pull _ _ _) ((TQ T (L1++L) P t τ ps gs dp k hr).post (fun v L' P' ⟨h1,h2,h3⟩=>⟨_,_,by rw[h2];exact Ent.push _ _ _,by rw[ho]at h1;exact h1,rfl,h3⟩))
def ckC(t d first ab:Nat)(turn:Int):List Value:=[.pointer (some ⟨t,0,none⟩),.pointer (some ⟨d,0,none⟩),.int .i64 (first:Nat),.pointer (some ⟨ab,0,none⟩),.int .i64 turn]
def Zhu :List Value:=[.int .i64 0,.int .i64 0,.int .i64 0,.int .i64 0,.int .i64 0,.int .i64 0,.int .i64 0]
theorem Cj(T:Tg)(L P:List Asn)(c t d first ab:Nat)(turn:Int)(τ:Tr)(ps:List Pr)(gs:List Nat)(dp:Nat)(h:Mc)(hr:Rep T τ ps gs dp)(hf:h.Fit)(h1:1≤h.ino)(h2:h.idx<32)(ho:Nu ps (G7 h.ino h.idx)=some (Mb h)):Sp SET 90 [.pointer (some ⟨c,0,none⟩),.int .i64 (h.ino:Nat),.int .i64 (h.idx:Nat)] (Pt c (ckC t d first ab turn) (tz 0 153)::(trL t τ++L)) P (fun r L' P'=>r=.tuple ⟨[.agg ⟨hC h⟩,.int .i64 0]⟩∧L'=Pt c (ckC t d first ab turn) (tz 0 153)::(trL t τ++L)∧∀A∈P,A∈P'):=by
 have f1:=hf.ino;refine .bo (fn:=Tryz.f90) (N:=57) ?_;refine .seq (.region ?_);refine .nw (cs:=[.int .i64 0,.int .i64 0,.int .i64 0,.int .i64 0,.int .i64 0,.int .i64 0,.int .i64 0]) fun b6=>?_;refine .pu .as (.nil (.seq (.seq (.region (.pu .mv (.pu .peq (.nil ?_)))))));refine .no rfl (.skip (.seq (.seq (.region (.pu .mv (.pu .cn (.pu .mv (.on (.pu .mv (.on (.pu .cn (.pu .pk (.pu .mv (.on (.pu .mv (.on (.pu .cn (.pu .pk (.pu .mv (.on (.pu .mv (.on (.pu .cn (.pu .pk (.nil ?_)))))))))))))))))))))))));refine .no rfl (.skip (.seq (.region (.pu .mv (.pu .mv ?_)))));refine .call (UN _ _ h.ino h.idx (by omega) (by omega)) ?_;rintro _ L P ⟨rfl,rfl,rfl⟩;refine .pu .as (.nil (.seq (.region (.pu .mv (.pu .nc (.pu .fa (.ld ?_)))))));refine .pu .mv ?_;refine .call (Zhs T [_,_] _ _ _ _ ps gs dp _ _ hr ho) ?_;rintro _ _ _ ⟨rfl,rfl,hs1⟩;refine .pu .mv (.pu .ex (.pu .ex (.pu .as (.pu .as (.nil (.seq (.seq (.region (.pu .mv (.pu .cmp (.nil ?_)))))))))))
 refine .no rfl (.skip (.seq (.region (.pu .mv (.pu .mv (.pu (.bd (vs:=[_,_])) ?_))))));refine .call (Zhr _ _ h hf) ?_;rintro _ L P ⟨rfl,rfl,rfl⟩;refine .pu .mv (.pu .ex (.pu .ex ?_));refine .nw (cs:=[.int .i64 0,.int .i64 0,.int .i64 0,.int .i64 0,.int .i64 0,.int .i64 0,.int .i64 0]) fun b11=>?_;refine .st (vs:=[_,_,_,_,_,_,_]) ?_;refine .pu .as (.nil (.seq (.seq (.region (.pu .mv (.pu .nt (.nil ?_)))))));refine .no rfl (.skip (.seq (.region (.lda (vs:=[_,_,_,_,_,_,_]) ?_))));refine .st (vs:=[_,_,_,_,_,_,_]) ?_;refine .pu .as (.nil (.ret ?_));exact⟨_,.cell rfl .l1 rfl (.tmp rfl .nil),_,_,.d2,rfl,rfl,hs1⟩
theorem IY(T:Tg)(L P:List Asn)(c t d first ab:Nat)(turn:Int)(τ:Tr)(ps:List Pr)(gs:List Nat)(dp:Nat)(ino idx:Nat)(hr:Rep T τ ps gs dp)(h0:1≤ino)(h1:ino<4294967296)(h2:idx<32)(ho:Nu ps (G7 ino idx)=none):Sp SET 90 [.pointer (some ⟨c,0,none⟩),.int .i64 (ino:Nat),.int .i64 (idx:Nat)] (Pt c (ckC t d first ab turn) (tz 0 153)::(trL t τ++L)) P (fun r L' P'=>r=.tuple ⟨[.agg ⟨Zhu⟩,.int .i64 7]⟩∧L'=Pt c (ckC t d first ab turn) (tz 0 153)::(trL t τ++L)∧∀A∈P,A∈P'):=by
 refine .bo (fn:=Tryz.f90) (N:=57) ?_;refine .seq (.region ?_);refine .nw (cs:=[.int .i64 0,.int .i64 0,.int .i64 0,.int .i64 0,.int .i64 0,.int .i64 0,.int .i64 0]) fun b6=>?_;refine .pu .as (.nil (.seq (.seq (.region (.pu .mv (.pu .peq (.nil ?_)))))));refine .no rfl (.skip (.seq (.seq (.region (.pu .mv (.pu .cn (.pu .mv (.on (.pu .mv (.on (.pu .cn (.pu .pk (.pu .mv (.on (.pu .mv (.on (.pu .cn (.pu .pk (.pu .mv (.on (.pu .mv (.on (.pu .cn (.pu .pk (.nil ?_)))))))))))))))))))))))));refine .no rfl (.skip (.seq (.region (.pu .mv (.pu .mv ?_)))));refine .call (UN _ _ ino idx (by omega) (by omega)) ?_;rintro _ L P ⟨rfl,rfl,rfl⟩;refine .pu .as (.nil (.seq (.region (.pu .mv (.pu .nc (.pu .fa (.ld ?_)))))));refine .pu .mv ?_;refine .call (Zht T [_,_] _ _ _ _ ps gs dp _ hr ho) ?_;rintro _ _ _ ⟨rfl,rfl,hs1⟩;refine .pu .mv (.pu .ex (.pu .ex (.pu .as (.pu .as (.nil (.seq (.seq (.region (.pu .mv (.pu .cmp (.nil ?_)))))))))))
 refine .yes rfl (.seq (.region (.pu (.bd (vs:=[_,_,_,_,_,_,_])) (.pu .mv (.st (vs:=[_,_,_,_,_,_,_]) ?_)))));refine .pu .as (.nil (.ret ?_));exact⟨_,.cell rfl .l0 rfl (.tmp rfl .nil),_,_,.drop,rfl,rfl,hs1⟩
def Zhv(h:Mc):Pr:=(G7 h.ino h.idx,Mb h)
theorem Zhw(ino idx:Nat):isKey (G7 ino idx)=true:=by
 unfold isKey;rw[decide_eq_true (show G7 ino idx≠[]from fun e=>by cases e),decide_eq_true (show(G7 ino idx).length≤32 by rw[bz];omega)];rfl
theorem cd(T:Tg)(L P:List Asn)(c t d first ab:Nat)(turn:Int)(τ:Tr)(ps:List Pr)(gs:List Nat)(dp:Nat)(h:Mc)(hr:Rep T τ ps gs dp)(hTd:T.t=true→dp≤2)(hT:Ro 0 G5∈P)(hf:h.Fit)(hm:6≤T.m):Sp SET 95 [.pointer (some ⟨c,0,none⟩),.agg ⟨hC h⟩] (Pt c (ckC t d first ab turn) (tz 0 153)::(trL t τ++L)) P (fun r L' P'=>∃τ',xq T τ gs dp (some (Hd ps (G7 h.ino h.idx) (Mb h))) 0 P r τ' P'∧L'=Pt c (ckC t d first ab turn) (tz 0 153)::(trL t τ'++L)):=by
 have f1:=hf.ino;have f2:=hf.idx;refine .bo (fn:=Tryz.f95) (N:=18) ?_;refine .seq (.region ?_);refine .bx (cs:=[_,_,_,_,_,_,_]) fun b3=>?_;refine .pu .as (.nil ?_);refine .seq (.drawn fun _=>?_);refine .pu .mv (.pu .nc (.pu .fa (.lo 0 2 .ld .mk ?_)));refine .pu .fa (.pu .fa (.lo 0 0 .ld .mk ?_));refine .pu .fa (.pu .fa (.lo 0 0 .ld .mk ?_));refine .call (UN _ _ h.ino h.idx (by omega) (by omega)) ?_;rintro _ L P ⟨rfl,rfl,rfl⟩;refine .lo 0 1 .ld .mk ?_;refine .call (Zhq _ _ h hf) ?_;rintro _ L P ⟨rfl,rfl,rfl⟩;refine .call (Sp.tr [_,_] _ (fun L=>Zhf T L _ t τ ps gs dp (G7 h.ino h.idx) (Mb h) hr hTd hT (Zhw _ _) (by rw[UB];omega) (by rw[bz];exact hm))) ?_;rintro _ _ _ ⟨τ',hpo,rfl⟩;refine .pu .as (.nil (.cons (.yes .mk (.yes .mk (.skip (.skip .nil)))) (.cons (.yes .mk (.skip (.skip (.skip .nil)))) (.cons (.yes .mk (.skip (.skip (.skip .nil)))) (.cons (.yes .mk (.yes .mk (.yes .mk (.skip .nil)))) .nil)))) (.ret ?_))
 exact⟨_,.tmp rfl .nil,_,_,.drop,τ',hpo,rfl⟩
def eC(h:Mc):List Value:=[.int .i64 (h.ino:Nat),.int .i64 (h.idx:Nat),.int .i64 (h.st:Nat),.int .i64 (h.ep:Nat),.int .i64 (h.num:Nat),.int .i64 (h.sum:Nat)]
theorem Zhx(L1 L P:List Asn)(t:Nat)(τ:Tr):Sp SET 138 [.pointer (some ⟨t,0,none⟩)] (L1++(trL t τ++L)) P (fun r L' P'=>∃m x,(r=.pointer (some ⟨m,0,none⟩)∧P'=P)∧L'=tmL m t τ x++(L1++(trL t τ++L))):=
 Sp.ent (Ent.pull _ _ _) ((RF (L1++L) P t τ).post (fun v L' P' ⟨m,x,h1,h2⟩=>⟨_,_,by rw[h2];exact .perm ((Ua L1 (trL t τ) L).symm.append_left _),m,x,h1,rfl⟩))
def cmL(m c t:Nat)(τ:Tr)(β:AS0)(turn:Int)(y:Nat×(Nat×Nat)×Nat):List Asn:=Pt m [.pointer (some ⟨c,0,none⟩),.pointer (some ⟨y.1,0,none⟩),.pointer (some ⟨y.2.2,0,none⟩),.int .i64 turn] (tz 0 311)::Alc y.2.2 β::tmL y.1 t τ y.2.1
theorem Zhy(c t d first ab:Nat)(turn:Int)(τ:Tr)(β:AS0):Sp SET 160 [.pointer (some ⟨c,0,none⟩)] (Pt c (ckC t d first ab turn) (tz 0 153)::(trL t τ++(Alc ab β::L))) P (fun r L' P'=>∃m y,(r=.pointer (some ⟨m,0,none⟩)∧P'=P)∧L'=cmL m c t τ β turn y++(Pt c (ckC t d first ab turn) (tz 0 153)::(trL t τ++(Alc ab β::L)))):=by
 refine .bo (fn:=Tryz.f160) (N:=21) ?_;refine .seq (.region (.pu .as (.nil (.seq (.seq (.region (.pu .mv (.pu .peq (.nil ?_)))))))));refine .no rfl (.skip ?_);refine .seq (.drawn fun _=>?_);refine .pu .mv (.pu .mv (.pu .nc (.pu .fa (.lo 0 0 .ld .mk ?_))));refine .call (Zhx [_] _ _ _ _) ?_;rintro _ _ _ ⟨m,x,⟨rfl,rfl⟩,rfl⟩;refine .pu .mv (.pu .nc (.pu .fa (.lo 0 1 .ld .mk ?_)));refine .call (Sp.atN [_,_,_,_,_,_,_] _ (fun L=>xm L _ _ _)) ?_;rintro _ _ _ ⟨a',⟨rfl,rfl⟩,rfl⟩;refine .pu .mv (.pu .nc (.pu .fa (.lo 0 2 .ld .mk ?_)));refine .pu (.bd (vs:=[_,_,_,_])) ?_;refine .bx (cs:=[_,_,_,_]) (hlt:=by show∀x∈([]:Hj),_;simp) fun b21=>?_;refine .pu .as (.nil (.cons (.yes .mk (.yes .mk (.yes .mk .nil))) (.cons (.yes .mk (.yes .mk (.skip .nil))) (.cons (.yes .mk (.skip (.skip .nil))) .nil))) (.ret ?_));exact⟨_,.tmp rfl .nil,_,_,.refl _ _,b21,(m,x,a'),⟨rfl,rfl⟩,rfl⟩
theorem Zhz(C A M A':Asn)(T K L:List Asn):(C::(T++(A::(M::A'::(K++L))))).Perm (T++(K++(C::A::M::A'::L))):=
 (Vo (l₁:=T) (a:=C)).symm.trans (Yn.append_left T (Ua [C,A,M,A'] K L))
theorem Zh0(B C M A:Asn)(T K L:List Asn):(B::(T++(K++(C::M::A::L)))).Perm (C::(T++(B::(M::A::(K++L))))):=
 (Vo (l₁:=T) (a:=B)).symm.trans ((Yn.append_left T (((Ua K [C,M,A] L).cons B).trans (Yn.swap C B _))).trans (Vo (l₁:=T) (a:=C)))
theorem Zh1(c t d first ab2 m:Nat)(turn:Int)(τ:Tr)(β β2:AS0)(y:Nat×(Nat×Nat)×Nat)(a2:Nat)(w2:List (Int×Bs))(α2:AS0)(root2:Nat)(count2 depth2:Int):Sp SET 161 [.pointer (some ⟨c,0,none⟩),.pointer (some ⟨m,0,none⟩)] (Pt c (ckC t d first ab2 turn) (tz 0 153)::(trL t ⟨τ.s,a2,{τ.σ with w:=w2},α2,root2,count2,depth2⟩++(Alc ab2 β2::(cmL m c t τ β turn y++L)))) P (fun r L' P'=>∃a' b',(r=.int .i64 0∧P'=P)∧L'=Pt c (ckC t d first b' turn) (tz 0 153)::(trL t {τ with a:=a'}++(Alc b' β::(cmL m c t τ β turn y++L)))):=by
 refine .bo (fn:=Tryz.f161) (N:=50) ?_;refine .seq (.region (.pu .as (.nil ?_)));refine .seq (.seq (.quiet (by kernel_rfl) ?_));refine .pu .mv (.pu .peq (.pu .mv (.on (.pu .mv (.on (.pu .peq (.pu .pk (.pu .mv (.on (.pu .mv (.on (.pu .nc (.on (.pu .fa (.on (.ld ?_))))))))))))))));refine .on (.pu .mv (.on (.pu .pdiff (.pu .pk (.pu .mv (.on (.pu .mv (.on (.pu .nc (.on (.pu .fa (.on (.ld ?_)))))))))))));refine .on (.pu .mv (.on (.pu .nc (.on (.pu .fa (.on (.ld ?_)))))));refine .on (.pu (.cmp (q:=false) (hq:=by show some (decide (turn≠turn))=some false;simp)) ?_);refine .pu .pk (.nil ?_);refine .no rfl (.skip ?_);refine .seq (.seq (.drawn fun _=>?_));refine .pu .mv (.pu .nc (.pu .fa (.lo 0 0 .ld .mk ?_)));refine .pu .mv (.pu .nc (.pu .fa (.lo 0 0 .ld .mk ?_)));refine .call (Sp.ent (Ent.perm (Zhz _ _ _ _ (trL t ⟨τ.s,a2,{τ.σ with w:=w2},α2,root2,count2,depth2⟩) (tmL y.1 t τ y.2.1) _)) (RQ _ _ t y.1 τ y.2.1 a2 w2 α2 root2 count2 depth2)) ?_;rintro _ _ _ ⟨a',⟨rfl,rfl⟩,rfl⟩
 refine .pu .as (.nil (.cons (.yes .mk (.skip .nil)) (.cons (.yes .mk (.skip .nil)) .nil)) (.seq (.region (.pu .mv (.pu .cmp (.nil ?_))))));refine .no rfl (.skip (.seq (.region (.pu .mv (.pu .mv (.pu .nc (.pu .fa (.ld ?_))))))));refine .call (Sp.atN [_,_,_,_,_,_,_,_,_] _ (fun L=>xm L _ _ _)) ?_;rintro _ _ _ ⟨b',⟨rfl,rfl⟩,rfl⟩;refine .pu .nc (.pu .fa (.st (vs:=[_]) ?_));refine .nil (.seq (.region (.pu .as (.nil (.ret ?_)))));exact⟨_,.tmp rfl .nil,_,_,(Ent.trans (Ent.dropAt [_,_,_,_,_,_,_,_] _ _) (.perm (Zh0 _ _ _ _ (trL t {τ with a:=a'}) (tmL y.1 t τ y.2.1) _))),a',b',⟨rfl,rfl⟩,rfl⟩
structure Dv where
 n:Nat
 ws:List (Nat×Bs)
structure DvX where
 sv:Value
 wv:Value
 ss:List (List Value)
 vs:List Value
 left:Int
structure DvX.Ok(δ:Dv)(x:DvX):Prop where
 vl:x.vs.length=δ.ws.length
 sl:x.ss.length=δ.n
 sh:∀s∈x.ss,∃a k c t,s=[.slice a k c,.bool t]
 wl:∀w∈δ.ws,w.2.length≤1000000∧w.2≠[]
 wn:δ.ws.length≤1000000
def wE(y:Value×(Nat×Bs)):List Value:=[.int .i64 (y.2.1:Nat),y.1]
def dvR(δ:Dv)(x:DvX):List Asn:=(x.vs.zip δ.ws).map fun y=>OwF 5 1 y.1 (byL y.2.2)
def dvL(d:Nat)(δ:Dv)(x:DvX):List Asn:=Pt d [x.sv,x.wv,.bool false,.bool false,.int .i64 x.left] (tz 0 191)::Ow 2 x.sv x.ss::Ow 2 x.wv ((x.vs.zip δ.ws).map wE)::dvR δ x
def Dev(d:Nat)(δ:Dv):Asn:=Bx (DvX.Ok δ) (dvL d δ)
theorem Gn.app{k:Nat}{v:Value}{es:List (List Value)}{L P:List Asn}(h:Gn k v es L P):∀L1:List Asn,Gn k v es (L1++L) P
 |[]=>h
 |_::L1=>(Gn.app h L1).bel
theorem IX(bs:Bs):∀f∈byL bs,Go.Ax.ones f=true:=KU bs
theorem Zh2(d:Nat)(δ:Dv)(x:DvX)(hx:x.Ok δ)(k:Nat)(hk:k<δ.n):Sp SET 165 [.pointer (some ⟨d,0,none⟩),.int .i64 (k:Nat)] (dvL d δ x++L) P (fun r L' P'=>r=.bool true∧L'=dvL d δ x++L∧P'=P):=by
 have h1:=hx.sl;refine .bo (fn:=Tryz.f165) (N:=19) ?_;refine .seq (.region (.pu .as (.nil (.seq (.region (.pu .mv (.pu .pne (.pu .mv (.on (.pu .mv (.on (.pu .cy (.pu .pk (.pu .mv (.on (.pu .mv (.on (.pu .mv (.on (.pu .nc (.on (.pu .fa (.on (.ld ?_))))))))))))))))))))))));refine .on (.lk .ln ?_);refine .on (.pu .cy (.pu .pk (.pu .as (.nil (.ret ?_)))));exact⟨_,.tmp rfl .nil,_,_,.refl _ _,rfl,rfl,rfl⟩
theorem Zh3(d:Nat)(δ:Dv)(x:DvX):Sp SET 174 [.pointer (some ⟨d,0,none⟩)] (dvL d δ x++L) P (fun r L' P'=>r=.bool true∧L'=dvL d δ x++L∧P'=P):=by
 refine .bo (fn:=Tryz.f174) (N:=31) ?_;refine .seq (.region (.pu .as (.nil (.seq (.seq (.region (.pu .mv (.pu .nc (.pu .fa (.ld ?_))))))))));refine .pu .mv (.off (.off (.off (.off (.off (.pu .pk (.nil ?_)))))));refine .no rfl (.skip (.seq (.seq (.region (.pu .mv (.pu .nc (.pu .fa (.ld ?_))))))));refine .nil ?_;refine .no rfl (.skip (.seq (.seq (.region (.pu .mv (.pu .nc (.pu .fa (.ld ?_))))))));refine .nil ?_;refine .no rfl (.skip (.seq (.region (.pu .as (.nil (.ret ?_))))));exact⟨_,.tmp rfl .nil,_,_,.refl _ _,rfl,rfl,rfl⟩
theorem Zh4(a:Addr)(c:Nat)(es:List (List Value))(hv:Gn 1 (.slice (some a) es.length c) es L P)(hl:es.length≤1000000)(ho:∀f∈es,ones f=true):Sp SET 167 [.slice (some a) es.length c] L P (fun r L' P'=>L'=OwF 5 1 r es::L∧P'=P):=by
 refine .bo (fn:=Tryz.f167) (N:=7) ?_;refine .seq (.region (.pu .as (.nil (.seq (.seq (.region (.pu .mv (.pu .peq (.nil ?_)))))))));refine .no rfl (.skip (.seq (.region ?_)));refine .bl0 (e:=5) (k:=1) fun b5=>?_;refine .pu .mv ?_;refine .apf (.sl hv.bel) (fun v7=>?_) (hn:=by rw[Zo];show(0+es.length)*1≤_;omega) (ho:=ho);refine .pu .as (.nil (.ret ?_));exact⟨_,.tmp rfl .nil,_,_,.refl _ _,rfl,rfl⟩
theorem Zh5(v:Value)(es:List (List Value))(hv:Gn 1 v es L P)(hne:es≠[])(hl:es.length≤1000000)(ho:∀f∈es,ones f=true):Sp SET 167 [v] L P (fun r L' P'=>L'=OwF 5 1 r es::L∧P'=P):=
 Sp.fact (wg hv) (fun h=>by
  rcases h with⟨rfl,c,rfl⟩|⟨a,c,rfl⟩
  ·exact absurd rfl hne
  ·exact Zh4 L P a c es hv hl ho)
def Dv.push(δ:Dv)(k:Nat)(bs:Bs):Dv:= {δ with ws:=δ.ws++[(k,bs)]}
theorem Zh6{L P:List Asn}{d:Nat}{δ:Dv}{x:DvX}(hx:x.Ok δ){k:Nat}{bs:Bs}(hb:bs.length≤1000000∧bs≠[])(hn:δ.ws.length<1000000){v v2 v3:Value}{es:List (List Value)}:
  Ent (Ow 2 v ((x.vs.zip δ.ws).map wE++[[.int .i64 (k:Nat),v2]])::Ow 2 v3 es::OwF 5 1 v2 (byL bs)::Pt d [x.sv,v,.bool false,.bool false,.int .i64 x.left] (tz 0 191)::Ow 2 x.sv x.ss::(dvR δ x++L)) P (Dev d (δ.push k bs)::L) P:=by
 have hz:(x.vs++[v2]).zip (δ.ws++[(k,bs)])=x.vs.zip δ.ws++[(v2,(k,bs))]:=List.zip_append hx.vl;have e:dvL d (δ.push k bs) {x with wv:=v,vs:=x.vs++[v2]}++L=Pt d [x.sv,v,.bool false,.bool false,.int .i64 x.left] (tz 0 191)::Ow 2 x.sv x.ss::Ow 2 v ((x.vs.zip δ.ws).map wE++[[.int .i64 (k:Nat),v2]])::(dvR δ x++(OwF 5 1 v2 (byL bs)::L)):=by
  unfold dvL dvR Dv.push;simp only[hz,Zp,Zr,Vd,Y0,Zu,Xj];rfl
 refine(Ent.dropAt [_] _ _).trans (Ent.trans (.perm ?_) (e▸Ent.close (c:=DvX.Ok (δ.push k bs)) (A:=dvL d (δ.push k bs)) {x with wv:=v,vs:=x.vs++[v2]} ⟨?_,hx.sl,hx.sh,?_,?_⟩))
 ·show(Ow 2 v _::OwF _ 1 v2 (byL bs)::Pt d _ _::Ow 2 x.sv x.ss::(dvR δ x++L)).Perm _;refine(Yn.swap _ _ _).trans ?_;refine((Ua [_] [Ow 2 v _,Pt d _ _,Ow 2 x.sv x.ss] (dvR δ x++L))).trans ?_;refine(Yn.swap (Pt d _ _) (Ow 2 v _) _).trans (.cons _ ?_);refine(Yn.swap (Ow 2 x.sv x.ss) (Ow 2 v _) _).trans (.cons _ (.cons _ ?_));show(OwF _ 1 v2 (byL bs)::(dvR δ x++L)).Perm _;exact Vo.symm
 ·show(x.vs++[v2]).length=(δ.ws++[(k,bs)]).length;rw[Zd,Zd,hx.vl];rfl
 ·intro w hw;rcases Zk.1 hw with hw|hw
  ·exact hx.wl w hw
  ·rcases Z6.1 hw with rfl
   exact hb
 ·show(δ.ws++[(k,bs)]).length≤_;rw[Zd];exact hn
theorem Zh7(d:Nat)(δ:Dv)(x:DvX)(hx:x.Ok δ)(k:Nat)(hk:k<δ.n)(v:Value)(bs:Bs)(hv:Gn 1 v (byL bs) L P)(hb:bs.length=256)(hn:δ.ws.length<1000000):Sp SET 162 [.pointer (some ⟨d,0,none⟩),.int .i64 (k:Nat),v] (dvL d δ x++L) P (fun r L' P'=>r=.int .i64 0∧L'=Dev d (δ.push k bs)::L∧P'=P):=by
 have hv1:=Gn.app hv (dvL d δ x);have hl:(byL bs).length=256:=by unfold byL;rw[Zc,hb]
 have hne:byL bs≠[]:=fun e=>by rw[e]at hl;cases hl
 have hzl:((x.vs.zip δ.ws).map wE).length=δ.ws.length:=by rw[Zc,X9,hx.vl,Zqw]
 refine .bo (fn:=Tryz.f162) (N:=33) ?_;refine .seq (.region (.pu .as (.nil (.seq (.block (.seq (.region (.pu .mv (.pu .mv ?_)))))))));refine .call (Zh2 _ _ _ _ _ hx k hk) ?_;rintro _ L P ⟨rfl,rfl,rfl⟩;refine .pu .nt (.pu .mv (.on (.pu .mv (.on (.lk .ln ?_)))));refine .on (.pu .cn (.pu .pk (.pu .as (.nil ?_))));refine .no rfl (.seq (.region (.pu .mv ?_)));refine .call (Zh3 _ _ _ _ _) ?_;rintro _ L P ⟨rfl,rfl,rfl⟩;refine .pu .nt (.pu .as (.nil ?_));refine .no rfl (.skip ?_);refine .seq (.drawn fun _=>?_);refine .pu .mv (.pu .mv (.pu .nc (.pu .fa (.lo 0 1 .ld .mk ?_))));refine .pu .mv (.pu .mv ?_);refine .call (Zh5 _ _ _ (byL bs) hv1 hne (by omega) (IX bs)) ?_;rintro _ _ P ⟨rfl,rfl⟩;refine .fact (Gi (.f (fun _ _=>OwF.sl) .l0)) fun⟨a28,c28,e28⟩=>?_;subst e28;refine .pu (.bd (vs:=[_,_])) ?_;refine .bl (k:=2) (es:=[[_,_]]) (hlt:=by show∀x∈([]:Hj),_;simp) fun v30=>?_
 refine .ap (fun v31=>?_) (hr:=.s (.s (.s (.s .z)))) (hw:=.o .l0) (hn:=by rw[hzl];show(_+1)*32≤_;omega) (ho:=fun f hf=>by rcases Z6.1 hf with rfl;rfl)
 refine .fact (Hr .l0) fun⟨a31,c31,e31⟩=>?_;subst e31;refine .pu .nc (.pu .fa (.st (vs:=[_]) ?_));refine .nil (.cons (.yes .mk (.yes .mk (.skip (.skip .nil)))) .nil) (.seq (.region (.pu .as (.nil (.ret ?_)))));exact⟨_,.tmp rfl .nil,_,_,(Zh6 hx ⟨by omega,fun e=>by rw[e]at hb;cases hb⟩ hn),rfl,rfl,rfl⟩
def Cl(ws:List (Nat×Bs))(k:Nat):Option Bs:=ws.foldl (fun o w=>if w.1=k then some w.2 else o) none
theorem IV(ws:List (Nat×Bs))(k j:Nat)(b:Bs):Cl (ws++[(k,b)]) j=if k=j then some b else Cl ws j:=by
 unfold Cl;rw[Zrb];rfl
theorem Zh8{ws:List (Nat×Bs)}{m:Nat}(h:m<ws.length)(k:Nat):Cl (ws.take (m+1)) k=if ws[m].1=k then some ws[m].2 else Cl (ws.take m) k:=by
 rw[Xb h];exact IV _ _ _ _
theorem IU{s:AS}{wb:Nat}{es:List (List Value)}{ws:List (Nat×Bs)}{vs:List Value}(hl:vs.length=ws.length)(hr:∀j (h:j<ws.length) (h2:j<vs.length),rdN s wb (0+2*j) 2=some [.int .i64 (.ofNat ws[j].1),vs[j]])(hb:∀j (h:j<ws.length) (h2:j<vs.length),∃b o c,vs[j]=.slice (some ⟨b,o,none⟩) ws[j].2.length c∧rdN s b o ws[j].2.length=some (byL ws[j].2).flatten)(hw:∀w∈ws,w.2.length≤1000000)(k:Nat):
  ∀m,m≤ws.length→I8 s wb 0 k m=some ((Cl (ws.take m) k).map fun b=>(byL b).flatten)
 |0,_=>rfl
 |m+1,hm=>by
  have ih:=IU (es:=es) hl hr hb hw k m (by omega);have h1:=hr m (by omega) (by omega);obtain⟨b,o,c,e,h2⟩:=hb m (by omega) (by omega);show(match I8 s wb 0 k m with
   |none=>none
   |some r=>match rdN s wb (0+2*m) 2 with
    |some [.int .i64 (.ofNat a),.slice x n _]=>I7 s k a n x r
    |_=>none)=_
  rw[ih,h1,e,Zh8 (by omega)];show I7 s k ws[m].1 ws[m].2.length (some ⟨b,o,none⟩) _=_;unfold I7;cases hk:Nat.beq ws[m].1 k with
  |true=>
   have:=Nat.eq_of_beq_eq_true hk;have hn:Zb ws[m].2.length 1000000=true:=Z0 (hw _ (Zz (by omega)));have ho:Go.Ax.ones (byL ws[m].2).flatten=true:=ones_flat (IX _);rw[cond_true,if_pos this,hn];simp only[cond_true];rw[h2];simp only;rw[ho];rfl
  |false=>
   have:ws[m].1≠k:=fun e=>by subst e;rw[Nat.beq_refl]at hk;cases hk
   rw[cond_false,if_neg this]
theorem IJ{k:Nat}{v:Value}{es:List (List Value)}{S:Nat→Prop}{h:T Gg}(H:(Ow k v es).p S h)(hne:es≠[]):∃b c,v=.slice (some ⟨b,0,none⟩) es.length c:=by
 rcases H with⟨e,_⟩|⟨b,c,_,_,_,e,_⟩
 ·exact absurd e hne
 ·exact⟨b,c,e⟩
theorem Zh9(d:Nat)(δ:Dv)(k:Nat)(hk:k<δ.n)(b:Bs)(hf:Cl δ.ws k=some b):Sp SET 101 [.pointer (some ⟨d,0,none⟩),.int .i64 (k:Nat)] (Dev d δ::L) P (fun r L' P'=>∃ov,r=.tuple ⟨[ov,.int .i64 0]⟩∧L'=Ow 1 ov (byL b)::Dev d δ::L∧P'=P):=by
 refine Sp.open fun x hx=>?_;refine Sp.prim (p:=orP dr (Cp SE 101)) (by rfl) (fun S s hs=>?_);obtain⟨vl,sl,sh,wl,wn⟩:=hx;have yE:δ.ws≠[]:=fun e=>by rw[e]at hf;cases hf
 have hwl:0<δ.ws.length:=List.length_pos_iff.2 yE;have hzl:((x.vs.zip δ.ws).map wE).length=δ.ws.length:=by rw[Zc,X9,vl,Zqw]
 have hm0:In (Pt d [x.sv,x.wv,.bool false,.bool false,.int .i64 x.left] (tz 0 191)) (dvL d δ x++L) P:=.l (.head _);have hm1:In (Ow 2 x.sv x.ss) (dvL d δ x++L) P:=.l (.tail _ (.head _));have hm2:In (Ow 2 x.wv ((x.vs.zip δ.ws).map wE)) (dvL d δ x++L) P:=.l (.tail _ (.tail _ (.head _)));have h0:=JY hm0 hs (o:=0) (n:=3) (by show 0+3≤5;omega);obtain⟨U1,hs1,_⟩:=hm1.holds hs;obtain⟨U2,hs2,_⟩:=hm2.holds hs;obtain⟨sb,sc,e1⟩:=IJ hs1 (fun e=>by rw[e]at sl;simp at sl;omega);obtain⟨wb,wc,e2⟩:=IJ hs2 (fun e=>by rw[e]at hzl;simp at hzl;omega);have p1:=Sl.pl (Ow.sl hs1);have p2:=Sl.pl (Ow.sl hs2);have hkl:k<x.ss.length:=by omega
 obtain⟨sa,sn,sc2,torn,es1⟩:=sh x.ss[k] (Zz hkl);have r1:=JG p1 (i:=k) (e:=x.ss[k]) (Zn hkl);rw[e1,es1]at r1;have r1:rdN s sb (0+k*2) 2=some [.slice sa sn sc2,.bool torn]:=r1;have hsc:=IU (s:=s) (wb:=wb) (es:=[]) vl (fun j h h2=>by
   have hj:j<(x.vs.zip δ.ws).length:=by rw[X9];omega
   have:=JG p2 (i:=j) (e:=wE (x.vs.zip δ.ws)[j]) (by rw[Zy,Zn hj];rfl);rw[e2,Zqx]at this;rw[Uc 2 j];exact this) (fun j h h2=>by
   have hj:j<(x.vs.zip δ.ws).length:=by rw[X9];omega
   have wV:OwF 5 1 x.vs[j] (byL δ.ws[j].2)∈dvR δ x:=by
    unfold dvR;refine Zl.2 ⟨(x.vs.zip δ.ws)[j],Zz hj,?_⟩;rw[Zqx]
   have hin:In (OwF 5 1 x.vs[j] (byL δ.ws[j].2)) (dvL d δ x++L) P:=.l (List.mem_append_left _ (.tail _ (.tail _ (.tail _ wV))));obtain⟨U,hu,_⟩:=hin.holds hs;have hne:byL δ.ws[j].2≠[]:=fun e=>(wl _ (Zz h)).2 (by
    have:=congrArg Yi e;rw[M4]at this;exact Yh.1 this)
   obtain⟨q,o,g1,g2⟩:=kz (Sl.pl (Ow.sl hu.1)) hne;rw[M4]at g1 g2;rw[Vs]at g2;exact⟨q,o,_,g1,g2⟩) (fun w hw=>(wl w hw).1) k δ.ws.length (Ze _)
 rw[List.take_length,hf]at hsc;have hp:dr [.pointer (some ⟨d,0,none⟩),.int .i64 (k:Nat)] s=some (Fe s (byL b).flatten):=by
  show(match rdN s d 0 3 with
   |some [.slice (some ⟨sb,so,none⟩) n _,.slice (some ⟨wb,wo,none⟩) m _,.bool false]=>
    bif Zh k n&&(Zb m 1000000&&Zb 1 m)then(match rdN s sb (so+k*2) 2 with
     |some [.slice x sn _,.bool torn]=>match I8 s wb wo k m with
      |none=>none
      |some (some l)=>some (Fe s l)
      |some none=>bif torn then some (OF 3,s)else(match x with
       |none=>bif Nat.beq sn 0 then some (.tuple ⟨[.slice (some ⟨s.nx,0,none⟩) 256 513,.int .i64 (.ofNat 0)]⟩,s.rowz (tz 1 5) (Go.Ax.rep 256 [.int .u8 (.ofNat 0)]))else none
       |some ⟨b,o,none⟩=>bif Zb sn 1000000 then(match rdN s b o sn with
        |some l=>bif Go.Ax.ones l then some (Fe s l)else none
        |none=>none)else none
       |_=>none)
     |_=>none)else none
   |_=>none)=_
  rw[h0];show(match some [x.sv,x.wv,Value.bool false]with
   |some [.slice (some ⟨sb,so,none⟩) n _,.slice (some ⟨wb,wo,none⟩) m _,.bool false]=>_
   |_=>none)=_
  rw[e1,e2];have c1:Zh k x.ss.length=true:=N7.2 hkl;have c2:Zb ((x.vs.zip δ.ws).map wE).length 1000000=true:=Z0 (by rw[hzl];exact wn);have c3:Zb 1 ((x.vs.zip δ.ws).map wE).length=true:=Z0 (by rw[hzl];exact hwl);simp only[c1,c2,c3,Bool.and_self,cond_true];rw[r1];simp only;rw[hzl,hsc];rfl
 have hfl:∀e∈byL b,e.length=1:=fun e he=>by
  obtain⟨c,_,rfl⟩:=Zl.1 he;rfl
 have wW:(byL b).flatten.length=(byL b).length*1:=Nk hfl;obtain⟨h1,h2⟩:=hs.new (A:=Ow 1 (.slice (some ⟨s.nx,0,none⟩) (byL b).length (2*(byL b).length)) (byL b)) (o:=.cells (T.e.fill 0 (byL b).flatten) (byL b).flatten.length (tz 1 5)) (fun h hg=>by
  rw[wW]at hg;exact Dd (.inr ⟨rfl,Na (by decide)⟩) (Co hfl) h hg)
 obtain⟨S2,h3,h4⟩:=(Ent.under (P:=P) (A:=Ow 1 (.slice (some ⟨s.nx,0,none⟩) (byL b).length (2*(byL b).length)) (byL b)) (Ent.close (L:=L) (c:=DvX.Ok δ) (A:=dvL d δ) x ⟨vl,sl,sh,wl,wn⟩) rfl) _ _ h1;refine⟨.tuple ⟨[.slice (some ⟨s.nx,0,none⟩) (byL b).length (2*(byL b).length),.int .i64 0]⟩,_,S2,_,P,?_,h2.trans (Ru h3),h4,.slice (some ⟨s.nx,0,none⟩) (byL b).length (2*(byL b).length),rfl,rfl,rfl⟩;unfold orP;rw[hp];unfold Fe AS.rowz;rw[wW,Vs];rfl
def Md(b:Bs):Nat:=Ns 4294967295 b^^^4294967295
theorem IK :∀(b:Bs) (x:Nat),kcL (byL b).flatten x=some (Ns x b)
 |[],x=>rfl
 |c::b,x=>by
  have h:kcL (byL (c::b)).flatten x=bif Zh c.toNat 256 then Hf (kc8 (Nat.xor x c.toNat)) (kcL (byL b).flatten)else none:=rfl
  have hc:Zh c.toNat 256=true:=N7.2 (Zrc c);rw[h,hc,cond_true,Go.Lx.natK_eq,NC,IK b];rfl
theorem j8(v:Value)(b:Bs)(hv:Gn 1 v (byL b) L P)(hb:b≠[])(hl:b.length≤1000000):Sp SET 96 [v] L P (fun r L' P'=>r=.int .i64 (Md b:Nat)∧L'=L∧P'=P):=by
 refine Sp.prim (p:=rq) (by rfl) (fun S s hs=>?_);have hne:byL b≠[]:=fun e=>hb (by
  have:=congrArg Yi e;rw[M4]at this;exact Yh.1 this)
 obtain⟨q,o,g1,g2⟩:=kz (hv.holds hs) hne;rw[M4,Vs]at g2;refine⟨_,s,S,L,P,?_,.refl _ _,hs,rfl,rfl,rfl⟩;rw[g1];show(bif Zb (byL b).length 1000000 then(match rdN s q o (byL b).length with
  |none=>none
  |some l=>match kcL l 4294967295 with
   |none=>none
   |some r=>Hf (Nat.xor r 4294967295) fun r=>some (Value.int .i64 (.ofNat r),s))else none)=_
 have c1:Zb (byL b).length 1000000=true:=Z0 (by rw[M4];exact hl);rw[c1,cond_true,M4,g2];simp only;rw[IK];simp only;rw[Go.Lx.natK_eq];rfl
theorem IG(s:Bs):H3 s<256^s.length:=by
 induction s with
 |nil=>decide
 |cons c s ih=>
  show s.foldl _ (0*256+c.toNat)<_;rw[j7 0,Zf,Kx];have:=Zrc c;have h2:(0*256+c.toNat)*256^s.length≤255*256^s.length:=Yo _ (by omega);omega
theorem IH(a b:Bs):H3 (a++b)=H3 a*256^b.length+H3 b:=by
 show(a++b).foldl _ 0=_;rw[Zrb,j7 0];rfl
theorem IM :∀ {a b:Bs},a.length=b.length→Gf a b=decide (H3 a<H3 b)
 |[],[],_=>by simp[Op.bytesLess,H3]
 |[],_::_,h=>by cases h
 |_::_,[],h=>by cases h
 |x::a,y::b,h=>by
  have hl:a.length=b.length:=by simpa using h
  have e1:H3 (x::a)=x.toNat* 256^b.length+H3 a:=by
   show a.foldl _ (0*256+x.toNat)=_;rw[j7 0,hl,Xh,Zw]
  have e2:H3 (y::b)=y.toNat* 256^b.length+H3 b:=by
   show b.foldl _ (0*256+y.toNat)=_;rw[j7 0,Xh,Zw]
  have la:=IG a;have lb:=IG b;rw[hl]at la;have ih:=IM hl;show(decide (x<y)||(x==y&&Op.bytesLess a b))=_;rw[show Op.bytesLess a b=Gf a b from rfl,ih,e1,e2];generalize 256^b.length=M at la lb;rcases Nat.lt_trichotomy x.toNat y.toNat with h1|h1|h1
  ·have hxy:x<y:=h1;rw[decide_eq_true hxy,Bool.true_or];symm;refine decide_eq_true ?_;have:(x.toNat+1)*M≤y.toNat* M:=Yo _ h1;rw[Yv]at this;omega
  ·have hxy:x=y:=UInt8.toNat_inj.1 h1;subst hxy;rw[decide_eq_false (show¬x<x from Nat.lt_irrefl _),Vb,beq_self_eq_true,Bool.true_and];exact decide_eq_decide.2 (by omega)
  ·have hxy:¬x<y:=Nat.not_lt.2 (Zqs h1);have hne:(x==y)=false:=by
    rw[beq_eq_false_iff_ne];intro e;subst e;omega
   rw[decide_eq_false hxy,hne,Vb,Bool.false_and];symm;refine decide_eq_false ?_;have:(y.toNat+1)*M≤x.toNat* M:=Yo _ h1;rw[Yv]at this;omega
theorem IN{ino idx:Nat}(h1:ino<4294967296)(h2:idx<256):H3 (G7 ino idx)=120*256^5+(ino*256+idx):=by
 have e:G7 ino idx=[120]++(Gk ino 4++Gk idx 1):=rfl;rw[e,IH,IH,D5 (n:=ino) (i:=4) (by omega),D5 (n:=idx) (i:=1) (by omega),Zd,Hm,Hm];rfl
theorem IB{i x j y:Nat}(h1:i<4294967296)(h2:x<256)(h3:j<4294967296)(h4:y<256):Gf (G7 i x) (G7 j y)=decide (i<j∨i=j∧x<y):=by
 rw[IM (by rw[bz,bz]),IN h1 h2,IN h3 h4];exact decide_eq_decide.2 (by omega)
structure Chn where
 ino:Nat
 idx:Nat
 st:Nat
 ep:Nat
 num:Nat
 by':Bs
 blk:Nat
def Chn.held(p:Chn):Mc:=⟨p.ino,p.idx,p.st,p.ep,p.num,Md p.by',p.blk⟩
def Gx(p:Chn):Pr:=Zhv p.held
structure Chn.Fit(p:Chn):Prop where
 i0:1≤p.ino
 i1:p.ino<4294967296
 x1:p.idx<32
 st:1≤p.st∧p.st≤3
 ep:p.ep<4294967296
 num:p.num<4294967296
 blk:p.blk<65536
 by':p.by'.length=256
theorem crc1_lt{x:Nat}(h:x<4294967296):M0 x<4294967296:=by
 unfold M0;split
 ·exact Xu (n:=32) (by omega) (by decide)
 ·omega
theorem crcN_lt{x:Nat}(h:x<4294967296):∀j,Nr j x<4294967296
 |0=>h
 |j+1=>crc1_lt (crcN_lt h j)
theorem IC :∀(b:Bs) (x:Nat),x<4294967296→Ns x b<4294967296
 |[],_,h=>h
 |c::b,x,h=>IC b _ (crcN_lt (Xu (n:=32) h (by have:=Zrc c;omega)) 8)
theorem Zia(b:Bs):Md b<4294967296:=Xu (n:=32) (IC b _ (by decide)) (by decide)
theorem Chn.Fit.held{p:Chn}(h:p.Fit):p.held.Fit:=⟨h.i1,by have:=h.x1;show p.idx<256;omega,h.st,h.ep,h.num,Zia _,h.blk⟩
def ltK(a:Nat×Nat)(b:Nat×Nat):Prop:=a.1<b.1∨a.1=b.1∧a.2<b.2
instance (a b:Nat×Nat):Decidable (ltK a b):=by unfold ltK;infer_instance
def Chn.at(p:Chn):Nat×Nat:=(p.ino,p.idx)
def j9(l:List Chn):Prop:=l.Pairwise (fun a b=>ltK a.at b.at)
theorem ID{p:Chn}(h:p.Fit){ino idx:Nat}(h1:ino<4294967296)(h2:idx<32):Gf (Gx p).1 (G7 ino idx)=decide (ltK p.at (ino,idx))∧Gf (G7 ino idx) (Gx p).1=decide (ltK (ino,idx) p.at):=
 ⟨IB h.i1 (show p.idx<256 by have:=h.x1;omega) h1 (by omega),IB h1 (by omega) h.i1 (show p.idx<256 by have:=h.x1;omega)⟩
theorem N6{A B C:List Chn}(hf:∀p∈A++B++C,p.Fit){ino idx:Nat}(h1:ino<4294967296)(h2:idx<32)(hA:∀a∈A,ltK a.at (ino,idx))(hC:∀c∈C,ltK (ino,idx) c.at):
  (∀q∈A.map Gx,Gf q.1 (G7 ino idx)=true)∧(∀q∈C.map Gx,Gf (G7 ino idx) q.1=true)∧(B=[]→Nu ((A++B++C).map Gx) (G7 ino idx)=none)∧(∀q,B=[q]→q.at=(ino,idx)→Nu ((A++B++C).map Gx) (G7 ino idx)=some (Mb q.held)):=by
 have gA:∀q∈A.map Gx,Gf q.1 (G7 ino idx)=true:=fun q hq=>by
  obtain⟨p,hp,rfl⟩:=Zl.1 hq;rw[(ID (hf p (by simp[hp])) h1 h2).1];exact decide_eq_true (hA p hp)
 have gC:∀q∈C.map Gx,Gf (G7 ino idx) q.1=true:=fun q hq=>by
  obtain⟨p,hp,rfl⟩:=Zl.1 hq;rw[(ID (hf p (by simp[hp])) h1 h2).2];exact decide_eq_true (hC p hp)
 have hlb:=UJ (k:=G7 ino idx) (B:=B.map Gx) gA gC;refine⟨gA,gC,fun hB=>?_,fun q hB hq=>?_⟩
 ·subst hB;have e0:(A++[]++C).map Gx=A.map Gx++[].map Gx++C.map Gx:=by rw[Zp,Zp]
  unfold Nu;rw[e0,hlb];have e1:lb (([].map Gx).map (·.1)) (G7 ino idx)=0:=rfl;rw[e1,Yg,Vd,Z9,Jy];rcases C with _|⟨c,C⟩
  ·rfl
  ·have:=gC (Gx c) (by simp);show(if(Gx c).1=G7 ino idx then some _ else none)=none;rw[if_neg];intro e;rw[e,Dy]at this;cases this
 ·subst hB;have hqk:(Gx q).1=G7 ino idx:=by
   show G7 q.ino q.idx=_;have e1:q.ino=ino:=congrArg J7 hq;have e2:q.idx=idx:=congrArg Ky hq;rw[e1,e2]
  have hb0:lb (([q].map Gx).map (·.1)) (G7 ino idx)=0:=by
   show lb [(Gx q).1] _=0;rw[hqk];unfold lb;rw[Un (by rw[Dy];simp)];rfl
  have e0:(A++[q]++C).map Gx=A.map Gx++[q].map Gx++C.map Gx:=by rw[Zp,Zp]
  unfold Nu;rw[e0,hlb,hb0,Yg,Zu,Jy];show(if(Gx q).1=G7 ino idx then some _ else none)=_;rw[if_pos hqk];rfl
theorem cf{A B C:List Chn}(hf:∀p∈A++B++C,p.Fit){p:Chn}(hp:p.Fit)(hA:∀a∈A,ltK a.at p.at)(hC:∀c∈C,ltK p.at c.at)(hB:B=[]∨∃q,B=[q]∧q.at=p.at):Hd ((A++B++C).map Gx) (G7 p.ino p.idx) (Mb p.held)=(A++[p]++C).map Gx:=by
 obtain⟨gA,gC,_,_⟩:=N6 (B:=B) hf hp.i1 hp.x1 hA hC;rw[Zp,Zp,TZ gA gC,Zp,Zp];congr 2;rcases hB with rfl|⟨q,rfl,hq⟩
 ·rfl
 ·have hqk:(Gx q).1=G7 p.ino p.idx:=by
   show G7 q.ino q.idx=_;have e1:q.ino=p.ino:=congrArg J7 hq;have e2:q.idx=p.idx:=congrArg Ky hq;rw[e1,e2]
  have hb0:lb ([(Gx q)].map (·.1)) (G7 p.ino p.idx)=0:=by
   show lb [(Gx q).1] _=0;rw[hqk];unfold lb;rw[Un (by rw[Dy];simp)];rfl
  show Hd [Gx q] _ _=[Gx p];unfold Hd;rw[hb0];show(bif decide ((some (Gx q).1)=some (G7 p.ino p.idx))then [(G7 p.ino p.idx,Mb p.held)]else _)=_;rw[hqk,decide_eq_true rfl];rfl
theorem IF{A B C:List Chn}(h:j9 (A++B++C)){p:Chn}(hA:∀a∈A,ltK a.at p.at)(hC:∀c∈C,ltK p.at c.at):j9 (A++[p]++C)∧j9 (A++C):=by
 obtain⟨h1,h2,h3⟩:=Ys.1 h;obtain⟨h4,h5,h6⟩:=Ys.1 h1;have hAC:∀a∈A,∀c∈C,ltK a.at c.at:=fun a ha c hc=>h3 a (by simp[ha]) c hc;refine⟨Ys.2 ⟨Ys.2 ⟨h4,List.pairwise_singleton _ _,fun a ha b hb=>?_⟩,h2,fun a ha c hc=>?_⟩,Ys.2 ⟨h4,h2,hAC⟩⟩
 ·rcases Z6.1 hb with rfl
  exact hA a ha
 ·rcases Zk.1 ha with ha|ha
  ·exact hAC a ha c hc
  ·rcases Z6.1 ha with rfl
   exact hC c hc
def ub(l:List Chn):List Nat:=(l.filter (fun p=>decide (p.st≠3))).map (·.blk)
theorem Bz(a b:List Chn):ub (a++b)=ub a++ub b:=by unfold ub;rw[Zq8,Zp]
theorem kc{p:Chn}(h:p.st≠3):ub [p]=[p.blk]:=by unfold ub;rw[List.filter_cons_of_pos (by simpa using h)];rfl
theorem UC{p:Chn}(h:p.st=3):ub [p]=[]:=by unfold ub;rw[List.filter_cons_of_neg (by simpa using h)];rfl
theorem UD{l:List Chn}{p:Chn}(h:p∈l)(h3:p.st≠3):p.blk∈ub l:=Zl.2 ⟨p,List.mem_filter.2 ⟨h,by simpa using h3⟩,rfl⟩
structure Mv(β:AS0)(bs:List Nat)(g:Nat):Prop where
 ok:β.Ok
 bk:β.back=0
 us:∀j,mem β.us j=true↔j∈bs
 nd:bs.Nodup
 gv:Ht β.ls=g
theorem Mv.perm{β:AS0}{bs cs:List Nat}{g:Nat}(h:Mv β bs g)(hp:bs.Perm cs):Mv β cs g:=⟨h.ok,h.bk,fun j=>by rw[h.us j,hp.mem_iff],hp.nodup_iff.1 h.nd,h.gv⟩
theorem Mv.cnt{β:AS0}{bs:List Nat}{g:Nat}(h:Mv β bs g):Ht β.us=bs.length:=by
 rw[B0];have hul:=h.ok.ul;exact j6 bs (mem β.us) _ h.nd h.us (fun j hj=>by
  have:=h.ok.uo j ((h.us j).2 hj);omega)
theorem Mv.free{β:AS0}{bs:List Nat}{g:Nat}(h:Mv β bs g):β.free=(β.n:Int)-bs.length-g:=by
 unfold AS0.free;rw[h.cnt,h.gv,h.bk];omega
theorem Mv.take{β:AS0}{bs:List Nat}{g b:Nat}(h:Mv β bs g)(hb:mem β.us b=false)(hn:b<β.n)(ho:({β with us:=Gp β.us b}:AS0).Ok):Mv {β with us:=Gp β.us b} (b::bs) g:=by
 have hul:=h.ok.ul;refine⟨ho,h.bk,fun j=>?_,Yz.2 ⟨fun e=>?_,h.nd⟩,h.gv⟩
 ·show mem (Gp β.us b) j=true↔_;rw[Ii β.us b (by omega),Yq,h.us j,decide_eq_true_eq,Zg];exact Or.comm
 ·rw[(h.us b).2 e]at hb;cases hb
theorem Mv.give{β:AS0}{b:Nat}{bs:List Nat}{g:Nat}(h:Mv β (b::bs) g):mem β.us b=true∧Mv (β.give b) bs (g+1):=by
 have hm:=(h.us b).2 (Zm ..);have hul:=h.ok.ul;have hlt:=h.ok.uo b hm;have hnd:=Yz.1 h.nd;have hok:(β.give b).Ok:=h.ok.drop hm;have hus:∀j,mem (β.give b).us j=true↔j∈bs:=fun j=>by
  show mem (My β.us b) j=true↔_;rw[y6 β.us b (by omega),Zi,h.us j,Zg];constructor
  ·rintro⟨h1,h2⟩;rcases h1 with h1|h1
   ·subst h1;simp at h2
   ·exact h1
  ·intro h1;refine⟨.inr h1,?_⟩;have:j≠b:=fun e=>hnd.1 (e▸h1);simpa using this
 refine⟨hm,hok,h.bk,hus,hnd.2,?_⟩;have hf:=AS0.free_give h.ok hm;have hfr:=h.free;have hc:Ht (β.give b).us=bs.length:=by
  rw[B0];have hul:=hok.ul;exact j6 bs (mem (β.give b).us) _ hnd.2 hus (fun j hj=>by
   have:=hok.uo j ((hus j).2 hj);omega)
 unfold AS0.free at hf hfr;rw[hc]at hf;have hb1:(β.give b).back=0:=h.bk;have hb2:=h.bk;have hn:(β.give b).n=β.n:=rfl;have h1:=h.cnt;have h2:=h.gv;rw[Zf]at h1;rw[hn,hb1]at hf;rw[h1,h2,hb2]at hf;omega
theorem UF :∀l:List Chn,weight (l.map Gx)=23*l.length
 |[]=>rfl
 |p::l=>by
  have h:=UF l;have e:weight ((p::l).map Gx)=2+(Gx p).1.length+(Gx p).2.length+weight (l.map Gx):=by unfold weight;simp
  have e1:(Gx p).1.length=6:=bz ..;have e2:(Gx p).2.length=15:=UB ..;rw[e,h,e1,e2,Zf];omega
theorem Rep.pages{T:Tg}{τ:Tr}{ps:List Pr}{gs:List Nat}{dp:Nat}(h:Rep T τ ps gs dp)(hT:T.t=true)(hd:dp≤2):159*((gs.length-1)/2)≤weight ps:=by
 rcases h.bel.cases with⟨_,e1,e2,e3⟩|⟨h',h1,h2,hs⟩
 ·subst e1 e2;exact Zj _
 ·obtain rfl|rfl:h'=0∨h'=1:=by omega
  ·cases hs;simp
  ·cases hs with
   | @inner _ _ ks hp ok hk sp ht km=>
    have hw:=(ht hT rfl).weight;rw[Zf,UY hk];exact hw
def TC :Tg:=⟨true,6⟩
theorem Zib{τ:Tr}{l:List Chn}{gs:List Nat}{dp:Nat}(h:Rep TC τ (l.map Gx) gs dp)(hd:dp≤2)(hl:l.length≤60)(hn:τ.α.n=64)(hb:τ.α.back=0):¬τ.α.free<((2*dp+3:Nat):Int):=by
 have h1:=h.pages rfl hd;rw[UF]at h1;have h2:=h.free;rw[hn,hb]at h2;omega
theorem Zic{dp dp':Nat}{l:List Chn}{gs':List Nat}(h:xp TC dp dp' (l.map Gx) gs')(hd:dp≤2)(hl:l.length≤60):dp'≤2:=by
 rcases h with h|⟨h,hw⟩
 ·omega
 ·rcases Zt dp 2 with h2|h2
  ·omega
  ·exfalso;obtain⟨n,hwd,_⟩:=hw 1 (by omega);obtain⟨k,h3,h4,_⟩:=hwd.2 rfl rfl;have h3:160<4+9*(k-1):=h3;rw[UF]at h4;omega
structure Ck where
 t:Nat
 d:Nat
 first:Nat
 turn:Int
 τ:Tr
 β:AS0
 δ:Dv
def Ck.tr(κ:Ck)(a:Nat):Tr:= {κ.τ with a:=a}
def ckL(c:Nat)(κ:Ck)(y:Nat×Nat):List Asn:=Pt c (ckC κ.t κ.d κ.first y.1 κ.turn) (tz 0 153)::(trL κ.t (κ.tr y.2)++(Alc y.1 κ.β::[Dev κ.d κ.δ]))
def CkS(c:Nat)(κ:Ck):Asn:=Bx (fun _=>True) (ckL c κ)
theorem Dc{L P:List Asn}{c:Nat}{κ:Ck}(y:Nat×Nat):Ent (ckL c κ y++L) P (CkS c κ::L) P:=Ent.close y trivial
theorem Rep.a{T:Tg}{τ:Tr}{ps:List Pr}{gs:List Nat}{dp a:Nat}(h:Rep T τ ps gs dp):Rep T {τ with a:=a} ps gs dp:=⟨h.bel,h.depth,h.count,h.us,h.nd,h.g0,h.ok,h.bk,h.nn,h.ls,h.km⟩
theorem Ent.dropMid(L1:List Asn):∀(M L2:List Asn) {P:List Asn},Ent (L1++(M++L2)) P (L1++L2) P
 |[],L2,_=>.refl _ _
 |A::M,L2,_=>(Ent.dropAt L1 (M++L2) A).trans (Ent.dropMid L1 M L2)
def UR(P0:List Asn)(c:Nat)(κ:Ck)(X:List Asn)(fid:FuncId)(caps:Array Value)(Q:Nat→Ck→Prop):Prop:=
 ∀(y:Nat×Nat) (L P:List Asn),(∀A∈P0,A∈P)→Sp SET fid ([]++[]++caps.toList) (ckL c κ y++(X++L)) P (fun r L' P'=>∃z:Ck×(Nat×Nat)×List Asn,((∀A∈P,A∈P')∧∃e:Nat,r=.int .i64 (e:Nat)∧(e≠0→z.1=κ)∧Q e z.1)∧L'=ckL c z.1 z.2.1++(z.2.2++L))
theorem Zid(A B C L:List Asn):(A++(B++(C++L))).Perm (A++(C++(B++L))):=Yn.append_left A (Ua B C L)
theorem cg(L P P0 X:List Asn)(c:Nat)(κ:Ck)(y:Nat×Nat)(fid:FuncId)(caps:Array Value)(Q:Nat→Ck→Prop)(hf:UR P0 c κ X fid caps Q)(h0:∀A∈P0,A∈P):Sp SET 91 [.pointer (some ⟨c,0,none⟩),.func (.func fid) #[] caps] (ckL c κ y++(X++L)) P (fun r L' P'=>(∀A∈P,A∈P')∧∃e κ',r=.int .i64 (e:Nat)∧(e≠0→κ'=κ)∧Q e κ'∧L'=CkS c κ'::L):=by
 refine .bo (fn:=Tryz.f91) (N:=16) ?_;refine .seq (.region (.pu .as (.nil (.seq (.region (.pu .mv ?_))))));refine .call (Zhy _ _ c κ.t κ.d κ.first y.1 κ.turn (κ.tr y.2) κ.β) ?_;rintro _ _ _ ⟨m,q,⟨rfl,hPe⟩,rfl⟩;subst hPe;refine .pu .as (.nil (.seq (.region (.pu .mv ?_))));refine .call (Sp.ent (Ent.pull (cmL m c κ.t (κ.tr y.2) κ.β κ.turn q) (ckL c κ y++X) L) (hf y _ _ h0)) ?_;rintro _ _ _ ⟨⟨κ',y',X'⟩,⟨hs1,e,rfl,hk,hq⟩,rfl⟩;refine .pu .as (.nil ?_);by_cases he:e=0
 ·refine .seq (.seq (.region (.pu .mv (.pu .cn (.nil ?_)))));refine .no rfl (.skip (.seq (.region (.pu .mv (.pu .as (.nil (.ret ?_)))))));exact⟨_,.tmp rfl .nil,_,_,((Ent.dropMid (ckL c κ' y') X' (cmL m c κ.t (κ.tr y.2) κ.β κ.turn q++L)).trans ((Ent.dropMid (ckL c κ' y') (cmL m c κ.t (κ.tr y.2) κ.β κ.turn q) L).trans (Dc y'))),hs1,e,κ',rfl,fun h=>absurd he h,hq,rfl⟩
 ·refine .seq (.seq (.region (.pu .mv (.pu .cy (.nil ?_)))));refine .yes rfl (.region (.pu .mv (.pu .mv ?_)));have hk2:=(hk he).symm;subst hk2;refine .call (Sp.ent (.perm (Zid (Pt c (ckC κ.t κ.d κ.first y'.1 κ.turn) (tz 0 153)::(trL κ.t (κ.tr y'.2)++[Alc y'.1 κ.β])) (Dev κ.d κ.δ::X') (cmL m c κ.t (κ.tr y.2) κ.β κ.turn q) L)) (Zh1 (Dev κ.d κ.δ::X'++L) _ c κ.t κ.d κ.first y'.1 m κ.turn (κ.tr y.2) κ.β κ.β q y'.2 κ.τ.σ.w κ.τ.α κ.τ.root κ.τ.count κ.τ.depth)) ?_;rintro _ _ _ ⟨a2,b2,⟨rfl,rfl⟩,rfl⟩;refine .nil (.seq (.region (.pu .mv (.pu .as (.nil (.ret ?_))))));exact⟨_,.tmp rfl .nil,_,_,((Ent.dropMid (Pt c (ckC κ.t κ.d κ.first b2 κ.turn) (tz 0 153)::(trL κ.t (κ.tr a2)++[Alc b2 κ.β])) (cmL m c κ.t (κ.tr y.2) κ.β κ.turn q) (Dev κ.d κ.δ::X'++L)).trans ((Ent.dropMid (ckL c κ (b2,a2)) X' L).trans (Dc (b2,a2)))),hs1,e,κ,rfl,fun _=>rfl,hq,rfl⟩
structure CkOk(κ:Ck)(l:List Chn)(g W:Nat):Prop where
 rep:∃gs dp,Rep TC κ.τ (l.map Gx) gs dp∧dp≤2
 pn:κ.τ.α.n=64
 pb:κ.τ.α.back=0
 so:j9 l
 ft:∀p∈l,p.Fit
 bk:Mv κ.β (ub l) g
 fn:κ.δ.n=κ.first+κ.β.n
 f4:κ.first≤4096
 dv:∀p∈l,p.st≠3→Cl κ.δ.ws (κ.first+p.blk)=some p.by'
 wn:κ.δ.ws.length≤W
 tn:0≤κ.turn∧κ.turn≤1000000+(W:Int)
structure Same(κ κ':Ck):Prop where
 t:κ'.t=κ.t
 d:κ'.d=κ.d
 f:κ'.first=κ.first
 n:κ'.β.n=κ.β.n
 u:κ'.turn=κ.turn
theorem Zie(d:Nat)(δ:Dv)(k:Nat)(hk:k<δ.n)(v:Value)(bs:Bs)(hv:Gn 1 v (byL bs) L P)(hb:bs.length=256)(hn:δ.ws.length<1000000):Sp SET 162 [.pointer (some ⟨d,0,none⟩),.int .i64 (k:Nat),v] (Dev d δ::L) P (fun r L' P'=>r=.int .i64 0∧L'=Dev d (δ.push k bs)::L∧P'=P):=
 Sp.open fun x hx=>Zh7 L P d δ x hx k hk v bs hv hb hn
theorem xr(c:Nat)(κ:Ck)(y:Nat×Nat)(b:Bs)(hT:Ro 0 G5∈P)(hb:κ.β.back=0)(hf:κ.β.free≤0):Sp SET 93 [.pointer (some ⟨c,0,none⟩),S b] (ckL c κ y++L) P (fun r L' P'=>r=.tuple ⟨[.int .i64 0,.int .i64 5]⟩∧L'=ckL c κ y++L∧P'=P):=by
 refine .bo (fn:=Tryz.f93) (N:=32) ?_;refine .seq (.region (.pu .as (.pu .as (.nil (.seq (.region (.pu .mv (.pu .nc (.pu .fa (.ld ?_))))))))));refine .call (Sp.up (.s (.s (.s (.s .z)))) (fun L=>w9 L _ _ _ (by omega) hT hf)) ?_;rintro _ L P ⟨rfl,rfl,rfl⟩;refine .pu .mv (.pu .ex (.pu .ex (.pu .as (.pu .as (.nil (.seq (.seq (.region (.pu .mv (.pu .cmp (.nil ?_)))))))))));refine .no rfl (.skip (.seq (.region (.pu .mv (.pu .mv (.pu .as (.pu .as (.nil (.ret ?_)))))))));exact⟨_,.tmp rfl (.tmp rfl .nil),_,_,.refl _ _,rfl,rfl,rfl⟩
def Ck.take(κ:Ck)(b:Nat)(s:Bs):Ck:= {κ with β:= {κ.β with us:=Gp κ.β.us b},δ:=κ.δ.push (κ.first+b) s}
theorem xw(c:Nat)(κ:Ck)(y:Nat×Nat)(s:Bs)(hT:Ro 0 G5∈P)(hb:κ.β.back=0)(hf:0<κ.β.free)(hs:s.length=256)(hn:κ.δ.ws.length<1000000)(hd:κ.δ.n=κ.first+κ.β.n)(h4:κ.first≤4096)(hb4:κ.β.n≤4096):Sp SET 93 [.pointer (some ⟨c,0,none⟩),S s] (ckL c κ y++L) P (fun r L' P'=>∃b:Nat,r=.tuple ⟨[.int .i64 (b:Nat),.int .i64 0]⟩∧b<κ.β.n∧mem κ.β.us b=false∧({κ.β with us:=Gp κ.β.us b}:AS0).Ok∧L'=ckL c (κ.take b s) y++L∧P'=P):=by
 refine .bo (fn:=Tryz.f93) (N:=32) ?_;refine .seq (.region (.pu .as (.pu .as (.nil (.seq (.region (.pu .mv (.pu .nc (.pu .fa (.ld ?_))))))))));refine .call (Sp.at [_,_,_,_] _ (fun L=>xb L _ _ _ (by omega) hT hf)) ?_;rintro _ _ _ ⟨b,⟨rfl,hbn,hbu,hbo,rfl⟩,rfl⟩;refine .pu .mv (.pu .ex (.pu .ex (.pu .as (.pu .as (.nil (.seq (.seq (.region (.pu .mv (.pu .cmp (.nil ?_)))))))))));refine .yes rfl ?_;refine .drawn fun _=>?_;refine .pu .mv (.pu .nc (.pu .fa (.lo 0 1 .ld .mk ?_)));refine .pu .mv (.pu .nc (.pu .fa (.lo 0 1 .ld .mk ?_)));refine .pu .mv (.pu .add ?_);rw[show((κ.first:Nat):Int)+(b:Nat)=((κ.first+b:Nat):Int)from rfl];refine .pu .mv ?_;refine .cb fun v29=>?_;refine .call (Sp.ent (.perm (Nx [_,_,_,_,_,_] _ (Dev κ.d κ.δ))) (Zie _ _ κ.d κ.δ (κ.first+b) (by omega) _ s (.o .l0) hs hn)) ?_;rintro _ L P ⟨rfl,rfl,rfl⟩;refine .pu .as (.nil (.cons (.yes .mk (.yes .mk (.skip .nil))) (.cons (.yes .mk (.yes .mk (.skip .nil))) .nil)) (.seq (.region (.pu .mv (.pu .mv (.pu .as (.pu .as (.nil (.ret ?_)))))))))
 exact⟨_,.tmp rfl (.tmp rfl .nil),_,_,((Ent.dropAt [_] _ _).trans (.perm (Nx [_,_,_,_,_] L (Dev κ.d _)).symm)),b,rfl,hbn,hbu,hbo,rfl,rfl⟩
theorem CkOk.write{κ κ':Ck}{A B C:List Chn}{g g' W:Nat}{p:Chn}(h:CkOk κ (A++B++C) g W)(hA:∀a∈A,ltK a.at p.at)(hC:∀c∈C,ltK p.at c.at)(hp:p.Fit)(wA:∃gs dp,Rep TC κ'.τ ((A++[p]++C).map Gx) gs dp∧dp≤2)(hn:κ'.τ.α.n=64)(hbk:κ'.τ.α.back=0)(hb:Mv κ'.β (ub (A++[p]++C)) g')(hδ:κ'.δ=κ.δ.push (κ.first+p.blk) p.by')(hs:Same κ κ')(wF:p.blk∉ub (A++B++C)):CkOk κ' (A++[p]++C) g' (W+1):=by
 refine⟨wA,hn,hbk,(IF h.so hA hC).1,fun q hq=>?_,hb,?_,?_,fun q hq h3=>?_,?_,?_⟩
 ·simp only[Zk,Z6]at hq;rcases hq with(hq|rfl)|hq
  ·exact h.ft q (by simp[hq])
  ·exact hp
  ·exact h.ft q (by simp[hq])
 ·rw[hδ,hs.f,hs.n];exact h.fn
 ·rw[hs.f];exact h.f4
 ·rw[hδ,hs.f];show Cl (κ.δ.ws++[(κ.first+p.blk,p.by')]) _=_;rw[IV];simp only[Zk,Z6]at hq;have old:q∈A++B++C→(if κ.first+p.blk=κ.first+q.blk then some p.by' else Cl κ.δ.ws (κ.first+q.blk))=some q.by':=fun hq=>by
   rw[if_neg,h.dv q hq h3];intro e;have e2:p.blk=q.blk:=by omega
   exact wF (e2▸UD hq h3)
  rcases hq with(hq|rfl)|hq
  ·exact old (by simp[hq])
  ·rw[if_pos rfl]
  ·exact old (by simp[hq])
 ·rw[hδ];show(κ.δ.ws++[(κ.first+p.blk,p.by')]).length≤_;rw[Zd];have:=h.wn;simp only[Zf,Zo];omega
 ·rw[hs.u];have:=h.tn;exact⟨this.1,by omega⟩
theorem cj{τ τ':Tr}{ps':Option (List Pr)}{l l':List Chn}{gs:List Nat}{dp e0:Nat}{P P':List Asn}{r:Value}(h:xq TC τ gs dp ps' e0 P r τ' P')(hr:Rep TC τ (l.map Gx) gs dp)(hd:dp≤2)(hps:ps'=some (l'.map Gx))(hl:l.length≤60)(hl':l'.length≤60)(hn:τ.α.n=64)(hb:τ.α.back=0):(∀A∈P,A∈P')∧r=.int .i64 0∧(∃gs dp,Rep TC τ' (l'.map Gx) gs dp∧dp≤2)∧τ'.s=τ.s∧τ'.a=τ.a∧τ'.α.n=64∧τ'.α.back=0:=by
 obtain⟨h1,e,h2,⟨h3,h4,_⟩|⟨h3,qs,gs',dp',h4,h5,h6,h7,h8,h9,h10,_⟩⟩:=h
 ·exfalso;rcases h4 with⟨_,h4⟩|⟨_,h4⟩
  ·exact Zib hr hd hl hn hb h4
  ·rw[hps]at h4;cases h4
 ·subst h3;rw[hps]at h4;obtain rfl:=Option.some.inj h4;exact⟨h1,h2,⟨gs',dp',h5,Zic h6 hd hl'⟩,h7,h8,h9.trans hn,h10.trans hb⟩
def Mw(κ:Ck)(e0:Prop)(Q:Ck→Prop)(e:Nat)(κ':Ck):Prop:=(e=5∧e0∧κ'=κ)∨(e=0∧¬e0∧Same κ κ'∧κ'.turn=κ.turn∧Q κ')
def WrQ(A B C:List Chn)(g W ino idx:Nat)(s:Bs)(κ':Ck):Prop:=∃b,CkOk κ' (A++[⟨ino,idx,1,0,0,s,b⟩]++C) (g+(ub B).length) (W+1)
theorem CkOk.bn{κ:Ck}{l:List Chn}{g W:Nat}(h:CkOk κ l g W):κ.β.n≤4096:=h.bk.ok.n1
theorem xz{β:AS0}{A B C:List Chn}{g b:Nat}(h:Mv β (ub (A++B++C)) g)(hb:mem β.us b=false)(hn:b<β.n)(ho:({β with us:=Gp β.us b}:AS0).Ok)(p:Chn)(hp:p.blk=b)(h3:p.st≠3):b∉ub (A++B++C)∧(ub B=[]→Mv {β with us:=Gp β.us b} (ub (A++[p]++C)) g)∧(∀q,ub B=[q]→mem ({β with us:=Gp β.us b}:AS0).us q=true∧Mv (({β with us:=Gp β.us b}:AS0).give q) (ub (A++[p]++C)) (g+1)):=by
 have yF:b∉ub (A++B++C):=fun e=>by rw[(h.us b).2 e]at hb;cases hb
 have h1:=h.take hb hn ho;have e1:ub (A++[p]++C)=ub A++[b]++ub C:=by rw[Bz,Bz,kc h3,hp]
 have e2:ub (A++B++C)=ub A++ub B++ub C:=by rw[Bz,Bz]
 have pm:(b::(ub A++ub C)).Perm (ub A++[b]++ub C):=by
  rw[Zu];exact Vo.symm
 rw[e2]at h1;refine⟨yF,fun hB=>?_,fun q hq=>?_⟩
 ·rw[hB,Z9]at h1;rw[e1];exact h1.perm pm
 ·rw[hq]at h1;have h2:=(h1.perm (show(b::(ub A++[q]++ub C)).Perm (q::b::(ub A++ub C))from(Yn.cons b (by rw[Zu];exact Vo)).trans (Yn.swap _ _ _))).give;rw[e1];exact⟨h2.1,h2.2.perm pm⟩
theorem Zif(c:Nat)(κ:Ck)(y:Nat×Nat)(A B C:List Chn)(g W ino idx:Nat)(s:Bs)(old:Mc)(b0 b1 b2 b3 b4 b5 z0 z1 z2 z3 z4 z5:Nat)(h0:Pt b0 [.pointer (some ⟨c,0,none⟩)] z0∈P)(h1:Pt b1 [S s] z1∈P)(h2:Pt b2 [.bool false] z2∈P)(h3:Pt b3 (hC old) z3∈P)(h4:Pt b4 [.int .i64 (ino:Nat)] z4∈P)(h5:Pt b5 [.int .i64 (idx:Nat)] z5∈P)
 (hT:Ro 0 G5∈P) (hk:CkOk κ (A++B++C) g W) (hW:W<1000000) (hA:∀a∈A,ltK a.at (ino,idx)) (hC':∀c∈C,ltK (ino,idx) c.at) (hB:B=[]∨∃q,B=[q]∧q.at=(ino,idx)) (hi0:1≤ino) (hi1:ino<4294967296) (hx:idx<32) (hs:s.length=256) (hl:(A++B++C).length≤60) (hl':(A++[(⟨ino,idx,1,0,0,s,0⟩:Chn)]++C).length≤60) (hub:ub B=[]):Sp SET 92 [pp0 b0,pp0 b1,pp0 b2,pp0 b3,pp0 b4,pp0 b5] (ckL c κ y++L) P (fun r L' P'=>∃z:Ck×(Nat×Nat),((∀A∈P,A∈P')∧∃e:Nat,r=.int .i64 (e:Nat)∧Mw κ (κ.β.free≤0) (WrQ A B C g W ino idx s) e z.1)∧L'=ckL c z.1 z.2++L):=by
 obtain⟨gs,dp,wA,hdp⟩:=hk.rep;have hwn:=hk.wn;have hbn:=hk.bn;refine .bo (fn:=Tryz.f92) (N:=45) ?_;refine .seq (.region (.pu .as (.nil ?_)));by_cases hf:κ.β.free≤0
 ·refine .seq (.region (.ld ?_));refine .ld ?_;refine .call (xr _ _ c κ y s hT hk.bk.bk hf) ?_;rintro _ L P ⟨rfl,rfl,rfl⟩;refine .pu .mv (.pu .ex (.pu .ex (.pu .as (.pu .as (.nil (.seq (.seq (.region (.pu .mv (.pu .cmp (.nil ?_)))))))))));refine .yes rfl (.seq (.region (.pu .mv (.pu .as (.nil (.ret ?_))))));exact⟨_,.tmp rfl .nil,_,_,.refl _ _,(κ,y),⟨fun _ h=>h,5,rfl,.inl ⟨rfl,hf,rfl⟩⟩,rfl⟩
 ·refine .seq (.region (.ld ?_));refine .ld ?_;refine .call (xw _ _ c κ y s hT hk.bk.bk (by omega) hs (by omega) hk.fn hk.f4 hbn) ?_;rintro _ L P ⟨b,rfl,hb1,hb2,hb3,rfl,rfl⟩;refine .pu .mv (.pu .ex (.pu .ex (.pu .as (.pu .as (.nil (.seq (.seq (.region (.pu .mv (.pu .cmp (.nil ?_)))))))))));refine .no rfl (.skip (.seq (.seq (.region ?_))));have wB:(⟨ino,idx,1,0,0,s,b⟩:Chn).Fit:=⟨hi0,hi1,hx,⟨by show 1≤1;omega,by show 1≤3;omega⟩,by show 0<_;omega,by show 0<_;omega,by show b<65536;omega,hs⟩;obtain⟨wF,wH,wL⟩:=xz hk.bk hb2 hb1 hb3 (⟨ino,idx,1,0,0,s,b⟩:Chn) rfl (by show(1:Nat)≠3;decide);refine .ld ?_;refine .pu .mv (.off (.off (.off (.off (.pu .pk (.nil ?_))))));refine .no rfl (.skip ?_);refine .seq (.drawn fun _=>?_);refine .lo 0 2 .ld .mk ?_;refine .lo 0 2 .ld .mk ?_;refine .lo 0 2 .ld .mk ?_;refine .lo 0 0 .ld .mk ?_
  refine .cb fun v40=>?_;refine .call (j8 _ _ _ s (.o .l0) (fun e=>by rw[e]at hs;cases hs) (by omega)) ?_;rintro _ L P ⟨rfl,rfl,rfl⟩;refine .pu (.bd (vs:=[_,_,_,_,_,_])) (.pu .mv (.pu (.bd (vs:=[_,_,_,_,_,_,_])) ?_));refine .call (Sp.ent (Ent.pull [_] (Pt c (ckC κ.t κ.d κ.first y.1 κ.turn) (tz 0 153)::trL κ.t (κ.tr y.2)) _) (cd TC _ _ c κ.t κ.d κ.first y.1 κ.turn (κ.tr y.2) _ gs dp ⟨ino,idx,1,0,0,Md s,b⟩ wA.a (fun _=>hdp) hT wB.held (Ze _))) ?_;rintro _ _ _ ⟨τ',hpo,rfl⟩;obtain⟨hs1,rfl,wC,ht1,ht2,ht3,ht4⟩:=cj (l:=A++B++C) (l':=A++[(⟨ino,idx,1,0,0,s,b⟩:Chn)]++C) hpo wA.a hdp (congrArg some (cf (p:=⟨ino,idx,1,0,0,s,b⟩) hk.ft wB hA hC' hB)) hl (by simpa using hl') hk.pn hk.pb;refine .pu .as (.nil (.cons (.yes .mk (.skip (.skip (.skip .nil)))) (.cons (.yes .mk (.yes .mk (.yes .mk (.skip .nil)))) (.cons (.yes .mk (.yes .mk (.yes .mk (.skip .nil)))) (.cons (.yes .mk (.yes .mk (.yes .mk (.skip .nil)))) .nil)))) (.ret ?_))
  refine⟨_,.tmp rfl .nil,_,_,(Ent.dropAt [_,_,_,_] _ _),({κ with τ:=τ',β:=({κ.β with us:=Gp κ.β.us b}:AS0),δ:=κ.δ.push (κ.first+b) s},(y.1,τ'.a)),⟨hs1,0,rfl,.inr ⟨rfl,hf,⟨rfl,rfl,rfl,rfl,rfl⟩,rfl,b,?_⟩⟩,rfl⟩
  exact hk.write (p:=⟨ino,idx,1,0,0,s,b⟩) hA hC' wB wC ht3 ht4 (by rw[hub];exact wH hub) rfl ⟨rfl,rfl,rfl,rfl,rfl⟩ wF
theorem Zig(c:Nat)(κ:Ck)(y:Nat×Nat)(A B C:List Chn)(g W ino idx:Nat)(s:Bs)(old:Mc)(b0 b1 b2 b3 b4 b5 z0 z1 z2 z3 z4 z5:Nat)(h0:Pt b0 [.pointer (some ⟨c,0,none⟩)] z0∈P)(h1:Pt b1 [S s] z1∈P)(h2:Pt b2 [.bool true] z2∈P)(h3:Pt b3 (hC old) z3∈P)(h4:Pt b4 [.int .i64 (ino:Nat)] z4∈P)(h5:Pt b5 [.int .i64 (idx:Nat)] z5∈P)
 (hT:Ro 0 G5∈P) (hk:CkOk κ (A++B++C) g W) (hW:W<1000000) (hA:∀a∈A,ltK a.at (ino,idx)) (hC':∀c∈C,ltK (ino,idx) c.at) (hB:B=[]∨∃q,B=[q]∧q.at=(ino,idx)) (hi0:1≤ino) (hi1:ino<4294967296) (hx:idx<32) (hs:s.length=256) (hl:(A++B++C).length≤60) (hl':(A++[(⟨ino,idx,1,0,0,s,0⟩:Chn)]++C).length≤60) (hst:old.st=3) (hub:ub B=[]):Sp SET 92 [pp0 b0,pp0 b1,pp0 b2,pp0 b3,pp0 b4,pp0 b5] (ckL c κ y++L) P (fun r L' P'=>∃z:Ck×(Nat×Nat),((∀A∈P,A∈P')∧∃e:Nat,r=.int .i64 (e:Nat)∧Mw κ (κ.β.free≤0) (WrQ A B C g W ino idx s) e z.1)∧L'=ckL c z.1 z.2++L):=by
 obtain⟨gs,dp,wA,hdp⟩:=hk.rep;have hwn:=hk.wn;have hbn:=hk.bn;refine .bo (fn:=Tryz.f92) (N:=45) ?_;refine .seq (.region (.pu .as (.nil ?_)));by_cases hf:κ.β.free≤0
 ·refine .seq (.region (.ld ?_));refine .ld ?_;refine .call (xr _ _ c κ y s hT hk.bk.bk hf) ?_;rintro _ L P ⟨rfl,rfl,rfl⟩;refine .pu .mv (.pu .ex (.pu .ex (.pu .as (.pu .as (.nil (.seq (.seq (.region (.pu .mv (.pu .cmp (.nil ?_)))))))))));refine .yes rfl (.seq (.region (.pu .mv (.pu .as (.nil (.ret ?_))))));exact⟨_,.tmp rfl .nil,_,_,.refl _ _,(κ,y),⟨fun _ h=>h,5,rfl,.inl ⟨rfl,hf,rfl⟩⟩,rfl⟩
 ·refine .seq (.region (.ld ?_));refine .ld ?_;refine .call (xw _ _ c κ y s hT hk.bk.bk (by omega) hs (by omega) hk.fn hk.f4 hbn) ?_;rintro _ L P ⟨b,rfl,hb1,hb2,hb3,rfl,rfl⟩;refine .pu .mv (.pu .ex (.pu .ex (.pu .as (.pu .as (.nil (.seq (.seq (.region (.pu .mv (.pu .cmp (.nil ?_)))))))))));refine .no rfl (.skip (.seq (.seq (.region ?_))));have wB:(⟨ino,idx,1,0,0,s,b⟩:Chn).Fit:=⟨hi0,hi1,hx,⟨by show 1≤1;omega,by show 1≤3;omega⟩,by show 0<_;omega,by show 0<_;omega,by show b<65536;omega,hs⟩;obtain⟨wF,wH,wL⟩:=xz hk.bk hb2 hb1 hb3 (⟨ino,idx,1,0,0,s,b⟩:Chn) rfl (by show(1:Nat)≠3;decide);refine .ld ?_;refine .pu .mv (.on (.pu .fa (.on (.pu .fa (.on (.ld ?_))))));refine .on (.pu (.cmp (q:=false) (hq:=by show some (decide ((old.st:Int)≠3))=some false;simp[hst])) ?_);refine .pu .pk (.nil ?_);refine .no rfl (.skip ?_)
  refine .seq (.drawn fun _=>?_);refine .lo 0 2 .ld .mk ?_;refine .lo 0 2 .ld .mk ?_;refine .lo 0 2 .ld .mk ?_;refine .lo 0 0 .ld .mk ?_;refine .cb fun v40=>?_;refine .call (j8 _ _ _ s (.o .l0) (fun e=>by rw[e]at hs;cases hs) (by omega)) ?_;rintro _ L P ⟨rfl,rfl,rfl⟩;refine .pu (.bd (vs:=[_,_,_,_,_,_])) (.pu .mv (.pu (.bd (vs:=[_,_,_,_,_,_,_])) ?_));refine .call (Sp.ent (Ent.pull [_] (Pt c (ckC κ.t κ.d κ.first y.1 κ.turn) (tz 0 153)::trL κ.t (κ.tr y.2)) _) (cd TC _ _ c κ.t κ.d κ.first y.1 κ.turn (κ.tr y.2) _ gs dp ⟨ino,idx,1,0,0,Md s,b⟩ wA.a (fun _=>hdp) hT wB.held (Ze _))) ?_;rintro _ _ _ ⟨τ',hpo,rfl⟩;obtain⟨hs1,rfl,wC,ht1,ht2,ht3,ht4⟩:=cj (l:=A++B++C) (l':=A++[(⟨ino,idx,1,0,0,s,b⟩:Chn)]++C) hpo wA.a hdp (congrArg some (cf (p:=⟨ino,idx,1,0,0,s,b⟩) hk.ft wB hA hC' hB)) hl (by simpa using hl') hk.pn hk.pb
  refine .pu .as (.nil (.cons (.yes .mk (.skip (.skip (.skip .nil)))) (.cons (.yes .mk (.yes .mk (.yes .mk (.skip .nil)))) (.cons (.yes .mk (.yes .mk (.yes .mk (.skip .nil)))) (.cons (.yes .mk (.yes .mk (.yes .mk (.skip .nil)))) .nil)))) (.ret ?_));refine⟨_,.tmp rfl .nil,_,_,(Ent.dropAt [_,_,_,_] _ _),({κ with τ:=τ',β:=({κ.β with us:=Gp κ.β.us b}:AS0),δ:=κ.δ.push (κ.first+b) s},(y.1,τ'.a)),⟨hs1,0,rfl,.inr ⟨rfl,hf,⟨rfl,rfl,rfl,rfl,rfl⟩,rfl,b,?_⟩⟩,rfl⟩
  exact hk.write (p:=⟨ino,idx,1,0,0,s,b⟩) hA hC' wB wC ht3 ht4 (by rw[hub];exact wH hub) rfl ⟨rfl,rfl,rfl,rfl,rfl⟩ wF
theorem Zih(c:Nat)(κ:Ck)(y:Nat×Nat)(A B C:List Chn)(g W ino idx:Nat)(s:Bs)(old:Mc)(b0 b1 b2 b3 b4 b5 z0 z1 z2 z3 z4 z5:Nat)(h0:Pt b0 [.pointer (some ⟨c,0,none⟩)] z0∈P)(h1:Pt b1 [S s] z1∈P)(h2:Pt b2 [.bool true] z2∈P)(h3:Pt b3 (hC old) z3∈P)(h4:Pt b4 [.int .i64 (ino:Nat)] z4∈P)(h5:Pt b5 [.int .i64 (idx:Nat)] z5∈P)
 (hT:Ro 0 G5∈P) (hk:CkOk κ (A++B++C) g W) (hW:W<1000000) (hA:∀a∈A,ltK a.at (ino,idx)) (hC':∀c∈C,ltK (ino,idx) c.at) (hB:B=[]∨∃q,B=[q]∧q.at=(ino,idx)) (hi0:1≤ino) (hi1:ino<4294967296) (hx:idx<32) (hs:s.length=256) (hl:(A++B++C).length≤60) (hl':(A++[(⟨ino,idx,1,0,0,s,0⟩:Chn)]++C).length≤60) (hst:old.st≠3) (hub:ub B=[old.blk]):Sp SET 92 [pp0 b0,pp0 b1,pp0 b2,pp0 b3,pp0 b4,pp0 b5] (ckL c κ y++L) P (fun r L' P'=>∃z:Ck×(Nat×Nat),((∀A∈P,A∈P')∧∃e:Nat,r=.int .i64 (e:Nat)∧Mw κ (κ.β.free≤0) (WrQ A B C g W ino idx s) e z.1)∧L'=ckL c z.1 z.2++L):=by
 obtain⟨gs,dp,wA,hdp⟩:=hk.rep;have hwn:=hk.wn;have hbn:=hk.bn;refine .bo (fn:=Tryz.f92) (N:=45) ?_;refine .seq (.region (.pu .as (.nil ?_)));by_cases hf:κ.β.free≤0
 ·refine .seq (.region (.ld ?_));refine .ld ?_;refine .call (xr _ _ c κ y s hT hk.bk.bk hf) ?_;rintro _ L P ⟨rfl,rfl,rfl⟩;refine .pu .mv (.pu .ex (.pu .ex (.pu .as (.pu .as (.nil (.seq (.seq (.region (.pu .mv (.pu .cmp (.nil ?_)))))))))));refine .yes rfl (.seq (.region (.pu .mv (.pu .as (.nil (.ret ?_))))));exact⟨_,.tmp rfl .nil,_,_,.refl _ _,(κ,y),⟨fun _ h=>h,5,rfl,.inl ⟨rfl,hf,rfl⟩⟩,rfl⟩
 ·refine .seq (.region (.ld ?_));refine .ld ?_;refine .call (xw _ _ c κ y s hT hk.bk.bk (by omega) hs (by omega) hk.fn hk.f4 hbn) ?_;rintro _ L P ⟨b,rfl,hb1,hb2,hb3,rfl,rfl⟩;refine .pu .mv (.pu .ex (.pu .ex (.pu .as (.pu .as (.nil (.seq (.seq (.region (.pu .mv (.pu .cmp (.nil ?_)))))))))));refine .no rfl (.skip (.seq (.seq (.region ?_))));have wB:(⟨ino,idx,1,0,0,s,b⟩:Chn).Fit:=⟨hi0,hi1,hx,⟨by show 1≤1;omega,by show 1≤3;omega⟩,by show 0<_;omega,by show 0<_;omega,by show b<65536;omega,hs⟩;obtain⟨wF,wH,wL⟩:=xz hk.bk hb2 hb1 hb3 (⟨ino,idx,1,0,0,s,b⟩:Chn) rfl (by show(1:Nat)≠3;decide);refine .ld ?_;refine .pu .mv (.on (.pu .fa (.on (.pu .fa (.on (.ld ?_))))));refine .on (.pu (.cmp (q:=true) (hq:=by show some (decide ((old.st:Int)≠3))=some true;simp;omega)) ?_);refine .pu .pk (.nil ?_);refine .yes rfl ?_
  refine .seq (.drawn fun _=>?_);refine .lo 0 0 .ld .mk ?_;refine .pu .nc (.pu .fa (.lo 0 0 .ld .mk ?_));refine .pu .fa (.lo 0 0 .ld .mk ?_);refine .call (Sp.up (.s (.s (.s (.s .z)))) (fun L=>jz L _ _ _ old.blk (wL old.blk hub).1)) ?_;rintro _ L P ⟨rfl,rfl,rfl⟩;refine .pu .as (.nil (.cons (.yes .mk (.skip .nil)) (.cons (.yes .mk (.skip .nil)) (.cons (.yes .mk (.skip .nil)) .nil))) (.seq (.region (.pu .mv (.pu .cmp (.nil ?_))))));refine .no rfl (.skip ?_);refine .seq (.drawn fun _=>?_);refine .lo 0 2 .ld .mk ?_;refine .lo 0 2 .ld .mk ?_;refine .lo 0 2 .ld .mk ?_;refine .lo 0 0 .ld .mk ?_;refine .cb fun v40=>?_;refine .call (j8 _ _ _ s (.o .l0) (fun e=>by rw[e]at hs;cases hs) (by omega)) ?_;rintro _ L P ⟨rfl,rfl,rfl⟩;refine .pu (.bd (vs:=[_,_,_,_,_,_])) (.pu .mv (.pu (.bd (vs:=[_,_,_,_,_,_,_])) ?_));refine .call (Sp.ent (Ent.pull [_] (Pt c (ckC κ.t κ.d κ.first y.1 κ.turn) (tz 0 153)::trL κ.t (κ.tr y.2)) _) (cd TC _ _ c κ.t κ.d κ.first y.1 κ.turn (κ.tr y.2) _ gs dp ⟨ino,idx,1,0,0,Md s,b⟩ wA.a (fun _=>hdp) hT wB.held (Ze _))) ?_;rintro _ _ _ ⟨τ',hpo,rfl⟩
  obtain⟨hs1,rfl,wC,ht1,ht2,ht3,ht4⟩:=cj (l:=A++B++C) (l':=A++[(⟨ino,idx,1,0,0,s,b⟩:Chn)]++C) hpo wA.a hdp (congrArg some (cf (p:=⟨ino,idx,1,0,0,s,b⟩) hk.ft wB hA hC' hB)) hl (by simpa using hl') hk.pn hk.pb;refine .pu .as (.nil (.cons (.yes .mk (.skip (.skip (.skip .nil)))) (.cons (.yes .mk (.yes .mk (.yes .mk (.skip .nil)))) (.cons (.yes .mk (.yes .mk (.yes .mk (.skip .nil)))) (.cons (.yes .mk (.yes .mk (.yes .mk (.skip .nil)))) .nil)))) (.ret ?_));refine⟨_,.tmp rfl .nil,_,_,(Ent.dropAt [_,_,_,_] _ _),({κ with τ:=τ',β:=(({κ.β with us:=Gp κ.β.us b}:AS0).give old.blk),δ:=κ.δ.push (κ.first+b) s},(y.1,τ'.a)),⟨hs1,0,rfl,.inr ⟨rfl,hf,⟨rfl,rfl,rfl,rfl,rfl⟩,rfl,b,?_⟩⟩,rfl⟩
  exact hk.write (p:=⟨ino,idx,1,0,0,s,b⟩) hA hC' wB wC ht3 ht4 (by rw[hub];exact(wL old.blk hub).2) rfl ⟨rfl,rfl,rfl,rfl,rfl⟩ wF
structure H6(A B C:List Chn)(k:Nat×Nat):Prop where
 a:∀a∈A,ltK a.at k
 c:∀c∈C,ltK k c.at
 b:B=[]∨∃q,B=[q]∧q.at=k
theorem x9{P0:List Asn}{c:Nat}{κ:Ck}{fid:FuncId}{caps:Array Value}{e0:Prop}{Q:Ck→Prop}(h:∀(y:Nat×Nat) (L P:List Asn),(∀A∈P0,A∈P)→Sp SET fid ([]++[]++caps.toList) (ckL c κ y++L) P (fun r L' P'=>∃z:Ck×(Nat×Nat),((∀A∈P,A∈P')∧∃e:Nat,r=.int .i64 (e:Nat)∧Mw κ e0 Q e z.1)∧L'=ckL c z.1 z.2++L)):UR P0 c κ [] fid caps (Mw κ e0 Q):=fun y L P h0=>
 (h y L P h0).post (fun v L' P' ⟨z,⟨h1,e,h2,h3⟩,h4⟩=>⟨_,_,.refl _ _,(z.1,z.2,[]),⟨h1,e,h2,fun he=>by
  rcases h3 with⟨_,_,h3⟩|⟨h3,_⟩
  ·exact h3
  ·exact absurd h3 he,h3⟩,h4⟩)
def CkR(c:Nat)(κ:Ck)(e0:Prop)(Q:Ck→Prop)(L P:List Asn)(r:Value)(L' P':List Asn):Prop:=(∀A∈P,A∈P')∧∃e κ',r=.int .i64 (e:Nat)∧Mw κ e0 Q e κ'∧L'=CkS c κ'::L
theorem UT{P:List Asn}{a b d e f X Y:Asn}{P1:List Asn}(h1:∀A∈X::f::e::d::P,A∈P1)(hY:Y∈P){A:Asn}(hA:A∈[X,d,a,b,f,e,Y]):A∈b::a::P1:=by
 simp only[Zg,Ut,or_false]at hA;rcases hA with rfl|rfl|rfl|rfl|rfl|rfl|rfl
 ·exact .tail _ (.tail _ (h1 _ (.head _)))
 ·exact .tail _ (.tail _ (h1 _ (.tail _ (.tail _ (.tail _ (.head _))))))
 ·exact .tail _ (.head _)
 ·exact .head _
 ·exact .tail _ (.tail _ (h1 _ (.tail _ (.head _))))
 ·exact .tail _ (.tail _ (h1 _ (.tail _ (.tail _ (.head _)))))
 ·exact .tail _ (.tail _ (h1 _ (.tail _ (.tail _ (.tail _ (.tail _ hY))))))
theorem Zii(c:Nat)(κ:Ck)(A B C:List Chn)(g W ino idx:Nat)(s:Bs)(hT:Ro 0 G5∈P)(hk:CkOk κ (A++B++C) g W)(hW:W<1000000)(hp:H6 A B C (ino,idx))(hi0:1≤ino)(hi1:ino<4294967296)(hx:idx<32)(hs:s.length=256)(hl:(A++B++C).length≤60)(hl':(A++[(⟨ino,idx,1,0,0,s,0⟩:Chn)]++C).length≤60)(hBn:B=[]):Sp SET 27 [.pointer (some ⟨c,0,none⟩),.int .i64 (ino:Nat),.int .i64 (idx:Nat),S s] (CkS c κ::L) P (CkR c κ (κ.β.free≤0) (WrQ A B C g W ino idx s) L P):=by
 refine Sp.open fun y _=>?_;obtain⟨gs,dp,wA,hdp⟩:=hk.rep;have hlk:=N6 hk.ft hi1 hx hp.a hp.c;obtain⟨Q0,hQ0⟩:∃Q0:List Asn,Q0=P:=⟨P,rfl⟩;have hlo:=hlk.2.2.1 hBn;refine .bo (fn:=Tryz.f27) (N:=53) ?_;refine .seq (.region ?_);refine .bx (cs:=[_]) fun b4=>?_;refine .bx (cs:=[_]) fun b5=>?_;refine .bx (cs:=[_]) fun b6=>?_;refine .bx (cs:=[_]) fun b7=>?_;refine .pu .as (.nil (.seq (.seq (.region (.ld ?_)))));refine .pu .peq (.pu .mv (.on (.ld ?_)));refine .on (.pu .cn (.pu .pk (.pu .mv (.on (.ld ?_)))));refine .on (.pu .cn (.pu .pk (.pu .mv (.on (.ld ?_)))));refine .on (.pu .cn (.pu .pk (.pu .mv (.on (.ld ?_)))));refine .on (.pu .cn (.pu .pk (.pu .mv (.on (.ld ?_)))));refine .on (.pu .ls (.on (.pu .cn (.pu .pk (.nil ?_)))));refine .no rfl (.skip (.seq (.region (.ent (Ent.pt.trans (Ent.pt.trans (Ent.pt.trans Ent.pt))) ?_))));refine .ld ?_;refine .ld ?_
 refine .ld ?_;refine .call (IY TC _ _ c κ.t κ.d κ.first y.1 κ.turn (κ.tr y.2) _ gs dp ino idx wA.a hi0 hi1 hx hlo) ?_;rintro _ _ _ ⟨rfl,rfl,hs1⟩;refine .pu .mv (.pu .ex (.pu .ex ?_));refine .nw (cs:=[.int .i64 0,.int .i64 0,.int .i64 0,.int .i64 0,.int .i64 0,.int .i64 0,.int .i64 0]) fun b9=>?_;refine .st (vs:=[_,_,_,_,_,_,_]) ?_;refine .pu .as (.nil (.seq (.region (.pu .mv ?_))));refine .pu (.cmp (q:=false) (hq:=by show some (decide ((7:Int)=0))=some false;decide)) ?_;refine .nw (cs:=[.bool false]) fun b11=>?_;refine .st (vs:=[_]) ?_;refine .nil (.seq (.seq (.region (.ld ?_))));refine .pu .nt (.pu .mv (.on (.pu .mv ?_)));refine .on (.pu (.cmp (q:=false) (hq:=by show some (decide ((7:Int)≠7))=some false;decide)) ?_);refine .pu .pk (.nil ?_);refine .no rfl (.skip (.seq (.region (.ent (Ent.pt.trans Ent.pt) ?_))));have hp4:=hs1 _ (.head _)
 have xE:=Uu.tail (Pt b9 (hC (⟨0,0,0,0,0,0,0⟩:Mc)) (tz 0 148)) (Uu.tail (Pt b11 [.bool false] (tz 0 4)) hp4);refine .ld ?_;refine .pu .mf ?_;refine .call (cg _ _ [Pt b4 [.pointer (some ⟨c,0,none⟩)] (tz 0 46),Pt b7 [S s] (tz 0 9),Pt b11 [.bool false] (tz 0 4),Pt b9 (hC (⟨0,0,0,0,0,0,0⟩:Mc)) (tz 0 148),Pt b5 [.int .i64 (ino:Nat)] (tz 0 3),Pt b6 [.int .i64 (idx:Nat)] (tz 0 3),Ro 0 G5] [] c κ y _ #[pp0 b4,pp0 b7,pp0 b11,pp0 b9,pp0 b5,pp0 b6] (Mw κ (κ.β.free≤0) (WrQ A B C g W ino idx s)) (x9 fun y L P h0=>Zif L P c κ y A B C g W ino idx s (⟨0,0,0,0,0,0,0⟩:Mc) b4 b7 b11 b9 b5 b6 _ _ _ _ _ _ (h0 _ (.head _)) (h0 _ (.tail _ (.head _))) (h0 _ (.tail _ (.tail _ (.head _)))) (h0 _ (.tail _ (.tail _ (.tail _ (.head _))))) (h0 _ (.tail _ (.tail _ (.tail _ (.tail _ (.head _)))))) (h0 _ (.tail _ (.tail _ (.tail _ (.tail _ (.tail _ (.head _))))))) (h0 _ (.tail _ (.tail _ (.tail _ (.tail _ (.tail _ (.tail _ (.head _)))))))) hk hW hp.a hp.c hp.b hi0 hi1 hx hs hl hl' (by rw[hBn];rfl)) (fun A hA=>UT hs1 hT hA)) ?_;rintro _ _ _ ⟨hs2,e,κ',rfl,hne,hq',rfl⟩
 refine .pu .as (.nil (.ret ?_));exact⟨_,.tmp rfl .nil,_,_,.refl _ _,fun A hA=>hs2 _ (.tail _ (.tail _ (hs1 _ (.tail _ (.tail _ (.tail _ (.tail _ hA))))))),e,κ',rfl,hq',rfl⟩
theorem Zij(c:Nat)(κ:Ck)(A B C:List Chn)(g W ino idx:Nat)(s:Bs)(hT:Ro 0 G5∈P)(hk:CkOk κ (A++B++C) g W)(hW:W<1000000)(hp:H6 A B C (ino,idx))(hi0:1≤ino)(hi1:ino<4294967296)(hx:idx<32)(hs:s.length=256)(hl:(A++B++C).length≤60)(hl':(A++[(⟨ino,idx,1,0,0,s,0⟩:Chn)]++C).length≤60)(q:Chn)(hq:q.at=(ino,idx))(hBq:B=[q])(hst:q.st=3):Sp SET 27 [.pointer (some ⟨c,0,none⟩),.int .i64 (ino:Nat),.int .i64 (idx:Nat),S s] (CkS c κ::L) P (CkR c κ (κ.β.free≤0) (WrQ A B C g W ino idx s) L P):=by
 refine Sp.open fun y _=>?_;obtain⟨gs,dp,wA,hdp⟩:=hk.rep;have hlk:=N6 hk.ft hi1 hx hp.a hp.c;obtain⟨Q0,hQ0⟩:∃Q0:List Asn,Q0=P:=⟨P,rfl⟩;have hqf:q.Fit:=hk.ft q (by rw[hBq];simp);have hqi:q.ino=ino:=congrArg J7 hq;have hqx:q.idx=idx:=congrArg Ky hq;have hlo:=hlk.2.2.2 q hBq hq;subst hqi hqx;refine .bo (fn:=Tryz.f27) (N:=53) ?_;refine .seq (.region ?_);refine .bx (cs:=[_]) fun b4=>?_;refine .bx (cs:=[_]) fun b5=>?_;refine .bx (cs:=[_]) fun b6=>?_;refine .bx (cs:=[_]) fun b7=>?_;refine .pu .as (.nil (.seq (.seq (.region (.ld ?_)))));refine .pu .peq (.pu .mv (.on (.ld ?_)));refine .on (.pu .cn (.pu .pk (.pu .mv (.on (.ld ?_)))));refine .on (.pu .cn (.pu .pk (.pu .mv (.on (.ld ?_)))));refine .on (.pu .cn (.pu .pk (.pu .mv (.on (.ld ?_)))));refine .on (.pu .cn (.pu .pk (.pu .mv (.on (.ld ?_)))));refine .on (.pu .ls (.on (.pu .cn (.pu .pk (.nil ?_)))))
 refine .no rfl (.skip (.seq (.region (.ent (Ent.pt.trans (Ent.pt.trans (Ent.pt.trans Ent.pt))) ?_))));refine .ld ?_;refine .ld ?_;refine .ld ?_;refine .call (Cj TC _ _ c κ.t κ.d κ.first y.1 κ.turn (κ.tr y.2) _ gs dp q.held wA.a hqf.held hqf.i0 hqf.x1 hlo) ?_;rintro _ _ _ ⟨rfl,rfl,hs1⟩;refine .pu .mv (.pu .ex (.pu .ex ?_));refine .nw (cs:=[.int .i64 0,.int .i64 0,.int .i64 0,.int .i64 0,.int .i64 0,.int .i64 0,.int .i64 0]) fun b9=>?_;refine .st (vs:=[_,_,_,_,_,_,_]) ?_;refine .pu .as (.nil (.seq (.region (.pu .mv ?_))));refine .pu (.cmp (q:=true) (hq:=by show some (decide ((0:Int)=0))=some true;decide)) ?_;refine .nw (cs:=[.bool false]) fun b11=>?_;refine .st (vs:=[_]) ?_;refine .nil (.seq (.seq (.region (.ld ?_))));refine .pu .nt (.pu .mv (.off (.off (.pu .pk (.nil ?_)))));refine .no rfl (.skip (.seq (.region (.ent (Ent.pt.trans Ent.pt) ?_))))
 have hp4:=hs1 _ (.head _);have xE:=Uu.tail (Pt b9 (hC q.held) (tz 0 148)) (Uu.tail (Pt b11 [.bool true] (tz 0 4)) hp4);refine .ld ?_;refine .pu .mf ?_;refine .call (cg _ _ [Pt b4 [.pointer (some ⟨c,0,none⟩)] (tz 0 46),Pt b7 [S s] (tz 0 9),Pt b11 [.bool true] (tz 0 4),Pt b9 (hC q.held) (tz 0 148),Pt b5 [.int .i64 (q.ino:Nat)] (tz 0 3),Pt b6 [.int .i64 (q.idx:Nat)] (tz 0 3),Ro 0 G5] [] c κ y _ #[pp0 b4,pp0 b7,pp0 b11,pp0 b9,pp0 b5,pp0 b6] (Mw κ (κ.β.free≤0) (WrQ A B C g W q.ino q.idx s)) (x9 fun y L P h0=>Zig L P c κ y A B C g W q.ino q.idx s q.held b4 b7 b11 b9 b5 b6 _ _ _ _ _ _ (h0 _ (.head _)) (h0 _ (.tail _ (.head _))) (h0 _ (.tail _ (.tail _ (.head _)))) (h0 _ (.tail _ (.tail _ (.tail _ (.head _))))) (h0 _ (.tail _ (.tail _ (.tail _ (.tail _ (.head _)))))) (h0 _ (.tail _ (.tail _ (.tail _ (.tail _ (.tail _ (.head _))))))) (h0 _ (.tail _ (.tail _ (.tail _ (.tail _ (.tail _ (.tail _ (.head _)))))))) hk hW hp.a hp.c hp.b hi0 hi1 hx hs hl hl' hst (by rw[hBq];exact UC hst)) (fun A hA=>UT hs1 hT hA)) ?_;rintro _ _ _ ⟨hs2,e,κ',rfl,hne,hq',rfl⟩
 refine .pu .as (.nil (.ret ?_));exact⟨_,.tmp rfl .nil,_,_,.refl _ _,fun A hA=>hs2 _ (.tail _ (.tail _ (hs1 _ (.tail _ (.tail _ (.tail _ (.tail _ hA))))))),e,κ',rfl,hq',rfl⟩
theorem Zik(c:Nat)(κ:Ck)(A B C:List Chn)(g W ino idx:Nat)(s:Bs)(hT:Ro 0 G5∈P)(hk:CkOk κ (A++B++C) g W)(hW:W<1000000)(hp:H6 A B C (ino,idx))(hi0:1≤ino)(hi1:ino<4294967296)(hx:idx<32)(hs:s.length=256)(hl:(A++B++C).length≤60)(hl':(A++[(⟨ino,idx,1,0,0,s,0⟩:Chn)]++C).length≤60)(q:Chn)(hq:q.at=(ino,idx))(hBq:B=[q])(hst:q.st≠3):Sp SET 27 [.pointer (some ⟨c,0,none⟩),.int .i64 (ino:Nat),.int .i64 (idx:Nat),S s] (CkS c κ::L) P (CkR c κ (κ.β.free≤0) (WrQ A B C g W ino idx s) L P):=by
 refine Sp.open fun y _=>?_;obtain⟨gs,dp,wA,hdp⟩:=hk.rep;have hlk:=N6 hk.ft hi1 hx hp.a hp.c;obtain⟨Q0,hQ0⟩:∃Q0:List Asn,Q0=P:=⟨P,rfl⟩;have hqf:q.Fit:=hk.ft q (by rw[hBq];simp);have hqi:q.ino=ino:=congrArg J7 hq;have hqx:q.idx=idx:=congrArg Ky hq;have hlo:=hlk.2.2.2 q hBq hq;subst hqi hqx;refine .bo (fn:=Tryz.f27) (N:=53) ?_;refine .seq (.region ?_);refine .bx (cs:=[_]) fun b4=>?_;refine .bx (cs:=[_]) fun b5=>?_;refine .bx (cs:=[_]) fun b6=>?_;refine .bx (cs:=[_]) fun b7=>?_;refine .pu .as (.nil (.seq (.seq (.region (.ld ?_)))));refine .pu .peq (.pu .mv (.on (.ld ?_)));refine .on (.pu .cn (.pu .pk (.pu .mv (.on (.ld ?_)))));refine .on (.pu .cn (.pu .pk (.pu .mv (.on (.ld ?_)))));refine .on (.pu .cn (.pu .pk (.pu .mv (.on (.ld ?_)))));refine .on (.pu .cn (.pu .pk (.pu .mv (.on (.ld ?_)))));refine .on (.pu .ls (.on (.pu .cn (.pu .pk (.nil ?_)))))
 refine .no rfl (.skip (.seq (.region (.ent (Ent.pt.trans (Ent.pt.trans (Ent.pt.trans Ent.pt))) ?_))));refine .ld ?_;refine .ld ?_;refine .ld ?_;refine .call (Cj TC _ _ c κ.t κ.d κ.first y.1 κ.turn (κ.tr y.2) _ gs dp q.held wA.a hqf.held hqf.i0 hqf.x1 hlo) ?_;rintro _ _ _ ⟨rfl,rfl,hs1⟩;refine .pu .mv (.pu .ex (.pu .ex ?_));refine .nw (cs:=[.int .i64 0,.int .i64 0,.int .i64 0,.int .i64 0,.int .i64 0,.int .i64 0,.int .i64 0]) fun b9=>?_;refine .st (vs:=[_,_,_,_,_,_,_]) ?_;refine .pu .as (.nil (.seq (.region (.pu .mv ?_))));refine .pu (.cmp (q:=true) (hq:=by show some (decide ((0:Int)=0))=some true;decide)) ?_;refine .nw (cs:=[.bool false]) fun b11=>?_;refine .st (vs:=[_]) ?_;refine .nil (.seq (.seq (.region (.ld ?_))));refine .pu .nt (.pu .mv (.off (.off (.pu .pk (.nil ?_)))));refine .no rfl (.skip (.seq (.region (.ent (Ent.pt.trans Ent.pt) ?_))))
 have hp4:=hs1 _ (.head _);have xE:=Uu.tail (Pt b9 (hC q.held) (tz 0 148)) (Uu.tail (Pt b11 [.bool true] (tz 0 4)) hp4);refine .ld ?_;refine .pu .mf ?_;refine .call (cg _ _ [Pt b4 [.pointer (some ⟨c,0,none⟩)] (tz 0 46),Pt b7 [S s] (tz 0 9),Pt b11 [.bool true] (tz 0 4),Pt b9 (hC q.held) (tz 0 148),Pt b5 [.int .i64 (q.ino:Nat)] (tz 0 3),Pt b6 [.int .i64 (q.idx:Nat)] (tz 0 3),Ro 0 G5] [] c κ y _ #[pp0 b4,pp0 b7,pp0 b11,pp0 b9,pp0 b5,pp0 b6] (Mw κ (κ.β.free≤0) (WrQ A B C g W q.ino q.idx s)) (x9 fun y L P h0=>Zih L P c κ y A B C g W q.ino q.idx s q.held b4 b7 b11 b9 b5 b6 _ _ _ _ _ _ (h0 _ (.head _)) (h0 _ (.tail _ (.head _))) (h0 _ (.tail _ (.tail _ (.head _)))) (h0 _ (.tail _ (.tail _ (.tail _ (.head _))))) (h0 _ (.tail _ (.tail _ (.tail _ (.tail _ (.head _)))))) (h0 _ (.tail _ (.tail _ (.tail _ (.tail _ (.tail _ (.head _))))))) (h0 _ (.tail _ (.tail _ (.tail _ (.tail _ (.tail _ (.tail _ (.head _)))))))) hk hW hp.a hp.c hp.b hi0 hi1 hx hs hl hl' hst (by rw[hBq];exact kc hst)) (fun A hA=>UT hs1 hT hA)) ?_;rintro _ _ _ ⟨hs2,e,κ',rfl,hne,hq',rfl⟩
 refine .pu .as (.nil (.ret ?_));exact⟨_,.tmp rfl .nil,_,_,.refl _ _,fun A hA=>hs2 _ (.tail _ (.tail _ (hs1 _ (.tail _ (.tail _ (.tail _ (.tail _ hA))))))),e,κ',rfl,hq',rfl⟩
theorem Zil(c:Nat)(κ:Ck)(A B C:List Chn)(g W ino idx:Nat)(s:Bs)(hT:Ro 0 G5∈P)(hk:CkOk κ (A++B++C) g W)(hW:W<1000000)(hp:H6 A B C (ino,idx))(hi0:1≤ino)(hi1:ino<4294967296)(hx:idx<32)(hs:s.length=256)(hl:(A++B++C).length≤60)(hl':(A++[(⟨ino,idx,1,0,0,s,0⟩:Chn)]++C).length≤60):Sp SET 27 [.pointer (some ⟨c,0,none⟩),.int .i64 (ino:Nat),.int .i64 (idx:Nat),S s] (CkS c κ::L) P (CkR c κ (κ.β.free≤0) (WrQ A B C g W ino idx s) L P):=by
 rcases hp.b with h|⟨q,hB,hq⟩
 ·exact Zii L P c κ A B C g W ino idx s hT hk hW hp hi0 hi1 hx hs hl hl' h
 ·by_cases hst:q.st=3
  ·exact Zij L P c κ A B C g W ino idx s hT hk hW hp hi0 hi1 hx hs hl hl' q hq hB hst
  ·exact Zik L P c κ A B C g W ino idx s hT hk hW hp hi0 hi1 hx hs hl hl' q hq hB hst
theorem CkOk.put{κ κ':Ck}{A B C:List Chn}{g g' W:Nat}{p:Chn}(h:CkOk κ (A++B++C) g W)(hA:∀a∈A,ltK a.at p.at)(hC:∀c∈C,ltK p.at c.at)(hp:p.Fit)(wA:∃gs dp,Rep TC κ'.τ ((A++[p]++C).map Gx) gs dp∧dp≤2)(hn:κ'.τ.α.n=64)(hbk:κ'.τ.α.back=0)(hb:Mv κ'.β (ub (A++[p]++C)) g')(hδ:κ'.δ=κ.δ)(hs:Same κ κ')(hdv:p.st≠3→Cl κ.δ.ws (κ.first+p.blk)=some p.by'):CkOk κ' (A++[p]++C) g' W:=by
 refine⟨wA,hn,hbk,(IF h.so hA hC).1,fun q hq=>?_,hb,?_,?_,fun q hq h3=>?_,?_,?_⟩
 ·simp only[Zk,Z6]at hq;rcases hq with(hq|rfl)|hq
  ·exact h.ft q (by simp[hq])
  ·exact hp
  ·exact h.ft q (by simp[hq])
 ·rw[hδ,hs.f,hs.n];exact h.fn
 ·rw[hs.f];exact h.f4
 ·rw[hδ,hs.f];simp only[Zk,Z6]at hq;rcases hq with(hq|rfl)|hq
  ·exact h.dv q (by simp[hq]) h3
  ·exact hdv h3
  ·exact h.dv q (by simp[hq]) h3
 ·rw[hδ];exact h.wn
 ·rw[hs.u];exact h.tn
def CkE(c:Nat)(κ:Ck)(e:Nat)(L P:List Asn)(r:Value)(L' P':List Asn):Prop:=(∀A∈P,A∈P')∧r=.int .i64 (e:Nat)∧L'=CkS c κ::L
theorem Zim(c:Nat)(κ:Ck)(y:Nat×Nat)(A C:List Chn)(q:Chn)(g W ep num:Nat)(b0 b1 z0 z1:Nat)(h0:Pt b0 [.pointer (some ⟨c,0,none⟩)] z0∈P)(h1:Pt b1 (hC {q.held with st:=2,ep:=ep,num:=num}) z1∈P)
 (hT:Ro 0 G5∈P) (hk:CkOk κ (A++[q]++C) g W) (hp:H6 A [q] C q.at) (hst:q.st=1) (he:ep<4294967296) (hn:num<4294967296) (hl:(A++[q]++C).length≤60):Sp SET 100 [pp0 b0,pp0 b1] (ckL c κ y++L) P (fun r L' P'=>∃z:Ck×(Nat×Nat),((∀A∈P,A∈P')∧∃e:Nat,r=.int .i64 (e:Nat)∧Mw κ False (fun κ'=>CkOk κ' (A++[{q with st:=2,ep:=ep,num:=num}]++C) g W) e z.1)∧L'=ckL c z.1 z.2++L):=by
 obtain⟨gs,dp,wA,hdp⟩:=hk.rep;have hq:=hk.ft q (by simp);have wB:({q with st:=2,ep:=ep,num:=num}:Chn).Fit:=⟨hq.i0,hq.i1,hq.x1,⟨by show 1≤2;omega,by show 2≤3;omega⟩,he,hn,hq.blk,hq.by'⟩
 refine .bo (fn:=Tryz.f100) (N:=5) ?_;refine .seq (.region (.pu .as (.nil (.seq (.region (.ld ?_))))));refine .lda (vs:=[_,_,_,_,_,_,_]) ?_;refine .call (cd TC _ _ c κ.t κ.d κ.first y.1 κ.turn (κ.tr y.2) _ gs dp {q.held with st:=2,ep:=ep,num:=num} wA.a (fun _=>hdp) hT wB.held (Ze _)) ?_;rintro _ _ _ ⟨τ',hpo,rfl⟩
 obtain⟨hs1,rfl,wC,ht1,ht2,ht3,ht4⟩:=cj (l:=A++[q]++C) (l':=A++[({q with st:=2,ep:=ep,num:=num}:Chn)]++C) hpo wA.a hdp (congrArg some (cf (p:= {q with st:=2,ep:=ep,num:=num}) hk.ft wB hp.a hp.c hp.b)) hl (by simpa using hl) hk.pn hk.pb
 refine .pu .as (.nil (.ret ?_));refine⟨_,.tmp rfl .nil,_,_,.refl _ _,({κ with τ:=τ'},(y.1,τ'.a)),⟨hs1,0,rfl,.inr ⟨rfl,fun h=>h,⟨rfl,rfl,rfl,rfl,rfl⟩,rfl,?_⟩⟩,rfl⟩
 refine hk.put (p:= {q with st:=2,ep:=ep,num:=num}) hp.a hp.c wB wC ht3 ht4 ?_ rfl ⟨rfl,rfl,rfl,rfl,rfl⟩ (fun _=>hk.dv q (by simp) (by rw[hst];decide))
 have:=hk.bk;rw[Bz,Bz,kc (by rw[hst];decide)]at this;rw[Bz,Bz,kc (by show(2:Nat)≠3;decide)];exact this
theorem mem3{P:List Asn}{b X Y:Asn}{P1:List Asn}(h1:∀A∈X::P,A∈P1)(hY:Y∈P){A:Asn}(hA:A∈[X,b,Y]):A∈b::P1:=by
 simp only[Zg,Ut,or_false]at hA;rcases hA with rfl|rfl|rfl
 ·exact .tail _ (h1 _ (.head _))
 ·exact .head _
 ·exact .tail _ (h1 _ (.tail _ hY))
theorem Zin(c:Nat)(κ:Ck)(A C:List Chn)(q:Chn)(g W ep num:Nat)(hT:Ro 0 G5∈P)(hk:CkOk κ (A++[q]++C) g W)(hp:H6 A [q] C q.at)(hst:q.st=1)(he:ep≤2147483647)(hn:num≤2147483647)(hl:(A++[q]++C).length≤60):Sp SET 33 [.pointer (some ⟨c,0,none⟩),.int .i64 (q.ino:Nat),.int .i64 (q.idx:Nat),.int .i64 (ep:Nat),.int .i64 (num:Nat)] (CkS c κ::L) P (CkR c κ False (fun κ'=>CkOk κ' (A++[{q with st:=2,ep:=ep,num:=num}]++C) g W) L P):=by
 refine Sp.open fun y _=>?_;obtain⟨gs,dp,wA,hdp⟩:=hk.rep;have hqf:=hk.ft q (by simp);have hlo:=(N6 hk.ft hqf.i1 hqf.x1 hp.a hp.c).2.2.2 q rfl rfl;have wD:q.held.st=1:=hst;refine .bo (fn:=Tryz.f33) (N:=57) ?_;refine .seq (.region ?_);refine .bx (cs:=[_]) fun b5=>?_;refine .pu .as (.nil (.seq (.seq (.region (.ld ?_)))));refine .pu .peq (.pu .mv (.on (.pu .mv (.on (.pu .cn (.pu .pk (.pu .mv (.on (.pu .mv (.on (.pu .cn (.pu .pk (.pu .mv (.on (.pu .mv (.on (.pu .cn (.pu .pk (.pu .mv (.on (.pu .mv (.on (.pu .cn (.pu .pk (.nil ?_)))))))))))))))))))))))));refine .no rfl (.skip (.seq (.region (.ent Ent.pt ?_))));refine .ld ?_;refine .pu .mv (.pu .mv ?_);refine .call (Cj TC _ _ c κ.t κ.d κ.first y.1 κ.turn (κ.tr y.2) _ gs dp q.held wA.a hqf.held hqf.i0 hqf.x1 hlo) ?_;rintro _ _ _ ⟨rfl,rfl,hs1⟩;refine .pu .mv (.pu .ex (.pu .ex ?_));refine .nw (cs:=[.int .i64 0,.int .i64 0,.int .i64 0,.int .i64 0,.int .i64 0,.int .i64 0,.int .i64 0]) fun b11=>?_
 refine .st (vs:=[_,_,_,_,_,_,_]) ?_;refine .pu .as (.nil (.seq (.block (.seq (.region (.pu .mv (.pu .cmp (.pu .as (.nil ?_)))))))));refine .no rfl (.seq (.region (.pu .fa (.pu .fa (.ld ?_)))));refine .pu (.cmp (q:=false) (hq:=by show some (decide ((q.held.st:Int)≠1))=some false;simp[wD])) ?_;refine .pu .as (.nil ?_);refine .no rfl (.skip (.seq (.region (.pu .mv (.pu .mv (.pu .fa (.pu .fa (.st (vs:=[_]) ?_))))))));refine .pu .fa (.pu .fa (.st (vs:=[_]) ?_));refine .pu .fa (.pu .fa (.st (vs:=[_]) ?_));refine .nil (.seq (.region (.ent Ent.pt ?_)));have hp5:=Uu.tail (Pt b11 (hC {q.held with st:=2,ep:=ep,num:=num}) (tz 0 148)) (hs1 _ (.head _))
 refine .ld ?_;refine .pu .mf ?_;refine .call (cg _ _ [Pt b5 [.pointer (some ⟨c,0,none⟩)] (tz 0 46),Pt b11 (hC {q.held with st:=2,ep:=ep,num:=num}) (tz 0 148),Ro 0 G5] [] c κ y _ #[pp0 b5,pp0 b11] (Mw κ False (fun κ'=>CkOk κ' (A++[{q with st:=2,ep:=ep,num:=num}]++C) g W)) (x9 fun y L P h0=>Zim L P c κ y A C q g W ep num b5 b11 _ _ (h0 _ (.head _)) (h0 _ (.tail _ (.head _))) (h0 _ (.tail _ (.tail _ (.head _)))) hk hp hst (by omega) (by omega) hl) (fun A hA=>mem3 hs1 hT hA)) ?_;rintro _ _ _ ⟨hs2,e,κ',rfl,hne,hq',rfl⟩
 refine .pu .as (.nil (.ret ?_));exact⟨_,.tmp rfl .nil,_,_,.refl _ _,fun A hA=>hs2 _ (.tail _ (hs1 _ (.tail _ hA))),e,κ',rfl,hq',rfl⟩
theorem Zio(c:Nat)(κ:Ck)(A C:List Chn)(q:Chn)(g W ep num:Nat)(hk:CkOk κ (A++[q]++C) g W)(hp:H6 A [q] C q.at)(hst:q.st≠1)(he:ep≤2147483647)(hn:num≤2147483647):Sp SET 33 [.pointer (some ⟨c,0,none⟩),.int .i64 (q.ino:Nat),.int .i64 (q.idx:Nat),.int .i64 (ep:Nat),.int .i64 (num:Nat)] (CkS c κ::L) P (CkE c κ 13 L P):=by
 refine Sp.open fun y _=>?_;obtain⟨gs,dp,wA,hdp⟩:=hk.rep;have hqf:=hk.ft q (by simp);have hlo:=(N6 hk.ft hqf.i1 hqf.x1 hp.a hp.c).2.2.2 q rfl rfl;have wD:q.held.st≠1:=hst;refine .bo (fn:=Tryz.f33) (N:=57) ?_;refine .seq (.region ?_);refine .bx (cs:=[_]) fun b5=>?_;refine .pu .as (.nil (.seq (.seq (.region (.ld ?_)))));refine .pu .peq (.pu .mv (.on (.pu .mv (.on (.pu .cn (.pu .pk (.pu .mv (.on (.pu .mv (.on (.pu .cn (.pu .pk (.pu .mv (.on (.pu .mv (.on (.pu .cn (.pu .pk (.pu .mv (.on (.pu .mv (.on (.pu .cn (.pu .pk (.nil ?_)))))))))))))))))))))))));refine .no rfl (.skip (.seq (.region (.ent Ent.pt ?_))));refine .ld ?_;refine .pu .mv (.pu .mv ?_);refine .call (Cj TC _ _ c κ.t κ.d κ.first y.1 κ.turn (κ.tr y.2) _ gs dp q.held wA.a hqf.held hqf.i0 hqf.x1 hlo) ?_;rintro _ _ _ ⟨rfl,rfl,hs1⟩;refine .pu .mv (.pu .ex (.pu .ex ?_));refine .nw (cs:=[.int .i64 0,.int .i64 0,.int .i64 0,.int .i64 0,.int .i64 0,.int .i64 0,.int .i64 0]) fun b11=>?_
 refine .st (vs:=[_,_,_,_,_,_,_]) ?_;refine .pu .as (.nil (.seq (.block (.seq (.region (.pu .mv (.pu .cmp (.pu .as (.nil ?_)))))))));refine .no rfl (.seq (.region (.pu .fa (.pu .fa (.ld ?_)))));refine .pu (.cmp (q:=true) (hq:=by show some (decide ((q.held.st:Int)≠1))=some true;simp;omega)) ?_;refine .pu .as (.nil ?_);refine .yes rfl (.seq (.region (.pu .as (.nil (.ret ?_)))));exact⟨_,.tmp rfl .nil,_,_,(Ent.drop.trans (Dc y)),fun A hA=>hs1 _ (.tail _ hA),rfl,rfl⟩
theorem IR{P0:List Asn}{c:Nat}{κ:Ck}{fid:FuncId}{caps:Array Value}{e0:Prop}{Q:Ck→Prop}{X:Asn}(h:∀(y:Nat×Nat) (L P:List Asn),(∀A∈P0,A∈P)→Sp SET fid ([]++[]++caps.toList) (X::(ckL c κ y++L)) P (fun r L' P'=>∃z:Ck×(Nat×Nat)×Asn,((∀A∈P,A∈P')∧∃e:Nat,r=.int .i64 (e:Nat)∧Mw κ e0 Q e z.1)∧L'=z.2.2::(ckL c z.1 z.2.1++L))):UR P0 c κ [X] fid caps (Mw κ e0 Q):=fun y L P h0=>
 Sp.ent (Ent.pull (ckL c κ y) [X] L) ((h y L P h0).post (fun v L' P' ⟨z,⟨h1,e,h2,h3⟩,h4⟩=>⟨_,_,by rw[h4];exact Ent.push (ckL c z.1 z.2.1) [z.2.2] L,(z.1,z.2.1,[z.2.2]),⟨h1,e,h2,fun he=>by
  rcases h3 with⟨_,_,h3⟩|⟨h3,_⟩
  ·exact h3
  ·exact absurd h3 he,h3⟩,rfl⟩))
def Chn.away(q:Chn):Chn:= {q with st:=3,blk:=0}
theorem Zip(c:Nat)(κ:Ck)(y:Nat×Nat)(A C:List Chn)(q:Chn)(g W:Nat)(b0 b1 z0 z1:Nat)(h0:Pt b0 [.pointer (some ⟨c,0,none⟩)] z0∈P)
 (hT:Ro 0 G5∈P) (hk:CkOk κ (A++[q]++C) g W) (hp:H6 A [q] C q.at) (hst:q.st=2) (hl:(A++[q]++C).length≤60):Sp SET 98 [pp0 b0,pp0 b1] (Pt b1 (hC q.held) z1::(ckL c κ y++L)) P (fun r L' P'=>∃z:Ck×(Nat×Nat)×Asn,((∀A∈P,A∈P')∧∃e:Nat,r=.int .i64 (e:Nat)∧Mw κ False (fun κ'=>CkOk κ' (A++[q.away]++C) (g+1) W) e z.1)∧L'=z.2.2::(ckL c z.1 z.2.1++L)):=by
 obtain⟨gs,dp,wA,hdp⟩:=hk.rep;have hq:=hk.ft q (by simp);have wB:q.away.Fit:=⟨hq.i0,hq.i1,hq.x1,⟨by show 1≤3;omega,by show 3≤3;omega⟩,hq.ep,hq.num,by show 0<_;omega,hq.by'⟩;have hbk:=hk.bk;rw[Bz,Bz,kc (by rw[hst];decide)]at hbk;obtain⟨wV,yG⟩:=(hbk.perm (show(ub A++[q.blk]++ub C).Perm (q.blk::(ub A++ub C)) by rw[Zu];exact Vo)).give;refine .bo (fn:=Tryz.f98) (N:=19) ?_;refine .seq (.region (.pu .as (.nil ?_)));refine .seq (.seq (.drawn fun _=>?_));refine .lo 0 0 .ld .mk ?_;refine .pu .nc (.pu .fa (.lo 0 0 .ld .mk ?_));refine .pu .fa (.lo 0 0 .ld .mk ?_);refine .call (Sp.up (.s (.s (.s (.s (.s .z))))) (fun L=>jz L _ _ _ q.held.blk wV)) ?_;rintro _ L P ⟨rfl,rfl,rfl⟩;refine .pu .as (.nil (.cons (.yes .mk (.skip .nil)) (.cons (.yes .mk (.skip .nil)) (.cons (.yes .mk (.skip .nil)) .nil))) (.seq (.region (.pu .mv (.pu .cmp (.nil ?_))))))
 refine .no rfl (.skip (.seq (.region (.pu .fa (.pu .fa (.st (vs:=[_]) ?_))))));refine .pu .fa (.st (vs:=[_]) ?_);refine .nil (.seq (.region (.ld ?_)));refine .lda (vs:=[_,_,_,_,_,_,_]) ?_;refine .call (Sp.ent (Ent.pull [_] (Pt c (ckC κ.t κ.d κ.first y.1 κ.turn) (tz 0 153)::trL κ.t (κ.tr y.2)) _) (cd TC _ _ c κ.t κ.d κ.first y.1 κ.turn (κ.tr y.2) _ gs dp q.away.held wA.a (fun _=>hdp) hT wB.held (Ze _))) ?_;rintro _ _ _ ⟨τ',hpo,rfl⟩;obtain⟨hs1,rfl,wC,ht1,ht2,ht3,ht4⟩:=cj (l:=A++[q]++C) (l':=A++[q.away]++C) hpo wA.a hdp (congrArg some (cf (p:=q.away) hk.ft wB hp.a hp.c hp.b)) hl (by simpa using hl) hk.pn hk.pb;refine .pu .as (.nil (.ret ?_));refine⟨_,.tmp rfl .nil,_,_,(Ent.pull (Pt c (ckC κ.t κ.d κ.first y.1 κ.turn) (tz 0 153)::trL κ.t τ') [_] _),({κ with τ:=τ',β:=κ.β.give q.blk},(y.1,τ'.a),_),⟨hs1,0,rfl,.inr ⟨rfl,fun h=>h,⟨rfl,rfl,rfl,rfl,rfl⟩,rfl,?_⟩⟩,rfl⟩
 refine hk.put (p:=q.away) hp.a hp.c wB wC ht3 ht4 ?_ rfl ⟨rfl,rfl,rfl,rfl,rfl⟩ (fun h=>absurd rfl h);rw[Bz,Bz,UC rfl,Z9];exact yG
theorem Ziq(c:Nat)(κ:Ck)(A C:List Chn)(q:Chn)(g W:Nat)(hT:Ro 0 G5∈P)(hk:CkOk κ (A++[q]++C) g W)(hp:H6 A [q] C q.at)(hst:q.st=2)(hl:(A++[q]++C).length≤60):Sp SET 31 [.pointer (some ⟨c,0,none⟩),.int .i64 (q.ino:Nat),.int .i64 (q.idx:Nat)] (CkS c κ::L) P (CkR c κ False (fun κ'=>CkOk κ' (A++[q.away]++C) (g+1) W) L P):=by
 refine Sp.open fun y _=>?_;obtain⟨gs,dp,wA,hdp⟩:=hk.rep;have hqf:=hk.ft q (by simp);have hlo:=(N6 hk.ft hqf.i1 hqf.x1 hp.a hp.c).2.2.2 q rfl rfl;have wD:q.held.st=2:=hst;refine .bo (fn:=Tryz.f31) (N:=27) ?_;refine .seq (.region ?_);refine .bx (cs:=[_]) fun b3=>?_;refine .pu .as (.nil (.seq (.region (.ent Ent.pt ?_))));refine .ld ?_;refine .pu .mv (.pu .mv ?_);refine .call (Cj TC _ _ c κ.t κ.d κ.first y.1 κ.turn (κ.tr y.2) _ gs dp q.held wA.a hqf.held hqf.i0 hqf.x1 hlo) ?_;rintro _ _ _ ⟨rfl,rfl,hs1⟩;refine .pu .mv (.pu .ex (.pu .ex ?_));refine .nw (cs:=[.int .i64 0,.int .i64 0,.int .i64 0,.int .i64 0,.int .i64 0,.int .i64 0,.int .i64 0]) fun b7=>?_;refine .st (vs:=[_,_,_,_,_,_,_]) ?_;refine .pu .as (.nil (.seq (.block (.seq (.region (.pu .mv (.pu .cmp (.pu .as (.nil ?_)))))))));refine .no rfl (.seq (.region (.pu .fa (.pu .fa (.ld ?_)))))
 refine .pu (.cmp (q:=false) (hq:=by show some (decide ((q.held.st:Int)≠2))=some false;simp[wD])) ?_;refine .pu .as (.nil ?_);refine .no rfl (.skip (.seq (.region ?_)));have hp5:=hs1 _ (.head _);refine .ld ?_;refine .pu .mf ?_;refine .call (Sp.ent (Ent.push (ckL c κ y) [Pt b7 (hC q.held) (tz 0 148)] _) (cg _ _ [Pt b3 [.pointer (some ⟨c,0,none⟩)] (tz 0 46),Ro 0 G5] [Pt b7 (hC q.held) (tz 0 148)] c κ y _ #[pp0 b3,pp0 b7] (Mw κ False (fun κ'=>CkOk κ' (A++[q.away]++C) (g+1) W)) (IR fun y L P h0=>Zip L P c κ y A C q g W b3 b7 _ _ (h0 _ (.head _)) (h0 _ (.tail _ (.head _))) hk hp hst hl) (fun A hA=>by
  rcases Zg.1 hA with rfl|hA
  ·exact hp5
  ·rcases Z6.1 hA with rfl
   exact hs1 _ (.tail _ hT)))) ?_;rintro _ _ _ ⟨hs2,e,κ',rfl,hne,hq',rfl⟩
 refine .pu .as (.nil (.ret ?_));exact⟨_,.tmp rfl .nil,_,_,.refl _ _,fun A hA=>hs2 _ (hs1 _ (.tail _ hA)),e,κ',rfl,hq',rfl⟩
theorem Zir(c:Nat)(κ:Ck)(A C:List Chn)(q:Chn)(g W:Nat)(hk:CkOk κ (A++[q]++C) g W)(hp:H6 A [q] C q.at)(hst:q.st≠2):Sp SET 31 [.pointer (some ⟨c,0,none⟩),.int .i64 (q.ino:Nat),.int .i64 (q.idx:Nat)] (CkS c κ::L) P (CkE c κ 13 L P):=by
 refine Sp.open fun y _=>?_;obtain⟨gs,dp,wA,hdp⟩:=hk.rep;have hqf:=hk.ft q (by simp);have hlo:=(N6 hk.ft hqf.i1 hqf.x1 hp.a hp.c).2.2.2 q rfl rfl;have wD:q.held.st≠2:=hst;refine .bo (fn:=Tryz.f31) (N:=27) ?_;refine .seq (.region ?_);refine .bx (cs:=[_]) fun b3=>?_;refine .pu .as (.nil (.seq (.region (.ent Ent.pt ?_))));refine .ld ?_;refine .pu .mv (.pu .mv ?_);refine .call (Cj TC _ _ c κ.t κ.d κ.first y.1 κ.turn (κ.tr y.2) _ gs dp q.held wA.a hqf.held hqf.i0 hqf.x1 hlo) ?_;rintro _ _ _ ⟨rfl,rfl,hs1⟩;refine .pu .mv (.pu .ex (.pu .ex ?_));refine .nw (cs:=[.int .i64 0,.int .i64 0,.int .i64 0,.int .i64 0,.int .i64 0,.int .i64 0,.int .i64 0]) fun b7=>?_;refine .st (vs:=[_,_,_,_,_,_,_]) ?_;refine .pu .as (.nil (.seq (.block (.seq (.region (.pu .mv (.pu .cmp (.pu .as (.nil ?_)))))))));refine .no rfl (.seq (.region (.pu .fa (.pu .fa (.ld ?_)))))
 refine .pu (.cmp (q:=true) (hq:=by show some (decide ((q.held.st:Int)≠2))=some true;simp;omega)) ?_;refine .pu .as (.nil ?_);refine .yes rfl (.seq (.region (.pu .as (.nil (.ret ?_)))));exact⟨_,.tmp rfl .nil,_,_,(Ent.drop.trans (Dc y)),fun A hA=>hs1 _ (.tail _ hA),rfl,rfl⟩
def Chn.fill(q:Chn)(s:Bs)(b:Nat):Chn:= {q with st:=2,by':=s,blk:=b}
def FlQ(A C:List Chn)(q:Chn)(g W:Nat)(s:Bs)(κ':Ck):Prop:=∃b,CkOk κ' (A++[q.fill s b]++C) g (W+1)
theorem Zis(c:Nat)(κ:Ck)(y:Nat×Nat)(A C:List Chn)(q:Chn)(g W:Nat)(s:Bs)(b0 b1 b2 z0 z1 z2:Nat)(h0:Pt b0 [.pointer (some ⟨c,0,none⟩)] z0∈P)(h1:Pt b1 [S s] z1∈P)
 (hT:Ro 0 G5∈P) (hk:CkOk κ (A++[q]++C) g W) (hW:W<1000000) (hp:H6 A [q] C q.at) (hst:q.st=3) (hs:s.length=256) (wM:Md s=Md q.by') (hl:(A++[q]++C).length≤60):Sp SET 99 [pp0 b0,pp0 b1,pp0 b2] (Pt b2 (hC q.held) z2::(ckL c κ y++L)) P (fun r L' P'=>∃z:Ck×(Nat×Nat)×Asn,((∀A∈P,A∈P')∧∃e:Nat,r=.int .i64 (e:Nat)∧Mw κ (κ.β.free≤0) (FlQ A C q g W s) e z.1)∧L'=z.2.2::(ckL c z.1 z.2.1++L)):=by
 obtain⟨gs,dp,wA,hdp⟩:=hk.rep;have hq:=hk.ft q (by simp);have hwn:=hk.wn;have hbn:=hk.bn;refine .bo (fn:=Tryz.f99) (N:=21) ?_;refine .seq (.region (.pu .as (.nil ?_)));by_cases hf:κ.β.free≤0
 ·refine .seq (.region (.ld ?_));refine .ld ?_;refine .call (Sp.ent (Ent.pull [Pt b2 (hC q.held) z2] (ckL c κ y) L) (xr _ _ c κ y s hT hk.bk.bk hf)) ?_;rintro _ L P ⟨rfl,rfl,rfl⟩;refine .pu .mv (.pu .ex (.pu .ex (.pu .as (.pu .as (.nil (.seq (.seq (.region (.pu .mv (.pu .cmp (.nil ?_)))))))))));refine .yes rfl (.seq (.region (.pu .mv (.pu .as (.nil (.ret ?_))))));exact⟨_,.tmp rfl .nil,_,_,(Ent.pull (ckL c κ y) [_] L),(κ,y,_),⟨fun _ h=>h,5,rfl,.inl ⟨rfl,hf,rfl⟩⟩,rfl⟩
 ·refine .seq (.region (.ld ?_));refine .ld ?_;refine .call (Sp.ent (Ent.pull [Pt b2 (hC q.held) z2] (ckL c κ y) L) (xw _ _ c κ y s hT hk.bk.bk (by omega) hs (by omega) hk.fn hk.f4 hbn)) ?_;rintro _ L P ⟨b,rfl,hb1,hb2,hb3,rfl,rfl⟩;refine .pu .mv (.pu .ex (.pu .ex (.pu .as (.pu .as (.nil (.seq (.seq (.region (.pu .mv (.pu .cmp (.nil ?_)))))))))));refine .no rfl (.skip (.seq (.region (.pu .mv (.ent (Ent.pull (ckL c (κ.take b s) y) [Pt b2 (hC q.held) z2] L) ?_)))));have wB:(q.fill s b).Fit:=⟨hq.i0,hq.i1,hq.x1,⟨by show 1≤2;omega,by show 2≤3;omega⟩,hq.ep,hq.num,by show b<65536;omega,hs⟩;obtain⟨wF,wH,_⟩:=xz hk.bk hb2 hb1 hb3 (q.fill s b) rfl (by show(2:Nat)≠3;decide);have xF:(q.fill s b).held= {q.held with st:=2,blk:=b}:=by
   show(⟨q.ino,q.idx,2,q.ep,q.num,Md s,b⟩:Mc)=⟨q.ino,q.idx,2,q.ep,q.num,Md q.by',b⟩;rw[wM]
  refine .pu .fa (.pu .fa (.st (vs:=[_]) ?_));refine .pu .fa (.st (vs:=[_]) ?_);refine .nil (.seq (.region (.ld ?_)));refine .lda (vs:=[_,_,_,_,_,_,_]) ?_;refine .call (Sp.ent (Ent.pull [_] (Pt c (ckC κ.t κ.d κ.first y.1 κ.turn) (tz 0 153)::trL κ.t (κ.tr y.2)) _) (cd TC _ _ c κ.t κ.d κ.first y.1 κ.turn (κ.tr y.2) _ gs dp {q.held with st:=2,blk:=b} wA.a (fun _=>hdp) hT (xF▸wB.held) (Ze _))) ?_;rintro _ _ _ ⟨τ',hpo,rfl⟩
  rw[←xF]at hpo;obtain⟨hs1,rfl,wC,ht1,ht2,ht3,ht4⟩:=cj (l:=A++[q]++C) (l':=A++[q.fill s b]++C) hpo wA.a hdp (congrArg some (cf (p:=q.fill s b) hk.ft wB hp.a hp.c hp.b)) hl (by simpa using hl) hk.pn hk.pb;refine .pu .as (.nil (.ret ?_));refine⟨_,.tmp rfl .nil,_,_,(Ent.pull (Pt c (ckC κ.t κ.d κ.first y.1 κ.turn) (tz 0 153)::trL κ.t τ') [_] _),({κ with τ:=τ',β:= {κ.β with us:=Gp κ.β.us b},δ:=κ.δ.push (κ.first+b) s},(y.1,τ'.a),_),⟨hs1,0,rfl,.inr ⟨rfl,hf,⟨rfl,rfl,rfl,rfl,rfl⟩,rfl,b,?_⟩⟩,rfl⟩
  exact hk.write (p:=q.fill s b) hp.a hp.c wB wC ht3 ht4 (wH (UC hst)) rfl ⟨rfl,rfl,rfl,rfl,rfl⟩ wF
theorem Zit{P:List Asn}{X Z Y:Asn}{P1:List Asn}(h1:∀A∈X::Z::P,A∈P1)(hY:Y∈P){A:Asn}(hA:A∈[X,Z,Y]):A∈P1:=by
 simp only[Zg,Ut,or_false]at hA;rcases hA with rfl|rfl|rfl
 ·exact h1 _ (.head _)
 ·exact h1 _ (.tail _ (.head _))
 ·exact h1 _ (.tail _ (.tail _ hY))
theorem Ziu(c:Nat)(κ:Ck)(A C:List Chn)(q:Chn)(g W:Nat)(s:Bs)(hT:Ro 0 G5∈P)(hk:CkOk κ (A++[q]++C) g W)(hW:W<1000000)(hp:H6 A [q] C q.at)(hst:q.st=3)(hs:s.length=256)(wM:Md s=Md q.by')(hl:(A++[q]++C).length≤60):Sp SET 32 [.pointer (some ⟨c,0,none⟩),.int .i64 (q.ino:Nat),.int .i64 (q.idx:Nat),S s] (CkS c κ::L) P (CkR c κ (κ.β.free≤0) (FlQ A C q g W s) L P):=by
 refine Sp.open fun y _=>?_;obtain⟨gs,dp,wA,hdp⟩:=hk.rep;have hqf:=hk.ft q (by simp);have hlo:=(N6 hk.ft hqf.i1 hqf.x1 hp.a hp.c).2.2.2 q rfl rfl;have wD:q.held.st=3:=hst;have yH:q.held.sum=Md s:=wM.symm;refine .bo (fn:=Tryz.f32) (N:=44) ?_;refine .seq (.region ?_);refine .bx (cs:=[_]) fun b4=>?_;refine .bx (cs:=[_]) fun b7=>?_;refine .pu .as (.nil (.seq (.seq (.region (.ld ?_)))));refine .pu .peq (.pu .mv (.on (.ld ?_)));refine .on (.pu .ls (.on (.pu .cn (.pu .pk (.nil ?_)))));refine .no rfl (.skip (.seq (.region (.ent (Ent.pt.trans Ent.pt) ?_))));refine .ld ?_;refine .pu .mv (.pu .mv ?_);refine .call (Cj TC _ _ c κ.t κ.d κ.first y.1 κ.turn (κ.tr y.2) _ gs dp q.held wA.a hqf.held hqf.i0 hqf.x1 hlo) ?_;rintro _ _ _ ⟨rfl,rfl,hs1⟩;have hp4:=hs1 _ (.head _);have hp7:=hs1 _ (.tail _ (.head _));refine .pu .mv (.pu .ex (.pu .ex ?_))
 refine .nw (cs:=[.int .i64 0,.int .i64 0,.int .i64 0,.int .i64 0,.int .i64 0,.int .i64 0,.int .i64 0]) fun b9=>?_;refine .st (vs:=[_,_,_,_,_,_,_]) ?_;refine .pu .as (.nil (.seq (.block (.seq (.region (.pu .mv (.pu .cmp (.pu .as (.nil ?_)))))))));refine .no rfl (.seq (.region (.pu .fa (.pu .fa (.ld ?_)))));refine .pu (.cmp (q:=false) (hq:=by show some (decide ((q.held.st:Int)≠3))=some false;simp[wD])) ?_;refine .pu .as (.nil ?_);refine .no rfl ?_;refine .seq (.drawn fun _=>?_);refine .lo 0 0 .ld .mk ?_;refine .cb fun v36=>?_;refine .call (j8 _ _ _ s (.o .l0) (fun e=>by rw[e]at hs;cases hs) (by omega)) ?_;rintro _ L P ⟨rfl,rfl,rfl⟩;refine .pu .fa (.pu .fa (.lo 0 2 .ld .mk ?_));refine .pu (.cmp (q:=false) (hq:=by show some (decide (((Md s:Nat):Int)≠(q.held.sum:Nat)))=some false;rw[yH];simp)) ?_;refine .pu .as (.nil (.cons (.yes .mk (.yes .mk (.yes .mk .nil))) (.cons (.yes .mk (.skip (.skip .nil))) .nil)) ?_)
 refine .no rfl (.skip (.seq (.region (.ent Ent.drop ?_))));refine .ld ?_;refine .pu .mf ?_;refine .call (Sp.ent (Ent.push (ckL c κ y) [Pt b9 (hC q.held) (tz 0 148)] _) (cg _ _ [Pt b4 [.pointer (some ⟨c,0,none⟩)] (tz 0 46),Pt b7 [S s] (tz 0 9),Ro 0 G5] [Pt b9 (hC q.held) (tz 0 148)] c κ y _ #[pp0 b4,pp0 b7,pp0 b9] (Mw κ (κ.β.free≤0) (FlQ A C q g W s)) (IR fun y L P h0=>Zis L P c κ y A C q g W s b4 b7 b9 _ _ _ (h0 _ (.head _)) (h0 _ (.tail _ (.head _))) (h0 _ (.tail _ (.tail _ (.head _)))) hk hW hp hst hs wM hl) (fun A hA=>Zit hs1 hT hA))) ?_;rintro _ _ _ ⟨hs2,e,κ',rfl,hne,hq',rfl⟩;refine .pu .as (.nil (.ret ?_));exact⟨_,.tmp rfl .nil,_,_,.refl _ _,fun A hA=>hs2 _ (hs1 _ (.tail _ (.tail _ hA))),e,κ',rfl,hq',rfl⟩
theorem Ziv(c:Nat)(κ:Ck)(A C:List Chn)(q:Chn)(g W:Nat)(hk:CkOk κ (A++[q]++C) g W)(hp:H6 A [q] C q.at)(hst:q.st≠3):Sp SET 34 [.pointer (some ⟨c,0,none⟩),.int .i64 (q.ino:Nat),.int .i64 (q.idx:Nat)] (CkS c κ::L) P (fun r L' P'=>r=.tuple ⟨[S q.by',.int .i64 0]⟩∧L'=CkS c κ::L∧∀A∈P,A∈P'):=by
 refine Sp.open fun y _=>?_;obtain⟨gs,dp,wA,hdp⟩:=hk.rep;have hqf:=hk.ft q (by simp);have hlo:=(N6 hk.ft hqf.i1 hqf.x1 hp.a hp.c).2.2.2 q rfl rfl;have wD:q.held.st≠3:=hst;have hdv:=hk.dv q (by simp) hst;have yU:q.held.blk<κ.β.n:=hk.bk.ok.uo _ ((hk.bk.us _).2 (UD (p:=q) (by simp) hst));have hbl:q.blk<κ.β.n:=hk.bk.ok.uo _ ((hk.bk.us _).2 (UD (by simp) hst));have hfn:=hk.fn;have hf4:=hk.f4;have hbn:=hk.bn;have hby:=hqf.by'
 refine .bo (fn:=Tryz.f34) (N:=54) ?_;refine .seq (.region (.pu .as (.pu .as (.nil (.seq (.region (.pu .mv (.pu .mv (.pu .mv ?_)))))))));refine .call (Cj TC _ _ c κ.t κ.d κ.first y.1 κ.turn (κ.tr y.2) _ gs dp q.held wA.a hqf.held hqf.i0 hqf.x1 hlo) ?_;rintro _ _ _ ⟨rfl,rfl,hs1⟩;refine .pu .mv (.pu .ex (.pu .ex ?_));refine .nw (cs:=[.int .i64 0,.int .i64 0,.int .i64 0,.int .i64 0,.int .i64 0,.int .i64 0,.int .i64 0]) fun b8=>?_;refine .st (vs:=[_,_,_,_,_,_,_]) ?_;refine .pu .as (.nil (.seq (.block (.seq (.region (.pu .mv (.pu .cmp (.pu .as (.nil ?_)))))))));refine .no rfl (.seq (.region (.pu .fa (.pu .fa (.ld ?_)))));refine .pu (.cmp (q:=false) (hq:=by show some (decide ((q.held.st:Int)=3))=some false;simp;omega)) ?_;refine .pu .as (.nil ?_);refine .no rfl (.skip ?_);refine .seq (.drawn fun _=>?_);refine .pu .mv (.pu .nc (.pu .fa (.lo 0 0 .ld .mk ?_)))
 refine .pu .mv (.pu .nc (.pu .fa (.lo 0 0 .ld .mk ?_)));refine .pu .fa (.lo 0 0 .ld .mk ?_);refine .pu .add ?_;rw[show((κ.first:Nat):Int)+(q.held.blk:Nat)=((κ.first+q.blk:Nat):Int)from rfl];refine .call (Sp.ent (.perm (Nx [_,_,_,_,_,_] _ (Dev κ.d κ.δ))) (Zh9 _ _ κ.d κ.δ (κ.first+q.blk) (by omega) q.by' hdv)) ?_;rintro _ L P ⟨ov,rfl,rfl,rfl⟩;refine .pu .mv (.pu .ex (.pu .ex (.pu .as (.pu .as (.nil (.cons (.yes .mk (.skip .nil)) (.cons (.yes .mk (.skip .nil)) (.cons (.yes .mk (.skip .nil)) .nil))) (.seq (.block (.seq (.region (.pu .mv (.pu .cmp (.pu .as (.nil ?_)))))))))))));refine .no rfl ?_;refine .seq (.drawn fun _=>?_);refine .pu .mv ?_;refine .call (j8 _ _ _ q.by' (.o .l0) (fun e=>by rw[e]at hby;cases hby) (by omega)) ?_;rintro _ L P ⟨rfl,rfl,rfl⟩;refine .pu .fa (.pu .fa (.lo 0 1 .ld .mk ?_));refine .pu (.cmp (q:=false) (hq:=by show some (decide (((Md q.by':Nat):Int)≠(q.held.sum:Nat)))=some false;show some (decide (((Md q.by':Nat):Int)≠(Md q.by':Nat)))=some false;simp)) ?_
 refine .pu .as (.nil (.cons (.yes .mk (.yes .mk .nil)) .nil) ?_);refine .no rfl (.skip (.seq (.region (.pu .mv ?_))));refine .cs (bs:=q.by') (.o .l0) ?_;refine .pu .as (.pu .as (.nil (.ret ?_)));exact⟨_,.tmp rfl (.tmp rfl .nil),_,_,(Ent.drop.trans ((Ent.dropAt [_] _ _).trans ((Ent.perm (Nx [_,_,_,_,_] L (Dev κ.d κ.δ)).symm).trans (Dc y)))),rfl,rfl,hs1⟩
theorem Ziw(c:Nat)(κ:Ck)(A C:List Chn)(g W ino idx:Nat)(hk:CkOk κ (A++[]++C) g W)(hp:H6 A [] C (ino,idx))(hi0:1≤ino)(hi1:ino<4294967296)(hx:idx<32):Sp SET 34 [.pointer (some ⟨c,0,none⟩),.int .i64 (ino:Nat),.int .i64 (idx:Nat)] (CkS c κ::L) P (fun r L' P'=>r=.tuple ⟨[S [],.int .i64 7]⟩∧L'=CkS c κ::L∧∀A∈P,A∈P'):=by
 refine Sp.open fun y _=>?_;obtain⟨gs,dp,wA,hdp⟩:=hk.rep;have hlo:=(N6 hk.ft hi1 hx hp.a hp.c).2.2.1 rfl;refine .bo (fn:=Tryz.f34) (N:=54) ?_;refine .seq (.region (.pu .as (.pu .as (.nil (.seq (.region (.pu .mv (.pu .mv (.pu .mv ?_)))))))));refine .call (IY TC _ _ c κ.t κ.d κ.first y.1 κ.turn (κ.tr y.2) _ gs dp ino idx wA.a hi0 hi1 hx hlo) ?_;rintro _ _ _ ⟨rfl,rfl,hs1⟩;refine .pu .mv (.pu .ex (.pu .ex ?_));refine .nw (cs:=[.int .i64 0,.int .i64 0,.int .i64 0,.int .i64 0,.int .i64 0,.int .i64 0,.int .i64 0]) fun b8=>?_;refine .st (vs:=[_,_,_,_,_,_,_]) ?_;refine .pu .as (.nil (.seq (.block (.seq (.region (.pu .mv (.pu .cmp (.pu .as (.nil ?_)))))))));refine .yes rfl (.seq (.region (.pu .mv (.pu .as (.pu .as (.nil (.ret ?_)))))));exact⟨_,.tmp rfl (.tmp rfl .nil),_,_,(Ent.drop.trans (Dc y)),rfl,rfl,hs1⟩
theorem Zix(c:Nat)(κ:Ck)(A C:List Chn)(q:Chn)(g W:Nat)(hk:CkOk κ (A++[q]++C) g W)(hp:H6 A [q] C q.at)(hst:q.st=3):Sp SET 34 [.pointer (some ⟨c,0,none⟩),.int .i64 (q.ino:Nat),.int .i64 (q.idx:Nat)] (CkS c κ::L) P (fun r L' P'=>r=.tuple ⟨[S [],.int .i64 13]⟩∧L'=CkS c κ::L∧∀A∈P,A∈P'):=by
 refine Sp.open fun y _=>?_;obtain⟨gs,dp,wA,hdp⟩:=hk.rep;have hqf:=hk.ft q (by simp);have hlo:=(N6 hk.ft hqf.i1 hqf.x1 hp.a hp.c).2.2.2 q rfl rfl;have wD:q.held.st=3:=hst;refine .bo (fn:=Tryz.f34) (N:=54) ?_;refine .seq (.region (.pu .as (.pu .as (.nil (.seq (.region (.pu .mv (.pu .mv (.pu .mv ?_)))))))));refine .call (Cj TC _ _ c κ.t κ.d κ.first y.1 κ.turn (κ.tr y.2) _ gs dp q.held wA.a hqf.held hqf.i0 hqf.x1 hlo) ?_;rintro _ _ _ ⟨rfl,rfl,hs1⟩;refine .pu .mv (.pu .ex (.pu .ex ?_));refine .nw (cs:=[.int .i64 0,.int .i64 0,.int .i64 0,.int .i64 0,.int .i64 0,.int .i64 0,.int .i64 0]) fun b8=>?_;refine .st (vs:=[_,_,_,_,_,_,_]) ?_;refine .pu .as (.nil (.seq (.block (.seq (.region (.pu .mv (.pu .cmp (.pu .as (.nil ?_)))))))));refine .no rfl (.seq (.region (.pu .fa (.pu .fa (.ld ?_)))));refine .pu (.cmp (q:=true) (hq:=by show some (decide ((q.held.st:Int)=3))=some true;simp[wD])) ?_
 refine .pu .as (.nil ?_);refine .yes rfl (.seq (.region (.pu .as (.pu .as (.nil (.ret ?_))))));exact⟨_,.tmp rfl (.tmp rfl .nil),_,_,(Ent.drop.trans (Dc y)),rfl,rfl,hs1⟩
theorem Ziy(c:Nat)(κ:Ck)(A C:List Chn)(q:Chn)(g W:Nat)(hk:CkOk κ (A++[q]++C) g W)(hp:H6 A [q] C q.at):Sp SET 35 [.pointer (some ⟨c,0,none⟩),.int .i64 (q.ino:Nat),.int .i64 (q.idx:Nat)] (CkS c κ::L) P (fun r L' P'=>r=.tuple ⟨[.agg ⟨eC q.held⟩,.int .i64 0]⟩∧L'=CkS c κ::L∧∀A∈P,A∈P'):=by
 refine Sp.open fun y _=>?_;obtain⟨gs,dp,wA,hdp⟩:=hk.rep;have hqf:=hk.ft q (by simp);have hlo:=(N6 hk.ft hqf.i1 hqf.x1 hp.a hp.c).2.2.2 q rfl rfl;refine .bo (fn:=Tryz.f35) (N:=19) ?_;refine .seq (.region ?_);refine .nw (cs:=[.int .i64 0,.int .i64 0,.int .i64 0,.int .i64 0,.int .i64 0,.int .i64 0]) fun b6=>?_;refine .pu .as (.nil (.seq (.region (.pu .mv (.pu .mv (.pu .mv ?_))))));refine .call (Sp.ent (Ent.pull [_] (Pt c (ckC κ.t κ.d κ.first y.1 κ.turn) (tz 0 153)::trL κ.t (κ.tr y.2)) _) (Cj TC _ _ c κ.t κ.d κ.first y.1 κ.turn (κ.tr y.2) _ gs dp q.held wA.a hqf.held hqf.i0 hqf.x1 hlo)) ?_;rintro _ _ _ ⟨rfl,rfl,hs1⟩;refine .ent (Ent.pull (Pt c (ckC κ.t κ.d κ.first y.1 κ.turn) (tz 0 153)::trL κ.t (κ.tr y.2)) [_] _) ?_;refine .pu .mv (.pu .ex (.pu .ex ?_));refine .nw (cs:=[.int .i64 0,.int .i64 0,.int .i64 0,.int .i64 0,.int .i64 0,.int .i64 0,.int .i64 0]) fun b8=>?_
 refine .st (vs:=[_,_,_,_,_,_,_]) ?_;refine .pu .as (.nil (.seq (.region (.pu .fa (.lda (vs:=[_,_,_,_,_,_]) ?_)))));refine .pu .mv (.st (vs:=[_,_,_,_,_,_]) ?_);refine .pu .as (.nil (.ret ?_));exact⟨_,.cell rfl .l1 rfl (.tmp rfl .nil),_,_,(Ent.d2.trans (Dc y)),rfl,rfl,hs1⟩
theorem IT :Cs.length=64:=by decide+kernel
theorem IQ :Cs.all (fun v=>eqV v v)=true:=by decide+kernel
def AS0.one(n u:Nat):AS0:=⟨n,[u],[0],0⟩
theorem T7(b:Nat):mem [0] b=false:=v9 1 b
theorem IW(b:Nat):mem [1] b=decide (b=0):=by
 unfold mem;rcases Zt b 64 with h|h
 ·have h1:b/64=0:=by omega
  have h2:b%64=b:=by omega
  rw[h1,h2];show(1:Nat).testBit b=_;rw[show(1:Nat)=2^0 from rfl,Nat.testBit_two_pow];exact decide_eq_decide.2 (by omega)
 ·have h1:b/64≠0:=by omega
  obtain⟨j,hj⟩:∃j,b/64=j+1:=⟨b/64-1,by omega⟩;rw[hj];show(0:Nat).testBit _=_;rw[Nat.zero_testBit];symm;exact decide_eq_false (by omega)
theorem IL{n:Nat}(h1:1≤n)(h2:n≤64):(AS0.one n 0).Ok:=by
 refine⟨h1,by show n≤4096;omega,by show 1=(n+63)/64;omega,by show 1=(n+63)/64;omega,by simp[AS0.one],by simp[AS0.one],fun b hb=>?_,fun b hb=>?_,fun b _=>T7 b⟩
 ·have hb:mem [0] b=true:=hb;rw[T7]at hb;cases hb
 ·have hb:mem [0] b=true:=hb;rw[T7]at hb;cases hb
theorem IP{n:Nat}(h1:1≤n)(h2:n≤64):(AS0.one n 1).Ok:=by
 refine⟨h1,by show n≤4096;omega,by show 1=(n+63)/64;omega,by show 1=(n+63)/64;omega,by simp[AS0.one],by simp[AS0.one],fun b hb=>?_,fun b hb=>?_,fun b _=>T7 b⟩
 ·have hb:mem [1] b=true:=hb;rw[IW]at hb;have:=of_decide_eq_true hb;show b<n;omega
 ·have hb:mem [0] b=true:=hb;rw[T7]at hb;cases hb
theorem Ziz(T:Tg){s a n:Nat}{σ:PSt}(hn:σ.n=n)(h1:1≤n)(h2:n≤64):Rep T ⟨s,a,σ,AS0.one n 1,0,0,0⟩ [] [] 0:=
 ⟨.none,rfl,rfl,fun j=>by
  show mem [1] j=true↔_;rw[IW];simp,U8,by simp,IP h1 h2,by show 0≤_;omega,hn,fun j=>T7 j,fun q hq=>by cases hq⟩
def κ15(k n:Nat):Ck where
 t:=k+490
 d:=k+2
 first:=136
 turn:=0
 τ:=⟨k+244,k+544,⟨k+2,k+275,70,64,2,1,[],[],0⟩,AS0.one 64 1,0,0,0⟩
 β:=AS0.one n 0
 δ:=⟨136+n,[]⟩
theorem κ15_ok(k:Nat){n:Nat}(h1:1≤n)(h2:n≤64):CkOk (κ15 k n) [] 0 0:=by
 refine⟨⟨[],0,Ziz TC rfl (by decide) (by decide),by decide⟩,rfl,rfl,Xx.nil,fun p h=>(by cases h),⟨IL h1 h2,rfl,fun j=>?_,U8,rfl⟩,rfl,by show 136≤4096;decide,fun p h=>(by cases h),Ze _,⟨Zrd _,by show(0:Int)≤_;decide⟩⟩;show mem [0] j=true↔j∈[];rw[T7];simp
def Nv(k n:Nat):List (List Value):=[.slice (some ⟨k+475,0,none⟩) 256 512,.bool false]::[.slice (some ⟨k+127,0,none⟩) 256 512,.bool false]::Z7 n [.slice none 0 0,.bool false]
theorem QZ(n:Nat)(l:List Value):Go.Ax.rep n l=(Z7 n l).flatten:=by
 induction n with
 |zero=>rfl
 |succ n ih=>
  rw[Jb,List.flatten_cons,←ih];rfl
theorem Zi0(a k n:Nat):(dt n).map (ren a k)=dt n:=by
 unfold dt;rw[QZ,List.map_flatten,List.map_replicate];rfl
theorem Zi1{n:Nat}:mp (k15 n):=⟨by
 intro x hx;have e:(k15 n).post.map (·.1)=[1003,1004,1128,1243,1244,1245,1276,1476,1491,1541,1543,1545,1558,1576,1578,1580]:=rfl;have h:((k15 n).post.map (·.1)).all (fun b=>decide (1001≤b∧b<1582))=true:=by rw[e];decide
 exact of_decide_eq_true (List.all_eq_true.1 h x.1 (Zl.2 ⟨x,hx,rfl⟩)),by
 show((k15 n).post.map (·.1)).Nodup;have h:(k15 n).post.map (·.1)=[1003,1004,1128,1243,1244,1245,1276,1476,1491,1541,1543,1545,1558,1576,1578,1580]:=rfl;rw[h];decide,by show 1001≤1582;decide⟩
theorem Ent.rem{L P L':List Asn}{A:Asn}(h:Rem A L L'):Ent L P (A::L') P:=Ent.perm h.perm
theorem Zi2(k n:Nat):∀e∈Nv k n,e.length=2:=fun e he=>by
 unfold Nv at he;rcases Zg.1 he with rfl|he
 ·rfl
 ·rcases Zg.1 he with rfl|he
  ·rfl
  ·obtain⟨_,rfl⟩:=Zrh.1 he;rfl
theorem yc(k n:Nat):(Nv k (134+n)).length=136+n:=by
 unfold Nv;rw[Zf,Zf,Xf];omega
theorem Zi3(k n:Nat):(([.slice (some ⟨1476,0,none⟩) 256 512,.bool false,.slice (some ⟨1128,0,none⟩) 256 512,.bool false]:List Value)++dt (134+n)).map (ren 1001 k)=(Nv k (134+n)).flatten:=by
 rw[Zp,Zi0];unfold Nv dt;rw[QZ];rfl
theorem Zi4(k n:Nat):(Blk (rn 1001 k 1003) (bf 1001 k (.cells [.slice (some ⟨1004,0,none⟩) (136+n) (2*(136+n)+1),.slice none 0 0,.bool false,.bool false,.int .i64 (.ofNat 0)] 5 201326592)).mk)=Blk (k+2) (OS.cells [.slice (some ⟨k+3,0,none⟩) (Nv k (134+n)).length (2*(136+n)+1),.slice none 0 0,.bool false,.bool false,.int .i64 0] 5 (tz 0 191)).mk:=by
 rw[yc];rfl
theorem Zi5(k n:Nat):DvX.Ok (κ15 k n).δ ⟨.slice (some ⟨k+3,0,none⟩) (Nv k (134+n)).length (2*(136+n)+1),.slice none 0 0,Nv k (134+n),[],0⟩:=by
 refine⟨rfl,yc k n,fun s hs=>?_,fun w hw=>(by cases hw),Zj _⟩;have hs:s∈Nv k (134+n):=hs;unfold Nv at hs;rcases Zg.1 hs with rfl|hs
 ·exact⟨_,_,_,_,rfl⟩
 ·rcases Zg.1 hs with rfl|hs
  ·exact⟨_,_,_,_,rfl⟩
  ·obtain⟨_,rfl⟩:=Zrh.1 hs;exact⟨_,_,_,_,rfl⟩
theorem Zi6(k n:Nat)(h1:1≤n)(h2:n≤64)(L P:List Asn):Ent ((((k15 n).laid k).map fun x=>Blk x.1 x.2.mk)++L) P (CkS (k+557) (κ15 k n)::L) P:=
 (Ent.none (k:=2)).trans (
 (Ent.rem (.s (.s (.z)))).trans (
 (Ent.fst (fun S h H=>(mq (k:=2) (b:=k+3) (c:=2*(136+n)+1) (z:=0) (n:=2*(136+n)) (es:=Nv k (134+n)) (Zi2 k _) (Zi3 k n) (by rw[yc];omega) (by rw[yc]) H))).trans (
 (Ent.rem (.s (.s (.z)))).trans (
 (Ent.fst (fun S h H=>(dq (b:=k+2) (cs:=[.slice (some ⟨k+3,0,none⟩) (Nv k (134+n)).length (2*(136+n)+1),.slice none 0 0,.bool false,.bool false,.int .i64 0]) (z:=tz 0 191) rfl (Zi4 k n▸H)))).trans (
 (Ent.close (c:=DvX.Ok (κ15 k n).δ) (A:=dvL (k+2) (κ15 k n).δ) ⟨.slice (some ⟨k+3,0,none⟩) (Nv k (134+n)).length (2*(136+n)+1),.slice none 0 0,Nv k (134+n),[],0⟩ (Zi5 k n)).trans (
 (Ent.rem (.s (.s (.s (.s (.s (.s (.s (.s (.s (.s (.s (.s (.s (.z))))))))))))))).trans (
 (Ent.fst (fun S h H=>(mq (k:=1) (b:=k+577) (c:=3) (z:=0) (es:=[0].map Hc) (by simp[Hc]) rfl rfl rfl H))).trans (
 (Ent.rem (.s (.s (.s (.s (.s (.s (.s (.s (.s (.s (.s (.s (.s (.z))))))))))))))).trans (
 (Ent.fst (fun S h H=>(mq (k:=1) (b:=k+575) (c:=3) (z:=0) (es:=[0].map Hc) (by simp[Hc]) rfl rfl rfl H))).trans (
 (Ent.rem (.s (.s (.s (.s (.s (.s (.s (.s (.s (.s (.s (.s (.s (.s (.z)))))))))))))))).trans (
 (Ent.fst (fun S h H=>(dq (b:=k+579) (cs:=[.int .i64 (n:Nat),.slice (some ⟨k+575,0,none⟩) 1 3,.slice (some ⟨k+577,0,none⟩) 1 3,.int .i64 (0:Nat)]) (z:=tz 0 214) rfl H))).trans (
 (Ent.close (c:=fun _=>(AS0.one n 0).Ok) (A:=Nt (k+579) (AS0.one n 0)) (.slice (some ⟨k+575,0,none⟩) 1 3,.slice (some ⟨k+577,0,none⟩) 1 3) (IL h1 h2)).trans (
 (Ent.rem (.s (.s (.s (.s (.s (.s (.s (.s (.s (.s (.z)))))))))))).trans (
 (Ent.fst (fun S h H=>(mq (k:=1) (b:=k+542) (c:=3) (z:=0) (es:=[0].map Hc) (by simp[Hc]) rfl rfl rfl H))).trans (
 (Ent.rem (.s (.s (.s (.s (.s (.s (.s (.s (.s (.s (.z)))))))))))).trans (
 (Ent.fst (fun S h H=>(mq (k:=1) (b:=k+540) (c:=3) (z:=0) (es:=[1].map Hc) (by simp[Hc]) rfl rfl rfl H))).trans (
 (Ent.rem (.s (.s (.s (.s (.s (.s (.s (.s (.s (.s (.s (.z))))))))))))).trans (
 (Ent.fst (fun S h H=>(dq (b:=k+544) (cs:=[.int .i64 (64:Nat),.slice (some ⟨k+540,0,none⟩) 1 3,.slice (some ⟨k+542,0,none⟩) 1 3,.int .i64 (0:Nat)]) (z:=tz 0 214) rfl H))).trans (
 (Ent.close (c:=fun _=>(AS0.one 64 1).Ok) (A:=Nt (k+544) (AS0.one 64 1)) (.slice (some ⟨k+540,0,none⟩) 1 3,.slice (some ⟨k+542,0,none⟩) 1 3) (IP (by decide) (by decide))).trans (
 (Ent.rem (.s (.s (.s (.s (.s (.z))))))).trans (
 (Ent.fst (fun S h H=>(LQ (b:=k+243) (es:=[]) H))).trans (
 (Ent.rem (.s (.s (.s (.s (.s (.z))))))).trans (
 (Ent.fst (fun S h H=>(LQ (b:=k+242) (es:=[]) H))).trans (
 (Ent.rem (.s (.s (.s (.s (.s (.s (.z)))))))).trans (
 (Ent.fst (fun S h H=>(dq (b:=k+244) (cs:=[.pointer (some ⟨k+2,0,none⟩),.pointer (some ⟨k+275,0,none⟩),.int .i64 (70:Nat),.int .i64 (64:Nat),.int .i64 2,.int .i64 1,.map (some (k+242)),.map (some (k+243)),.int .i64 0]) (z:=tz 0 146) rfl H))).trans (
 (Ent.close (c:=fun _=>True) (A:=pgL (k+244) (κ15 k n).τ.σ) (k+242,k+243) trivial).trans (
 (Ent.rem (.s (.s (.s (.s (.s (.s (.s (.z))))))))).trans (
 (Ent.fst (fun S h H=>(dq (b:=k+490) (cs:=[.pointer (some ⟨k+244,0,none⟩),.pointer (some ⟨k+544,0,none⟩),.int .i64 (0:Nat),.int .i64 0,.int .i64 0]) (z:=tz 0 117) rfl H))).trans (
 (Ent.rem (.s (.s (.s (.s (.s (.s (.s (.s (.z)))))))))).trans (
 (Ent.fst (fun S h H=>(dq (b:=k+557) (cs:=[.pointer (some ⟨k+490,0,none⟩),.pointer (some ⟨k+2,0,none⟩),.int .i64 (136:Nat),.pointer (some ⟨k+579,0,none⟩),.int .i64 0]) (z:=tz 0 153) rfl H))).trans (
 (Dc (c:=k+557) (κ:=κ15 k n) (k+579,k+544)).trans (
 Ent.dropMid [CkS (k+557) (κ15 k n)] [_,_,_] L))))))))))))))))))))))))))))))))
theorem Zi7{n:Nat}(hn:n∈[1,2,3,4,5,6,20,60]){els:List Value→AS→R}{s:AS}(hf:Cd (k15 n) [.int .i64 (n:Nat)] s=true):Ce [k15 1,k15 2,k15 3,k15 4,k15 5,k15 6,k15 20,k15 60] els [.int .i64 (n:Nat)] s=some (ren 1001 s.nx (k15 n).ans,(k15 n).leftW s):=by
 simp only[Zg,Ut,or_false]at hn;rcases hn with rfl|rfl|rfl|rfl|rfl|rfl|rfl|rfl
 ·exact Rz hf
 ·rw[Hv rfl];exact Rz hf
 ·rw[Hv rfl,Hv rfl];exact Rz hf
 ·rw[Hv rfl,Hv rfl,Hv rfl];exact Rz hf
 ·rw[Hv rfl,Hv rfl,Hv rfl,Hv rfl];exact Rz hf
 ·rw[Hv rfl,Hv rfl,Hv rfl,Hv rfl,Hv rfl];exact Rz hf
 ·rw[Hv rfl,Hv rfl,Hv rfl,Hv rfl,Hv rfl,Hv rfl];exact Rz hf
 ·rw[Hv rfl,Hv rfl,Hv rfl,Hv rfl,Hv rfl,Hv rfl,Hv rfl];exact Rz hf
theorem Zi8{n:Nat}(hn:n∈[1,2,3,4,5,6,20,60]):eqL (k15 n).args [.int .i64 (n:Nat)]=true:=by
 simp only[Zg,Ut,or_false]at hn;rcases hn with rfl|rfl|rfl|rfl|rfl|rfl|rfl|rfl<;>rfl
theorem Zi9(n:Nat)(hn:n∈[1,2,3,4,5,6,20,60])(hT:RoN 0 Cs∈P)(hN:Top∈P):Sp SET 26 [.int .i64 (n:Nat)] L P (fun r L' P'=>∃c κ v1 v2 v3,r=.tuple ⟨[.agg ⟨[pp0 v1,pp0 v2,pp0 v3,.pointer (some ⟨c,0,none⟩)]⟩,.bool true]⟩∧L'=CkS c κ::L∧P'=P∧CkOk κ [] 0 0∧κ.β.n=n):=by
 have h12:1≤n∧n≤64:=by
  simp only[Zg,Ut,or_false]at hn;omega
 refine Sp.made (m:=k15 n) (p:=Ce [k15 1,k15 2,k15 3,k15 4,k15 5,k15 6,k15 20,k15 60] (Ct 26)) (by rfl) Zi1 (fun S s hs=>Zi7 hn (LP rfl rfl IT IQ hT hN (Zi8 hn) hs)) (fun k=>?_);exact⟨_,_,Zi6 k n h12.1 h12.2 L P,k+557,κ15 k n,k+2,k+244,k+490,rfl,rfl,rfl,κ15_ok k h12.1 h12.2,rfl⟩
def by8(n:Int):UInt8:=UInt8.ofNat (H7 n 256)
theorem imod_lt(n:Int):H7 n 256<256:=by
 have h:=WM n (m:=256) (by decide);have:=Int.emod_lt_of_pos n (b:=256) (by decide);omega
theorem UQ(n:Int):Cu .u8 n=((by8 n).toNat:Int):=by
 show((H7 n 256:Nat):Int)=_;unfold by8;rw[Jc];have:=imod_lt n;omega
def Ho(n:Int):Bs:=by8 (n.tdiv 256)::by8 (n.tdiv 65536)::1::Z7 253 (by8 n)
theorem yd(n:Int):(Ho n).length=256:=by unfold Ho;simp
def M8(b:UInt8)(i:Nat):Bs:=Z7 i b++Z7 (256-i) 0
theorem yf(b:UInt8)(i:Nat)(h:i≤256):(M8 b i).length=256:=by unfold M8;rw[Zd,Xf,Xf];omega
theorem Zja{b:UInt8}{i:Nat}(h:i<256):(M8 b i).set i b=M8 b (i+1):=by
 unfold M8;have e:256-i=(256-(i+1))+1:=by omega
 rw[e,Jb,Jk _ _ (by rw[Xf];exact Ze _),Xf,Xs,List.set_cons_zero,Zrg,Zu];rfl
theorem QY{n:Int}(h:InR .i64 n)(d:Nat):InR .i64 (n.tdiv d):=by
 have e:(n.tdiv d).natAbs=n.natAbs/(d:Int).natAbs:=Int.natAbs_tdiv n d;have hq:n.natAbs/(d:Int).natAbs≤n.natAbs:=Nat.div_le_self _ _;generalize n.natAbs/(d:Int).natAbs=q at e hq;simp only[InR]at h ⊢;by_cases h0:0≤n
 ·have:=Zri h0 (Yk d);omega
 ·have h1:n.tdiv d≤0:=by
   have:=Zri (a:= -n) (b:=d) (by omega) (Yk d);rw[Int.neg_tdiv]at this;omega
  omega
theorem QX(n:Int)(hn:InR .i64 n):Sp SET 28 [.int .i64 n,.int .i64 0] L P (fun r L' P'=>r=S (Ho n)∧L'=L∧P'=P):=by
 have hl0:∀i,i≤256→(byL (M8 (by8 n) i)).length=256:=fun i hi=>by unfold byL;rw[Zc,yf _ _ hi]
 have e0:Z7 ((256:Nat):Int).toNat [Value.int .u8 0]=byL (M8 (by8 n) 0):=by
  unfold byL M8;rw[Yp];simp
 refine .bo (fn:=Tryz.f28) (N:=39) ?_;refine .seq (.region (.pu .as (.nil (.seq (.region (.pu .mv (.pu .add (.pu (.min (c:=256)) (.pu (.max (c:=((256:Nat):Int))) ?_)))))))));refine .mk (k:=1) (z:=[.int .u8 0]) (fun v11=>?_) (hn:=⟨by omega,by show((256:Nat):Int)*1≤_;omega,by omega⟩);rw[e0];refine .pu .as (.nil (.seq (.seq (.region (.pu .as (.nil ?_))))));refine .block (W.loop (fun i:Nat=>i≤256) (fun i=>256-i) (fun i=>[(6,.int .i64 (i:Nat)),(5,v11),(0,.int .i64 n)]) (fun i=>Ow 1 v11 (byL (M8 (by8 n) i))::L) (fun _=>P) 0 (Zj _) ⟨rfl,rfl,rfl,trivial⟩ (.refl _ _) (fun i hi=>?_));have hli:=hl0 i hi;by_cases hlt:i<256
 ·refine .seq (.seq (.region (.pu .mv (.pu .mv (.lk .ln ?_)))));refine .pu .cy (.nil ?_);refine .yes rfl (.skip (.seq (.block (.region (.pu .mv (.pu .mv (.pu .mv (.pu (.ciw (UQ n)) ?_))))))));have hgx:(byL (M8 (by8 n) i))[((i:Nat):Int).toNat]? =some [.int .u8 ((M8 (by8 n) i)[i]'(by rw[yf _ _ hi];omega)).toNat]:=by
   rw[Yp];unfold byL;rw[Zy,Zn (by rw[yf _ _ hi];omega)];rfl
  refine .lk (.ia (k:=1) (es:=byL (M8 (by8 n) i)) (hm:=.o .l0) (hn:=⟨by omega,by omega⟩)) ?_;refine .se (k:=1) (vs:=[_]) (i:=((i:Nat):Int).toNat) (e:=[.int .u8 ((M8 (by8 n) i)[i]'(by rw[yf _ _ hi];omega)).toNat]) hgx ?_;rw[Yp,Rq,Zja hlt];refine .nil (.region (.pu .mv (.pu .add (.pu .as (.nil ?_)))));refine⟨i+1,hlt,by show 256-(i+1)<256-i;omega,⟨rfl,rfl,rfl,trivial⟩,.refl _ _⟩
 ·refine .seq (.seq (.region (.pu .mv (.pu .mv (.lk .ln ?_)))));refine .pu .cn (.nil ?_);refine .no rfl (.exit (.seq (.seq (.region ?_))));have e:i=256:=by omega
  subst e;refine .pu .mv (.lk .ln ?_);refine .pu (.cmp (q:=true) (hq:=by show some (decide (((byL (M8 (by8 n) 256)).length:Int)>2))=some true;rw[hli];rfl)) ?_;refine .nil ?_;refine .yes rfl (.region (.pu .mv (.pu .mv (.pu .mv (.pu .mv (.pu (.quoT (hr:=QY hn 256)) (.pu (.ciw (UQ (n.tdiv ((256:Nat):Int)))) (.pu .mv (.pu (.quoT (hr:=QY hn 65536)) (.pu (.ciw (UQ (n.tdiv ((65536:Nat):Int)))) ?_))))))))));refine .lk (.ia (k:=1) (es:=byL (M8 (by8 n) 256)) (hm:=.o .l0) (hn:=⟨by omega,by omega⟩)) ?_;refine .se (k:=1) (vs:=[_]) (i:=((0:Nat):Int).toNat) (e:=[.int .u8 (by8 n).toNat]) rfl ?_;rw[Yp,Rq];refine .lk (.ia (k:=1) (es:=byL ((M8 (by8 n) 256).set 0 (by8 (n.tdiv ((256:Nat):Int))))) (hm:=.o .l0) (hn:=⟨by omega,by rw[←Rq,Vk];omega⟩)) ?_;refine .se (k:=1) (vs:=[_]) (i:=((1:Nat):Int).toNat) (e:=[.int .u8 (by8 n).toNat]) rfl ?_
  rw[Yp,Rq];refine .lk (.ia (k:=1) (es:=byL (((M8 (by8 n) 256).set 0 (by8 (n.tdiv ((256:Nat):Int)))).set 1 (by8 (n.tdiv ((65536:Nat):Int))))) (hm:=.o .l0) (hn:=⟨by omega,by rw[←Rq,Vk,←Rq,Vk];omega⟩)) ?_;refine .se (k:=1) (vs:=[_]) (i:=((2:Nat):Int).toNat) (e:=[.int .u8 (by8 n).toNat]) rfl ?_;rw[Yp,show [Value.int .u8 1]=[Value.int .u8 (1:UInt8).toNat]from rfl,Rq];refine .nil (.seq (.region (.pu .mv ?_)));refine .cs (bs:=Ho n) (.o (by
   show In (Ow 1 v11 (byL (Ho n))) _ _;exact .l0)) ?_
  refine .pu .as (.nil (.ret ?_));exact⟨_,.tmp rfl .nil,_,_,.drop,rfl,rfl,rfl⟩
theorem Zjb(hT:RoN 0 Cs∈P)(hN:Top∈P):Sp SET 25 [] L P (fun r L' P'=>r=.bool true∧L'=L∧P'=P):=
 Sp.kept (m:=Ij) (els:=Ct 25) (by rfl) rfl rfl rfl IT (IQ) hT hN rfl
theorem QV(x n:Nat)(hn:n≤32)(hx:x<18446744073709551616):Sp SET 168 [.int .u64 (x:Nat),.int .i64 (n:Nat)] L P (fun r L' P'=>r=.int .u64 (mir x n:Nat)∧L'=L∧P'=P):=by
 refine .bo (fn:=Tryz.f168) (N:=19) ?_;refine .seq (.region (.pu .as (.nil (.seq (.region (.pu .as (.nil (.seq (.seq (.region (.pu .as (.nil ?_))))))))))));refine .block (W.loop (fun i:Nat=>i≤n) (fun i=>n-i) (fun i=>[(6,.int .i64 (i:Nat)),(5,.int .u64 (mir x i:Nat)),(0,.int .u64 (x:Nat)),(1,.int .i64 (n:Nat))]) (fun _=>L) (fun _=>P) 0 (Zj _) ⟨rfl,rfl,rfl,rfl,trivial⟩ (.refl _ _) (fun i hi=>?_));by_cases hlt:i<n
 ·refine .seq (.seq (.region ?_));have hm:=mt x i;have hp:2^i≤2^32:=Va (by decide) (by omega);have hq:(2:Nat)^32=4294967296:=by decide
  have hs:x>>>i<18446744073709551616:=Nat.lt_of_le_of_lt (Nat.shiftRight_le x i) hx;refine .pu .mv (.pu .mv (.pu .cy (.nil ?_)));refine .yes rfl (.skip (.seq (.block (.region (.pu .mv (.pu (.mulN (b:=2)) (.pu .mv (.pu .mv ?_))))))));refine .pu (.shrN (n:=i) (hn:=by show i≤64;omega)) ?_;refine .pu (.andU (b:=1)) ?_;have h1:x>>>i&&&1≤1:=Nat.and_le_right;refine .pu (.addN) (.pu .as (.nil (.region (.pu .mv (.pu .add (.pu .as (.nil ?_)))))));refine⟨i+1,hlt,by show n-(i+1)<n-i;omega,⟨rfl,rfl,rfl,rfl,trivial⟩,.refl _ _⟩
 ·refine .seq (.seq (.region (.pu .mv (.pu .mv (.pu .cn (.nil ?_))))));refine .no rfl (.exit (.seq (.region ?_)));have e:i=n:=by omega
  subst e;refine .pu .mv (.pu .as (.nil (.ret ?_)));exact⟨_,.tmp rfl .nil,_,_,.refl _ _,rfl,rfl,rfl⟩
theorem Zjc{y:Nat}(h:y<2^32):R0 y<2^32:=by
 unfold R0;split
 ·rename_i h0;rw[Xe]at h0;have:(2:Nat)^32=4294967296:=by decide
  rw[this]at h0 ⊢;omega
 ·rename_i h0;have hb:(y*2).testBit 32=true:=by
   rw[Nat.testBit_eq_decide_div_mod_eq];rw[Xe]at h0;have e:(2:Nat)^32=4294967296:=by decide
   rw[e]at h h0 ⊢;exact decide_eq_true (by omega)
  refine Nat.lt_pow_two_of_testBit _ fun i hi=>?_;rw[Nat.testBit_xor];by_cases h32:i=32
  ·subst h32;rw[hb];decide
  ·have h33:y*2<2^33:=by
    have e:(2:Nat)^33=2*2^32:=by decide
    omega
   have h1:(y*2).testBit i=false:=Uw (Yu h33 (Va (by decide) (by omega)));have h2:(4374732215:Nat).testBit i=false:=Uw (Yu (by decide:(4374732215:Nat)<2^33) (Va (by decide) (by omega)));rw[h1,h2];rfl
theorem UW{y:Nat}(h:y<2^32):∀j,Bm j y<2^32
 |0=>h
 |j+1=>Zjc (UW h j)
theorem QU{s:Bs}{y i:Nat}(h:i<s.length):Mm y (s.take (i+1))=Bm 8 (Mm y (s.take i)^^^(mir s[i].toNat 8*2^24)):=by
 have key:∀(l r:Bs) (y:Nat),Mm y (l++r)=Mm (Mm y l) r:=by
  intro l
  induction l with
  |nil=>intro r y;rfl
  |cons c l ih=>intro r y;exact ih r _
 rw[Xb h,key];rfl
theorem UL{y:Nat}(h:y<2^32)(s:Bs):∀i,i≤s.length→Mm y (s.take i)<2^32
 |0,_=>by simpa[Mm]using h
 |i+1,hi=>by
  rw[QU (by omega)];refine UW (Xu (UL h s i (by omega)) ?_) 8;have:=mt s[i].toNat 8;have e:(2:Nat)^32=2^8*2^24:=by decide
  rw[e];exact Nat.mul_lt_mul_of_pos_right this (by decide)
theorem Zjd(s:Bs):mir (Mm 4294967295 s^^^4294967295) 32=Md s:=by
 have h:=OV s 4294967295 (by decide);rw[Zlw]at h;rw[h.1,Zlv h.2];rfl
theorem Zje(s:Bs)(hs:s.length≤1000000):Sp SET 102 [S s] L P (fun r L' P'=>r=.int .i64 (Md s:Nat)∧L'=L∧P'=P):=by
 refine .bo (fn:=Tryz.f102) (N:=34) ?_;refine .seq (.region (.pu .as (.nil (.seq (.region (.pu .as (.nil (.seq (.seq (.region (.pu .as (.nil ?_))))))))))));refine .block (W.loop (fun i:Nat=>i≤s.length) (fun i=>s.length-i) (fun i=>[(4,.int .i64 (i:Nat)),(3,.int .u64 (Mm 4294967295 (s.take i):Nat)),(0,S s)]) (fun _=>L) (fun _=>P) 0 (Zj _) ⟨rfl,rfl,rfl,trivial⟩ (.refl _ _) (fun i hi=>?_));by_cases hlt:i<s.length
 ·refine .seq (.seq (.region ?_));have hgs:s[((i:Nat):Int).toNat]? =some s[i]:=by simp[hlt]
  have hb:=s[i].toNat_lt;have hm8:=mt s[i].toNat 8;have hcl:=UL (y:=4294967295) (by decide) s i hi;have e8:(2:Nat)^8=256:=by decide
  have e24:(2:Nat)^24=16777216:=by decide
  have e32:(2:Nat)^32=4294967296:=by decide
  refine .pu .mv (.pu .mv (.pu .ls (.pu .cy (.nil ?_))));refine .yes rfl (.skip (.seq (.block (.seq (.region (.pu .mv (.pu .mv (.pu .mv (.pu (.ix hgs) (.pu .ci ?_))))))))));refine .call (QV _ _ s[i].toNat 8 (by decide) (by omega)) ?_;rintro _ L P ⟨rfl,rfl,rfl⟩;refine .pu (.i_shl (n:=24) (hr:=by simp only[InR];omega)) ?_;rw[show((mir s[i].toNat 8:Nat):Int)*((2^24:Nat):Int)=((mir s[i].toNat 8*2^24:Nat):Int)from rfl];refine .pu (.xorU (ha:=by omega) (hb:=by omega)) ?_;refine .pu .as (.nil (.seq (.region (.pu .as (.nil ?_)))));refine .block (W.loop (fun j:Nat=>j≤8) (fun j=>8-j) (fun j=>[(5,.int .i64 (j:Nat)),(3,.int .u64 (Bm j (Mm 4294967295 (s.take i)^^^(mir s[i].toNat 8*2^24)):Nat)),(4,.int .i64 (i:Nat)),(0,S s)]) (fun _=>L) (fun _=>P) 0 (Zj _) ⟨rfl,rfl,rfl,rfl,trivial⟩ (.refl _ _) (fun j hj=>?_))
  have hy0:Mm 4294967295 (s.take i)^^^(mir s[i].toNat 8*2^24)<2^32:=Xu hcl (by rw[e24,e32];omega);have hyj:=UW hy0 j;obtain⟨y,hy⟩:∃y,y=Bm j (Mm 4294967295 (s.take i)^^^(mir s[i].toNat 8*2^24)):=⟨_,rfl⟩;by_cases hlj:j<8
  ·refine .seq (.seq (.region ?_));rw[←hy]at hyj ⊢;refine .pu .mv (.pu .cy (.nil ?_));refine .yes rfl (.skip (.seq (.block (.seq (.region (.pu .mv (.pu (.mulN (b:=2)) (.pu .as (.nil (.seq (.region (.pu .mv (.pu (.shrN (n:=32)) ?_)))))))))))));refine .pu (.cmp (q:=decide (¬(y*2)>>>32=0)) (hq:=by show some (decide ((((y*2)>>>32:Nat):Int)≠0))=_;exact congrArg some (decide_eq_decide.2 (by omega)))) ?_;refine .nil ?_;refine .ite rfl (fun wX=>?_) (fun wX=>?_)
   ·refine .region ?_;have hz:¬(y*2)>>>32=0:=of_decide_eq_true wX;have hst:Bm (j+1) (Mm 4294967295 (s.take i)^^^(mir s[i].toNat 8*2^24))=(y*2)^^^4374732215:=by
     show R0 (Bm j _)=_;rw[←hy];exact if_neg hz
    refine .pu .mv ?_;refine .pu (.xorU (ha:=by omega)) ?_;rw[←hst];refine .pu .as (.nil (.region (.pu .mv (.pu .add (.pu .as (.nil ?_))))));refine⟨j+1,hlj,by show 8-(j+1)<8-j;omega,⟨rfl,rfl,rfl,rfl,trivial⟩,.refl _ _⟩
   refine .skip (.region (.pu .mv (.pu .add (.pu .as (.nil ?_)))));have hz:(y*2)>>>32=0:=Classical.byContradiction (of_decide_eq_false wX);have hst:Bm (j+1) (Mm 4294967295 (s.take i)^^^(mir s[i].toNat 8*2^24))=y*2:=by
    show R0 (Bm j _)=_;rw[←hy];exact if_pos hz
   rw[←hst];refine⟨j+1,hlj,by show 8-(j+1)<8-j;omega,⟨rfl,rfl,rfl,rfl,trivial⟩,.refl _ _⟩
  ·refine .seq (.seq (.region ?_));have e:j=8:=by omega
   subst e;rw[←QU hlt];refine .pu .mv (.pu .cn (.nil ?_));refine .no rfl (.exit (.region (.pu .mv (.pu .add (.pu .as (.nil ?_))))));refine⟨i+1,hlt,by show s.length-(i+1)<s.length-i;omega,⟨rfl,rfl,rfl,trivial⟩,.refl _ _⟩
 ·refine .seq (.seq (.region (.pu .mv (.pu .mv (.pu .ls (.pu .cn (.nil ?_)))))));refine .no rfl (.exit (.seq (.region ?_)));have e:s.take i=s:=Z8 (by omega);have hcl:=UL (y:=4294967295) (by decide) s i hi;rw[e]at hcl;have e32:(2:Nat)^32=4294967296:=by decide
  have hxl:Mm 4294967295 s^^^4294967295<2^32:=Xu hcl (by decide);have hml:=mt (Mm 4294967295 s^^^4294967295) 32;rw[e];refine .pu .mv ?_;refine .pu (.xorU (ha:=by omega)) ?_;refine .call (QV _ _ (Mm 4294967295 s^^^4294967295) 32 (by decide) (by omega)) ?_;rintro _ L P ⟨rfl,rfl,rfl⟩;refine .pu .ci ?_;rw[Zjd];refine .pu .as (.nil (.ret ?_));exact⟨_,.tmp rfl .nil,_,_,.refl _ _,rfl,rfl,rfl⟩
theorem Zjf(s:Bs)(hs:s.length≤1000000):Sp SET 36 [S s] L P (fun r L' P'=>r=.int .i64 (Md s:Nat)∧L'=L∧P'=P):=by
 refine .bo (fn:=Tryz.f36) (N:=4) ?_;refine .seq (.region (.pu .as (.nil (.seq (.region (.pu .mv ?_))))));refine .call (Zje _ _ s hs) ?_;rintro _ L P ⟨rfl,rfl,rfl⟩;refine .pu .as (.nil (.ret ?_));exact⟨_,.tmp rfl .nil,_,_,.refl _ _,rfl,rfl,rfl⟩
theorem Zjg(c:Nat)(κ:Ck)(A C:List Chn)(q:Chn)(g W:Nat)(s:Bs)(hk:CkOk κ (A++[q]++C) g W)(hp:H6 A [q] C q.at)(hst:q.st≠3)(hs:s.length=256):Sp SET 32 [.pointer (some ⟨c,0,none⟩),.int .i64 (q.ino:Nat),.int .i64 (q.idx:Nat),S s] (CkS c κ::L) P (CkE c κ 13 L P):=by
 refine Sp.open fun y _=>?_;obtain⟨gs,dp,wA,hdp⟩:=hk.rep;have hqf:=hk.ft q (by simp);have hlo:=(N6 hk.ft hqf.i1 hqf.x1 hp.a hp.c).2.2.2 q rfl rfl;have wD:q.held.st≠3:=hst;refine .bo (fn:=Tryz.f32) (N:=44) ?_;refine .seq (.region ?_);refine .bx (cs:=[_]) fun b4=>?_;refine .bx (cs:=[_]) fun b7=>?_;refine .pu .as (.nil (.seq (.seq (.region (.ld ?_)))));refine .pu .peq (.pu .mv (.on (.ld ?_)));refine .on (.pu .ls (.on (.pu .cn (.pu .pk (.nil ?_)))));refine .no rfl (.skip (.seq (.region (.ent (Ent.pt.trans Ent.pt) ?_))));refine .ld ?_;refine .pu .mv (.pu .mv ?_);refine .call (Cj TC _ _ c κ.t κ.d κ.first y.1 κ.turn (κ.tr y.2) _ gs dp q.held wA.a hqf.held hqf.i0 hqf.x1 hlo) ?_;rintro _ _ _ ⟨rfl,rfl,hs1⟩;refine .pu .mv (.pu .ex (.pu .ex ?_));refine .nw (cs:=[.int .i64 0,.int .i64 0,.int .i64 0,.int .i64 0,.int .i64 0,.int .i64 0,.int .i64 0]) fun b9=>?_
 refine .st (vs:=[_,_,_,_,_,_,_]) ?_;refine .pu .as (.nil (.seq (.block (.seq (.region (.pu .mv (.pu .cmp (.pu .as (.nil ?_)))))))));refine .no rfl (.seq (.region (.pu .fa (.pu .fa (.ld ?_)))));refine .pu (.cmp (q:=true) (hq:=by show some (decide ((q.held.st:Int)≠3))=some true;simp;omega)) ?_;refine .pu .as (.nil ?_);refine .yes rfl (.seq (.region (.pu .as (.nil (.ret ?_)))));exact⟨_,.tmp rfl .nil,_,_,(Ent.drop.trans (Dc y)),fun A hA=>hs1 _ (.tail _ (.tail _ hA)),rfl,rfl⟩
theorem Mw.good{κ κ':Ck}{e0:Prop}{Q:Ck→Prop}{e:Nat}(h:Mw κ e0 Q e κ')(h0:¬e0):e=0∧κ'.β.n=κ.β.n∧Q κ':=by
 rcases h with⟨_,h1,_⟩|⟨h1,_,h2,_,h3⟩
 ·exact absurd h1 h0
 ·exact⟨h1,h2.n,h3⟩
theorem Zjh(l:List Chn):(ub l).length≤l.length:=by
 unfold ub;rw[Zc];exact Zrf _ _
theorem CkOk.room{κ:Ck}{l:List Chn}{g W:Nat}(h:CkOk κ l g W)(hn:l.length+g<κ.β.n):¬κ.β.free≤0:=by
 have:=h.bk.free;have:=Zjh l;omega
structure StL(xs:List Int)(l:List Chn)(i:Nat):Prop where
 len:l.length=i
 at':∀(j:Nat) (p:Chn),l[j]? =some p→p.ino=j+1∧p.idx=3∧p.st=2∧p.ep=2∧p.num=j∧∃x,xs[j]? =some x∧p.by'=Ho x
theorem StL.lt{xs:List Int}{l:List Chn}{i:Nat}(h:StL xs l i){p:Chn}(hp:p∈l):p.ino<i+1:=by
 obtain⟨j,hj,rfl⟩:=X6 hp;have:=(h.at' j _ (Zn hj)).1;have:=h.len;omega
theorem StL.parted{xs:List Int}{l B:List Chn}{i k:Nat}(h:StL xs l i)(hB:B=[]∨∃q,B=[q]∧q.at=(i+1,k)):H6 l B [] (i+1,k):=
 ⟨fun a ha=>.inl (h.lt ha),fun c hc=>(by cases hc),hB⟩
theorem StL.next{xs:List Int}{l:List Chn}{i:Nat}(h:StL xs l i){p:Chn}{x:Int}(h1:p.ino=i+1)(h2:p.idx=3)(h3:p.st=2)(h4:p.ep=2)(h5:p.num=i)(hx:xs[i]? =some x)(hb:p.by'=Ho x):StL xs (l++[p]++[]) (i+1):=by
 rw[Z9];refine⟨by rw[Zd,h.len];rfl,fun j q hq=>?_⟩;rcases Zt j l.length with hj|hj
 ·rw[Vt hj]at hq;exact h.at' j q hq
 ·rw[Vj hj]at hq;have hj0:j-l.length=0:=by
   rcases Xi (j-l.length)with e|e
   ·exact e
   ·rw[Xr (by show 1≤j-l.length;omega)]at hq;cases hq
  rw[hj0]at hq;cases hq;have hji:j=i:=by have:=h.len;omega
  subst hji;exact⟨h1,h2,h3,h4,h5,x,hx,hb⟩
structure ST where
 i:Nat
 κ:Ck
 l:List Chn
 g:Nat
 W:Nat
 P:List Asn
structure ST.Ok(xs:List Int)(P0:List Asn)(a:ST):Prop where
 hk:CkOk a.κ a.l a.g a.W
 hn:a.κ.β.n=20
 hl:StL xs a.l a.i
 hg:a.g≤(a.i+1)/2
 hW:a.W≤2*a.i
 hP:∀A∈P0,A∈a.P
 hi:a.i≤xs.length
 h4:a.i≤12
structure SR where
 i:Nat
 P:List Asn
theorem Zji{l:List Chn}{i:Nat}(hi:i<l.length):l=l.take i++[l[i]]++l.drop (i+1):=by
 rw[Zu];show l=l.take i++(l[i]::l.drop (i+1));rw[List.getElem_cons_drop,Ym]
theorem Zjj{A C:List Chn}{q:Chn}(h:j9 (A++[q]++C)):H6 A [q] C q.at:=by
 have h1:=Ys.1 h;have h2:=Ys.1 h1.1;exact⟨fun a ha=>h2.2.2 a ha q (by simp),fun c hc=>h1.2.2 q (by simp) c hc,.inr ⟨q,rfl,rfl⟩⟩
noncomputable def QJ(u:TypeId):Array Field:=match SET.P.underlying u with
 |some (.struct F)=>F
 |_=> #[]
def QK :List (Bool×TypeId×Nat):=[(false,3,0),(false,3,1),(false,3,2),(false,3,3),(false,3,4),(false,3,5)]
theorem Zjk :SET.P.underlying 60=some (.struct (QJ 60)):=by kernel_rfl
theorem cm :SET.P.underlying 3=some (.int .i64):=by kernel_rfl
theorem Zjl : (QJ 60).toList.map (fun f => (f.name == "_", f.type, f.offset)) = QK := by kernel_rfl
theorem soE :SET.P.stoodInHeld 60=false:=by kernel_rfl
theorem gtE :SET.P.eqGuardType SET.P.depth 60=false:=by kernel_rfl
theorem Zjm(x y:Mc):Rv SET.P 9999 ⟨eC x⟩ ⟨eC y⟩ QK [((x.ino:Nat):Int)==y.ino,((x.idx:Nat):Int)==y.idx,((x.st:Nat):Int)==y.st,((x.ep:Nat):Int)==y.ep,((x.num:Nat):Int)==y.num,((x.sum:Nat):Int)==y.sum]:=
 .cons (dk cm rfl rfl) (.cons (dk cm rfl rfl) (.cons (dk cm rfl rfl) (.cons (dk cm rfl rfl) (.cons (dk cm rfl rfl) (.cons (dk cm rfl rfl) .nil)))))
theorem Zjn{al:Al}{x y:Operand}{r:Nat}(a:Mc)(hx:evl al x=some (.agg ⟨eC a⟩):=by rfl)(hy:evl al y=some (.agg ⟨eC a⟩):=by rfl):Pu SET al (.binOp .neq 60 x y r) (.bool false):=
 .bin_struct_neq (Rv.fs Zjl (Zjm a a)) (by simp) Zjk soE gtE (by kernel_rfl) rfl rfl hx hy
theorem Zjo(x0:Int)(v:Value)(xs:List Int)(hx:∀x∈xs,InR .i64 x)(hT:Ro 0 G5∈P)(hT':RoN 0 Cs∈P)(hN:Top∈P)(hv:SlR 1 v (xs.map fun x=>[.int .i64 x])∈P):Sp SET 5 [v,.int .i64 x0] L P (fun r L' P'=>r=.bool true):=by
 refine .bo (fn:=Tryz.f5) (N:=171) ?_;refine .seq (.region (.pu .as (.nil (.seq (.seq (.region ?_))))));refine .call (Zjb _ _ hT' hN) ?_;rintro _ L P ⟨rfl,rfl,rfl⟩;refine .pu .nt (.nil ?_);refine .no rfl (.skip (.seq (.region ?_)));refine .call (Zi9 _ _ 20 (by decide) hT' hN) ?_;rintro _ L P ⟨c,κ,w1,w2,w3,rfl,rfl,rfl,hk0,hn0⟩;refine .pu .mv (.pu .ex (.pu .ex ?_));refine .nw (cs:=[.pointer none,.pointer none,.pointer none,.pointer none]) fun b5=>?_;refine .st (vs:=[_,_,_,_]) ?_;refine .pu .as (.nil (.seq (.seq (.region (.ent Ent.pt ?_)))));refine .pu .mv (.pu .nt (.nil ?_));refine .no rfl (.skip (.seq (.seq (.region (.pu .as (.nil ?_))))));refine .block (W.loop (fun a:ST=>a.Ok xs (Pt b5 [pp0 w1,pp0 w2,pp0 w3,.pointer (some ⟨c,0,none⟩)] (tz 0 48)::P)) (fun a=>xs.length-a.i) (fun a=>[(7,.int .i64 (a.i:Nat)),(5,pp0 b5),(0,v)]) (fun a=>CkS c a.κ::L) (fun a=>a.P) ⟨0,κ,[],0,0,_⟩ ⟨hk0,hn0,⟨rfl,fun j p h=>by simp at h⟩,Zj _,Ze _,fun A h=>h,Zj _,Zj _⟩ ⟨rfl,rfl,rfl,trivial⟩ (.refl _ _) (fun a ha=>?_))
 obtain⟨hk,hnn,hl,hg,hW,hP,hi,h4⟩:=ha;generalize a.i=i at hl hg hW hi h4 ⊢;generalize a.κ=κ at hk hnn ⊢;generalize a.l=l at hk hl;generalize a.g=g at hk hg;generalize a.W=Wn at hk hW;generalize a.P=P at hP ⊢;have hb5:=hP _ (.head _);have hT2:=hP _ (.tail _ hT);have hv2:=hP _ (.tail _ hv);have wW:=hl.len;refine .seq (.seq (.region (.pu .mv (.pu .mv (.lk (.ln (hm:=.r (.p hv2))) ?_)))));rw[Zc];refine .pu .cmp (.pu .mv ?_);refine .and 28 2 (decide ((i:Int)<12)) (fun hq=>?_) ?_
 ·refine .on (.pu .mv (.on (.pu .cmp ?_)));exact .fin rfl
 refine .nil ?_;refine .ite rfl (fun wN=>?_) (fun wN=>?_)
 ·refine .skip (.seq (.block (.seq (.region ?_))));rw[Zi,decide_eq_true_eq,decide_eq_true_eq]at wN;obtain⟨hix,yV⟩:=wN;have hix:i<xs.length:=by omega
  have hgx:(xs.map fun x=>[Value.int .i64 x])[((i:Nat):Int).toNat]? =some [.int .i64 xs[i]]:=by
   rw[Yp,Zy,Zn hix];rfl
  refine .pu .mv (.pu .mv ?_);refine .lk (.ia (k:=1) (es:=xs.map fun x=>[Value.int .i64 x]) (hm:=.r (.p hv2)) (hn:=⟨by omega,by rw[Zc];omega⟩)) ?_;refine .le hgx ?_;refine .call (QX _ _ xs[i] (hx _ (Zz hix))) ?_;rintro _ L P ⟨rfl,rfl,rfl⟩;refine .pu .as (.nil (.seq (.seq (.region ?_))));have hp0:H6 l [] [] (i+1,3):=hl.parted (.inl rfl);have hk1:CkOk κ (l++[]++[]) g Wn:=by
   rw[Z9,Z9];exact hk
  have yI:¬κ.β.free≤0:=hk.room (by omega);have wP:∀q:Chn,(l++[q]++[]).length≤60:=fun q=>by
   simp only[Zd,Jr,Zo];omega
  refine .pu .fa (.ld (hm:=.p hb5) ?_);refine .pu .mv (.pu .add (.pu .mv ?_));refine .call (Zil _ _ c κ l [] [] g Wn (i+1) 3 (Ho xs[i]) hT2 hk1 (by omega) hp0 (by omega) (by omega) (by omega) (yd _) (by rw[Z9,Z9];omega) (wP _)) ?_;rintro _ _ P2 ⟨hs2,er,κ2,rfl,hch,rfl⟩;obtain⟨rfl,hn2,b2,hk2⟩:=hch.good yI;have hb6:=hs2 _ hb5;have hk2:CkOk κ2 (l++[(⟨i+1,3,1,0,0,Ho xs[i],b2⟩:Chn)]++[]) g (Wn+1):=hk2;have hp2:H6 l [(⟨i+1,3,1,0,0,Ho xs[i],b2⟩:Chn)] [] ((⟨i+1,3,1,0,0,Ho xs[i],b2⟩:Chn)).at:=hl.parted (.inr ⟨_,rfl,rfl⟩);refine .pu (.cmp (q:=false) (hq:=by show some (decide (((0:Nat):Int)≠0))=some false;decide)) ?_;refine .pu .mv (.on (.pu .fa (.on (.ld (hm:=.p hb6) ?_))));refine .on (.pu .mv (.on (.pu .add ?_)));refine .on ?_;refine .call (Zir _ _ c κ2 l [] (⟨i+1,3,1,0,0,Ho xs[i],b2⟩:Chn) _ _ hk2 hp2 (by show(1:Nat)≠2;decide)) ?_;rintro _ _ P3 ⟨hs3,rfl,rfl⟩
  have hb7:=hs3 _ hb6;refine .on (.pu (.cmp (q:=false) (hq:=by show some (decide (((13:Nat):Int)≠13))=some false;decide)) ?_);refine .pu .pk (.pu .mv (.on (.pu .fa (.on (.ld (hm:=.p hb7) ?_)))));refine .on (.pu .mv (.on (.pu .add (.on (.pu .mv ?_)))));refine .on ?_;refine .call (Zjg _ _ c κ2 l [] (⟨i+1,3,1,0,0,Ho xs[i],b2⟩:Chn) _ _ (Ho xs[i]) hk2 hp2 (by show(1:Nat)≠3;decide) (yd _)) ?_;rintro _ _ P4 ⟨hs4,rfl,rfl⟩;have hb8:=hs4 _ hb7;have hT4:=hs4 _ (hs3 _ (hs2 _ hT2));refine .on (.pu (.cmp (q:=false) (hq:=by show some (decide (((13:Nat):Int)≠13))=some false;decide)) ?_);refine .pu .pk (.pu .mv (.on (.pu .fa (.on (.ld (hm:=.p hb8) ?_)))));refine .on (.pu .mv (.on (.pu .add (.on (.pu .mv ?_)))));refine .on ?_;refine .call (Zin _ _ c κ2 l [] (⟨i+1,3,1,0,0,Ho xs[i],b2⟩:Chn) _ _ 2 i hT4 hk2 hp2 rfl (by decide) (by omega) (wP _)) ?_;rintro _ _ P5 ⟨hs5,er5,κ5,rfl,yJ,rfl⟩
  obtain⟨rfl,hn5,hk5⟩:=yJ.good (fun h=>h);have hb9:=hs5 _ hb8;have hk5:CkOk κ5 (l++[(⟨i+1,3,2,2,i,Ho xs[i],b2⟩:Chn)]++[]) g (Wn+1):=hk5;have hp5:H6 l [(⟨i+1,3,2,2,i,Ho xs[i],b2⟩:Chn)] [] ((⟨i+1,3,2,2,i,Ho xs[i],b2⟩:Chn)).at:=hl.parted (.inr ⟨_,rfl,rfl⟩);refine .on (.pu (.cmp (q:=false) (hq:=by show some (decide (((0:Nat):Int)≠0))=some false;decide)) ?_);refine .pu .pk (.pu .mv (.on (.pu .fa (.on (.ld (hm:=.p hb9) ?_)))));refine .on (.pu .mv (.on (.pu .add (.on (.pu .mv ?_)))));refine .on ?_;refine .call (Zio _ _ c κ5 l [] (⟨i+1,3,2,2,i,Ho xs[i],b2⟩:Chn) _ _ 2 i hk5 hp5 (by show(2:Nat)≠1;decide) (by decide) (by omega)) ?_;rintro _ _ P6 ⟨hs6,rfl,rfl⟩;have xG:=hs6 _ hb9;have hP6:∀A∈Pt b5 [pp0 w1,pp0 w2,pp0 w3,.pointer (some ⟨c,0,none⟩)] (tz 0 48)::_,A∈P6:=fun A hA=>hs6 _ (hs5 _ (hs4 _ (hs3 _ (hs2 _ (hP A hA)))))
  refine .on (.pu (.cmp (q:=false) (hq:=by show some (decide (((13:Nat):Int)≠13))=some false;decide)) ?_);refine .pu .pk (.nil ?_);refine .no rfl (.skip ?_);by_cases he:i%2=0
  ·refine .seq (.region (.pu .mv (.pu (.i_rem (b:=2)) (.pu .cy (.nil ?_)))));refine .yes rfl (.seq (.region ?_));have hpN:H6 (l++[(⟨i+1,3,2,2,i,Ho xs[i],b2⟩:Chn)]) [] [] (i+1,4):=⟨fun a ha=>by
    rcases Zk.1 ha with ha|ha
    ·exact .inl (hl.lt ha)
    ·rcases Z6.1 ha with rfl
     exact .inr ⟨rfl,by show 3<4;decide⟩,fun c hc=>(by cases hc),.inl rfl⟩
   have hkN:CkOk κ5 ((l++[(⟨i+1,3,2,2,i,Ho xs[i],b2⟩:Chn)])++[]++[]) g (Wn+1):=by
    rw[Z9];exact hk5
   refine .pu .fa (.ld (hm:=.p xG) ?_);refine .pu .mv (.pu .add ?_);refine .call (Ziw _ _ c κ5 (l++[(⟨i+1,3,2,2,i,Ho xs[i],b2⟩:Chn)]) [] g (Wn+1) (i+1) 4 hkN hpN (by omega) (by omega) (by omega)) ?_;rintro _ _ P7 ⟨rfl,rfl,hs7⟩;have xH:=hs7 _ xG;refine .pu .mv (.pu .ex (.pu .ex (.pu .as (.pu .as (.nil (.seq (.seq (.region (.pu .fa (.ld (hm:=.p xH) ?_))))))))));refine .pu .mv (.pu .add ?_);refine .call (Ziq _ _ c κ5 l [] (⟨i+1,3,2,2,i,Ho xs[i],b2⟩:Chn) _ _ (hs7 _ (hs6 _ (hs5 _ hT4))) hk5 hp5 rfl (wP _)) ?_;rintro _ _ P8 ⟨hs8,er8,κ8,rfl,yK,rfl⟩;obtain⟨rfl,hn8,hk8⟩:=yK.good (fun h=>h);have xI:=hs8 _ xH;have hk8:CkOk κ8 (l++[(⟨i+1,3,3,2,i,Ho xs[i],0⟩:Chn)]++[]) (g+1) (Wn+1):=hk8;have hp8:H6 l [(⟨i+1,3,3,2,i,Ho xs[i],0⟩:Chn)] [] ((⟨i+1,3,3,2,i,Ho xs[i],0⟩:Chn)).at:=hl.parted (.inr ⟨_,rfl,rfl⟩)
   refine .pu (.cmp (q:=false) (hq:=by show some (decide (((0:Nat):Int)≠0))=some false;decide)) ?_;refine .pu .mv (.on (.pu .mv ?_));refine .on (.pu (.cmp (q:=false) (hq:=by show some (decide ((7:Int)≠7))=some false;decide)) ?_);refine .pu .pk (.nil ?_);refine .no rfl (.skip (.seq (.region (.pu .fa (.ld (hm:=.p xI) ?_)))));refine .pu .mv (.pu .add ?_);refine .call (Zix _ _ c κ8 l [] (⟨i+1,3,3,2,i,Ho xs[i],0⟩:Chn) _ _ hk8 hp8 rfl) ?_;rintro _ _ P9 ⟨rfl,rfl,hs9⟩;have yL:=hs9 _ xI;refine .pu .mv (.pu .ex (.pu .ex (.pu .as (.nil (.seq (.region (.pu .mv ?_)))))));refine .pu (.cmp (q:=false) (hq:=by show some (decide ((13:Int)≠13))=some false;decide)) ?_;refine .pu .mv (.on (.pu .fa (.on (.ld (hm:=.p yL) ?_))));refine .on (.pu .mv (.on (.pu .add (.on (.pu .mv ?_)))));refine .on ?_;refine .call (Ziu _ _ c κ8 l [] (⟨i+1,3,3,2,i,Ho xs[i],0⟩:Chn) _ _ (Ho xs[i]) (hs9 _ (hs8 _ (hs7 _ (hs6 _ (hs5 _ hT4))))) hk8 (by omega) hp8 rfl (yd _) rfl (wP _)) ?_;rintro _ _ P10 ⟨yM,er10,κ10,rfl,yN,rfl⟩
   obtain⟨rfl,yW,b10,wY⟩:=yN.good (hk8.room (by simp only[Zd,Jr,Zo];omega));have wY:CkOk κ10 (l++[(⟨i+1,3,2,2,i,Ho xs[i],b10⟩:Chn)]++[]) (g+1) (Wn+1+1):=wY;refine .on (.pu (.cmp (q:=false) (hq:=by show some (decide (((0:Nat):Int)≠0))=some false;decide)) ?_);refine .pu .pk (.nil ?_);refine .no rfl (.skip (.region (.pu .mv (.pu .add (.pu .as (.nil ?_))))));refine⟨⟨i+1,κ10,l++[(⟨i+1,3,2,2,i,Ho xs[i],b10⟩:Chn)]++[],g+1,Wn+1+1,P10⟩,⟨wY,(by show κ10.β.n=20;omega),hl.next rfl rfl rfl rfl rfl (Zn hix) rfl,(by show g+1≤(i+1+1)/2;omega),(by show Wn+1+1≤2*(i+1);omega),fun A hA=>yM _ (hs9 _ (hs8 _ (hs7 _ (hP6 A hA)))),hix,(by show i+1≤12;omega)⟩,(by show xs.length-(i+1)<xs.length-i;omega),⟨rfl,rfl,rfl,trivial⟩,.refl _ _⟩
  ·refine .seq (.region (.pu .mv (.pu (.i_rem (b:=2)) (.pu .cn (.nil ?_)))));refine .no rfl (.skip (.region (.pu .mv (.pu .add (.pu .as (.nil ?_))))));refine⟨⟨i+1,κ5,l++[(⟨i+1,3,2,2,i,Ho xs[i],b2⟩:Chn)]++[],g,Wn+1,P6⟩,⟨hk5,(by show κ5.β.n=20;omega),hl.next rfl rfl rfl rfl rfl (Zn hix) rfl,(by show g≤(i+1+1)/2;omega),(by show Wn+1≤2*(i+1);omega),hP6,hix,(by show i+1≤12;omega)⟩,(by show xs.length-(i+1)<xs.length-i;omega),⟨rfl,rfl,rfl,trivial⟩,.refl _ _⟩
 refine .exit (.seq (.seq (.region (.pu .as (.nil ?_)))));refine .block (W.loop (fun a:SR=>a.i≤xs.length∧a.i≤12∧∀A∈Pt b5 [pp0 w1,pp0 w2,pp0 w3,.pointer (some ⟨c,0,none⟩)] (tz 0 48)::_,A∈a.P) (fun a=>xs.length-a.i) (fun a=>[(11,.int .i64 (a.i:Nat)),(5,pp0 b5),(0,v)]) (fun _=>CkS c κ::L) (fun a=>a.P) ⟨0,P⟩ ⟨Zj _,Zj _,hP⟩ ⟨rfl,rfl,rfl,trivial⟩ (.refl _ _) (fun a ha=>?_));rw[Xz,decide_eq_false_iff_not,decide_eq_false_iff_not]at wN;obtain⟨hj,hj4,hP⟩:=ha;generalize a.i=j at hj hj4 ⊢;generalize a.P=P at hP ⊢;have hb5:=hP _ (.head _);have hv2:=hP _ (.tail _ hv);refine .seq (.seq (.region (.pu .mv (.pu .mv (.lk (.ln (hm:=.r (.p hv2))) ?_)))));rw[Zc];refine .pu .cmp (.pu .mv ?_);refine .and 125 2 (decide ((j:Int)<12)) (fun hq=>?_) ?_
 ·refine .on (.pu .mv (.on (.pu .cmp ?_)));exact .fin rfl
 refine .nil ?_;refine .ite rfl (fun wZ=>?_) (fun wZ=>?_)
 ·refine .skip (.seq (.block (.seq (.region ?_))));rw[Zi,decide_eq_true_eq,decide_eq_true_eq]at wZ;obtain⟨hjx,yX⟩:=wZ;have hjx:j<xs.length:=by omega
  have hjl:j<l.length:=by omega
  have hgx:(xs.map fun x=>[Value.int .i64 x])[((j:Nat):Int).toNat]? =some [.int .i64 xs[j]]:=by
   rw[Yp,Zy,Zn hjx];rfl
  obtain⟨A,q,C,hAl,hlj⟩:∃A q C,l=A++[q]++C∧l[j]? =some q:=⟨l.take j,l[j],l.drop (j+1),Zji hjl,Zn hjl⟩;obtain⟨f1,f2,f3,f4,f5,x,f6,f7⟩:=hl.at' j q hlj;obtain⟨ino,idx,st,ep,num,by',blk⟩:=q;simp only at f1 f2 f3 f4 f5 f7;have f5:=f5.symm;subst f1 f2 f3 f4 f5;obtain rfl:xs[j]=x:=by
   rw[Zn hjx]at f6;exact Option.some.inj f6
  have hkq:CkOk κ (A++[(⟨j+1,3,2,2,j,by',blk⟩:Chn)]++C) g Wn:=hAl▸hk;have hpq:=Zjj hkq.so;refine .pu .fa (.ld (hm:=.p hb5) ?_);refine .pu .mv (.pu .add ?_);refine .call (Ziv _ _ c κ A C ⟨j+1,3,2,2,j,by',blk⟩ g Wn hkq hpq (by show(2:Nat)≠3;decide)) ?_;rintro _ _ P2 ⟨rfl,rfl,hs2⟩;have hb6:=hs2 _ hb5;refine .pu .mv (.pu .ex (.pu .ex (.pu .as (.pu .as (.nil (.seq (.region (.pu .fa (.ld (hm:=.p hb6) ?_)))))))));refine .pu .mv (.pu .add ?_);refine .call (Ziy _ _ c κ A C ⟨j+1,3,2,2,j,by',blk⟩ g Wn hkq hpq) ?_;rintro _ _ P3 ⟨rfl,rfl,hs3⟩;have hv3:=hs3 _ (hs2 _ hv2);refine .pu .mv (.pu .ex (.pu .ex ?_));refine .nw (cs:=[.int .i64 0,.int .i64 0,.int .i64 0,.int .i64 0,.int .i64 0,.int .i64 0]) fun b14=>?_;refine .st (vs:=[_,_,_,_,_,_]) ?_;refine .pu .as (.nil ?_);refine .seq (.drawn fun _=>?_);refine .pu .mv ?_
  refine .pu (.cmp (q:=false) (hq:=by show some (decide ((0:Int)≠0))=some false;decide)) ?_;refine .pu .mv (.pu .mv ?_);refine .pu (.cmp (q:=false) (hq:=by show some (decide ((0:Int)≠0))=some false;decide)) ?_;refine .pu .pk (.pu .mv (.pu .mv (.pu .mv (.pu .mv ?_))));refine .lk (.ia (k:=1) (es:=xs.map fun x=>[Value.int .i64 x]) (hm:=.r (.p hv3)) (hn:=⟨by omega,by rw[Zc];omega⟩)) ?_;refine .lo 0 0 .le (.mk hgx (hm:=.r (.p hv3))) ?_;refine .call (QX _ _ xs[j] (hx _ (Zz hjx))) ?_;rintro _ L P ⟨rfl,rfl,rfl⟩;rw[←f7];refine .pu (.sne (q:=false) (hq:=by simp)) ?_;refine .pu .pk (.pu .mv (.lo 1 2 .ld .mk ?_));refine .pu .mv (.pu .add (.pu .mv (.pu .mv ?_)));refine .call (Zjf _ _ by' (by rw[f7,yd];decide)) ?_;rintro _ L P ⟨rfl,rfl,rfl⟩;refine .pu (.bd (vs:=[_,_,_,_,_,_])) ?_;refine .pu (Zjn ⟨j+1,3,2,2,j,Md by',blk⟩) ?_
  refine .pu .pk (.nil (.cons (.skip (.yes .mk (.yes .mk .nil))) (.cons (.yes (.mk hgx (hm:=.r (.p hv3))) (.skip (.skip .nil))) .nil)) ?_);refine .no rfl (.skip (.region (.pu .mv (.pu .add (.pu .as (.nil ?_))))));refine⟨⟨j+1,_⟩,⟨hjx,(by show j+1≤12;omega),fun A hA=>hs3 _ (hs2 _ (hP A hA))⟩,(by show xs.length-(j+1)<xs.length-j;omega),⟨rfl,rfl,rfl,trivial⟩,Ent.drop⟩
 refine .exit (.seq (.region (.pu .as (.nil (.ret ?_)))));exact⟨_,.tmp rfl .nil,_,_,(Ent.refl _ _),rfl⟩
end Go.Cis
