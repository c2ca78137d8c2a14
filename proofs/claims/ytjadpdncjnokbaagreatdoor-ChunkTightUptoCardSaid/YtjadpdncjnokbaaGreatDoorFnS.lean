/- tree.change. -/
import Derived.Test.YtjadpdncjnokbaaGreatDoorFnQ
import Derived.Test.YtjadpdncjnokbaaGreatDoorLxC
set_option linter.unusedSimpArgs false
set_option linter.unusedVariables false
namespace Go.Cis
open Go Go.Ax Go.Lx Go.Proofs
set_option maxRecDepth 100000
variable (L P:List Asn)
theorem Zte(t:Nat)(τ:Tr)(c:Nat)(hc:τ.count=(c:Nat)):Sp SET 140 [.pointer (some ⟨t,0,none⟩)] (trL t τ++L) P (fun r L' P'=>∃τ',(r=S (Uz τ.root c)∧τ'=τ∧P'=P)∧L'=trL t τ'++L):=
 (Zr7 L P t τ c hc).post (fun v L' P' ⟨e0,e1,e2⟩=>⟨_,_,.refl _ _,τ,⟨e0,rfl,e2⟩,e1⟩)
theorem Ztf(r c:Nat):(Uz r c).length=7:=by unfold Uz Gp;simp
theorem Wob.form{τ τ1:Tr}(h:Wob τ τ1):∃a2 w2 α2 r c d,τ1=⟨τ.s,a2,{τ.σ with w:=w2},α2,r,c,d⟩:=by
 obtain⟨w,hw⟩:=h.w;have hs:=h.s;cases τ1;simp only at hs hw;subst hs hw;exact⟨_,_,_,_,_,_,rfl⟩
def CFn(P0:List Asn)(t:Nat)(τ:Tr)(fid:FuncId)(caps:Array Value)(Q:Nat→Tr→Prop):Prop:=
 ∀(L P:List Asn),(∀A∈P0,A∈P)→Sp SET fid ([]++[]++caps.toList) (trL t τ++L) P (fun r L' P'=>∃τ',((∀A∈P,A∈P')∧∃e:Nat,r=.int .i64 (e:Nat)∧Wob τ τ'∧Q e τ')∧L'=trL t τ'++L)
def ChO(τ:Tr)(Q:Nat→Tr→Prop)(P:List Asn)(r:Value)(τ':Tr)(P':List Asn):Prop:=
 (∀A∈P,A∈P')∧∃e:Nat,r=.int .i64 (e:Nat)∧((e≠0∧∃τ1 a',Q e τ1∧τ'= {τ with a:=a'})∨(e=0∧∃τ1,∃c:Nat,Q 0 τ1∧Wob τ τ1∧τ1.count=(c:Nat)∧τ'= {τ1 with σ:=τ1.σ.put 0 (Uz τ1.root c),α:=τ1.α.settle}))
theorem Ztg(L P P0:List Asn)(t:Nat)(τ:Tr)(fid:FuncId)(caps:Array Value)(Q:Nat→Tr→Prop)(hf:CFn P0 t τ fid caps Q)(h0:∀A∈P0,A∈P)(hQ:∀τ',Q 0 τ'→∃c:Nat,τ'.count=(c:Nat))(hn:0<τ.σ.n):Sp SET 74 [.pointer (some ⟨t,0,none⟩),.func (.func fid) #[] caps] (trL t τ++L) P (fun r L' P'=>∃τ',ChO τ Q P r τ' P'∧L'=trL t τ'++L):=by
 obtain⟨Q0,hQ0⟩:∃Q0:List Asn,Q0=P:=⟨P,rfl⟩;refine .bo (fn:=Tryz.f74) (N:=30) ?_;refine .seq (.region (.pu .as (.nil (.seq (.region (.pu .mv ?_))))));refine .call (Zhl _ _ _ _) ?_;rintro _ _ _ ⟨m,x,⟨rfl,hPe⟩,rfl⟩;subst hPe;refine .pu .as (.nil (.seq (.region (.pu .mv ?_))));refine .call (Sp.tr (tmL m t τ x) _ (fun L=>hf L _ h0)) ?_;rintro _ _ _ ⟨τ1,⟨hs1,e,rfl,hwob,hq⟩,rfl⟩;refine .pu .as (.nil ?_);by_cases he:e=0
 ·refine .seq (.seq (.region (.pu .mv (.pu .cy (.nil ?_)))));refine .yes rfl ?_;refine .drawn (by kernel_rfl) fun base=>?_;refine .pu .mv (.pu .nc (.pu .fa (.lo 0 1 .ld .mk ?_)));refine .pu .mv ?_;subst he;obtain⟨c,hc⟩:=hQ τ1 hq;obtain⟨w1,hw1⟩:=hwob.w;have hn1:(0:Int)<τ1.σ.n:=by rw[hw1];show(0:Int)<τ.σ.n;omega
  refine .call (Sp.tr (tmL m t τ x) _ (fun L=>Zte L _ t τ1 c hc)) ?_;rintro _ _ _ ⟨τh,⟨rfl,hτh,hPh⟩,rfl⟩;have hτh:=hτh.symm;have hPh:=hPh.symm;subst hτh hPh;refine .call (Sp.up (.s (.s (.s (.s .z)))) (fun L=>F5 L _ _ _ 0 _ (Int.le_refl _) hn1 (Nat.le_trans (Nat.le_of_eq (Ztf _ _)) (by decide)))) ?_;rintro _ L P ⟨rfl,rfl,rfl⟩;refine .pu .as (.nil (.cons (.yes .mk (.yes .mk (.skip .nil))) .nil) (.seq (.seq (.region (.pu .mv (.pu .cmp (.nil ?_)))))));refine .no rfl (.skip (.seq (.region (.pu .mv (.pu .nc (.pu .fa (.ld ?_)))))));refine .call (Sp.up (.s (.s (.s (.s (.s .z))))) (fun L=>Zgs L _ _ _)) ?_;rintro _ L P ⟨rfl,rfl,rfl⟩;refine .nil (.seq (.region (.pu .as (.nil (.ret ?_)))));exact⟨_,.tmp rfl .nil,_,_,Ent.d3,{τ1 with σ:=τ1.σ.put 0 (Uz τ1.root c),α:=τ1.α.settle},⟨hs1,0,rfl,.inr ⟨rfl,τ1,c,hq,hwob,hc,rfl⟩⟩,rfl⟩
 ·refine .seq (.seq (.region (.pu .mv (.pu .cn (.nil ?_)))));refine .no rfl (.skip (.seq (.seq (.region (.pu .mv (.pu .cy (.nil ?_)))))));refine .yes rfl (.seq (.region ?_));obtain⟨a2,w2,α2,r2,c2,d2,rfl⟩:=hwob.form;refine .pu .mv (.pu .mv ?_);refine .call (Sp.ent (Ent.pull (tmL m t τ x) _ _) (Zhm _ _ t m τ x a2 w2 α2 r2 c2 d2)) ?_;rintro _ _ _ ⟨a',⟨rfl,rfl⟩,rfl⟩;refine .nil (.seq (.region (.pu .mv (.pu .as (.nil (.ret ?_))))));exact⟨_,.tmp rfl .nil,_,_,(Ent.trans (Ent.pull (trL t {τ with a:=a'}) (tmL m t τ x) _) Ent.d3),{τ with a:=a'},⟨hs1,e,rfl,.inl ⟨he,_,a',hq,rfl⟩⟩,rfl⟩
theorem Zhn{α:Type}{p:α→Bool}{C:List α}(h:∀c∈C,p c=false):∀B:List α,(B++C).takeWhile p=B.takeWhile p
 |[]=>by
  cases C with
  |nil=>rfl
  |cons c C=>rw[List.nil_append,List.takeWhile_cons_of_neg (by rw[h c (List.mem_cons_self ..)];simp)];rfl
 |b::B=>by
  rw[List.cons_append];cases hb:p b with
  |true=>rw[List.takeWhile_cons_of_pos hb,List.takeWhile_cons_of_pos hb,Zhn h B]
  |false=>rw[List.takeWhile_cons_of_neg (by simp[hb]),List.takeWhile_cons_of_neg (by simp[hb])]
theorem Zho{α:Type}{p:α→Bool}{X:List α}:∀ {A:List α},(∀a∈A,p a=true)→(A++X).takeWhile p=A++X.takeWhile p
 |[],_=>rfl
 |a::A,h=>by
  rw[List.cons_append,List.takeWhile_cons_of_pos (h a (List.mem_cons_self ..)),Zho (fun b hb=>h b (List.mem_cons_of_mem _ hb))];rfl
theorem Zbh{k:Bs}{A B C:List Pr}(hA:∀q∈A,Zd q.1 k=true)(hC:∀q∈C,Zd k q.1=true):lb ((A++B++C).map (·.1)) k=A.length+lb (B.map (·.1)) k:=by
 unfold lb;rw[List.append_assoc,List.map_append,List.map_append,Zho (fun a ha=>by
  obtain⟨q,hq,rfl⟩:=List.mem_map.1 ha;exact hA q hq),Zhn (fun c hc=>by
  obtain⟨q,hq,rfl⟩:=List.mem_map.1 hc;exact Fv _ _ (hC q hq)),List.length_append,List.length_map]
theorem Zth{k:Bs}{A B C:List Pr}(hA:∀q∈A,Zd q.1 k=true)(hC:∀q∈C,Zd k q.1=true):(((A++B++C).map (·.1))[lb ((A++B++C).map (·.1)) k]? =some k)↔((B.map (·.1))[lb (B.map (·.1)) k]? =some k):=by
 have hle:=Gk (B.map (·.1)) k;rw[Zbh hA hC,List.append_assoc,List.map_append,List.getElem?_append_right (by rw[List.length_map];omega),List.length_map,Nat.add_sub_cancel_left,List.map_append];rcases Nat.lt_or_ge (lb (B.map (·.1)) k) (B.map (·.1)).length with h|h
 ·rw[List.getElem?_append_left h]
 ·rw[List.getElem?_append_right h];have e:(B.map (·.1))[lb (B.map (·.1)) k]? =none:=List.getElem?_eq_none h;rw[e,Nat.le_antisymm hle h,Nat.sub_self];constructor
  ·intro h2;rcases C with _|⟨c,C⟩
   ·cases h2
   ·have h2:c.1=k:=Option.some.inj h2;have:=hC c (List.mem_cons_self ..);rw[h2,Kb]at this;cases this
  ·intro h2;cases h2
theorem Zhp{k w:Bs}{A B C:List Pr}(hA:∀q∈A,Zd q.1 k=true)(hC:∀q∈C,Zd k q.1=true):Ya (A++B++C) k w=A++Ya B k w++C:=by
 have hle:=Gk (B.map (·.1)) k;rw[List.length_map]at hle;unfold Ya;rw[decide_eq_decide.2 (Zth hA hC),Zbh hA hC];cases hd:decide ((B.map (·.1))[lb (B.map (·.1)) k]? =some k)with
 |true=>
  have hlt:=(List.getElem?_eq_some_iff.1 (of_decide_eq_true hd)).1;rw[List.length_map]at hlt;simp only[cond_true];rw[List.append_assoc,List.set_append_right _ _ (by omega),Nat.add_sub_cancel_left,List.set_append_left _ _ hlt,List.append_assoc]
 |false=>
  simp only[cond_false];rw[List.append_assoc,List.take_append,List.take_of_length_le (by omega),Nat.add_sub_cancel_left,List.drop_append,List.drop_of_length_le (by omega),Nat.add_sub_cancel_left,List.take_append_of_le_length hle,List.drop_append_of_le_length hle];simp
def B7(k w:Bs)(ps:List Pr):Option (List Pr):=some (Ya ps k w)
theorem Zhq{k w:Bs}{ps:List Pr}{q:Pr}(h:q∈Ya ps k w):q=(k,w)∨q∈ps:=by
 unfold Ya at h;cases hd:decide ((ps.map (·.1))[lb (ps.map (·.1)) k]? =some k)with
 |true=>
  rw[hd]at h;simp only[cond_true]at h;rcases List.mem_or_eq_of_mem_set h with h|h
  ·exact .inr h
  ·exact .inl h
 |false=>
  rw[hd]at h;simp only[cond_false]at h;rcases List.mem_append.1 h with h|h
  ·exact .inr (List.mem_of_mem_take h)
  ·rcases List.mem_cons.1 h with h|h
   ·exact .inl h
   ·exact .inr (List.mem_of_mem_drop h)
theorem Zhr(k w:Bs):GOk k (B7 k w) where
 loc:=fun A B C hA hC=>by unfold B7;rw[Zhp hA hC];rfl
 keys:=fun B B' h q hq=>by
  obtain rfl:=Option.some.inj h;rcases Zhq hq with e|e
  ·exact .inl (by rw[e])
  ·exact .inr ⟨q,e,rfl⟩
theorem Zhs{k w:Bs}{ps:List Pr}(h:rise (ps.map (·.1))=true):∃A C,(∀q∈A,Zd q.1 k=true)∧(∀q∈C,Zd k q.1=true)∧Ya ps k w=A++(k,w)::C∧((ps=A++C∧(ps.map (·.1))[lb (ps.map (·.1)) k]? ≠some k)∨∃x,x.1=k∧ps=A++x::C∧(ps.map (·.1))[lb (ps.map (·.1)) k]? =some k):=by
 have hs:=Za6 h k;have hle:=Gk (ps.map (·.1)) k;rw[List.length_map]at hle;have hA:∀q∈ps.take (lb (ps.map (·.1)) k),Zd q.1 k=true:=fun q hq=>by
  obtain⟨j,hj,rfl⟩:=List.getElem_of_mem hq;rw[List.length_take]at hj;have:=(hs j (by rw[List.length_map];omega)).1 (by omega);rw[List.getElem_map]at this;rw[List.getElem_take];exact this
 cases hd:decide ((ps.map (·.1))[lb (ps.map (·.1)) k]? =some k)with
 |true=>
  have hk:=of_decide_eq_true hd;obtain⟨hlt,hke⟩:=List.getElem?_eq_some_iff.1 hk;have hlt2:lb (ps.map (·.1)) k<ps.length:=by rw[List.length_map]at hlt;exact hlt
  rw[List.getElem_map]at hke;refine⟨ps.take (lb (ps.map (·.1)) k),ps.drop (lb (ps.map (·.1)) k+1),hA,fun q hq=>?_,?_,.inr ⟨ps[lb (ps.map (·.1)) k],hke,?_,hk⟩⟩
  ·obtain⟨j,hj,rfl⟩:=List.getElem_of_mem hq;rw[List.length_drop]at hj;rw[List.getElem_drop];have:=(List.pairwise_iff_getElem.1 (Xd.1 h)) (lb (ps.map (·.1)) k) (lb (ps.map (·.1)) k+1+j) hlt (by rw[List.length_map];omega) (by omega);rw[List.getElem_map,List.getElem_map,hke]at this;exact this
  ·unfold Ya;rw[hd,cond_true,List.set_eq_take_append_cons_drop,if_pos hlt2]
  ·rw[←List.drop_eq_getElem_cons hlt2,List.take_append_drop]
 |false=>
  have hk:=of_decide_eq_false hd;refine⟨ps.take (lb (ps.map (·.1)) k),ps.drop (lb (ps.map (·.1)) k),hA,fun q hq=>?_,?_,.inl ⟨(List.take_append_drop ..).symm,hk⟩⟩
  ·obtain⟨j,hj,rfl⟩:=List.getElem_of_mem hq;rw[List.length_drop]at hj;rw[List.getElem_drop];have h1:=(hs (lb (ps.map (·.1)) k+j) (by rw[List.length_map];omega)).2 (by omega);rw[List.getElem_map]at h1;cases h2:Zd k (ps[lb (ps.map (·.1)) k+j]).1 with
   |true=>rfl
   |false=>
    exfalso;have e:=Ht _ _ h2 h1;rcases Nat.eq_zero_or_pos j with h3|h3
    ·subst h3;refine hk ?_;rw[List.getElem?_map,List.getElem?_eq_getElem (by omega)];exact congrArg some e.symm
    ·have h4:=(List.pairwise_iff_getElem.1 (Xd.1 h)) (lb (ps.map (·.1)) k) (lb (ps.map (·.1)) k+j) (by rw[List.length_map];omega) (by rw[List.length_map];omega) (by omega);have h5:=(hs (lb (ps.map (·.1)) k) (by rw[List.length_map];omega)).2 (Nat.le_refl _);rw[List.getElem_map,List.getElem_map,←e]at h4;rw[List.getElem_map]at h5;rw[h4]at h5;cases h5
  ·unfold Ya;rw[hd,cond_false]
theorem Zht{k w:Bs}{ps:List Pr}:(Ya ps k w).length≤ps.length+1∧ps.length≤(Ya ps k w).length:=by
 have hle:=Gk (ps.map (·.1)) k;rw[List.length_map]at hle;unfold Ya;cases decide ((ps.map (·.1))[lb (ps.map (·.1)) k]? =some k)with
 |true=>simp
 |false=>
  simp only[cond_false,List.length_append,List.length_take,List.length_cons,List.length_drop];omega
theorem Zti{k w:Bs}{ps:List Pr}(h:rise (ps.map (·.1))=true):rise ((Ya ps k w).map (·.1))=true:=by
 obtain⟨A,C,hA,hC,e,hp⟩:=Zhs (w:=w) h (k:=k);rw[e];have key:rise ((A++C).map (·.1))=true:=by
  rcases hp with⟨hp,_⟩|⟨x,_,hp,_⟩
  ·rw[←hp];exact h
  ·rw[hp]at h;rw[Xd]at h ⊢;exact List.Pairwise.sublist (by simp) h
 rw[Xd,List.map_append,List.pairwise_append]at key ⊢;obtain⟨k1,k2,k3⟩:=key;rw[List.map_cons];refine⟨k1,List.pairwise_cons.2 ⟨fun b hb=>?_,k2⟩,fun a ha b hb=>?_⟩
 ·obtain⟨q,hq,rfl⟩:=List.mem_map.1 hb;exact hC q hq
 ·rcases List.mem_cons.1 hb with rfl|hb
  ·obtain⟨q,hq,rfl⟩:=List.mem_map.1 ha;exact hA q hq
  ·exact k3 a ha b hb
theorem Ztj{k w:Bs}{ps:List Pr}(h:rise (ps.map (·.1))=true):weight (Ya ps k w)≤weight ps+(2+k.length+w.length):=by
 obtain⟨A,C,hA,hC,e,hp⟩:=Zhs (w:=w) h (k:=k);have c1:∀(a:Pr) (l:List Pr),weight (a::l)=2+a.1.length+a.2.length+weight l:=fun a l=>by unfold weight;simp
 rw[e,Uy,c1];rcases hp with⟨hp,_⟩|⟨x,_,hp,_⟩
 ·rw[hp,Uy];show _+(2+k.length+w.length+_)≤_;omega
 ·rw[hp,Uy,c1];show _+(2+k.length+w.length+_)≤_;omega
theorem Ztk{k w:Bs}{ps:List Pr}(hp:Yb (Zh ps))(hk:isKey k=true)(hw:w.length≤48):(Zh (Ya ps k w)).ok=true∧weight (Ya ps k w)≤316∧ps.length<255:=by
 have hl:=Xb hp.ok rfl;obtain⟨_,_,_,_,hr,_⟩:=Y9 hl;have hr:rise (ps.map (·.1))=true:=hr;have hz:=hp.sz;rw[Xx rfl]at hz;have hz:2+weight ps≤160:=hz;have hm:=Nb ps;have hpl:=Zht (k:=k) (w:=w) (ps:=ps);have hwt:=Ztj (w:=w) hr (k:=k);have hkl:=(Gm hk).2;refine⟨Kd (B0 (by omega) (fun q hq=>?_) (Zti hr)),by omega,by omega⟩;rcases Zhq hq with rfl|hq
 ·exact⟨hk,hw⟩
 ·have:=Ux hl q hq;exact⟨this.1,this.2.2⟩
theorem Ztl(t:Nat)(τ:Tr)(v:Value)(ps:List Pr)(bp bt z1 z2:Nat)(k w:Bs)(h1:Pt bp [S k,S w] z1∈P)(h2:Pt bt [.pointer (some ⟨t,0,none⟩)] z2∈P)(hv:NdV P v (Zh ps))(hpo:Yb (Zh ps))(hk:isKey k=true)(hw:w.length≤48)(hc0: -1000000≤τ.count)(hc1:τ.count≤1000000):Sp SET 79 [v,pp0 bp,pp0 bt] (trL t τ++L) P (fun r L' P'=>∃τ',FnO (B7 k w) 0 true τ ps P r τ' P'∧L'=trL t τ'++L):=by
 have hv0:=hv;obtain⟨pv,kv,iv,rfl,hpv,hkv,hiv⟩:=hv.ex;refine Sp.fact (Zg (.s (.p hpv))) fun⟨a1,c1,e1⟩=>?_;refine Sp.fact (Zg (.s (.p hkv))) fun⟨a2,c2,e2⟩=>?_;refine Sp.fact (Zg (.s (.p hiv))) fun⟨a3,c3,e3⟩=>?_;subst e1 e2 e3;obtain⟨hok2,hwt,hl⟩:=Ztk hpo hk hw;have hpl:=Zht (k:=k) (w:=w) (ps:=ps);refine .bo (fn:=Tryz.f79) (N:=29) ?_;refine .seq (.region ?_);refine .bx (cs:=[_,_,_,_]) fun b3=>?_;refine .nw (cs:=[.bool false,.slice none 0 0,.slice none 0 0,.slice none 0 0]) fun b4=>?_;refine .pu .as (.nil (.seq (.region (.lda (vs:=[_,_,_,_]) ?_))));refine .lda (vs:=[_,_]) ?_;refine .call (Zqv _ _ _ (Zh ps) k w hv0 hpo.sm.small (Xb hpo.ok rfl) hk hw hl) ?_;rintro _ _ _ ⟨v1,rfl,hv1,rfl,hs1⟩;have hv10:=hv1;have h22:=hs1 _ h2;have hpv1:=hs1 _ hpv;obtain⟨qv,rv,sv,rfl,hqv,hrv,hsv⟩:=hv1.ex
 refine .fact (Zg (.s (.p hqv))) fun⟨b1,d1,f1⟩=>?_;refine .fact (Zg (.s (.p hrv))) fun⟨b2,d2,f2⟩=>?_;refine .fact (Zg (.s (.p hsv))) fun⟨b3_,d3,f3⟩=>?_;subst f1 f2 f3;have hL1:(List.map Zc (Zh (Ya (Zh ps).pairs k w)).pairs).length=(Ya ps k w).length:=List.length_map ..;have hL2:(List.map Zc (Zh ps).pairs).length=ps.length:=List.length_map ..;refine .pu .mv (.pu .ex (.pu .ex ?_));refine .nw (cs:=[.bool false,.slice none 0 0,.slice none 0 0,.slice none 0 0]) fun b6=>?_;refine .st (vs:=[_,_,_,_]) ?_;refine .pu .as (.nil ?_);refine .seq (.drawn (by kernel_rfl) fun base=>?_);refine .lo 0 0 .ld .mk ?_;refine .pu .nc (.pu .fa (.lo 0 0 .ld .mk ?_));refine .pu .fa (.lo 0 0 .ld .mk ?_);refine .lk .ln ?_;refine .pu .fa (.lo 0 0 .ld .mk ?_);refine .lk .ln ?_;refine .pu .sub (.pu .add ?_);rw[show τ.count+(((List.map Zc (Zh (Ya (Zh ps).pairs k w)).pairs).length:Int)-((List.map Zc (Zh ps).pairs).length:Int))=τ.count+Y3 true ps (Ya ps k w) by rw[hL1,hL2];rfl]
 refine .pu .nc (.pu .fa (.st (vs:=[_]) ?_));refine .nil (.cons (.yes .mk (.skip .nil)) (.cons (.yes .mk (.skip .nil)) (.cons (.yes .mk (.skip .nil)) (.cons (.yes .mk (.skip .nil)) .nil)))) (.seq (.region (.lda (vs:=[_,_,_,_]) ?_)));refine .pu .mv (.st (vs:=[_,_,_,_]) ?_);refine .pu .as (.nil (.ret ?_));exact⟨_,.cell rfl .l1 rfl (.tmp rfl .nil),_,_,Ent.d3,{τ with count:=τ.count+Y3 true ps (Ya ps k w)},⟨hs1,.inl ⟨Ya ps k w,_,rfl,rfl,hv10,hok2,hwt,rfl⟩⟩,rfl⟩
theorem Ztm(t bp bt z1 z2:Nat)(k w:Bs)(hk:isKey k=true)(hw:w.length≤48):Rf [Pt bp [S k,S w] z1,Pt bt [.pointer (some ⟨t,0,none⟩)] z2] t 79 #[pp0 bp,pp0 bt] (B7 k w) 0 true:=
 fun L P τ v ps h0 hv hpo hc0 hc1=>Ztl L P t τ v ps bp bt z1 z2 k w (h0 _ (.head _)) (h0 _ (.tail _ (.head _))) hv hpo hk hw hc0 hc1
theorem B8 :∀(l:List Nat) (f:Nat→Bool) (n:Nat),l.Nodup→(∀j,f j=true↔j∈l)→(∀j∈l,j<n)→cn f n=l.length
 |[],f,n,_,hf,_=>by
  have h0:∀j,f j=false:=fun j=>by
   cases h:f j with
   |false=>rfl
   |true=>exact absurd ((hf j).1 h) (by simp)
  have:=R5 (f:=f) 0 n (fun j _=>h0 j);rw[Nat.zero_add]at this;rw[this];rfl
 |x::l,f,n,hn,hf,hlt=>by
  obtain⟨h1,h2⟩:=List.nodup_cons.1 hn;have ih:=B8 l (fun j=>decide (j∈l)) n h2 (fun j=>by simp) (fun j hj=>hlt j (List.mem_cons_of_mem _ hj));rw[Cs (f:=fun j=>decide (j∈l)) (g:=f) (b:=x) (by simp[h1]) ((hf x).2 (List.mem_cons_self ..)) (fun j hj=>by
   cases h:f j with
   |true=>
    rcases List.mem_cons.1 ((hf j).1 h)with e|e
    ·exact absurd e hj
    ·simp[e]
   |false=>
    have:j∉l:=fun e=>by rw[(hf j).2 (List.mem_cons_of_mem _ e)]at h;cases h
    simp[this]),ih,decide_eq_true (hlt x (List.mem_cons_self ..))]
  rfl
theorem Below.cases{T:Tg}{pg:Nat→Option Bs}{r:Nat}{ps:List Pr}{gs:List Nat}{dp:Nat}(h:Below T pg r ps gs dp):(r=0∧ps=[]∧gs=[]∧dp=0)∨∃h,r≠0∧dp=h+1∧Sub T pg h r ps gs:=by
 cases h with
 |none=>exact .inl ⟨rfl,rfl,rfl,rfl⟩
 |some hr hs=>exact .inr ⟨_,hr,rfl,hs⟩
theorem Below.mk{T:Tg}{pg pg':Nat→Option Bs}{r:Nat}{ps:List Pr}{gs:List Nat}{dp:Nat}(h:Below T pg r ps gs dp)(hc:∀j∈gs,pg' j=pg j):Below T pg' r ps gs dp:=by
 cases h with
 |none=>exact .none
 |some hr hs=>exact .some hr (hs.congr hc)
structure Rep(T:Tg)(τ:Tr)(ps:List Pr)(gs:List Nat)(dp:Nat):Prop where
 bel:Below T τ.pg τ.root ps gs dp
 depth:τ.depth=dp
 count:τ.count=ps.length
 us:∀j,mem τ.α.us j=true↔j=0∨j∈gs
 nd:gs.Nodup
 g0:0∉gs
 ok:τ.α.Ok
 bk:τ.α.back≤1000000
 nn:τ.σ.n=τ.α.n
 ls:∀j,mem τ.α.ls j=false
 km:∀q∈ps,q.1.length≤T.m
theorem Rep.len{T:Tg}{τ:Tr}{ps:List Pr}{gs:List Nat}{dp:Nat}(h:Rep T τ ps gs dp):Yc τ.α.us=gs.length+1∧gs.length+1≤τ.α.n:=by
 have hul:=h.ok.ul;have hnd:(0::gs).Nodup:=List.nodup_cons.2 ⟨h.g0,h.nd⟩;have hm:∀j,mem τ.α.us j=true↔j∈0::gs:=fun j=>by rw[h.us j,List.mem_cons]
 have h1:=B8 (0::gs) (mem τ.α.us) (64*τ.α.us.length) hnd hm (fun j hj=>by
  have:=h.ok.uo j ((hm j).2 hj);omega)
 have h2:=B8 (0::gs) (mem τ.α.us) τ.α.n hnd hm (fun j hj=>h.ok.uo j ((hm j).2 hj));have h3:=Zkc (mem τ.α.us) τ.α.n;rw[Ua,h1];rw[h2]at h3;exact⟨rfl,h3⟩
theorem Rep.free{T:Tg}{τ:Tr}{ps:List Pr}{gs:List Nat}{dp:Nat}(h:Rep T τ ps gs dp):τ.α.free=(τ.α.n:Int)-1-gs.length-τ.α.back:=by
 have h1:=h.len.1;have h2:Yc τ.α.ls=0:=by
  have:=R5 (f:=mem τ.α.ls) 0 (64*τ.α.ls.length) (fun j _=>h.ls j);rw[Nat.zero_add]at this;rw[Ua,this];rfl
 unfold AS0.free;rw[h1,h2];omega
theorem Sub.few{T:Tg}{pg:Nat→Option Bs}{h p:Nat}{ps:List Pr}{gs:List Nat}(H:Sub T pg h p ps gs):ps.length≤79*gs.length∧h+1≤gs.length:=by
 induction H with
 | @leaf p ps h ok=>
  have hz:=ok.sz;rw[Xx rfl]at hz;have hz:2+weight ps≤160:=hz;have:=Nb ps;simp only[List.length_cons,List.length_nil];omega
 | @inner h p ks hp ok hk sp ht km ih=>
  obtain⟨n1,_⟩:=Ke ok;have key:∀l:List Kid,(∀k∈l,k.ps.length≤79*k.gs.length∧h+1≤k.gs.length)→(l.flatMap (·.ps)).length≤79*(l.flatMap (·.gs)).length∧(l≠[]→h+1≤(l.flatMap (·.gs)).length):=by
   intro l
   induction l with
   |nil=>intro _;exact⟨by simp,fun h=>absurd rfl h⟩
   |cons k l ih2=>
    intro hl;have h1:=hl k (List.mem_cons_self ..);have h2:=ih2 (fun c hc=>hl c (List.mem_cons_of_mem _ hc));simp only[List.flatMap_cons,List.length_append];exact⟨by omega,fun _=>by omega⟩
  obtain⟨h1,h2⟩:=key ks ih;have h2:=h2 (fun e=>n1 (by rw[e];rfl));simp only[List.length_cons];omega
theorem Rep.few{T:Tg}{τ:Tr}{ps:List Pr}{gs:List Nat}{dp:Nat}(h:Rep T τ ps gs dp):ps.length≤323584∧dp≤4096∧gs.length≤4096:=by
 have h1:=h.len.2;have h2:=h.ok.n1;rcases h.bel.cases with⟨_,e1,e2,e3⟩|⟨h',_,e1,hs⟩
 ·subst e1 e2;exact⟨by simp,by omega,by simp⟩
 ·have:=hs.few;omega
theorem Rep.fit{T:Tg}{τ:Tr}{ps:List Pr}{gs:List Nat}{dp:Nat}(h:Rep T τ ps gs dp):Fit τ gs:=by
 have h1:=h.few.1;have h2:=h.count;exact⟨h.ok,h.bk,h.nn,(h.us 0).2 (.inl rfl),h.g0,h.nd,fun j hj=>(h.us j).2 (.inr hj),by omega,by omega⟩
def Rj(T:Tg)(dp dp':Nat)(qs:List Pr)(gs':List Nat):Prop:=dp'≤dp∨dp'=dp+1∧∀h,dp=h+1→∃n,Zbc T h qs n∧n+1≤gs'.length
def ChQ(T:Tg)(τ:Tr)(gs:List Nat)(dp:Nat)(ps':Option (List Pr))(e0:Nat)(e:Nat)(τ':Tr):Prop:=
 (e≠0∧(e=5∧τ.α.free<((2*dp+3:Nat):Int)∨e=e0∧ps'=none))∨
 (e=0∧∃qs gs',∃dp':Nat,ps'=some qs∧Below T τ'.pg τ'.root qs gs' dp'∧τ'.depth=dp'∧At τ gs gs' (2*dp+3) τ'∧τ'.count=(qs.length:Nat)∧Rj T dp dp' qs gs'∧∀q∈qs,q.1.length≤T.m)
theorem ChQ.rep{T:Tg}{τ τ1:Tr}{ps:List Pr}{gs:List Nat}{dp:Nat}{ps':Option (List Pr)}{e0:Nat}(hr:Rep T τ ps gs dp)(h:ChQ T τ gs dp ps' e0 0 τ1){c:Nat}:∃qs gs' dp',ps'=some qs∧Rep T {τ1 with σ:=τ1.σ.put 0 (Uz τ1.root c),α:=τ1.α.settle} qs gs' dp'∧Rj T dp dp' qs gs':=by
 rcases h with⟨h,_⟩|⟨_,qs,gs',dp',h1,h2,h3,h4,h5,hgw,hkm⟩
 ·exact absurd rfl h
 ·have g0':0∉gs':=fun e=>by
   rcases h4.nw 0 e with e|e
   ·exact hr.g0 e
   ·rw[(hr.us 0).2 (.inl rfl)]at e;cases e
  obtain⟨w,hw⟩:=h4.w;have hpg:∀j,j≠0→({τ1 with σ:=τ1.σ.put 0 (Uz τ1.root c),α:=τ1.α.settle}:Tr).pg j=τ1.pg j:=fun j hj=>by
   have:=Tr.pg_put τ1 0 j (Uz τ1.root c);rw[if_neg hj]at this;exact this
  refine⟨qs,gs',dp',h1,⟨?_,h3,h5,fun j=>?_,h4.nd,g0',h4.ok.settle,?_,?_,fun j=>By ..,hkm⟩,hgw⟩
  ·exact h2.mk (fun j hj=>hpg j (fun e=>g0' (by rw[←e];exact hj)))
  ·show mem τ1.α.us j=true↔_;rw[h4.us j,hr.us j];constructor
   ·rintro(⟨e|e,h⟩|e)
    ·exact .inl e
    ·exact absurd e h
    ·exact .inr e
   ·rintro(e|e)
    ·exact .inl ⟨.inl e,by rw[e];exact hr.g0⟩
    ·exact .inr e
  ·show τ1.α.back≤_;rw[h4.bk];exact hr.bk
  ·show τ1.σ.n=τ1.α.n;rw[h4.n,hw];exact hr.nn
theorem Ztn(dc:Bool)(a b:List Pr)(c:Int)(hc:c=a.length)(h:dc=true):c+Y3 dc a b=b.length:=by
 subst h;show c+((b.length:Int)-a.length)=_;omega
theorem Zto{k w:Bs}(hk:isKey k=true)(hw:w.length≤48):(Zh [(k,w)]).ok=true∧(Zh [(k,w)]).size≤160:=by
 have hkl:=(Gm hk).2;refine⟨Kd (B0 (by simp) (fun q hq=>?_) rfl),?_⟩
 ·rcases List.mem_singleton.1 hq with rfl
  exact⟨hk,hw⟩
 ·rw[Xx rfl];show 2+(2+k.length+w.length+0)≤160;omega
theorem Zhu{T:Tg}{τ τ1:Tr}{gs:List Nat}{h:Nat}{ps:List Pr}{G:List Pr→Option (List Pr)}{e0 e:Nat}{dc:Bool}{P P':List Asn}{kv:Value}(he:e≠0)(H:Vs T h G e0 dc τ gs ps P (.tuple ⟨[kv,.int .i64 (e:Nat)]⟩) τ1 P'):Wob τ τ1∧ChQ T τ gs (h+1) (G ps) e0 e τ1:=by
 obtain⟨h1,h2,h3,⟨e',h4,h5,h6,h7⟩|⟨_,_,_,h4,_⟩⟩:=H
 ·have e1:e=e':=by have:=(Gu h4).2;omega
  subst e1;refine⟨h6,.inl ⟨he,?_⟩⟩;rcases h7 with⟨h7,h8⟩|h7
  ·exact .inl ⟨h7,by omega⟩
  ·exact .inr h7
 ·have:=(Gu h4).2;omega
theorem Ztp{T:Tg}{τ τ2:Tr}{gs:List Nat}{h:Nat}{ps ps':List Pr}{G:List Pr→Option (List Pr)}{e0:Nat}{P P':List Asn}{c:Int}{r:Value}{ups:List Kid}(hkm:∀q∈ps',q.1.length≤T.m)(hwd:2≤ups.length→Zbc T h ps' (ups.flatMap (·.gs)).length)(hG:G ps=some ps')(hc:c=(ps'.length:Nat))(H:Zhk T h ups τ gs (2*(h+1)) c ps' P r τ2 P'):(∀A∈P,A∈P')∧∃e:Nat,r=.int .i64 (e:Nat)∧Wob τ τ2∧ChQ T τ gs (h+1) (G ps) e0 e τ2:=by
 obtain⟨h1,⟨h2,h3,h4⟩|⟨h2,gs',dp',h3,h4,h5,h6,h7⟩⟩:=H
 ·exact⟨h1,5,h2,h3,.inl ⟨by decide,.inl ⟨rfl,by omega⟩⟩⟩
 ·refine⟨h1,0,h2,h5.wob,.inr ⟨rfl,ps',gs',dp',hG,h3,h4,h5.more (by omega),h6.trans hc,?_,hkm⟩⟩;rcases h7 with h7|⟨h7,h8,h9⟩
  ·exact .inl h7
  ·exact .inr ⟨h7,fun h' e=>by
    obtain rfl:h'=h:=by omega
    exact⟨_,hwd h8,h9⟩⟩
theorem Zhv{T:Tg}{τ τ2:Tr}{ps:List Pr}{gs:List Nat}{dp b:Nat}{k w:Bs}{P P':List Asn}{kv:Value}{e:Nat}(hr:Rep T τ ps gs dp)(hkl:k.length≤T.m)(hr0:τ.root=0)(hbn:b<τ.α.n)(hbu:mem τ.α.us b=false)(hbo:({τ.α with us:=Zl τ.α.us b}:AS0).Ok)(hz:(Zh [(k,w)]).size≤160)
  (hw:U0 {τ with α:= {τ.α with us:=Zl τ.α.us b},root:=b,count:=1,depth:=1} b (Zh [(k,w)]) P (.tuple ⟨[kv,.int .i64 (e:Nat)]⟩) τ2 P'):Wob τ τ2∧ChQ T τ gs dp (some (Ya ps k w)) 0 e τ2:=by
 rcases hr.bel.cases with⟨_,e1,e2,e3⟩|⟨h',h1,_⟩
 ·subst e1 e2 e3;have hat0:At τ [] [] 0 τ:=At.refl hr.ok (by simp) (by simp);have hat1:=hat0.take hbn hbu hbo;have hat2:At τ [] ([]++[b]) (0+1) {τ with α:= {τ.α with us:=Zl τ.α.us b},root:=b,count:=1,depth:=1}:=((hat1.rt (x:=b)).count (x:=1)).dp (x:=1)
  by_cases he:e=0
  ·subst he;obtain⟨g1,g2,g3,pcs,tk,g4,g5,g6,g7,g8,g9,g10⟩:=hw.fine;have hone:=Re g5 g6 hz;have htk:tk=[]:=List.length_eq_zero_iff.1 (by omega);subst htk;obtain⟨⟨k0,n0⟩,rfl⟩:=List.length_eq_one_iff.1 hone;have hn0:n0=Zh [(k,w)]:=g5.gl;subst hn0;have hat3:At τ [] [b] (0+1+0) τ2:=hat2.trans g9;have hb0:b≠0:=fun e=>by
    rw[e,(hr.us 0).2 (.inl rfl)]at hbu;cases hbu
   refine⟨hat3.wob,.inr ⟨rfl,[(k,w)],[b],1,rfl,?_,g3,hat3.more (by omega),g2,.inr ⟨rfl,fun h e=>by cases e⟩,fun q hq=>by rcases List.mem_singleton.1 hq with rfl;exact hkl⟩⟩
   rw[g1];exact .some hb0 (.leaf (g10 (b,(k0,Zh [(k,w)])) (List.mem_cons_self ..)) (g5.ok _ (List.mem_cons_self ..)).1)
  ·obtain⟨rfl,g2,g3⟩:=hw.err he;have hf:=hat2.fr;have g3:({τ.α with us:=Zl τ.α.us b}:AS0).free<2:=g3
   have hf:τ.α.free≤({τ.α with us:=Zl τ.α.us b}:AS0).free+((0+1:Nat):Int):=hf
   exact⟨hat2.wob.trans g2,.inl ⟨he,.inl ⟨rfl,by omega⟩⟩⟩
 ·exact absurd hr0 h1
theorem Ztq(T:Tg)(L P:List Asn)(t:Nat)(τ:Tr)(ps:List Pr)(gs:List Nat)(dp:Nat)(bp bt bk z1 z2 z3:Nat)(k w:Bs)(hr:Rep T τ ps gs dp)(hTd:T.t=true→dp≤2)(h1:Pt bp [S k,S w] z1∈P)(h2:Pt bt [.pointer (some ⟨t,0,none⟩)] z2∈P)(h3:Pt bk [S k] z3∈P)(hT:Ro 0 Yi∈P)(hk:isKey k=true)(hw:w.length≤48)(hkl:k.length≤T.m):Sp SET 75 [pp0 bt,pp0 bp,pp0 bk] (trL t τ++L) P (fun r L' P'=>∃τ',((∀A∈P,A∈P')∧∃e:Nat,r=.int .i64 (e:Nat)∧Wob τ τ'∧ChQ T τ gs dp (some (Ya ps k w)) 0 e τ')∧L'=trL t τ'++L):=by
 have hfit:=hr.fit;have hfew:=hr.few;refine .bo (fn:=Tryz.f75) (N:=60) ?_;refine .seq (.region (.pu .as (.nil ?_)));by_cases hr0:τ.root=0
 ·refine .seq (.seq (.region (.ld ?_)));refine .pu .nc (.pu .fa (.ld ?_));refine .pu .cy (.nil ?_);refine .yes rfl ?_;by_cases hf:τ.α.free≤0
  ·refine .seq (.region (.ld ?_));refine .pu .nc (.pu .fa (.ld ?_));refine .call (Sp.up (.s (.s .z)) (fun L=>F7 L _ _ _ hr.bk hT hf)) ?_;rintro _ L P ⟨rfl,rfl,rfl⟩;refine .pu .mv (.pu .ex (.pu .ex (.pu .as (.pu .as (.nil (.seq (.seq (.region (.pu .mv (.pu .cmp (.nil ?_)))))))))));refine .yes rfl (.seq (.region (.pu .mv (.pu .as (.nil (.ret ?_))))));exact⟨_,.tmp rfl .nil,_,_,.refl _ _,τ,⟨fun _ h=>h,5,rfl,⟨rfl,rfl,⟨_,rfl⟩,rfl,rfl,hr.ok⟩,.inl ⟨by decide,.inl ⟨rfl,by omega⟩⟩⟩,rfl⟩
  ·refine .seq (.region (.ld ?_));refine .pu .nc (.pu .fa (.ld ?_));refine .call (Sp.at [_,_] _ (fun L=>F8 L _ _ _ hr.bk hT (by omega))) ?_;rintro _ _ _ ⟨b,⟨rfl,hbn,hbu,hbo,rfl⟩,rfl⟩;refine .pu .mv (.pu .ex (.pu .ex (.pu .as (.pu .as (.nil (.seq (.seq (.region (.pu .mv (.pu .cmp (.nil ?_)))))))))));refine .no rfl (.skip ?_);refine .seq (.drawn (by kernel_rfl) fun base=>?_);refine .lo 0 0 .ld .mk ?_;refine .lo 0 1 .ld .mk ?_;refine .lo 0 2 .ld .mk ?_;refine .pu .mv (.pu .nc (.pu .fa (.st (vs:=[_]) ?_)));refine .pu .nc (.pu .fa (.st (vs:=[_]) ?_));refine .pu .nc (.pu .fa (.st (vs:=[_]) ?_));refine .nil (.cons (.yes .mk (.yes .mk (.yes .mk (.skip .nil)))) (.cons (.yes .mk (.yes .mk (.skip (.skip .nil)))) (.cons (.yes .mk (.skip (.skip (.skip .nil)))) .nil))) (.seq (.region (.ld ?_)));refine .pu .mv (.lda (vs:=[_,_]) ?_);refine .bl (k:=2) (es:=[[_,_]]) fun v38=>?_
   refine .fact (Yo .l0) fun⟨a38,c38,e38⟩=>?_;subst e38;refine .pu (.bd (vs:=[_,_,_,_])) (.ent (Ent.sl.trans ((Ent.sl0 (k:=1) (c:=0)))) ?_);obtain⟨hok1,hz1⟩:=Zto hk hw;refine .call (F9 _ _ t {τ with α:= {τ.α with us:=Zl τ.α.us b},root:=b,count:=1,depth:=1} b _ (Zh [(k,w)]) ⟨⟨_,_,_,rfl,.tail _ (.head _),.head _,.head _⟩⟩ ⟨hok1,Nd.ok_sm hok1,fun _ e=>(by cases e),(Nd.ok_w hok1).1,(Nd.ok_w hok1).2⟩ (Nat.le_trans hz1 (by decide)) (.tail _ (.tail _ hT)) hbo hr.bk hr.nn (by have:=Mi τ.α.us b (by have:=hr.ok.ul;omega) b;rw[this];simp)) ?_;rintro _ _ _ ⟨τ2,hwo,rfl⟩
   obtain⟨kv4,e4,rfl⟩:=hwo.shape;have hs4:=hwo.1;refine .pu .mv (.pu .ex (.pu .ex (.pu .as (.nil (.seq (.region (.pu .mv (.pu .as (.nil (.ret ?_))))))))));refine⟨_,.tmp rfl .nil,_,_,.refl _ _,τ2,⟨fun A hA=>hs4 _ (.tail _ (.tail _ hA)),e4,rfl,?_,?_⟩,rfl⟩
   ·exact(Zhv hr hkl hr0 hbn hbu hbo hz1 hwo).1
   ·exact(Zhv hr hkl hr0 hbn hbu hbo hz1 hwo).2
 ·refine .seq (.seq (.region (.ld ?_)));refine .pu .nc (.pu .fa (.ld ?_));refine .pu .cn (.nil ?_);refine .no rfl (.skip ?_);refine .seq (.drawn (by kernel_rfl) fun base=>?_);obtain⟨h,hrt,hdp,hsb⟩:∃h,τ.root≠0∧dp=h+1∧Sub T τ.pg h τ.root ps gs:=by
   rcases hr.bel.cases with⟨e,_⟩|h
   ·exact absurd e hr0
   ·exact h
  subst hdp;refine .lo 0 0 .ld .mk ?_;refine .lo 0 0 .ld .mk ?_;refine .pu .nc (.pu .fa (.lo 0 0 .ld .mk ?_));refine .lo 0 0 .ld .mk ?_;refine .pu .mf ?_;refine .call (Zhi T h _ _ [Pt bp [S k,S w] z1,Pt bt [.pointer (some ⟨t,0,none⟩)] z2] t τ τ.root ps gs k _ _ (B7 k w) 0 true (Ztm t bp bt z1 z2 k w hk hw) (Zhr k w) (fun A hA=>by rcases List.mem_cons.1 hA with rfl|hA;exact h1;rcases List.mem_singleton.1 hA with rfl;exact h2) hT hfit hsb (fun e=>by have:=hTd e;omega) hr.km hkl) ?_;rintro _ _ _ ⟨τ1,heo,rfl⟩
  obtain⟨kv5,e5,rfl⟩:=heo.shape;have hs5:=heo.1;refine .pu .mv (.pu .ex (.pu .ex (.pu .as (.pu .as (.nil (.cons (.yes .mk (.skip .nil)) (.cons (.yes .mk (.skip .nil)) (.cons (.yes .mk (.skip .nil)) (.cons (.yes .mk (.skip .nil)) .nil)))) ?_)))));by_cases he:e5=0
  ·refine .seq (.seq (.region (.pu .mv (.pu .cn (.nil ?_)))));refine .no rfl (.skip (.seq (.region ?_)));subst he;obtain⟨ups,ps',hkv1,hGo,hups,hul,hat1,hct1⟩:=heo.fine;have h22:=hs5 _ h2;have hdp1:τ1.depth=((h+1:Nat):Int):=heo.2.2.1.trans hr.depth;have hcc:τ1.count=(ps'.length:Nat):=by rw[hct1];exact Ztn true ps ps' τ.count hr.count rfl
   refine .ld ?_;refine .pu .mv ?_;refine .call (Zs9 T h _ _ t τ τ1 gs (2*(h+1)) ps' ups kv5 (hs5 _ hT) hfit hups hul hat1 hkv1 hdp1 (by omega)) ?_;rintro _ _ _ ⟨τ2,hgo,rfl⟩;obtain⟨hs6,e6,rfl,hwob6,hq6⟩:=Ztp (T:=T) (e0:=0) (Zhh (Zhr k w) hGo hr.km hkl) hups.wd hGo hcc hgo;refine .pu .as (.nil (.ret ?_));exact⟨_,.tmp rfl .nil,_,_,.refl _ _,τ2,⟨fun A hA=>hs6 _ (hs5 _ hA),e6,rfl,hwob6,hq6⟩,rfl⟩
  ·refine .seq (.seq (.region (.pu .mv (.pu .cy (.nil ?_)))));refine .yes rfl (.seq (.region (.pu .mv (.pu .as (.nil (.ret ?_))))));refine⟨_,.tmp rfl .nil,_,_,.refl _ _,τ1,⟨hs5,e5,rfl,?_,?_⟩,rfl⟩
   ·exact(Zhu he heo).1
   ·exact(Zhu he heo).2
def Rk(T:Tg)(τ:Tr)(gs:List Nat)(dp:Nat)(ps':Option (List Pr))(e0:Nat)(P:List Asn)(r:Value)(τ':Tr)(P':List Asn):Prop:=
  (∀A∈P,A∈P')∧∃e:Nat,r=.int .i64 (e:Nat)∧
    ((e≠0∧(e=5∧τ.α.free<((2*dp+3:Nat):Int)∨e=e0∧ps'=none)∧∃a',τ'= {τ with a:=a'})∨
     (e=0∧∃qs gs' dp',ps'=some qs∧Rep T τ' qs gs' dp'∧Rj T dp dp' qs gs'∧τ'.s=τ.s∧τ'.a=τ.a∧τ'.α.n=τ.α.n∧τ'.α.back=τ.α.back∧∃w,τ'.σ= {τ.σ with w:=w}))
theorem Ztr{T:Tg}{τ τ':Tr}{ps:List Pr}{gs:List Nat}{dp:Nat}{ps':Option (List Pr)}{e0:Nat}{P0 P P':List Asn}{r:Value}(hr:Rep T τ ps gs dp)(hP:∀A∈P0,A∈P)(H:ChO τ (ChQ T τ gs dp ps' e0) P r τ' P'):Rk T τ gs dp ps' e0 P0 r τ' P':=by
 obtain⟨h1',e,h2,⟨h3,τ1,a',h4,h5⟩|⟨h3,τ1,c,h4,h5,h6,h7⟩⟩:=H
 ·refine⟨fun A hA=>h1' A (hP A hA),e,h2,.inl ⟨h3,?_,a',h5⟩⟩;rcases h4 with⟨_,h4⟩|⟨h4,_⟩
  ·exact h4
  ·exact absurd h4 h3
 ·subst h3 h7;obtain⟨qs,gs',dp',g1,g2,g3⟩:=ChQ.rep (c:=c) hr h4;obtain⟨w,hw⟩:=h5.w;exact⟨fun A hA=>h1' A (hP A hA),0,h2,.inr ⟨rfl,qs,gs',dp',g1,g2,g3,h5.s,h5.a,h5.n,h5.bk,Jr w 0 (Uz τ1.root c),by show PSt.put _ _ _=_;unfold PSt.put;rw[hw]⟩⟩
theorem Zts{T:Tg}{τ:Tr}{gs:List Nat}{dp:Nat}{ps':Option (List Pr)}{e0:Nat}{τ':Tr}(h:ChQ T τ gs dp ps' e0 0 τ'):∃c:Nat,τ'.count=(c:Nat):=by
 rcases h with⟨h,_⟩|⟨_,qs,_,_,_,_,_,_,h,_⟩
 ·exact absurd rfl h
 ·exact⟨_,h⟩
theorem Ztt{P:List Asn}{a b c d X:Asn}(h:d∈P)(hX:X∈[a,b,c,d]):X∈b::c::a::P:=by
 simp only[List.mem_cons,List.not_mem_nil,or_false]at hX ⊢;rcases hX with rfl|rfl|rfl|rfl
 ·exact .inr (.inr (.inl rfl))
 ·exact .inl rfl
 ·exact .inr (.inl rfl)
 ·exact .inr (.inr (.inr h))
theorem Ztu(T:Tg)(L P:List Asn)(t:Nat)(τ:Tr)(ps:List Pr)(gs:List Nat)(dp:Nat)(k w:Bs)(hr:Rep T τ ps gs dp)(hTd:T.t=true→dp≤2)(hT:Ro 0 Yi∈P)(hk:isKey k=true)(hw:w.length≤48)(hkm:k.length≤T.m):Sp SET 17 [.pointer (some ⟨t,0,none⟩),S k,S w] (trL t τ++L) P (fun r L' P'=>∃τ',Rk T τ gs dp (some (Ya ps k w)) 0 P r τ' P'∧L'=trL t τ'++L):=by
 have hkl:=Gm hk;have hn0:0<τ.σ.n:=by rw[hr.nn];exact hr.ok.n0
 refine .bo (fn:=Tryz.f17) (N:=27) ?_;refine .seq (.region ?_);refine .bx (cs:=[_]) fun b3=>?_;refine .bx (cs:=[_]) fun b4=>?_;refine .pu .as (.nil (.seq (.seq (.region (.ld ?_)))));refine .pu .peq (.nil ?_);refine .no rfl (.skip (.seq (.seq (.region (.ld ?_)))));refine .pu (.seq (q:=false) (hq:=decide_eq_false hkl.1)) (.pu .mv (.on (.ld ?_)));refine .on (.pu .ls (.on (.pu .cn (.pu .pk (.pu .mv (.on (.pu .mv (.on (.pu .ls (.on (.pu .cn (.pu .pk (.nil ?_)))))))))))));refine .no rfl (.skip (.seq (.region (.ld ?_))));refine .pu .mv (.pu (.bd (vs:=[_,_])) ?_);refine .nw (cs:=[S [],S []]) fun b7=>?_;refine .st (vs:=[_,_]) ?_;refine .nil (.seq (.region (.ent (Ent.pt.trans (Ent.pt.trans Ent.pt)) ?_)));refine .ld ?_;refine .pu .mf ?_;refine .call (Ztg _ _ [Pt b7 [S k,S w] (tz 0 42),Pt b3 [.pointer (some ⟨t,0,none⟩)] (tz 0 29),Pt b4 [S k] (tz 0 9),Ro 0 Yi] t τ _ #[pp0 b3,pp0 b7,pp0 b4] (ChQ T τ gs dp (some (Ya ps k w)) 0) (fun L P h0=>Ztq T L P t τ ps gs dp b7 b3 b4 _ _ _ k w hr hTd (h0 _ (.head _)) (h0 _ (.tail _ (.head _))) (h0 _ (.tail _ (.tail _ (.head _)))) (h0 _ (.tail _ (.tail _ (.tail _ (.head _))))) hk hw hkm) (fun A hA=>Ztt hT hA) (fun _ h=>Zts h) hn0) ?_;rintro _ _ _ ⟨τ',hch,rfl⟩
 refine .pu .as (.nil (.ret ?_));exact⟨_,.tmp rfl .nil,_,_,.refl _ _,τ',Ztr hr (fun A hA=>.tail _ (.tail _ (.tail _ hA))) hch,rfl⟩
def Xy(to:Bs)(k:Bs):Bool:=decide (to=[])||Zd k to
def sel(frm to:Bs)(ps:List Pr):List Pr:=ps.filter (fun q=> !Zd q.1 frm&&Xy to q.1)
theorem Zbi(frm to:Bs)(a b:List Pr):sel frm to (a++b)=sel frm to a++sel frm to b:=List.filter_append ..
theorem Zhw{frm to:Bs}{ps:List Pr}(h:∀q∈ps,Zd q.1 frm=true):sel frm to ps=[]:=List.filter_eq_nil_iff.2 (fun q hq=>by rw[h q hq];simp)
theorem Ztv{frm to:Bs}{ps:List Pr}(h:∀q∈ps,Xy to q.1=false):sel frm to ps=[]:=List.filter_eq_nil_iff.2 (fun q hq=>by rw[h q hq];simp)
theorem Ztw{to a b:Bs}(h:Xy to b=true)(hab:Zd b a=false):Xy to a=true:=by
 unfold Xy at h ⊢;rw[Bool.or_eq_true]at h ⊢;rcases h with h|h
 ·exact .inl h
 ·exact .inr (Zgz hab h)
theorem Zhx{frm to:Bs}{ps:List Pr}(h:rise (ps.map (·.1))=true):sel frm to ps=(ps.drop (lb (ps.map (·.1)) frm)).filter (fun q=>Xy to q.1):=by
 have hs:=Za6 h frm
 conv=>lhs;rw[←List.take_append_drop (lb (ps.map (·.1)) frm) ps]
 rw[Zbi,Zhw (fun q hq=>by
  obtain⟨j,hj,rfl⟩:=List.getElem_of_mem hq;rw[List.length_take]at hj;have:=(hs j (by rw[List.length_map];omega)).1 (by omega);rw[List.getElem_map]at this;rw[List.getElem_take];exact this),List.nil_append]
 unfold sel;refine List.filter_congr (fun q hq=>?_);obtain⟨j,hj,rfl⟩:=List.getElem_of_mem hq;rw[List.length_drop]at hj;have:=(hs (lb (ps.map (·.1)) frm+j) (by rw[List.length_map];omega)).2 (by omega);rw[List.getElem_map]at this;rw[List.getElem_drop,this];rfl
theorem Ztx{to:Bs}{d:List Pr}{m most:Nat}(h:rise (d.map (·.1))=true)(hm:m≤d.length)(hmm:m≤most)(hp:∀j (hj:j<d.length),j<m→Xy to d[j].1=true)(hx:m=d.length∨most≤m∨∃hj:m<d.length,Xy to d[m].1=false):(d.filter (fun q=>Xy to q.1)).take most=d.take m:=by
 have e1:(d.take m).filter (fun q=>Xy to q.1)=d.take m:=List.filter_eq_self.2 (fun q hq=>by
  obtain⟨j,hj,rfl⟩:=List.getElem_of_mem hq;rw[List.length_take]at hj;rw[List.getElem_take];exact hp j (by omega) (by omega))
 conv=>lhs;rw[←List.take_append_drop m d]
 rw[List.filter_append,e1];have hl:(d.take m).length=m:=by rw[List.length_take];omega
 rcases hx with hx|hx|⟨hj,hx⟩
 ·rw[List.drop_of_length_le (by omega),List.filter_nil,List.append_nil,List.take_of_length_le (by omega)]
 ·have e:most=m:=by omega
  rw[List.take_append_of_le_length (by omega),List.take_of_length_le (by omega)]
 ·have e2:(d.drop m).filter (fun q=>Xy to q.1)=[]:=List.filter_eq_nil_iff.2 (fun q hq=>by
   obtain⟨j,hj2,rfl⟩:=List.getElem_of_mem hq;rw[List.length_drop]at hj2;rw[List.getElem_drop];intro hb;rcases Nat.eq_zero_or_pos j with h0|h0
   ·subst h0;rw[show d[m+0]=d[m]from rfl,hx]at hb;cases hb
   ·have:=(List.pairwise_iff_getElem.1 (Xd.1 h)) m (m+j) (by rw[List.length_map];omega) (by rw[List.length_map];omega) (by omega);rw[List.getElem_map,List.getElem_map]at this;rw[Ztw hb (Gr this)]at hx;cases hx)
  rw[e2,List.append_nil,List.take_of_length_le (by omega)]
def Zhy(T:Tg)(h:Nat):Prop:=
 ∀(L P:List Asn) (t:Nat) (τ:Tr) (p:Nat) (ps:List Pr) (gs:List Nat) (frm to:Bs) (most:Nat) (outs:List Pr) (ov:Value),
  Sub T τ.pg h p ps gs→(∀j∈gs,((j:Nat):Int)<τ.σ.n)→outs.length≤most→outs.length+ps.length≤400000→most≤1099511627776→
  Sp SET 123 [.pointer (some ⟨t,0,none⟩),.int .i64 (p:Nat),S frm,S to,.int .i64 (most:Nat),ov] (Ow 2 ov (outs.map Zc)::(trL t τ++L)) P (fun r L' P'=>∃ov',r=.tuple ⟨[ov',.int .i64 0]⟩∧L'=Ow 2 ov' ((outs++(sel frm to ps).take (most-outs.length)).map Zc)::(trL t τ++L)∧∀A∈P,A∈P')
theorem Zty(t:Nat)(τ:Tr)(p:Nat)(ps:List Pr)(frm to:Bs)(most:Nat)(outs:List Pr)(ov:Value)(hpg:τ.pg p=some (Zh ps).enc)(hpo:Yb (Zh ps))(hpn:((p:Nat):Int)<τ.σ.n)(ho:outs.length≤most)(hl:outs.length+ps.length≤400000)(hm:most≤1099511627776):Sp SET 123 [.pointer (some ⟨t,0,none⟩),.int .i64 (p:Nat),S frm,S to,.int .i64 (most:Nat),ov] (Ow 2 ov (outs.map Zc)::(trL t τ++L)) P (fun r L' P'=>∃ov',r=.tuple ⟨[ov',.int .i64 0]⟩∧L'=Ow 2 ov' ((outs++(sel frm to ps).take (most-outs.length)).map Zc)::(trL t τ++L)∧∀A∈P,A∈P'):=by
 have hr:rise (ps.map (·.1))=true:=(Y9 (Xb hpo.ok rfl)).2.2.2.2.1;have hle:=Gk (ps.map (·.1)) frm;rw[List.length_map]at hle;refine .bo (fn:=Tryz.f123) (N:=118) ?_;refine .seq (.region (.pu .as (.pu .as (.nil (.seq (.region (.pu .mv (.pu .mv ?_))))))));refine .call (Ra [_] _ _ _ _ _ _ hpn hpg hpo) ?_;rintro _ _ _ ⟨v,rfl,hv,rfl,hs1⟩;have hv0:=hv;obtain⟨pv,kv,iv,rfl,hpv,hkv,hiv⟩:=hv.ex;refine .fact (Zg (.s (.p hpv))) fun⟨a1,c1,e1⟩=>?_;refine .fact (Zg (.s (.p hkv))) fun⟨a2,c2,e2⟩=>?_;refine .fact (Zg (.s (.p hiv))) fun⟨a3,c3,e3⟩=>?_;subst e1 e2 e3;refine .pu .mv (.pu .ex (.pu .ex ?_));refine .nw (cs:=[.bool false,.slice none 0 0,.slice none 0 0,.slice none 0 0]) fun b14=>?_;refine .st (vs:=[_,_,_,_]) ?_;refine .pu .as (.nil (.seq (.seq (.region (.pu .mv (.pu .cmp (.nil ?_)))))));refine .no rfl (.skip (.seq (.region (.lda (vs:=[_,_,_,_]) ?_))))
 refine .pu .mv ?_;refine .call (Zam _ _ _ (Zh ps) frm hv0 hpo.sm.small hpo.ok) ?_;rintro _ L P ⟨rfl,rfl,rfl⟩;rw[show(Zh ps).find frm=lb (ps.map (·.1)) frm from rfl];refine .pu .mv (.pu .ex (.pu .ex (.pu .as (.pu .as (.nil (.seq (.seq (.region (.pu .mv (.pu .cmp (.nil ?_)))))))))));refine .no rfl (.skip ?_);refine .seq (.block (W.loop (fun a:Nat×Value=>lb (ps.map (·.1)) frm≤a.1∧a.1≤ps.length∧outs.length+(a.1-lb (ps.map (·.1)) frm)≤most∧∀j (hj:j<ps.length),lb (ps.map (·.1)) frm≤j→j<a.1→Xy to ps[j].1=true) (fun a=>ps.length-a.1) (fun a=>[(16,.int .i64 (a.1:Nat)),(5,a.2),(14,pp0 b14),(3,S to),(4,.int .i64 (most:Nat))]) (fun a=>Ow 2 a.2 ((outs++(ps.drop (lb (ps.map (·.1)) frm)).take (a.1-lb (ps.map (·.1)) frm)).map Zc)::Pt b14 [.bool true,.slice a1 ((Zh ps).pairs.map Zc).length c1,.slice a2 ((Zh ps).keys.map encS).length c2,.slice a3 ((Zh ps).kids.map encI).length c3] (tz 0 131)::(trL t τ++L)) (fun _=>_) (lb (ps.map (·.1)) frm,ov) ⟨Nat.le_refl _,hle,by show outs.length+(_-_)≤most;omega,fun j hj h1 h2=>absurd h2 (by show¬j<lb (ps.map (·.1)) frm;omega)⟩ ⟨rfl,rfl,rfl,rfl,rfl,trivial⟩ (by rw[Nat.sub_self,List.take_zero,List.append_nil];exact Ent.swap) (fun⟨i,ov1⟩ ⟨hi0,hi1,hi2,hi3⟩=>?_)))
 have hi0:lb (ps.map (·.1)) frm≤i:=hi0;have hi1:i≤ps.length:=hi1;have hi2:outs.length+(i-lb (ps.map (·.1)) frm)≤most:=hi2;have hL:((Zh ps).pairs.map Zc).length=ps.length:=List.length_map ..;have hL2:((outs++(ps.drop (lb (ps.map (·.1)) frm)).take (i-lb (ps.map (·.1)) frm)).map Zc).length=outs.length+(i-lb (ps.map (·.1)) frm):=by
  rw[List.length_map,List.length_append,List.length_take,List.length_drop];omega
 refine .seq (.seq (.region (.pu .mv (.pu .fa (.ld ?_)))));refine .lk .ln ?_;refine .pu .cmp (.pu .mv ?_);refine .and 40 4 (decide ((((outs++(ps.drop (lb (ps.map (·.1)) frm)).take (i-lb (ps.map (·.1)) frm)).map Zc).length:Int)<(most:Nat))) (fun hq=>?_) ?_
 ·refine .on (.pu .mv (.on (.lk .ln ?_)));refine .on (.pu .mv (.on (.pu .cmp ?_)));exact .fin rfl
 refine .pu .mv ?_;refine .and 46 12 ((decide (to=[])||Zd ((ps[i]?.map (·.1)).getD []) to)) (fun hq=>?_) ?_
 ·have hq45:=hq;refine .on (.pu .mv (.on (.pu .seq (.on (.pu .mv ?_)))));refine .or 49 8 (Zd ((ps[i]?.map (·.1)).getD []) to) (fun hq=>?_) ?_
  ·have hlt:i<ps.length:=by
    rw[Bool.and_eq_true,decide_eq_true_eq,decide_eq_true_eq]at hq45;omega
   have hgi:((Zh ps).pairs.map Zc)[((i:Nat):Int).toNat]? =some (Zc ps[i]):=Jl hlt;rw[show((ps[i]?.map (·.1)).getD [])=ps[i].1 by rw[List.getElem?_eq_getElem hlt];rfl];refine .on (.pu .fa (.on (.ld ?_)));refine .on (.pu .mv ?_);refine .on (.lk (.ia (k:=2) (es:=(Zh ps).pairs.map Zc) (hn:=⟨by omega,by omega⟩)) ?_);refine .on (.pu .fa (.on (.lf (k:=2) (i:=((i:Nat):Int).toNat) (j:=0) (v:=.slice a1 ((Zh ps).pairs.map Zc).length c1) hgi ?_)));refine .on (.pu .mv (.on (.pu .slt ?_)));exact .fin rfl
  exact .fin rfl
 refine .nil ?_;refine .ite rfl (fun ht59=>?_) (fun ht59=>?_)
 ·refine .skip (.seq (.block (.region ?_)));have hlt:i<ps.length:=by
   rw[Bool.and_eq_true,Bool.and_eq_true,decide_eq_true_eq,decide_eq_true_eq]at ht59;omega
  have hgi:((Zh ps).pairs.map Zc)[((i:Nat):Int).toNat]? =some [S ps[i].1,S ps[i].2]:=Jl hlt;have hbt:Xy to ps[i].1=true:=by
   have:=(Bool.and_eq_true _ _▸ht59).2;rw[List.getElem?_eq_getElem hlt]at this;exact this
  refine .pu .mv (.pu .fa (.ld ?_));refine .pu .mv ?_;refine .lk (.ia (k:=2) (es:=(Zh ps).pairs.map Zc) (hn:=⟨by omega,by omega⟩)) ?_;refine .la hgi ?_;refine .bl (k:=2) (es:=[[_,_]]) fun v68=>?_;refine .ap (fun v69=>?_) (hr:=.s .z) (hw:=.o .l0) (hn:=by rw[hL2];show(_+1)*32≤_;omega) (ho:=fun f hf=>by rcases List.mem_singleton.1 hf with rfl;rfl)
  refine .pu .as (.nil (.region (.pu .mv (.pu .add (.pu .as (.nil ?_))))));refine⟨(i+1,_),⟨by show lb (ps.map (·.1)) frm≤i+1;omega,by show i+1≤ps.length;omega,?_,fun j hj h1 h2=>?_⟩,by show ps.length-(i+1)<ps.length-i;omega,⟨rfl,rfl,rfl,rfl,rfl,trivial⟩,?_⟩
  ·rw[Bool.and_eq_true,Bool.and_eq_true,decide_eq_true_eq,decide_eq_true_eq]at ht59;show outs.length+(i+1-lb (ps.map (·.1)) frm)≤most;omega
  ·have h2:j<i+1:=h2;rcases Nat.lt_or_ge j i with h3|h3
   ·exact hi3 j hj h1 h3
   ·have e:j=i:=by omega
    subst e;exact hbt
  ·have e1:i+1-lb (ps.map (·.1)) frm=(i-lb (ps.map (·.1)) frm)+1:=by omega
   have hld:i-lb (ps.map (·.1)) frm<(ps.drop (lb (ps.map (·.1)) frm)).length:=by rw[List.length_drop];omega
   have e2:(ps.drop (lb (ps.map (·.1)) frm))[i-lb (ps.map (·.1)) frm]=ps[i]:=by
    rw[List.getElem_drop];congr 1;omega
   show Ent _ _ (Ow 2 _ ((outs++(ps.drop (lb (ps.map (·.1)) frm)).take (i+1-lb (ps.map (·.1)) frm)).map Zc)::_) _;rw[e1,List.take_succ_eq_append_getElem hld,e2,←List.append_assoc,List.map_append (l₁:=outs++_)];exact Ent.dropAt [_] _ _
 refine .exit ?_;refine .seq (.block (W.loop (fun _:Unit=>True) (fun _=>0) (fun _=>[(16,.int .i64 (i:Nat)),(5,ov1),(14,pp0 b14),(3,S to),(4,.int .i64 (most:Nat))]) (fun _=>Ow 2 ov1 ((outs++(ps.drop (lb (ps.map (·.1)) frm)).take (i-lb (ps.map (·.1)) frm)).map Zc)::Pt b14 [.bool true,.slice a1 ((Zh ps).pairs.map Zc).length c1,.slice a2 ((Zh ps).keys.map encS).length c2,.slice a3 ((Zh ps).kids.map encI).length c3] (tz 0 131)::(trL t τ++L)) (fun _=>_) () trivial ⟨rfl,rfl,rfl,rfl,rfl,trivial⟩ (.refl _ _) (fun _ _=>?_)));have hL0:((Zh ps).kids.map encI).length=0:=rfl;refine .seq (.seq (.region (.pu .mv (.pu .fa (.ld ?_)))));refine .lk .ln ?_;refine .pu .cn (.pu .mv (.off (.off (.off (.off (.pu .pk (.pu .mv (.off (.off (.off (.offU (.offU (.off (.off (.offU (.offU (.offU (.offU (.offU (.offU (.offU (.offU (.off (.pu .pk (.nil ?_)))))))))))))))))))))))))
 refine .no rfl (.exit (.seq (.region (.pu .mv (.pu .as (.pu .as (.nil (.ret ?_))))))));refine⟨_,.tmp rfl (.tmp rfl .nil),_,_,(Ent.dropAt [_] _ _),ov1,rfl,?_,hs1⟩;have hld:(ps.drop (lb (ps.map (·.1)) frm)).length=ps.length-lb (ps.map (·.1)) frm:=List.length_drop ..;have hfin:(sel frm to ps).take (most-outs.length)=(ps.drop (lb (ps.map (·.1)) frm)).take (i-lb (ps.map (·.1)) frm):=by
  rw[Zhx hr];refine Ztx (by rw[List.map_drop];exact Zaz hr _) (by omega) (by omega) (fun j hj h1=>?_) ?_
  ·rw[List.getElem_drop];exact hi3 _ (by omega) (by omega) (by omega)
  ·rw[Bool.and_eq_false_iff,Bool.and_eq_false_iff,decide_eq_false_iff_not,decide_eq_false_iff_not]at ht59;rcases ht59 with(h|h)|h
   ·exact .inl (by omega)
   ·exact .inr (.inl (by omega))
   ·rcases Nat.lt_or_ge i ps.length with h1|h1
    ·refine .inr (.inr ⟨by omega,?_⟩);rw[List.getElem?_eq_getElem h1]at h;have e2:(ps.drop (lb (ps.map (·.1)) frm))[i-lb (ps.map (·.1)) frm]'(by omega)=ps[i]:=by
      rw[List.getElem_drop];congr 1;omega
     rw[e2];exact h
    ·exact .inl (by omega)
 rw[hfin];rfl
theorem Ztz{outs X Y:List Pr}{most:Nat}(h:outs.length≤most):(outs++X.take (most-outs.length))++Y.take (most-(outs++X.take (most-outs.length)).length)=outs++(X++Y).take (most-outs.length):=by
 rw[List.take_append,List.length_append,List.length_take,List.append_assoc];congr 3;omega
theorem Zt0{ks:List Kid}(hs:Sep ks)(hne:∀k∈ks,k.ps≠[]){i:Nat}(hi:i<ks.length)(h0:0<i){to:Bs}(ht:to≠[])(hk:Zd ks[i].key to=false):∀q∈(ks.drop i).flatMap (·.ps),Xy to q.1=false:=fun q hq=>by
 obtain⟨c,hc,hq⟩:=List.mem_flatMap.1 hq;obtain⟨j,hj,rfl⟩:=List.getElem_of_mem hc;rw[List.length_drop]at hj;rw[List.getElem_drop]at hq;have hp:=List.pairwise_iff_getElem.1 hs;have hlow:Zd q.1 ks[i].key=false:=by
  have h1:=(hp 0 i (by omega) hi h0).2;rcases Nat.eq_zero_or_pos j with e|e
  ·subst e;exact h1 q hq
  ·have h2:=hp i (i+j) hi (by omega) (by omega);obtain⟨q0,hq0⟩:=List.exists_mem_of_ne_nil _ (hne ks[i] (List.getElem_mem hi));exact Gs (Gs (h1 q0 hq0) (Gr (h2.1 q0 hq0))) (h2.2 q hq)
 unfold Xy;rw[decide_eq_false ht,Bool.false_or];exact Gs hk hlow
theorem Zt1{ks:List Kid}{i:Nat}(hi:i<ks.length)(h0:0<i):((nk ks)[i]'(by rw[Rh];exact hi)).2=ks[i].key:=by
 rcases ks with _|⟨k,r⟩
 ·cases hi
 ·rcases i with _|i
  ·cases h0
  ·simp[nk,Xj,kK]
theorem Zhz(A B:Asn)(T L:List Asn):(A::B::(T++L)).Perm (A::(T++B::L)):=List.Perm.cons A (List.perm_middle.symm)
structure CoS where
 i:Nat
 ov:Value
 P:List Asn
theorem Zt2(T:Tg)(h:Nat)(ih:Zhy T h)(L P:List Asn)(t:Nat)(τ:Tr)(p:Nat)(ks:List Kid)(frm to:Bs)(most:Nat)(outs:List Pr)(ov:Value)(hpg:τ.pg p=some (Zf (ks.map kK)).enc)(hpo:Yb (Zf (ks.map kK)))(hsub:∀k∈ks,Sub T τ.pg h k.page k.ps k.gs)(hsep:Sep ks)(hgn:∀j∈p::ks.flatMap (·.gs),((j:Nat):Int)<τ.σ.n)(ho:outs.length≤most)(hl:outs.length+(ks.flatMap (·.ps)).length≤400000)(hm:most≤1099511627776):Sp SET 123 [.pointer (some ⟨t,0,none⟩),.int .i64 (p:Nat),S frm,S to,.int .i64 (most:Nat),ov] (Ow 2 ov (outs.map Zc)::(trL t τ++L)) P (fun r L' P'=>∃ov',r=.tuple ⟨[ov',.int .i64 0]⟩∧L'=Ow 2 ov' ((outs++(sel frm to (ks.flatMap (·.ps))).take (most-outs.length)).map Zc)::(trL t τ++L)∧∀A∈P,A∈P'):=by
 obtain⟨Q0,hQ0⟩:∃Q0:List Asn,Q0=P:=⟨P,rfl⟩;have hpn:=hgn p (List.mem_cons_self ..);obtain⟨n1,n2,n3,n4,n5⟩:=Ke hpo;rw[List.length_map]at n2;have hne:∀k∈ks,k.ps≠[]:=fun k hk=>(hsub k hk).ne;obtain⟨i0,hi0l,hi0e,hi0s⟩:∃i0,i0<ks.length∧(Zf (ks.map kK)).find frm=i0∧∀q∈(ks.take i0).flatMap (·.ps),Zd q.1 frm=true:=by
  obtain⟨A,o,C,rfl,hAl,hA,hC⟩:=Zhc hpo frm;refine⟨A.length,by simp,hAl.symm,?_⟩;rw[List.take_left];exact(Zhe hsep (hne o (by simp)) hA hC).1
 have hkl:((Zf (ks.map kK)).kids.map encI).length=ks.length:=by
  show(((ks.map kK).map (·.1)).map encI).length=_;simp
 have hks:((Zf (ks.map kK)).keys.map encS).length=ks.length-1:=by
  show(((ks.map kK).tail.map (·.2)).map encS).length=_;simp
 refine .bo (fn:=Tryz.f123) (N:=118) ?_;refine .seq (.region (.pu .as (.pu .as (.nil (.seq (.region (.pu .mv (.pu .mv ?_))))))));refine .call (Ra [_] _ _ _ _ _ _ hpn hpg hpo) ?_;rintro _ _ _ ⟨v,rfl,hv,rfl,hs1⟩;have hv0:=hv;obtain⟨pv,kv,iv,rfl,hpv,hkv,hiv⟩:=hv.ex;refine .fact (Zg (.s (.p hpv))) fun⟨a1,c1,e1⟩=>?_;refine .fact (Zg (.s (.p hkv))) fun⟨a2,c2,e2⟩=>?_;refine .fact (Zg (.s (.p hiv))) fun⟨a3,c3,e3⟩=>?_;subst e1 e2 e3;refine .pu .mv (.pu .ex (.pu .ex ?_));refine .nw (cs:=[.bool false,.slice none 0 0,.slice none 0 0,.slice none 0 0]) fun b14=>?_;refine .st (vs:=[_,_,_,_]) ?_;refine .pu .as (.nil (.seq (.seq (.region (.pu .mv (.pu .cmp (.nil ?_)))))));refine .no rfl (.skip (.seq (.region (.lda (vs:=[_,_,_,_]) ?_))));refine .pu .mv ?_;refine .call (Zam _ _ _ (Zf (ks.map kK)) frm hv0 hpo.sm.small hpo.ok) ?_;rintro _ L P ⟨rfl,rfl,rfl⟩
 rw[hi0e];obtain⟨Q1,hQ1⟩:∃Q1:List Asn,Q1=P:=⟨P,rfl⟩;have hkvQ:=hQ1▸hkv;have hivQ:=hQ1▸hiv;refine .pu .mv (.pu .ex (.pu .ex (.pu .as (.pu .as (.nil (.seq (.seq (.region (.pu .mv (.pu .cmp (.nil ?_)))))))))));refine .no rfl (.skip ?_);refine .seq (.block (W.loop (fun _:Unit=>True) (fun _=>0) (fun _=>[(16,.int .i64 (i0:Nat)),(5,ov),(14,pp0 b14),(3,S to),(4,.int .i64 (most:Nat)),(2,S frm),(0,.pointer (some ⟨t,0,none⟩))]) (fun _=>Pt b14 [.bool false,.slice a1 ((Zf (ks.map kK)).pairs.map Zc).length c1,.slice a2 ((Zf (ks.map kK)).keys.map encS).length c2,.slice a3 ((Zf (ks.map kK)).kids.map encI).length c3] (tz 0 131)::Ow 2 ov (outs.map Zc)::(trL t τ++L)) (fun _=>_) () trivial ⟨rfl,rfl,rfl,rfl,rfl,rfl,rfl,trivial⟩ (.refl _ _) (fun _ _=>?_)));have hL0:((Zf (ks.map kK)).pairs.map Zc).length=0:=rfl;refine .seq (.seq (.region (.pu .mv (.pu .fa (.ld ?_)))))
 refine .lk .ln ?_;refine .pu .cn (.pu .mv (.off (.off (.off (.off (.pu .pk (.pu .mv (.off (.off (.off (.offU (.offU (.offU (.offU (.offU (.offU (.offU (.offU (.off (.pu .pk (.nil ?_)))))))))))))))))))));refine .no rfl (.exit ?_);refine .seq (.block (W.loop (fun a:CoS=>i0≤a.i∧a.i≤ks.length∧∀A∈Q1,A∈a.P) (fun a=>ks.length-a.i) (fun a=>[(16,.int .i64 (a.i:Nat)),(5,a.ov),(14,pp0 b14),(3,S to),(4,.int .i64 (most:Nat)),(2,S frm),(0,.pointer (some ⟨t,0,none⟩))]) (fun a=>Ow 2 a.ov ((outs++(sel frm to ((ks.take a.i).flatMap (·.ps))).take (most-outs.length)).map Zc)::Pt b14 [.bool false,.slice a1 ((Zf (ks.map kK)).pairs.map Zc).length c1,.slice a2 ((Zf (ks.map kK)).keys.map encS).length c2,.slice a3 ((Zf (ks.map kK)).kids.map encI).length c3] (tz 0 131)::(trL t τ++L)) (fun a=>a.P) ⟨i0,ov,_⟩ ⟨Nat.le_refl _,Nat.le_of_lt hi0l,fun A hA=>hQ1▸hA⟩ ⟨rfl,rfl,rfl,rfl,rfl,rfl,rfl,trivial⟩ (by rw[Zhw hi0s,List.take_nil,List.append_nil];exact Ent.swap) (fun a ha=>?_)))
 obtain⟨hi1,hi2,hs2⟩:=ha;generalize a.i=i at hi1 hi2 ⊢;generalize a.ov=ov1 at ⊢;generalize a.P=P2 at hs2 ⊢;have hkv2:=hs2 _ hkvQ;have hiv2:=hs2 _ hivQ;have hlen2:((outs++(sel frm to ((ks.take i).flatMap (·.ps))).take (most-outs.length)).map Zc).length=(outs++(sel frm to ((ks.take i).flatMap (·.ps))).take (most-outs.length)).length:=List.length_map ..;have hlo:(outs++(sel frm to ((ks.take i).flatMap (·.ps))).take (most-outs.length)).length≤most:=by rw[List.length_append,List.length_take];omega
 refine .seq (.seq (.region (.pu .mv (.pu .fa (.ld ?_)))));refine .lk .ln ?_;refine .pu .cmp (.pu .mv ?_);refine .and 75 4 (decide ((((outs++(sel frm to ((ks.take i).flatMap (·.ps))).take (most-outs.length)).map Zc).length:Int)<(most:Nat))) (fun hq=>?_) ?_
 ·refine .on (.pu .mv (.on (.lk .ln ?_)));refine .on (.pu .mv (.on (.pu .cmp ?_)));exact .fin rfl
 refine .pu .mv ?_;refine .and 81 16 ((decide ((i:Int)=0)||decide (to=[])||Zd ((ks[i]?.map (·.key)).getD []) to)) (fun hq=>?_) ?_
 ·have hq80:=hq;refine .on (.pu .mv (.on (.pu .cmp (.on (.pu .mv ?_)))));refine .or 84 2 (decide (to=[])) (fun hq=>?_) ?_
  ·refine .on (.pu .mv (.on (.pu .seq ?_)));exact .fin rfl
  refine .on (.pu .mv ?_);refine .or 88 8 (Zd ((ks[i]?.map (·.key)).getD []) to) (fun hq=>?_) ?_
  ·have hlt:i<ks.length:=by
    rw[Bool.and_eq_true,decide_eq_true_eq,decide_eq_true_eq]at hq80;omega
   have hpos:0<i:=by
    rw[Bool.or_eq_false_iff,decide_eq_false_iff_not]at hq;omega
   have hgk:((Zf (ks.map kK)).keys.map encS)[((i:Int)-1).toNat]? =some [S ks[i].key]:=by
    obtain⟨g1,g2⟩:=(Zbe ks).key (k:=i) (by rw[Rh];exact hlt) hpos;rw[show((i:Int)-1).toNat=i-1 by omega,List.getElem?_map,List.getElem?_eq_getElem g1,g2 g1];exact congrArg (fun x=>some (encS x)) (Zt1 hlt hpos)
   rw[show((ks[i]?.map (·.key)).getD [])=ks[i].key by rw[List.getElem?_eq_getElem hlt];rfl];refine .on (.pu .fa (.on (.ld ?_)));refine .on (.pu .mv (.on (.pu .sub ?_)));refine .on (.lk (.ia (k:=1) (es:=(Zf (ks.map kK)).keys.map encS) (hn:=⟨by omega,by omega⟩)) ?_);refine .on (.le hgk ?_);refine .on (.pu .mv (.on (.pu .slt ?_)));exact .fin rfl
  exact .fin rfl
 refine .nil ?_;refine .ite rfl (fun ht98=>?_) (fun ht98=>?_)
 ·refine .skip (.seq (.block (.seq (.region (.pu .mv ?_)))));have hlt:i<ks.length:=by
   rw[Bool.and_eq_true,Bool.and_eq_true,decide_eq_true_eq,decide_eq_true_eq]at ht98;omega
  have hgi:((Zf (ks.map kK)).kids.map encI)[((i:Nat):Int).toNat]? =some [.int .i64 (ks[i].page:Nat)]:=by
   show((((ks.map kK).map (·.1)).map encI))[((i:Nat):Int).toNat]? =_;rw[Int.toNat_natCast,List.getElem?_map,List.getElem?_map,List.getElem?_map,List.getElem?_eq_getElem hlt];rfl
  have hci:=hsub _ (List.getElem_mem hlt);have hgi2:∀j∈ks[i].gs,((j:Nat):Int)<τ.σ.n:=fun j hj=>hgn j (List.mem_cons_of_mem _ (List.mem_flatMap.2 ⟨_,List.getElem_mem hlt,hj⟩));have htk:((ks.take i).flatMap (·.ps)).length+ks[i].ps.length≤(ks.flatMap (·.ps)).length:=by
   conv=>rhs;rw[←List.take_append_drop i ks,List.drop_eq_getElem_cons hlt,List.flatMap_append,List.flatMap_cons]
   simp only[List.length_append];omega
  have hsl:(sel frm to ((ks.take i).flatMap (·.ps))).length≤((ks.take i).flatMap (·.ps)).length:=List.length_filter_le ..;have hlo2:(outs++(sel frm to ((ks.take i).flatMap (·.ps))).take (most-outs.length)).length+ks[i].ps.length≤400000:=by rw[List.length_append,List.length_take];omega
  refine .pu .fa (.ld ?_);refine .pu .mv ?_;refine .lk (.ia (k:=1) (es:=(Zf (ks.map kK)).kids.map encI) (hn:=⟨by omega,by omega⟩)) ?_;refine .le hgi ?_;refine .pu .mv (.pu .mv (.pu .mv (.pu .mv ?_)));refine .call (Sp.ent (.perm (Zhz _ _ (trL t τ) _)) (ih (Pt b14 [.bool false,.slice a1 ((Zf (ks.map kK)).pairs.map Zc).length c1,.slice a2 ((Zf (ks.map kK)).keys.map encS).length c2,.slice a3 ((Zf (ks.map kK)).kids.map encI).length c3] (tz 0 131)::L) _ t τ ks[i].page ks[i].ps ks[i].gs frm to most (outs++(sel frm to ((ks.take i).flatMap (·.ps))).take (most-outs.length)) ov1 hci hgi2 hlo hlo2 hm)) ?_;rintro _ _ _ ⟨ov2,rfl,rfl,hs3⟩;refine .pu .mv (.pu .ex (.pu .ex (.pu .as (.pu .as (.nil (.seq (.region (.pu .mv (.pu .cmp (.nil ?_))))))))));refine .no rfl (.skip (.region (.pu .mv (.pu .add (.pu .as (.nil ?_))))));refine⟨⟨i+1,ov2,_⟩,⟨by show i0≤i+1;omega,hlt,fun A hA=>hs3 _ (hs2 _ hA)⟩,by show ks.length-(i+1)<ks.length-i;omega,⟨rfl,rfl,rfl,rfl,rfl,rfl,rfl,trivial⟩,?_⟩
  rw[Ztz ho,←Zbi];show Ent _ _ (Ow 2 ov2 ((outs++(sel frm to ((ks.take (i+1)).flatMap (·.ps))).take (most-outs.length)).map Zc)::_) _;rw[List.take_succ_eq_append_getElem hlt,List.flatMap_append,List.flatMap_cons,List.flatMap_nil,List.append_nil];exact .perm (Zhz _ _ (trL t τ) _).symm
 refine .exit (.seq (.region (.pu .mv (.pu .as (.pu .as (.nil (.ret ?_)))))));refine⟨_,.tmp rfl (.tmp rfl .nil),_,_,(Ent.dropAt [_] _ _),ov1,rfl,?_,fun A hA=>hs2 _ (hQ1▸hs1 _ hA)⟩;have hfin:(sel frm to (ks.flatMap (·.ps))).take (most-outs.length)=(sel frm to ((ks.take i).flatMap (·.ps))).take (most-outs.length):=by
  conv=>lhs;rw[←List.take_append_drop i ks]
  rw[List.flatMap_append,Zbi];have hcase:ks.length≤i∨most≤(outs++(sel frm to ((ks.take i).flatMap (·.ps))).take (most-outs.length)).length∨∃hlt:i<ks.length,0<i∧to≠[]∧Zd ks[i].key to=false:=by
   rw[Bool.and_eq_false_iff,Bool.and_eq_false_iff,decide_eq_false_iff_not,decide_eq_false_iff_not]at ht98;rcases ht98 with(h1|h1)|h1
   ·exact .inl (by omega)
   ·exact .inr (.inl (by omega))
   ·rcases Nat.lt_or_ge i ks.length with h2|h2
    ·rw[List.getElem?_eq_getElem h2,Bool.or_eq_false_iff,Bool.or_eq_false_iff,decide_eq_false_iff_not,decide_eq_false_iff_not]at h1;exact .inr (.inr ⟨h2,by omega,h1.1.2,h1.2⟩)
    ·exact .inl h2
  rcases hcase with h1|h1|⟨h1,h2,h3,h4⟩
  ·rw[List.drop_of_length_le h1];show(_++sel frm to []).take _=_;rw[show sel frm to []=[]from rfl,List.append_nil]
  ·rw[List.length_append,List.length_take]at h1;rw[List.take_append_of_le_length (by omega)]
  ·rw[Ztv (Zt0 hsep hne h1 h2 h3 h4),List.append_nil]
 rw[hfin];rfl
theorem Zh0(T:Tg):∀h,Zhy T h
 |0=>fun L P t τ p ps gs frm to most outs ov hs hg ho hl hm=>by
  cases hs with
  |leaf hpg hpo=>exact Zty L P t τ p ps frm to most outs ov hpg hpo (hg p (List.mem_cons_self ..)) ho hl hm
 |h+1=>fun L P t τ p ps gs frm to most outs ov hs hg ho hl hm=>by
  cases hs with
  | @inner _ _ ks hpg hpo hk hsep htl hkm=>exact Zt2 T h (Zh0 T h) L P t τ p ks frm to most outs ov hpg hpo hk hsep hg ho hl hm
theorem Zh1(T:Tg)(L P:List Asn)(t:Nat)(τ:Tr)(ps:List Pr)(gs:List Nat)(dp:Nat)(frm to:Bs)(most:Nat)(hr:Rep T τ ps gs dp)(hm:most≤1099511627776):Sp SET 65 [.pointer (some ⟨t,0,none⟩),S frm,S to,.int .i64 (most:Nat)] (trL t τ++L) P (fun r L' P'=>∃ov,r=.tuple ⟨[ov,.int .i64 0]⟩∧L'=Ow 2 ov (((sel frm to ps).take most).map Zc)::(trL t τ++L)∧∀A∈P,A∈P'):=by
 have hfew:=hr.few;refine .bo (fn:=Tryz.f65) (N:=33) ?_;refine .seq (.region (.pu .as (.pu .as (.nil (.seq (.block (.seq (.region (.pu .mv (.pu .peq (.pu .mv (.on (.pu .mv (.on (.pu .cn (.pu .pk (.pu .as (.nil ?_))))))))))))))))));refine .no rfl ?_;by_cases hr0:τ.root=0
 ·refine .seq (.region (.pu .mv (.pu .nc (.pu .fa (.ld ?_)))));refine .pu .cy (.pu .as (.nil ?_));refine .yes rfl (.seq (.region (.pu .as (.pu .as (.nil (.ret ?_))))));refine⟨_,.tmp rfl (.tmp rfl .nil),_,_,(Ent.none (k:=2)),_,rfl,?_,fun _ h=>h⟩;rcases hr.bel.cases with⟨_,e,_⟩|⟨_,e,_⟩
  ·subst e;rw[show(sel frm to []).take most=[]from List.take_nil];rfl
  ·exact absurd hr0 e
 ·refine .seq (.region (.pu .mv (.pu .nc (.pu .fa (.ld ?_)))));refine .pu .cn (.pu .as (.nil ?_));refine .no rfl (.skip (.seq (.region (.pu .mv (.pu .mv ?_)))));obtain⟨h,hrt,hdp,hsb⟩:∃h,τ.root≠0∧dp=h+1∧Sub T τ.pg h τ.root ps gs:=by
   rcases hr.bel.cases with⟨e,_⟩|h
   ·exact absurd e hr0
   ·exact h
  have hgn:∀j∈gs,((j:Nat):Int)<τ.σ.n:=fun j hj=>by
   have h1:=hr.ok.uo j ((hr.us j).2 (.inr hj));have h2:=hr.nn;omega
  refine .ent (Ent.none (k:=2)) ?_;refine .pu .nc (.pu .fa (.ld ?_));refine .pu .mv (.pu .mv (.pu .mv ?_));refine .call (Zh0 T h _ _ t τ τ.root ps gs frm to most [] _ hsb hgn (Nat.zero_le _) (by show 0+ps.length≤400000;omega) hm) ?_;rintro _ _ _ ⟨ov,rfl,rfl,hs1⟩;refine .pu .ex (.pu .ex (.pu .as (.pu .as (.nil (.ret ?_)))));refine⟨_,.tmp rfl (.tmp rfl .nil),_,_,.refl _ _,ov,rfl,?_,hs1⟩;rfl
theorem Zh2{k:Bs}{ps:List Pr}(h:rise (ps.map (·.1))=true):(sel k [] ps).take 1=(ps.drop (lb (ps.map (·.1)) k)).take 1:=by
 have e:(ps.drop (lb (ps.map (·.1)) k)).filter (fun q=>Xy [] q.1)=ps.drop (lb (ps.map (·.1)) k):=List.filter_eq_self.2 (fun q _=>rfl);rw[Zhx h,e]
theorem Rep.rise{T:Tg}{τ:Tr}{ps:List Pr}{gs:List Nat}{dp:Nat}(h:Rep T τ ps gs dp):Go.Cis.rise (ps.map (·.1))=true:=by
 rcases h.bel.cases with⟨_,e,_⟩|⟨_,_,_,hs⟩
 ·subst e;rfl
 ·exact hs.rise
theorem Zt3(T:Tg)(L P:List Asn)(t:Nat)(τ:Tr)(ps:List Pr)(gs:List Nat)(dp:Nat)(k:Bs)(hr:Rep T τ ps gs dp)(hd:ps.drop (lb (ps.map (·.1)) k)=[]):Sp SET 158 [.pointer (some ⟨t,0,none⟩),S k] (trL t τ++L) P (fun r L' P'=>r=.tuple ⟨[S [],.int .i64 7]⟩∧L'=trL t τ++L∧∀A∈P,A∈P'):=by
 refine .bo (fn:=Tryz.f158) (N:=33) ?_;refine .seq (.region (.pu .as (.pu .as (.nil (.seq (.seq (.region (.pu .mv (.pu .peq (.nil ?_))))))))));refine .no rfl (.skip (.seq (.region (.pu .mv (.pu .mv ?_)))));refine .call (Zh1 T _ _ t τ ps gs dp k [] 1 hr (by decide)) ?_;rintro _ _ _ ⟨ov,rfl,rfl,hs1⟩;rw[Zh2 hr.rise,hd,List.take_nil];have hl0:(List.map Zc ([]:List Pr)).length=0:=rfl;refine .pu .mv (.pu .ex (.pu .ex (.pu .as (.pu .as (.nil (.seq (.seq (.region (.pu .mv (.pu .cmp (.nil ?_)))))))))));refine .no rfl (.skip (.seq (.seq (.region (.pu .mv (.lk .ln ?_))))));refine .pu .cy (.pu .mv (.off (.off (.off (.off (.off (.off (.pu .pk (.nil ?_)))))))));refine .yes rfl (.seq (.region (.pu .as (.pu .as (.nil (.ret ?_))))));exact⟨_,.tmp rfl (.tmp rfl .nil),_,_,.drop,rfl,rfl,hs1⟩
theorem Zh3(T:Tg)(L P:List Asn)(t:Nat)(τ:Tr)(ps:List Pr)(gs:List Nat)(dp:Nat)(k:Bs)(q:Pr)(qs:List Pr)(hr:Rep T τ ps gs dp)(hd:ps.drop (lb (ps.map (·.1)) k)=q::qs):Sp SET 158 [.pointer (some ⟨t,0,none⟩),S k] (trL t τ++L) P (fun r L' P'=>(q.1=k∧r=.tuple ⟨[S q.2,.int .i64 0]⟩∨q.1≠k∧r=.tuple ⟨[S [],.int .i64 7]⟩)∧L'=trL t τ++L∧∀A∈P,A∈P'):=by
 refine .bo (fn:=Tryz.f158) (N:=33) ?_;refine .seq (.region (.pu .as (.pu .as (.nil (.seq (.seq (.region (.pu .mv (.pu .peq (.nil ?_))))))))));refine .no rfl (.skip (.seq (.region (.pu .mv (.pu .mv ?_)))));refine .call (Zh1 T _ _ t τ ps gs dp k [] 1 hr (by decide)) ?_;rintro _ _ _ ⟨ov,rfl,rfl,hs1⟩;rw[Zh2 hr.rise,hd,show(q::qs).take 1=[q]from rfl];have hl1:(List.map Zc [q]).length=1:=rfl;have hg0:(([q].map Zc))[(0:Int).toNat]? =some [S q.1,S q.2]:=rfl;refine .fact (Yo .l0) fun⟨a1,c1,e1⟩=>?_;subst e1;refine .pu .mv (.pu .ex (.pu .ex (.pu .as (.pu .as (.nil (.seq (.seq (.region (.pu .mv (.pu .cmp (.nil ?_)))))))))));refine .no rfl (.skip ?_);by_cases hk:q.1=k
 ·refine .seq (.seq (.region (.pu .mv (.lk .ln ?_))));refine .pu .cn (.pu .mv (.on (.pu .mv ?_)));refine .on (.lk (.ia (k:=2) (es:=[q].map Zc) (hn:=⟨by omega,by omega⟩)) ?_);refine .on (.pu .fa (.on (.lf (k:=2) (i:=0) (j:=0) (v:=.slice a1 ([q].map Zc).length c1) hg0 ?_)));refine .on (.pu .mv ?_);refine .on (.pu (.sne (q:=false) (hq:=by rw[hk];simp)) ?_);refine .pu .pk (.nil ?_);refine .no rfl (.skip (.seq (.region (.pu .mv ?_))));refine .lk (.ia (k:=2) (es:=[q].map Zc) (hn:=⟨by omega,by omega⟩)) ?_;refine .pu .fa (.lf (k:=2) (i:=0) (j:=1) (v:=.slice a1 ([q].map Zc).length c1) hg0 ?_);refine .pu .as (.pu .as (.nil (.ret ?_)));exact⟨_,.tmp rfl (.tmp rfl .nil),_,_,.drop,.inl ⟨hk,rfl⟩,rfl,hs1⟩
 ·refine .seq (.seq (.region (.pu .mv (.lk .ln ?_))));refine .pu .cn (.pu .mv (.on (.pu .mv ?_)));refine .on (.lk (.ia (k:=2) (es:=[q].map Zc) (hn:=⟨by omega,by omega⟩)) ?_);refine .on (.pu .fa (.on (.lf (k:=2) (i:=0) (j:=0) (v:=.slice a1 ([q].map Zc).length c1) hg0 ?_)));refine .on (.pu .mv ?_);refine .on (.pu (.sne (q:=true) (hq:=by simp[hk])) ?_);refine .pu .pk (.nil ?_);refine .yes rfl (.seq (.region (.pu .as (.pu .as (.nil (.ret ?_))))));exact⟨_,.tmp rfl (.tmp rfl .nil),_,_,.drop,.inr ⟨hk,rfl⟩,rfl,hs1⟩
def Vg(ps:List Pr)(k:Bs):Option Bs:=match ps.drop (lb (ps.map (·.1)) k)with
 |[]=>none
 |q::_=>if q.1=k then some q.2 else none
theorem Zh4(T:Tg)(L P:List Asn)(t:Nat)(τ:Tr)(ps:List Pr)(gs:List Nat)(dp:Nat)(k:Bs)(hr:Rep T τ ps gs dp):Sp SET 158 [.pointer (some ⟨t,0,none⟩),S k] (trL t τ++L) P (fun r L' P'=>r=(match Vg ps k with|some v=>.tuple ⟨[S v,.int .i64 0]⟩|none=>.tuple ⟨[S [],.int .i64 7]⟩)∧L'=trL t τ++L∧∀A∈P,A∈P'):=by
 rcases hd:ps.drop (lb (ps.map (·.1)) k)with _|⟨q,qs⟩
 ·have e:Vg ps k=none:=by unfold Vg;rw[hd]
  rw[e];exact Zt3 T L P t τ ps gs dp k hr hd
 ·by_cases hk:q.1=k
  ·have e:Vg ps k=some q.2:=by unfold Vg;rw[hd];exact if_pos hk
   rw[e];refine(Zh3 T L P t τ ps gs dp k q qs hr hd).post (fun v L' P' ⟨h1,h2,h3⟩=>⟨_,_,.refl _ _,?_,h2,h3⟩);rcases h1 with⟨_,h4⟩|⟨h1,_⟩
   ·exact h4
   ·exact absurd hk h1
  ·have e:Vg ps k=none:=by unfold Vg;rw[hd];exact if_neg hk
   rw[e];refine(Zh3 T L P t τ ps gs dp k q qs hr hd).post (fun v L' P' ⟨h1,h2,h3⟩=>⟨_,_,.refl _ _,?_,h2,h3⟩);rcases h1 with⟨h1,_⟩|⟨_,h4⟩
   ·exact absurd h1 hk
   ·exact h4
def Zi(n i:Nat):Bs:=(List.range i).reverse.map (fun j=>UInt8.ofNat (n/2^(8*j)))
theorem Zh5(n i:Nat):Zi n (i+1)=UInt8.ofNat (n/2^(8*i))::Zi n i:=by
 unfold Zi;rw[List.range_succ,List.reverse_append];rfl
theorem Yk(n i:Nat):(Zi n i).length=i:=by unfold Zi;simp
def Xs(n m i:Nat):Bs:=List.replicate (m-i) 0++Zi n i
theorem Zbj(n m i:Nat)(h:i≤m):(Xs n m i).length=m:=by unfold Xs;rw[List.length_append,List.length_replicate,Yk];omega
theorem Zt4{n m i:Nat}(h:i<m):(Xs n m i).set (m-1-i) (UInt8.ofNat (n/2^(8*i)))=Xs n m (i+1):=by
 unfold Xs;rw[List.set_append_left _ _ (by rw[List.length_replicate];omega),Zh5];have e:m-i=(m-(i+1))+1:=by omega
 have e2:m-1-i=m-(i+1):=by omega
 rw[e2,e,List.replicate_succ',List.set_append_right _ _ (by rw[List.length_replicate];exact Nat.le_refl _),List.length_replicate,Nat.sub_self,List.append_assoc];rfl
theorem Gv(bs:Bs)(i:Nat)(b:UInt8):(byL bs).set i [Value.int .u8 b.toNat]=byL (bs.set i b):=by unfold byL;rw[List.map_set]
theorem H5(n m:Nat)(hm:m≤4)(hn:n≤1099511627776):Sp SET 172 [.int .i64 (n:Nat),.int .i64 (m:Nat)] L P (fun r L' P'=>r=S (Zi n m)∧L'=L∧P'=P):=by
 have hl0:(byL (Xs n m 0)).length=m:=by unfold byL;rw[List.length_map,Zbj _ _ _ (Nat.zero_le _)]
 have e0:List.replicate ((m:Nat):Int).toNat [Value.int .u8 0]=byL (Xs n m 0):=by
  unfold byL Xs Zi;rw[Int.toNat_natCast];simp
 refine .bo (fn:=Tryz.f172) (N:=27) ?_;refine .seq (.region (.pu .as (.nil (.seq (.region (.pu .mv ?_))))));refine .mk (k:=1) (z:=[.int .u8 0]) (fun v8=>?_) (hn:=⟨by omega,by show(m:Int)*1≤_;omega,by omega⟩);rw[e0];refine .pu .as (.nil (.seq (.seq (.region (.pu .mv (.lk .ln ?_))))));refine .pu .mv (.nil ?_);refine .block (W.loop (fun i:Nat=>i≤m) (fun i=>m-i) (fun i=>[(11,.int .i64 (i:Nat)),(10,.int .i64 ((byL (Xs n m 0)).length:Nat)),(5,v8),(0,.int .i64 (n:Nat)),(1,.int .i64 (m:Nat))]) (fun i=>Ow 1 v8 (byL (Xs n m i))::L) (fun _=>P) 0 (Nat.zero_le _) ⟨rfl,rfl,rfl,rfl,rfl,trivial⟩ (.refl _ _) (fun i hi=>?_));have hli:(byL (Xs n m i)).length=m:=by unfold byL;rw[List.length_map,Zbj _ _ _ hi]
 by_cases hlt:i<m
 ·refine .seq (.region (.pu .cy (.nil (.seq (.yes rfl (.skip (.seq (.block (.seq (.region (.pu .mv (.pu .as (.nil (.region (.pu .mv (.pu .mv (.pu .sub (.pu .mv (.pu .sub (.pu .mv (.pu .mv (.pu .mul ?_))))))))))))))))))))));refine .pu (.shrN (n:=8*i) (hn:=by show 8*i≤64;omega)) ?_;refine .pu (.ciw (wrap_u8 (n>>>(8*i)))) ?_;rw[Nat.shiftRight_eq_div_pow,Na];have hrl:=Zbj n m i hi;have hgx:(byL (Xs n m i))[((m:Int)-1-i).toNat]? =some [.int .u8 ((Xs n m i)[m-1-i]'(by omega)).toNat]:=by
   rw[show((m:Int)-1-i).toNat=m-1-i by omega];unfold byL;rw[List.getElem?_map,List.getElem?_eq_getElem (by omega)];rfl
  refine .lk (.ia (k:=1) (es:=byL (Xs n m i)) (hm:=.o .l0) (hn:=⟨by omega,by omega⟩)) ?_;refine .se (k:=1) (vs:=[_]) (i:=((m:Int)-1-i).toNat) (e:=[.int .u8 ((Xs n m i)[m-1-i]'(by omega)).toNat]) hgx ?_;rw[show((m:Int)-1-i).toNat=m-1-i by omega,Gv,Zt4 hlt];refine .nil (.region (.pu .add (.pu .mv (.nil ?_))));refine⟨i+1,hlt,by show m-(i+1)<m-i;omega,⟨rfl,rfl,rfl,rfl,rfl,trivial⟩,.refl _ _⟩
 ·refine .seq (.region (.pu .cn (.nil (.seq (.no rfl (.exit (.seq (.region ?_))))))));have e:i=m:=by omega
  subst e;refine .pu .mv ?_;refine .cs (bs:=Zi n i) (.o (by
   have e2:Xs n i i=Zi n i:=by unfold Xs;rw[Nat.sub_self];rfl
   rw[e2];exact .l0)) ?_
  refine .pu .as (.nil (.ret ?_));exact⟨_,.tmp rfl .nil,_,_,.drop,rfl,rfl,rfl⟩
def Yu(s:Bs):Nat:=s.foldl (fun n b=>n*256+b.toNat) 0
theorem Zbk{s:Bs}{i:Nat}(h:i<s.length):Yu (s.take (i+1))=Yu (s.take i)*256+s[i].toNat:=by
 unfold Yu;rw[List.take_succ_eq_append_getElem h,List.foldl_append];rfl
theorem Zbl(s:Bs):∀i,i≤s.length→Yu (s.take i)<256^i
 |0,_=>by simp[Yu]
 |i+1,h=>by
  have ih:=Zbl s i (by omega);have hb:=s[i].toNat_lt;rw[Zbk h,Nat.pow_succ];omega
theorem Zh6(a b:Nat)(h:b<256):Nat.lor (a*256) b=a*256+b:=by
 have:=Nat.two_pow_add_eq_or_of_lt (i:=8) (b:=b) (by omega) a;rw[Nat.mul_comm a 256];exact this.symm
theorem H6(s:Bs)(hl:s.length≤5):Sp SET 220 [S s] L P (fun r L' P'=>r=.int .i64 (Yu s:Nat)∧L'=L∧P'=P):=by
 refine .bo (fn:=Tryz.f220) (N:=18) ?_;refine .seq (.region (.pu .as (.nil (.seq (.region (.pu .as (.nil (.seq (.seq (.region (.pu .mv (.pu .ls (.pu .mv (.nil ?_))))))))))))));refine .block (W.loop (fun i:Nat=>i≤s.length) (fun i=>s.length-i) (fun i=>[(7,.int .i64 (i:Nat)),(6,.int .i64 (s.length:Nat)),(3,.int .i64 (Yu (s.take i):Nat)),(0,S s)]) (fun _=>L) (fun _=>P) 0 (Nat.zero_le _) ⟨rfl,rfl,rfl,rfl,trivial⟩ (.refl _ _) (fun i hi=>?_));by_cases hlt:i<s.length
 ·refine .seq (.region (.pu .cy (.nil (.seq (.yes rfl (.skip (.seq (.block (.seq (.region ?_))))))))));have hgs:s[((i:Nat):Int).toNat]? =some s[i]:=by simp[hlt]
  have hb:=s[i].toNat_lt;have hlt2:=Zbl s i hi;have hlt3:=Zbl s (i+1) hlt;have hp:256^i≤256^4:=Nat.pow_le_pow_right (by decide) (by omega);have hp2:256^(i+1)≤256^5:=Nat.pow_le_pow_right (by decide) (by omega);have hq:(256:Nat)^4=4294967296:=by decide
  have hq2:(256:Nat)^5=1099511627776:=by decide
  refine .pu .mv (.pu .as (.nil (.region (.pu .mv (.pu (.i_shl) ?_)))));rw[show((Yu (s.take i):Nat):Int)*((2^8:Nat):Int)=((Yu (s.take i)*256:Nat):Int)from rfl];refine .pu .mv (.pu .mv (.pu (.ix hgs) (.pu .ci ?_)));refine .pu (.i_or (a:=Yu (s.take i)*256) (b:=s[i].toNat) (hr:=by rw[Zh6 _ _ hb,←Zbk hlt];simp only[InR];omega)) ?_;rw[Zh6 _ _ hb,←Zbk hlt];refine .pu .as (.nil (.region (.pu .add (.pu .mv (.nil ?_)))));refine⟨i+1,hlt,by show s.length-(i+1)<s.length-i;omega,⟨rfl,rfl,rfl,rfl,trivial⟩,.refl _ _⟩
 ·refine .seq (.region (.pu .cn (.nil (.seq (.no rfl (.exit (.seq (.region ?_))))))));have e:s.take i=s:=List.take_of_length_le (by omega);rw[e];refine .pu .mv (.pu .as (.nil (.ret ?_)));exact⟨_,.tmp rfl .nil,_,_,.refl _ _,rfl,rfl,rfl⟩
def Z0(ino idx:Nat):Bs:=120::(Zi ino 4++Zi idx 1)
theorem Zbm(ino idx:Nat)(h1:ino≤1099511627776)(h2:idx≤1099511627776):Sp SET 109 [.int .i64 (ino:Nat),.int .i64 (idx:Nat)] L P (fun r L' P'=>r=S (Z0 ino idx)∧L'=L∧P'=P):=by
 refine .bo (fn:=Tryz.f109) (N:=10) ?_;refine .seq (.region (.pu .as (.nil (.seq (.region (.pu .mv ?_))))));refine .call (H5 _ _ ino 4 (by omega) h1) ?_;rintro _ L P ⟨rfl,rfl,rfl⟩;refine .pu (.cat (hr:=by simp only[List.length_append,List.length_cons,List.length_nil,Yk];omega)) ?_;refine .pu .mv ?_;refine .call (H5 _ _ idx 1 (by omega) h2) ?_;rintro _ L P ⟨rfl,rfl,rfl⟩;refine .pu (.cat (hr:=by simp only[List.length_append,List.length_cons,List.length_nil,Yk];omega)) ?_;refine .pu .as (.nil (.ret ?_));exact⟨_,.tmp rfl .nil,_,_,.refl _ _,rfl,rfl,rfl⟩
structure Xt where
 ino:Nat
 idx:Nat
 st:Nat
 ep:Nat
 num:Nat
 sum:Nat
 blk:Nat
def hC(h:Xt):List Value:=[.int .i64 (h.ino:Nat),.int .i64 (h.idx:Nat),.int .i64 (h.st:Nat),.int .i64 (h.ep:Nat),.int .i64 (h.num:Nat),.int .i64 (h.sum:Nat),.int .i64 (h.blk:Nat)]
def Y4(h:Xt):Bs:=Zi h.st 1++Zi h.blk 2++Zi h.ep 4++Zi h.num 4++Zi h.sum 4
structure Xt.Fit(h:Xt):Prop where
 ino:h.ino<4294967296
 idx:h.idx<256
 st:1≤h.st∧h.st≤3
 ep:h.ep<4294967296
 num:h.num<4294967296
 sum:h.sum<4294967296
 blk:h.blk<65536
theorem Zt5(h:Xt)(hf:h.Fit):Sp SET 164 [.agg ⟨hC h⟩] L P (fun r L' P'=>r=S (Y4 h)∧L'=L∧P'=P):=by
 obtain⟨f1,f2,f3,f4,f5,f6,f7⟩:=hf;unfold hC;refine .bo (fn:=Tryz.f164) (N:=25) ?_;refine .seq (.region ?_);refine .bx (cs:=[_,_,_,_,_,_,_]) fun b1=>?_;refine .pu .as (.nil ?_);refine .seq (.drawn (by kernel_rfl) fun base=>?_);refine .pu .fa (.pu .fa (.lo 0 0 .ld .mk ?_));refine .call (H5 _ _ h.st 1 (by omega) (by omega)) ?_;rintro _ L P ⟨rfl,rfl,rfl⟩;refine .pu .fa (.lo 0 1 .ld .mk ?_);refine .call (H5 _ _ h.blk 2 (by omega) (by omega)) ?_;rintro _ L P ⟨rfl,rfl,rfl⟩;refine .pu (.cat (hr:=by simp only[List.length_append,List.length_cons,List.length_nil,Yk];omega)) ?_;refine .pu .fa (.pu .fa (.lo 0 2 .ld .mk ?_));refine .call (H5 _ _ h.ep 4 (by omega) (by omega)) ?_;rintro _ L P ⟨rfl,rfl,rfl⟩;refine .pu (.cat (hr:=by simp only[List.length_append,List.length_cons,List.length_nil,Yk];omega)) ?_;refine .pu .fa (.pu .fa (.lo 0 3 .ld .mk ?_))
 refine .call (H5 _ _ h.num 4 (by omega) (by omega)) ?_;rintro _ L P ⟨rfl,rfl,rfl⟩;refine .pu (.cat (hr:=by simp only[List.length_append,List.length_cons,List.length_nil,Yk];omega)) ?_;refine .pu .fa (.pu .fa (.lo 0 4 .ld .mk ?_));refine .call (H5 _ _ h.sum 4 (by omega) (by omega)) ?_;rintro _ L P ⟨rfl,rfl,rfl⟩;refine .pu (.cat (hr:=by simp only[List.length_append,List.length_cons,List.length_nil,Yk];omega)) ?_;refine .pu .as (.nil (.cons (.yes .mk (.yes .mk (.yes .mk (.yes .mk (.yes .mk (.skip .nil)))))) (.cons (.yes .mk (.yes .mk (.yes .mk (.yes .mk (.skip (.skip .nil)))))) (.cons (.yes .mk (.yes .mk (.yes .mk (.skip (.skip (.skip .nil)))))) (.cons (.yes .mk (.yes .mk (.skip (.skip (.skip (.skip .nil)))))) (.cons (.yes .mk (.skip (.skip (.skip (.skip (.skip .nil)))))) .nil))))) (.ret ?_));exact⟨_,.tmp rfl .nil,_,_,.drop,rfl,rfl,rfl⟩
theorem B9(b:UInt8)(s:Bs)(k:Nat):s.foldl (fun n b=>n*256+b.toNat) k=k*256^s.length+Yu s:=by
 unfold Yu
 induction s generalizing k with
 |nil=>simp
 |cons c s ih=>
  rw[List.foldl_cons,ih,List.foldl_cons,ih (0*256+c.toNat),List.length_cons,Nat.pow_succ];rw[Nat.add_mul,Nat.zero_mul,Nat.zero_add,Nat.mul_assoc,Nat.mul_comm 256 (256^s.length),Nat.add_assoc]
theorem Zh7(n:Nat):∀i,Yu (Zi n i)=n%256^i
 |0=>by simp[Yu,Zi,Nat.mod_one]
 |i+1=>by
  rw[Zh5];show(Zi n i).foldl _ (0*256+(UInt8.ofNat (n/2^(8*i))).toNat)=_;rw[B9 0,Yk,Zh7 n i,Nat.zero_mul,Nat.zero_add,Nat.pow_succ];have e:(2:Nat)^(8*i)=256^i:=by rw[Nat.pow_mul]
  have e2:(UInt8.ofNat (n/2^(8*i))).toNat=n/256^i%256:=by rw[e];simp[UInt8.toNat_ofNat']
  rw[e2,Nat.mod_mul];rw[Nat.mul_comm (256^i),Nat.add_comm]
theorem Kf{n i:Nat}(h:n<256^i):Yu (Zi n i)=n:=by rw[Zh7,Nat.mod_eq_of_lt h]
theorem Nf(ino idx:Nat):(Z0 ino idx).length=6:=by unfold Z0;simp[Yk]
theorem Zbn(h:Xt):(Y4 h).length=15:=by unfold Y4;simp[Yk]
theorem Gw{α:Type}(A B C:List α){p q:Nat}(hp:A.length=p)(hq:p+B.length=q):((A++(B++C)).drop p).take (q-p)=B:=by
 subst hp;rw[List.drop_left,show q-A.length=B.length by omega,List.take_left]
theorem Zt6(h:Xt)(hf:h.Fit):Sp SET 159 [.agg ⟨[S (Z0 h.ino h.idx),S (Y4 h)]⟩] L P (fun r L' P'=>r=.tuple ⟨[.agg ⟨hC h⟩,.bool true]⟩∧L'=L∧P'=P):=by
 obtain⟨f1,f2,f3,f4,f5,f6,f7⟩:=hf;have c1:decide ((h.st:Int)≥1)=true:=decide_eq_true (by omega);have c2:decide ((h.st:Int)≤3)=true:=decide_eq_true (by omega);have hkl:=Nf h.ino h.idx;have hvl:=Zbn h;have hkk:(Zi h.ino 4++Zi h.idx 1).length=5:=by simp[Yk]
 have q0:((Z0 h.ino h.idx).drop 1).take ((Z0 h.ino h.idx).length-1)=Zi h.ino 4++Zi h.idx 1:=by
  rw[hkl];have:=Gw [120] (Zi h.ino 4++Zi h.idx 1) ([]:Bs) (p:=1) (q:=6) rfl (by rw[hkk]);rw[List.append_nil]at this;exact this
 have q1:((Zi h.ino 4++Zi h.idx 1).drop 0).take (4-0)=Zi h.ino 4:=Gw [] (Zi h.ino 4) (Zi h.idx 1) rfl (by rw[Yk]);have q2:((Zi h.ino 4++Zi h.idx 1).drop 4).take ((Zi h.ino 4++Zi h.idx 1).length-4)=Zi h.idx 1:=by
  rw[hkk];have:=Gw (Zi h.ino 4) (Zi h.idx 1) ([]:Bs) (p:=4) (q:=5) (Yk _ _) (by rw[Yk]);rw[List.append_nil]at this;exact this
 have q3:((Y4 h).drop 0).take (1-0)=Zi h.st 1:=by
  unfold Y4;simp only[List.append_assoc];exact Gw [] (Zi h.st 1) _ rfl (by rw[Yk])
 have q4:((Y4 h).drop 3).take (7-3)=Zi h.ep 4:=by
  unfold Y4;rw[List.append_assoc,List.append_assoc];exact Gw (Zi h.st 1++Zi h.blk 2) (Zi h.ep 4) _ (by rw[List.length_append,Yk,Yk]) (by rw[Yk])
 have q5:((Y4 h).drop 7).take (11-7)=Zi h.num 4:=by
  unfold Y4;rw[List.append_assoc];exact Gw (Zi h.st 1++Zi h.blk 2++Zi h.ep 4) (Zi h.num 4) _ (by simp only[List.length_append,Yk]) (by rw[Yk])
 have q6:((Y4 h).drop 11).take ((Y4 h).length-11)=Zi h.sum 4:=by
  rw[hvl];have:=Gw (Zi h.st 1++Zi h.blk 2++Zi h.ep 4++Zi h.num 4) (Zi h.sum 4) ([]:Bs) (p:=11) (q:=15) (by simp only[List.length_append,Yk]) (by rw[Yk]);rw[List.append_nil]at this;exact this
 have q7:((Y4 h).drop 1).take (3-1)=Zi h.blk 2:=by
  unfold Y4;simp only[List.append_assoc];exact Gw (Zi h.st 1) (Zi h.blk 2) _ (Yk _ _) (by rw[Yk])
 generalize Y4 h=V at hvl q3 q4 q5 q6 q7 ⊢;generalize Z0 h.ino h.idx=K at hkl q0 ⊢;generalize Zi h.ino 4++Zi h.idx 1=K2 at hkk q0 q1 q2;refine .bo (fn:=Tryz.f159) (N:=56) ?_;refine .seq (.region ?_);refine .bx (cs:=[_,_]) fun b1=>?_;refine .nw (cs:=[.int .i64 0,.int .i64 0,.int .i64 0,.int .i64 0,.int .i64 0,.int .i64 0,.int .i64 0]) fun b2=>?_;refine .pu .as (.nil (.seq (.seq (.region (.pu .fa (.ld ?_))))));refine .pu .ls (.pu .cn (.pu .mv (.on (.pu .fa (.on (.ld ?_))))));refine .on (.pu .ls (.on (.pu .cn (.pu .pk (.nil ?_)))));refine .no rfl (.skip ?_);refine .seq (.quiet (by kernel_rfl) ?_);refine .pu .fa (.ld ?_);refine .pu (.sls (a:=K) (p:=1) (q:=(K).length) (bdn (n:=1) (hn:=by omega)) rfl) ?_;rw[q0];refine .pu .fa (.ld ?_);refine .pu .as (.pu .as (.nil ?_));refine .seq (.drawn (by kernel_rfl) fun base=>?_);refine .pu .mv ?_;refine .pu (.sls (a:=K2) (p:=0) (q:=4) rfl (bdn (n:=4) (hn:=by omega))) ?_
 rw[q1];refine .call (H6 _ _ (Zi h.ino 4) (by rw[Yk];omega)) ?_;rintro _ L P ⟨rfl,rfl,rfl⟩;rw[Kf (by omega)];refine .pu .mv ?_;refine .pu (.sls (a:=K2) (p:=4) (q:=K2.length) (bdn (n:=4) (hn:=by omega)) rfl) ?_;rw[q2];refine .call (H6 _ _ (Zi h.idx 1) (by rw[Yk];omega)) ?_;rintro _ L P ⟨rfl,rfl,rfl⟩;rw[Kf (by omega)];refine .pu .mv ?_;refine .pu (.sls (a:=V) (p:=0) (q:=1) rfl (bdn (n:=1) (hn:=by omega))) ?_;rw[q3];refine .call (H6 _ _ (Zi h.st 1) (by rw[Yk];omega)) ?_;rintro _ L P ⟨rfl,rfl,rfl⟩;rw[Kf (by omega)];refine .pu .mv ?_;refine .pu (.sls (a:=V) (p:=3) (q:=7) (bdn (n:=3) (hn:=by omega)) (bdn (n:=7) (hn:=by omega))) ?_;rw[q4];refine .call (H6 _ _ (Zi h.ep 4) (by rw[Yk];omega)) ?_;rintro _ L P ⟨rfl,rfl,rfl⟩;rw[Kf (by omega)];refine .pu .mv ?_;refine .pu (.sls (a:=V) (p:=7) (q:=11) (bdn (n:=7) (hn:=by omega)) (bdn (n:=11) (hn:=by omega))) ?_
 rw[q5];refine .call (H6 _ _ (Zi h.num 4) (by rw[Yk];omega)) ?_;rintro _ L P ⟨rfl,rfl,rfl⟩;rw[Kf (by omega)];refine .pu .mv ?_;refine .pu (.sls (a:=V) (p:=11) (q:=(V).length) (bdn (n:=11) (hn:=by omega)) rfl) ?_;rw[q6];refine .call (H6 _ _ (Zi h.sum 4) (by rw[Yk];omega)) ?_;rintro _ L P ⟨rfl,rfl,rfl⟩;rw[Kf (by omega)];refine .pu (.bd (vs:=[_,_,_,_,_,_])) (.pu .mv ?_);refine .pu (.sls (a:=V) (p:=1) (q:=3) (bdn (n:=1) (hn:=by omega)) (bdn (n:=3) (hn:=by omega))) ?_;rw[q7];refine .call (H6 _ _ (Zi h.blk 2) (by rw[Yk];omega)) ?_;rintro _ L P ⟨rfl,rfl,rfl⟩;rw[Kf (by omega)];refine .pu (.bd (vs:=[_,_,_,_,_,_,_])) ?_;refine .nw (cs:=[.int .i64 0,.int .i64 0,.int .i64 0,.int .i64 0,.int .i64 0,.int .i64 0,.int .i64 0]) (hlt:=by show∀x∈([]:Yh),_;simp) fun b6=>?_
 refine .st (vs:=[_,_,_,_,_,_,_]) ?_;refine .nil .nil ?_;refine .seq (.drawn (by kernel_rfl) fun base=>?_);refine .lo 0 0 .ld .mk ?_;refine .pu .fa (.pu .fa (.lo 0 0 .ld .mk ?_));refine .pu .cy (.pu .mv (.pu .fa (.pu .fa (.lo 0 1 .ld .mk ?_))));refine .pu .cy (.pu .pk (.st (vs:=[_,_,_,_,_,_,_]) ?_));refine .pu .as (.nil (.cons (.yes .mk (.yes .mk .nil)) (.cons (.yes .mk (.skip .nil)) (.cons (.yes .mk (.skip .nil)) .nil))) (.ret ?_));exact⟨_,.cell rfl .l1 rfl (.tmp rfl .nil),_,_,.d3,rfl,rfl,rfl⟩
theorem Zt7(T:Tg)(L1 L P:List Asn)(t:Nat)(τ:Tr)(ps:List Pr)(gs:List Nat)(dp:Nat)(k w:Bs)(hr:Rep T τ ps gs dp)(ho:Vg ps k=some w):Sp SET 158 [.pointer (some ⟨t,0,none⟩),S k] (L1++(trL t τ++L)) P (fun r L' P'=>r=.tuple ⟨[S w,.int .i64 0]⟩∧L'=L1++(trL t τ++L)∧∀A∈P,A∈P'):=
 Sp.ent (Ent.pull _ _ _) ((Zh4 T (L1++L) P t τ ps gs dp k hr).post (fun v L' P' ⟨h1,h2,h3⟩=>⟨_,_,by rw[h2];exact Ent.push _ _ _,by rw[ho]at h1;exact h1,rfl,h3⟩))
theorem Zt8(T:Tg)(L1 L P:List Asn)(t:Nat)(τ:Tr)(ps:List Pr)(gs:List Nat)(dp:Nat)(k:Bs)(hr:Rep T τ ps gs dp)(ho:Vg ps k=none):Sp SET 158 [.pointer (some ⟨t,0,none⟩),S k] (L1++(trL t τ++L)) P (fun r L' P'=>r=.tuple ⟨[S [],.int .i64 7]⟩∧L'=L1++(trL t τ++L)∧∀A∈P,A∈P'):=
 Sp.ent (Ent.pull _ _ _) ((Zh4 T (L1++L) P t τ ps gs dp k hr).post (fun v L' P' ⟨h1,h2,h3⟩=>⟨_,_,by rw[h2];exact Ent.push _ _ _,by rw[ho]at h1;exact h1,rfl,h3⟩))
def ckC(t d first ab:Nat)(turn:Int):List Value:=[.pointer (some ⟨t,0,none⟩),.pointer (some ⟨d,0,none⟩),.int .i64 (first:Nat),.pointer (some ⟨ab,0,none⟩),.int .i64 turn]
def Zt9 :List Value:=[.int .i64 0,.int .i64 0,.int .i64 0,.int .i64 0,.int .i64 0,.int .i64 0,.int .i64 0]
theorem Zh8(T:Tg)(L P:List Asn)(c t d first ab:Nat)(turn:Int)(τ:Tr)(ps:List Pr)(gs:List Nat)(dp:Nat)(h:Xt)(hr:Rep T τ ps gs dp)(hf:h.Fit)(h1:1≤h.ino)(h2:h.idx<32)(ho:Vg ps (Z0 h.ino h.idx)=some (Y4 h)):Sp SET 90 [.pointer (some ⟨c,0,none⟩),.int .i64 (h.ino:Nat),.int .i64 (h.idx:Nat)] (Pt c (ckC t d first ab turn) (tz 0 153)::(trL t τ++L)) P (fun r L' P'=>r=.tuple ⟨[.agg ⟨hC h⟩,.int .i64 0]⟩∧L'=Pt c (ckC t d first ab turn) (tz 0 153)::(trL t τ++L)∧∀A∈P,A∈P'):=by
 have f1:=hf.ino;refine .bo (fn:=Tryz.f90) (N:=57) ?_;refine .seq (.region ?_);refine .nw (cs:=[.int .i64 0,.int .i64 0,.int .i64 0,.int .i64 0,.int .i64 0,.int .i64 0,.int .i64 0]) fun b6=>?_;refine .pu .as (.nil (.seq (.seq (.region (.pu .mv (.pu .peq (.nil ?_)))))));refine .no rfl (.skip (.seq (.seq (.region (.pu .mv (.pu .cn (.pu .mv (.on (.pu .mv (.on (.pu .cn (.pu .pk (.pu .mv (.on (.pu .mv (.on (.pu .cn (.pu .pk (.pu .mv (.on (.pu .mv (.on (.pu .cn (.pu .pk (.nil ?_)))))))))))))))))))))))));refine .no rfl (.skip (.seq (.region (.pu .mv (.pu .mv ?_)))));refine .call (Zbm _ _ h.ino h.idx (by omega) (by omega)) ?_;rintro _ L P ⟨rfl,rfl,rfl⟩;refine .pu .as (.nil (.seq (.region (.pu .mv (.pu .nc (.pu .fa (.ld ?_)))))));refine .pu .mv ?_;refine .call (Zt7 T [_,_] _ _ _ _ ps gs dp _ _ hr ho) ?_;rintro _ _ _ ⟨rfl,rfl,hs1⟩;refine .pu .mv (.pu .ex (.pu .ex (.pu .as (.pu .as (.nil (.seq (.seq (.region (.pu .mv (.pu .cmp (.nil ?_)))))))))))
 refine .no rfl (.skip (.seq (.region (.pu .mv (.pu .mv (.pu (.bd (vs:=[_,_])) ?_))))));refine .call (Zt6 _ _ h hf) ?_;rintro _ L P ⟨rfl,rfl,rfl⟩;refine .pu .mv (.pu .ex (.pu .ex ?_));refine .nw (cs:=[.int .i64 0,.int .i64 0,.int .i64 0,.int .i64 0,.int .i64 0,.int .i64 0,.int .i64 0]) fun b11=>?_;refine .st (vs:=[_,_,_,_,_,_,_]) ?_;refine .pu .as (.nil (.seq (.seq (.region (.pu .mv (.pu .nt (.nil ?_)))))));refine .no rfl (.skip (.seq (.region (.lda (vs:=[_,_,_,_,_,_,_]) ?_))));refine .st (vs:=[_,_,_,_,_,_,_]) ?_;refine .pu .as (.nil (.ret ?_));exact⟨_,.cell rfl .l1 rfl (.tmp rfl .nil),_,_,.d2,rfl,rfl,hs1⟩
theorem Zua(T:Tg)(L P:List Asn)(c t d first ab:Nat)(turn:Int)(τ:Tr)(ps:List Pr)(gs:List Nat)(dp:Nat)(ino idx:Nat)(hr:Rep T τ ps gs dp)(h0:1≤ino)(h1:ino<4294967296)(h2:idx<32)(ho:Vg ps (Z0 ino idx)=none):Sp SET 90 [.pointer (some ⟨c,0,none⟩),.int .i64 (ino:Nat),.int .i64 (idx:Nat)] (Pt c (ckC t d first ab turn) (tz 0 153)::(trL t τ++L)) P (fun r L' P'=>r=.tuple ⟨[.agg ⟨Zt9⟩,.int .i64 7]⟩∧L'=Pt c (ckC t d first ab turn) (tz 0 153)::(trL t τ++L)∧∀A∈P,A∈P'):=by
 refine .bo (fn:=Tryz.f90) (N:=57) ?_;refine .seq (.region ?_);refine .nw (cs:=[.int .i64 0,.int .i64 0,.int .i64 0,.int .i64 0,.int .i64 0,.int .i64 0,.int .i64 0]) fun b6=>?_;refine .pu .as (.nil (.seq (.seq (.region (.pu .mv (.pu .peq (.nil ?_)))))));refine .no rfl (.skip (.seq (.seq (.region (.pu .mv (.pu .cn (.pu .mv (.on (.pu .mv (.on (.pu .cn (.pu .pk (.pu .mv (.on (.pu .mv (.on (.pu .cn (.pu .pk (.pu .mv (.on (.pu .mv (.on (.pu .cn (.pu .pk (.nil ?_)))))))))))))))))))))))));refine .no rfl (.skip (.seq (.region (.pu .mv (.pu .mv ?_)))));refine .call (Zbm _ _ ino idx (by omega) (by omega)) ?_;rintro _ L P ⟨rfl,rfl,rfl⟩;refine .pu .as (.nil (.seq (.region (.pu .mv (.pu .nc (.pu .fa (.ld ?_)))))));refine .pu .mv ?_;refine .call (Zt8 T [_,_] _ _ _ _ ps gs dp _ hr ho) ?_;rintro _ _ _ ⟨rfl,rfl,hs1⟩;refine .pu .mv (.pu .ex (.pu .ex (.pu .as (.pu .as (.nil (.seq (.seq (.region (.pu .mv (.pu .cmp (.nil ?_)))))))))))
 refine .yes rfl (.seq (.region (.pu (.bd (vs:=[_,_,_,_,_,_,_])) (.pu .mv (.st (vs:=[_,_,_,_,_,_,_]) ?_)))));refine .pu .as (.nil (.ret ?_));exact⟨_,.cell rfl .l0 rfl (.tmp rfl .nil),_,_,.drop,rfl,rfl,hs1⟩
def Zub(h:Xt):Pr:=(Z0 h.ino h.idx,Y4 h)
theorem Zuc(ino idx:Nat):isKey (Z0 ino idx)=true:=by
 unfold isKey;rw[decide_eq_true (show Z0 ino idx≠[]from fun e=>by cases e),decide_eq_true (show(Z0 ino idx).length≤32 by rw[Nf];omega)];rfl
theorem Zbo(T:Tg)(L P:List Asn)(c t d first ab:Nat)(turn:Int)(τ:Tr)(ps:List Pr)(gs:List Nat)(dp:Nat)(h:Xt)(hr:Rep T τ ps gs dp)(hTd:T.t=true→dp≤2)(hT:Ro 0 Yi∈P)(hf:h.Fit)(hm:6≤T.m):Sp SET 95 [.pointer (some ⟨c,0,none⟩),.agg ⟨hC h⟩] (Pt c (ckC t d first ab turn) (tz 0 153)::(trL t τ++L)) P (fun r L' P'=>∃τ',Rk T τ gs dp (some (Ya ps (Z0 h.ino h.idx) (Y4 h))) 0 P r τ' P'∧L'=Pt c (ckC t d first ab turn) (tz 0 153)::(trL t τ'++L)):=by
 have f1:=hf.ino;have f2:=hf.idx;refine .bo (fn:=Tryz.f95) (N:=18) ?_;refine .seq (.region ?_);refine .bx (cs:=[_,_,_,_,_,_,_]) fun b3=>?_;refine .pu .as (.nil ?_);refine .seq (.drawn (by kernel_rfl) fun base=>?_);refine .pu .mv (.pu .nc (.pu .fa (.lo 0 2 .ld .mk ?_)));refine .pu .fa (.pu .fa (.lo 0 0 .ld .mk ?_));refine .pu .fa (.pu .fa (.lo 0 0 .ld .mk ?_));refine .call (Zbm _ _ h.ino h.idx (by omega) (by omega)) ?_;rintro _ L P ⟨rfl,rfl,rfl⟩;refine .lo 0 1 .ld .mk ?_;refine .call (Zt5 _ _ h hf) ?_;rintro _ L P ⟨rfl,rfl,rfl⟩;refine .call (Sp.tr [_,_] _ (fun L=>Ztu T L _ t τ ps gs dp (Z0 h.ino h.idx) (Y4 h) hr hTd hT (Zuc _ _) (by rw[Zbn];omega) (by rw[Nf];exact hm))) ?_;rintro _ _ _ ⟨τ',hpo,rfl⟩;refine .pu .as (.nil (.cons (.yes .mk (.yes .mk (.skip (.skip .nil)))) (.cons (.yes .mk (.skip (.skip (.skip .nil)))) (.cons (.yes .mk (.skip (.skip (.skip .nil)))) (.cons (.yes .mk (.yes .mk (.yes .mk (.skip .nil)))) .nil)))) (.ret ?_))
 exact⟨_,.tmp rfl .nil,_,_,.drop,τ',hpo,rfl⟩
theorem Zud(L1 L P:List Asn)(t:Nat)(τ:Tr):Sp SET 138 [.pointer (some ⟨t,0,none⟩)] (L1++(trL t τ++L)) P (fun r L' P'=>∃m x,(r=.pointer (some ⟨m,0,none⟩)∧P'=P)∧L'=tmL m t τ x++(L1++(trL t τ++L))):=
 Sp.ent (Ent.pull _ _ _) ((Zhl (L1++L) P t τ).post (fun v L' P' ⟨m,x,h1,h2⟩=>⟨_,_,by rw[h2];exact .perm ((List.perm_append_comm_assoc L1 (trL t τ) L).symm.append_left _),m,x,h1,rfl⟩))
def cmL(m c t:Nat)(τ:Tr)(β:AS0)(turn:Int)(y:Nat×(Nat×Nat)×Nat):List Asn:=Pt m [.pointer (some ⟨c,0,none⟩),.pointer (some ⟨y.1,0,none⟩),.pointer (some ⟨y.2.2,0,none⟩),.int .i64 turn] (tz 0 311)::Alc y.2.2 β::tmL y.1 t τ y.2.1
theorem Zue(c t d first ab:Nat)(turn:Int)(τ:Tr)(β:AS0):Sp SET 160 [.pointer (some ⟨c,0,none⟩)] (Pt c (ckC t d first ab turn) (tz 0 153)::(trL t τ++(Alc ab β::L))) P (fun r L' P'=>∃m y,(r=.pointer (some ⟨m,0,none⟩)∧P'=P)∧L'=cmL m c t τ β turn y++(Pt c (ckC t d first ab turn) (tz 0 153)::(trL t τ++(Alc ab β::L)))):=by
 refine .bo (fn:=Tryz.f160) (N:=21) ?_;refine .seq (.region (.pu .as (.nil (.seq (.seq (.region (.pu .mv (.pu .peq (.nil ?_)))))))));refine .no rfl (.skip ?_);refine .seq (.drawn (by kernel_rfl) fun base=>?_);refine .pu .mv (.pu .mv (.pu .nc (.pu .fa (.lo 0 0 .ld .mk ?_))));refine .call (Zud [_] _ _ _ _) ?_;rintro _ _ _ ⟨m,x,⟨rfl,rfl⟩,rfl⟩;refine .pu .mv (.pu .nc (.pu .fa (.lo 0 1 .ld .mk ?_)));refine .call (Sp.atN [_,_,_,_,_,_,_] _ (fun L=>Ri L _ _ _)) ?_;rintro _ _ _ ⟨a',⟨rfl,rfl⟩,rfl⟩;refine .pu .mv (.pu .nc (.pu .fa (.lo 0 2 .ld .mk ?_)));refine .pu (.bd (vs:=[_,_,_,_])) ?_;refine .bx (cs:=[_,_,_,_]) (hlt:=by show∀x∈([]:Yh),_;simp) fun b21=>?_;refine .pu .as (.nil (.cons (.yes .mk (.yes .mk (.yes .mk .nil))) (.cons (.yes .mk (.yes .mk (.skip .nil))) (.cons (.yes .mk (.skip (.skip .nil))) .nil))) (.ret ?_));exact⟨_,.tmp rfl .nil,_,_,.refl _ _,b21,(m,x,a'),⟨rfl,rfl⟩,rfl⟩
theorem Zuf(C A M A':Asn)(T K L:List Asn):(C::(T++(A::(M::A'::(K++L))))).Perm (T++(K++(C::A::M::A'::L))):=
 (List.perm_middle (l₁:=T) (a:=C)).symm.trans (List.Perm.append_left T (List.perm_append_comm_assoc [C,A,M,A'] K L))
theorem Zug(B C M A:Asn)(T K L:List Asn):(B::(T++(K++(C::M::A::L)))).Perm (C::(T++(B::(M::A::(K++L))))):=
 (List.perm_middle (l₁:=T) (a:=B)).symm.trans ((List.Perm.append_left T (((List.perm_append_comm_assoc K [C,M,A] L).cons B).trans (List.Perm.swap C B _))).trans (List.perm_middle (l₁:=T) (a:=C)))
theorem Zuh(c t d first ab2 m:Nat)(turn:Int)(τ:Tr)(β β2:AS0)(y:Nat×(Nat×Nat)×Nat)(a2:Nat)(w2:List (Int×Bs))(α2:AS0)(root2:Nat)(count2 depth2:Int):Sp SET 161 [.pointer (some ⟨c,0,none⟩),.pointer (some ⟨m,0,none⟩)] (Pt c (ckC t d first ab2 turn) (tz 0 153)::(trL t ⟨τ.s,a2,{τ.σ with w:=w2},α2,root2,count2,depth2⟩++(Alc ab2 β2::(cmL m c t τ β turn y++L)))) P (fun r L' P'=>∃a' b',(r=.int .i64 0∧P'=P)∧L'=Pt c (ckC t d first b' turn) (tz 0 153)::(trL t {τ with a:=a'}++(Alc b' β::(cmL m c t τ β turn y++L)))):=by
 refine .bo (fn:=Tryz.f161) (N:=50) ?_;refine .seq (.region (.pu .as (.nil ?_)));refine .seq (.seq (.quiet (by kernel_rfl) ?_));refine .pu .mv (.pu .peq (.pu .mv (.on (.pu .mv (.on (.pu .peq (.pu .pk (.pu .mv (.on (.pu .mv (.on (.pu .nc (.on (.pu .fa (.on (.ld ?_))))))))))))))));refine .on (.pu .mv (.on (.pu .pdiff (.pu .pk (.pu .mv (.on (.pu .mv (.on (.pu .nc (.on (.pu .fa (.on (.ld ?_)))))))))))));refine .on (.pu .mv (.on (.pu .nc (.on (.pu .fa (.on (.ld ?_)))))));refine .on (.pu (.cmp (q:=false) (hq:=by show some (decide (turn≠turn))=some false;simp)) ?_);refine .pu .pk (.nil ?_);refine .no rfl (.skip ?_);refine .seq (.seq (.drawn (by kernel_rfl) fun base=>?_));refine .pu .mv (.pu .nc (.pu .fa (.lo 0 0 .ld .mk ?_)));refine .pu .mv (.pu .nc (.pu .fa (.lo 0 0 .ld .mk ?_)));refine .call (Sp.ent (Ent.perm (Zuf _ _ _ _ (trL t ⟨τ.s,a2,{τ.σ with w:=w2},α2,root2,count2,depth2⟩) (tmL y.1 t τ y.2.1) _)) (Zhm _ _ t y.1 τ y.2.1 a2 w2 α2 root2 count2 depth2)) ?_;rintro _ _ _ ⟨a',⟨rfl,rfl⟩,rfl⟩
 refine .pu .as (.nil (.cons (.yes .mk (.skip .nil)) (.cons (.yes .mk (.skip .nil)) .nil)) (.seq (.region (.pu .mv (.pu .cmp (.nil ?_))))));refine .no rfl (.skip (.seq (.region (.pu .mv (.pu .mv (.pu .nc (.pu .fa (.ld ?_))))))));refine .call (Sp.atN [_,_,_,_,_,_,_,_,_] _ (fun L=>Ri L _ _ _)) ?_;rintro _ _ _ ⟨b',⟨rfl,rfl⟩,rfl⟩;refine .pu .nc (.pu .fa (.st (vs:=[_]) ?_));refine .nil (.seq (.region (.pu .as (.nil (.ret ?_)))));exact⟨_,.tmp rfl .nil,_,_,(Ent.trans (Ent.dropAt [_,_,_,_,_,_,_,_] _ _) (.perm (Zug _ _ _ _ (trL t {τ with a:=a'}) (tmL y.1 t τ y.2.1) _))),a',b',⟨rfl,rfl⟩,rfl⟩
structure Dv where
 n:Nat
 ws:List (Nat×Bs)
structure DvX where
 sv:Value
 wv:Value
 ss:List (List Value)
 vs:List Value
 left:Int
structure DvX.Ok(δ:Dv)(x:DvX):Prop where
 vl:x.vs.length=δ.ws.length
 sl:x.ss.length=δ.n
 sh:∀s∈x.ss,∃a k c t,s=[.slice a k c,.bool t]
 wl:∀w∈δ.ws,w.2.length≤1000000∧w.2≠[]
 wn:δ.ws.length≤1000000
def wE(y:Value×(Nat×Bs)):List Value:=[.int .i64 (y.2.1:Nat),y.1]
def dvR(δ:Dv)(x:DvX):List Asn:=(x.vs.zip δ.ws).map fun y=>OwF 5 1 y.1 (byL y.2.2)
def dvL(d:Nat)(δ:Dv)(x:DvX):List Asn:=Pt d [x.sv,x.wv,.bool false,.bool false,.int .i64 x.left] (tz 0 191)::Ow 2 x.sv x.ss::Ow 2 x.wv ((x.vs.zip δ.ws).map wE)::dvR δ x
def Dev(d:Nat)(δ:Dv):Asn:=Bx (DvX.Ok δ) (dvL d δ)
theorem Zj.app{k:Nat}{v:Value}{es:List (List Value)}{L P:List Asn}(h:Zj k v es L P):∀L1:List Asn,Zj k v es (L1++L) P
 |[]=>h
 |_::L1=>(Zj.app h L1).bel
theorem Zui(bs:Bs):∀f∈byL bs,Go.Ax.ones f=true:=Zcq bs
theorem Zuj(d:Nat)(δ:Dv)(x:DvX)(hx:x.Ok δ)(k:Nat)(hk:k<δ.n):Sp SET 165 [.pointer (some ⟨d,0,none⟩),.int .i64 (k:Nat)] (dvL d δ x++L) P (fun r L' P'=>r=.bool true∧L'=dvL d δ x++L∧P'=P):=by
 have h1:=hx.sl;refine .bo (fn:=Tryz.f165) (N:=19) ?_;refine .seq (.region (.pu .as (.nil (.seq (.region (.pu .mv (.pu .pne (.pu .mv (.on (.pu .mv (.on (.pu .cy (.pu .pk (.pu .mv (.on (.pu .mv (.on (.pu .mv (.on (.pu .nc (.on (.pu .fa (.on (.ld ?_))))))))))))))))))))))));refine .on (.lk .ln ?_);refine .on (.pu .cy (.pu .pk (.pu .as (.nil (.ret ?_)))));exact⟨_,.tmp rfl .nil,_,_,.refl _ _,rfl,rfl,rfl⟩
theorem Zuk(d:Nat)(δ:Dv)(x:DvX):Sp SET 174 [.pointer (some ⟨d,0,none⟩)] (dvL d δ x++L) P (fun r L' P'=>r=.bool true∧L'=dvL d δ x++L∧P'=P):=by
 refine .bo (fn:=Tryz.f174) (N:=31) ?_;refine .seq (.region (.pu .as (.nil (.seq (.seq (.region (.pu .mv (.pu .nc (.pu .fa (.ld ?_))))))))));refine .pu .mv (.off (.off (.off (.off (.off (.pu .pk (.nil ?_)))))));refine .no rfl (.skip (.seq (.seq (.region (.pu .mv (.pu .nc (.pu .fa (.ld ?_))))))));refine .nil ?_;refine .no rfl (.skip (.seq (.seq (.region (.pu .mv (.pu .nc (.pu .fa (.ld ?_))))))));refine .nil ?_;refine .no rfl (.skip (.seq (.region (.pu .as (.nil (.ret ?_))))));exact⟨_,.tmp rfl .nil,_,_,.refl _ _,rfl,rfl,rfl⟩
theorem Zul(a:Addr)(c:Nat)(es:List (List Value))(hv:Zj 1 (.slice (some a) es.length c) es L P)(hl:es.length≤1000000)(ho:∀f∈es,ones f=true):Sp SET 167 [.slice (some a) es.length c] L P (fun r L' P'=>L'=OwF 5 1 r es::L∧P'=P):=by
 refine .bo (fn:=Tryz.f167) (N:=7) ?_;refine .seq (.region (.pu .as (.nil (.seq (.seq (.region (.pu .mv (.pu .peq (.nil ?_)))))))));refine .no rfl (.skip (.seq (.region ?_)));refine .bl0 (e:=5) (k:=1) fun b5=>?_;refine .pu .mv ?_;refine .apf (.sl hv.bel) (fun v7=>?_) (hn:=by rw[List.length_nil];show(0+es.length)*1≤_;omega) (ho:=ho);refine .pu .as (.nil (.ret ?_));exact⟨_,.tmp rfl .nil,_,_,.refl _ _,rfl,rfl⟩
theorem Zum(v:Value)(es:List (List Value))(hv:Zj 1 v es L P)(hne:es≠[])(hl:es.length≤1000000)(ho:∀f∈es,ones f=true):Sp SET 167 [v] L P (fun r L' P'=>L'=OwF 5 1 r es::L∧P'=P):=
 Sp.fact (Fs hv) (fun h=>by
  rcases h with⟨rfl,c,rfl⟩|⟨a,c,rfl⟩
  ·exact absurd rfl hne
  ·exact Zul L P a c es hv hl ho)
def Dv.push(δ:Dv)(k:Nat)(bs:Bs):Dv:= {δ with ws:=δ.ws++[(k,bs)]}
theorem Zun{L P:List Asn}{d:Nat}{δ:Dv}{x:DvX}(hx:x.Ok δ){k:Nat}{bs:Bs}(hb:bs.length≤1000000∧bs≠[])(hn:δ.ws.length<1000000){v v2 v3:Value}{es:List (List Value)}:
  Ent (Ow 2 v ((x.vs.zip δ.ws).map wE++[[.int .i64 (k:Nat),v2]])::Ow 2 v3 es::OwF 5 1 v2 (byL bs)::Pt d [x.sv,v,.bool false,.bool false,.int .i64 x.left] (tz 0 191)::Ow 2 x.sv x.ss::(dvR δ x++L)) P (Dev d (δ.push k bs)::L) P:=by
 have hz:(x.vs++[v2]).zip (δ.ws++[(k,bs)])=x.vs.zip δ.ws++[(v2,(k,bs))]:=List.zip_append hx.vl;have e:dvL d (δ.push k bs) {x with wv:=v,vs:=x.vs++[v2]}++L=Pt d [x.sv,v,.bool false,.bool false,.int .i64 x.left] (tz 0 191)::Ow 2 x.sv x.ss::Ow 2 v ((x.vs.zip δ.ws).map wE++[[.int .i64 (k:Nat),v2]])::(dvR δ x++(OwF 5 1 v2 (byL bs)::L)):=by
  unfold dvL dvR Dv.push;simp only[hz,List.map_append,List.map_cons,List.map_nil,List.cons_append,List.append_assoc,List.nil_append];rfl
 refine(Ent.dropAt [_] _ _).trans (Ent.trans (.perm ?_) (e▸Ent.close (c:=DvX.Ok (δ.push k bs)) (A:=dvL d (δ.push k bs)) {x with wv:=v,vs:=x.vs++[v2]} ⟨?_,hx.sl,hx.sh,?_,?_⟩))
 ·show(Ow 2 v _::OwF _ 1 v2 (byL bs)::Pt d _ _::Ow 2 x.sv x.ss::(dvR δ x++L)).Perm _;refine(List.Perm.swap _ _ _).trans ?_;refine((List.perm_append_comm_assoc [_] [Ow 2 v _,Pt d _ _,Ow 2 x.sv x.ss] (dvR δ x++L))).trans ?_;refine(List.Perm.swap (Pt d _ _) (Ow 2 v _) _).trans (.cons _ ?_);refine(List.Perm.swap (Ow 2 x.sv x.ss) (Ow 2 v _) _).trans (.cons _ (.cons _ ?_));show(OwF _ 1 v2 (byL bs)::(dvR δ x++L)).Perm _;exact List.perm_middle.symm
 ·show(x.vs++[v2]).length=(δ.ws++[(k,bs)]).length;rw[List.length_append,List.length_append,hx.vl];rfl
 ·intro w hw;rcases List.mem_append.1 hw with hw|hw
  ·exact hx.wl w hw
  ·rcases List.mem_singleton.1 hw with rfl
   exact hb
 ·show(δ.ws++[(k,bs)]).length≤_;rw[List.length_append];exact hn
theorem Zuo(d:Nat)(δ:Dv)(x:DvX)(hx:x.Ok δ)(k:Nat)(hk:k<δ.n)(v:Value)(bs:Bs)(hv:Zj 1 v (byL bs) L P)(hb:bs.length=256)(hn:δ.ws.length<1000000):Sp SET 162 [.pointer (some ⟨d,0,none⟩),.int .i64 (k:Nat),v] (dvL d δ x++L) P (fun r L' P'=>r=.int .i64 0∧L'=Dev d (δ.push k bs)::L∧P'=P):=by
 have hv1:=Zj.app hv (dvL d δ x);have hl:(byL bs).length=256:=by unfold byL;rw[List.length_map,hb]
 have hne:byL bs≠[]:=fun e=>by rw[e]at hl;cases hl
 have hzl:((x.vs.zip δ.ws).map wE).length=δ.ws.length:=by rw[List.length_map,List.length_zip,hx.vl,Nat.min_self]
 refine .bo (fn:=Tryz.f162) (N:=33) ?_;refine .seq (.region (.pu .as (.nil (.seq (.block (.seq (.region (.pu .mv (.pu .mv ?_)))))))));refine .call (Zuj _ _ _ _ _ hx k hk) ?_;rintro _ L P ⟨rfl,rfl,rfl⟩;refine .pu .nt (.pu .mv (.on (.pu .mv (.on (.lk .ln ?_)))));refine .on (.pu .cn (.pu .pk (.pu .as (.nil ?_))));refine .no rfl (.seq (.region (.pu .mv ?_)));refine .call (Zuk _ _ _ _ _) ?_;rintro _ L P ⟨rfl,rfl,rfl⟩;refine .pu .nt (.pu .as (.nil ?_));refine .no rfl (.skip ?_);refine .seq (.drawn (by kernel_rfl) fun base=>?_);refine .pu .mv (.pu .mv (.pu .nc (.pu .fa (.lo 0 1 .ld .mk ?_))));refine .pu .mv (.pu .mv ?_);refine .call (Zum _ _ _ (byL bs) hv1 hne (by omega) (Zui bs)) ?_;rintro _ _ P ⟨rfl,rfl⟩;refine .fact (Zg (.f (fun _ _=>OwF.sl) .l0)) fun⟨a28,c28,e28⟩=>?_;subst e28;refine .pu (.bd (vs:=[_,_])) ?_;refine .bl (k:=2) (es:=[[_,_]]) (hlt:=by show∀x∈([]:Yh),_;simp) fun v30=>?_
 refine .ap (fun v31=>?_) (hr:=.s (.s (.s (.s .z)))) (hw:=.o .l0) (hn:=by rw[hzl];show(_+1)*32≤_;omega) (ho:=fun f hf=>by rcases List.mem_singleton.1 hf with rfl;rfl)
 refine .fact (Yo .l0) fun⟨a31,c31,e31⟩=>?_;subst e31;refine .pu .nc (.pu .fa (.st (vs:=[_]) ?_));refine .nil (.cons (.yes .mk (.yes .mk (.skip (.skip .nil)))) .nil) (.seq (.region (.pu .as (.nil (.ret ?_)))));exact⟨_,.tmp rfl .nil,_,_,(Zun hx ⟨by omega,fun e=>by rw[e]at hb;cases hb⟩ hn),rfl,rfl,rfl⟩
def Ng(ws:List (Nat×Bs))(k:Nat):Option Bs:=ws.foldl (fun o w=>if w.1=k then some w.2 else o) none
theorem Zup(ws:List (Nat×Bs))(k j:Nat)(b:Bs):Ng (ws++[(k,b)]) j=if k=j then some b else Ng ws j:=by
 unfold Ng;rw[List.foldl_append];rfl
def Nh(b:Bs):Nat:=V2 4294967295 b^^^4294967295
theorem Zh9 :∀(b:Bs) (x:Nat),kcL (byL b).flatten x=some (V2 x b)
 |[],x=>rfl
 |c::b,x=>by
  have h:kcL (byL (c::b)).flatten x=bif Nat.blt c.toNat 256 then Yd (kc8 (Nat.xor x c.toNat)) (kcL (byL b).flatten)else none:=rfl
  have hc:Nat.blt c.toNat 256=true:=V7.2 (UInt8.toNat_lt c);rw[h,hc,cond_true,Go.Lx.natK_eq,Zey,Zh9 b];rfl
theorem Zbp(v:Value)(b:Bs)(hv:Zj 1 v (byL b) L P)(hb:b≠[])(hl:b.length≤1000000):Sp SET 96 [v] L P (fun r L' P'=>r=.int .i64 (Nh b:Nat)∧L'=L∧P'=P):=by
 refine Sp.prim (p:=Dy) (by rfl) (fun S s hs=>?_);have hne:byL b≠[]:=fun e=>hb (by
  have:=congrArg List.length e;rw[X6]at this;exact List.length_eq_zero_iff.1 this)
 obtain⟨q,o,g1,g2⟩:=Rv (hv.holds hs) hne;rw[X6,Nat.mul_one]at g2;refine⟨_,s,S,L,P,?_,.refl _ _,hs,rfl,rfl,rfl⟩;rw[g1];show(bif Nat.ble (byL b).length 1000000 then(match rdN s q o (byL b).length with
  |none=>none
  |some l=>match kcL l 4294967295 with
   |none=>none
   |some r=>Yd (Nat.xor r 4294967295) fun r=>some (Value.int .i64 (.ofNat r),s))else none)=_
 have c1:Nat.ble (byL b).length 1000000=true:=Nat.ble_eq_true_of_le (by rw[X6];exact hl);rw[c1,cond_true,X6,g2];simp only;rw[Zh9];simp only;rw[Go.Lx.natK_eq];rfl
theorem Zia(s:Bs):Yu s<256^s.length:=by
 induction s with
 |nil=>decide
 |cons c s ih=>
  show s.foldl _ (0*256+c.toNat)<_;rw[B9 0,List.length_cons,Nat.pow_succ];have:=UInt8.toNat_lt c;have h2:(0*256+c.toNat)*256^s.length≤255*256^s.length:=Nat.mul_le_mul_right _ (by omega);omega
theorem Zib(a b:Bs):Yu (a++b)=Yu a*256^b.length+Yu b:=by
 show(a++b).foldl _ 0=_;rw[List.foldl_append,B9 0];rfl
theorem Zic :∀ {a b:Bs},a.length=b.length→Zd a b=decide (Yu a<Yu b)
 |[],[],_=>by simp[Op.bytesLess,Yu]
 |[],_::_,h=>by cases h
 |_::_,[],h=>by cases h
 |x::a,y::b,h=>by
  have hl:a.length=b.length:=by simpa using h
  have e1:Yu (x::a)=x.toNat* 256^b.length+Yu a:=by
   show a.foldl _ (0*256+x.toNat)=_;rw[B9 0,hl,Nat.zero_mul,Nat.zero_add]
  have e2:Yu (y::b)=y.toNat* 256^b.length+Yu b:=by
   show b.foldl _ (0*256+y.toNat)=_;rw[B9 0,Nat.zero_mul,Nat.zero_add]
  have la:=Zia a;have lb:=Zia b;rw[hl]at la;have ih:=Zic hl;show(decide (x<y)||(x==y&&Op.bytesLess a b))=_;rw[show Op.bytesLess a b=Zd a b from rfl,ih,e1,e2];generalize 256^b.length=M at la lb;rcases Nat.lt_trichotomy x.toNat y.toNat with h1|h1|h1
  ·have hxy:x<y:=h1;rw[decide_eq_true hxy,Bool.true_or];symm;refine decide_eq_true ?_;have:(x.toNat+1)*M≤y.toNat* M:=Nat.mul_le_mul_right _ h1;rw[Nat.add_mul]at this;omega
  ·have hxy:x=y:=UInt8.toNat_inj.1 h1;subst hxy;rw[decide_eq_false (show¬x<x from Nat.lt_irrefl _),Bool.false_or,beq_self_eq_true,Bool.true_and];exact decide_eq_decide.2 (by omega)
  ·have hxy:¬x<y:=Nat.not_lt.2 (Nat.le_of_lt h1);have hne:(x==y)=false:=by
    rw[beq_eq_false_iff_ne];intro e;subst e;omega
   rw[decide_eq_false hxy,hne,Bool.false_or,Bool.false_and];symm;refine decide_eq_false ?_;have:(y.toNat+1)*M≤x.toNat* M:=Nat.mul_le_mul_right _ h1;rw[Nat.add_mul]at this;omega
theorem Zid{ino idx:Nat}(h1:ino<4294967296)(h2:idx<256):Yu (Z0 ino idx)=120*256^5+(ino*256+idx):=by
 have e:Z0 ino idx=[120]++(Zi ino 4++Zi idx 1):=rfl;rw[e,Zib,Zib,Kf (n:=ino) (i:=4) (by omega),Kf (n:=idx) (i:=1) (by omega),List.length_append,Yk,Yk];rfl
theorem Zie{i x j y:Nat}(h1:i<4294967296)(h2:x<256)(h3:j<4294967296)(h4:y<256):Zd (Z0 i x) (Z0 j y)=decide (i<j∨i=j∧x<y):=by
 rw[Zic (by rw[Nf,Nf]),Zid h1 h2,Zid h3 h4];exact decide_eq_decide.2 (by omega)
structure Chn where
 ino:Nat
 idx:Nat
 st:Nat
 ep:Nat
 num:Nat
 by':Bs
 blk:Nat
def Chn.held(p:Chn):Xt:=⟨p.ino,p.idx,p.st,p.ep,p.num,Nh p.by',p.blk⟩
def Zu(p:Chn):Pr:=Zub p.held
structure Chn.Fit(p:Chn):Prop where
 i0:1≤p.ino
 i1:p.ino<4294967296
 x1:p.idx<32
 st:1≤p.st∧p.st≤3
 ep:p.ep<4294967296
 num:p.num<4294967296
 blk:p.blk<65536
 by':p.by'.length=256
theorem crc1_lt{x:Nat}(h:x<4294967296):V1 x<4294967296:=by
 unfold V1;split
 ·exact Nat.xor_lt_two_pow (n:=32) (by omega) (by decide)
 ·omega
theorem crcN_lt{x:Nat}(h:x<4294967296):∀j,Uh j x<4294967296
 |0=>h
 |j+1=>crc1_lt (crcN_lt h j)
theorem Zif :∀(b:Bs) (x:Nat),x<4294967296→V2 x b<4294967296
 |[],_,h=>h
 |c::b,x,h=>Zif b _ (crcN_lt (Nat.xor_lt_two_pow (n:=32) h (by have:=UInt8.toNat_lt c;omega)) 8)
theorem Zuq(b:Bs):Nh b<4294967296:=Nat.xor_lt_two_pow (n:=32) (Zif b _ (by decide)) (by decide)
theorem Chn.Fit.held{p:Chn}(h:p.Fit):p.held.Fit:=⟨h.i1,by have:=h.x1;show p.idx<256;omega,h.st,h.ep,h.num,Zuq _,h.blk⟩
def ltK(a:Nat×Nat)(b:Nat×Nat):Prop:=a.1<b.1∨a.1=b.1∧a.2<b.2
instance (a b:Nat×Nat):Decidable (ltK a b):=by unfold ltK;infer_instance
def Chn.at(p:Chn):Nat×Nat:=(p.ino,p.idx)
def Ni(l:List Chn):Prop:=l.Pairwise (fun a b=>ltK a.at b.at)
theorem Zur{l:List Chn}(h:Ni l)(k:Nat×Nat):∃A B C,l=A++B++C∧(∀a∈A,ltK a.at k)∧(∀c∈C,ltK k c.at)∧(B=[]∨∃q,B=[q]∧q.at=k):=by
 induction l with
 |nil=>exact⟨[],[],[],rfl,by simp,by simp,.inl rfl⟩
 |cons p l ih=>
  obtain⟨h1,h2⟩:=List.pairwise_cons.1 h;by_cases hlt:ltK p.at k
  ·obtain⟨A,B,C,rfl,hA,hC,hB⟩:=ih h2;refine⟨p::A,B,C,rfl,fun a ha=>?_,hC,hB⟩;rcases List.mem_cons.1 ha with rfl|ha
   ·exact hlt
   ·exact hA a ha
  ·by_cases he:p.at=k
   ·exact⟨[],[p],l,rfl,by simp,fun c hc=>he▸h1 c hc,.inr ⟨p,rfl,he⟩⟩
   ·refine⟨[],[],p::l,rfl,by simp,fun c hc=>?_,.inl rfl⟩;have hk:ltK k p.at:=by
     unfold ltK at hlt ⊢;have:¬(p.at.1=k.1∧p.at.2=k.2):=fun e=>he (Prod.ext e.1 e.2);omega
    rcases List.mem_cons.1 hc with rfl|hc
    ·exact hk
    ·have:=h1 c hc;unfold ltK at hk this ⊢;omega
theorem Zig{p:Chn}(h:p.Fit){ino idx:Nat}(h1:ino<4294967296)(h2:idx<32):Zd (Zu p).1 (Z0 ino idx)=decide (ltK p.at (ino,idx))∧Zd (Z0 ino idx) (Zu p).1=decide (ltK (ino,idx) p.at):=
 ⟨Zie h.i1 (show p.idx<256 by have:=h.x1;omega) h1 (by omega),Zie h1 (by omega) h.i1 (show p.idx<256 by have:=h.x1;omega)⟩
theorem Rl{A B C:List Chn}(hf:∀p∈A++B++C,p.Fit){ino idx:Nat}(h1:ino<4294967296)(h2:idx<32)(hA:∀a∈A,ltK a.at (ino,idx))(hC:∀c∈C,ltK (ino,idx) c.at):
  (∀q∈A.map Zu,Zd q.1 (Z0 ino idx)=true)∧(∀q∈C.map Zu,Zd (Z0 ino idx) q.1=true)∧(B=[]→Vg ((A++B++C).map Zu) (Z0 ino idx)=none)∧(∀q,B=[q]→q.at=(ino,idx)→Vg ((A++B++C).map Zu) (Z0 ino idx)=some (Y4 q.held)):=by
 have gA:∀q∈A.map Zu,Zd q.1 (Z0 ino idx)=true:=fun q hq=>by
  obtain⟨p,hp,rfl⟩:=List.mem_map.1 hq;rw[(Zig (hf p (by simp[hp])) h1 h2).1];exact decide_eq_true (hA p hp)
 have gC:∀q∈C.map Zu,Zd (Z0 ino idx) q.1=true:=fun q hq=>by
  obtain⟨p,hp,rfl⟩:=List.mem_map.1 hq;rw[(Zig (hf p (by simp[hp])) h1 h2).2];exact decide_eq_true (hC p hp)
 have hlb:=Zbh (k:=Z0 ino idx) (B:=B.map Zu) gA gC;refine⟨gA,gC,fun hB=>?_,fun q hB hq=>?_⟩
 ·subst hB;have e0:(A++[]++C).map Zu=A.map Zu++[].map Zu++C.map Zu:=by rw[List.map_append,List.map_append]
  unfold Vg;rw[e0,hlb];have e1:lb (([].map Zu).map (·.1)) (Z0 ino idx)=0:=rfl;rw[e1,Nat.add_zero,List.map_nil,List.append_nil,List.drop_left];rcases C with _|⟨c,C⟩
  ·rfl
  ·have:=gC (Zu c) (by simp);show(if(Zu c).1=Z0 ino idx then some _ else none)=none;rw[if_neg];intro e;rw[e,Kb]at this;cases this
 ·subst hB;have hqk:(Zu q).1=Z0 ino idx:=by
   show Z0 q.ino q.idx=_;have e1:q.ino=ino:=congrArg Prod.fst hq;have e2:q.idx=idx:=congrArg Prod.snd hq;rw[e1,e2]
  have hb0:lb (([q].map Zu).map (·.1)) (Z0 ino idx)=0:=by
   show lb [(Zu q).1] _=0;rw[hqk];unfold lb;rw[List.takeWhile_cons_of_neg (by rw[Kb];simp)];rfl
  have e0:(A++[q]++C).map Zu=A.map Zu++[q].map Zu++C.map Zu:=by rw[List.map_append,List.map_append]
  unfold Vg;rw[e0,hlb,hb0,Nat.add_zero,List.append_assoc,List.drop_left];show(if(Zu q).1=Z0 ino idx then some _ else none)=_;rw[if_pos hqk];rfl
theorem Zbq{A B C:List Chn}(hf:∀p∈A++B++C,p.Fit){p:Chn}(hp:p.Fit)(hA:∀a∈A,ltK a.at p.at)(hC:∀c∈C,ltK p.at c.at)(hB:B=[]∨∃q,B=[q]∧q.at=p.at):Ya ((A++B++C).map Zu) (Z0 p.ino p.idx) (Y4 p.held)=(A++[p]++C).map Zu:=by
 obtain⟨gA,gC,_,_⟩:=Rl (B:=B) hf hp.i1 hp.x1 hA hC;rw[List.map_append,List.map_append,Zhp gA gC,List.map_append,List.map_append];congr 2;rcases hB with rfl|⟨q,rfl,hq⟩
 ·rfl
 ·have hqk:(Zu q).1=Z0 p.ino p.idx:=by
   show Z0 q.ino q.idx=_;have e1:q.ino=p.ino:=congrArg Prod.fst hq;have e2:q.idx=p.idx:=congrArg Prod.snd hq;rw[e1,e2]
  have hb0:lb ([(Zu q)].map (·.1)) (Z0 p.ino p.idx)=0:=by
   show lb [(Zu q).1] _=0;rw[hqk];unfold lb;rw[List.takeWhile_cons_of_neg (by rw[Kb];simp)];rfl
  show Ya [Zu q] _ _=[Zu p];unfold Ya;rw[hb0];show(bif decide ((some (Zu q).1)=some (Z0 p.ino p.idx))then [(Z0 p.ino p.idx,Y4 p.held)]else _)=_;rw[hqk,decide_eq_true rfl];rfl
theorem Zus{A B C:List Chn}(h:Ni (A++B++C)){p:Chn}(hA:∀a∈A,ltK a.at p.at)(hC:∀c∈C,ltK p.at c.at):Ni (A++[p]++C)∧Ni (A++C):=by
 obtain⟨h1,h2,h3⟩:=List.pairwise_append.1 h;obtain⟨h4,h5,h6⟩:=List.pairwise_append.1 h1;have hAC:∀a∈A,∀c∈C,ltK a.at c.at:=fun a ha c hc=>h3 a (by simp[ha]) c hc;refine⟨List.pairwise_append.2 ⟨List.pairwise_append.2 ⟨h4,List.pairwise_singleton _ _,fun a ha b hb=>?_⟩,h2,fun a ha c hc=>?_⟩,List.pairwise_append.2 ⟨h4,h2,hAC⟩⟩
 ·rcases List.mem_singleton.1 hb with rfl
  exact hA a ha
 ·rcases List.mem_append.1 ha with ha|ha
  ·exact hAC a ha c hc
  ·rcases List.mem_singleton.1 ha with rfl
   exact hC c hc
def ub(l:List Chn):List Nat:=(l.filter (fun p=>decide (p.st≠3))).map (·.blk)
theorem Rm(a b:List Chn):ub (a++b)=ub a++ub b:=by unfold ub;rw[List.filter_append,List.map_append]
theorem Zbr{p:Chn}(h:p.st≠3):ub [p]=[p.blk]:=by unfold ub;rw[List.filter_cons_of_pos (by simpa using h)];rfl
theorem Zut{p:Chn}(h:p.st=3):ub [p]=[]:=by unfold ub;rw[List.filter_cons_of_neg (by simpa using h)];rfl
theorem Zuu{l:List Chn}{p:Chn}(h:p∈l)(h3:p.st≠3):p.blk∈ub l:=List.mem_map.2 ⟨p,List.mem_filter.2 ⟨h,by simpa using h3⟩,rfl⟩
structure Y5(β:AS0)(bs:List Nat)(g:Nat):Prop where
 ok:β.Ok
 bk:β.back=0
 us:∀j,mem β.us j=true↔j∈bs
 nd:bs.Nodup
 gv:Yc β.ls=g
theorem Y5.perm{β:AS0}{bs cs:List Nat}{g:Nat}(h:Y5 β bs g)(hp:bs.Perm cs):Y5 β cs g:=⟨h.ok,h.bk,fun j=>by rw[h.us j,hp.mem_iff],hp.nodup_iff.1 h.nd,h.gv⟩
theorem Y5.cnt{β:AS0}{bs:List Nat}{g:Nat}(h:Y5 β bs g):Yc β.us=bs.length:=by
 rw[Ua];have hul:=h.ok.ul;exact B8 bs (mem β.us) _ h.nd h.us (fun j hj=>by
  have:=h.ok.uo j ((h.us j).2 hj);omega)
theorem Y5.free{β:AS0}{bs:List Nat}{g:Nat}(h:Y5 β bs g):β.free=(β.n:Int)-bs.length-g:=by
 unfold AS0.free;rw[h.cnt,h.gv,h.bk];omega
theorem Y5.take{β:AS0}{bs:List Nat}{g b:Nat}(h:Y5 β bs g)(hb:mem β.us b=false)(hn:b<β.n)(ho:({β with us:=Zl β.us b}:AS0).Ok):Y5 {β with us:=Zl β.us b} (b::bs) g:=by
 have hul:=h.ok.ul;refine⟨ho,h.bk,fun j=>?_,List.nodup_cons.2 ⟨fun e=>?_,h.nd⟩,h.gv⟩
 ·show mem (Zl β.us b) j=true↔_;rw[Mi β.us b (by omega),Bool.or_eq_true,h.us j,decide_eq_true_eq,List.mem_cons];exact Or.comm
 ·rw[(h.us b).2 e]at hb;cases hb
theorem Y5.give{β:AS0}{b:Nat}{bs:List Nat}{g:Nat}(h:Y5 β (b::bs) g):mem β.us b=true∧Y5 (β.give b) bs (g+1):=by
 have hm:=(h.us b).2 (List.mem_cons_self ..);have hul:=h.ok.ul;have hlt:=h.ok.uo b hm;have hnd:=List.nodup_cons.1 h.nd;have hok:(β.give b).Ok:=h.ok.drop hm;have hus:∀j,mem (β.give b).us j=true↔j∈bs:=fun j=>by
  show mem (Xm β.us b) j=true↔_;rw[R6 β.us b (by omega),Bool.and_eq_true,h.us j,List.mem_cons];constructor
  ·rintro⟨h1,h2⟩;rcases h1 with h1|h1
   ·subst h1;simp at h2
   ·exact h1
  ·intro h1;refine⟨.inr h1,?_⟩;have:j≠b:=fun e=>hnd.1 (e▸h1);simpa using this
 refine⟨hm,hok,h.bk,hus,hnd.2,?_⟩;have hf:=AS0.free_give h.ok hm;have hfr:=h.free;have hc:Yc (β.give b).us=bs.length:=by
  rw[Ua];have hul:=hok.ul;exact B8 bs (mem (β.give b).us) _ hnd.2 hus (fun j hj=>by
   have:=hok.uo j ((hus j).2 hj);omega)
 unfold AS0.free at hf hfr;rw[hc]at hf;have hb1:(β.give b).back=0:=h.bk;have hb2:=h.bk;have hn:(β.give b).n=β.n:=rfl;have h1:=h.cnt;have h2:=h.gv;rw[List.length_cons]at h1;rw[hn,hb1]at hf;rw[h1,h2,hb2]at hf;omega
theorem Y5.settle{β:AS0}{bs:List Nat}{g:Nat}(h:Y5 β bs g):Y5 β.settle bs 0:=by
 refine⟨h.ok.settle,h.bk,h.us,h.nd,?_⟩;show Yc (List.replicate β.ls.length 0)=0;rw[Ua];have:=R5 (f:=mem (List.replicate β.ls.length 0)) 0 (64*(List.replicate β.ls.length 0).length) (fun j _=>By ..);rw[Nat.zero_add]at this;rw[this];rfl
theorem Zbs :∀l:List Chn,weight (l.map Zu)=23*l.length
 |[]=>rfl
 |p::l=>by
  have h:=Zbs l;have e:weight ((p::l).map Zu)=2+(Zu p).1.length+(Zu p).2.length+weight (l.map Zu):=by unfold weight;simp
  have e1:(Zu p).1.length=6:=Nf ..;have e2:(Zu p).2.length=15:=Zbn ..;rw[e,h,e1,e2,List.length_cons];omega
theorem Rep.pages{T:Tg}{τ:Tr}{ps:List Pr}{gs:List Nat}{dp:Nat}(h:Rep T τ ps gs dp)(hT:T.t=true)(hd:dp≤2):159*((gs.length-1)/2)≤weight ps:=by
 rcases h.bel.cases with⟨_,e1,e2,e3⟩|⟨h',h1,h2,hs⟩
 ·subst e1 e2;exact Nat.zero_le _
 ·obtain rfl|rfl:h'=0∨h'=1:=by omega
  ·cases hs;simp
  ·cases hs with
   | @inner _ _ ks hp ok hk sp ht km=>
    have hw:=(ht hT rfl).weight;rw[List.length_cons,Zbd hk];exact hw
def TC :Tg:=⟨true,6⟩
theorem Zuv{τ:Tr}{l:List Chn}{gs:List Nat}{dp:Nat}(h:Rep TC τ (l.map Zu) gs dp)(hd:dp≤2)(hl:l.length≤60)(hn:τ.α.n=64)(hb:τ.α.back=0):¬τ.α.free<((2*dp+3:Nat):Int):=by
 have h1:=h.pages rfl hd;rw[Zbs]at h1;have h2:=h.free;rw[hn,hb]at h2;omega
theorem Zuw{dp dp':Nat}{l:List Chn}{gs':List Nat}(h:Rj TC dp dp' (l.map Zu) gs')(hd:dp≤2)(hl:l.length≤60):dp'≤2:=by
 rcases h with h|⟨h,hw⟩
 ·omega
 ·rcases Nat.lt_or_ge dp 2 with h2|h2
  ·omega
  ·exfalso;obtain⟨n,hwd,_⟩:=hw 1 (by omega);obtain⟨k,h3,h4,_⟩:=hwd.2 rfl rfl;have h3:160<4+9*(k-1):=h3;rw[Zbs]at h4;omega
structure Ck where
 t:Nat
 d:Nat
 first:Nat
 turn:Int
 τ:Tr
 β:AS0
 δ:Dv
def Ck.tr(κ:Ck)(a:Nat):Tr:= {κ.τ with a:=a}
def ckL(c:Nat)(κ:Ck)(y:Nat×Nat):List Asn:=Pt c (ckC κ.t κ.d κ.first y.1 κ.turn) (tz 0 153)::(trL κ.t (κ.tr y.2)++(Alc y.1 κ.β::[Dev κ.d κ.δ]))
def CkS(c:Nat)(κ:Ck):Asn:=Bx (fun _=>True) (ckL c κ)
theorem Nj{L P:List Asn}{c:Nat}{κ:Ck}(y:Nat×Nat):Ent (ckL c κ y++L) P (CkS c κ::L) P:=Ent.close y trivial
theorem Rep.a{T:Tg}{τ:Tr}{ps:List Pr}{gs:List Nat}{dp a:Nat}(h:Rep T τ ps gs dp):Rep T {τ with a:=a} ps gs dp:=⟨h.bel,h.depth,h.count,h.us,h.nd,h.g0,h.ok,h.bk,h.nn,h.ls,h.km⟩
theorem Ent.dropMid(L1:List Asn):∀(M L2:List Asn) {P:List Asn},Ent (L1++(M++L2)) P (L1++L2) P
 |[],L2,_=>.refl _ _
 |A::M,L2,_=>(Ent.dropAt L1 (M++L2) A).trans (Ent.dropMid L1 M L2)
def Zih(P0:List Asn)(c:Nat)(κ:Ck)(X:List Asn)(fid:FuncId)(caps:Array Value)(Q:Nat→Ck→Prop):Prop:=
 ∀(y:Nat×Nat) (L P:List Asn),(∀A∈P0,A∈P)→Sp SET fid ([]++[]++caps.toList) (ckL c κ y++(X++L)) P (fun r L' P'=>∃z:Ck×(Nat×Nat)×List Asn,((∀A∈P,A∈P')∧∃e:Nat,r=.int .i64 (e:Nat)∧(e≠0→z.1=κ)∧Q e z.1)∧L'=ckL c z.1 z.2.1++(z.2.2++L))
theorem Zux(A B C L:List Asn):(A++(B++(C++L))).Perm (A++(C++(B++L))):=List.Perm.append_left A (List.perm_append_comm_assoc B C L)
theorem Zbt(L P P0 X:List Asn)(c:Nat)(κ:Ck)(y:Nat×Nat)(fid:FuncId)(caps:Array Value)(Q:Nat→Ck→Prop)(hf:Zih P0 c κ X fid caps Q)(h0:∀A∈P0,A∈P):Sp SET 91 [.pointer (some ⟨c,0,none⟩),.func (.func fid) #[] caps] (ckL c κ y++(X++L)) P (fun r L' P'=>(∀A∈P,A∈P')∧∃e κ',r=.int .i64 (e:Nat)∧(e≠0→κ'=κ)∧Q e κ'∧L'=CkS c κ'::L):=by
 refine .bo (fn:=Tryz.f91) (N:=16) ?_;refine .seq (.region (.pu .as (.nil (.seq (.region (.pu .mv ?_))))));refine .call (Zue _ _ c κ.t κ.d κ.first y.1 κ.turn (κ.tr y.2) κ.β) ?_;rintro _ _ _ ⟨m,q,⟨rfl,hPe⟩,rfl⟩;subst hPe;refine .pu .as (.nil (.seq (.region (.pu .mv ?_))));refine .call (Sp.ent (Ent.pull (cmL m c κ.t (κ.tr y.2) κ.β κ.turn q) (ckL c κ y++X) L) (hf y _ _ h0)) ?_;rintro _ _ _ ⟨⟨κ',y',X'⟩,⟨hs1,e,rfl,hk,hq⟩,rfl⟩;refine .pu .as (.nil ?_);by_cases he:e=0
 ·refine .seq (.seq (.region (.pu .mv (.pu .cn (.nil ?_)))));refine .no rfl (.skip (.seq (.region (.pu .mv (.pu .as (.nil (.ret ?_)))))));exact⟨_,.tmp rfl .nil,_,_,((Ent.dropMid (ckL c κ' y') X' (cmL m c κ.t (κ.tr y.2) κ.β κ.turn q++L)).trans ((Ent.dropMid (ckL c κ' y') (cmL m c κ.t (κ.tr y.2) κ.β κ.turn q) L).trans (Nj y'))),hs1,e,κ',rfl,fun h=>absurd he h,hq,rfl⟩
 ·refine .seq (.seq (.region (.pu .mv (.pu .cy (.nil ?_)))));refine .yes rfl (.region (.pu .mv (.pu .mv ?_)));have hk2:=(hk he).symm;subst hk2;refine .call (Sp.ent (.perm (Zux (Pt c (ckC κ.t κ.d κ.first y'.1 κ.turn) (tz 0 153)::(trL κ.t (κ.tr y'.2)++[Alc y'.1 κ.β])) (Dev κ.d κ.δ::X') (cmL m c κ.t (κ.tr y.2) κ.β κ.turn q) L)) (Zuh (Dev κ.d κ.δ::X'++L) _ c κ.t κ.d κ.first y'.1 m κ.turn (κ.tr y.2) κ.β κ.β q y'.2 κ.τ.σ.w κ.τ.α κ.τ.root κ.τ.count κ.τ.depth)) ?_;rintro _ _ _ ⟨a2,b2,⟨rfl,rfl⟩,rfl⟩;refine .nil (.seq (.region (.pu .mv (.pu .as (.nil (.ret ?_))))));exact⟨_,.tmp rfl .nil,_,_,((Ent.dropMid (Pt c (ckC κ.t κ.d κ.first b2 κ.turn) (tz 0 153)::(trL κ.t (κ.tr a2)++[Alc b2 κ.β])) (cmL m c κ.t (κ.tr y.2) κ.β κ.turn q) (Dev κ.d κ.δ::X'++L)).trans ((Ent.dropMid (ckL c κ (b2,a2)) X' L).trans (Nj (b2,a2)))),hs1,e,κ,rfl,fun _=>rfl,hq,rfl⟩
structure CkOk(κ:Ck)(l:List Chn)(g W:Nat):Prop where
 rep:∃gs dp,Rep TC κ.τ (l.map Zu) gs dp∧dp≤2
 pn:κ.τ.α.n=64
 pb:κ.τ.α.back=0
 so:Ni l
 ft:∀p∈l,p.Fit
 bk:Y5 κ.β (ub l) g
 fn:κ.δ.n=κ.first+κ.β.n
 f4:κ.first≤4096
 dv:∀p∈l,p.st≠3→Ng κ.δ.ws (κ.first+p.blk)=some p.by'
 wn:κ.δ.ws.length≤W
 tn:0≤κ.turn∧κ.turn≤1000000+(W:Int)
structure Same(κ κ':Ck):Prop where
 t:κ'.t=κ.t
 d:κ'.d=κ.d
 f:κ'.first=κ.first
 n:κ'.β.n=κ.β.n
 u:κ'.turn=κ.turn
theorem Zuy(d:Nat)(δ:Dv)(k:Nat)(hk:k<δ.n)(v:Value)(bs:Bs)(hv:Zj 1 v (byL bs) L P)(hb:bs.length=256)(hn:δ.ws.length<1000000):Sp SET 162 [.pointer (some ⟨d,0,none⟩),.int .i64 (k:Nat),v] (Dev d δ::L) P (fun r L' P'=>r=.int .i64 0∧L'=Dev d (δ.push k bs)::L∧P'=P):=
 Sp.open fun x hx=>Zuo L P d δ x hx k hk v bs hv hb hn
theorem Zbu(c:Nat)(κ:Ck)(y:Nat×Nat)(b:Bs)(hT:Ro 0 Yi∈P)(hb:κ.β.back=0)(hf:κ.β.free≤0):Sp SET 93 [.pointer (some ⟨c,0,none⟩),S b] (ckL c κ y++L) P (fun r L' P'=>r=.tuple ⟨[.int .i64 0,.int .i64 5]⟩∧L'=ckL c κ y++L∧P'=P):=by
 refine .bo (fn:=Tryz.f93) (N:=32) ?_;refine .seq (.region (.pu .as (.pu .as (.nil (.seq (.region (.pu .mv (.pu .nc (.pu .fa (.ld ?_))))))))));refine .call (Sp.up (.s (.s (.s (.s .z)))) (fun L=>F7 L _ _ _ (by omega) hT hf)) ?_;rintro _ L P ⟨rfl,rfl,rfl⟩;refine .pu .mv (.pu .ex (.pu .ex (.pu .as (.pu .as (.nil (.seq (.seq (.region (.pu .mv (.pu .cmp (.nil ?_)))))))))));refine .no rfl (.skip (.seq (.region (.pu .mv (.pu .mv (.pu .as (.pu .as (.nil (.ret ?_)))))))));exact⟨_,.tmp rfl (.tmp rfl .nil),_,_,.refl _ _,rfl,rfl,rfl⟩
def Ck.take(κ:Ck)(b:Nat)(s:Bs):Ck:= {κ with β:= {κ.β with us:=Zl κ.β.us b},δ:=κ.δ.push (κ.first+b) s}
theorem Zbv(c:Nat)(κ:Ck)(y:Nat×Nat)(s:Bs)(hT:Ro 0 Yi∈P)(hb:κ.β.back=0)(hf:0<κ.β.free)(hs:s.length=256)(hn:κ.δ.ws.length<1000000)(hd:κ.δ.n=κ.first+κ.β.n)(h4:κ.first≤4096)(hb4:κ.β.n≤4096):Sp SET 93 [.pointer (some ⟨c,0,none⟩),S s] (ckL c κ y++L) P (fun r L' P'=>∃b:Nat,r=.tuple ⟨[.int .i64 (b:Nat),.int .i64 0]⟩∧b<κ.β.n∧mem κ.β.us b=false∧({κ.β with us:=Zl κ.β.us b}:AS0).Ok∧L'=ckL c (κ.take b s) y++L∧P'=P):=by
 refine .bo (fn:=Tryz.f93) (N:=32) ?_;refine .seq (.region (.pu .as (.pu .as (.nil (.seq (.region (.pu .mv (.pu .nc (.pu .fa (.ld ?_))))))))));refine .call (Sp.at [_,_,_,_] _ (fun L=>F8 L _ _ _ (by omega) hT hf)) ?_;rintro _ _ _ ⟨b,⟨rfl,hbn,hbu,hbo,rfl⟩,rfl⟩;refine .pu .mv (.pu .ex (.pu .ex (.pu .as (.pu .as (.nil (.seq (.seq (.region (.pu .mv (.pu .cmp (.nil ?_)))))))))));refine .yes rfl ?_;refine .drawn (by kernel_rfl) fun base=>?_;refine .pu .mv (.pu .nc (.pu .fa (.lo 0 1 .ld .mk ?_)));refine .pu .mv (.pu .nc (.pu .fa (.lo 0 1 .ld .mk ?_)));refine .pu .mv (.pu .add ?_);rw[show((κ.first:Nat):Int)+(b:Nat)=((κ.first+b:Nat):Int)from rfl];refine .pu .mv ?_;refine .cb fun v29=>?_;refine .call (Sp.ent (.perm (V9 [_,_,_,_,_,_] _ (Dev κ.d κ.δ))) (Zuy _ _ κ.d κ.δ (κ.first+b) (by omega) _ s (.o .l0) hs hn)) ?_;rintro _ L P ⟨rfl,rfl,rfl⟩
 refine .pu .as (.nil (.cons (.yes .mk (.yes .mk (.skip .nil))) (.cons (.yes .mk (.yes .mk (.skip .nil))) .nil)) (.seq (.region (.pu .mv (.pu .mv (.pu .as (.pu .as (.nil (.ret ?_)))))))));exact⟨_,.tmp rfl (.tmp rfl .nil),_,_,((Ent.dropAt [_] _ _).trans (.perm (V9 [_,_,_,_,_] L (Dev κ.d _)).symm)),b,rfl,hbn,hbu,hbo,rfl,rfl⟩
theorem CkOk.write{κ κ':Ck}{A B C:List Chn}{g g' W:Nat}{p:Chn}(h:CkOk κ (A++B++C) g W)(hA:∀a∈A,ltK a.at p.at)(hC:∀c∈C,ltK p.at c.at)(hp:p.Fit)(hrep:∃gs dp,Rep TC κ'.τ ((A++[p]++C).map Zu) gs dp∧dp≤2)(hn:κ'.τ.α.n=64)(hbk:κ'.τ.α.back=0)(hb:Y5 κ'.β (ub (A++[p]++C)) g')(hδ:κ'.δ=κ.δ.push (κ.first+p.blk) p.by')(hs:Same κ κ')(hnew:p.blk∉ub (A++B++C)):CkOk κ' (A++[p]++C) g' (W+1):=by
 refine⟨hrep,hn,hbk,(Zus h.so hA hC).1,fun q hq=>?_,hb,?_,?_,fun q hq h3=>?_,?_,?_⟩
 ·simp only[List.mem_append,List.mem_singleton]at hq;rcases hq with(hq|rfl)|hq
  ·exact h.ft q (by simp[hq])
  ·exact hp
  ·exact h.ft q (by simp[hq])
 ·rw[hδ,hs.f,hs.n];exact h.fn
 ·rw[hs.f];exact h.f4
 ·rw[hδ,hs.f];show Ng (κ.δ.ws++[(κ.first+p.blk,p.by')]) _=_;rw[Zup];simp only[List.mem_append,List.mem_singleton]at hq;have old:q∈A++B++C→(if κ.first+p.blk=κ.first+q.blk then some p.by' else Ng κ.δ.ws (κ.first+q.blk))=some q.by':=fun hq=>by
   rw[if_neg,h.dv q hq h3];intro e;have e2:p.blk=q.blk:=by omega
   exact hnew (e2▸Zuu hq h3)
  rcases hq with(hq|rfl)|hq
  ·exact old (by simp[hq])
  ·rw[if_pos rfl]
  ·exact old (by simp[hq])
 ·rw[hδ];show(κ.δ.ws++[(κ.first+p.blk,p.by')]).length≤_;rw[List.length_append];have:=h.wn;simp only[List.length_cons,List.length_nil];omega
 ·rw[hs.u];have:=h.tn;exact⟨this.1,by omega⟩
theorem Zbw{τ τ':Tr}{ps':Option (List Pr)}{l l':List Chn}{gs:List Nat}{dp e0:Nat}{P P':List Asn}{r:Value}(h:Rk TC τ gs dp ps' e0 P r τ' P')(hr:Rep TC τ (l.map Zu) gs dp)(hd:dp≤2)(hps:ps'=some (l'.map Zu))(hl:l.length≤60)(hl':l'.length≤60)(hn:τ.α.n=64)(hb:τ.α.back=0):(∀A∈P,A∈P')∧r=.int .i64 0∧(∃gs dp,Rep TC τ' (l'.map Zu) gs dp∧dp≤2)∧τ'.s=τ.s∧τ'.a=τ.a∧τ'.α.n=64∧τ'.α.back=0:=by
 obtain⟨h1,e,h2,⟨h3,h4,_⟩|⟨h3,qs,gs',dp',h4,h5,h6,h7,h8,h9,h10,_⟩⟩:=h
 ·exfalso;rcases h4 with⟨_,h4⟩|⟨_,h4⟩
  ·exact Zuv hr hd hl hn hb h4
  ·rw[hps]at h4;cases h4
 ·subst h3;rw[hps]at h4;obtain rfl:=Option.some.inj h4;exact⟨h1,h2,⟨gs',dp',h5,Zuw h6 hd hl'⟩,h7,h8,h9.trans hn,h10.trans hb⟩
def Jp(κ:Ck)(e0:Prop)(Q:Ck→Prop)(e:Nat)(κ':Ck):Prop:=(e=5∧e0∧κ'=κ)∨(e=0∧¬e0∧Same κ κ'∧κ'.turn=κ.turn∧Q κ')
def WrQ(A B C:List Chn)(g W ino idx:Nat)(s:Bs)(κ':Ck):Prop:=∃b,CkOk κ' (A++[⟨ino,idx,1,0,0,s,b⟩]++C) (g+(ub B).length) (W+1)
theorem CkOk.bn{κ:Ck}{l:List Chn}{g W:Nat}(h:CkOk κ l g W):κ.β.n≤4096:=h.bk.ok.n1
theorem Zbx{β:AS0}{A B C:List Chn}{g b:Nat}(h:Y5 β (ub (A++B++C)) g)(hb:mem β.us b=false)(hn:b<β.n)(ho:({β with us:=Zl β.us b}:AS0).Ok)(p:Chn)(hp:p.blk=b)(h3:p.st≠3):b∉ub (A++B++C)∧(ub B=[]→Y5 {β with us:=Zl β.us b} (ub (A++[p]++C)) g)∧(∀q,ub B=[q]→mem ({β with us:=Zl β.us b}:AS0).us q=true∧Y5 (({β with us:=Zl β.us b}:AS0).give q) (ub (A++[p]++C)) (g+1)):=by
 have hnot:b∉ub (A++B++C):=fun e=>by rw[(h.us b).2 e]at hb;cases hb
 have h1:=h.take hb hn ho;have e1:ub (A++[p]++C)=ub A++[b]++ub C:=by rw[Rm,Rm,Zbr h3,hp]
 have e2:ub (A++B++C)=ub A++ub B++ub C:=by rw[Rm,Rm]
 have pm:(b::(ub A++ub C)).Perm (ub A++[b]++ub C):=by
  rw[List.append_assoc];exact List.perm_middle.symm
 rw[e2]at h1;refine⟨hnot,fun hB=>?_,fun q hq=>?_⟩
 ·rw[hB,List.append_nil]at h1;rw[e1];exact h1.perm pm
 ·rw[hq]at h1;have h2:=(h1.perm (show(b::(ub A++[q]++ub C)).Perm (q::b::(ub A++ub C))from(List.Perm.cons b (by rw[List.append_assoc];exact List.perm_middle)).trans (List.Perm.swap _ _ _))).give;rw[e1];exact⟨h2.1,h2.2.perm pm⟩
theorem Zuz(c:Nat)(κ:Ck)(y:Nat×Nat)(A B C:List Chn)(g W ino idx:Nat)(s:Bs)(old:Xt)(b0 b1 b2 b3 b4 b5 z0 z1 z2 z3 z4 z5:Nat)(h0:Pt b0 [.pointer (some ⟨c,0,none⟩)] z0∈P)(h1:Pt b1 [S s] z1∈P)(h2:Pt b2 [.bool false] z2∈P)(h3:Pt b3 (hC old) z3∈P)(h4:Pt b4 [.int .i64 (ino:Nat)] z4∈P)(h5:Pt b5 [.int .i64 (idx:Nat)] z5∈P)
 (hT:Ro 0 Yi∈P) (hk:CkOk κ (A++B++C) g W) (hW:W<1000000) (hA:∀a∈A,ltK a.at (ino,idx)) (hC':∀c∈C,ltK (ino,idx) c.at) (hB:B=[]∨∃q,B=[q]∧q.at=(ino,idx)) (hi0:1≤ino) (hi1:ino<4294967296) (hx:idx<32) (hs:s.length=256) (hl:(A++B++C).length≤60) (hl':(A++[(⟨ino,idx,1,0,0,s,0⟩:Chn)]++C).length≤60) (hub:ub B=[]):Sp SET 92 [pp0 b0,pp0 b1,pp0 b2,pp0 b3,pp0 b4,pp0 b5] (ckL c κ y++L) P (fun r L' P'=>∃z:Ck×(Nat×Nat),((∀A∈P,A∈P')∧∃e:Nat,r=.int .i64 (e:Nat)∧Jp κ (κ.β.free≤0) (WrQ A B C g W ino idx s) e z.1)∧L'=ckL c z.1 z.2++L):=by
 obtain⟨gs,dp,hrep,hdp⟩:=hk.rep;have hwn:=hk.wn;have hbn:=hk.bn;refine .bo (fn:=Tryz.f92) (N:=45) ?_;refine .seq (.region (.pu .as (.nil ?_)));by_cases hf:κ.β.free≤0
 ·refine .seq (.region (.ld ?_));refine .ld ?_;refine .call (Zbu _ _ c κ y s hT hk.bk.bk hf) ?_;rintro _ L P ⟨rfl,rfl,rfl⟩;refine .pu .mv (.pu .ex (.pu .ex (.pu .as (.pu .as (.nil (.seq (.seq (.region (.pu .mv (.pu .cmp (.nil ?_)))))))))));refine .yes rfl (.seq (.region (.pu .mv (.pu .as (.nil (.ret ?_))))));exact⟨_,.tmp rfl .nil,_,_,.refl _ _,(κ,y),⟨fun _ h=>h,5,rfl,.inl ⟨rfl,hf,rfl⟩⟩,rfl⟩
 ·refine .seq (.region (.ld ?_));refine .ld ?_;refine .call (Zbv _ _ c κ y s hT hk.bk.bk (by omega) hs (by omega) hk.fn hk.f4 hbn) ?_;rintro _ L P ⟨b,rfl,hb1,hb2,hb3,rfl,rfl⟩;refine .pu .mv (.pu .ex (.pu .ex (.pu .as (.pu .as (.nil (.seq (.seq (.region (.pu .mv (.pu .cmp (.nil ?_)))))))))));refine .no rfl (.skip (.seq (.seq (.region ?_))));have hfit:(⟨ino,idx,1,0,0,s,b⟩:Chn).Fit:=⟨hi0,hi1,hx,⟨by show 1≤1;omega,by show 1≤3;omega⟩,by show 0<_;omega,by show 0<_;omega,by show b<65536;omega,hs⟩;obtain⟨hnew,hbk0,hbk1⟩:=Zbx hk.bk hb2 hb1 hb3 (⟨ino,idx,1,0,0,s,b⟩:Chn) rfl (by show(1:Nat)≠3;decide);refine .ld ?_;refine .pu .mv (.off (.off (.off (.off (.pu .pk (.nil ?_))))));refine .no rfl (.skip ?_);refine .seq (.drawn (by kernel_rfl) fun base=>?_);refine .lo 0 2 .ld .mk ?_;refine .lo 0 2 .ld .mk ?_;refine .lo 0 2 .ld .mk ?_;refine .lo 0 0 .ld .mk ?_
  refine .cb fun v40=>?_;refine .call (Zbp _ _ _ s (.o .l0) (fun e=>by rw[e]at hs;cases hs) (by omega)) ?_;rintro _ L P ⟨rfl,rfl,rfl⟩;refine .pu (.bd (vs:=[_,_,_,_,_,_])) (.pu .mv (.pu (.bd (vs:=[_,_,_,_,_,_,_])) ?_));refine .call (Sp.ent (Ent.pull [_] (Pt c (ckC κ.t κ.d κ.first y.1 κ.turn) (tz 0 153)::trL κ.t (κ.tr y.2)) _) (Zbo TC _ _ c κ.t κ.d κ.first y.1 κ.turn (κ.tr y.2) _ gs dp ⟨ino,idx,1,0,0,Nh s,b⟩ hrep.a (fun _=>hdp) hT hfit.held (Nat.le_refl _))) ?_;rintro _ _ _ ⟨τ',hpo,rfl⟩;obtain⟨hs1,rfl,hrep',ht1,ht2,ht3,ht4⟩:=Zbw (l:=A++B++C) (l':=A++[(⟨ino,idx,1,0,0,s,b⟩:Chn)]++C) hpo hrep.a hdp (congrArg some (Zbq (p:=⟨ino,idx,1,0,0,s,b⟩) hk.ft hfit hA hC' hB)) hl (by simpa using hl') hk.pn hk.pb;refine .pu .as (.nil (.cons (.yes .mk (.skip (.skip (.skip .nil)))) (.cons (.yes .mk (.yes .mk (.yes .mk (.skip .nil)))) (.cons (.yes .mk (.yes .mk (.yes .mk (.skip .nil)))) (.cons (.yes .mk (.yes .mk (.yes .mk (.skip .nil)))) .nil)))) (.ret ?_))
  refine⟨_,.tmp rfl .nil,_,_,(Ent.dropAt [_,_,_,_] _ _),({κ with τ:=τ',β:=({κ.β with us:=Zl κ.β.us b}:AS0),δ:=κ.δ.push (κ.first+b) s},(y.1,τ'.a)),⟨hs1,0,rfl,.inr ⟨rfl,hf,⟨rfl,rfl,rfl,rfl,rfl⟩,rfl,b,?_⟩⟩,rfl⟩
  exact hk.write (p:=⟨ino,idx,1,0,0,s,b⟩) hA hC' hfit hrep' ht3 ht4 (by rw[hub];exact hbk0 hub) rfl ⟨rfl,rfl,rfl,rfl,rfl⟩ hnew
theorem Zu0(c:Nat)(κ:Ck)(y:Nat×Nat)(A B C:List Chn)(g W ino idx:Nat)(s:Bs)(old:Xt)(b0 b1 b2 b3 b4 b5 z0 z1 z2 z3 z4 z5:Nat)(h0:Pt b0 [.pointer (some ⟨c,0,none⟩)] z0∈P)(h1:Pt b1 [S s] z1∈P)(h2:Pt b2 [.bool true] z2∈P)(h3:Pt b3 (hC old) z3∈P)(h4:Pt b4 [.int .i64 (ino:Nat)] z4∈P)(h5:Pt b5 [.int .i64 (idx:Nat)] z5∈P)
 (hT:Ro 0 Yi∈P) (hk:CkOk κ (A++B++C) g W) (hW:W<1000000) (hA:∀a∈A,ltK a.at (ino,idx)) (hC':∀c∈C,ltK (ino,idx) c.at) (hB:B=[]∨∃q,B=[q]∧q.at=(ino,idx)) (hi0:1≤ino) (hi1:ino<4294967296) (hx:idx<32) (hs:s.length=256) (hl:(A++B++C).length≤60) (hl':(A++[(⟨ino,idx,1,0,0,s,0⟩:Chn)]++C).length≤60) (hst:old.st=3) (hub:ub B=[]):Sp SET 92 [pp0 b0,pp0 b1,pp0 b2,pp0 b3,pp0 b4,pp0 b5] (ckL c κ y++L) P (fun r L' P'=>∃z:Ck×(Nat×Nat),((∀A∈P,A∈P')∧∃e:Nat,r=.int .i64 (e:Nat)∧Jp κ (κ.β.free≤0) (WrQ A B C g W ino idx s) e z.1)∧L'=ckL c z.1 z.2++L):=by
 obtain⟨gs,dp,hrep,hdp⟩:=hk.rep;have hwn:=hk.wn;have hbn:=hk.bn;refine .bo (fn:=Tryz.f92) (N:=45) ?_;refine .seq (.region (.pu .as (.nil ?_)));by_cases hf:κ.β.free≤0
 ·refine .seq (.region (.ld ?_));refine .ld ?_;refine .call (Zbu _ _ c κ y s hT hk.bk.bk hf) ?_;rintro _ L P ⟨rfl,rfl,rfl⟩;refine .pu .mv (.pu .ex (.pu .ex (.pu .as (.pu .as (.nil (.seq (.seq (.region (.pu .mv (.pu .cmp (.nil ?_)))))))))));refine .yes rfl (.seq (.region (.pu .mv (.pu .as (.nil (.ret ?_))))));exact⟨_,.tmp rfl .nil,_,_,.refl _ _,(κ,y),⟨fun _ h=>h,5,rfl,.inl ⟨rfl,hf,rfl⟩⟩,rfl⟩
 ·refine .seq (.region (.ld ?_));refine .ld ?_;refine .call (Zbv _ _ c κ y s hT hk.bk.bk (by omega) hs (by omega) hk.fn hk.f4 hbn) ?_;rintro _ L P ⟨b,rfl,hb1,hb2,hb3,rfl,rfl⟩;refine .pu .mv (.pu .ex (.pu .ex (.pu .as (.pu .as (.nil (.seq (.seq (.region (.pu .mv (.pu .cmp (.nil ?_)))))))))));refine .no rfl (.skip (.seq (.seq (.region ?_))));have hfit:(⟨ino,idx,1,0,0,s,b⟩:Chn).Fit:=⟨hi0,hi1,hx,⟨by show 1≤1;omega,by show 1≤3;omega⟩,by show 0<_;omega,by show 0<_;omega,by show b<65536;omega,hs⟩;obtain⟨hnew,hbk0,hbk1⟩:=Zbx hk.bk hb2 hb1 hb3 (⟨ino,idx,1,0,0,s,b⟩:Chn) rfl (by show(1:Nat)≠3;decide);refine .ld ?_;refine .pu .mv (.on (.pu .fa (.on (.pu .fa (.on (.ld ?_))))));refine .on (.pu (.cmp (q:=false) (hq:=by show some (decide ((old.st:Int)≠3))=some false;simp[hst])) ?_);refine .pu .pk (.nil ?_);refine .no rfl (.skip ?_)
  refine .seq (.drawn (by kernel_rfl) fun base=>?_);refine .lo 0 2 .ld .mk ?_;refine .lo 0 2 .ld .mk ?_;refine .lo 0 2 .ld .mk ?_;refine .lo 0 0 .ld .mk ?_;refine .cb fun v40=>?_;refine .call (Zbp _ _ _ s (.o .l0) (fun e=>by rw[e]at hs;cases hs) (by omega)) ?_;rintro _ L P ⟨rfl,rfl,rfl⟩;refine .pu (.bd (vs:=[_,_,_,_,_,_])) (.pu .mv (.pu (.bd (vs:=[_,_,_,_,_,_,_])) ?_));refine .call (Sp.ent (Ent.pull [_] (Pt c (ckC κ.t κ.d κ.first y.1 κ.turn) (tz 0 153)::trL κ.t (κ.tr y.2)) _) (Zbo TC _ _ c κ.t κ.d κ.first y.1 κ.turn (κ.tr y.2) _ gs dp ⟨ino,idx,1,0,0,Nh s,b⟩ hrep.a (fun _=>hdp) hT hfit.held (Nat.le_refl _))) ?_;rintro _ _ _ ⟨τ',hpo,rfl⟩;obtain⟨hs1,rfl,hrep',ht1,ht2,ht3,ht4⟩:=Zbw (l:=A++B++C) (l':=A++[(⟨ino,idx,1,0,0,s,b⟩:Chn)]++C) hpo hrep.a hdp (congrArg some (Zbq (p:=⟨ino,idx,1,0,0,s,b⟩) hk.ft hfit hA hC' hB)) hl (by simpa using hl') hk.pn hk.pb
  refine .pu .as (.nil (.cons (.yes .mk (.skip (.skip (.skip .nil)))) (.cons (.yes .mk (.yes .mk (.yes .mk (.skip .nil)))) (.cons (.yes .mk (.yes .mk (.yes .mk (.skip .nil)))) (.cons (.yes .mk (.yes .mk (.yes .mk (.skip .nil)))) .nil)))) (.ret ?_));refine⟨_,.tmp rfl .nil,_,_,(Ent.dropAt [_,_,_,_] _ _),({κ with τ:=τ',β:=({κ.β with us:=Zl κ.β.us b}:AS0),δ:=κ.δ.push (κ.first+b) s},(y.1,τ'.a)),⟨hs1,0,rfl,.inr ⟨rfl,hf,⟨rfl,rfl,rfl,rfl,rfl⟩,rfl,b,?_⟩⟩,rfl⟩
  exact hk.write (p:=⟨ino,idx,1,0,0,s,b⟩) hA hC' hfit hrep' ht3 ht4 (by rw[hub];exact hbk0 hub) rfl ⟨rfl,rfl,rfl,rfl,rfl⟩ hnew
theorem Zu1(c:Nat)(κ:Ck)(y:Nat×Nat)(A B C:List Chn)(g W ino idx:Nat)(s:Bs)(old:Xt)(b0 b1 b2 b3 b4 b5 z0 z1 z2 z3 z4 z5:Nat)(h0:Pt b0 [.pointer (some ⟨c,0,none⟩)] z0∈P)(h1:Pt b1 [S s] z1∈P)(h2:Pt b2 [.bool true] z2∈P)(h3:Pt b3 (hC old) z3∈P)(h4:Pt b4 [.int .i64 (ino:Nat)] z4∈P)(h5:Pt b5 [.int .i64 (idx:Nat)] z5∈P)
 (hT:Ro 0 Yi∈P) (hk:CkOk κ (A++B++C) g W) (hW:W<1000000) (hA:∀a∈A,ltK a.at (ino,idx)) (hC':∀c∈C,ltK (ino,idx) c.at) (hB:B=[]∨∃q,B=[q]∧q.at=(ino,idx)) (hi0:1≤ino) (hi1:ino<4294967296) (hx:idx<32) (hs:s.length=256) (hl:(A++B++C).length≤60) (hl':(A++[(⟨ino,idx,1,0,0,s,0⟩:Chn)]++C).length≤60) (hst:old.st≠3) (hub:ub B=[old.blk]):Sp SET 92 [pp0 b0,pp0 b1,pp0 b2,pp0 b3,pp0 b4,pp0 b5] (ckL c κ y++L) P (fun r L' P'=>∃z:Ck×(Nat×Nat),((∀A∈P,A∈P')∧∃e:Nat,r=.int .i64 (e:Nat)∧Jp κ (κ.β.free≤0) (WrQ A B C g W ino idx s) e z.1)∧L'=ckL c z.1 z.2++L):=by
 obtain⟨gs,dp,hrep,hdp⟩:=hk.rep;have hwn:=hk.wn;have hbn:=hk.bn;refine .bo (fn:=Tryz.f92) (N:=45) ?_;refine .seq (.region (.pu .as (.nil ?_)));by_cases hf:κ.β.free≤0
 ·refine .seq (.region (.ld ?_));refine .ld ?_;refine .call (Zbu _ _ c κ y s hT hk.bk.bk hf) ?_;rintro _ L P ⟨rfl,rfl,rfl⟩;refine .pu .mv (.pu .ex (.pu .ex (.pu .as (.pu .as (.nil (.seq (.seq (.region (.pu .mv (.pu .cmp (.nil ?_)))))))))));refine .yes rfl (.seq (.region (.pu .mv (.pu .as (.nil (.ret ?_))))));exact⟨_,.tmp rfl .nil,_,_,.refl _ _,(κ,y),⟨fun _ h=>h,5,rfl,.inl ⟨rfl,hf,rfl⟩⟩,rfl⟩
 ·refine .seq (.region (.ld ?_));refine .ld ?_;refine .call (Zbv _ _ c κ y s hT hk.bk.bk (by omega) hs (by omega) hk.fn hk.f4 hbn) ?_;rintro _ L P ⟨b,rfl,hb1,hb2,hb3,rfl,rfl⟩;refine .pu .mv (.pu .ex (.pu .ex (.pu .as (.pu .as (.nil (.seq (.seq (.region (.pu .mv (.pu .cmp (.nil ?_)))))))))));refine .no rfl (.skip (.seq (.seq (.region ?_))));have hfit:(⟨ino,idx,1,0,0,s,b⟩:Chn).Fit:=⟨hi0,hi1,hx,⟨by show 1≤1;omega,by show 1≤3;omega⟩,by show 0<_;omega,by show 0<_;omega,by show b<65536;omega,hs⟩;obtain⟨hnew,hbk0,hbk1⟩:=Zbx hk.bk hb2 hb1 hb3 (⟨ino,idx,1,0,0,s,b⟩:Chn) rfl (by show(1:Nat)≠3;decide);refine .ld ?_;refine .pu .mv (.on (.pu .fa (.on (.pu .fa (.on (.ld ?_))))));refine .on (.pu (.cmp (q:=true) (hq:=by show some (decide ((old.st:Int)≠3))=some true;simp;omega)) ?_);refine .pu .pk (.nil ?_);refine .yes rfl ?_
  refine .seq (.drawn (by kernel_rfl) fun base=>?_);refine .lo 0 0 .ld .mk ?_;refine .pu .nc (.pu .fa (.lo 0 0 .ld .mk ?_));refine .pu .fa (.lo 0 0 .ld .mk ?_);refine .call (Sp.up (.s (.s (.s (.s .z)))) (fun L=>F4 L _ _ _ old.blk (hbk1 old.blk hub).1)) ?_;rintro _ L P ⟨rfl,rfl,rfl⟩;refine .pu .as (.nil (.cons (.yes .mk (.skip .nil)) (.cons (.yes .mk (.skip .nil)) (.cons (.yes .mk (.skip .nil)) .nil))) (.seq (.region (.pu .mv (.pu .cmp (.nil ?_))))));refine .no rfl (.skip ?_);refine .seq (.drawn (by kernel_rfl) fun base=>?_);refine .lo 0 2 .ld .mk ?_;refine .lo 0 2 .ld .mk ?_;refine .lo 0 2 .ld .mk ?_;refine .lo 0 0 .ld .mk ?_;refine .cb fun v40=>?_;refine .call (Zbp _ _ _ s (.o .l0) (fun e=>by rw[e]at hs;cases hs) (by omega)) ?_;rintro _ L P ⟨rfl,rfl,rfl⟩;refine .pu (.bd (vs:=[_,_,_,_,_,_])) (.pu .mv (.pu (.bd (vs:=[_,_,_,_,_,_,_])) ?_));refine .call (Sp.ent (Ent.pull [_] (Pt c (ckC κ.t κ.d κ.first y.1 κ.turn) (tz 0 153)::trL κ.t (κ.tr y.2)) _) (Zbo TC _ _ c κ.t κ.d κ.first y.1 κ.turn (κ.tr y.2) _ gs dp ⟨ino,idx,1,0,0,Nh s,b⟩ hrep.a (fun _=>hdp) hT hfit.held (Nat.le_refl _))) ?_;rintro _ _ _ ⟨τ',hpo,rfl⟩
  obtain⟨hs1,rfl,hrep',ht1,ht2,ht3,ht4⟩:=Zbw (l:=A++B++C) (l':=A++[(⟨ino,idx,1,0,0,s,b⟩:Chn)]++C) hpo hrep.a hdp (congrArg some (Zbq (p:=⟨ino,idx,1,0,0,s,b⟩) hk.ft hfit hA hC' hB)) hl (by simpa using hl') hk.pn hk.pb;refine .pu .as (.nil (.cons (.yes .mk (.skip (.skip (.skip .nil)))) (.cons (.yes .mk (.yes .mk (.yes .mk (.skip .nil)))) (.cons (.yes .mk (.yes .mk (.yes .mk (.skip .nil)))) (.cons (.yes .mk (.yes .mk (.yes .mk (.skip .nil)))) .nil)))) (.ret ?_));refine⟨_,.tmp rfl .nil,_,_,(Ent.dropAt [_,_,_,_] _ _),({κ with τ:=τ',β:=(({κ.β with us:=Zl κ.β.us b}:AS0).give old.blk),δ:=κ.δ.push (κ.first+b) s},(y.1,τ'.a)),⟨hs1,0,rfl,.inr ⟨rfl,hf,⟨rfl,rfl,rfl,rfl,rfl⟩,rfl,b,?_⟩⟩,rfl⟩
  exact hk.write (p:=⟨ino,idx,1,0,0,s,b⟩) hA hC' hfit hrep' ht3 ht4 (by rw[hub];exact(hbk1 old.blk hub).2) rfl ⟨rfl,rfl,rfl,rfl,rfl⟩ hnew
structure Nk(A B C:List Chn)(k:Nat×Nat):Prop where
 a:∀a∈A,ltK a.at k
 c:∀c∈C,ltK k c.at
 b:B=[]∨∃q,B=[q]∧q.at=k
theorem Zu2{l:List Chn}(h:Ni l)(k:Nat×Nat):∃A B C,l=A++B++C∧Nk A B C k:=by
 obtain⟨A,B,C,e,h1,h2,h3⟩:=Zur h k;exact⟨A,B,C,e,h1,h2,h3⟩
theorem Zby{P0:List Asn}{c:Nat}{κ:Ck}{fid:FuncId}{caps:Array Value}{e0:Prop}{Q:Ck→Prop}(h:∀(y:Nat×Nat) (L P:List Asn),(∀A∈P0,A∈P)→Sp SET fid ([]++[]++caps.toList) (ckL c κ y++L) P (fun r L' P'=>∃z:Ck×(Nat×Nat),((∀A∈P,A∈P')∧∃e:Nat,r=.int .i64 (e:Nat)∧Jp κ e0 Q e z.1)∧L'=ckL c z.1 z.2++L)):Zih P0 c κ [] fid caps (Jp κ e0 Q):=fun y L P h0=>
 (h y L P h0).post (fun v L' P' ⟨z,⟨h1,e,h2,h3⟩,h4⟩=>⟨_,_,.refl _ _,(z.1,z.2,[]),⟨h1,e,h2,fun he=>by
  rcases h3 with⟨_,_,h3⟩|⟨h3,_⟩
  ·exact h3
  ·exact absurd h3 he,h3⟩,h4⟩)
def CkR(c:Nat)(κ:Ck)(e0:Prop)(Q:Ck→Prop)(L P:List Asn)(r:Value)(L' P':List Asn):Prop:=(∀A∈P,A∈P')∧∃e κ',r=.int .i64 (e:Nat)∧Jp κ e0 Q e κ'∧L'=CkS c κ'::L
theorem Zbz{P:List Asn}{a b d e f X Y:Asn}{P1:List Asn}(h1:∀A∈X::f::e::d::P,A∈P1)(hY:Y∈P){A:Asn}(hA:A∈[X,d,a,b,f,e,Y]):A∈b::a::P1:=by
 simp only[List.mem_cons,List.not_mem_nil,or_false]at hA;rcases hA with rfl|rfl|rfl|rfl|rfl|rfl|rfl
 ·exact .tail _ (.tail _ (h1 _ (.head _)))
 ·exact .tail _ (.tail _ (h1 _ (.tail _ (.tail _ (.tail _ (.head _))))))
 ·exact .tail _ (.head _)
 ·exact .head _
 ·exact .tail _ (.tail _ (h1 _ (.tail _ (.head _))))
 ·exact .tail _ (.tail _ (h1 _ (.tail _ (.tail _ (.head _)))))
 ·exact .tail _ (.tail _ (h1 _ (.tail _ (.tail _ (.tail _ (.tail _ hY))))))
theorem Zu3(c:Nat)(κ:Ck)(A B C:List Chn)(g W ino idx:Nat)(s:Bs)(hT:Ro 0 Yi∈P)(hk:CkOk κ (A++B++C) g W)(hW:W<1000000)(hp:Nk A B C (ino,idx))(hi0:1≤ino)(hi1:ino<4294967296)(hx:idx<32)(hs:s.length=256)(hl:(A++B++C).length≤60)(hl':(A++[(⟨ino,idx,1,0,0,s,0⟩:Chn)]++C).length≤60)(hBn:B=[]):Sp SET 27 [.pointer (some ⟨c,0,none⟩),.int .i64 (ino:Nat),.int .i64 (idx:Nat),S s] (CkS c κ::L) P (CkR c κ (κ.β.free≤0) (WrQ A B C g W ino idx s) L P):=by
 refine Sp.open fun y _=>?_;obtain⟨gs,dp,hrep,hdp⟩:=hk.rep;have hlk:=Rl hk.ft hi1 hx hp.a hp.c;obtain⟨Q0,hQ0⟩:∃Q0:List Asn,Q0=P:=⟨P,rfl⟩;have hlo:=hlk.2.2.1 hBn;refine .bo (fn:=Tryz.f27) (N:=53) ?_;refine .seq (.region ?_);refine .bx (cs:=[_]) fun b4=>?_;refine .bx (cs:=[_]) fun b5=>?_;refine .bx (cs:=[_]) fun b6=>?_;refine .bx (cs:=[_]) fun b7=>?_;refine .pu .as (.nil (.seq (.seq (.region (.ld ?_)))));refine .pu .peq (.pu .mv (.on (.ld ?_)));refine .on (.pu .cn (.pu .pk (.pu .mv (.on (.ld ?_)))));refine .on (.pu .cn (.pu .pk (.pu .mv (.on (.ld ?_)))));refine .on (.pu .cn (.pu .pk (.pu .mv (.on (.ld ?_)))));refine .on (.pu .cn (.pu .pk (.pu .mv (.on (.ld ?_)))));refine .on (.pu .ls (.on (.pu .cn (.pu .pk (.nil ?_)))));refine .no rfl (.skip (.seq (.region (.ent (Ent.pt.trans (Ent.pt.trans (Ent.pt.trans Ent.pt))) ?_))));refine .ld ?_;refine .ld ?_
 refine .ld ?_;refine .call (Zua TC _ _ c κ.t κ.d κ.first y.1 κ.turn (κ.tr y.2) _ gs dp ino idx hrep.a hi0 hi1 hx hlo) ?_;rintro _ _ _ ⟨rfl,rfl,hs1⟩;refine .pu .mv (.pu .ex (.pu .ex ?_));refine .nw (cs:=[.int .i64 0,.int .i64 0,.int .i64 0,.int .i64 0,.int .i64 0,.int .i64 0,.int .i64 0]) fun b9=>?_;refine .st (vs:=[_,_,_,_,_,_,_]) ?_;refine .pu .as (.nil (.seq (.region (.pu .mv ?_))));refine .pu (.cmp (q:=false) (hq:=by show some (decide ((7:Int)=0))=some false;decide)) ?_;refine .nw (cs:=[.bool false]) fun b11=>?_;refine .st (vs:=[_]) ?_;refine .nil (.seq (.seq (.region (.ld ?_))));refine .pu .nt (.pu .mv (.on (.pu .mv ?_)));refine .on (.pu (.cmp (q:=false) (hq:=by show some (decide ((7:Int)≠7))=some false;decide)) ?_);refine .pu .pk (.nil ?_);refine .no rfl (.skip (.seq (.region (.ent (Ent.pt.trans Ent.pt) ?_))));have hp4:=hs1 _ (.head _)
 have hp4b:=List.Mem.tail (Pt b9 (hC (⟨0,0,0,0,0,0,0⟩:Xt)) (tz 0 148)) (List.Mem.tail (Pt b11 [.bool false] (tz 0 4)) hp4);refine .ld ?_;refine .pu .mf ?_;refine .call (Zbt _ _ [Pt b4 [.pointer (some ⟨c,0,none⟩)] (tz 0 46),Pt b7 [S s] (tz 0 9),Pt b11 [.bool false] (tz 0 4),Pt b9 (hC (⟨0,0,0,0,0,0,0⟩:Xt)) (tz 0 148),Pt b5 [.int .i64 (ino:Nat)] (tz 0 3),Pt b6 [.int .i64 (idx:Nat)] (tz 0 3),Ro 0 Yi] [] c κ y _ #[pp0 b4,pp0 b7,pp0 b11,pp0 b9,pp0 b5,pp0 b6] (Jp κ (κ.β.free≤0) (WrQ A B C g W ino idx s)) (Zby fun y L P h0=>Zuz L P c κ y A B C g W ino idx s (⟨0,0,0,0,0,0,0⟩:Xt) b4 b7 b11 b9 b5 b6 _ _ _ _ _ _ (h0 _ (.head _)) (h0 _ (.tail _ (.head _))) (h0 _ (.tail _ (.tail _ (.head _)))) (h0 _ (.tail _ (.tail _ (.tail _ (.head _))))) (h0 _ (.tail _ (.tail _ (.tail _ (.tail _ (.head _)))))) (h0 _ (.tail _ (.tail _ (.tail _ (.tail _ (.tail _ (.head _))))))) (h0 _ (.tail _ (.tail _ (.tail _ (.tail _ (.tail _ (.tail _ (.head _)))))))) hk hW hp.a hp.c hp.b hi0 hi1 hx hs hl hl' (by rw[hBn];rfl)) (fun A hA=>Zbz hs1 hT hA)) ?_;rintro _ _ _ ⟨hs2,e,κ',rfl,hne,hq',rfl⟩
 refine .pu .as (.nil (.ret ?_));exact⟨_,.tmp rfl .nil,_,_,.refl _ _,fun A hA=>hs2 _ (.tail _ (.tail _ (hs1 _ (.tail _ (.tail _ (.tail _ (.tail _ hA))))))),e,κ',rfl,hq',rfl⟩
theorem Zu4(c:Nat)(κ:Ck)(A B C:List Chn)(g W ino idx:Nat)(s:Bs)(hT:Ro 0 Yi∈P)(hk:CkOk κ (A++B++C) g W)(hW:W<1000000)(hp:Nk A B C (ino,idx))(hi0:1≤ino)(hi1:ino<4294967296)(hx:idx<32)(hs:s.length=256)(hl:(A++B++C).length≤60)(hl':(A++[(⟨ino,idx,1,0,0,s,0⟩:Chn)]++C).length≤60)(q:Chn)(hq:q.at=(ino,idx))(hBq:B=[q])(hst:q.st=3):Sp SET 27 [.pointer (some ⟨c,0,none⟩),.int .i64 (ino:Nat),.int .i64 (idx:Nat),S s] (CkS c κ::L) P (CkR c κ (κ.β.free≤0) (WrQ A B C g W ino idx s) L P):=by
 refine Sp.open fun y _=>?_;obtain⟨gs,dp,hrep,hdp⟩:=hk.rep;have hlk:=Rl hk.ft hi1 hx hp.a hp.c;obtain⟨Q0,hQ0⟩:∃Q0:List Asn,Q0=P:=⟨P,rfl⟩;have hqf:q.Fit:=hk.ft q (by rw[hBq];simp);have hqi:q.ino=ino:=congrArg Prod.fst hq;have hqx:q.idx=idx:=congrArg Prod.snd hq;have hlo:=hlk.2.2.2 q hBq hq;subst hqi hqx;refine .bo (fn:=Tryz.f27) (N:=53) ?_;refine .seq (.region ?_);refine .bx (cs:=[_]) fun b4=>?_;refine .bx (cs:=[_]) fun b5=>?_;refine .bx (cs:=[_]) fun b6=>?_;refine .bx (cs:=[_]) fun b7=>?_;refine .pu .as (.nil (.seq (.seq (.region (.ld ?_)))));refine .pu .peq (.pu .mv (.on (.ld ?_)));refine .on (.pu .cn (.pu .pk (.pu .mv (.on (.ld ?_)))));refine .on (.pu .cn (.pu .pk (.pu .mv (.on (.ld ?_)))));refine .on (.pu .cn (.pu .pk (.pu .mv (.on (.ld ?_)))));refine .on (.pu .cn (.pu .pk (.pu .mv (.on (.ld ?_)))));refine .on (.pu .ls (.on (.pu .cn (.pu .pk (.nil ?_)))))
 refine .no rfl (.skip (.seq (.region (.ent (Ent.pt.trans (Ent.pt.trans (Ent.pt.trans Ent.pt))) ?_))));refine .ld ?_;refine .ld ?_;refine .ld ?_;refine .call (Zh8 TC _ _ c κ.t κ.d κ.first y.1 κ.turn (κ.tr y.2) _ gs dp q.held hrep.a hqf.held hqf.i0 hqf.x1 hlo) ?_;rintro _ _ _ ⟨rfl,rfl,hs1⟩;refine .pu .mv (.pu .ex (.pu .ex ?_));refine .nw (cs:=[.int .i64 0,.int .i64 0,.int .i64 0,.int .i64 0,.int .i64 0,.int .i64 0,.int .i64 0]) fun b9=>?_;refine .st (vs:=[_,_,_,_,_,_,_]) ?_;refine .pu .as (.nil (.seq (.region (.pu .mv ?_))));refine .pu (.cmp (q:=true) (hq:=by show some (decide ((0:Int)=0))=some true;decide)) ?_;refine .nw (cs:=[.bool false]) fun b11=>?_;refine .st (vs:=[_]) ?_;refine .nil (.seq (.seq (.region (.ld ?_))));refine .pu .nt (.pu .mv (.off (.off (.pu .pk (.nil ?_)))));refine .no rfl (.skip (.seq (.region (.ent (Ent.pt.trans Ent.pt) ?_))))
 have hp4:=hs1 _ (.head _);have hp4b:=List.Mem.tail (Pt b9 (hC q.held) (tz 0 148)) (List.Mem.tail (Pt b11 [.bool true] (tz 0 4)) hp4);refine .ld ?_;refine .pu .mf ?_;refine .call (Zbt _ _ [Pt b4 [.pointer (some ⟨c,0,none⟩)] (tz 0 46),Pt b7 [S s] (tz 0 9),Pt b11 [.bool true] (tz 0 4),Pt b9 (hC q.held) (tz 0 148),Pt b5 [.int .i64 (q.ino:Nat)] (tz 0 3),Pt b6 [.int .i64 (q.idx:Nat)] (tz 0 3),Ro 0 Yi] [] c κ y _ #[pp0 b4,pp0 b7,pp0 b11,pp0 b9,pp0 b5,pp0 b6] (Jp κ (κ.β.free≤0) (WrQ A B C g W q.ino q.idx s)) (Zby fun y L P h0=>Zu0 L P c κ y A B C g W q.ino q.idx s q.held b4 b7 b11 b9 b5 b6 _ _ _ _ _ _ (h0 _ (.head _)) (h0 _ (.tail _ (.head _))) (h0 _ (.tail _ (.tail _ (.head _)))) (h0 _ (.tail _ (.tail _ (.tail _ (.head _))))) (h0 _ (.tail _ (.tail _ (.tail _ (.tail _ (.head _)))))) (h0 _ (.tail _ (.tail _ (.tail _ (.tail _ (.tail _ (.head _))))))) (h0 _ (.tail _ (.tail _ (.tail _ (.tail _ (.tail _ (.tail _ (.head _)))))))) hk hW hp.a hp.c hp.b hi0 hi1 hx hs hl hl' hst (by rw[hBq];exact Zut hst)) (fun A hA=>Zbz hs1 hT hA)) ?_;rintro _ _ _ ⟨hs2,e,κ',rfl,hne,hq',rfl⟩
 refine .pu .as (.nil (.ret ?_));exact⟨_,.tmp rfl .nil,_,_,.refl _ _,fun A hA=>hs2 _ (.tail _ (.tail _ (hs1 _ (.tail _ (.tail _ (.tail _ (.tail _ hA))))))),e,κ',rfl,hq',rfl⟩
theorem Zu5(c:Nat)(κ:Ck)(A B C:List Chn)(g W ino idx:Nat)(s:Bs)(hT:Ro 0 Yi∈P)(hk:CkOk κ (A++B++C) g W)(hW:W<1000000)(hp:Nk A B C (ino,idx))(hi0:1≤ino)(hi1:ino<4294967296)(hx:idx<32)(hs:s.length=256)(hl:(A++B++C).length≤60)(hl':(A++[(⟨ino,idx,1,0,0,s,0⟩:Chn)]++C).length≤60)(q:Chn)(hq:q.at=(ino,idx))(hBq:B=[q])(hst:q.st≠3):Sp SET 27 [.pointer (some ⟨c,0,none⟩),.int .i64 (ino:Nat),.int .i64 (idx:Nat),S s] (CkS c κ::L) P (CkR c κ (κ.β.free≤0) (WrQ A B C g W ino idx s) L P):=by
 refine Sp.open fun y _=>?_;obtain⟨gs,dp,hrep,hdp⟩:=hk.rep;have hlk:=Rl hk.ft hi1 hx hp.a hp.c;obtain⟨Q0,hQ0⟩:∃Q0:List Asn,Q0=P:=⟨P,rfl⟩;have hqf:q.Fit:=hk.ft q (by rw[hBq];simp);have hqi:q.ino=ino:=congrArg Prod.fst hq;have hqx:q.idx=idx:=congrArg Prod.snd hq;have hlo:=hlk.2.2.2 q hBq hq;subst hqi hqx;refine .bo (fn:=Tryz.f27) (N:=53) ?_;refine .seq (.region ?_);refine .bx (cs:=[_]) fun b4=>?_;refine .bx (cs:=[_]) fun b5=>?_;refine .bx (cs:=[_]) fun b6=>?_;refine .bx (cs:=[_]) fun b7=>?_;refine .pu .as (.nil (.seq (.seq (.region (.ld ?_)))));refine .pu .peq (.pu .mv (.on (.ld ?_)));refine .on (.pu .cn (.pu .pk (.pu .mv (.on (.ld ?_)))));refine .on (.pu .cn (.pu .pk (.pu .mv (.on (.ld ?_)))));refine .on (.pu .cn (.pu .pk (.pu .mv (.on (.ld ?_)))));refine .on (.pu .cn (.pu .pk (.pu .mv (.on (.ld ?_)))));refine .on (.pu .ls (.on (.pu .cn (.pu .pk (.nil ?_)))))
 refine .no rfl (.skip (.seq (.region (.ent (Ent.pt.trans (Ent.pt.trans (Ent.pt.trans Ent.pt))) ?_))));refine .ld ?_;refine .ld ?_;refine .ld ?_;refine .call (Zh8 TC _ _ c κ.t κ.d κ.first y.1 κ.turn (κ.tr y.2) _ gs dp q.held hrep.a hqf.held hqf.i0 hqf.x1 hlo) ?_;rintro _ _ _ ⟨rfl,rfl,hs1⟩;refine .pu .mv (.pu .ex (.pu .ex ?_));refine .nw (cs:=[.int .i64 0,.int .i64 0,.int .i64 0,.int .i64 0,.int .i64 0,.int .i64 0,.int .i64 0]) fun b9=>?_;refine .st (vs:=[_,_,_,_,_,_,_]) ?_;refine .pu .as (.nil (.seq (.region (.pu .mv ?_))));refine .pu (.cmp (q:=true) (hq:=by show some (decide ((0:Int)=0))=some true;decide)) ?_;refine .nw (cs:=[.bool false]) fun b11=>?_;refine .st (vs:=[_]) ?_;refine .nil (.seq (.seq (.region (.ld ?_))));refine .pu .nt (.pu .mv (.off (.off (.pu .pk (.nil ?_)))));refine .no rfl (.skip (.seq (.region (.ent (Ent.pt.trans Ent.pt) ?_))))
 have hp4:=hs1 _ (.head _);have hp4b:=List.Mem.tail (Pt b9 (hC q.held) (tz 0 148)) (List.Mem.tail (Pt b11 [.bool true] (tz 0 4)) hp4);refine .ld ?_;refine .pu .mf ?_;refine .call (Zbt _ _ [Pt b4 [.pointer (some ⟨c,0,none⟩)] (tz 0 46),Pt b7 [S s] (tz 0 9),Pt b11 [.bool true] (tz 0 4),Pt b9 (hC q.held) (tz 0 148),Pt b5 [.int .i64 (q.ino:Nat)] (tz 0 3),Pt b6 [.int .i64 (q.idx:Nat)] (tz 0 3),Ro 0 Yi] [] c κ y _ #[pp0 b4,pp0 b7,pp0 b11,pp0 b9,pp0 b5,pp0 b6] (Jp κ (κ.β.free≤0) (WrQ A B C g W q.ino q.idx s)) (Zby fun y L P h0=>Zu1 L P c κ y A B C g W q.ino q.idx s q.held b4 b7 b11 b9 b5 b6 _ _ _ _ _ _ (h0 _ (.head _)) (h0 _ (.tail _ (.head _))) (h0 _ (.tail _ (.tail _ (.head _)))) (h0 _ (.tail _ (.tail _ (.tail _ (.head _))))) (h0 _ (.tail _ (.tail _ (.tail _ (.tail _ (.head _)))))) (h0 _ (.tail _ (.tail _ (.tail _ (.tail _ (.tail _ (.head _))))))) (h0 _ (.tail _ (.tail _ (.tail _ (.tail _ (.tail _ (.tail _ (.head _)))))))) hk hW hp.a hp.c hp.b hi0 hi1 hx hs hl hl' hst (by rw[hBq];exact Zbr hst)) (fun A hA=>Zbz hs1 hT hA)) ?_;rintro _ _ _ ⟨hs2,e,κ',rfl,hne,hq',rfl⟩
 refine .pu .as (.nil (.ret ?_));exact⟨_,.tmp rfl .nil,_,_,.refl _ _,fun A hA=>hs2 _ (.tail _ (.tail _ (hs1 _ (.tail _ (.tail _ (.tail _ (.tail _ hA))))))),e,κ',rfl,hq',rfl⟩
theorem Zu6(c:Nat)(κ:Ck)(A B C:List Chn)(g W ino idx:Nat)(s:Bs)(hT:Ro 0 Yi∈P)(hk:CkOk κ (A++B++C) g W)(hW:W<1000000)(hp:Nk A B C (ino,idx))(hi0:1≤ino)(hi1:ino<4294967296)(hx:idx<32)(hs:s.length=256)(hl:(A++B++C).length≤60)(hl':(A++[(⟨ino,idx,1,0,0,s,0⟩:Chn)]++C).length≤60):Sp SET 27 [.pointer (some ⟨c,0,none⟩),.int .i64 (ino:Nat),.int .i64 (idx:Nat),S s] (CkS c κ::L) P (CkR c κ (κ.β.free≤0) (WrQ A B C g W ino idx s) L P):=by
 rcases hp.b with h|⟨q,hB,hq⟩
 ·exact Zu3 L P c κ A B C g W ino idx s hT hk hW hp hi0 hi1 hx hs hl hl' h
 ·by_cases hst:q.st=3
  ·exact Zu4 L P c κ A B C g W ino idx s hT hk hW hp hi0 hi1 hx hs hl hl' q hq hB hst
  ·exact Zu5 L P c κ A B C g W ino idx s hT hk hW hp hi0 hi1 hx hs hl hl' q hq hB hst
def Ck.settle(κ:Ck):Ck:= {κ with β:=κ.β.settle,turn:=κ.turn+(if Yc κ.β.ls=0 then 0 else 1)}
theorem CkOk.settle{κ:Ck}{l:List Chn}{g W:Nat}(h:CkOk κ l g W):CkOk κ.settle l 0 (W+1):=by
 refine⟨h.rep,h.pn,h.pb,h.so,h.ft,h.bk.settle,h.fn,h.f4,h.dv,Nat.le_succ_of_le h.wn,?_⟩;have:=h.tn;show 0≤κ.turn+(if Yc κ.β.ls=0 then 0 else 1)∧κ.turn+(if Yc κ.β.ls=0 then 0 else 1)≤_;split<;>omega
theorem Zu7{L P:List Asn}{c:Nat}{κ:Ck}{y:Nat×Nat}(h:Yc κ.β.ls=0):Ent (ckL c {κ with β:=κ.β.settle} y++L) P (CkS c κ.settle::L) P:=by
 have e:κ.settle= {κ with β:=κ.β.settle}:=by
  unfold Ck.settle;rw[if_pos h,Int.add_zero]
 rw[e];exact Nj y
theorem Zu8{L P:List Asn}{c:Nat}{κ:Ck}{y:Nat×Nat}(h:Yc κ.β.ls≠0):Ent (ckL c {κ with β:=κ.β.settle,turn:=κ.turn+1} y++L) P (CkS c κ.settle::L) P:=by
 have e:κ.settle= {κ with β:=κ.β.settle,turn:=κ.turn+1}:=by
  unfold Ck.settle;rw[if_neg h]
 rw[e];exact Nj y
theorem Zu9(c:Nat)(κ:Ck)(l:List Chn)(g W:Nat)(hk:CkOk κ l g W)(hW:W<1000000):Sp SET 29 [.pointer (some ⟨c,0,none⟩)] (CkS c κ::L) P (fun r L' P'=>r=.int .i64 (g:Nat)∧L'=CkS c κ.settle::L∧P'=P):=by
 refine Sp.open fun y _=>?_;have htn:=hk.tn;have hgv:=hk.bk.gv;refine .bo (fn:=Tryz.f29) (N:=20) ?_;refine .seq (.region (.pu .as (.nil (.seq (.seq (.region (.pu .mv (.pu .peq (.nil ?_)))))))));refine .no rfl (.skip (.seq (.region (.pu .mv (.pu .nc (.pu .fa (.ld ?_)))))));refine .call (Sp.up (.s (.s (.s (.s .z)))) (fun L=>Zgs L _ _ _)) ?_;rintro _ L P ⟨rfl,rfl,rfl⟩;refine .pu .as (.nil ?_);by_cases h0:g=0
 ·refine .seq (.seq (.region (.pu .mv (.pu .cn (.nil ?_)))));refine .no rfl (.skip (.seq (.region (.pu .mv (.pu .as (.nil (.ret ?_)))))));exact⟨_,.tmp rfl .nil,_,_,(Zu7 (y:=y) (by omega)),by rw[hgv];rfl,rfl,rfl⟩
 ·refine .seq (.seq (.region (.pu .mv (.pu .cy (.nil ?_)))));refine .yes rfl (.region (.pu .mv (.pu .nc (.pu .fa (.ld ?_)))));refine .pu .add (.pu .nc (.pu .fa (.st (vs:=[_]) ?_)));refine .nil (.seq (.region (.pu .mv (.pu .as (.nil (.ret ?_))))));exact⟨_,.tmp rfl .nil,_,_,(Zu8 (y:=y) (by omega)),by rw[hgv];rfl,rfl,rfl⟩
theorem Zii(c:Nat)(κ:Ck)(l:List Chn)(g W:Nat)(hk:CkOk κ l g W):Sp SET 30 [.pointer (some ⟨c,0,none⟩)] (CkS c κ::L) P (fun r L' P'=>r=.int .i64 ((κ.β.n:Int)-(ub l).length-g)∧L'=CkS c κ::L∧P'=P):=by
 refine Sp.open fun y _=>?_;have hfr:=hk.bk.free;have hb0:=hk.bk.bk;refine .bo (fn:=Tryz.f30) (N:=9) ?_;refine .seq (.region (.pu .as (.nil (.seq (.seq (.region (.pu .mv (.pu .peq (.nil ?_)))))))));refine .no rfl (.skip (.seq (.region (.pu .mv (.pu .nc (.pu .fa (.ld ?_)))))));refine .call (Sp.up (.s (.s (.s (.s .z)))) (fun L=>Zr1 L _ _ κ.β (by omega))) ?_;rintro _ L P ⟨rfl,rfl,rfl⟩;refine .pu .as (.nil (.ret ?_));exact⟨_,.tmp rfl .nil,_,_,(Nj y),by rw[hfr];rfl,rfl,rfl⟩
theorem Zij :U4.length=64:=by decide+kernel
theorem Zik :U4.all (fun v=>eqV v v)=true:=by decide+kernel
def AS0.one(n u:Nat):AS0:=⟨n,[u],[0],0⟩
theorem H7(b:Nat):mem [0] b=false:=By 1 b
theorem Zil(b:Nat):mem [1] b=decide (b=0):=by
 unfold mem;rcases Nat.lt_or_ge b 64 with h|h
 ·have h1:b/64=0:=by omega
  have h2:b%64=b:=by omega
  rw[h1,h2];show(1:Nat).testBit b=_;rw[show(1:Nat)=2^0 from rfl,Nat.testBit_two_pow];exact decide_eq_decide.2 (by omega)
 ·have h1:b/64≠0:=by omega
  obtain⟨j,hj⟩:∃j,b/64=j+1:=⟨b/64-1,by omega⟩;rw[hj];show(0:Nat).testBit _=_;rw[Nat.zero_testBit];symm;exact decide_eq_false (by omega)
theorem Zim{n:Nat}(h1:1≤n)(h2:n≤64):(AS0.one n 0).Ok:=by
 refine⟨h1,by show n≤4096;omega,by show 1=(n+63)/64;omega,by show 1=(n+63)/64;omega,by simp[AS0.one],by simp[AS0.one],fun b hb=>?_,fun b hb=>?_,fun b _=>H7 b⟩
 ·have hb:mem [0] b=true:=hb;rw[H7]at hb;cases hb
 ·have hb:mem [0] b=true:=hb;rw[H7]at hb;cases hb
theorem Zin{n:Nat}(h1:1≤n)(h2:n≤64):(AS0.one n 1).Ok:=by
 refine⟨h1,by show n≤4096;omega,by show 1=(n+63)/64;omega,by show 1=(n+63)/64;omega,by simp[AS0.one],by simp[AS0.one],fun b hb=>?_,fun b hb=>?_,fun b _=>H7 b⟩
 ·have hb:mem [1] b=true:=hb;rw[Zil]at hb;have:=of_decide_eq_true hb;show b<n;omega
 ·have hb:mem [0] b=true:=hb;rw[H7]at hb;cases hb
theorem Zva(T:Tg){s a n:Nat}{σ:PSt}(hn:σ.n=n)(h1:1≤n)(h2:n≤64):Rep T ⟨s,a,σ,AS0.one n 1,0,0,0⟩ [] [] 0:=
 ⟨.none,rfl,rfl,fun j=>by
  show mem [1] j=true↔_;rw[Zil];simp,List.nodup_nil,by simp,Zin h1 h2,by show 0≤_;omega,hn,fun j=>H7 j,fun q hq=>by cases hq⟩
def κ15(k n:Nat):Ck where
 t:=k+490
 d:=k+2
 first:=136
 turn:=0
 τ:=⟨k+244,k+544,⟨k+2,k+275,70,64,2,1,[],[],0⟩,AS0.one 64 1,0,0,0⟩
 β:=AS0.one n 0
 δ:=⟨136+n,[]⟩
theorem κ15_ok(k:Nat){n:Nat}(h1:1≤n)(h2:n≤64):CkOk (κ15 k n) [] 0 0:=by
 refine⟨⟨[],0,Zva TC rfl (by decide) (by decide),by decide⟩,rfl,rfl,List.Pairwise.nil,fun p h=>(by cases h),⟨Zim h1 h2,rfl,fun j=>?_,List.nodup_nil,rfl⟩,rfl,by show 136≤4096;decide,fun p h=>(by cases h),Nat.le_refl _,⟨Int.le_refl _,by show(0:Int)≤_;decide⟩⟩;show mem [0] j=true↔j∈[];rw[H7];simp
def Vh(k n:Nat):List (List Value):=[.slice (some ⟨k+475,0,none⟩) 256 512,.bool false]::[.slice (some ⟨k+127,0,none⟩) 256 512,.bool false]::List.replicate n [.slice none 0 0,.bool false]
theorem Zio(n:Nat)(l:List Value):Go.Ax.rep n l=(List.replicate n l).flatten:=by
 induction n with
 |zero=>rfl
 |succ n ih=>
  rw[List.replicate_succ,List.flatten_cons,←ih];rfl
theorem Zvb(a k n:Nat):(Nw n).map (ren a k)=Nw n:=by
 unfold Nw;rw[Zio,List.map_flatten,List.map_replicate];rfl
theorem Zvc{n:Nat}:Cu (k15 n):=⟨by
 intro x hx;have e:(k15 n).post.map (·.1)=[1003,1004,1128,1243,1244,1245,1276,1476,1491,1541,1543,1545,1558,1576,1578,1580]:=rfl;have h:((k15 n).post.map (·.1)).all (fun b=>decide (1001≤b∧b<1582))=true:=by rw[e];decide
 exact of_decide_eq_true (List.all_eq_true.1 h x.1 (List.mem_map.2 ⟨x,hx,rfl⟩)),by
 show((k15 n).post.map (·.1)).Nodup;have h:(k15 n).post.map (·.1)=[1003,1004,1128,1243,1244,1245,1276,1476,1491,1541,1543,1545,1558,1576,1578,1580]:=rfl;rw[h];decide,by show 1001≤1582;decide⟩
theorem Ent.rem{L P L':List Asn}{A:Asn}(h:Rem A L L'):Ent L P (A::L') P:=Ent.perm h.perm
theorem Zvd(k n:Nat):∀e∈Vh k n,e.length=2:=fun e he=>by
 unfold Vh at he;rcases List.mem_cons.1 he with rfl|he
 ·rfl
 ·rcases List.mem_cons.1 he with rfl|he
  ·rfl
  ·obtain⟨_,rfl⟩:=List.mem_replicate.1 he;rfl
theorem Rn(k n:Nat):(Vh k (134+n)).length=136+n:=by
 unfold Vh;rw[List.length_cons,List.length_cons,List.length_replicate];omega
theorem Zve(k n:Nat):(([.slice (some ⟨1476,0,none⟩) 256 512,.bool false,.slice (some ⟨1128,0,none⟩) 256 512,.bool false]:List Value)++Nw (134+n)).map (ren 1001 k)=(Vh k (134+n)).flatten:=by
 rw[List.map_append,Zvb];unfold Vh Nw;rw[Zio];rfl
theorem Zvf(k n:Nat):(Blk (rn 1001 k 1003) (M6 1001 k (.cells [.slice (some ⟨1004,0,none⟩) (136+n) (2*(136+n)+1),.slice none 0 0,.bool false,.bool false,.int .i64 (.ofNat 0)] 5 201326592)).mk)=Blk (k+2) (OS.cells [.slice (some ⟨k+3,0,none⟩) (Vh k (134+n)).length (2*(136+n)+1),.slice none 0 0,.bool false,.bool false,.int .i64 0] 5 (tz 0 191)).mk:=by
 rw[Rn];rfl
theorem Zvg(k n:Nat):DvX.Ok (κ15 k n).δ ⟨.slice (some ⟨k+3,0,none⟩) (Vh k (134+n)).length (2*(136+n)+1),.slice none 0 0,Vh k (134+n),[],0⟩:=by
 refine⟨rfl,Rn k n,fun s hs=>?_,fun w hw=>(by cases hw),Nat.zero_le _⟩;have hs:s∈Vh k (134+n):=hs;unfold Vh at hs;rcases List.mem_cons.1 hs with rfl|hs
 ·exact⟨_,_,_,_,rfl⟩
 ·rcases List.mem_cons.1 hs with rfl|hs
  ·exact⟨_,_,_,_,rfl⟩
  ·obtain⟨_,rfl⟩:=List.mem_replicate.1 hs;exact⟨_,_,_,_,rfl⟩
theorem Zvh(k n:Nat)(h1:1≤n)(h2:n≤64)(L P:List Asn):Ent ((((k15 n).laid k).map fun x=>Blk x.1 x.2.mk)++L) P (CkS (k+557) (κ15 k n)::L) P:=
 (Ent.none (k:=2)).trans (
 (Ent.rem (.s (.s (.z)))).trans (
 (Ent.fst (fun S h H=>(Cv (k:=2) (b:=k+3) (c:=2*(136+n)+1) (z:=0) (n:=2*(136+n)) (es:=Vh k (134+n)) (Zvd k _) (Zve k n) (by rw[Rn];omega) (by rw[Rn]) H))).trans (
 (Ent.rem (.s (.s (.z)))).trans (
 (Ent.fst (fun S h H=>(Nv (b:=k+2) (cs:=[.slice (some ⟨k+3,0,none⟩) (Vh k (134+n)).length (2*(136+n)+1),.slice none 0 0,.bool false,.bool false,.int .i64 0]) (z:=tz 0 191) rfl (Zvf k n▸H)))).trans (
 (Ent.close (c:=DvX.Ok (κ15 k n).δ) (A:=dvL (k+2) (κ15 k n).δ) ⟨.slice (some ⟨k+3,0,none⟩) (Vh k (134+n)).length (2*(136+n)+1),.slice none 0 0,Vh k (134+n),[],0⟩ (Zvg k n)).trans (
 (Ent.rem (.s (.s (.s (.s (.s (.s (.s (.s (.s (.s (.s (.s (.s (.z))))))))))))))).trans (
 (Ent.fst (fun S h H=>(Cv (k:=1) (b:=k+577) (c:=3) (z:=0) (es:=[0].map Z9) (by simp[Z9]) rfl rfl rfl H))).trans (
 (Ent.rem (.s (.s (.s (.s (.s (.s (.s (.s (.s (.s (.s (.s (.s (.z))))))))))))))).trans (
 (Ent.fst (fun S h H=>(Cv (k:=1) (b:=k+575) (c:=3) (z:=0) (es:=[0].map Z9) (by simp[Z9]) rfl rfl rfl H))).trans (
 (Ent.rem (.s (.s (.s (.s (.s (.s (.s (.s (.s (.s (.s (.s (.s (.s (.z)))))))))))))))).trans (
 (Ent.fst (fun S h H=>(Nv (b:=k+579) (cs:=[.int .i64 (n:Nat),.slice (some ⟨k+575,0,none⟩) 1 3,.slice (some ⟨k+577,0,none⟩) 1 3,.int .i64 (0:Nat)]) (z:=tz 0 214) rfl H))).trans (
 (Ent.close (c:=fun _=>(AS0.one n 0).Ok) (A:=Vf (k+579) (AS0.one n 0)) (.slice (some ⟨k+575,0,none⟩) 1 3,.slice (some ⟨k+577,0,none⟩) 1 3) (Zim h1 h2)).trans (
 (Ent.rem (.s (.s (.s (.s (.s (.s (.s (.s (.s (.s (.z)))))))))))).trans (
 (Ent.fst (fun S h H=>(Cv (k:=1) (b:=k+542) (c:=3) (z:=0) (es:=[0].map Z9) (by simp[Z9]) rfl rfl rfl H))).trans (
 (Ent.rem (.s (.s (.s (.s (.s (.s (.s (.s (.s (.s (.z)))))))))))).trans (
 (Ent.fst (fun S h H=>(Cv (k:=1) (b:=k+540) (c:=3) (z:=0) (es:=[1].map Z9) (by simp[Z9]) rfl rfl rfl H))).trans (
 (Ent.rem (.s (.s (.s (.s (.s (.s (.s (.s (.s (.s (.s (.z))))))))))))).trans (
 (Ent.fst (fun S h H=>(Nv (b:=k+544) (cs:=[.int .i64 (64:Nat),.slice (some ⟨k+540,0,none⟩) 1 3,.slice (some ⟨k+542,0,none⟩) 1 3,.int .i64 (0:Nat)]) (z:=tz 0 214) rfl H))).trans (
 (Ent.close (c:=fun _=>(AS0.one 64 1).Ok) (A:=Vf (k+544) (AS0.one 64 1)) (.slice (some ⟨k+540,0,none⟩) 1 3,.slice (some ⟨k+542,0,none⟩) 1 3) (Zin (by decide) (by decide))).trans (
 (Ent.rem (.s (.s (.s (.s (.s (.z))))))).trans (
 (Ent.fst (fun S h H=>(Zkp (b:=k+243) (es:=[]) H))).trans (
 (Ent.rem (.s (.s (.s (.s (.s (.z))))))).trans (
 (Ent.fst (fun S h H=>(Zkp (b:=k+242) (es:=[]) H))).trans (
 (Ent.rem (.s (.s (.s (.s (.s (.s (.z)))))))).trans (
 (Ent.fst (fun S h H=>(Nv (b:=k+244) (cs:=[.pointer (some ⟨k+2,0,none⟩),.pointer (some ⟨k+275,0,none⟩),.int .i64 (70:Nat),.int .i64 (64:Nat),.int .i64 2,.int .i64 1,.map (some (k+242)),.map (some (k+243)),.int .i64 0]) (z:=tz 0 146) rfl H))).trans (
 (Ent.close (c:=fun _=>True) (A:=pgL (k+244) (κ15 k n).τ.σ) (k+242,k+243) trivial).trans (
 (Ent.rem (.s (.s (.s (.s (.s (.s (.s (.z))))))))).trans (
 (Ent.fst (fun S h H=>(Nv (b:=k+490) (cs:=[.pointer (some ⟨k+244,0,none⟩),.pointer (some ⟨k+544,0,none⟩),.int .i64 (0:Nat),.int .i64 0,.int .i64 0]) (z:=tz 0 117) rfl H))).trans (
 (Ent.rem (.s (.s (.s (.s (.s (.s (.s (.s (.z)))))))))).trans (
 (Ent.fst (fun S h H=>(Nv (b:=k+557) (cs:=[.pointer (some ⟨k+490,0,none⟩),.pointer (some ⟨k+2,0,none⟩),.int .i64 (136:Nat),.pointer (some ⟨k+579,0,none⟩),.int .i64 0]) (z:=tz 0 153) rfl H))).trans (
 (Nj (c:=k+557) (κ:=κ15 k n) (k+579,k+544)).trans (
 Ent.dropMid [CkS (k+557) (κ15 k n)] [_,_,_] L))))))))))))))))))))))))))))))))
theorem Zvi{n:Nat}(hn:n∈[1,2,3,4,5,6,20,60]){els:List Value→AS→R}{s:AS}(hf:Uv (k15 n) [.int .i64 (n:Nat)] s=true):Uw [k15 1,k15 2,k15 3,k15 4,k15 5,k15 6,k15 20,k15 60] els [.int .i64 (n:Nat)] s=some (ren 1001 s.nx (k15 n).ans,(k15 n).leftW s):=by
 simp only[List.mem_cons,List.not_mem_nil,or_false]at hn;rcases hn with rfl|rfl|rfl|rfl|rfl|rfl|rfl|rfl
 ·exact G4 hf
 ·rw[Yr rfl];exact G4 hf
 ·rw[Yr rfl,Yr rfl];exact G4 hf
 ·rw[Yr rfl,Yr rfl,Yr rfl];exact G4 hf
 ·rw[Yr rfl,Yr rfl,Yr rfl,Yr rfl];exact G4 hf
 ·rw[Yr rfl,Yr rfl,Yr rfl,Yr rfl,Yr rfl];exact G4 hf
 ·rw[Yr rfl,Yr rfl,Yr rfl,Yr rfl,Yr rfl,Yr rfl];exact G4 hf
 ·rw[Yr rfl,Yr rfl,Yr rfl,Yr rfl,Yr rfl,Yr rfl,Yr rfl];exact G4 hf
theorem Zvj{n:Nat}(hn:n∈[1,2,3,4,5,6,20,60]):eqL (k15 n).args [.int .i64 (n:Nat)]=true:=by
 simp only[List.mem_cons,List.not_mem_nil,or_false]at hn;rcases hn with rfl|rfl|rfl|rfl|rfl|rfl|rfl|rfl<;>rfl
theorem Zvk(n:Nat)(hn:n∈[1,2,3,4,5,6,20,60])(hT:RoN 0 U4∈P)(hN:Top∈P):Sp SET 26 [.int .i64 (n:Nat)] L P (fun r L' P'=>∃c κ v1 v2 v3,r=.tuple ⟨[.agg ⟨[pp0 v1,pp0 v2,pp0 v3,.pointer (some ⟨c,0,none⟩)]⟩,.bool true]⟩∧L'=CkS c κ::L∧P'=P∧CkOk κ [] 0 0∧κ.β.n=n):=by
 have h12:1≤n∧n≤64:=by
  simp only[List.mem_cons,List.not_mem_nil,or_false]at hn;omega
 refine Sp.made (m:=k15 n) (p:=Uw [k15 1,k15 2,k15 3,k15 4,k15 5,k15 6,k15 20,k15 60] (U5 26)) (by rfl) Zvc (fun S s hs=>Zvi hn (Zkr rfl rfl Zij Zik hT hN (Zvj hn) hs)) (fun k=>?_);exact⟨_,_,Zvh k n h12.1 h12.2 L P,k+557,κ15 k n,k+2,k+244,k+490,rfl,rfl,rfl,κ15_ok k h12.1 h12.2,rfl⟩
def by8(n:Int):UInt8:=UInt8.ofNat (Yq n 256)
theorem imod_lt(n:Int):Yq n 256<256:=by
 have h:=Zjf n (m:=256) (by decide);have:=Int.emod_lt_of_pos n (b:=256) (by decide);omega
theorem Zb0(n:Int):U6 .u8 n=((by8 n).toNat:Int):=by
 show((Yq n 256:Nat):Int)=_;unfold by8;rw[UInt8.toNat_ofNat'];have:=imod_lt n;omega
def H8(n:Int):Bs:=by8 (n.tdiv 256)::by8 (n.tdiv 65536)::1::List.replicate 253 (by8 n)
theorem Zvl(n:Int):(H8 n).length=256:=by unfold H8;simp
def Xu(b:UInt8)(i:Nat):Bs:=List.replicate i b++List.replicate (256-i) 0
theorem Rp(b:UInt8)(i:Nat)(h:i≤256):(Xu b i).length=256:=by unfold Xu;rw[List.length_append,List.length_replicate,List.length_replicate];omega
theorem Zvm{b:UInt8}{i:Nat}(h:i<256):(Xu b i).set i b=Xu b (i+1):=by
 unfold Xu;have e:256-i=(256-(i+1))+1:=by omega
 rw[e,List.replicate_succ,List.set_append_right _ _ (by rw[List.length_replicate];exact Nat.le_refl _),List.length_replicate,Nat.sub_self,List.set_cons_zero,List.replicate_succ',List.append_assoc];rfl
theorem Zip{n:Int}(h:InR .i64 n)(d:Nat):InR .i64 (n.tdiv d):=by
 have e:(n.tdiv d).natAbs=n.natAbs/(d:Int).natAbs:=Int.natAbs_tdiv n d;have hq:n.natAbs/(d:Int).natAbs≤n.natAbs:=Nat.div_le_self _ _;generalize n.natAbs/(d:Int).natAbs=q at e hq;simp only[InR]at h ⊢;by_cases h0:0≤n
 ·have:=Int.tdiv_nonneg h0 (Int.natCast_nonneg d);omega
 ·have h1:n.tdiv d≤0:=by
   have:=Int.tdiv_nonneg (a:= -n) (b:=d) (by omega) (Int.natCast_nonneg d);rw[Int.neg_tdiv]at this;omega
  omega
theorem Zvn(n:Int)(hn:InR .i64 n):Sp SET 28 [.int .i64 n,.int .i64 0] L P (fun r L' P'=>r=S (H8 n)∧L'=L∧P'=P):=by
 have hl0:∀i,i≤256→(byL (Xu (by8 n) i)).length=256:=fun i hi=>by unfold byL;rw[List.length_map,Rp _ _ hi]
 have e0:List.replicate ((256:Nat):Int).toNat [Value.int .u8 0]=byL (Xu (by8 n) 0):=by
  unfold byL Xu;rw[Int.toNat_natCast];simp
 refine .bo (fn:=Tryz.f28) (N:=39) ?_;refine .seq (.region (.pu .as (.nil (.seq (.region (.pu .mv (.pu .add (.pu (.min (c:=256)) (.pu (.max (c:=((256:Nat):Int))) ?_)))))))));refine .mk (k:=1) (z:=[.int .u8 0]) (fun v11=>?_) (hn:=⟨by omega,by show((256:Nat):Int)*1≤_;omega,by omega⟩);rw[e0];refine .pu .as (.nil (.seq (.seq (.region (.pu .as (.nil ?_))))));refine .block (W.loop (fun i:Nat=>i≤256) (fun i=>256-i) (fun i=>[(6,.int .i64 (i:Nat)),(5,v11),(0,.int .i64 n)]) (fun i=>Ow 1 v11 (byL (Xu (by8 n) i))::L) (fun _=>P) 0 (Nat.zero_le _) ⟨rfl,rfl,rfl,trivial⟩ (.refl _ _) (fun i hi=>?_));have hli:=hl0 i hi;by_cases hlt:i<256
 ·refine .seq (.seq (.region (.pu .mv (.pu .mv (.lk .ln ?_)))));refine .pu .cy (.nil ?_);refine .yes rfl (.skip (.seq (.block (.region (.pu .mv (.pu .mv (.pu .mv (.pu (.ciw (Zb0 n)) ?_))))))));have hgx:(byL (Xu (by8 n) i))[((i:Nat):Int).toNat]? =some [.int .u8 ((Xu (by8 n) i)[i]'(by rw[Rp _ _ hi];omega)).toNat]:=by
   rw[Int.toNat_natCast];unfold byL;rw[List.getElem?_map,List.getElem?_eq_getElem (by rw[Rp _ _ hi];omega)];rfl
  refine .lk (.ia (k:=1) (es:=byL (Xu (by8 n) i)) (hm:=.o .l0) (hn:=⟨by omega,by omega⟩)) ?_;refine .se (k:=1) (vs:=[_]) (i:=((i:Nat):Int).toNat) (e:=[.int .u8 ((Xu (by8 n) i)[i]'(by rw[Rp _ _ hi];omega)).toNat]) hgx ?_;rw[Int.toNat_natCast,Gv,Zvm hlt];refine .nil (.region (.pu .mv (.pu .add (.pu .as (.nil ?_)))));refine⟨i+1,hlt,by show 256-(i+1)<256-i;omega,⟨rfl,rfl,rfl,trivial⟩,.refl _ _⟩
 ·refine .seq (.seq (.region (.pu .mv (.pu .mv (.lk .ln ?_)))));refine .pu .cn (.nil ?_);refine .no rfl (.exit (.seq (.seq (.region ?_))));have e:i=256:=by omega
  subst e;refine .pu .mv (.lk .ln ?_);refine .pu (.cmp (q:=true) (hq:=by show some (decide (((byL (Xu (by8 n) 256)).length:Int)>2))=some true;rw[hli];rfl)) ?_;refine .nil ?_;refine .yes rfl (.region (.pu .mv (.pu .mv (.pu .mv (.pu .mv (.pu (.quoT (hr:=Zip hn 256)) (.pu (.ciw (Zb0 (n.tdiv ((256:Nat):Int)))) (.pu .mv (.pu (.quoT (hr:=Zip hn 65536)) (.pu (.ciw (Zb0 (n.tdiv ((65536:Nat):Int)))) ?_))))))))));refine .lk (.ia (k:=1) (es:=byL (Xu (by8 n) 256)) (hm:=.o .l0) (hn:=⟨by omega,by omega⟩)) ?_;refine .se (k:=1) (vs:=[_]) (i:=((0:Nat):Int).toNat) (e:=[.int .u8 (by8 n).toNat]) rfl ?_;rw[Int.toNat_natCast,Gv];refine .lk (.ia (k:=1) (es:=byL ((Xu (by8 n) 256).set 0 (by8 (n.tdiv ((256:Nat):Int))))) (hm:=.o .l0) (hn:=⟨by omega,by rw[←Gv,List.length_set];omega⟩)) ?_;refine .se (k:=1) (vs:=[_]) (i:=((1:Nat):Int).toNat) (e:=[.int .u8 (by8 n).toNat]) rfl ?_
  rw[Int.toNat_natCast,Gv];refine .lk (.ia (k:=1) (es:=byL (((Xu (by8 n) 256).set 0 (by8 (n.tdiv ((256:Nat):Int)))).set 1 (by8 (n.tdiv ((65536:Nat):Int))))) (hm:=.o .l0) (hn:=⟨by omega,by rw[←Gv,List.length_set,←Gv,List.length_set];omega⟩)) ?_;refine .se (k:=1) (vs:=[_]) (i:=((2:Nat):Int).toNat) (e:=[.int .u8 (by8 n).toNat]) rfl ?_;rw[Int.toNat_natCast,show [Value.int .u8 1]=[Value.int .u8 (1:UInt8).toNat]from rfl,Gv];refine .nil (.seq (.region (.pu .mv ?_)));refine .cs (bs:=H8 n) (.o (by
   show In (Ow 1 v11 (byL (H8 n))) _ _;exact .l0)) ?_
  refine .pu .as (.nil (.ret ?_));exact⟨_,.tmp rfl .nil,_,_,.drop,rfl,rfl,rfl⟩
theorem Zvo(hT:RoN 0 U4∈P)(hN:Top∈P):Sp SET 25 [] L P (fun r L' P'=>r=.bool true∧L'=L∧P'=P):=
 Sp.kept (m:=Mj) (els:=U5 25) (by rfl) rfl rfl rfl Zij (Zik) hT hN rfl
def Vt(l:List Chn):List (List Value):=(List.range 32).map fun k=>[.bool (decide (k∈l.map (·.idx)))]
theorem Rq(l:List Chn){k:Nat}(h:k<32):(Vt l)[((k:Nat):Int).toNat]? =some [.bool (decide (k∈l.map (·.idx)))]:=by
 rw[Int.toNat_natCast];unfold Vt;rw[List.getElem?_map,List.getElem?_range h];rfl
theorem Rr(l:List Chn):(Vt l).length=32:=by unfold Vt;simp
theorem Ziq{l l':List Chn}{k:Nat}(hk:k<32)(h:∀j,j∈l'.map (·.idx)↔j=k∨j∈l.map (·.idx)):(Vt l).set k [.bool true]=Vt l':=by
 unfold Vt;refine List.ext_getElem? fun j=>?_;rw[List.getElem?_set,List.getElem?_map,List.getElem?_map];by_cases hj:j<32
 ·rw[List.getElem?_range hj];by_cases e:k=j
  ·subst e;rw[if_pos rfl,if_pos (by simpa using hk)];show some [Value.bool true]=some [Value.bool (decide (k∈l'.map (·.idx)))];rw[decide_eq_true ((h k).2 (.inl rfl))]
  ·rw[if_neg e];show some [Value.bool _]=some [Value.bool _];have e2:decide (j∈l.map (·.idx))=decide (j∈l'.map (·.idx)):=decide_eq_decide.2 ⟨fun m=>(h j).2 (.inr m),fun m=>((h j).1 m).resolve_left (fun e'=>e e'.symm)⟩;rw[e2]
 ·rw[List.getElem?_eq_none (by simpa using hj),if_neg (by rintro rfl;exact hj hk)];rfl
structure TT where
 i:Nat
 κ:Ck
 l:List Chn
 g:Nat
 W:Nat
 P:List Asn
structure TT.Ok(n m:Nat)(P0:List Asn)(a:TT):Prop where
 hk:CkOk a.κ a.l a.g a.W
 hn:a.κ.β.n=n
 hl:a.l.length+a.g≤n
 hs:∀p∈a.l,p.st=1∧p.ino=1
 hW:a.W≤2*a.i
 hP:∀A∈P0,A∈a.P
 hi:a.i≤m
 h4:a.i≤40
theorem Zb1{l:List Chn}(h:∀p∈l,p.st=1∧p.ino=1):(ub l).length=l.length:=by
 unfold ub;rw[List.length_map,List.filter_eq_self.2 (fun p hp=>by simp[(h p hp).1])]
theorem Zvp{κ κ':Ck}{A B C:List Chn}{n g W k:Nat}{s:Bs}{e:Nat}(hk:CkOk κ (A++B++C) g W)(hn:κ.β.n=n)(hl:(A++B++C).length+g≤n)(hs:∀p∈A++B++C,p.st=1∧p.ino=1)(hp:Nk A B C (1,k))(h:Jp κ (κ.β.free≤0) (WrQ A B C g W 1 k s) e κ'):
  ∃l' g' W',CkOk κ' l' g' W'∧κ'.β.n=n∧l'.length+g'≤n∧(∀p∈l',p.st=1∧p.ino=1)∧W'≤W+1∧((e=5∧l'=A++B++C∧g'=g∧(A++B++C).length+g=n)∨(e=0∧(A++B++C).length+g<n∧(∀j,j∈l'.map (·.idx)↔j=k∨j∈(A++B++C).map (·.idx))∧((k∈(A++B++C).map (·.idx)∧l'.length=(A++B++C).length∧g'=g+1)∨(k∉(A++B++C).map (·.idx)∧l'.length=(A++B++C).length+1∧g'=g)))):=by
 have hfr:=hk.bk.free;have hu:=Zb1 hs;rw[hu,hn]at hfr;rcases h with⟨h1,h2,rfl⟩|⟨h1,h2,h3,_,b,hk'⟩
 ·exact⟨_,_,_,hk,hn,hl,hs,Nat.le_succ _,.inl ⟨h1,rfl,rfl,by omega⟩⟩
 ·have hA:∀p∈A++[(⟨1,k,1,0,0,s,b⟩:Chn)]++C,p.st=1∧p.ino=1:=fun p hp=>by
   simp only[List.mem_append,List.mem_singleton]at hp;rcases hp with(hp|rfl)|hp
   ·exact hs p (by simp[hp])
   ·exact⟨rfl,rfl⟩
   ·exact hs p (by simp[hp])
  have hAn:∀p∈A,p.idx≠k:=fun p hpA he=>by
   have h1:=hp.a p hpA;have h2:=(hs p (by simp[hpA])).2;unfold ltK Chn.at at h1;simp only at h1;omega
  have hCn:∀p∈C,p.idx≠k:=fun p hpC he=>by
   have h1:=hp.c p hpC;have h2:=(hs p (by simp[hpC])).2;unfold ltK Chn.at at h1;simp only at h1;omega
  have hn':κ'.β.n=n:=by rw[h3.n];exact hn
  rcases hp.b with hB|⟨q,hB,hq⟩
  ·subst hB;have e0:ub ([]:List Chn)=[]:=rfl;rw[e0]at hk';refine⟨_,_,_,hk',hn',?_,hA,Nat.le_refl _,.inr ⟨h1,by omega,fun j=>?_,.inr ⟨?_,?_,rfl⟩⟩⟩
   ·simp only[List.length_append,List.length_singleton,List.length_nil]at hl hfr ⊢;omega
   ·simp only[List.map_append,List.mem_append,List.map_cons,List.map_nil,List.mem_singleton,List.not_mem_nil,or_false];constructor
    ·rintro((h|h)|h)
     ·exact .inr (.inl h)
     ·exact .inl h
     ·exact .inr (.inr h)
    ·rintro(h|h|h)
     ·exact .inl (.inr h)
     ·exact .inl (.inl h)
     ·exact .inr h
   ·intro hm;simp only[List.map_append,List.mem_append,List.map_nil,List.not_mem_nil,or_false,List.mem_map]at hm;rcases hm with⟨p,h1,h2⟩|⟨p,h1,h2⟩
    ·exact hAn p h1 h2
    ·exact hCn p h1 h2
   ·simp only[List.length_append,List.length_singleton,List.length_nil];omega
  ·subst hB;have hqs:=hs q (by simp);have hqk:q.idx=k:=congrArg Prod.snd hq;have e0:ub [q]=[q.blk]:=Zbr (by rw[hqs.1];decide);rw[e0]at hk';refine⟨_,_,_,hk',hn',?_,hA,Nat.le_refl _,.inr ⟨h1,by omega,fun j=>?_,.inl ⟨?_,?_,rfl⟩⟩⟩
   ·simp only[List.length_append,List.length_singleton]at hl hfr ⊢;omega
   ·simp only[List.map_append,List.mem_append,List.map_cons,List.map_nil,List.mem_singleton,hqk];constructor
    ·rintro((h|h)|h)
     ·exact .inl h|>fun h=>.inr (.inl h)
     ·exact .inl h
     ·exact .inr (.inr h)
    ·rintro(h|(h|h)|h)
     ·exact .inl (.inr h)
     ·exact .inl (.inl h)
     ·exact .inl (.inr h)
     ·exact .inr h
   ·simp[hqk]
   ·simp only[List.length_append,List.length_singleton]
theorem Zvq{er n m g:Nat}(h:(er=5∧m+g=n)∨(er=0∧m+g<n)):((decide (((er:Nat):Int)=5) !=decide (((m:Nat):Int)+((g:Nat):Int)=((n:Nat):Int)))||(decide (((er:Nat):Int)≠0)&&decide (((er:Nat):Int)≠5)))=false:=by
 rcases h with⟨rfl,h⟩|⟨rfl,h⟩
 ·rw[decide_eq_true (by rfl:((5:Nat):Int)=5),decide_eq_true (by omega:((m:Nat):Int)+((g:Nat):Int)=((n:Nat):Int))];rfl
 ·rw[decide_eq_false (by decide:¬((0:Nat):Int)=5),decide_eq_false (by omega:¬((m:Nat):Int)+((g:Nat):Int)=((n:Nat):Int))];rfl
theorem Zvr(bn:Int)(v:Value)(xs:List Int)(hT:Ro 0 Yi∈P)(hT':RoN 0 U4∈P)(hN:Top∈P)(hv:SlR 1 v (xs.map fun x=>[.int .i64 x])∈P):Sp SET 4 [.int .i64 bn,v] L P (fun r L' P'=>r=.bool true):=by
 refine .bo (fn:=Tryz.f4) (N:=96) ?_;refine .seq (.region (.pu .as (.nil (.seq (.seq (.region ?_))))));refine .call (Zvo _ _ hT' hN) ?_;rintro _ L P ⟨rfl,rfl,rfl⟩;refine .pu .nt (.nil ?_);refine .no rfl (.skip (.seq (.region (.pu .mv (.pu (.ciw (m:=((Yq bn 18446744073709551616:Nat):Int)) rfl) (.pu (.i_rem (b:=6)) (.pu .ci (.pu .add ?_))))))));obtain⟨n,hn⟩:∃n:Nat,n=1+Yq bn 18446744073709551616%6:=⟨_,rfl⟩;have hn6:1≤n∧n≤6:=by omega
 rw[show(1:Int)+((Yq bn 18446744073709551616%6:Nat):Int)=((n:Nat):Int) by omega];refine .pu .as (.nil (.seq (.region (.pu .mv ?_))));refine .call (Zvk _ _ n (by simp;omega) hT' hN) ?_;rintro _ L P ⟨c,κ,w1,w2,w3,rfl,rfl,rfl,hk0,hn0⟩;refine .pu .mv (.pu .ex (.pu .ex ?_));refine .nw (cs:=[.pointer none,.pointer none,.pointer none,.pointer none]) fun b5=>?_;refine .st (vs:=[_,_,_,_]) ?_;refine .pu .as (.nil (.seq (.seq (.region (.pu .mv (.pu .nt (.nil ?_)))))));refine .no rfl (.skip (.seq (.region (.pu .as (.nil (.seq (.region (.pu .as (.nil (.seq (.region (.ent Ent.pt ?_))))))))))));refine .mk (k:=1) (z:=[.bool false]) (fun v27=>?_) (hn:=⟨by omega,by show(32:Int)*1≤_;omega,by omega⟩);rw[show List.replicate (Int.toNat 32) [Value.bool false]=Vt []from rfl];refine .pu .as (.nil (.seq (.seq (.region (.pu .as (.nil ?_))))))
 refine .block (W.loop (fun a:TT=>a.Ok n xs.length (Pt b5 [pp0 w1,pp0 w2,pp0 w3,.pointer (some ⟨c,0,none⟩)] (tz 0 48)::P)) (fun a=>xs.length-a.i) (fun a=>[(10,.int .i64 (a.i:Nat)),(9,v27),(8,.int .i64 (a.l.length:Nat)),(7,.int .i64 (a.g:Nat)),(5,pp0 b5),(1,v),(0,.int .i64 (n:Nat))]) (fun a=>CkS c a.κ::Ow 1 v27 (Vt a.l)::L) (fun a=>a.P) ⟨0,κ,[],0,0,_⟩ ⟨hk0,hn0,by show 0+0≤n;omega,fun p h=>(by cases h),Nat.le_refl _,fun A h=>h,Nat.zero_le _,Nat.zero_le _⟩ ⟨rfl,rfl,rfl,rfl,rfl,rfl,rfl,trivial⟩ .swap (fun a ha=>?_));obtain⟨hk,hnn,hl,hs,hW,hP,hi,h4⟩:=ha;generalize a.i=i at hW hi h4 ⊢;generalize a.κ=κ at hk hnn ⊢;generalize a.l=l at hk hl hs ⊢;generalize a.g=g at hk hl ⊢;generalize a.W=Wn at hk hW;generalize a.P=P at hP ⊢;have hb5:=hP _ (.head _);have hT2:=hP _ (.tail _ hT);have hv2:=hP _ (.tail _ hv)
 refine .seq (.seq (.region (.pu .mv (.pu .mv (.lk (.ln (hm:=.r (.p hv2))) ?_)))));rw[List.length_map];refine .pu .cmp (.pu .mv ?_);refine .and 32 2 (decide ((i:Int)<40)) (fun hq=>?_) ?_
 ·refine .on (.pu .mv (.on (.pu .cmp ?_)));exact .fin rfl
 refine .nil ?_;refine .ite rfl (fun ht35=>?_) (fun ht35=>?_)
 ·refine .skip (.seq (.block (.seq (.region ?_))));rw[Bool.and_eq_true,decide_eq_true_eq,decide_eq_true_eq]at ht35;obtain⟨hix,hi40⟩:=ht35;have hix:i<xs.length:=by omega
  have hgx:(xs.map fun x=>[Value.int .i64 x])[((i:Nat):Int).toNat]? =some [.int .i64 xs[i]]:=by
   rw[Int.toNat_natCast,List.getElem?_map,List.getElem?_eq_getElem hix];rfl
  refine .pu .mv (.pu .mv ?_);refine .lk (.ia (k:=1) (es:=xs.map fun x=>[Value.int .i64 x]) (hm:=.r (.p hv2)) (hn:=⟨by omega,by rw[List.length_map];omega⟩)) ?_;refine .le hgx ?_;refine .pu (.ciw (m:=((Yq xs[i] 18446744073709551616:Nat):Int)) rfl) (.pu (.i_rem (b:=32)) (.pu .ci ?_));obtain⟨k,hkx⟩:∃k,k=Yq xs[i] 18446744073709551616%32:=⟨_,rfl⟩;have hk32:k<32:=by omega
  rw[←hkx];obtain⟨A,B,C,rfl,hp⟩:=Zu2 hk.so (1,k);have hlen2:(A++[(⟨1,k,1,0,0,H8 i,0⟩:Chn)]++C).length≤60:=by
   simp only[List.length_append,List.length_singleton]at hl ⊢;omega
  refine .pu .as (.nil ?_);refine .seq (.drawn (by kernel_rfl) fun base=>?_);refine .pu .fa (.lo 0 1 .ld (.mk (hm:=.p hb5)) ?_);refine .pu .mv (.pu .mv ?_);refine .call (Zvn _ _ (i:Int) (by simp only[InR];omega)) ?_;rintro _ L P ⟨rfl,rfl,rfl⟩;refine .call (Zu6 _ _ c κ A B C g Wn 1 k (H8 i) hT2 hk (by omega) hp (by omega) (by omega) hk32 (Zvl _) (by omega) hlen2) ?_;rintro _ _ P2 ⟨hs1,er,κ',rfl,hch,rfl⟩;obtain⟨l',g',W',hk',hn2,hl2,hs2,hW2,hor⟩:=Zvp hk hnn hl hs hp hch;have hb6:=hs1 _ hb5;refine .pu .as (.nil (.cons (.yes (.mk (hm:=.p hb5)) (.yes (.mk (hm:=.p hb5)) (.skip .nil))) .nil) (.seq (.seq (.region (.pu .mv (.pu .cmp (.pu .mv (.pu .mv (.pu .add (.pu .mv (.pu .cmp (.pu (.bin_bool_neq (hx:=rfl) (hy:=rfl)) (.pu .mv ?_)))))))))))));refine .or 59 6 ((decide (((er:Nat):Int)≠0)&&decide (((er:Nat):Int)≠5))) (fun hq=>?_) ?_
  ·refine .on (.pu .mv (.on (.pu .cmp (.on (.pu .mv ?_)))));refine .and 62 2 (decide (((er:Nat):Int)≠5)) (fun hq=>?_) ?_
   ·refine .on (.pu .mv (.on (.pu .cmp ?_)));exact .fin rfl
   exact .fin rfl
  rw[show((decide (((er:Nat):Int)=5) !=decide ((((A++B++C).length:Nat):Int)+((g:Nat):Int)=((n:Nat):Int)))||(decide (((er:Nat):Int)≠0)&&decide (((er:Nat):Int)≠5)))=false from Zvq (by rcases hor with⟨h1,_,_,h2⟩|⟨h1,h2,_⟩<;>omega)]
  refine .nil ?_;refine .no rfl (.skip ?_);refine W.cutS ([(10,.int .i64 (i:Nat)),(9,v27),(8,.int .i64 (l'.length:Nat)),(7,.int .i64 (g':Nat)),(5,pp0 b5),(1,v),(0,.int .i64 (n:Nat))]) (CkS c κ'::Ow 1 v27 (Vt l')::L) (P2) ?_ ?_
  ·by_cases h5:er=5
   ·refine .seq (.region (.pu .mv (.pu .cn (.nil ?_))));refine .no rfl (.skip ?_);rcases hor with⟨_,rfl,rfl,_⟩|⟨h0,_⟩
    ·exact⟨(by(repeat (first|exact True.intro|refine And.intro rfl ?_))),.refl _ _⟩
    ·omega
   ·refine .seq (.region ?_);obtain⟨h0,hj,hor2⟩:er=0∧(∀j,j∈l'.map (·.idx)↔j=k∨j∈(A++B++C).map (·.idx))∧((k∈(A++B++C).map (·.idx)∧l'.length=(A++B++C).length∧g'=g+1)∨(k∉(A++B++C).map (·.idx)∧l'.length=(A++B++C).length+1∧g'=g)):=by
     rcases hor with⟨h,_⟩|⟨h,_,h2,h3⟩
     ·exact absurd h h5
     ·exact⟨h,h2,h3⟩
    refine .pu .mv (.pu .cy (.nil ?_));refine .yes rfl ?_;by_cases hse:k∈(A++B++C).map (·.idx)
    ·refine .seq (.seq (.region (.pu .mv (.pu .mv ?_))));refine .lk (.ia (k:=1) (es:=Vt (A++B++C)) (hm:=.o .l1) (hn:=⟨by omega,by rw[Rr];omega⟩)) ?_;refine .le (Rq (A++B++C) hk32) ?_;rw[decide_eq_true hse];obtain⟨hll,hgg⟩:l'.length=(A++B++C).length∧g'=g+1:=by
      rcases hor2 with⟨_,h⟩|⟨h,_⟩
      ·exact h
      ·exact absurd hse h
     refine .nil ?_;refine .yes rfl (.region (.pu .mv (.pu .add ?_)));rw[show((g:Nat):Int)+1=((g':Nat):Int) by omega];refine .pu .as (.nil (.region (.pu .mv (.pu .mv ?_))));refine .lk (.ia (k:=1) (es:=Vt (A++B++C)) (hm:=.o .l1) (hn:=⟨by omega,by rw[Rr];omega⟩)) ?_;refine .se (k:=1) (vs:=[_]) (i:=((k:Nat):Int).toNat) (e:=[.bool (decide (k∈(A++B++C).map (·.idx)))]) (Rq (A++B++C) hk32) ?_;rw[Int.toNat_natCast,Ziq hk32 hj];refine .nil ?_;rw[←hll];exact⟨(by(repeat (first|exact True.intro|refine And.intro rfl ?_))),.refl _ _⟩
    ·refine .seq (.seq (.region (.pu .mv (.pu .mv ?_))));refine .lk (.ia (k:=1) (es:=Vt (A++B++C)) (hm:=.o .l1) (hn:=⟨by omega,by rw[Rr];omega⟩)) ?_;refine .le (Rq (A++B++C) hk32) ?_;rw[decide_eq_false hse];obtain⟨hll,hgg⟩:l'.length=(A++B++C).length+1∧g'=g:=by
      rcases hor2 with⟨h,_⟩|⟨_,h⟩
      ·exact absurd h hse
      ·exact h
     refine .nil ?_;refine .no rfl (.region (.pu .mv (.pu .add ?_)));rw[show(((A++B++C).length:Nat):Int)+1=((l'.length:Nat):Int) by omega];refine .pu .as (.nil (.region (.pu .mv (.pu .mv ?_))));refine .lk (.ia (k:=1) (es:=Vt (A++B++C)) (hm:=.o .l1) (hn:=⟨by omega,by rw[Rr];omega⟩)) ?_;refine .se (k:=1) (vs:=[_]) (i:=((k:Nat):Int).toNat) (e:=[.bool (decide (k∈(A++B++C).map (·.idx)))]) (Rq (A++B++C) hk32) ?_;rw[Int.toNat_natCast,Ziq hk32 hj];refine .nil ?_;subst hgg;exact⟨(by(repeat (first|exact True.intro|refine And.intro rfl ?_))),.refl _ _⟩
  by_cases h54:i%5=4
  ·refine .seq (.seq (.region (.pu .mv (.pu (.i_rem (b:=5)) (.pu .cy (.nil ?_))))));refine .yes rfl (.seq (.seq (.region (.pu .fa (.ld (hm:=.p hb6) ?_)))));refine .call (Zu9 _ _ c κ' l' g' W' hk' (by omega)) ?_;rintro _ L P ⟨rfl,rfl,rfl⟩;refine .pu .mv ?_;refine .pu (.cmp (q:=false) (hq:=by show some (decide (((g':Nat):Int)≠((g':Nat):Int)))=some false;simp)) ?_;refine .nil ?_;refine .no rfl (.skip (.region (.pu .as (.nil (.seq (.region (.pu .fa (.ld (hm:=.p hb6) ?_))))))));refine .call (Zii _ _ c κ'.settle l' 0 (W'+1) hk'.settle) ?_;rintro _ L P ⟨rfl,rfl,rfl⟩;have hu2:=Zb1 hs2;have hn3:κ'.settle.β.n=n:=hn2;refine .pu .mv (.pu .mv (.pu .sub (.pu .mv (.pu .sub (.pu .cn (.nil ?_))))));refine .no rfl (.skip (.region (.pu .mv (.pu .add (.pu .as (.nil ?_))))));refine⟨⟨i+1,κ'.settle,l',0,W'+1,P⟩,⟨hk'.settle,hn2,(by show l'.length+0≤n;omega),hs2,(by show W'+1≤2*(i+1);omega),fun A hA=>hs1 _ (hP _ hA),hix,(by show i+1≤40;omega)⟩,(by show xs.length-(i+1)<xs.length-i;omega),⟨rfl,rfl,rfl,rfl,rfl,rfl,rfl,trivial⟩,.refl _ _⟩
  ·refine .seq (.seq (.region (.pu .mv (.pu (.i_rem (b:=5)) (.pu .cn (.nil ?_))))));refine .no rfl (.skip (.seq (.region (.pu .fa (.ld (hm:=.p hb6) ?_)))));refine .call (Zii _ _ c κ' l' g' W' hk') ?_;rintro _ L P ⟨rfl,rfl,rfl⟩;have hu2:=Zb1 hs2;have hn3:κ'.settle.β.n=n:=hn2;refine .pu .mv (.pu .mv (.pu .sub (.pu .mv (.pu .sub (.pu .cn (.nil ?_))))));refine .no rfl (.skip (.region (.pu .mv (.pu .add (.pu .as (.nil ?_))))));refine⟨⟨i+1,κ',l',g',W',P⟩,⟨hk',hn2,hl2,hs2,(by show W'≤2*(i+1);omega),fun A hA=>hs1 _ (hP _ hA),hix,(by show i+1≤40;omega)⟩,(by show xs.length-(i+1)<xs.length-i;omega),⟨rfl,rfl,rfl,rfl,rfl,rfl,rfl,trivial⟩,.refl _ _⟩
 refine .exit (.seq (.region (.pu .as (.nil (.ret ?_)))));exact⟨_,.tmp rfl .nil,_,_,(Ent.refl _ _),rfl⟩
end Go.Cis
