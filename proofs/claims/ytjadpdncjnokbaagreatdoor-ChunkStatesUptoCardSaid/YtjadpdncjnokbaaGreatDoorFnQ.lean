/- Pieces of nodes: what is split and put together again. -/
import Derived.Test.YtjadpdncjnokbaaGreatDoorFnA
set_option linter.all false
open List renaming length_map→Zc,length_cons→Zf,length_append→Zd,mem_cons_self→Zm,mem_append→Zk,mem_cons→Zg,mem_map→Zl,flatMap_cons→Zx,map_cons→Zr,mem_cons_of_mem→Zs,length_take→Zq,map_append→Zp,mem_flatMap→Yb,flatMap_append→Yd,append_assoc→Zu,pairwise_cons→Yf,length_nil→Zo,length→Yi,mem_singleton→Z6,nodup_append→Xa,map→Y3,length_drop→Z5,getElem?_map→Zy,pairwise_append→Ys,getElem_append_left→Vm,getElem_append_right→Vn,getElem?_eq_getElem→Zn,tail_cons→Vv,append_nil→Z9,take_append_drop→Ym,length_tail→V9,map_map→X3,map_tail→Ub,cons_append→Y0,zip_cons_cons→Vy,length_zip→X9,take_succ_eq_append_getElem→Xb,take_of_length_le→Z8,take→Ur,mem_of_mem_tail→Jf,exists_mem_of_ne_nil→Us,length_eq_zero_iff→Yh,getElem_map→Yw,map_nil→Vd,Pairwise→Xx,mem_append_right→Ja,drop_eq_getElem_cons→X7,mem_of_mem_take→V3,getElem_cons_succ→Uq,of_mem_zip→Kv,length_pos_iff→J5,flatMap_def→Kw,any_eq_false→V1,sum_cons→Uo,mem_of_mem_drop→V5,map_take→J2,map_drop→V7,drop_of_length_le→Vl,length_set→Vk,nodup_cons→Yz,getElem_mem→Zz,take_zero→J3,perm_append_comm_assoc→Ua,mem_append_left→Jt,ne_nil_of_mem→Zqe,drop_append→Zqf,take_succ_cons→Zqg,tail_append_of_ne_nil→Zqh,nil_append→Xj,tail_nil→Zqi,pairwise_iff_getElem→Je,append_of_mem→Zqj,append_inj→Zqk,Perm→Yn,getElem_cons_zero→J8
open Nat renaming zero_le→Zj,lt_or_ge→Zt,le_refl→Ze,lt_of_succ_lt_succ→J4,min_eq_right→J6,add_assoc→Ya,lt_succ_self→U6,sub_self→Xs,shiftRight_eq_div_pow→Xe,le_succ→Ug,min_eq_left→Ks,eq_zero_or_pos→Xi,le_trans→Ye
open Int renaming toNat_natCast→Yp,natCast_nonneg→Yk
open Bool renaming and_eq_true→Zi,true_and→X4,not_eq_true'→Xd,or_true→Jd,not_false→U9,false_and→Xp,and_eq_false_iff→Xz
namespace Go.Cis
open Go Go.Ax Go.Lx Go.Proofs
set_option maxRecDepth 100000
variable (L P:List Asn)
theorem VU(x y z:Nd)(k l:Bs)(h:x.leaf=y.leaf):Gd (Gd x k y) l z=Gd x k (Gd y l z):=by
 unfold Gd;simp only[Zu];congr 1;cases hx:x.leaf with
 |true=>rfl
 |false=>rw[←h,hx];simp
def glue :Nd→List (Bs×Nd)→Nd
 |n,[]=>n
 |n,(k,m)::r=>glue (Gd n k m) r
theorem DN :∀(r:List (Bs×Nd)) (x m:Nd) (k:Bs),x.leaf=m.leaf→glue (Gd x k m) r=Gd x k (glue m r)
 |[],_,_,_,_=>rfl
 |(l,z)::r,x,m,k,h=>by
  show glue (Gd (Gd x k m) l z) r=Gd x k (glue (Gd m l z) r);rw[VU x m z k l h,DN r x (Gd m l z) k h]
theorem ww :∀(ra rb:List (Bs×Nd)) (a:Nd),glue a (ra++rb)=glue (glue a ra) rb
 |[],_,_=>rfl
 |(k,m)::ra,rb,a=>ww ra rb (Gd a k m)
theorem VJ :∀(r:List (Bs×Nd)) (a:Nd),(glue a r).leaf=a.leaf
 |[],_=>rfl
 |(k,m)::r,a=>by
  show(glue (Gd a k m) r).leaf=_;rw[VJ r];rfl
theorem Zez(a0 b0:Nd)(ra rb:List (Bs×Nd))(k:Bs)(h:a0.leaf=b0.leaf):glue a0 (ra++(k,b0)::rb)=Gd (glue a0 ra) k (glue b0 rb):=by
 rw[ww];show glue (Gd (glue a0 ra) k b0) rb=_;exact DN rb _ _ _ (by rw[VJ];exact h)
theorem VK :∀(r:List (Bs×Nd)) (a:Nd),(glue a r).pairs=a.pairs++r.flatMap (fun x=>x.2.pairs)
 |[],a=>by simp[glue]
 |(k,m)::r,a=>by
  show(glue (Gd a k m) r).pairs=_;rw[VK r];show(a.pairs++m.pairs)++_=_;rw[Zx,Zu]
theorem DC :∀(r:List (Bs×Nd)) (a:Nd),(glue a r).kids=a.kids++r.flatMap (fun x=>x.2.kids)
 |[],a=>by simp[glue]
 |(k,m)::r,a=>by
  show(glue (Gd a k m) r).kids=_;rw[DC r];show(a.kids++m.kids)++_=_;rw[Zx,Zu]
theorem wx{l m:List Bs}(h:rise l=true)(f:∃a b,l=a++m++b):rise m=true:=by
 obtain⟨a,b,rfl⟩:=f;rw[Tq]at h ⊢;intro i hi;have hl:(a++m++b).length=a.length+m.length+b.length:=by simp[Ya]
 have:=h (a.length+i) (by rw[hl];omega);have e:∀(j:Nat) (hj:j<m.length),(a++m++b)[a.length+j]'(by rw[hl];omega)=m[j]:=fun j hj=>by
  rw[Vm (by simp;omega),Vn (by omega)];congr 1;omega
 rw[e i (by omega)]at this;have e2:=e (i+1) hi;simp only[←Ya]at e2;rw[e2]at this;exact this
theorem DD{l:List Bs}(h:rise l=true)(i:Nat):rise (l.take i)=true:=wx h ⟨[],l.drop i,by simp⟩
theorem VG{l:List Bs}(h:rise l=true)(i:Nat):rise (l.drop i)=true:=wx h ⟨l.take i,[],by simp⟩
theorem jv{ps:List Pr}(h1:ps.length≤255)(h2:∀p∈ps,isKey p.1=true∧p.2.length≤48)(h3:rise (ps.map (·.1))=true):(Gj ps).leafOk=true:=by
 unfold Nd.leafOk Gj;simp only[Zo,Nat.add_zero,decide_true,X4,Zi,decide_eq_true_eq,Xd];refine⟨h1,V1.2 (fun p hp=>?_),h3⟩;obtain⟨g1,g2⟩:=h2 p hp;unfold Dx;rw[g1];simp;omega
theorem VH{keys:List Bs}{kids:List Nat}(h1:1≤kids.length)(h2:kids.length≤255)(h3:keys.length+1=kids.length)(h4:∀k∈keys,isKey k=true)(h5:∀k∈kids,1≤k∧k≤65535)(h6:rise keys=true):(M1 keys kids).innerOk=true:=by
 unfold Nd.innerOk M1;simp only[Zo,decide_true,U9,X4,Zi,decide_eq_true_eq,Xd];refine⟨h1,h2,h3,V1.2 (fun k hk=>?_),V1.2 (fun k hk=>?_),h6⟩
 ·rw[h4 k hk];simp
 ·obtain⟨g1,g2⟩:=h5 k hk;unfold Re;simp;omega
theorem Ze0{n:Nd}(h:n.leafOk=true):n=Gj n.pairs:=by
 obtain⟨h1,h2,h3,_⟩:=Mh h;cases n;simp only at h1 h2 h3;subst h1 h2 h3;rfl
theorem Ze1{n:Nd}(h:n.innerOk=true):n=M1 n.keys n.kids:=by
 obtain⟨h1,h2,_⟩:=Mk h;cases n;simp only at h1 h2;subst h1 h2;rfl
theorem Ze2(ps:List Pr)(i:Nat)(k:Bs):Gd (Gj (ps.take i)) k (Gj (ps.drop i))=Gj ps:=by
 unfold Gd Gj;simp
theorem Ze3(keys:List Bs)(kids:List Nat)(i:Nat)(h1:1≤i)(h:i-1<keys.length):Gd (M1 (keys.take (i-1)) (kids.take i)) keys[i-1] (M1 (keys.drop i) (kids.drop i))=M1 keys kids:=by
 unfold Gd M1;simp only[Z9,cond_false,Ym];congr 1;have e:keys.drop (i-1)=keys[i-1]::keys.drop i:=by
  rw[X7 h,show i-1+1=i by omega]
 rw[←e,Ym]
theorem Cg(a b:List Pr):weight (a++b)=weight a+weight b:=by unfold weight;simp
theorem wz(a b:List Bs):G4 (a++b)=G4 a+G4 b:=by unfold G4;simp
theorem DF(ps:List Pr)(i:Nat):weight (ps.take i)+weight (ps.drop i)=weight ps:=by rw[←Cg,Ym]
theorem Ze4(ks:List Bs)(i:Nat):G4 (ks.take i)≤G4 ks:=by
 have:G4 (ks.take i)+G4 (ks.drop i)=G4 ks:=by rw[←wz,Ym]
 omega
theorem Ze5(ks:List Bs)(i:Nat):G4 (ks.drop i)≤G4 ks:=by
 have:G4 (ks.take i)+G4 (ks.drop i)=G4 ks:=by rw[←wz,Ym]
 omega
theorem VM :∀ {ks:List Bs},(∀k∈ks,isKey k=true)→G4 ks≤33*ks.length
 |[],_=>Zj _
 |k::ks,h=>by
  have h1:=(Rh (h k (Zm ..))).2;have h2:=VM (fun x hx=>h x (Zs _ hx));unfold G4 at h2 ⊢;rw[Zr,Uo,Zf];omega
theorem br :∀(ps:List Pr),2*ps.length≤weight ps
 |[]=>Zj _
 |p::ps=>by
  have h2:=br ps;unfold weight at h2 ⊢;rw[Zr,Uo,Zf];omega
structure He(m:Nd):Prop where
 ok:m.ok=true
 sz:m.size≤160
 ne:m.leaf=true→m.pairs≠[]
theorem He.sm{m:Nd}(h:He m):m.Sm:=by
 have hs:=h.sz;cases hl:m.leaf with
 |true=>
  obtain⟨h1,h2,h3,_⟩:=Mh (Mj h.ok hl);have hw:=br m.pairs;rw[Nf hl]at hs;refine⟨by omega,by rw[h2];simp,by rw[h3];simp⟩
 |false=>
  obtain⟨h1,h2,h3,h4,h5,_⟩:=Mk (M6 h.ok hl);refine⟨by rw[h2];simp,by omega,by omega⟩
structure Big(n:Nd):Prop where
 ok:n.ok=true
 sm:n.Sm
 ne:n.leaf=true→n.pairs≠[]
 w:weight n.pairs≤100000
 kw:G4 n.keys≤100000
structure jw(n a:Nd)(k:Bs)(b:Nd):Prop where
 eq:Gd a k b=n
 ba:Big a
 bb:Big b
 la:a.leaf=n.leaf
 lb:b.leaf=n.leaf
 ma:a.pairs.length+a.kids.length<n.pairs.length+n.kids.length
 mb:b.pairs.length+b.kids.length<n.pairs.length+n.kids.length
 hk:b.leaf=true→(b.pairs.head?).map (·.1)=some k
theorem DR{n:Nd}(h:Big n)(hl:n.leaf=true){ps:List Pr}(hsub:(∃i,ps=n.pairs.take i)∨∃i,ps=n.pairs.drop i)(hne:ps≠[]):Big (Gj ps):=by
 have hlo:=Mj h.ok hl;have hpo:=Cf hlo;obtain⟨h1,h2,h3,h4,h5,h6⟩:=Mh hlo;have hsm:=h.sm;have hw:=h.w;have hmem:∀p∈ps,p∈n.pairs:=by
  rcases hsub with⟨i,rfl⟩|⟨i,rfl⟩
  ·exact fun p hp=>V3 hp
  ·exact fun p hp=>V5 hp
 have hlen:ps.length≤n.pairs.length:=by
  rcases hsub with⟨i,rfl⟩|⟨i,rfl⟩
  ·rw[Zq];omega
  ·rw[Z5];omega
 have hr:rise (ps.map (·.1))=true:=by
  rcases hsub with⟨i,rfl⟩|⟨i,rfl⟩
  ·rw[J2];exact DD h5 i
  ·rw[V7];exact VG h5 i
 have hwt:weight ps≤weight n.pairs:=by
  rcases hsub with⟨i,rfl⟩|⟨i,rfl⟩
  ·have:=DF n.pairs i;omega
  ·have:=DF n.pairs i;omega
 have hok:(Gj ps).leafOk=true:=jv (by omega) (fun p hp=>⟨(hpo p (hmem p hp)).1,(hpo p (hmem p hp)).2.2⟩) hr;have hp:=hsm.p;exact⟨D3 hok,⟨by show ps.length≤500;omega,by show 0≤500;omega,by show 0≤500;omega⟩,fun _=>hne,by show weight ps≤_;omega,by show G4 []≤_;exact Zj _⟩
theorem DT{n:Nd}(h:Big n)(hl:n.leaf=false){keys:List Bs}{kids:List Nat}(hk:∀k∈keys,k∈n.keys)(hi:∀k∈kids,k∈n.kids)(hkl:keys.length+1=kids.length)(hle:kids.length≤n.kids.length)(hr:rise keys=true)(hw:G4 keys≤G4 n.keys):Big (M1 keys kids):=by
 have hlo:=M6 h.ok hl;obtain⟨h1,h2,h3,h4,h5,h6,h7,h8⟩:=Mk hlo;have hok:(M1 keys kids).innerOk=true:=VH (by omega) (by omega) hkl (fun k hk'=>h6 k (hk k hk')) (fun k hk'=>h7 k (hi k hk')) hr;have hkw:=h.kw;exact⟨by unfold Nd.ok;rw[hok,Jd],⟨by show 0≤500;omega,by show keys.length≤500;omega,by show kids.length≤500;omega⟩,fun e=>(by cases e),by show weight []≤_;exact Zj _,by show G4 keys≤_;omega⟩
theorem Ze6{n:Nd}(h:Big n)(hl:n.leaf=true)(hz:160<n.size):2≤n.pairs.length:=by
 have hpo:=Cf (Mj h.ok hl);rw[Nf hl]at hz;have hne:=h.ne hl;rcases hp:n.pairs with _|⟨p,_|⟨q,r⟩⟩
 ·exact absurd hp hne
 ·rw[hp]at hz;obtain⟨_,g1,g2⟩:=hpo p (by rw[hp];exact Zm ..);have:weight [p]=2+p.1.length+p.2.length:=by unfold weight;simp
  omega
 ·simp only[Zf];omega
theorem Ze7{n:Nd}(h:Big n)(hl:n.leaf=false)(hz:160<n.size):4≤n.kids.length:=by
 obtain⟨h1,h2,h3,h4,h5,h6,h7,h8⟩:=Mk (M6 h.ok hl);have:=VM h6;rw[Db hl]at hz;omega
theorem Ze8(v:Value)(n:Nd)(hv:NdV P v n)(h:Big n)(hz:160<n.size):Sp SET 197 [v] L P (fun r L' P'=>∃a k b,jw n a k b∧SpR a k b L P r L' P'):=by
 cases hl:n.leaf with
 |true=>
  have h2:=Ze6 h hl hz;have hlo:=Mj h.ok hl;refine(Zex L P v n hv h.sm hlo h2 h.w).mono (fun r L' P' ⟨i,hi,h1,hs⟩=>⟨_,_,_,⟨?_,?_,?_,?_,?_,?_,?_,?_⟩,hs⟩)
  ·rw[Ze2];exact(Ze0 hlo).symm
  ·exact DR h hl (.inl ⟨i,rfl⟩) (fun e=>by have:=congrArg Yi e;rw[Zq,Zo]at this;omega)
  ·exact DR h hl (.inr ⟨i,rfl⟩) (fun e=>by have:=congrArg Yi e;rw[Z5,Zo]at this;omega)
  ·rw[hl];rfl
  ·rw[hl];rfl
  ·show(n.pairs.take i).length+0<_;rw[Zq];omega
  ·show(n.pairs.drop i).length+0<_;rw[Z5];omega
  ·intro _;show((n.pairs.drop i).head?).map _=_;rw[List.head?_drop,Zn hi];rfl
 |false=>
  have h4:=Ze7 h hl hz;have hlo:=M6 h.ok hl;obtain⟨g1,g2,g3,g4,g5,g6,g7,g8⟩:=Mk hlo;have hsm:=h.sm;refine(Zey L P v n (n.kids.length/2) rfl hv hsm hlo h4 (by omega)).mono (fun r L' P' hs=>⟨_,_,_,⟨?_,?_,?_,?_,?_,?_,?_,?_⟩,hs⟩)
  ·rw[Ze3 _ _ _ (by omega)];exact(Ze1 hlo).symm
  ·exact DT h hl (fun k hk=>V3 hk) (fun k hk=>V3 hk) (by rw[Zq,Zq];omega) (by rw[Zq];omega) (DD g8 _) (Ze4 _ _)
  ·exact DT h hl (fun k hk=>V5 hk) (fun k hk=>V5 hk) (by rw[Z5,Z5];omega) (by rw[Z5];omega) (VG g8 _) (Ze5 _ _)
  ·rw[hl];rfl
  ·rw[hl];rfl
  ·show 0+(n.kids.take _).length<_;rw[Zq];omega
  ·show 0+(n.kids.drop _).length<_;rw[Z5];omega
  ·intro e;cases e
inductive Hi(P:List Asn):List (List Value)→List Nd→Prop
 |nil:Hi P [] []
 |cons {v:List Value} {n:Nd} {vs:List (List Value)} {ns:List Nd} (h1:v.length=4) (h2:ones v=true) (h3:NdV P (.agg ⟨v⟩) n) (h:Hi P vs ns):Hi P (v::vs) (n::ns)
theorem NdV.sub{P P':List Asn}{v:Value}{n:Nd}(h:NdV P v n)(hs:∀A∈P,A∈P'):NdV P' v n:=by
 obtain⟨pv,kv,iv,h1,h2,h3,h4⟩:=h.ex;exact⟨⟨pv,kv,iv,h1,hs _ h2,hs _ h3,hs _ h4⟩⟩
theorem Hi.sub{P P':List Asn}{vs:List (List Value)}{ns:List Nd}(h:Hi P vs ns)(hs:∀A∈P,A∈P'):Hi P' vs ns:=by
 induction h with
 |nil=>exact .nil
 |cons h1 h2 h3 _ ih=>exact .cons h1 h2 (h3.sub hs) ih
theorem Hi.app{P:List Asn}{vs ws:List (List Value)}{ns ms:List Nd}(h:Hi P vs ns)(h':Hi P ws ms):Hi P (vs++ws) (ns++ms):=by
 induction h with
 |nil=>exact h'
 |cons h1 h2 h3 _ ih=>exact .cons h1 h2 h3 ih
theorem Hi.len{P:List Asn}{vs:List (List Value)}{ns:List Nd}(h:Hi P vs ns):vs.length=ns.length:=by
 induction h with
 |nil=>rfl
 |cons _ _ _ _ ih=>rw[Zf,Zf,ih]
theorem Hi.ones{P:List Asn}{vs:List (List Value)}{ns:List Nd}(h:Hi P vs ns):∀v∈vs,Go.Ax.ones v=true:=by
 induction h with
 |nil=>exact fun v hv=>by cases hv
 |cons h1 h2 h3 _ ih=>
  intro v hv;rcases Zg.1 hv with rfl|hv
  ·exact h2
  ·exact ih v hv
def jx(n:Nd)(key:Bs)(L P:List Asn)(r:Value)(L' P':List Asn):Prop:=∃l ks n0 rest vs,r=.tuple ⟨[l,ks]⟩∧L'=Ow 1 ks ((key::rest.map (·.1)).map encS)::Ow 4 l vs::L∧Hi P' vs (n0::rest.map (·.2))∧(∀A∈P,A∈P')∧glue n0 rest=n∧(∀m∈n0::rest.map (·.2),He m∧m.leaf=n.leaf)∧(∀x∈rest,x.2.leaf=true→(x.2.pairs.head?).map (·.1)=some x.1)∧rest.length+1≤n.pairs.length+n.kids.length
theorem Ent.dropAt{P:List Asn}(L1 L2:List Asn)(C:Asn):Ent (L1++C::L2) P (L1++L2) P:=(Ent.perm (Nx L1 L2 C)).trans Ent.drop
theorem Ent.drop2b{A B C:Asn}{L P:List Asn}:Ent (A::B::C::L) P (A::B::L) P:=Ent.dropAt [A,B] L C
theorem Ze9(v:Value)(n:Nd)(key:Bs)(hv:NdV P v n)(h:Big n)(hz:n.size≤160):Sp SET 144 [v,S key] L P (jx n key L P):=by
 have hv0:=hv;have hsm:=h.sm;have hw:=h.w;have hkw:=h.kw;obtain⟨pv,kv,iv,rfl,hp,hkk,hii⟩:=hv.ex;refine Sp.fact (Gi (.s (.p hp))) fun⟨ap,cp,ep⟩=>?_;refine Sp.fact (Gi (.s (.p hkk))) fun⟨ak,ck,ek⟩=>?_;refine Sp.fact (Gi (.s (.p hii))) fun⟨ai,ci,ei⟩=>?_;subst ep ek ei;refine .bo (fn:=Tryz.f144) (N:=45) ?_;refine .seq (.region ?_);refine .bx (cs:=[_,_,_,_]) fun b2=>?_;refine .pu .as (.pu .as (.nil (.seq (.seq (.region (.lda (vs:=[_,_,_,_]) ?_))))));refine .call (Ts _ _ _ n hv0 hsm.small (by omega) (by omega)) ?_;rintro _ L P ⟨rfl,rfl,rfl⟩;refine .pu .cy (.nil ?_);refine .yes rfl (.seq (.region (.lda (vs:=[_,_,_,_]) ?_)));refine .bl (k:=4) (es:=[[_,_,_,_]]) fun v18=>?_;refine .pu .mv ?_;refine .bl (k:=1) (es:=[[_]]) fun v20=>?_;refine .pu .as (.pu .as (.nil (.ret ?_)));refine⟨_,.tmp rfl (.tmp rfl .nil),_,_,Ent.drop2b,_,_,n,[],_,rfl,rfl,.cons rfl rfl hv0 .nil,fun _ h=>h,rfl,fun m hm=>?_,(fun x hx=>by cases hx),?_⟩
 ·rcases Zg.1 hm with rfl|hm
  ·exact⟨⟨h.ok,hz,h.ne⟩,rfl⟩
  ·cases hm
 ·show 1≤_;cases hl:n.leaf with
  |true=>
   have:=h.ne hl;rcases hp0:n.pairs with _|⟨p,r⟩
   ·exact absurd hp0 this
   ·simp only[Zf];omega
  |false=>
   obtain⟨_,_,g3,_⟩:=Mk (M6 h.ok hl);omega
theorem Zfa{n a b n1 n2:Nd}{k:Bs}{r1 r2:List (Bs×Nd)}(h:jw n a k b)(g1:glue n1 r1=a)(g2:glue n2 r2=b)(p1:∀m∈n1::r1.map (·.2),He m∧m.leaf=a.leaf)(p2:∀m∈n2::r2.map (·.2),He m∧m.leaf=b.leaf):glue n1 (r1++(k,n2)::r2)=n:=by
 rw[Zez _ _ _ _ _ (by rw[(p1 n1 (Zm ..)).2,(p2 n2 (Zm ..)).2,h.la,h.lb]),g1,g2,h.eq]
theorem Zfb{n a b n1 n2:Nd}{k:Bs}{r1 r2:List (Bs×Nd)}(h:jw n a k b)(p1:∀m∈n1::r1.map (·.2),He m∧m.leaf=a.leaf)(p2:∀m∈n2::r2.map (·.2),He m∧m.leaf=b.leaf):∀m∈n1::(r1++(k,n2)::r2).map (·.2),He m∧m.leaf=n.leaf:=fun m hm=>by
 have hm:m∈(n1::r1.map (·.2))++(n2::r2.map (·.2)):=by simpa using hm
 rcases Zk.1 hm with hm|hm
 ·exact⟨(p1 m hm).1,(p1 m hm).2.trans h.la⟩
 ·exact⟨(p2 m hm).1,(p2 m hm).2.trans h.lb⟩
theorem Zfc{n a b n2:Nd}{k:Bs}{r1 r2:List (Bs×Nd)}(h:jw n a k b)(g2:glue n2 r2=b)(p2:∀m∈n2::r2.map (·.2),He m∧m.leaf=b.leaf)(q1:∀x∈r1,x.2.leaf=true→(x.2.pairs.head?).map (·.1)=some x.1)(q2:∀x∈r2,x.2.leaf=true→(x.2.pairs.head?).map (·.1)=some x.1):∀x∈r1++(k,n2)::r2,x.2.leaf=true→(x.2.pairs.head?).map (·.1)=some x.1:=fun x hx hl=>by
 rcases Zk.1 hx with hx|hx
 ·exact q1 x hx hl
 ·rcases Zg.1 hx with rfl|hx
  ·obtain⟨g,gl⟩:=p2 n2 (Zm ..);have hk:=h.hk (by rw[←gl];exact hl);rw[←g2,VK]at hk;have hne:=g.ne hl;rcases hp:n2.pairs with _|⟨p,r⟩
   ·exact absurd hp hne
   ·first
     |exact hk
     |(rw[hp]at hk;exact hk)
  ·exact q2 x hx hl
theorem Zfd{n a b n1 n2:Nd}{k:Bs}{r1 r2:List (Bs×Nd)}(h:jw n a k b)(g1:glue n1 r1=a)(g2:glue n2 r2=b)(d1:r1.length+1≤a.pairs.length+a.kids.length)(d2:r2.length+1≤b.pairs.length+b.kids.length):(r1++(k,n2)::r2).length+1≤n.pairs.length+n.kids.length:=by
 have e:=h.eq;have e1:n.pairs=a.pairs++b.pairs:=by rw[←e];rfl
 have e2:n.kids=a.kids++b.kids:=by rw[←e];rfl
 rw[e1,e2,Zd,Zd,Zd,Zf];omega
theorem Zfe(m:Nat)(ih:∀(n:Nd),n.pairs.length+n.kids.length<m→Big n→∀(L P:List Asn) (v:Value) (key:Bs),NdV P v n→Sp SET 144 [v,S key] L P (jx n key L P))(L P:List Asn)(v:Value)(n:Nd)(key:Bs)(hm:n.pairs.length+n.kids.length≤m)(hv:NdV P v n)(h:Big n)(hz:160<n.size):Sp SET 144 [v,S key] L P (jx n key L P):=by
 have hv0:=hv;have hsm:=h.sm;have hw:=h.w;have hkw:=h.kw;have s1:=hsm.p;have s2:=hsm.i;obtain⟨pv,kv,iv,rfl,hp,hkk,hii⟩:=hv.ex;refine .bo (fn:=Tryz.f144) (N:=45) ?_;refine .seq (.region ?_);refine .bx (cs:=[_,_,_,_]) fun b2=>?_;refine .pu .as (.pu .as (.nil (.seq (.seq (.region (.lda (vs:=[_,_,_,_]) ?_))))));refine .call (Ts _ _ _ n hv0 hsm.small (by omega) (by omega)) ?_;rintro _ L P ⟨rfl,rfl,rfl⟩;refine .pu .cn (.nil ?_);refine .no rfl (.skip (.seq (.region (.lda (vs:=[_,_,_,_]) ?_))));refine .call (Ze8 _ _ _ n hv0 h hz) ?_;rintro _ _ _ ⟨a,k,b,hsp,va,vb,rfl,hva,hvb,rfl,hsub⟩;obtain⟨pa,ka,ia,rfl,hpa,hka,hia⟩:=hva.ex;obtain⟨pb,kb,ib,rfl,hpb,hkb,hib⟩:=hvb.ex;refine .fact (Gi (.s (.p hpa))) fun⟨a1,c1,e1⟩=>?_;refine .fact (Gi (.s (.p hka))) fun⟨a2,c2,e2⟩=>?_;refine .fact (Gi (.s (.p hia))) fun⟨a3,c3,e3⟩=>?_
 refine .fact (Gi (.s (.p hpb))) fun⟨a4,c4,e4⟩=>?_;refine .fact (Gi (.s (.p hkb))) fun⟨a5,c5,e5⟩=>?_;refine .fact (Gi (.s (.p hib))) fun⟨a6,c6,e6⟩=>?_;subst e1 e2 e3 e4 e5 e6;refine .pu .mv (.pu .ex (.pu .ex (.pu .ex (.pu .ex ?_))));refine .nw (cs:=[.bool false,.slice none 0 0,.slice none 0 0,.slice none 0 0]) fun b6=>?_;refine .nw (cs:=[.bool false,.slice none 0 0,.slice none 0 0,.slice none 0 0]) fun b8=>?_;refine .st (vs:=[_,_,_,_]) ?_;refine .pu .as (.st (vs:=[_,_,_,_]) ?_);refine .pu .as (.nil (.seq (.region (.lda (vs:=[_,_,_,_]) ?_))));refine .pu .mv ?_;refine .call (ih a (by have:=hsp.ma;omega) hsp.ba _ _ _ key hva) ?_;rintro _ _ _ ⟨l1,k1,n1,r1,vs1,rfl,rfl,hn1,hs1,g1,p1,q1,d1⟩;refine .pu .mv (.pu .ex (.pu .ex (.pu .as (.pu .as (.nil (.seq (.region (.lda (vs:=[_,_,_,_]) ?_))))))));refine .pu .mv ?_;refine .call (ih b (by have:=hsp.mb;omega) hsp.bb _ _ _ k (hvb.sub hs1)) ?_;rintro _ _ _ ⟨l2,k2,n2,r2,vs2,rfl,rfl,hn2,hs2,g2,p2,q2,d2⟩
 refine .pu .mv (.pu .ex (.pu .ex (.pu .as (.pu .as (.nil (.seq (.region (.pu .mv (.pu .mv ?_)))))))));have l1n:=hn1.len;have l2n:=hn2.len;have ba1:=hsp.ba.sm;have bb1:=hsp.bb.sm;have x1:=ba1.p;have x2:=ba1.i;have x3:=bb1.p;have x4:=bb1.i;simp only[Zf,Zc]at l1n l2n;refine .ap (fun v42=>?_) (hr:=.s (.s (.s .z))) (hw:=.o .l1) (hn:=by show(vs1.length+vs2.length)*80≤_;omega) (ho:=hn2.ones);refine .pu .mv (.pu .mv ?_);refine .ap (fun v45=>?_) (hr:=.s (.s (.s .z))) (hw:=.o .l1) (hn:=by simp only[Zc,Zf];show(r1.length+1+(r2.length+1))*16≤_;omega) (ho:=Da _);refine .pu .as (.pu .as (.nil (.ret ?_)));refine⟨_,.tmp rfl (.tmp rfl .nil),_,_,(Ent.trans (Ent.dropAt [_,_] _ _) (Ent.trans (Ent.dropAt [_,_] _ _) (Ent.trans (Ent.dropAt [_,_] _ _) (Ent.trans (Ent.dropAt [_,_] _ _) (Ent.dropAt [_,_] _ _))))),_,_,n1,r1++(k,n2)::r2,vs1++vs2,rfl,?_,?_,fun A hA=>hs2 _ (hs1 _ (hsub _ hA)),?_,?_,?_,?_⟩
 ·rw[show(key::(r1++(k,n2)::r2).map (·.1))=(key::r1.map (·.1))++(k::r2.map (·.1)) by simp,Zp];rfl
 ·rw[Zp];exact(hn1.sub hs2).app hn2
 ·exact Zfa hsp g1 g2 p1 p2
 ·exact Zfb hsp p1 p2
 ·exact Zfc hsp g2 p2 q1 q2
 ·exact Zfd hsp g1 g2 d1 d2
theorem Zff(v:Value)(n:Nd)(key:Bs)(hv:NdV P v n)(h:Big n):Sp SET 144 [v,S key] L P (jx n key L P):=by
 have key:∀(m:Nat) (n:Nd),n.pairs.length+n.kids.length<m→Big n→∀(L P:List Asn) (v:Value) (key:Bs),NdV P v n→Sp SET 144 [v,S key] L P (jx n key L P):=by
  intro m
  induction m with
  |zero=>intro n hm;omega
  |succ m ih=>
   intro n hm hb L P v key hv;rcases Zt 160 n.size with hz|hz
   ·exact Zfe m ih L P v n key (by omega) hv hb hz
   ·exact Ze9 L P v n key hv hb hz
 exact key _ n (U6 _) h L P v _ hv
abbrev Pc :=Bs×Nd
def Ri :List Pc→Nd
 |[]=>Gj []
 |(_,n)::r=>glue n r
theorem DW :∀(r:List Pc) (a:Nd),a.leaf=false→(glue a r).keys=a.keys++r.flatMap (fun x=>x.1::x.2.keys)
 |[],a,_=>by simp[glue]
 |(k,m)::r,a,h=>by
  show(glue (Gd a k m) r).keys=_;rw[DW r (Gd a k m) (show(Gd a k m).leaf=false from h)];have e:(Gd a k m).keys=a.keys++(k::m.keys):=by unfold Gd;rw[h];rfl
  rw[e,Zx,Zu]
theorem Zfg(r1 t:List Pc)(x y:Pc)(h:∀m∈(r1++x::y::t).map (·.2),m.leaf=x.2.leaf):Ri (r1++(x.1,Gd x.2 y.1 y.2)::t)=Ri (r1++x::y::t):=by
 obtain⟨kx,x⟩:=x;obtain⟨ky,y⟩:=y;have hy:y.leaf=x.leaf:=h y (by simp);rcases r1 with _|⟨⟨k0,n0⟩,r1⟩
 ·rfl
 ·show glue n0 (r1++(kx,Gd x ky y)::t)=glue n0 (r1++(kx,x)::(ky,y)::t);rw[ww,ww];show glue (Gd (glue n0 r1) kx (Gd x ky y)) t=glue (Gd (Gd (glue n0 r1) kx x) ky y) t;rw[VU _ _ _ _ _ (by rw[VJ];exact h n0 (by simp))]
theorem DL(r:List Pc):(Ri r).pairs=r.flatMap (fun x=>x.2.pairs):=by
 rcases r with _|⟨⟨k,n⟩,r⟩
 ·rfl
 ·show(glue n r).pairs=_;rw[VK,Zx]
theorem FZ(r:List Pc):(Ri r).kids=r.flatMap (fun x=>x.2.kids):=by
 rcases r with _|⟨⟨k,n⟩,r⟩
 ·rfl
 ·show(glue n r).kids=_;rw[DC,Zx]
theorem VN(k:Bs)(n:Nd)(r:List Pc)(h:n.leaf=false):k::(Ri ((k,n)::r)).keys=((k,n)::r).flatMap (fun x=>x.1::x.2.keys):=by
 show k::(glue n r).keys=_;rw[DW r n h,Zx];rfl
structure M2(n:Nd)(ps:List Pc):Prop where
 ne:ps≠[]
 gl:Ri ps=n
 ok:∀m∈ps.map (·.2),He m∧m.leaf=n.leaf
 ky:∀x∈ps.tail,x.2.leaf=true→(x.2.pairs.head?).map (·.1)=some x.1
theorem M2.merge_ok{n:Nd}{r1 t:List Pc}{x y:Pc}(h:M2 n (r1++x::y::t))(hn:n.ok=true):(Gd x.2 y.1 y.2).ok=true∧isKey y.1=true∧x.2.leaf=y.2.leaf∧(Gd x.2 y.1 y.2).pairs.length+(Gd x.2 y.1 y.2).kids.length≤n.pairs.length+n.kids.length:=by
 obtain⟨hx,hxl⟩:=h.ok x.2 (by simp);obtain⟨hy,hyl⟩:=h.ok y.2 (by simp);have hxy:x.2.leaf=y.2.leaf:=by rw[hxl,hyl]
 have ep:=DL (r1++x::y::t);have ek:=FZ (r1++x::y::t);rw[h.gl]at ep ek;simp only[Yd,Zx]at ep ek;have hlen:(Gd x.2 y.1 y.2).pairs.length+(Gd x.2 y.1 y.2).kids.length≤n.pairs.length+n.kids.length:=by
  rw[ep,ek];show(x.2.pairs++y.2.pairs).length+(x.2.kids++y.2.kids).length≤_;simp only[Zd];omega
 have hymem:y∈(r1++x::y::t).tail:=by
  rcases r1 with _|⟨z,r1⟩
  ·exact Zm ..
  ·show y∈r1++x::y::t;simp
 cases hl:n.leaf with
 |true=>
  have hlx:=Mj hx.ok (hxl.trans hl);have hly:=Mj hy.ok (hyl.trans hl);obtain⟨a1,a2,a3,a4,a5,a6⟩:=Mh hlx;obtain⟨b1,b2,b3,b4,b5,b6⟩:=Mh hly;obtain⟨c1,c2,c3,c4,c5,c6⟩:=Mh (Mj hn hl);have em:Gd x.2 y.1 y.2=Gj (x.2.pairs++y.2.pairs):=by
   unfold Gd Gj;rw[a1,a3,b3];rfl
  have hkey:isKey y.1=true:=by
   have hk:=h.ky y hymem b1;have hne:=hy.ne b1;rcases hp:y.2.pairs with _|⟨p,r⟩
   ·exact absurd hp hne
   ·rw[hp]at hk;have e:p.1=y.1:=Option.some.inj hk;rw[←e];exact(Cf hly p (by rw[hp];exact Zm ..)).1
  refine⟨?_,hkey,hxy,hlen⟩;rw[em];refine D3 (jv ?_ (fun p hp=>?_) ?_)
  ·have:=congrArg Yi ep;simp only[Zd]at this ⊢;omega
  ·rcases Zk.1 hp with hp|hp
   ·have:=Cf hlx p hp;exact⟨this.1,this.2.2⟩
   ·have:=Cf hly p hp;exact⟨this.1,this.2.2⟩
  ·refine wx c5 ⟨(r1.flatMap (fun x=>x.2.pairs)).map (·.1),(t.flatMap (fun x=>x.2.pairs)).map (·.1),?_⟩;rw[ep];simp only[Zp,Zu]
 |false=>
  have hlx:=M6 hx.ok (hxl.trans hl);have hly:=M6 hy.ok (hyl.trans hl);obtain⟨a1,a2,a3,a4,a5,a6,a7,a8⟩:=Mk hlx;obtain⟨b1,b2,b3,b4,b5,b6,b7,b8⟩:=Mk hly;obtain⟨c1,c2,c3,c4,c5,c6,c7,c8⟩:=Mk (M6 hn hl);have em:Gd x.2 y.1 y.2=M1 (x.2.keys++(y.1::y.2.keys)) (x.2.kids++y.2.kids):=by
   unfold Gd M1;rw[a1,a2,b2];rfl
  have hkeys:∃a b,n.keys=a++(x.2.keys++(y.1::y.2.keys))++b:=by
   rcases r1 with _|⟨⟨k0,n0⟩,r1⟩
   ·have e:=VN x.1 x.2 (y::t) a1;have e2:Ri ((x.1,x.2)::y::t)=n:=h.gl;rw[e2]at e;simp only[Zx,Y0,List.cons.injEq,true_and]at e;exact⟨[],t.flatMap (fun x=>x.1::x.2.keys),by rw[e];simp[Zu]⟩
   ·have hn0:n0.leaf=false:=((h.ok n0 (by simp)).2).trans hl;have e:=VN k0 n0 (r1++x::y::t) hn0;have e2:Ri ((k0,n0)::(r1++x::y::t))=n:=h.gl;rw[e2]at e;simp only[Zx,Yd,Y0,List.cons.injEq,true_and]at e;exact⟨n0.keys++(r1.flatMap (fun x=>x.1::x.2.keys)++[x.1]),t.flatMap (fun x=>x.1::x.2.keys),by rw[e];simp[Zu]⟩
  obtain⟨ka,kb,hkab⟩:=hkeys;have hmem:∀k∈x.2.keys++(y.1::y.2.keys),k∈n.keys:=fun k hk=>by
   rw[hkab];exact Zk.2 (.inl (Zk.2 (.inr hk)))
  refine⟨?_,c6 y.1 (hmem _ (by simp)),hxy,hlen⟩;rw[em];have hk2:=congrArg Yi ek;simp only[Zd]at hk2;have:(M1 (x.2.keys++(y.1::y.2.keys)) (x.2.kids++y.2.kids)).innerOk=true:=VH (by rw[Zd];omega) (by rw[Zd];omega) (by simp only[Zd,Zf];omega) (fun k hk=>c6 k (hmem k hk)) (fun k hk=>by
   rcases Zk.1 hk with hk|hk
   ·exact a7 k hk
   ·exact b7 k hk) (wx c8 ⟨ka,kb,hkab⟩)
  unfold Nd.ok;rw[this,Jd]
theorem M2.merge{n:Nd}{r1 t:List Pc}{x y:Pc}(h:M2 n (r1++x::y::t))(hn:n.ok=true)(hz:(Gd x.2 y.1 y.2).size≤160):M2 n (r1++(x.1,Gd x.2 y.1 y.2)::t):=by
 obtain⟨m1,m2,m3,m4⟩:=h.merge_ok hn;obtain⟨hx,hxl⟩:=h.ok x.2 (by simp);have hall:∀m∈(r1++x::y::t).map (·.2),m.leaf=x.2.leaf:=fun m hm=>by rw[(h.ok m hm).2,hxl]
 have hnem:x.2.leaf=true→(Gd x.2 y.1 y.2).pairs≠[]:=fun hl=>by
  show x.2.pairs++y.2.pairs≠[];have:=hx.ne hl;simp[this]
 refine⟨by simp,by rw[Zfg r1 t x y hall];exact h.gl,fun m hm=>?_,fun z hz2 hl=>?_⟩
 ·simp only[Zp,Zr,Zk,Zg]at hm;rcases hm with hm|rfl|hm
  ·exact h.ok m (by simp only[Zp,Zr,Zk,Zg];exact .inl hm)
  ·exact⟨⟨m1,hz,hnem⟩,hxl⟩
  ·exact h.ok m (by simp only[Zp,Zr,Zk,Zg];exact .inr (.inr (.inr hm)))
 ·rcases r1 with _|⟨z0,r1⟩
  ·exact h.ky z (Zs _ hz2) hl
  ·have hz2:z∈r1++(x.1,Gd x.2 y.1 y.2)::t:=hz2;rcases Zk.1 hz2 with hz2|hz2
   ·exact h.ky z (by show z∈r1++x::y::t;exact Zk.2 (.inl hz2)) hl
   ·rcases Zg.1 hz2 with rfl|hz2
    ·have:=h.ky x (by show x∈r1++x::y::t;simp) hl;show((x.2.pairs++y.2.pairs).head?).map _=_;have hne:=hx.ne hl;rcases hp:x.2.pairs with _|⟨p,r⟩
     ·exact absurd hp hne
     ·rw[hp]at this;exact this
    ·exact h.ky z (by show z∈r1++x::y::t;simp[hz2]) hl
def H8 :List Pc→Prop
 |x::y::r=>160<(Gd x.2 y.1 y.2).size∧H8 (y::r)
 |_=>True
theorem Zfh{w x y:Nd}{k1 k2:Bs}(h:w.leaf=x.leaf):(Gd w k1 x).size≤(Gd w k1 (Gd x k2 y)).size:=by
 cases hl:w.leaf with
 |true=>
  rw[Nf (show(Gd w k1 x).leaf=true from hl),Nf (show(Gd w k1 (Gd x k2 y)).leaf=true from hl)];show 2+weight (w.pairs++x.pairs)≤2+weight (w.pairs++(x.pairs++y.pairs));simp only[Cg];omega
 |false=>
  rw[Db (show(Gd w k1 x).leaf=false from hl),Db (show(Gd w k1 (Gd x k2 y)).leaf=false from hl)];have e1:(Gd w k1 x).keys=w.keys++(k1::x.keys):=by unfold Gd;rw[hl];rfl
  have e2:(Gd w k1 (Gd x k2 y)).keys=w.keys++(k1::(x.keys++(k2::y.keys))):=by unfold Gd;rw[hl,←h,hl];rfl
  rw[e1,e2];show 2+2*(w.kids++x.kids).length+_≤2+2*(w.kids++(x.kids++y.kids)).length+_;have c1:∀(a:Bs) (l:List Bs),G4 (a::l)=1+a.length+G4 l:=fun a l=>by unfold G4;simp
  simp only[wz,c1,Zd];omega
theorem H8.app{y:Pc}:∀ {r:List Pc} {x:Pc},H8 (r++[x])→160<(Gd x.2 y.1 y.2).size→H8 (r++[x]++[y])
 |[],x,_,h=>⟨h,trivial⟩
 |[z],x,h,h2=>⟨h.1,h2,trivial⟩
 |z::z2::r,x,h,h2=>⟨h.1,H8.app (r:=z2::r) h.2 h2⟩
theorem H8.merge{k:Bs}{m:Nd}:∀ {r:List Pc} {x:Pc},H8 (r++[x])→(∀m2∈(r++[x]).map (·.2),m2.leaf=x.2.leaf)→H8 (r++[(x.1,Gd x.2 k m)])
 |[],x,_,_=>trivial
 |[z],x,h,hl=>⟨Nat.lt_of_lt_of_le h.1 (Zfh (hl z.2 (by simp))),trivial⟩
 |z::z2::r,x,h,hl=>⟨h.1,H8.merge (r:=z2::r) h.2 (fun m hm=>hl m (by simp only[Y0,Zr,Zg]at hm ⊢;exact .inr hm))⟩
theorem Hi.mid{P:List Asn}{x:Nd}{ns:List Nd}:∀ {ms:List Nd} {vs:List (List Value)},Hi P vs (ms++x::ns)→∃v1 v v2,vs=v1++v::v2∧v1.length=ms.length∧Hi P v1 ms∧v.length=4∧Go.Ax.ones v=true∧NdV P (.agg ⟨v⟩) x∧Hi P v2 ns
 |[],_,.cons a b c d=>⟨[],_,_,rfl,rfl,.nil,a,b,c,d⟩
 |_::ms,_,.cons a b c d=>by
  obtain⟨v1,v,v2,h1,h2,h3,h4⟩:=Hi.mid (ms:=ms) d;exact⟨_::v1,v,v2,by rw[h1];rfl,by rw[Zf,Zf,h2],.cons a b c h3,h4⟩
theorem Zfi(b c i p:Nat)(es:List (List Value))(hip:i<p)(hp:p≤es.length)(hc:es.length≤c/2)(hl:es.length≤1000000)(ho:∀f∈es,ones f=true):Sp SET 195 [.slice (some ⟨b,0,none⟩) es.length c,.int .i64 (i:Nat),.int .i64 (p:Nat)] (Ow 4 (.slice (some ⟨b,0,none⟩) es.length c) es::L) P (fun r L' P'=>r=.slice (some ⟨b,0,none⟩) (i+(es.length-p)) c∧L'=Ow 4 r (es.take i++es.drop p)::L∧P'=P):=by
 refine .bo (fn:=Tryz.f195) (N:=32) ?_;refine .seq (.region (.pu .as (.nil (.seq (.region (.pu .mv (.pu .mv (.pu .mv (.pu .mv (.lk .ln ?_))))))))));refine .pu (.sl3 (k:=4) (p:=i) (q:=p) (m:=es.length) hc hp (by omega)) ?_;refine .nil (.seq (.seq (.region (.pu .mv (.pu .mv (.pu .cn (.nil ?_)))))));refine .no rfl (.skip (.seq (.region (.pu .mv (.lk .ln ?_)))));refine .pu .as (.nil ?_);refine .seq (.drawn fun _=>?_);refine .pu .mv (.pu .mv ?_);refine .lo 0 0 (.sl (k:=4) (p:=0) (q:=i) (es:=es) rfl (fun m hm=>bdn)) (.o .l0) ?_;refine .pu .mv (.pu .mv ?_);refine .lo 0 0 (.sl (k:=4) (p:=p) (q:=es.length) (es:=es) bdn (fun m hm=>rfl)) (.o .l0) ?_;refine .wo (WO.apself (k:=4) (i:=i) (p:=p) (es:=es) rfl rfl rfl rfl rfl rfl rfl rfl .z rfl (by omega) hp (by show es.length*80≤_;omega) ho ?_);refine .pu .as (.nil (.cons (.yes (.o .l0) (.skip .nil)) (.cons (.yes (.o .l0) (.skip .nil)) .nil)) (.seq (.region (.pu .mv (.pu .mv ?_)))))
 have hlen:(es.take i++es.drop p).length=i+(es.length-p):=by rw[Zd,Zq,Z5];omega
 refine .lk .ln ?_;refine .pu .mv ?_;refine .slb (k:=4) .l0 (bdn (n:=(es.take i++es.drop p).length) (hn:=by omega)) (bdn (n:=es.length)) hc ?_;refine .clrt (k:=4) (b:=b) (o:=0+(es.take i++es.drop p).length*4) (es:=es.take i++es.drop p) (r:=es.length-(es.take i++es.drop p).length) ?_ .z (by omega) (by omega) (.inr (by omega));refine .nil (.seq (.region (.pu .mv (.pu .as (.nil (.ret ?_))))));exact⟨_,.tmp rfl .nil,_,_,.refl _ _,rfl,rfl,rfl⟩
structure TdS where
 r:List Pc
 x:Pc
 t:List Pc
 lv:Value
 kv:Value
 vs:List (List Value)
 P:List Asn
structure TdS.Ok(n:Nd)(P:List Asn)(a:TdS):Prop where
 pc:M2 n (a.r++a.x::a.t)
 ti:H8 (a.r++[a.x])
 nv:Hi a.P a.vs ((a.r++a.x::a.t).map (·.2))
 sub:∀A∈P,A∈a.P
 ln:(a.r++a.x::a.t).length≤1000
theorem Hi.two{P:List Asn}{x y:Nd}{ns ms:List Nd}{vs:List (List Value)}(h:Hi P vs (ms++x::y::ns)):∃v1 v w v2,vs=v1++v::w::v2∧v1.length=ms.length∧Hi P v1 ms∧v.length=4∧Go.Ax.ones v=true∧NdV P (.agg ⟨v⟩) x∧w.length=4∧Go.Ax.ones w=true∧NdV P (.agg ⟨w⟩) y∧Hi P v2 ns:=by
 obtain⟨v1,v,v2,rfl,h2,h3,h4,h5,h6,h7⟩:=Hi.mid h;obtain⟨w1,w,w2,e1,g2,g3,g4,g5,g6,g7⟩:=Hi.mid (ms:=[]) h7;have:w1=[]:=Yh.1 g2;subst this;exact⟨v1,v,w,w2,by rw[e1];rfl,h2,h3,h4,h5,h6,g4,g5,g6,g7⟩
theorem VB{α:Type}(a:List α)(x y:α)(t:List α):(a++x::y::t).take (a.length+1)++(a++x::y::t).drop (a.length+2)=a++x::t:=by
 rw[List.take_append,Zqf,Z8 (by omega),Vl (by omega)];simp
theorem Zfj{α:Type}(a:List α)(x:α)(t:List α)(i:Nat)(h:i=a.length):(a++x::t)[((i:Nat):Int).toNat]? =some x:=by subst h;simp
theorem FY{α:Type}(a:List α)(x y:α)(t:List α)(i:Nat)(h:i=a.length):(a++x::y::t)[(((i:Nat):Int)+1).toNat]? =some y:=by
 subst h;rw[show((a.length:Int)+1).toNat=a.length+1 by omega,List.getElem?_append_right (by omega)];simp
theorem FX :∀ {ps:List Pr},(∀p∈ps,p.1.length≤32∧p.2.length≤48)→weight ps≤82*ps.length
 |[],_=>Zj _
 |p::ps,h=>by
  have h1:=h p (Zm ..);have h2:=FX (ps:=ps) (fun q hq=>h q (Zs _ hq));unfold weight at h2 ⊢;rw[Zr,Uo,Zf];omega
theorem Nd.ok_sm{n:Nd}(h:n.ok=true):n.Sm:=by
 cases hl:n.leaf with
 |true=>
  obtain⟨h1,h2,h3,h4,_⟩:=Mh (Mj h hl);exact⟨by omega,by rw[h2];simp,by rw[h3];simp⟩
 |false=>
  obtain⟨h1,h2,h3,h4,h5,_⟩:=Mk (M6 h hl);exact⟨by rw[h2];simp,by omega,by omega⟩
theorem Nd.ok_w{n:Nd}(h:n.ok=true):weight n.pairs≤100000∧G4 n.keys≤100000:=by
 cases hl:n.leaf with
 |true=>
  obtain⟨h1,h2,h3,h4,_⟩:=Mh (Mj h hl);have hw:=FX (ps:=n.pairs) (fun p hp=>by
   have:=Cf (Mj h hl) p hp;exact⟨(Rh this.1).2,this.2.2⟩)
  exact⟨by omega,by rw[h2];exact Zj _⟩
 |false=>
  obtain⟨h1,h2,h3,h4,h5,h6,_⟩:=Mk (M6 h hl);have hw:=VM h6;exact⟨by rw[h2];exact Zj _,by omega⟩
theorem w6{a b:List Value}(h:Value.agg ⟨a⟩=.agg ⟨b⟩):a=b:=by
 injection h with h
 injection h
def Zfk(n:Nd)(L P:List Asn)(r:Value)(L' P':List Asn):Prop:=∃l ks ps vs,r=.tuple ⟨[l,ks]⟩∧L'=Ow 1 ks ((ps.map (·.1)).map encS)::Ow 4 l vs::L∧Hi P' vs (ps.map (·.2))∧(∀A∈P,A∈P')∧M2 n ps∧H8 ps
theorem Zfl(lv kv:Value)(n:Nd)(p0:Pc)(ps:List Pc)(vs:List (List Value))(hn:n.ok=true)(hsm:n.Sm)(hp:M2 n (p0::ps))(hv:Hi P vs ((p0::ps).map (·.2)))(hl:(p0::ps).length≤1000):Sp SET 143 [lv,kv] (Ow 1 kv (((p0::ps).map (·.1)).map encS)::Ow 4 lv vs::L) P (Zfk n L P):=by
 refine .bo (fn:=Tryz.f143) (N:=58) ?_;refine .seq (.region (.pu .as (.pu .as (.nil (.seq (.seq (.region (.pu .as (.nil ?_)))))))));refine .block (W.loop (fun a:TdS=>a.Ok n P) (fun a=>a.t.length) (fun a=>[(6,.int .i64 (a.r.length:Nat)),(0,a.lv),(1,a.kv)]) (fun a=>Ow 1 a.kv (((a.r++a.x::a.t).map (·.1)).map encS)::Ow 4 a.lv a.vs::L) (fun a=>a.P) ⟨[],p0,ps,lv,kv,vs,P⟩ ⟨hp,trivial,hv,fun _ h=>h,hl⟩ ⟨rfl,rfl,rfl,trivial⟩ (.refl _ _) (fun a ha=>?_));obtain⟨hpc,hti,hnv,hsub,hln⟩:=ha;generalize a.r=r at hpc hti hnv hln ⊢;generalize a.x=x at hpc hti hnv hln ⊢;generalize a.t=t at hpc hti hnv hln ⊢;generalize a.lv=lv' at ⊢;generalize a.kv=kv' at ⊢;generalize a.vs=vs' at hnv ⊢;generalize a.P=P1 at hnv hsub ⊢;have hlen:=hnv.len;simp only[Zc,Zd,Zf]at hlen hln;refine .seq (.seq (.region (.pu .mv (.pu .add (.pu .mv (.lk .ln ?_))))))
 refine .pu .cmp (.nil ?_);refine .ite rfl (fun ht13=>?_) (fun ht13=>?_)
 ·refine .skip ?_;refine .block (.seq (.drawn fun _=>?_));have h13:=of_decide_eq_true ht13;rcases t with _|⟨y,t⟩
  ·exfalso;simp only[Zo]at hlen;omega
  obtain⟨v1,vx,vy,v2,rfl,l1,n1,a1,b1,c1,a2,b2,c2,n2⟩:=Hi.two (ms:=r.map (·.2)) (x:=x.2) (y:=y.2) (ns:=t.map (·.2)) (by simpa using hnv);rw[Zc]at l1;obtain⟨pvx,kvx,ivx,evx,sx1,sx2,sx3⟩:=c1.ex;obtain⟨pvy,kvy,ivy,evy,sy1,sy2,sy3⟩:=c2.ex;obtain rfl:=w6 evx;obtain rfl:=w6 evy;obtain⟨m1,m2,m3,m4⟩:=hpc.merge_ok hn;obtain⟨hx,hxl⟩:=hpc.ok x.2 (by simp);obtain⟨hy,hyl⟩:=hpc.ok y.2 (by simp);have gx:=Zfj v1 [.bool x.2.leaf,pvx,kvx,ivx] ([.bool y.2.leaf,pvy,kvy,ivy]::v2) r.length l1.symm;have gy:=FY v1 [.bool x.2.leaf,pvx,kvx,ivx] [.bool y.2.leaf,pvy,kvy,ivy] v2 r.length l1.symm;have gk:=FY ((r.map (·.1)).map encS) (encS x.1) (encS y.1) ((t.map (·.1)).map encS) r.length (by rw[Zc,Zc]);have ek:((r++x::y::t).map (·.1)).map encS=(r.map (·.1)).map encS++encS x.1::encS y.1::(t.map (·.1)).map encS:=by simp
  have hms:=Nd.ok_sm m1;obtain⟨hw1,hw2⟩:=Nd.ok_w m1;rw[ek];refine .pu .mv (.pu .mv (.lk .ia ?_));refine .lo 0 0 .la (.mk gx) ?_ (hq:=.agg (.one rfl (.sl (.s (.p sx1)) (.sl (.s (.p sx2)) (.sl (.s (.p sx3)) .nil)))));refine .pu .mv (.pu .mv (.pu .add ?_));refine .lk (.ia (hn:=⟨by omega,by simp only[Zd,Zf,Zc];omega⟩)) ?_;refine .lo 0 0 .le (.mk gk) ?_;refine .pu .mv (.pu .mv (.pu .add (.lk .ia ?_)));refine .lo 0 0 .la (.mk gy) ?_ (hq:=.agg (.one rfl (.sl (.s (.p sy1)) (.sl (.s (.p sy2)) (.sl (.s (.p sy3)) .nil)))));refine .call (DZ _ _ _ _ x.2 y.2 y.1 c1 c2 hx.sm hy.sm hx.ok hy.ok m3 m2 m1 hms) ?_;rintro _ _ _ ⟨vm,rfl,hm,rfl,hsub2⟩;have hm0:=hm;obtain⟨pm,km,im,rfl,hpm,hkm,him⟩:=hm.ex;refine .fact (Gi (.s (.p hpm))) fun⟨am1,cm1,em1⟩=>?_;refine .fact (Gi (.s (.p hkm))) fun⟨am2,cm2,em2⟩=>?_;refine .fact (Gi (.s (.p him))) fun⟨am3,cm3,em3⟩=>?_
  subst em1 em2 em3;refine .pu .mv (.pu .ex (.pu .ex ?_));refine .nw (cs:=[.bool false,.slice none 0 0,.slice none 0 0,.slice none 0 0]) (hlt:=by show∀x∈([]:Hj),_;simp) fun b7=>?_;refine .st (vs:=[_,_,_,_]) ?_;refine .pu .as (.nil (.cons (.yes (.mk gy) (.skip (.skip .nil))) (.cons (.yes (.mk gk) (.skip (.skip .nil))) (.cons (.yes (.mk gx) (.skip (.skip .nil))) .nil))) (.seq (.seq (.region (.pu .mv (.pu .cmp (.pu .mv (.on (.lda (vs:=[_,_,_,_]) ?_)))))))));refine .on ?_;refine .call (Ts _ _ _ _ hm0 hms.small (by omega) (by omega)) ?_;rintro _ L P ⟨rfl,rfl,rfl⟩;refine .on (.pu .cmp (.pu .pk (.nil ?_)));refine .ite rfl (fun ht38=>?_) (fun ht38=>?_)
  ·refine .seq (.region (.pu .mv (.pu .add (.pu .as (.nil (.exit ?_))))));refine⟨⟨r++[x],y,t,lv',kv',v1++[.bool x.2.leaf,pvx,kvx,ivx]::[.bool y.2.leaf,pvy,kvy,ivy]::v2,_⟩,⟨by rw[Zu];exact hpc,H8.app hti (by have h38:(160:Int)<((Gd x.2 y.1 y.2).size:Nat):=of_decide_eq_true ht38;exact Int.ofNat_lt.1 h38),by rw[Zu];exact hnv.sub hsub2,fun A hA=>hsub2 _ (hsub _ hA),by simp only[Zd,Zf,Zo]at hln ⊢;omega⟩,U6 _,⟨?_,rfl,rfl,trivial⟩,?_⟩
   ·show some (Value.int .i64 _)=some (Value.int .i64 _);rw[Zd];rfl
   ·show Ent _ _ (Ow 1 kv' (((r++[x]++y::t).map (·.1)).map encS)::_) _;rw[Zu,show [x]++y::t=x::y::t from rfl,ek];exact Ent.drop
  refine .skip (.seq (.region (.pu .mv (.pu .mv (.lda (vs:=[_,_,_,_]) ?_)))));refine .lk .ia ?_;refine .se (k:=4) (vs:=[_,_,_,_]) (i:=((r.length:Nat):Int).toNat) (e:=[.bool x.2.leaf,pvx,kvx,ivx]) gx (hl:=a1) ?_;refine .nil (.region ?_);have hset:∀vm:List Value,(v1++[.bool x.2.leaf,pvx,kvx,ivx]::[.bool y.2.leaf,pvy,kvy,ivy]::v2).set ((r.length:Nat):Int).toNat vm=v1++vm::[.bool y.2.leaf,pvy,kvy,ivy]::v2:=fun vm=>by
   rw[Yp,←l1,List.set_append_right _ _ (Ze _),Xs];rfl
  rw[hset];have hz:(Gd x.2 y.1 y.2).size≤160:=by
   have h38:¬((160:Int)<((Gd x.2 y.1 y.2).size:Nat)):=of_decide_eq_false ht38;omega
  have hlv:r.length+2≤(v1++[.bool (Gd x.2 y.1 y.2).leaf,.slice am1 ((Gd x.2 y.1 y.2).pairs.map Ge).length cm1,.slice am2 ((Gd x.2 y.1 y.2).keys.map encS).length cm2,.slice am3 ((Gd x.2 y.1 y.2).kids.map encI).length cm3]::[.bool y.2.leaf,pvy,kvy,ivy]::v2).length:=by simp only[Zd,Zf];omega
  have hlk:r.length+2≤((r.map (·.1)).map encS++encS x.1::encS y.1::(t.map (·.1)).map encS).length:=by simp only[Zd,Zf,Zc];omega
  have hlv2:(v1++[.bool (Gd x.2 y.1 y.2).leaf,.slice am1 ((Gd x.2 y.1 y.2).pairs.map Ge).length cm1,.slice am2 ((Gd x.2 y.1 y.2).keys.map encS).length cm2,.slice am3 ((Gd x.2 y.1 y.2).kids.map encI).length cm3]::[.bool y.2.leaf,pvy,kvy,ivy]::v2).length≤1000:=by simp only[Zd,Zf]at hlen hln ⊢;omega
  have hlk2:((r.map (·.1)).map encS++encS x.1::encS y.1::(t.map (·.1)).map encS).length≤1000:=by simp only[Zd,Zf,Zc]at hln ⊢;omega
  have hov:∀f∈v1++[.bool (Gd x.2 y.1 y.2).leaf,.slice am1 ((Gd x.2 y.1 y.2).pairs.map Ge).length cm1,.slice am2 ((Gd x.2 y.1 y.2).keys.map encS).length cm2,.slice am3 ((Gd x.2 y.1 y.2).kids.map encI).length cm3]::[.bool y.2.leaf,pvy,kvy,ivy]::v2,Go.Ax.ones f=true:=fun f hf=>by
   rcases Zk.1 hf with hf|hf
   ·exact n1.ones f hf
   ·rcases Zg.1 hf with rfl|hf
    ·rfl
    ·rcases Zg.1 hf with rfl|hf
     ·exact b2
     ·exact n2.ones f hf
  have hok:∀f∈(r.map (·.1)).map encS++encS x.1::encS y.1::(t.map (·.1)).map encS,Go.Ax.ones f=true:=by rw[←ek];exact Da _
  have hc1:=VB v1 [.bool (Gd x.2 y.1 y.2).leaf,.slice am1 ((Gd x.2 y.1 y.2).pairs.map Ge).length cm1,.slice am2 ((Gd x.2 y.1 y.2).keys.map encS).length cm2,.slice am3 ((Gd x.2 y.1 y.2).kids.map encI).length cm3] [.bool y.2.leaf,pvy,kvy,ivy] v2;rw[l1]at hc1;have hc2:=VB ((r.map (·.1)).map encS) (encS x.1) (encS y.1) ((t.map (·.1)).map encS);rw[Zc,Zc]at hc2;have ek2:((r++(x.1,Gd x.2 y.1 y.2)::t).map (·.1)).map encS=(r.map (·.1)).map encS++encS x.1::(t.map (·.1)).map encS:=by simp
  refine .fact (y7 (k:=4) (.l2) (by simp)) fun⟨bl,cl,hvl,hcl⟩=>?_;refine .fact (y7 (k:=1) (.l1) (by simp)) fun⟨bk,ck,hvk,hck⟩=>?_;subst hvl hvk;refine .pu .mv (.pu .mv (.pu .add (.pu .mv (.pu .add ?_))));refine .call (Sp.ent (Ent.perm (Nx [_,_] _ _)) (Zfi _ _ bl cl (r.length+1) (r.length+2) _ (by omega) hlv hcl (by omega) hov)) ?_;rintro _ L P ⟨rfl,rfl,rfl⟩;refine .pu .mv (.pu .mv (.pu .add (.pu .mv (.pu .add ?_))));refine .call (Sp.ent (Ent.perm (Nx [_,_] _ _)) (BL _ _ bk ck (r.length+1) (r.length+2) _ (by omega) hlk hck (by omega) hok)) ?_;rintro _ L P ⟨rfl,rfl,rfl⟩;rw[hc1,hc2,←ek2];refine .pu .as (.pu .as (.nil ?_));refine⟨⟨r,(x.1,Gd x.2 y.1 y.2),t,_,_,v1++[.bool (Gd x.2 y.1 y.2).leaf,.slice am1 ((Gd x.2 y.1 y.2).pairs.map Ge).length cm1,.slice am2 ((Gd x.2 y.1 y.2).keys.map encS).length cm2,.slice am3 ((Gd x.2 y.1 y.2).kids.map encI).length cm3]::v2,_⟩,⟨hpc.merge hn hz,H8.merge hti (fun m hm=>?_),?_,fun A hA=>hsub2 _ (hsub _ hA),by simp only[Zd,Zf,Zo]at hln ⊢;omega⟩,U6 _,⟨rfl,rfl,rfl,trivial⟩,Ent.drop2b⟩
  ·rw[(hpc.ok m (by simp only[Zp,Zr,Zk,Zg]at hm ⊢;rcases hm with hm|rfl|hm<;>simp_all)).2,hxl]
  ·show Hi _ _ ((r++(x.1,Gd x.2 y.1 y.2)::t).map (·.2));rw[Zp,Zr];exact(n1.sub hsub2).app (.cons rfl rfl hm0 (n2.sub hsub2))
 refine .exit (.seq (.region (.pu .mv (.pu .mv (.pu .as (.pu .as (.nil (.ret ?_))))))));refine⟨_,.tmp rfl (.tmp rfl .nil),_,_,.refl _ _,_,_,r++x::t,vs',rfl,rfl,hnv,hsub,hpc,?_⟩;have h13:=of_decide_eq_false ht13;have ht:t=[]:=Yh.1 (by omega);subst ht;exact hti
theorem v6.ok{a a':AS0}{r:Value}(h:v6 a a' r)(ha:a.Ok):a'.Ok:=by
 rcases h with⟨_,rfl,_⟩|⟨_,b,_,_,_,_,_,h,_⟩
 ·exact ha
 ·exact h
theorem FV(p:Nat)(a:AS0)(hb:a.back≤1000000)(hT:Ro 0 G5∈P):Sp SET 76 [.pointer (some ⟨p,0,none⟩)] (Alc p a::L) P (fun r L' P'=>∃a',v6 a a' r∧L'=Alc p a'::L∧P'=P):=
 Sp.open fun x hx=>(Zcs L P p a x hx hb hT).post (fun v L' P' ⟨a',h,e1,e2⟩=>by
  subst e1 e2;exact⟨_,_,Ent.close x (h.ok hx),a',h,rfl,rfl⟩)
def AS0.give(a:AS0)(b:Nat):AS0:= {a with us:=My a.us b,ls:=Gp a.ls b}
theorem jz(p:Nat)(a:AS0)(b:Nat)(hb:mem a.us b=true):Sp SET 94 [.pointer (some ⟨p,0,none⟩),.int .i64 (b:Nat)] (Alc p a::L) P (fun r L' P'=>r=.int .i64 0∧L'=Alc p (a.give b)::L∧P'=P):=
 Sp.open fun x hx=>(Zct L P p a x hx b hb).post (fun v L' P' ⟨e0,e1,e2⟩=>by
  subst e1 e2;exact⟨_,_,Ent.close x (hx.drop hb),e0,rfl,rfl⟩)
def AS0.settle(a:AS0):AS0:= {a with ls:=List.replicate a.ls.length 0}
theorem Zfm(p:Nat)(a:AS0):Sp SET 97 [.pointer (some ⟨p,0,none⟩)] (Alc p a::L) P (fun r L' P'=>r=.int .i64 (Ht a.ls:Nat)∧L'=Alc p a.settle::L∧P'=P):=
 Sp.open fun x hx=>(Zcu L P p a x hx).post (fun v L' P' ⟨e0,e1,e2⟩=>by
  subst e1 e2;exact⟨_,_,Ent.close x hx.settle,e0,rfl,rfl⟩)
theorem Zfn(p:Nat)(a:AS0):Sp SET 192 [.pointer (some ⟨p,0,none⟩)] (Alc p a::L) P (fun r L' P'=>∃p',r=.pointer (some ⟨p',0,none⟩)∧L'=Alc p' a::Alc p a::L∧P'=P):=
 Sp.open fun x hx=>(Zcw L P p a x hx).post (fun v L' P' ⟨p',x',e0,e1,e2⟩=>by
  subst e1 e2;exact⟨_,_,(Ent.close x' hx).trans (Ent.under (Ent.close x hx) rfl),p',e0,rfl,rfl⟩)
theorem Zfo(p:Nat)(σ:PSt)(k:Int)(s:Bs)(h0:0≤k)(h1:k<σ.n)(hs:σ.get k=some s):Sp SET 70 [.pointer (some ⟨p,0,none⟩),.int .i64 k] (PgS p σ::L) P (fun r L' P'=>r=.tuple ⟨[S s,.int .i64 0]⟩∧L'=PgS p σ::L∧P'=P):=
 Sp.open fun b _=>(Zcx L P p σ b k s h0 h1 hs).post (fun v L' P' ⟨e0,e1,e2⟩=>by
  subst e1 e2;exact⟨_,_,Ent.close b trivial,e0,rfl,rfl⟩)
def PSt.put(σ:PSt)(k:Int)(s:Bs):PSt:= {σ with w:=De σ.w k s}
theorem w7(p:Nat)(σ:PSt)(k:Int)(s:Bs)(h0:0≤k)(h1:k<σ.n)(hl:s.length≤160):Sp SET 139 [.pointer (some ⟨p,0,none⟩),.int .i64 k,S s] (PgS p σ::L) P (fun r L' P'=>r=.int .i64 0∧L'=PgS p (σ.put k s)::L∧P'=P):=
 Sp.open fun b _=>(Zcy L P p σ b k s h0 h1 hl).post (fun v L' P' ⟨e0,e1,e2⟩=>by
  subst e1 e2;exact⟨_,_,Ent.close b trivial,e0,rfl,rfl⟩)
theorem Zfp(w:List (Int×Bs))(k j:Int)(s:Bs):Nm (De w k s) j=if j=k then some s else Nm w j:=by
 induction w with
 |nil=>rfl
 |cons x w ih=>
  obtain⟨a,u⟩:=x;show Nm (if k=a then(k,s)::w else(a,u)::De w k s) j=_;by_cases h:k=a
  ·subst h;rw[if_pos rfl];show(if j=k then some s else Nm w j)=(if j=k then some s else if j=k then some u else Nm w j);by_cases h2:j=k
   ·rw[if_pos h2,if_pos h2]
   ·rw[if_neg h2,if_neg h2,if_neg h2]
  ·rw[if_neg h];show(if j=a then some u else Nm (De w k s) j)=(if j=k then some s else if j=a then some u else Nm w j);rw[ih];by_cases h2:j=a
   ·subst h2;rw[if_pos rfl,if_pos rfl,if_neg (fun e=>h e.symm)]
   ·rw[if_neg h2,if_neg h2]
theorem PSt.get_put(σ:PSt)(k j:Int)(s:Bs):(σ.put k s).get j=if j=k then some s else σ.get j:=by
 unfold PSt.get PSt.put;simp only[Zfp];by_cases h:j=k
 ·simp only[if_pos h]
 ·simp only[if_neg h]
theorem AS0.free_add{a:AS0}(h:a.Ok){b:Nat}(hb:b<a.n)(h1:mem a.us b=false):({a with us:=Gp a.us b}:AS0).free=a.free-1:=by
 have hul:=h.ul;have e:Ht (Gp a.us b)=Ht a.us+1:=by
  have hl:(Gp a.us b).length=a.us.length:=by unfold Gp;rw[Vk]
  have hm:=Ii a.us b (by omega);rw[B0,B0,hl,mh (f:=mem a.us) (g:=mem (Gp a.us b)) h1 (by rw[hm];simp) (fun j hj=>by rw[hm];simp[hj]),decide_eq_true (by omega)];rfl
 unfold AS0.free;show(a.n:Int)-Ht (Gp a.us b)-Ht a.ls-a.back=_;rw[e];omega
theorem AS0.free_give{a:AS0}(h:a.Ok){b:Nat}(hb:mem a.us b=true):(a.give b).free=a.free:=by
 have hul:=h.ul;have hll:=h.ll;have hlt:=h.uo b hb;have e1:Ht a.us=Ht (My a.us b)+1:=by
  have hl:(My a.us b).length=a.us.length:=by unfold My;rw[Vk]
  have hm:=y6 a.us b (by omega);rw[B0,B0,hl,mh (f:=mem (My a.us b)) (g:=mem a.us) (by rw[hm];simp) hb (fun j hj=>by rw[hm];simp[hj]),decide_eq_true (by omega)];rfl
 have e2:Ht (Gp a.ls b)=Ht a.ls+1:=by
  have hl:(Gp a.ls b).length=a.ls.length:=by unfold Gp;rw[Vk]
  have hm:=Ii a.ls b (by omega);rw[B0,B0,hl,mh (f:=mem a.ls) (g:=mem (Gp a.ls b)) (h.dj b hb) (by rw[hm];simp) (fun j hj=>by rw[hm];simp[hj]),decide_eq_true (by omega)];rfl
 unfold AS0.free AS0.give;show(a.n:Int)-Ht (My a.us b)-Ht (Gp a.ls b)-a.back=_;rw[e1,e2];omega
structure Tr where
 s:Nat
 a:Nat
 σ:PSt
 α:AS0
 root:Nat
 count:Int
 depth:Int
def trL(t:Nat)(τ:Tr):List Asn:=[Pt t [.pointer (some ⟨τ.s,0,none⟩),.pointer (some ⟨τ.a,0,none⟩),.int .i64 (τ.root:Nat),.int .i64 τ.count,.int .i64 τ.depth] (tz 0 117),PgS τ.s τ.σ,Alc τ.a τ.α]
def Tr.pg(τ:Tr)(k:Nat):Option Bs:=τ.σ.get (k:Nat)
theorem w8(t:Nat)(τ:Tr)(p:Nat)(n:Nd)(hp:(p:Int)<τ.σ.n)(hn:τ.pg p=some n.enc)(hok:He n):Sp SET 133 [.pointer (some ⟨t,0,none⟩),.int .i64 (p:Nat)] (trL t τ++L) P (NdR n (trL t τ++L) P):=by
 refine .bo (fn:=Tryz.f133) (N:=24) ?_;refine .seq (.region ?_);refine .nw (cs:=[.bool false,.slice none 0 0,.slice none 0 0,.slice none 0 0]) fun b4=>?_;refine .pu .as (.nil (.seq (.region (.pu .mv (.pu .nc (.pu .fa (.ld ?_)))))));refine .pu .mv ?_;refine .call (Sp.up (.s (.s .z)) (fun L=>Zfo L _ _ _ _ _ (Yk _) hp hn)) ?_;rintro _ L P ⟨rfl,rfl,rfl⟩;refine .pu .mv (.pu .ex (.pu .ex (.pu .as (.pu .as (.nil (.seq (.seq (.region (.pu .mv (.pu .cmp (.nil ?_)))))))))));refine .no rfl (.skip (.seq (.region (.pu .mv ?_))));refine .call (Zev _ _ n hok.sm hok.ok hok.ne hok.sz) ?_;rintro _ _ _ ⟨v,rfl,hv,rfl,hs2⟩;have hv0:=hv;obtain⟨pv,kv,iv,rfl,hpv,hkv,hiv⟩:=hv.ex;refine .fact (Gi (.s (.p hpv))) fun⟨am1,cm1,em1⟩=>?_;refine .fact (Gi (.s (.p hkv))) fun⟨am2,cm2,em2⟩=>?_;refine .fact (Gi (.s (.p hiv))) fun⟨am3,cm3,em3⟩=>?_
 subst em1 em2 em3;refine .pu .ex (.pu .ex (.st (vs:=[_,_,_,_]) ?_));refine .pu .as (.nil (.ret ?_));exact⟨_,.cell rfl .l0 rfl (.tmp rfl .nil),_,_,.drop,_,rfl,hv0,rfl,hs2⟩
def Rj(r c:Nat)(i:Nat):Bs:=[84,UInt8.ofNat r,UInt8.ofNat (r/256)]++(List.range i).map (fun j=>UInt8.ofNat (c/2^(8*j)))
def Ch(r c:Nat):Bs:=Rj r c 4
theorem Zfq(r c i:Nat):Rj r c (i+1)=Rj r c i++[UInt8.ofNat (c/2^(8*i))]:=by
 unfold Rj;rw[List.range_succ,Zp,Zu];rfl
theorem Zfr(bs:Bs)(b:UInt8):byL bs++[[Value.int .u8 b.toNat]]=byL (bs++[b]):=by
 unfold byL;rw[Zp];rfl
theorem Zfs(t:Nat)(τ:Tr)(c:Nat)(hc:τ.count=(c:Nat)):Sp SET 140 [.pointer (some ⟨t,0,none⟩)] (trL t τ++L) P (fun r L' P'=>r=S (Ch τ.root c)∧L'=trL t τ++L∧P'=P):=by
 refine .bo (fn:=Tryz.f140) (N:=33) ?_;refine .seq (.region (.pu .as (.nil ?_)));refine .seq (.drawn fun _=>?_);refine .pu .mv (.pu .nc (.pu .fa (.lo 0 0 .ld .mk ?_)));refine .pu (.ciw (wrap_u8 τ.root)) ?_;rw[bq];refine .pu .mv (.pu .nc (.pu .fa (.lo 0 0 .ld .mk ?_)));refine .pu .shrN (.pu (.ciw (wrap_u8 (τ.root>>>8))) ?_);rw[show τ.root>>>8=τ.root/256 from Xe _ 8,bq];refine .bl (k:=1) (es:=[[_],[_],[_]]) (hlt:=by show∀x∈([]:Hj),_;simp) fun v16=>?_;refine .pu .as (.nil (.cons (.yes .mk .nil) (.cons (.yes .mk .nil) .nil)) (.seq (.seq (.region (.pu .mv (.nil ?_))))));refine .block (W.loop (fun a:Nat×Value=>a.1≤4) (fun a=>4-a.1) (fun a=>[(17,.int .i64 (a.1:Nat)),(3,a.2),(0,.pointer (some ⟨t,0,none⟩))]) (fun a=>Ow 1 a.2 (byL (Rj τ.root c a.1))::trL t τ++L) (fun _=>P) (0,_) (Zj _) ⟨rfl,rfl,rfl,trivial⟩ (.refl _ _) (fun⟨i,v⟩ hi=>?_))
 by_cases hlt:i<4
 ·refine .seq (.region (.pu .cy (.nil (.seq (.yes rfl (.skip (.seq (.block (.seq (.region (.pu .mv (.pu .as (.nil (.region (.pu .mv (.pu .mv (.pu .nc (.pu .fa (.ld ?_)))))))))))))))))));rw[show Value.int .i64 τ.count=Value.int .i64 (c:Nat) by rw[hc]];refine .pu .mv (.pu .mul ?_);refine .pu (.shrN (n:=8*i) (hn:=by show 8*i≤64;omega)) ?_;refine .pu (.ciw (wrap_u8 (c>>>(8*i)))) ?_;rw[Xe,bq];refine .bl (k:=1) (es:=[[_]]) fun v29=>?_;refine .ap (fun v30=>?_) (hr:=.s .z) (hw:=.o .l0) (hn:=by unfold byL Rj;simp only[Zc,Zd,Zf,Zo,List.length_range];show(3+i+1)*1≤_;omega);refine .pu .as (.nil (.region (.pu .add (.pu .mv (.nil ?_)))));refine⟨(i+1,_),hlt,by show 4-(i+1)<4-i;omega,⟨rfl,rfl,rfl,trivial⟩,?_⟩;show Ent _ _ (Ow 1 _ (byL (Rj τ.root c (i+1)))::trL t τ++L) P
  rw[Zfq,←Zfr];exact Ent.dropAt [_] _ _
 ·refine .seq (.region (.pu .cn (.nil (.seq (.no rfl (.exit (.seq (.region ?_))))))));have e4:i=4:=by have hi:i≤4:=hi;omega
  subst e4;refine .pu .mv (.cs (bs:=Ch τ.root c) (.o .l0) (.pu .as (.nil (.ret ?_))));exact⟨_,.tmp rfl .nil,_,_,.drop,rfl,rfl,rfl⟩
theorem FU{x y:Nd}{k:Bs}(h:x.leaf=y.leaf):(Gd x k y).size+2≤x.size+y.size+1+k.length∧x.size+y.size≤(Gd x k y).size+2:=by
 cases hl:x.leaf with
 |true=>
  rw[Nf (show(Gd x k y).leaf=true from hl),Nf hl,Nf (h▸hl)];show 2+weight (x.pairs++y.pairs)+2≤_∧_≤2+weight (x.pairs++y.pairs)+2;rw[Cg];omega
 |false=>
  rw[Db (show(Gd x k y).leaf=false from hl),Db hl,Db (h▸hl)];have e1:(Gd x k y).keys=x.keys++(k::y.keys):=by unfold Gd;rw[hl];rfl
  rw[e1];show 2+2*(x.kids++y.kids).length+_+2≤_∧_≤2+2*(x.kids++y.kids).length+_+2;have c1:∀(a:Bs) (l:List Bs),G4 (a::l)=1+a.length+G4 l:=fun a l=>by unfold G4;simp
  simp only[wz,c1,Zd];omega
theorem VC :∀(r:List Pc) (a:Nd),(∀x∈r,x.2.leaf=a.leaf)→(∀x∈r,2≤x.2.size)→a.size≤(glue a r).size
 |[],a,_,_=>Ze _
 |(k,m)::r,a,h,h2=>by
  have e:=(FU (x:=a) (y:=m) (k:=k) (h (k,m) (Zm ..)).symm).2;have e2:2≤m.size:=h2 (k,m) (Zm ..);have e3:=VC r (Gd a k m) (fun x hx=>h x (Zs _ hx)) (fun x hx=>h2 x (Zs _ hx));show a.size≤(glue (Gd a k m) r).size;omega
theorem FJ(n:Nd):2≤n.size:=by
 unfold Nd.size;cases n.leaf
 ·show 2≤2+_+_;omega
 ·show 2≤2+_;omega
theorem Zft{n:Nd}{ps:List Pc}(h:M2 n ps)(ht:H8 ps)(hz:n.size≤318):ps.length≤3:=by
 rcases ps with _|⟨⟨k1,x1⟩,_|⟨⟨k2,x2⟩,_|⟨⟨k3,x3⟩,_|⟨⟨k4,x4⟩,r⟩⟩⟩⟩
 ·exact Zj _
 ·exact Nat.le_succ_of_le (Ug _)
 ·exact Ug _
 ·exact Ze _
 ·exfalso;obtain⟨t1,t2,t3,_⟩:=ht;have l1:=(h.ok x1 (by simp)).2;have l2:=(h.ok x2 (by simp)).2;have l3:=(h.ok x3 (by simp)).2;have l4:=(h.ok x4 (by simp)).2;have hg:glue (Gd (Gd (Gd x1 k2 x2) k3 x3) k4 x4) r=n:=h.gl;have s0:=VC r (Gd (Gd (Gd x1 k2 x2) k3 x3) k4 x4) (fun x hx=>by
   show x.2.leaf=x1.leaf;rw[(h.ok x.2 (by simp only[Zr,Zg,Zl];exact .inr (.inr (.inr (.inr ⟨x,hx,rfl⟩))))).2,l1]) (fun x _=>FJ _)
  rw[hg]at s0;rw[VU (Gd x1 k2 x2) x3 x4 k3 k4 (show x1.leaf=x3.leaf from l1.trans l3.symm)]at s0;have s1:=(FU (x:=Gd x1 k2 x2) (y:=Gd x3 k4 x4) (k:=k3) (l1.trans l3.symm)).2;have t1:160<(Gd x1 k2 x2).size:=t1;have t3:160<(Gd x3 k4 x4).size:=t3;omega
structure At(τ0:Tr)(g c:List Nat)(k:Nat)(τ:Tr):Prop where
 s:τ.s=τ0.s
 a:τ.a=τ0.a
 w:∃w,τ.σ= {τ0.σ with w:=w}
 ok:τ.α.Ok
 n:τ.α.n=τ0.α.n
 bk:τ.α.back=τ0.α.back
 us:∀j,mem τ.α.us j=true↔(mem τ0.α.us j=true∧j∉g)∨j∈c
 nd:c.Nodup
 nw:∀j∈c,j∈g∨mem τ0.α.us j=false
 pg:∀j,mem τ0.α.us j=true→j∉g→τ.pg j=τ0.pg j
 fr:τ0.α.free≤τ.α.free+k
theorem At.refl{τ:Tr}{g:List Nat}(h:τ.α.Ok)(hg:g.Nodup)(hu:∀j∈g,mem τ.α.us j=true):At τ g g 0 τ:=
 ⟨rfl,rfl,⟨τ.σ.w,rfl⟩,h,rfl,rfl,fun j=>by
  constructor
  ·intro hj;by_cases hm:j∈g
   ·exact .inr hm
   ·exact .inl ⟨hj,hm⟩
  ·rintro(hj|hj)
   ·exact hj.1
   ·exact hu j hj,hg,fun j hj=>.inl hj,fun _ _ _=>rfl,by omega⟩
theorem At.step{τ0 τ τ':Tr}{g A B x x':List Nat}{k k':Nat}(h:At τ0 g (A++x++B) k τ)(h':At τ x x' k' τ'):At τ0 g (A++x'++B) (k+k') τ':=by
 have hnd:=h.nd;rw[Xa,Xa]at hnd;obtain⟨⟨hA,hx,hAx⟩,hB,hAB⟩:=hnd;have memA:∀j∈A,mem τ.α.us j=true∧j∉x:=fun j hj=>⟨(h.us j).2 (.inr (by simp[hj])),fun e=>hAx j hj j e rfl⟩;have memB:∀j∈B,mem τ.α.us j=true∧j∉x:=fun j hj=>⟨(h.us j).2 (.inr (by simp[hj])),fun e=>hAB j (by simp[e]) j hj rfl⟩;have nx':∀j∈x',(mem τ.α.us j=true→j∈x):=fun j hj hm=>by
  rcases h'.nw j hj with e|e
  ·exact e
  ·rw[hm]at e;cases e
 have hout:∀j,mem τ0.α.us j=true→j∉g→mem τ.α.us j=true∧j∉x:=fun j h1 h2=>⟨(h.us j).2 (.inl ⟨h1,h2⟩),fun e=>by
  rcases h.nw j (by simp[e])with e2|e2
  ·exact h2 e2
  ·rw[h1]at e2;cases e2⟩
 obtain⟨w,hw⟩:=h.w;obtain⟨w',hw'⟩:=h'.w;refine⟨h'.s.trans h.s,h'.a.trans h.a,⟨w',by rw[hw',hw]⟩,h'.ok,h'.n.trans h.n,h'.bk.trans h.bk,fun j=>?_,?_,fun j hj=>?_,fun j h1 h2=>?_,?_⟩
 ·rw[h'.us j];constructor
  ·rintro(⟨h1,h2⟩|h1)
   ·rcases(h.us j).1 h1 with e|e
    ·exact .inl e
    ·refine .inr ?_;simp only[Zk]at e ⊢;rcases e with(e|e)|e
     ·exact .inl (.inl e)
     ·exact absurd e h2
     ·exact .inr e
   ·exact .inr (by simp[h1])
  ·rintro(⟨h1,h2⟩|h1)
   ·exact .inl (hout j h1 h2)
   ·simp only[Zk]at h1;rcases h1 with(h1|h1)|h1
    ·exact .inl (memA j h1)
    ·exact .inr h1
    ·exact .inl (memB j h1)
 ·rw[Xa,Xa];refine⟨⟨hA,h'.nd,fun a ha b hb e=>?_⟩,hB,fun a ha b hb e=>?_⟩
  ·subst e;exact(memA a ha).2 (nx' a hb (memA a ha).1)
  ·subst e;rcases Zk.1 ha with ha|ha
   ·exact hAB a (by simp[ha]) a hb rfl
   ·exact(memB a hb).2 (nx' a ha (memB a hb).1)
 ·simp only[Zk]at hj;rcases hj with(hj|hj)|hj
  ·exact h.nw j (by simp[hj])
  ·rcases h'.nw j hj with e|e
   ·exact h.nw j (by simp[e])
   ·by_cases hg:j∈g
    ·exact .inl hg
    ·refine .inr ?_;cases h0:mem τ0.α.us j with
     |false=>rfl
     |true=>
      have:=(hout j h0 hg).1;rw[e]at this;cases this
  ·exact h.nw j (by simp[hj])
 ·rw[h'.pg j (hout j h1 h2).1 (hout j h1 h2).2,h.pg j h1 h2]
 ·have:=h.fr;have:=h'.fr;omega
theorem At.keep{τ0 τ τ':Tr}{g A B x x':List Nat}{k k':Nat}(h:At τ0 g (A++x++B) k τ)(h':At τ x x' k' τ'){j:Nat}(hj:j∈A∨j∈B):τ'.pg j=τ.pg j:=by
 have hnd:=h.nd;rw[Xa,Xa]at hnd;obtain⟨⟨hA,hx,hAx⟩,hB,hAB⟩:=hnd;refine h'.pg j ((h.us j).2 (.inr ?_)) (fun e=>?_)
 ·rcases hj with hj|hj<;>simp[hj]
 ·rcases hj with hj|hj
  ·exact hAx j hj j e rfl
  ·exact hAB j (by simp[e]) j hj rfl
theorem At.trans{τ0 τ τ':Tr}{g x x':List Nat}{k k':Nat}(h:At τ0 g x k τ)(h':At τ x x' k' τ'):At τ0 g x' (k+k') τ':=by
 have:=At.step (A:=[]) (B:=[]) (by simpa using h) h';simpa using this
structure Wob(τ0 τ:Tr):Prop where
 s:τ.s=τ0.s
 a:τ.a=τ0.a
 w:∃w,τ.σ= {τ0.σ with w:=w}
 n:τ.α.n=τ0.α.n
 bk:τ.α.back=τ0.α.back
 ok:τ.α.Ok
theorem At.wob{τ0 τ:Tr}{g c:List Nat}{k:Nat}(h:At τ0 g c k τ):Wob τ0 τ:=⟨h.s,h.a,h.w,h.n,h.bk,h.ok⟩
theorem Wob.trans{τ0 τ τ':Tr}(h:Wob τ0 τ)(h':Wob τ τ'):Wob τ0 τ':=by
 obtain⟨w,hw⟩:=h.w;obtain⟨w',hw'⟩:=h'.w;exact⟨h'.s.trans h.s,h'.a.trans h.a,⟨w',by rw[hw',hw]⟩,h'.n.trans h.n,h'.bk.trans h.bk,h'.ok⟩
theorem At.take{τ0 τ:Tr}{g c:List Nat}{k b:Nat}(h:At τ0 g c k τ)(hb:b<τ.α.n)(hu:mem τ.α.us b=false)(ho:({τ.α with us:=Gp τ.α.us b}:AS0).Ok):At τ0 g (c++[b]) (k+1) {τ with α:= {τ.α with us:=Gp τ.α.us b}}:=by
 have hul:=h.ok.ul;have hm:=Ii τ.α.us b (by omega);refine⟨h.s,h.a,h.w,ho,h.n,h.bk,fun j=>?_,?_,fun j hj=>?_,h.pg,?_⟩
 ·show mem (Gp τ.α.us b) j=true↔_;rw[hm,Bool.or_eq_true,h.us j,decide_eq_true_eq,Zk,Z6,or_assoc]
 ·rw[Xa];refine⟨h.nd,by simp,fun x hx y hy e=>?_⟩;rw[Z6]at hy;subst e hy;rw[(h.us x).2 (.inr hx)]at hu;cases hu
 ·rw[Zk,Z6]at hj;rcases hj with hj|rfl
  ·exact h.nw j hj
  ·by_cases hg:j∈g
   ·exact .inl hg
   ·refine .inr ?_;cases h0:mem τ0.α.us j with
    |false=>rfl
    |true=>
     rw[(h.us j).2 (.inl ⟨h0,hg⟩)]at hu;cases hu
 ·have e:=AS0.free_add h.ok hb hu;have:=h.fr;refine Int.le_trans ?_ (Int.add_le_add_right (Int.le_of_eq e.symm) _);omega
theorem At.put{τ0 τ:Tr}{g c:List Nat}{k p:Nat}{s:Bs}(h:At τ0 g c k τ)(hp:p∈c):At τ0 g c k {τ with σ:=τ.σ.put (p:Nat) s}:=by
 obtain⟨w,hw⟩:=h.w;refine⟨h.s,h.a,⟨De τ.σ.w p s,by show PSt.put _ _ _=_;unfold PSt.put;rw[hw]⟩,h.ok,h.n,h.bk,h.us,h.nd,h.nw,fun j h1 h2=>?_,h.fr⟩;show(τ.σ.put p s).get j=_;rw[PSt.get_put,if_neg (fun e=>?_)]
 ·exact h.pg j h1 h2
 ·have e:j=p:=by omega
  subst e;rcases h.nw j hp with e|e
  ·exact h2 e
  ·rw[h1]at e;cases e
theorem Tr.pg_put(τ:Tr)(p j:Nat)(s:Bs):({τ with σ:=τ.σ.put (p:Nat) s}:Tr).pg j=if j=p then some s else τ.pg j:=by
 show(τ.σ.put p s).get j=_;rw[PSt.get_put];by_cases h:j=p
 ·rw[if_pos h,if_pos (by omega)]
 ·rw[if_neg h,if_neg (by omega)];rfl
theorem At.give{τ0 τ:Tr}{g A B:List Nat}{k b:Nat}(h:At τ0 g (A++b::B) k τ):mem τ.α.us b=true∧At τ0 g (A++B) k {τ with α:=τ.α.give b}:=by
 have hb:mem τ.α.us b=true:=(h.us b).2 (.inr (by simp));have hul:=h.ok.ul;have hlt:=h.ok.uo b hb;have hm:=y6 τ.α.us b (by omega);have hnd:=h.nd;rw[Xa,Yz]at hnd;obtain⟨hA,⟨hbB,hB⟩,hAB⟩:=hnd;refine⟨hb,⟨h.s,h.a,h.w,h.ok.drop hb,h.n,h.bk,fun j=>?_,?_,fun j hj=>h.nw j (by simp only[Zk,Zg]at hj ⊢;rcases hj with hj|hj;exact .inl hj;exact .inr (.inr hj)),h.pg,?_⟩⟩
 ·show mem (My τ.α.us b) j=true↔_;rw[hm,Zi,h.us j,Xd,decide_eq_false_iff_not];constructor
  ·rintro⟨h1|h1,h2⟩
   ·exact .inl h1
   ·refine .inr ?_;simp only[Zk,Zg]at h1 ⊢;rcases h1 with h1|h1|h1
    ·exact .inl h1
    ·exact absurd h1 h2
    ·exact .inr h1
  ·rintro(⟨h1,h2⟩|h1)
   ·refine⟨.inl ⟨h1,h2⟩,fun e=>?_⟩;subst e;rcases h.nw j (by simp)with e|e
    ·exact h2 e
    ·rw[h1]at e;cases e
   ·refine⟨.inr ?_,fun e=>?_⟩
    ·simp only[Zk,Zg]at h1 ⊢;rcases h1 with h1|h1
     ·exact .inl h1
     ·exact .inr (.inr h1)
    ·subst e;rcases Zk.1 h1 with h1|h1
     ·exact hAB j h1 j (Zm ..) rfl
     ·exact hbB h1
 ·rw[Xa];exact⟨hA,hB,fun a ha b' hb'=>hAB a ha b' (Zs _ hb')⟩
 ·have:=AS0.free_give h.ok hb;have:=h.fr;show τ0.α.free≤(τ.α.give b).free+(k:Int);omega
def Gs(x:Nat×Bs):List Value:=[.int .i64 (x.1:Nat),S x.2]
def Ci(τ:Tr)(p:Nat)(n:Nd)(P:List Asn)(r:Value)(τ':Tr)(P':List Asn):Prop:=
  (∀A∈P,A∈P')∧τ'.root=τ.root∧τ'.count=τ.count∧τ'.depth=τ.depth∧
    ((r=.tuple ⟨[.slice none 0 0,.int .i64 5]⟩∧Wob τ τ'∧τ.α.free<2)∨
     ∃kv pcs tk,r=.tuple ⟨[kv,.int .i64 0]⟩∧Sl 2 kv (((p::tk).zip (pcs.map (·.1))).map Gs)∈P'∧M2 n pcs∧H8 pcs∧pcs.length≤3∧tk.length+1=pcs.length∧At τ [p] (p::tk) tk.length τ'∧∀x∈(p::tk).zip pcs,τ'.pg x.1=some x.2.2.enc)
theorem w9(p:Nat)(a:AS0)(hb:a.back≤1000000)(hT:Ro 0 G5∈P)(hf:a.free≤0):Sp SET 76 [.pointer (some ⟨p,0,none⟩)] (Alc p a::L) P (fun r L' P'=>r=.tuple ⟨[.int .i64 0,.int .i64 5]⟩∧L'=Alc p a::L∧P'=P):=
 (FV L P p a hb hT).post (fun v L' P' ⟨a',h,e1,e2⟩=>by
  rcases h with⟨_,rfl,rfl⟩|⟨h,_⟩
  ·exact⟨_,_,.refl _ _,rfl,e1,e2⟩
  ·omega)
theorem xb(p:Nat)(a:AS0)(hb:a.back≤1000000)(hT:Ro 0 G5∈P)(hf:0<a.free):Sp SET 76 [.pointer (some ⟨p,0,none⟩)] (Alc p a::L) P (fun r L' P'=>∃b:Nat,(r=.tuple ⟨[.int .i64 (b:Nat),.int .i64 0]⟩∧b<a.n∧mem a.us b=false∧({a with us:=Gp a.us b}:AS0).Ok∧P'=P)∧L'=Alc p {a with us:=Gp a.us b}::L):=
 (FV L P p a hb hT).post (fun v L' P' ⟨a',h,e1,e2⟩=>by
  rcases h with⟨h,_⟩|⟨_,b,h1,h2,h3,h4,rfl,h6,rfl⟩
  ·omega
  ·exact⟨_,_,.refl _ _,b,⟨rfl,h1,h2,h6,e2⟩,e1⟩)
theorem Hi.get{P:List Asn}:∀ {vs:List (List Value)} {ns:List Nd},Hi P vs ns→∀(i:Nat) (hi:i<ns.length),∃pv kv iv,vs[i]? =some [.bool ns[i].leaf,pv,kv,iv]∧NdV P (.agg ⟨[.bool ns[i].leaf,pv,kv,iv]⟩) ns[i]∧Sl 2 pv (ns[i].pairs.map Ge)∈P∧Sl 1 kv (ns[i].keys.map encS)∈P∧Sl 1 iv (ns[i].kids.map encI)∈P
 |_,_,.cons h1 h2 h3 h,0,hi=>by
  obtain⟨pv,kv,iv,e,g1,g2,g3⟩:=h3.ex;obtain rfl:=w6 e;exact⟨pv,kv,iv,rfl,h3,g1,g2,g3⟩
 |_,_,.cons h1 h2 h3 h,i+1,hi=>by
  obtain⟨pv,kv,iv,e,g⟩:=Hi.get h i (J4 hi);exact⟨pv,kv,iv,e,g⟩
theorem VD{α β:Type}(b:α):∀(l:List α) (ps:List β) (h:l.length<ps.length),((l++[b]).zip ps).take (l.length+1)=(l.zip ps).take l.length++[(b,ps[l.length])]
 |[],p::ps,_=>by simp
 |a::l,p::ps,h=>by
  have:=VD b l ps (J4 h);simp only[Y0,Vy,Zf,Zqg,Uq]at this ⊢;rw[this]
theorem FK{τ1 τ2:Tr}{l:List Nat}{b i:Nat}{pcs:List Pc}(hl:l.length=i)(hlt:i<pcs.length)(h:∀x∈(l.zip pcs).take i,τ1.pg x.1=some x.2.2.enc)(hb:b∉l)(h2:∀j,τ2.pg j=if j=b then some pcs[i].2.enc else τ1.pg j):∀x∈((l++[b]).zip pcs).take (i+1),τ2.pg x.1=some x.2.2.enc:=by
 subst hl;rw[VD b l pcs hlt];intro x hx;rcases Zk.1 hx with hx|hx
 ·rw[h2,if_neg (fun e=>hb (by
   have:=(Kv (V3 hx)).1;rw[e]at this;exact this))]
  exact h x hx
 ·rw[Z6]at hx;subst hx;rw[h2,if_pos rfl]
theorem FG{l:List Nat}{b i:Nat}{pcs:List Pc}(hl:l.length=i)(hlt:i<pcs.length):(((l++[b]).zip (pcs.map (·.1))).take (i+1)).map Gs=((l.zip (pcs.map (·.1))).take i).map Gs++[[.int .i64 (b:Nat),S pcs[i].1]]:=by
 subst hl;rw[VD b l _ (by rw[Zc];exact hlt),Zp,Yw];rfl
structure WrS where
 i:Nat
 tk:List Nat
 ov:Value
 τ:Tr
structure WrS.Ok(τ0:Tr)(p:Nat)(pcs:List Pc)(a:WrS):Prop where
 le:a.i≤pcs.length
 tl:a.tk.length=a.i-1
 at_:At τ0 [p] (p::a.tk) a.tk.length a.τ
 pg:∀x∈((p::a.tk).zip pcs).take a.i,a.τ.pg x.1=some x.2.2.enc
 rt:a.τ.root=τ0.root∧a.τ.count=τ0.count∧a.τ.depth=τ0.depth
theorem xc(t:Nat)(τ:Tr)(p:Nat)(v:Value)(n:Nd)(hv:NdV P v n)(hn:Big n)(hz:n.size≤318)(hT:Ro 0 G5∈P)(hok:τ.α.Ok)(hbk:τ.α.back≤1000000)(hnn:τ.σ.n=τ.α.n)(hp:mem τ.α.us p=true):Sp SET 77 [.pointer (some ⟨t,0,none⟩),.int .i64 (p:Nat),v] (trL t τ++L) P (fun r L' P'=>∃τ',Ci τ p n P r τ' P'∧L'=trL t τ'++L):=by
 have hv0:=hv;obtain⟨pv,kv,iv,rfl,hpv,hkv,hiv⟩:=hv.ex;refine Sp.fact (Gi (.s (.p hpv))) fun⟨am1,cm1,em1⟩=>?_;refine Sp.fact (Gi (.s (.p hkv))) fun⟨am2,cm2,em2⟩=>?_;refine Sp.fact (Gi (.s (.p hiv))) fun⟨am3,cm3,em3⟩=>?_;subst em1 em2 em3;have hsm:=hn.sm;have s1:=hsm.p;have s2:=hsm.i;have hlt0:=hok.uo p hp;have hne:(n.leaf&&decide (((n.pairs.map Ge).length:Int)=0)||(!n.leaf&&decide (((n.kids.map encI).length:Int)=0)))=false:=by
  rw[Zc,Zc];cases hl:n.leaf with
  |true=>
   have:=hn.ne hl;rcases hp0:n.pairs with _|⟨q,r⟩
   ·exact absurd hp0 this
   ·simp only[Zf,X4,Bool.not_true,Xp,Bool.or_false,decide_eq_false_iff_not];omega
  |false=>
   obtain⟨_,_,g3,_⟩:=Mk (M6 hn.ok hl);simp only[U9,X4,Xp,Bool.false_or,decide_eq_false_iff_not];omega
 refine .bo (fn:=Tryz.f77) (N:=102) ?_;refine .seq (.region ?_);refine .bx (cs:=[_,_,_,_]) fun b5=>?_;refine .pu .as (.pu .as (.nil (.seq (.seq (.region (.pu .fa (.ld ?_)))))));refine .pu .mv ?_;refine .and 21 4 (decide (((n.pairs.map Ge).length:Int)=0)) (fun hq=>?_) ?_
 ·refine .on (.pu .fa (.on (.ld ?_)));refine .on (.lk .ln ?_);refine .on (.pu .cmp ?_);exact .fin rfl
 refine .pu .mv ?_;refine .or 27 9 ((!n.leaf&&decide (((n.kids.map encI).length:Int)=0))) (fun hq=>?_) ?_
 ·refine .on (.pu .fa (.on (.ld ?_)));refine .on (.pu .nt (.on (.pu .mv ?_)));refine .and 31 4 (decide (((n.kids.map encI).length:Int)=0)) (fun hq=>?_) ?_
  ·refine .on (.pu .fa (.on (.ld ?_)));refine .on (.lk .ln ?_);refine .on (.pu .cmp ?_);exact .fin rfl
  exact .fin rfl
 rw[hne];refine .nil ?_;refine .no rfl (.skip (.seq (.region (.lda (vs:=[_,_,_,_]) ?_))));refine .call (Zff _ _ _ n [] hv0 hn) ?_;rintro _ _ _ ⟨l1,ks1,n0,rest,vs1,rfl,rfl,hns1,hs1,hg1,hpo1,hky1,hlr1⟩;have hpc0:M2 n (([],n0)::rest):=⟨by simp,hg1,hpo1,hky1⟩;refine .pu .ex (.pu .ex ?_);refine .call (Zfl _ _ _ _ n ([],n0) rest vs1 hn.ok hn.sm hpc0 hns1 (by simp only[Zf];omega)) ?_;rintro _ _ _ ⟨l2,ks2,pcs,vs2,rfl,rfl,hns2,hs2,hpc,hti⟩;have hlen3:=Zft hpc hti hz;have hlv:=hns2.len;rw[Zc]at hlv;refine .pu .mv (.pu .ex (.pu .ex (.pu .as (.pu .as (.nil (.seq (.region (.pu .as (.nil (.seq (.seq (.region (.pu .mv (.lk .ln ?_))))))))))))));refine .pu .mv (.nil ?_);refine .block (W.loop (fun a:WrS=>a.Ok τ p pcs) (fun a=>pcs.length-a.i) (fun a=>[(52,l2),(53,.int .i64 (vs2.length:Nat)),(54,.int .i64 (a.i:Nat)),(10,a.ov),(9,ks2),(0,.pointer (some ⟨t,0,none⟩)),(1,.int .i64 (p:Nat))]) (fun a=>Ow 2 a.ov ((((p::a.tk).zip (pcs.map (·.1))).take a.i).map Gs)::Ow 1 ks2 ((pcs.map (·.1)).map encS)::Ow 4 l2 vs2::Pt b5 [.bool n.leaf,.slice am1 (n.pairs.map Ge).length cm1,.slice am2 (n.keys.map encS).length cm2,.slice am3 (n.kids.map encI).length cm3] (tz 0 131)::trL t a.τ++L) (fun _=>_) ⟨0,[],.slice none 0 0,τ⟩ ⟨Zj _,rfl,At.refl hok (by simp) (by simpa using hp),by simp,rfl,rfl,rfl⟩ ⟨rfl,rfl,rfl,rfl,rfl,rfl,rfl,trivial⟩ Ent.none (fun a ha=>?_))
 obtain⟨hle,htl,hat,hpg,hrt⟩:=ha;generalize a.i=i at hle htl hpg ⊢;generalize a.tk=tk at htl hat hpg ⊢;generalize a.ov=ov at ⊢;generalize a.τ=τ1 at hat hpg hrt ⊢;obtain⟨w1,hw1⟩:=hat.w;have hn1:τ1.σ.n=τ1.α.n:=by rw[hat.n,hw1];exact hnn
 have hbk1:τ1.α.back≤1000000:=by rw[hat.bk];exact hbk
 have hpu1:mem τ1.α.us p=true:=(hat.us p).2 (.inr (Zm ..));have hpl1:=hat.ok.uo p hpu1;have hpn1:((p:Nat):Int)<τ1.σ.n:=by omega
 by_cases hlt:i<pcs.length
 ·refine .seq (.region ?_);have hlt2:i<vs2.length:=by omega
  refine .pu .cy (.nil (.seq (.yes rfl (.skip (.seq (.block (.seq (.region (.pu .mv ?_)))))))));obtain⟨qv1,qv2,qv3,hgx,hqv,hq1,hq2,hq3⟩:=hns2.get i (by rw[Zc];exact hlt);rw[Yw]at hgx hqv hq1 hq2 hq3;refine .fact (Gi (.s (.p hq1))) fun⟨an1,cn1,en1⟩=>?_;refine .fact (Gi (.s (.p hq2))) fun⟨an2,cn2,en2⟩=>?_;refine .fact (Gi (.s (.p hq3))) fun⟨an3,cn3,en3⟩=>?_;subst en1 en2 en3;obtain⟨hpi,hpil⟩:=hpc.ok pcs[i].2 (Zl.2 ⟨_,Zz hlt,rfl⟩);have hel:pcs[i].2.enc.length≤160:=by rw[wt];exact hpi.sz
  have hgk:((pcs.map (·.1)).map encS)[((i:Nat):Int).toNat]? =some [S pcs[i].1]:=by simp[hlt,encS]
  refine .lk .ia ?_;refine .la hgx ?_;refine .nw (cs:=[.bool false,.slice none 0 0,.slice none 0 0,.slice none 0 0]) fun b12=>?_;refine .pu .as (.st (vs:=[_,_,_,_]) ?_);refine .nil (.seq (.region (.pu .mv (.pu .as (.nil ?_)))));by_cases h0:i=0
  ·refine .seq (.seq (.region (.pu .mv (.pu .cn (.nil ?_)))));refine .no rfl (.skip (.seq (.region (.lda (vs:=[_,_,_,_]) ?_))));refine .call (VY _ _ _ _ hqv hpi.sm hpi.ok hpi.sz) ?_;rintro _ L P ⟨rfl,rfl,rfl⟩;refine .pu .mv (.pu .ex (.pu .ex (.pu .as (.pu .as (.nil (.seq (.seq (.region (.pu .mv (.pu .cmp (.nil ?_)))))))))));refine .no rfl (.skip (.seq (.seq (.region (.pu .mv (.pu .nc (.pu .fa (.ld ?_))))))));refine .pu .mv (.pu .mv ?_);refine .call (Sp.up (.s (.s (.s (.s (.s (.s .z)))))) (fun L=>w7 L _ _ _ _ _ (Yk _) hpn1 hel)) ?_;rintro _ L P ⟨rfl,rfl,rfl⟩;refine .pu .as (.nil (.seq (.region (.pu .mv (.pu .cmp (.nil ?_))))));refine .no rfl (.skip (.region (.pu .mv (.pu .mv (.pu .mv (.pu .mv ?_))))));refine .lk (.ia (hn:=⟨by omega,by rw[Zc,Zc];omega⟩)) ?_;refine .le hgk ?_;refine .pu (.bd (vs:=[_,_])) ?_;refine .bl (k:=2) (es:=[[_,_]]) fun v99=>?_
   refine .ap (fun v100=>?_) (hr:=.s (.s .z)) (hw:=.o .l0) (hn:=by rw[Zc,Zq];show(min i _+1)*24≤_;omega) (ho:=fun f hf=>by rcases Z6.1 hf with rfl;rfl)
   refine .pu .as (.nil (.region (.pu .add (.pu .mv (.nil ?_)))));refine⟨⟨i+1,[],_,{τ1 with σ:=τ1.σ.put (p:Nat) pcs[i].2.enc}⟩,⟨hlt,?_,?_,?_,hrt⟩,by show pcs.length-(i+1)<pcs.length-i;omega,⟨rfl,rfl,rfl,rfl,rfl,rfl,rfl,trivial⟩,?_⟩
   ·show 0=i+1-1;omega
   ·have ht:tk=[]:=Yh.1 (by omega);subst ht;exact hat.put (Zm ..)
   ·exact FK (l:=[]) h0.symm hlt (fun x hx=>by simp at hx) (by simp) (fun j=>Tr.pg_put τ1 p j _)
   ·show Ent _ _ (Ow 2 _ ((((([]:List Nat)++[p]).zip (pcs.map (·.1))).take (i+1)).map Gs)::_) _;rw[FG (l:=[]) h0.symm hlt];subst h0;refine Ent.trans (Ent.dropAt [_] _ _) (Ent.trans (Ent.dropAt [_] _ _) ?_);exact .refl _ _
  ·refine .seq (.seq (.region (.pu .mv (.pu .cy (.nil ?_)))));refine .yes rfl ?_;by_cases hf:τ1.α.free≤0
   ·refine .seq (.region (.pu .mv (.pu .nc (.pu .fa (.ld ?_)))));refine .call (Sp.up (.s (.s (.s (.s (.s (.s (.s .z))))))) (fun L=>w9 L _ _ _ hbk1 (hs2 _ (hs1 _ hT)) hf)) ?_;rintro _ L P ⟨rfl,rfl,rfl⟩;refine .pu .mv (.pu .ex (.pu .ex (.pu .as (.pu .as (.nil (.seq (.seq (.region (.pu .mv (.pu .cmp (.nil ?_)))))))))));refine .yes rfl (.seq (.region (.pu .mv (.pu .as (.pu .as (.nil (.ret ?_)))))));refine⟨_,.tmp rfl (.tmp rfl .nil),_,_,(Ent.d3.trans Ent.d2),τ1,⟨fun A hA=>hs2 _ (hs1 _ hA),hrt.1,hrt.2.1,hrt.2.2,.inl ⟨rfl,hat.wob,?_⟩⟩,rfl⟩;have:=hat.fr;omega
   ·refine .seq (.region (.pu .mv (.pu .nc (.pu .fa (.ld ?_)))));refine .call (Sp.at [_,_,_,_,_,_,_] _ (fun L=>xb L _ _ _ hbk1 (hs2 _ (hs1 _ hT)) (by omega))) ?_;rintro _ _ _ ⟨b,⟨rfl,hbn,hbu,hbo,rfl⟩,rfl⟩;have hbn1:((b:Nat):Int)<τ1.σ.n:=by omega
    refine .pu .mv (.pu .ex (.pu .ex (.pu .as (.pu .as (.nil (.seq (.seq (.region (.pu .mv (.pu .cmp (.nil ?_)))))))))));refine .no rfl (.skip (.region (.pu .mv (.pu .as (.nil (.seq (.region (.lda (vs:=[_,_,_,_]) ?_))))))));refine .call (VY _ _ _ _ hqv hpi.sm hpi.ok hpi.sz) ?_;rintro _ L P ⟨rfl,rfl,rfl⟩;refine .pu .mv (.pu .ex (.pu .ex (.pu .as (.pu .as (.nil (.seq (.seq (.region (.pu .mv (.pu .cmp (.nil ?_)))))))))));refine .no rfl (.skip (.seq (.seq (.region (.pu .mv (.pu .nc (.pu .fa (.ld ?_))))))));refine .pu .mv (.pu .mv ?_);refine .call (Sp.up (.s (.s (.s (.s (.s (.s .z)))))) (fun L=>w7 L _ _ _ _ _ (Yk _) hbn1 hel)) ?_;rintro _ L P ⟨rfl,rfl,rfl⟩;refine .pu .as (.nil (.seq (.region (.pu .mv (.pu .cmp (.nil ?_))))));refine .no rfl (.skip (.region (.pu .mv (.pu .mv (.pu .mv (.pu .mv ?_))))));refine .lk (.ia (hn:=⟨by omega,by rw[Zc,Zc];omega⟩)) ?_
    refine .le hgk ?_;refine .pu (.bd (vs:=[_,_])) ?_;refine .bl (k:=2) (es:=[[_,_]]) fun v99=>?_;refine .ap (fun v100=>?_) (hr:=.s (.s .z)) (hw:=.o .l0) (hn:=by rw[Zc,Zq];show(min i _+1)*24≤_;omega) (ho:=fun f hf=>by rcases Z6.1 hf with rfl;rfl)
    refine .pu .as (.nil (.region (.pu .add (.pu .mv (.nil ?_)))));refine⟨⟨i+1,tk++[b],_,{ {τ1 with α:= {τ1.α with us:=Gp τ1.α.us b}}with σ:=τ1.σ.put (b:Nat) pcs[i].2.enc}⟩,⟨hlt,?_,?_,?_,hrt⟩,by show pcs.length-(i+1)<pcs.length-i;omega,⟨rfl,rfl,rfl,rfl,rfl,rfl,rfl,trivial⟩,?_⟩
    ·show(tk++[b]).length=i+1-1;rw[Zd,htl];show i-1+1=_;omega
    ·show At τ [p] ((p::tk)++[b]) (tk++[b]).length _;rw[Zd];exact(hat.take hbn hbu hbo).put (by simp)
    ·refine FK (l:=p::tk) (by rw[Zf];omega) hlt hpg (fun hm=>?_) (fun j=>Tr.pg_put τ1 b j _);rw[(hat.us b).2 (.inr hm)]at hbu;cases hbu
    ·show Ent _ _ (Ow 2 _ (((((p::tk)++[b]).zip (pcs.map (·.1))).take (i+1)).map Gs)::_) _;rw[FG (l:=p::tk) (by rw[Zf];omega) hlt];refine Ent.trans (Ent.dropAt [_] _ _) (Ent.trans (Ent.dropAt [_] _ _) ?_);exact .refl _ _
 ·refine .seq (.region ?_);have hlt2:¬i<vs2.length:=by omega
  refine .pu .cn (.nil (.seq (.no rfl (.exit (.seq (.region (.pu .mv (.pu .as (.pu .as (.nil (.ret ?_)))))))))));refine⟨_,.tmp rfl (.tmp rfl .nil),_,_,(Ent.sl.trans Ent.d3),τ1,⟨fun A hA=>.tail _ (hs2 _ (hs1 _ hA)),hrt.1,hrt.2.1,hrt.2.2,.inr ⟨_,pcs,tk,rfl,?_,hpc,hti,hlen3,?_,hat,?_⟩⟩,rfl⟩
  ·have e:((p::tk).zip (pcs.map (·.1))).take i=(p::tk).zip (pcs.map (·.1)):=Z8 (by rw[X9,Zc];omega);rw[e];exact .head _
  ·have:0<pcs.length:=J5.2 hpc.ne;omega
  ·have e:((p::tk).zip pcs).take i=(p::tk).zip pcs:=Z8 (by rw[X9];omega);rw[e]at hpg;exact hpg
theorem Zfu{n:Nd}(h:n.leaf=true∧n.pairs=[]∨n.leaf=false∧n.kids=[]):(n.leaf&&decide (((n.pairs.map Ge).length:Int)=0)||(!n.leaf&&decide (((n.kids.map encI).length:Int)=0)))=true:=by
 rcases h with⟨h1,h2⟩|⟨h1,h2⟩
 ·rw[h1,h2];rfl
 ·rw[h1,h2];rfl
theorem FH(t:Nat)(τ:Tr)(p:Nat)(v:Value)(n:Nd)(hv:NdV P v n)(he:n.leaf=true∧n.pairs=[]∨n.leaf=false∧n.kids=[])(hp:mem τ.α.us p=true):Sp SET 77 [.pointer (some ⟨t,0,none⟩),.int .i64 (p:Nat),v] (trL t τ++L) P (fun r L' P'=>∃τ',(r=.tuple ⟨[.slice none 0 0,.int .i64 0]⟩∧τ'= {τ with α:=τ.α.give p}∧P'=P)∧L'=trL t τ'++L):=by
 have hv0:=hv;obtain⟨pv,kv,iv,rfl,hpv,hkv,hiv⟩:=hv.ex;refine Sp.fact (Gi (.s (.p hpv))) fun⟨am1,cm1,em1⟩=>?_;refine Sp.fact (Gi (.s (.p hkv))) fun⟨am2,cm2,em2⟩=>?_;refine Sp.fact (Gi (.s (.p hiv))) fun⟨am3,cm3,em3⟩=>?_;subst em1 em2 em3;refine .bo (fn:=Tryz.f77) (N:=102) ?_;refine .seq (.region ?_);refine .bx (cs:=[_,_,_,_]) fun b5=>?_;refine .pu .as (.pu .as (.nil (.seq (.seq (.region (.pu .fa (.ld ?_)))))));refine .pu .mv ?_;refine .and 21 4 (decide (((n.pairs.map Ge).length:Int)=0)) (fun hq=>?_) ?_
 ·refine .on (.pu .fa (.on (.ld ?_)));refine .on (.lk .ln ?_);refine .on (.pu .cmp ?_);exact .fin rfl
 refine .pu .mv ?_;refine .or 27 9 ((!n.leaf&&decide (((n.kids.map encI).length:Int)=0))) (fun hq=>?_) ?_
 ·refine .on (.pu .fa (.on (.ld ?_)));refine .on (.pu .nt (.on (.pu .mv ?_)));refine .and 31 4 (decide (((n.kids.map encI).length:Int)=0)) (fun hq=>?_) ?_
  ·refine .on (.pu .fa (.on (.ld ?_)));refine .on (.lk .ln ?_);refine .on (.pu .cmp ?_);exact .fin rfl
  exact .fin rfl
 rw[Zfu he];refine .nil ?_;refine .yes rfl (.seq (.region (.pu .mv (.pu .nc (.pu .fa (.ld ?_))))));refine .pu .mv ?_;refine .call (Sp.up (.s (.s (.s .z))) (fun L=>jz L _ _ _ p hp)) ?_;rintro _ L P ⟨rfl,rfl,rfl⟩;refine .pu .as (.pu .as (.nil (.ret ?_)));exact⟨_,.tmp rfl (.tmp rfl .nil),_,_,.drop,_,⟨rfl,rfl,rfl⟩,rfl⟩
def Gh(ks:List (Nat×Bs)):Nd:=M1 (ks.tail.map (·.2)) (ks.map (·.1))
def Mt(key:Bs):List (Nat×Bs)→List (Nat×Bs)
 |[]=>[]
 |x::r=>(x.1,key)::r
theorem bw(key:Bs)(ks:List (Nat×Bs)):(Mt key ks).length=ks.length:=by cases ks<;>rfl
theorem Zfv{key:Bs}{ks:List (Nat×Bs)}{j:Nat}(hj:j<ks.length):(Mt key ks)[j]'(by rw[bw];exact hj)=(ks[j].1,if j=0 then key else ks[j].2):=by
 cases ks with
 |nil=>cases hj
 |cons x r=>cases j with
  |zero=>rfl
  |succ j=>rfl
def Rk(nks:List (Nat×Bs))(i:Nat)(key:Bs)(ks:List (Nat×Bs)):List (Nat×Bs):=nks.take i++Mt key ks++nks.drop (i+1)
def Mu(nks:List (Nat×Bs))(i:Nat)(key:Bs)(ks:List (Nat×Bs))(k:Nat):List (Nat×Bs):=nks.take (min k i)++(if i<k then Mt key ks++(nks.take k).drop (i+1)else [])
theorem Zfw(nks:List (Nat×Bs))(i:Nat)(key:Bs)(ks:List (Nat×Bs)):Mu nks i key ks 0=[]:=by simp[Mu]
theorem Zfx{nks:List (Nat×Bs)}{i k:Nat}{key:Bs}{ks:List (Nat×Bs)}(hi:i<nks.length)(hk:k=nks.length):Mu nks i key ks k=Rk nks i key ks:=by
 subst hk;unfold Mu Rk;rw[if_pos hi,J6 (Nat.le_of_lt hi),List.take_length,Zu]
theorem Zfy{nks:List (Nat×Bs)}{i k:Nat}{key:Bs}{ks:List (Nat×Bs)}(hk:k<nks.length)(h:k≠i):Mu nks i key ks (k+1)=Mu nks i key ks k++[nks[k]]:=by
 unfold Mu;rcases Zt k i with h1|h1
 ·rw[if_neg (by omega),if_neg (by omega),Ks (by omega),Ks (by omega),Z9,Z9,Xb hk]
 ·rw[if_pos (by omega),if_pos (by omega),J6 (by omega),J6 (by omega),Xb hk,List.drop_append_of_le_length (by rw[Zq];omega)];simp only[Zu]
theorem Zfz{nks:List (Nat×Bs)}{i:Nat}{key:Bs}{ks:List (Nat×Bs)}(hk:i<nks.length):Mu nks i key ks (i+1)=Mu nks i key ks i++Mt key ks:=by
 unfold Mu;rw[if_pos (by omega),if_neg (by omega),J6 (by omega),J6 (by omega),Z9,Vl (by rw[Zq];omega),Z9]
theorem FM(nks:List (Nat×Bs))(i:Nat)(key:Bs)(ks:List (Nat×Bs))(k:Nat):(Mu nks i key ks k).length≤k+ks.length:=by
 unfold Mu;split
 ·simp only[Zd,Zq,Z5,bw];omega
 ·simp only[Zd,Zq,Zo];omega
structure Bj(n:Nd)(nks:List (Nat×Bs)):Prop where
 kids:n.kids=nks.map (·.1)
 keys:n.keys=nks.tail.map (·.2)
 k0:∀x∈nks.head?,x.2=[]
theorem Bj.key{n:Nd}{nks:List (Nat×Bs)}(h:Bj n nks){k:Nat}(hk:k<nks.length)(h0:0<k):k-1<n.keys.length∧∀h2,n.keys[k-1]'h2=nks[k].2:=by
 rcases nks with _|⟨x,r⟩
 ·cases hk
 ·rcases k with _|k
  ·cases h0
  ·have e:=h.keys;refine⟨by rw[e];simpa using hk,fun h2=>?_⟩;simp only[e,Nat.add_sub_cancel,Vv,Yw,Uq]
theorem Bj.key0{n:Nd}{nks:List (Nat×Bs)}(h:Bj n nks)(hk:0<nks.length):nks[0].2=[]:=by
 rcases nks with _|⟨x,r⟩
 ·cases hk
 ·exact h.k0 x rfl
structure RpS where
 j:Nat
 kv:Value
 iv:Value
theorem Zf0(v kv:Value)(n:Nd)(nks ks:List (Nat×Bs))(i:Nat)(hv:NdV P v n)(hN:Bj n nks)(hi:i<nks.length)(hkv:Sl 2 kv (ks.map Gs)∈P)(hl1:nks.length≤1000)(hl2:ks.length≤1000):Sp SET 147 [v,.int .i64 (i:Nat),kv] L P (fun r L' P'=>∃r',r=r'∧NdV P' r' (Gh (Rk nks i nks[i].2 ks))∧L'=L∧∀A∈P,A∈P'):=by
 have hv0:=hv;obtain⟨pv,qv,iv,rfl,hpv,hqv,hiv⟩:=hv.ex;refine Sp.fact (Gi (.s (.p hpv))) fun⟨am1,cm1,em1⟩=>?_;refine Sp.fact (Gi (.s (.p hqv))) fun⟨am2,cm2,em2⟩=>?_;refine Sp.fact (Gi (.s (.p hiv))) fun⟨am3,cm3,em3⟩=>?_;refine Sp.fact (Gi (.s (.p hkv))) fun⟨am4,cm4,em4⟩=>?_;subst em1 em2 em3 em4;have hkl:n.kids.length=nks.length:=by rw[hN.kids,Zc]
 have hil:(n.kids.map encI).length=nks.length:=by rw[Zc,hkl]
 have hsl:(ks.map Gs).length=ks.length:=Zc ..;refine .bo (fn:=Tryz.f147) (N:=85) ?_;refine .seq (.region ?_);refine .bx (cs:=[_,_,_,_]) fun b3=>?_;refine .nw (cs:=[.bool false,.slice none 0 0,.slice none 0 0,.slice none 0 0]) fun b6=>?_;refine .nil (.seq (.region (.pu .as (.nil (.seq (.seq (.region (.pu .fa (.ld ?_)))))))));refine .lk .ln ?_;refine .pu .mv (.nil ?_);refine .block (W.loop (fun a:Nat×Value=>a.1≤nks.length) (fun a=>nks.length-a.1) (fun a=>[(19,.int .i64 (a.1:Nat)),(18,.int .i64 ((n.kids.map encI).length:Nat)),(17,.slice am3 (n.kids.map encI).length cm3),(7,a.2),(3,pp0 b3),(1,.int .i64 (i:Nat)),(2,.slice am4 (ks.map Gs).length cm4),(6,pp0 b6)]) (fun a=>Ow 2 a.2 ((Mu nks i nks[i].2 ks a.1).map Gs)::Pt b6 [.bool false,.slice none 0 0,.slice none 0 0,.slice none 0 0] (tz 0 131)::Pt b3 [.bool n.leaf,.slice am1 (n.pairs.map Ge).length cm1,.slice am2 (n.keys.map encS).length cm2,.slice am3 (n.kids.map encI).length cm3] (tz 0 131)::L) (fun _=>P) (0,.slice none 0 0) (Zj _) ⟨rfl,rfl,rfl,rfl,rfl,rfl,rfl,rfl,trivial⟩ (by rw[Zfw];exact Ent.none) (fun⟨k,av⟩ hk=>?_))
 by_cases hlt:k<nks.length
 ·refine .seq (.region ?_);have hlt2:k<(n.kids.map encI).length:=by omega
  refine .pu .cy (.nil (.seq (.yes rfl (.skip (.seq (.block (.seq (.region (.pu .mv ?_)))))))));have hg:(n.kids.map encI)[((k:Nat):Int).toNat]? =some [.int .i64 (nks[k].1:Nat)]:=by
   rw[hN.kids,Yp,Zy,Zy,Zn hlt];rfl
  refine .lk (.ia (hn:=⟨by omega,by omega⟩)) ?_;refine .le hg ?_;refine .pu .as (.pu .as (.nil (.seq (.region (.pu .mv (.pu (.bd (vs:=[_,_])) ?_))))));refine .nw (cs:=[.int .i64 0,S []]) fun b10=>?_;refine .st (vs:=[_,_]) ?_;refine .nil ?_;refine W.cutS ([(8,.int .i64 (k:Nat)),(10,pp0 b10),(7,av),(19,.int .i64 (k:Nat)),(18,.int .i64 ((n.kids.map encI).length:Nat)),(17,.slice am3 (n.kids.map encI).length cm3),(3,pp0 b3),(1,.int .i64 (i:Nat)),(2,.slice am4 (ks.map Gs).length cm4),(6,pp0 b6)]) (Pt b10 [.int .i64 (nks[k].1:Nat),S nks[k].2] (tz 0 228)::Ow 2 av ((Mu nks i nks[i].2 ks k).map Gs)::Pt b6 [.bool false,.slice none 0 0,.slice none 0 0,.slice none 0 0] (tz 0 131)::Pt b3 [.bool n.leaf,.slice am1 (n.pairs.map Ge).length cm1,.slice am2 (n.keys.map encS).length cm2,.slice am3 (n.kids.map encI).length cm3] (tz 0 131)::L) (P) ?_ ?_
  ·refine .seq (.region (.pu .mv (.pu .cmp (.nil ?_))));refine .ite rfl (fun ht27=>?_) (fun ht27=>?_)
   ·refine .region (.pu .fa (.ld ?_));refine .pu .mv (.pu .sub ?_);have hk0:=of_decide_eq_true ht27;have hk1:0<k:=by omega
    obtain⟨hkl2,hkk⟩:=hN.key hlt hk1;have hgk:(n.keys.map encS)[((k:Int)-1).toNat]? =some [S nks[k].2]:=by
     rw[show((k:Int)-1).toNat=k-1 by omega,Zy,Zn hkl2,←hkk hkl2];rfl
    refine .lk (.ia (hn:=⟨by omega,by rw[Zc];omega⟩)) ?_;refine .le hgk ?_;refine .pu .fa (.st (vs:=[_]) ?_);refine .nil ?_;exact⟨(by(repeat (first|exact True.intro|refine And.intro rfl ?_))),.refl _ _⟩
   refine .skip ?_;have hk0:=of_decide_eq_false ht27;have hk1:k=0:=by omega
   have e0:nks[k].2=[]:=by subst hk1;exact hN.key0 hlt
   rw[e0];exact⟨(by(repeat (first|exact True.intro|refine And.intro rfl ?_))),.refl _ _⟩
  refine .seq (.seq (.region (.pu .mv (.pu .mv (.pu .cmp (.nil ?_))))));refine .ite rfl (fun ht37=>?_) (fun ht37=>?_)
  ·refine .seq (.region (.pu .mv (.lda (vs:=[_,_]) ?_)));refine .bl (k:=2) (es:=[[_,_]]) fun v40=>?_;refine .ap (fun v41=>?_) (hr:=.s (.s .z)) (hw:=.o .l0) (hn:=by have:=FM nks i nks[i].2 ks k;rw[Zc];show(_+1)*24≤_;omega) (ho:=fun f hf=>by rcases Z6.1 hf with rfl;rfl)
   refine .pu .as (.nil (.exit (.region (.pu .add (.pu .mv (.nil ?_))))));refine⟨(k+1,_),hlt,by show nks.length-(k+1)<nks.length-k;omega,⟨rfl,rfl,rfl,rfl,rfl,rfl,rfl,rfl,trivial⟩,?_⟩;have hki:=of_decide_eq_true ht37;show Ent _ _ (Ow 2 _ ((Mu nks i nks[i].2 ks (k+1)).map Gs)::_) P;rw[Zfy hlt (by omega),Zp];exact Ent.trans (Ent.dropAt [_] _ _) (Ent.dropAt [_] _ _)
  refine .skip (.seq (.region (.pu .mv (.lk .ln ?_))));refine .pu .mv (.nil ?_);refine .block (W.loop (fun a:Nat×Value=>a.1≤ks.length) (fun a=>ks.length-a.1) (fun a=>[(44,.int .i64 (a.1:Nat)),(43,.int .i64 ((ks.map Gs).length:Nat)),(42,.slice am4 (ks.map Gs).length cm4),(10,pp0 b10),(7,a.2),(19,.int .i64 (k:Nat)),(18,.int .i64 ((n.kids.map encI).length:Nat)),(17,.slice am3 (n.kids.map encI).length cm3),(3,pp0 b3),(1,.int .i64 (i:Nat)),(2,.slice am4 (ks.map Gs).length cm4),(6,pp0 b6)]) (fun a=>Ow 2 a.2 ((Mu nks i nks[i].2 ks k++(Mt nks[i].2 ks).take a.1).map Gs)::Pt b10 [.int .i64 (nks[k].1:Nat),S nks[k].2] (tz 0 228)::Pt b6 [.bool false,.slice none 0 0,.slice none 0 0,.slice none 0 0] (tz 0 131)::Pt b3 [.bool n.leaf,.slice am1 (n.pairs.map Ge).length cm1,.slice am2 (n.keys.map encS).length cm2,.slice am3 (n.kids.map encI).length cm3] (tz 0 131)::L) (fun _=>P) (0,av) (Zj _) ⟨rfl,rfl,rfl,rfl,rfl,rfl,rfl,rfl,rfl,rfl,rfl,rfl,trivial⟩ (by rw[J3,Z9];exact Ent.swap) (fun⟨j,av2⟩ hj=>?_))
  by_cases hlj:j<ks.length
  ·refine .seq (.region ?_);have hlj2:j<(ks.map Gs).length:=by omega
   refine .pu .cy (.nil (.seq (.yes rfl (.skip (.seq (.block (.seq (.region (.pu .mv ?_)))))))));have hgj:(ks.map Gs)[((j:Nat):Int).toNat]? =some [.int .i64 (ks[j].1:Nat),S ks[j].2]:=by
    rw[Yp,Zy,Zn hlj];rfl
   have hjl:=FM nks i nks[i].2 ks k;refine .lk (.ia (k:=2) (es:=ks.map Gs) (hn:=⟨by omega,by omega⟩)) ?_;refine .la hgj ?_;refine .nw (cs:=[.int .i64 0,S []]) fun b12=>?_;refine .pu .as (.st (vs:=[_,_]) ?_);refine .nil ?_;refine W.cutS ([(44,.int .i64 (j:Nat)),(43,.int .i64 ((ks.map Gs).length:Nat)),(42,.slice am4 (ks.map Gs).length cm4),(10,pp0 b10),(12,pp0 b12),(7,av2),(19,.int .i64 (k:Nat)),(18,.int .i64 ((n.kids.map encI).length:Nat)),(17,.slice am3 (n.kids.map encI).length cm3),(3,pp0 b3),(1,.int .i64 (i:Nat)),(2,.slice am4 (ks.map Gs).length cm4),(6,pp0 b6)]) (Pt b12 [.int .i64 (ks[j].1:Nat),S (if j=0 then nks[k].2 else ks[j].2)] (tz 0 228)::Ow 2 av2 ((Mu nks i nks[i].2 ks k++(Mt nks[i].2 ks).take j).map Gs)::Pt b10 [.int .i64 (nks[k].1:Nat),S nks[k].2] (tz 0 228)::Pt b6 [.bool false,.slice none 0 0,.slice none 0 0,.slice none 0 0] (tz 0 131)::Pt b3 [.bool n.leaf,.slice am1 (n.pairs.map Ge).length cm1,.slice am2 (n.keys.map encS).length cm2,.slice am3 (n.kids.map encI).length cm3] (tz 0 131)::L) (P) ?_ ?_
   ·refine .seq (.region (.pu .mv (.pu .cmp (.nil ?_))));refine .ite rfl (fun ht50=>?_) (fun ht50=>?_)
    ·refine .region (.pu .fa (.ld ?_));refine .pu .fa (.st (vs:=[_]) ?_);refine .nil ?_;have e0:j=0:=by have:=of_decide_eq_true ht50;omega
     rw[if_pos e0];exact⟨(by(repeat (first|exact True.intro|refine And.intro rfl ?_))),.refl _ _⟩
    refine .skip ?_;have e0:¬j=0:=by have:=of_decide_eq_false ht50;omega
    rw[if_neg e0];exact⟨(by(repeat (first|exact True.intro|refine And.intro rfl ?_))),.refl _ _⟩
   refine .region (.pu .mv (.lda (vs:=[_,_]) ?_));refine .bl (k:=2) (es:=[[_,_]]) fun v56=>?_;refine .ap (fun v57=>?_) (hr:=.s (.s .z)) (hw:=.o .l0) (hn:=by rw[Zc,Zd,Zq];show(_+min j _+1)*24≤_;omega) (ho:=fun f hf=>by rcases Z6.1 hf with rfl;rfl)
   refine .pu .as (.nil (.region (.pu .add (.pu .mv (.nil ?_)))));refine⟨(j+1,_),hlj,by show ks.length-(j+1)<ks.length-j;omega,⟨rfl,rfl,rfl,rfl,rfl,rfl,rfl,rfl,rfl,rfl,rfl,rfl,trivial⟩,?_⟩;have hki:=of_decide_eq_false ht37;have hki2:k=i:=by omega
   show Ent _ _ (Ow 2 _ ((Mu nks i nks[i].2 ks k++(Mt nks[i].2 ks).take (j+1)).map Gs)::_) P;rw[Xb (by rw[bw];exact hlj),Zfv hlj,←Zu];simp only[Zp,Zr,Vd];subst hki2;exact Ent.trans (Ent.dropAt [_] _ _) (Ent.dropAt [_] _ _)
  ·refine .seq (.region ?_);have hlj2:¬j<(ks.map Gs).length:=by omega
   refine .pu .cn (.nil (.seq (.no rfl (.exit (.region (.pu .add (.pu .mv (.nil ?_))))))));refine⟨(k+1,av2),hlt,by show nks.length-(k+1)<nks.length-k;omega,⟨rfl,rfl,rfl,rfl,rfl,rfl,rfl,rfl,trivial⟩,?_⟩;have hki:=of_decide_eq_false ht37;have hki2:k=i:=by omega
   have hfl:=bw nks[i].2 ks;show Ent _ _ (Ow 2 av2 ((Mu nks i nks[i].2 ks (k+1)).map Gs)::_) P;rw[Z8 (by omega)];subst hki2;rw[Zfz hlt];exact Ent.dropAt [_] _ _
 ·refine .seq (.region ?_);have hlt2:¬k<(n.kids.map encI).length:=by omega
  refine .pu .cn (.nil (.seq (.no rfl (.exit (.seq (.region ?_))))));have hkn:k=nks.length:=by omega
  rw[Zfx hi hkn];obtain⟨all,hall⟩:∃all,all=Rk nks i nks[i].2 ks:=⟨_,rfl⟩;have hall2:all.length≤2000:=by rw[hall];unfold Rk;simp only[Zd,Zq,Z5,bw];omega
  have hall3:(all.map Gs).length=all.length:=Zc ..;rw[←hall];refine .fact (Hr .l0) fun⟨a7,c7,(e7:av=_)⟩=>?_;subst e7;refine .pu (.bd (vs:=[_,_,_,_])) ?_;refine .nw (cs:=[.bool false,.slice none 0 0,.slice none 0 0,.slice none 0 0]) fun b13=>?_;refine .st (vs:=[_,_,_,_]) ?_;refine .nil (.seq (.seq (.region (.pu .mv (.lk .ln ?_)))));refine .pu .mv (.nil ?_);refine .block (W.loop (fun a:RpS=>a.j≤all.length) (fun a=>all.length-a.j) (fun a=>[(63,.int .i64 (a.j:Nat)),(62,.int .i64 ((all.map Gs).length:Nat)),(61,.slice a7 (all.map Gs).length c7),(13,pp0 b13),(6,pp0 b6)]) (fun a=>Ow 1 a.kv (((all.take a.j).tail.map (·.2)).map encS)::Ow 1 a.iv (((all.take a.j).map (·.1)).map encI)::Pt b13 [.bool false,.slice none 0 0,a.kv,a.iv] (tz 0 131)::Ow 2 (.slice a7 (all.map Gs).length c7) (all.map Gs)::Pt b6 [.bool false,.slice none 0 0,.slice none 0 0,.slice none 0 0] (tz 0 131)::Pt b3 [.bool n.leaf,.slice am1 (n.pairs.map Ge).length cm1,.slice am2 (n.keys.map encS).length cm2,.slice am3 (n.kids.map encI).length cm3] (tz 0 131)::L) (fun _=>P) ⟨0,.slice none 0 0,.slice none 0 0⟩ (Zj _) ⟨rfl,rfl,rfl,rfl,rfl,trivial⟩ (Ent.none.trans Ent.none) (fun a ha=>?_))
  generalize a.j=j at ha ⊢;generalize a.kv=kv5 at ⊢;generalize a.iv=iv5 at ⊢;by_cases hlj:j<all.length
  ·refine .seq (.region ?_);have hlj2:j<(all.map Gs).length:=by omega
   refine .pu .cy (.nil (.seq (.yes rfl (.skip (.seq (.block (.seq (.region (.pu .mv ?_)))))))));have hgj:(all.map Gs)[((j:Nat):Int).toNat]? =some [.int .i64 (all[j].1:Nat),S all[j].2]:=by
    rw[Yp,Zy,Zn hlj];rfl
   refine .lk (.ia (k:=2) (es:=all.map Gs) (hn:=⟨by omega,by omega⟩)) ?_;refine .la hgj ?_;refine .nw (cs:=[.int .i64 0,S []]) fun b15=>?_;refine .pu .as (.st (vs:=[_,_]) ?_);refine .nil ?_;by_cases hj0:0<j
   ·refine .seq (.seq (.region (.pu .mv (.pu .cy (.nil ?_)))));refine .yes rfl (.region (.pu .fa (.ld ?_)));refine .pu .fa (.ld ?_);refine .bl (k:=1) (es:=[[_]]) fun v74=>?_;refine .ap (fun v75=>?_) (hr:=.s (.s .z)) (hw:=.o .l0) (hn:=by rw[Zc,Zc,V9,Zq];show(min j _-1+1)*16≤_;omega) (ho:=fun f hf=>by rcases Z6.1 hf with rfl;rfl)
    refine .fact (Hr .l0) fun⟨a75,c75,e75⟩=>?_;subst e75;refine .pu .fa (.st (vs:=[_]) ?_);refine .nil (.region (.pu .fa (.ld ?_)));refine .pu .fa (.ld ?_);refine .bl (k:=1) (es:=[[_]]) fun v81=>?_;refine .ap (fun v82=>?_) (hr:=.s (.s (.s (.s .z)))) (hw:=.o .l0) (hn:=by rw[Zc,Zc,Zq];show(min j _+1)*8≤_;omega) (ho:=fun f hf=>by rcases Z6.1 hf with rfl;rfl)
    refine .fact (Hr .l0) fun⟨a82,c82,e82⟩=>?_;subst e82;refine .pu .fa (.st (vs:=[_]) ?_);refine .nil (.region (.pu .add (.pu .mv (.nil ?_))));refine⟨⟨j+1,.slice a75 (Y3 encS (Y3 (fun x:Nat×Bs=>x.2) (Ur j all).tail)++[[S all[j].2]]).length c75,.slice a82 (Y3 encI (Y3 (fun x:Nat×Bs=>x.1) (Ur j all))++[[Value.int .i64 (all[j].1:Nat)]]).length c82⟩,hlj,by show all.length-(j+1)<all.length-j;omega,⟨rfl,rfl,rfl,rfl,rfl,trivial⟩,?_⟩;show Ent _ _ (Ow 1 _ (((all.take (j+1)).tail.map (·.2)).map encS)::Ow 1 _ (((all.take (j+1)).map (·.1)).map encI)::_) P;rw[Xb hlj,Zqh (fun e=>by
     have:=congrArg Yi e;rw[Zq,Zo]at this;omega)]
    simp only[Zp,Zr,Vd];exact(Ent.dropAt [_] _ _).trans ((Ent.dropAt [_,_] _ _).trans ((Ent.dropAt [_,_] _ _).trans Ent.swap))
   ·refine .seq (.seq (.region (.pu .mv (.pu .cn (.nil ?_)))));refine .no rfl (.skip (.region (.pu .fa (.ld ?_))));refine .pu .fa (.ld ?_);refine .bl (k:=1) (es:=[[_]]) fun v81=>?_;refine .ap (fun v82=>?_) (hr:=.s (.s (.s .z))) (hw:=.o .l0) (hn:=by rw[Zc,Zc,Zq];show(min j _+1)*8≤_;omega) (ho:=fun f hf=>by rcases Z6.1 hf with rfl;rfl)
    refine .fact (Hr .l0) fun⟨a82,c82,e82⟩=>?_;subst e82;refine .pu .fa (.st (vs:=[_]) ?_);refine .nil (.region (.pu .add (.pu .mv (.nil ?_))));refine⟨⟨j+1,kv5,.slice a82 (Y3 encI (Y3 (fun x:Nat×Bs=>x.1) (Ur j all))++[[Value.int .i64 (all[j].1:Nat)]]).length c82⟩,hlj,by show all.length-(j+1)<all.length-j;omega,⟨rfl,rfl,rfl,rfl,rfl,trivial⟩,?_⟩;have hj1:j=0:=by omega
    show Ent _ _ (Ow 1 _ (((all.take (j+1)).tail.map (·.2)).map encS)::Ow 1 _ (((all.take (j+1)).map (·.1)).map encI)::_) P;rw[Xb hlj];subst hj1;simp only[J3,Xj,Vv,Zqi,Zp,Zr,Vd];exact(Ent.dropAt [_] _ _).trans ((Ent.dropAt [_] _ _).trans Ent.swap)
  ·refine .seq (.region ?_);have hlj2:¬j<(all.map Gs).length:=by omega
   refine .pu .cn (.nil (.seq (.no rfl (.exit (.seq (.region ?_))))));have e:all.take j=all:=Z8 (by omega);rw[e];refine .fact (Hr .l0) fun⟨ax,cx,(ex:kv5=_)⟩=>?_;refine .fact (Hr .l1) fun⟨ay,cy,(ey:iv5=_)⟩=>?_;subst ex ey;refine .lda (vs:=[_,_,_,_]) ?_;refine .st (vs:=[_,_,_,_]) ?_;refine .nil (.ret ?_);refine⟨_,.cell rfl .l4 rfl .nil,_,_,(Ent.sl.trans (Ent.sl.trans (Ent.d4.trans Ent.sl0))),_,rfl,⟨⟨_,_,_,rfl,.head _,?_,?_⟩⟩,rfl,fun A hA=>.tail _ (.tail _ (.tail _ hA))⟩
   ·exact .tail _ (.tail _ (.head _))
   ·exact .tail _ (.head _)
theorem Ent.pull(L1 A L2:List Asn){P:List Asn}:Ent (L1++(A++L2)) P (A++(L1++L2)) P:=Ent.perm (Ua L1 A L2)
theorem Ent.push(L1 A L2:List Asn){P:List Asn}:Ent (A++(L1++L2)) P (L1++(A++L2)) P:=Ent.perm (Ua L1 A L2).symm
theorem xd(L1 L P:List Asn)(t:Nat)(τ:Tr)(p:Nat)(n:Nd)(hp:(p:Int)<τ.σ.n)(hn:τ.pg p=some n.enc)(hok:He n):Sp SET 133 [.pointer (some ⟨t,0,none⟩),.int .i64 (p:Nat)] (L1++(trL t τ++L)) P (NdR n (L1++(trL t τ++L)) P):=
 Sp.ent (Ent.pull _ _ _) ((w8 (L1++L) P t τ p n hp hn hok).post (fun v L' P' ⟨w,e,hw,hL,hs⟩=>⟨_,_,by rw[hL];exact Ent.push _ _ _,w,e,hw,rfl,hs⟩))
theorem Sp.tr{E:Env}{f:FuncId}{args:List Value}{t:Nat}{τ:Tr}{P:List Asn}{Q:Value→Tr→List Asn→Prop}(L1 L2:List Asn)(h:∀L,Sp E f args (trL t τ++L) P (fun r L' P'=>∃τ',Q r τ' P'∧L'=trL t τ'++L)):Sp E f args (L1++(trL t τ++L2)) P (fun r L' P'=>∃τ',Q r τ' P'∧L'=L1++(trL t τ'++L2)):=
 Sp.ent (Ent.pull _ _ _) ((h (L1++L2)).post (fun v L' P' ⟨τ',hq,hL⟩=>⟨_,_,by rw[hL];exact Ent.push _ _ _,τ',hq,rfl⟩))
def By(nks:List (Nat×Bs))(i:Nat):List (Nat×Bs):=nks.take (i+1)++nks.drop (i+2)
def Tz(τ:Tr)(n m:Nd)(nks:List (Nat×Bs))(i p q:Nat)(P:List Asn)(r:Value)(τ':Tr)(P':List Asn):Prop:=
 (∀A∈P,A∈P')∧∃v',((160<m.size∧r=.tuple ⟨[v',.bool false,.int .i64 0]⟩∧NdV P' v' n∧τ'=τ)∨
  (m.size≤160∧∃n',r=.tuple ⟨[v',.bool true,.int .i64 0]⟩∧NdV P' v' n'∧n'.leaf=n.leaf∧n'.pairs=n.pairs∧Bj n' (By nks i)∧τ'= {τ with σ:=τ.σ.put (p:Nat) m.enc,α:=τ.α.give q}))
theorem Bj.less{n:Nd}{nks:List (Nat×Bs)}(h:Bj n nks){i:Nat}(hi:i+1<nks.length):Bj ⟨n.leaf,n.pairs,n.keys.take i++n.keys.drop (i+1),n.kids.take (i+1)++n.kids.drop (i+2)⟩ (By nks i):=by
 obtain⟨h1,h2,h3⟩:=h;rcases nks with _|⟨x,r⟩
 ·cases hi
 ·refine⟨?_,?_,?_⟩
  ·show n.kids.take (i+1)++n.kids.drop (i+2)=_;rw[h1];simp[By]
  ·show n.keys.take i++n.keys.drop (i+1)=_;rw[h2];simp[By]
  ·intro y hy;exact h3 y (by simpa[By]using hy)
theorem Zf1(t:Nat)(τ:Tr)(v:Value)(n a b:Nd)(nks:List (Nat×Bs))(i:Nat)(hv:NdV P v n)(hN:Bj n nks)(hi:i+1<nks.length)(hl1:nks.length≤1000)
 (hp:((nks[i].1:Nat):Int)<τ.σ.n) (hq:((nks[i+1].1:Nat):Int)<τ.σ.n) (ha:τ.pg nks[i].1=some a.enc) (hb:τ.pg nks[i+1].1=some b.enc) (hao:He a) (hbo:He b) (hlf:a.leaf=b.leaf) (hk:isKey nks[i+1].2=true) (hm:(Gd a nks[i+1].2 b).ok=true) (hu:mem τ.α.us nks[i+1].1=true):Sp SET 148 [.pointer (some ⟨t,0,none⟩),v,.int .i64 (i:Nat)] (trL t τ++L) P (fun r L' P'=>∃τ',Tz τ n (Gd a nks[i+1].2 b) nks i nks[i].1 nks[i+1].1 P r τ' P'∧L'=trL t τ'++L):=by
 have hv0:=hv;obtain⟨pv,qv,iv,rfl,hpv,hqv,hiv⟩:=hv.ex;refine Sp.fact (Gi (.s (.p hpv))) fun⟨am1,cm1,em1⟩=>?_;refine Sp.fact (Gi (.s (.p hqv))) fun⟨am2,cm2,em2⟩=>?_;refine Sp.fact (Gi (.s (.p hiv))) fun⟨am3,cm3,em3⟩=>?_;subst em1 em2 em3;have hkl:n.kids.length=nks.length:=by rw[hN.kids,Zc]
 have hil:(n.kids.map encI).length=nks.length:=by rw[Zc,hkl]
 have hsl:(n.keys.map encS).length=nks.length-1:=by rw[Zc,hN.keys,Zc,V9]
 have hgk:(n.kids.map encI)[((i:Nat):Int).toNat]? =some [.int .i64 (nks[i].1:Nat)]:=by
  rw[hN.kids,Yp,Zy,Zy,Zn (by omega)];rfl
 have hgk2:(n.kids.map encI)[((i:Int)+1).toNat]? =some [.int .i64 (nks[i+1].1:Nat)]:=by
  rw[hN.kids,show((i:Int)+1).toNat=i+1 by omega,Zy,Zy,Zn hi];rfl
 have hgs:(n.keys.map encS)[((i:Nat):Int).toNat]? =some [S nks[i+1].2]:=by
  obtain⟨h1,h2⟩:=hN.key hi (by omega);have h1:i<n.keys.length:=h1;rw[Yp,Zy,Zn h1,←h2 h1];rfl
 have hms:=Nd.ok_sm hm;obtain⟨hw1,hw2⟩:=Nd.ok_w hm;refine .bo (fn:=Tryz.f148) (N:=111) ?_;refine .seq (.region ?_);refine .bx (cs:=[_,_,_,_]) fun b4=>?_;refine .nw (cs:=[.bool false,.slice none 0 0,.slice none 0 0,.slice none 0 0]) fun b6=>?_;refine .pu .as (.pu .as (.nil (.seq (.region (.pu .mv (.pu .fa (.ld ?_)))))));refine .pu .mv ?_;refine .lk (.ia (hn:=⟨by omega,by omega⟩)) ?_;refine .le hgk ?_;refine .call (xd [_,_] _ _ _ _ _ a hp ha hao) ?_;rintro _ _ _ ⟨va,rfl,hva,rfl,hs1⟩;have hva0:=hva;have hpv1:=hs1 _ hpv;have hqv1:=hs1 _ hqv;have hiv1:=hs1 _ hiv;obtain⟨pa,qa,ia,rfl,hpa,hqa,hia⟩:=hva.ex;refine .fact (Gi (.s (.p hpa))) fun⟨a1,c1,e1⟩=>?_;refine .fact (Gi (.s (.p hqa))) fun⟨a2,c2,e2⟩=>?_;refine .fact (Gi (.s (.p hia))) fun⟨a3,c3,e3⟩=>?_;subst e1 e2 e3;refine .pu .mv (.pu .ex (.pu .ex ?_));refine .nw (cs:=[.bool false,.slice none 0 0,.slice none 0 0,.slice none 0 0]) fun b9=>?_
 refine .st (vs:=[_,_,_,_]) ?_;refine .pu .as (.nil (.seq (.seq (.region (.pu .mv (.pu .cmp (.nil ?_)))))));refine .no rfl (.skip (.seq (.region (.pu .mv (.pu .fa (.ld ?_))))));refine .pu .mv (.pu .add ?_);refine .lk (.ia (hn:=⟨by omega,by omega⟩)) ?_;refine .le hgk2 ?_;refine .call (xd [_,_,_] _ _ _ _ _ b hq hb hbo) ?_;rintro _ _ _ ⟨vb,rfl,hvb,rfl,hs2⟩;have hvb0:=hvb;have hpv2:=hs2 _ hpv1;have hqv2:=hs2 _ hqv1;have hiv2:=hs2 _ hiv1;have hpa2:=hs2 _ hpa;have hqa2:=hs2 _ hqa;have hia2:=hs2 _ hia;obtain⟨pb,qb,ib,rfl,hpb,hqb,hib⟩:=hvb.ex;refine .fact (Gi (.s (.p hpb))) fun⟨b1,d1,e1⟩=>?_;refine .fact (Gi (.s (.p hqb))) fun⟨b2,d2,e2⟩=>?_;refine .fact (Gi (.s (.p hib))) fun⟨b3,d3,e3⟩=>?_;subst e1 e2 e3;refine .pu .mv (.pu .ex (.pu .ex ?_));refine .nw (cs:=[.bool false,.slice none 0 0,.slice none 0 0,.slice none 0 0]) fun b11=>?_
 refine .st (vs:=[_,_,_,_]) ?_;refine .pu .as (.nil (.seq (.seq (.region (.pu .mv (.pu .cmp (.nil ?_)))))));refine .no rfl (.skip ?_);refine .seq (.drawn fun _=>?_);refine .lo 0 0 .ld .mk ?_;refine .pu .fa (.lo 0 0 .ld .mk ?_);refine .pu .mv ?_;refine .lk (.ia (k:=1) (es:=n.keys.map encS) (hn:=⟨by omega,by omega⟩)) ?_;refine .lo 0 0 .le (.mk hgs) ?_;refine .lo 0 0 .ld .mk ?_;refine .call (DZ _ _ _ _ a b nks[i+1].2 (hva0.sub hs2) hvb0 hao.sm hbo.sm hao.ok hbo.ok hlf hk hm hms) ?_;rintro _ _ _ ⟨vm,rfl,hvm,rfl,hs3⟩;have hvm0:=hvm;have hpv3:=hs3 _ hpv2;have hqv3:=hs3 _ hqv2;have hiv3:=hs3 _ hiv2;obtain⟨pm,qm,im,rfl,hpm,hqm,him⟩:=hvm.ex;refine .fact (Gi (.s (.p hpm))) fun⟨m1,n1,e1⟩=>?_;refine .fact (Gi (.s (.p hqm))) fun⟨m2,n2,e2⟩=>?_;refine .fact (Gi (.s (.p him))) fun⟨m3,n3,e3⟩=>?_;subst e1 e2 e3;refine .pu .mv (.pu .ex (.pu .ex ?_))
 refine .nw (cs:=[.bool false,.slice none 0 0,.slice none 0 0,.slice none 0 0]) (hlt:=by show∀x∈([]:Hj),_;simp) fun b12=>?_;refine .st (vs:=[_,_,_,_]) ?_;refine .pu .as (.nil (.cons (.yes .mk (.skip (.skip .nil))) (.cons (.yes (.mk hgs) (.skip (.skip .nil))) (.cons (.yes .mk (.skip (.skip .nil))) (.cons (.yes .mk (.skip (.skip .nil))) .nil)))) ?_);by_cases hz:160<(Gd a nks[i+1].2 b).size
 ·refine .seq (.seq (.region (.pu .mv (.pu .cmp (.pu .mv (.on (.lda (vs:=[_,_,_,_]) ?_)))))));refine .on ?_;refine .call (Ts _ _ _ _ hvm0 hms.small (by omega) (by omega)) ?_;rintro _ L P ⟨rfl,rfl,rfl⟩;refine .on (.pu .cy (.pu .pk (.nil ?_)));refine .yes rfl (.seq (.region (.lda (vs:=[_,_,_,_]) ?_)));refine .st (vs:=[_,_,_,_]) ?_;refine .pu .as (.pu .as (.nil (.ret ?_)));exact⟨_,.cell rfl .l3 rfl (.tmp rfl (.tmp rfl .nil)),_,_,(Ent.d3.trans Ent.d2),τ,⟨fun A hA=>hs3 _ (hs2 _ (hs1 _ hA)),_,.inl ⟨hz,rfl,hv0.sub (fun A hA=>hs3 _ (hs2 _ (hs1 _ hA))),rfl⟩⟩,rfl⟩
 ·refine .seq (.seq (.region (.pu .mv (.pu .cmp (.pu .mv (.on (.lda (vs:=[_,_,_,_]) ?_)))))));refine .on ?_;refine .call (Ts _ _ _ _ hvm0 hms.small (by omega) (by omega)) ?_;rintro _ L P ⟨rfl,rfl,rfl⟩;refine .on (.pu .cn (.pu .pk (.nil ?_)));refine .no rfl (.skip (.seq (.region (.lda (vs:=[_,_,_,_]) ?_))));refine .call (VY _ _ _ _ hvm0 hms hm (by omega)) ?_;rintro _ L P ⟨rfl,rfl,rfl⟩;refine .pu .mv (.pu .ex (.pu .ex (.pu .as (.pu .as (.nil (.seq (.seq (.region (.pu .mv (.pu .cmp (.nil ?_)))))))))));refine .yes rfl ?_;refine .drawn fun _=>?_;refine .pu .mv (.pu .nc (.pu .fa (.lo 0 0 .ld .mk ?_)));refine .pu .fa (.lo 0 0 .ld .mk ?_);refine .pu .mv ?_;refine .lk (.ia (k:=1) (es:=n.kids.map encI) (hn:=⟨by omega,by omega⟩)) ?_;refine .lo 0 0 .le (.mk hgk) ?_;refine .pu .mv ?_;have hel:(Gd a nks[i+1].2 b).enc.length≤160:=by rw[wt];omega
  refine .call (Sp.up (.s (.s (.s (.s (.s (.s .z)))))) (fun L=>w7 L _ _ _ _ _ (Yk _) hp hel)) ?_;rintro _ L P ⟨rfl,rfl,rfl⟩;refine .pu .as (.nil (.cons (.yes (.mk hgk) (.skip .nil)) (.cons (.yes .mk (.skip .nil)) (.cons (.yes .mk (.skip .nil)) .nil))) (.seq (.seq (.region (.pu .mv (.pu .cmp (.nil ?_)))))));refine .yes rfl ?_;refine .drawn fun _=>?_;refine .pu .mv (.pu .nc (.pu .fa (.lo 0 0 .ld .mk ?_)));refine .pu .fa (.lo 0 0 .ld .mk ?_);refine .pu .mv (.pu .add ?_);refine .lk (.ia (k:=1) (es:=n.kids.map encI) (hn:=⟨by omega,by omega⟩)) ?_;refine .lo 0 0 .le (.mk hgk2) ?_;refine .call (Sp.up (.s (.s (.s (.s (.s (.s (.s .z))))))) (fun L=>jz L _ _ _ _ hu)) ?_;rintro _ L P ⟨rfl,rfl,rfl⟩;refine .pu .as (.nil (.cons (.yes (.mk hgk2) (.skip .nil)) (.cons (.yes .mk (.skip .nil)) (.cons (.yes .mk (.skip .nil)) .nil))) (.seq (.region (.pu .fa (.ld ?_)))))
  refine .call (XG _ _ _ (n.kids.map encI) (.s (.p hiv3)) (by omega) (Tv _)) ?_;rintro _ _ P ⟨rfl,rfl⟩;refine .ent Ent.ofF ?_;refine .fact (y7 .l0 (fun e=>by have:=congrArg Yi e;rw[Zo]at this;omega)) fun⟨bx,cx,hvx,hcx⟩=>?_;subst hvx;refine .pu .mv (.pu .add (.pu .mv (.pu .add ?_)));refine .call (Zda _ _ bx cx (i+1) (i+2) (n.kids.map encI) (by omega) (by omega) hcx (by omega) (Tv _)) ?_;rintro _ L P ⟨rfl,rfl,rfl⟩;refine .pu .fa (.st (vs:=[_]) ?_);refine .nil (.seq (.region (.pu .fa (.ld ?_))));refine .call (XH _ _ _ (n.keys.map encS) (.s (.p hqv3)) (by omega) (Da _)) ?_;rintro _ _ P ⟨rfl,rfl⟩;refine .ent Ent.ofF ?_;refine .fact (y7 .l0 (fun e=>by have:=congrArg Yi e;rw[Zo]at this;omega)) fun⟨by_,cy,hvy,hcy⟩=>?_;subst hvy;refine .pu .mv (.pu .mv (.pu .add ?_));refine .call (BL _ _ by_ cy i (i+1) (n.keys.map encS) (by omega) (by omega) hcy (by omega) (Da _)) ?_;rintro _ L P ⟨rfl,rfl,rfl⟩
  refine .pu .fa (.st (vs:=[_]) ?_);refine .nil (.seq (.region (.lda (vs:=[_,_,_,_]) ?_)));refine .pu .mv (.st (vs:=[_,_,_,_]) ?_);refine .pu .as (.pu .as (.nil (.ret ?_)));refine⟨_,.cell rfl .l5 rfl (.tmp rfl (.tmp rfl .nil)),_,_,(Ent.sl.trans (Ent.sl.trans (Ent.d3.trans Ent.d2))),_,⟨fun A hA=>.tail _ (.tail _ (hs3 _ (hs2 _ (hs1 _ hA)))),_,.inr ⟨by omega,⟨n.leaf,n.pairs,n.keys.take i++n.keys.drop (i+1),n.kids.take (i+1)++n.kids.drop (i+2)⟩,rfl,⟨⟨_,_,_,rfl,.tail _ (.tail _ hpv3),?_,?_⟩⟩,rfl,rfl,hN.less hi,rfl⟩⟩,rfl⟩
  ·show Sl 1 _ ((n.keys.take i++n.keys.drop (i+1)).map encS)∈_;rw[Zp,J2,V7];exact .tail _ (.head _)
  ·show Sl 1 _ ((n.kids.take (i+1)++n.kids.drop (i+2)).map encI)∈_;rw[Zp,J2,V7];exact .head _
theorem T3{a b c:Bs}(h:Gf a b=true)(h2:Gf c b=false):Gf a c=true:=by
 cases h3:Gf a c with
 |true=>rfl
 |false=>
  cases h4:Gf c a with
  |true=>rw[Dz c a b h4 h]at h2;cases h2
  |false=>
   have:=Tt a c h3 h4;subst this;rw[h]at h2;cases h2
theorem FN{a b c:Bs}(h:Gf b a=false)(h2:Gf b c=true):Gf a c=true:=by
 cases h3:Gf a c with
 |true=>rfl
 |false=>
  cases h4:Gf c a with
  |true=>rw[Dz b c a h2 h4]at h;cases h
  |false=>
   have:=Tt a c h3 h4;subst this;rw[h2]at h;cases h
theorem Rl{a b:Bs}(h:Gf a b=true):Gf b a=false:=wm a b h
theorem Rm{a b c:Bs}(h:Gf b a=false)(h2:Gf c b=false):Gf c a=false:=by
 cases h3:Gf c a with
 |false=>rfl
 |true=>rw[T3 h3 h]at h2;cases h2
theorem Ml :∀ {l:List Bs},rise l=true↔l.Pairwise (fun a b=>Gf a b=true)
 |[]=>by simp[rise]
 |[a]=>by simp[rise]
 |a::b::l=>by
  have ih:=Ml (l:=b::l);constructor
  ·intro h;have h:(Gf a b&&rise (b::l))=true:=h;rw[Zi]at h;have h2:=ih.1 h.2;refine Yf.2 ⟨fun c hc=>?_,h2⟩;rcases Zg.1 hc with rfl|hc
   ·exact h.1
   ·exact Dz _ _ _ h.1 ((Yf.1 h2).1 c hc)
  ·intro h;obtain⟨h1,h2⟩:=Yf.1 h;show(Gf a b&&rise (b::l))=true;rw[Zi];exact⟨h1 b (Zm ..),ih.2 h2⟩
structure Kid where
 page:Nat
 key:Bs
 ps:List Pr
 gs:List Nat
def kK(k:Kid):Nat×Bs:=(k.page,k.key)
def Sep(ks:List Kid):Prop:=ks.Pairwise (fun a b=>(∀q∈a.ps,Gf q.1 b.key=true)∧∀q∈b.ps,Gf q.1 b.key=false)
def TL(ks:List Kid)(j:Nat):Prop:=∀h:j+1<ks.length,158<weight ks[j].ps+weight ks[j+1].ps
def H0(ks:List Kid):Prop:=∀j,TL ks j
structure Tg where
 t:Bool
 m:Nat
inductive Sub(T:Tg)(pg:Nat→Option Bs):Nat→Nat→List Pr→List Nat→Prop
 |leaf {p:Nat} {ps:List Pr} (h:pg p=some (Gj ps).enc) (ok:He (Gj ps)):Sub T pg 0 p ps [p]
 |inner {h p:Nat} {ks:List Kid} (hp:pg p=some (Gh (ks.map kK)).enc) (ok:He (Gh (ks.map kK))) (hk:∀k∈ks,Sub T pg h k.page k.ps k.gs) (sp:Sep ks) (ht:T.t=true→h=0→H0 ks) (km:∀k∈ks.tail,k.key.length≤T.m):Sub T pg (h+1) p (ks.flatMap (·.ps)) (p::ks.flatMap (·.gs))
theorem Sub.head{T:Tg}{pg:Nat→Option Bs}{h p:Nat}{ps:List Pr}{gs:List Nat}(H:Sub T pg h p ps gs):p∈gs:=by
 cases H<;>exact Zm ..
theorem Sub.congr{T:Tg}{pg pg':Nat→Option Bs}{h p:Nat}{ps:List Pr}{gs:List Nat}(H:Sub T pg h p ps gs)(hc:∀j∈gs,pg' j=pg j):Sub T pg' h p ps gs:=by
 induction H with
 |leaf h ok=>exact .leaf ((hc _ (Zm ..)).trans h) ok
 |inner hp ok hk sp ht km ih=>
  exact .inner ((hc _ (Zm ..)).trans hp) ok (fun k hkm=>ih k hkm (fun j hj=>hc j (Zs _ (Yb.2 ⟨k,hkm,hj⟩)))) sp ht km
theorem D4{ks:List (Nat×Bs)}(h:He (Gh ks)):ks≠[]∧ks.length≤255∧(∀x∈ks.tail,isKey x.2=true)∧(∀x∈ks,1≤x.1∧x.1≤65535)∧rise (ks.tail.map (·.2))=true:=by
 obtain⟨h1,h2,h3,h4,h5,h6,h7,h8⟩:=Mk (M6 h.ok rfl);have h3:1≤(ks.map (·.1)).length:=h3;have h4:(ks.map (·.1)).length≤255:=h4;rw[Zc]at h3 h4;refine⟨fun e=>(by rw[e]at h3;cases h3),h4,fun x hx=>h6 x.2 (Zl.2 ⟨x,hx,rfl⟩),fun x hx=>h7 x.1 (Zl.2 ⟨x,hx,rfl⟩),h8⟩
theorem Sub.ne{T:Tg}{pg:Nat→Option Bs}{h p:Nat}{ps:List Pr}{gs:List Nat}(H:Sub T pg h p ps gs):ps≠[]:=by
 induction H with
 |leaf h ok=>exact ok.ne rfl
 | @inner h p ks hp ok hk sp ht km ih=>
  rcases ks with _|⟨k,r⟩
  ·exact absurd rfl (D4 ok).1
  ·intro e;rw[Zx]at e;exact ih k (Zm ..) (List.append_eq_nil_iff.1 e).1
theorem Sep.pairs{ks:List Kid}(h:Sep ks)(hr:∀k∈ks,rise (k.ps.map (·.1))=true):rise ((ks.flatMap (·.ps)).map (·.1))=true:=by
 rw[Ml]
 induction ks with
 |nil=>exact Xx.nil
 |cons k r ih=>
  rw[Zx,Zp,Ys];obtain⟨h1,h2⟩:=Yf.1 h;refine⟨Ml.1 (hr k (Zm ..)),ih h2 (fun x hx=>hr x (Zs _ hx)),fun a ha b hb=>?_⟩;obtain⟨q,hq,rfl⟩:=Zl.1 ha;obtain⟨q2,hq2,rfl⟩:=Zl.1 hb;obtain⟨c,hc,hq2⟩:=Yb.1 hq2;exact T3 ((h1 c hc).1 q hq) ((h1 c hc).2 q2 hq2)
theorem Sub.rise{T:Tg}{pg:Nat→Option Bs}{h p:Nat}{ps:List Pr}{gs:List Nat}(H:Sub T pg h p ps gs):rise (ps.map (·.1))=true:=by
 induction H with
 |leaf h ok=>exact(Mh (Mj ok.ok rfl)).2.2.2.2.1
 |inner hp ok hk sp ht km ih=>exact sp.pairs ih
theorem VF{ks:List Bs}(h:Go.Cis.rise ks=true)(k:Bs):∀j (hj:j<ks.length),(j<lb ks k→Gf ks[j] k=true)∧(lb ks k≤j→Gf ks[j] k=false):=by
 induction ks with
 |nil=>intro j hj;cases hj
 |cons a ks ih=>
  obtain⟨h1,h2⟩:=Yf.1 (Ml.1 h);have ih:=ih (Ml.2 h2);intro j hj;cases ha:Gf a k with
  |true=>
   have e:lb (a::ks) k=lb ks k+1:=by
    unfold lb;rw[List.takeWhile_cons_of_pos (by simpa using ha),Zf]
   rw[e];cases j with
   |zero=>exact⟨fun _=>ha,fun h=>by omega⟩
   |succ j=>
    have:=ih j (J4 hj);exact⟨fun h=>this.1 (by omega),fun h=>this.2 (by omega)⟩
  |false=>
   have e:lb (a::ks) k=0:=by
    unfold lb;rw[List.takeWhile_cons_of_neg (by simp[ha])];rfl
   rw[e];refine⟨fun h=>by omega,fun _=>?_⟩;cases j with
   |zero=>exact ha
   |succ j=>
    have:=h1 _ (Zz (J4 hj));exact Rm ha (Rl this)
theorem Zf2{n:Nd}(hl:n.leaf=false)(h:Go.Cis.rise n.keys=true)(k:Bs):n.find k≤n.keys.length∧∀j (hj:j<n.keys.length),(j<n.find k→Gf k n.keys[j]=false)∧(n.find k≤j→Gf k n.keys[j]=true):=by
 have hs:=VF h k;have hle:=Rf n.keys k;unfold Nd.find;rw[hl,cond_false];cases hd:decide (n.keys[lb n.keys k]? =some k)with
 |true=>
  have hk:=of_decide_eq_true hd;obtain⟨hlt,hke⟩:=List.getElem?_eq_some_iff.1 hk;rw[cond_true];refine⟨hlt,fun j hj=>⟨fun hj2=>?_,fun hj2=>?_⟩⟩
  ·rcases Zt j (lb n.keys k)with h1|h1
   ·exact Rl ((hs j hj).1 h1)
   ·have e:j=lb n.keys k:=by omega
    subst e;rw[hke];exact Dy k
  ·have h1:=(Je.1 (Ml.1 h)) (lb n.keys k) j hlt hj (by omega);rw[hke]at h1;exact h1
 |false=>
  have hk:=of_decide_eq_false hd;rw[cond_false];refine⟨hle,fun j hj=>⟨fun hj2=>Rl ((hs j hj).1 hj2),fun hj2=>?_⟩⟩;have h1:=(hs j hj).2 hj2;cases h2:Gf k n.keys[j]with
  |true=>rfl
  |false=>
   exfalso;have e:=Tt k n.keys[j] h2 h1;rcases Zt (lb n.keys k) j with h3|h3
   ·have h4:=(Je.1 (Ml.1 h)) (lb n.keys k) j (by omega) hj h3;have h5:=(hs (lb n.keys k) (by omega)).2 (Ze _);rw[←e]at h4;rw[h4]at h5;cases h5
   ·have e2:j=lb n.keys k:=by omega
    subst e2;exact hk (by rw[Zn hj,←e])
theorem Zf3{n:Nd}(h:n.leafOk=true):n=Gj n.pairs:=by
 obtain⟨h1,h2,h3,_⟩:=Mh h;cases n;simp only at h1 h2 h3;subst h1 h2 h3;rfl
def Rn(x:Nat×Pc):Kid:=⟨x.1,x.2.1,x.2.2.pairs,[x.1]⟩
theorem FB :∀(pgs:List Nat) (pcs:List Pc),pgs.length=pcs.length→((pgs.zip pcs).map Rn).flatMap (·.gs)=pgs
 |[],_,_=>rfl
 |g::pgs,[],h=>by cases h
 |g::pgs,x::pcs,h=>by
  rw[Vy,Zr,Zx,FB pgs pcs (by simpa using h)];rfl
theorem VT :∀(pgs:List Nat) (pcs:List Pc),pgs.length=pcs.length→((pgs.zip pcs).map Rn).map (·.ps)=pcs.map (·.2.pairs)
 |[],[],_=>rfl
 |[],x::pcs,h=>by cases h
 |g::pgs,[],h=>by cases h
 |g::pgs,x::pcs,h=>by
  rw[Vy,Zr,Zr,Zr,VT pgs pcs (by simpa using h)];rfl
theorem FC{f:Nat×Pc→Kid}(hf:∀x,kK (f x)=(x.1,x.2.1)):∀(pgs:List Nat) (pcs:List Pc),((pgs.zip pcs).map f).map kK=pgs.zip (pcs.map (·.1))
 |[],_=>rfl
 |g::pgs,[]=>rfl
 |g::pgs,x::pcs=>by
  rw[Vy,Zr,Zr,Zr,Vy,FC hf pgs pcs,hf]
theorem Zf4{T:Tg}{pg:Nat→Option Bs}{pgs:List Nat}{pcs:List Pc}(hok:∀m∈pcs.map (·.2),He m∧m.leaf=true)(hpg:∀x∈pgs.zip pcs,pg x.1=some x.2.2.enc):∀k∈(pgs.zip pcs).map Rn,Sub T pg 0 k.page k.ps k.gs:=fun k hk=>by
 obtain⟨x,hx,rfl⟩:=Zl.1 hk;obtain⟨h1,h2⟩:=hok x.2.2 (Zl.2 ⟨x.2,(Kv hx).2,rfl⟩);have e:=Zf3 (Mj h1.ok h2);refine .leaf ?_ ?_
 ·show pg x.1=some (Gj x.2.2.pairs).enc;rw[←e];exact hpg x hx
 ·show He (Gj x.2.2.pairs);rw[←e];exact h1
theorem FD :∀ {ks:List Kid},rise ((ks.flatMap (·.ps)).map (·.1))=true→(∀k∈ks.tail,k.ps.head?.map (·.1)=some k.key)→Sep ks
 |[],_,_=>Xx.nil
 |k::r,h,hk=>by
  have h:=Ml.1 h;rw[Zx,Zp,Ys]at h;obtain⟨h1,h2,h3⟩:=h;have hk:∀k∈r,k.ps.head?.map (·.1)=some k.key:=hk;refine Yf.2 ⟨fun b hb=>?_,FD (Ml.2 h2) (fun x hx=>hk x (Jf hx))⟩;have hb2:=hk b hb;rcases hp:b.ps with _|⟨q,t⟩
  ·rw[hp]at hb2;cases hb2
  ·rw[hp]at hb2;have e:q.1=b.key:=Option.some.inj hb2;refine⟨fun a ha=>?_,fun a ha=>?_⟩
   ·refine h3 a.1 (Zl.2 ⟨a,ha,rfl⟩) b.key (Zl.2 ⟨q,Yb.2 ⟨b,hb,?_⟩,e⟩);rw[hp];exact Zm ..
   ·have hbr:rise (b.ps.map (·.1))=true:=by
     rw[Ml];obtain⟨s,t2,rfl⟩:=Zqj hb;rw[Yd,Zx,Zp,Zp]at h2;exact(Ys.1 (Ys.1 h2).2.1).1
    rw[hp]at hbr;have hbr:=(Yf.1 (Ml.1 hbr)).1;rcases Zg.1 ha with rfl|ha
    ·rw[e];exact Dy _
    ·have:Gf q.1 a.1=true:=hbr a.1 (Zl.2 ⟨a,ha,rfl⟩);rw[e]at this;exact Rl this
theorem H8.get :∀ {ps:List Pc},H8 ps→∀j (h:j+1<ps.length),160<(Gd ps[j].2 ps[j+1].1 ps[j+1].2).size
 |[],_,j,h=>by cases h
 |[x],_,j,h=>by simp at h
 |x::y::r,t,0,h=>t.1
 |x::y::r,t,j+1,h=>H8.get t.2 j (J4 h)
theorem Zf5{pgs:List Nat}{pcs:List Pc}(hl:pgs.length=pcs.length)(hok:∀m∈pcs.map (·.2),m.leaf=true)(ht:H8 pcs):H0 ((pgs.zip pcs).map Rn):=fun j h=>by
 rw[Zc,X9,hl,Nat.min_self]at h;have h1:=ht.get j h;have h2:(Gd pcs[j].2 pcs[j+1].1 pcs[j+1].2).leaf=true:=hok pcs[j].2 (Zl.2 ⟨_,Zz (by omega),rfl⟩);rw[Nf h2]at h1;have h1:160<2+weight (pcs[j].2.pairs++pcs[j+1].2.pairs):=h1;rw[Cg]at h1;simp only[Yw,List.getElem_zip,Rn];omega
theorem H0.left{a b:List Kid}(h:H0 (a++b)):H0 a:=fun j hj=>by
 have:=h j (by rw[Zd];omega);rw[Vm (by omega),Vm (by omega)]at this;exact this
theorem H0.right{a b:List Kid}(h:H0 (a++b)):H0 b:=fun j hj=>by
 have:=h (a.length+j) (by rw[Zd];omega);rw[Vn (by omega),Vn (by omega)]at this;simp only[Nat.add_sub_cancel_left,Ya]at this;exact this
theorem Zf6{n:Nd}{ks:List Kid}{k0:Bs}(h:n.innerOk=true)(h1:ks.map (·.page)=n.kids)(h2:ks.map (·.key)=k0::n.keys):n=Gh (ks.map kK):=by
 obtain⟨a1,a2,_⟩:=Mk h;have e1:(ks.map kK).map (·.1)=n.kids:=by rw[X3];exact h1
 have e2:(ks.map kK).tail.map (·.2)=n.keys:=by
  rw[Ub,X3];have:ks.map ((fun x:Nat×Bs=>x.2) ∘ kK)=ks.map (·.key):=rfl;rw[this,h2];rfl
 cases n;simp only at a1 a2 e1 e2;unfold Gh M1;rw[e1,e2,a1,a2]
theorem FF{T:Tg}{pg:Nat→Option Bs}{h:Nat}:∀(r:List Pc) (pgs:List Nat) (ks:List Kid),pgs.length=r.length→(∀m∈r.map (·.2),He m∧m.leaf=false)→(∀x∈pgs.zip r,pg x.1=some x.2.2.enc)→ks.map (·.page)=r.flatMap (·.2.kids)→ks.map (·.key)=r.flatMap (fun x=>x.1::x.2.keys)→(∀k∈ks,Sub T pg h k.page k.ps k.gs)→Sep ks→(T.t=true→h=0→H0 ks)→(∀k∈ks.tail,k.key.length≤T.m)→
  ∃ups:List Kid,ups.map kK=pgs.zip (r.map (·.1))∧(∀k∈ups,Sub T pg (h+1) k.page k.ps k.gs)∧ups.flatMap (·.ps)=ks.flatMap (·.ps)∧(ups.flatMap (·.gs)).Perm (pgs++ks.flatMap (·.gs))∧Sep ups∧(∀k∈ups.tail,k.key.length≤T.m)∧∀b∈ups,∃c∈ks,c.key=b.key∧((∀q∈c.ps,Gf q.1 c.key=false)→∀q∈b.ps,Gf q.1 b.key=false)
 |[],pgs,ks,hl,_,_,hp,_,_,_,_,_=>by
  have e1:pgs=[]:=Yh.1 hl;have e2:ks=[]:=List.map_eq_nil_iff.1 hp;subst e1 e2;exact⟨[],rfl,fun _ h=>(by cases h),rfl,.refl _,Xx.nil,fun _ h=>(by cases h),fun _ h=>(by cases h)⟩
 |x::r,[],ks,hl,_,_,_,_,_,_,_,_=>by cases hl
 |x::r,g::pgs,ks,hl,hok,hpg,hp,hk,hsub,hsep,ht,hkm0=>by
  obtain⟨hx,hxl⟩:=hok x.2 (by simp);have hio:=M6 hx.ok hxl;obtain⟨a1,a2,a3,a4,a5,a6,a7,a8⟩:=Mk hio;rw[Zx]at hp hk;have hlen:x.2.kids.length≤ks.length:=by
   have:=congrArg Yi hp;rw[Zc,Zd]at this;omega
  obtain⟨s,t,rfl,hsl⟩:∃s t,ks=s++t∧s.length=x.2.kids.length:=⟨ks.take x.2.kids.length,ks.drop x.2.kids.length,(Ym ..).symm,by rw[Zq];omega⟩;rw[Zp]at hp hk;obtain⟨p1,p2⟩:=Zqk hp (by rw[Zc];exact hsl);obtain⟨k1,k2⟩:=Zqk hk (by rw[Zc,Zf];omega);obtain⟨s1,s2,s3⟩:=Ys.1 hsep;have e:=Zf6 hio p1 k1;rcases s with _|⟨s0,s'⟩
  ·exfalso;rw[Zo]at hsl;omega
  have hs0:s0.key=x.1:=by
   rw[Zr]at k1;exact(List.cons.inj k1).1
  have hne0:=(hsub s0 (by simp)).ne;have hkm0:∀k∈s'++t,k.key.length≤T.m:=hkm0;obtain⟨ups,u1,u2,u3,u4,u5,u7,u6⟩:=FF r pgs t (by simpa using hl) (fun m hm=>hok m (Zs _ hm)) (fun y hy=>hpg y (by rw[Vy];exact Zs _ hy)) p2 k2 (fun k hkm=>hsub k (Ja _ hkm)) s2 (fun h1 h2=>(ht h1 h2).right) (fun k hkm=>hkm0 k (Ja _ (Jf hkm)));refine⟨⟨g,x.1,(s0::s').flatMap (·.ps),g::(s0::s').flatMap (·.gs)⟩::ups,?_,?_,?_,?_,?_,?_,?_⟩
  ·rw[Zr,u1];rfl
  ·intro k hkm;rcases Zg.1 hkm with rfl|hkm
   ·refine .inner ?_ ?_ (fun k hk2=>hsub k (Jt _ hk2)) s1 (fun h1 h2=>(ht h1 h2).left) (fun k hk2=>hkm0 k (Jt _ hk2))
    ·show pg g=_;rw[←e];exact hpg (g,x) (by rw[Vy];exact Zm ..)
    ·rw[←e];exact hx
   ·exact u2 k hkm
  ·rw[Zx,u3,Yd]
  ·rw[Zx,Yd];show(g::(((s0::s').flatMap (·.gs))++ups.flatMap (·.gs))).Perm (g::(pgs++(((s0::s').flatMap (·.gs))++t.flatMap (·.gs))));refine Yn.cons g ?_;refine(Yn.append_left _ u4).trans ?_;exact(Ua _ _ _)
  ·refine Yf.2 ⟨fun b hb=>?_,u5⟩;obtain⟨c,hc,hce,hcq⟩:=u6 b hb;refine⟨fun q hq=>?_,hcq (fun q hq=>(s3 s0 (Zm ..) c hc).2 q hq)⟩;obtain⟨d,hd,hq⟩:=Yb.1 hq;rw[←hce];exact(s3 d hd c hc).1 q hq
  ·intro b hb;obtain⟨c,hc,h1,_⟩:=u6 b hb;rw[←h1];exact hkm0 c (Ja _ hc)
  ·intro b hb;rcases Zg.1 hb with rfl|hb
   ·refine⟨s0,by simp,hs0,fun h0 q hq=>?_⟩;show Gf q.1 x.1=false;rw[←hs0];obtain⟨d,hd,hq2⟩:=Yb.1 hq;rcases Zg.1 hd with rfl|hd
    ·exact h0 q hq2
    ·obtain⟨q0,hq0⟩:=Us _ hne0;have hsd:=(Yf.1 s1).1 d hd;exact Rm (Rm (h0 q0 hq0) (Rl (hsd.1 q0 hq0))) (hsd.2 q hq2)
   ·obtain⟨c,hc,h1,h2⟩:=u6 b hb;exact⟨c,Ja _ hc,h1,h2⟩
theorem VQ{ks:List Kid}(h0:ks≠[])(hl:ks.length≤255)(hs:Sep ks)(hn:∀k∈ks,k.ps≠[])(hk:∀k∈ks.tail,isKey k.key=true)(hp:∀k∈ks,1≤k.page∧k.page≤65535):(Gh (ks.map kK)).ok=true:=by
 have hr:rise ((ks.map kK).tail.map (·.2))=true:=by
  rcases ks with _|⟨k,r⟩
  ·rfl
  ·rw[Zr,Vv,X3,Ml];have h2:=(Yf.1 hs);have key:∀(r:List Kid),(∀b∈r,∀q∈b.ps,Gf q.1 b.key=false)→(∀b∈r,b.ps≠[])→Sep r→(r.map ((fun x:Nat×Bs=>x.2) ∘ kK)).Pairwise (fun a b=>Gf a b=true):=by
    intro r
    induction r with
    |nil=>intro _ _ _;exact Xx.nil
    |cons c r ih=>
     intro g1 g2 g3;obtain⟨g4,g5⟩:=Yf.1 g3;rw[Zr];refine Yf.2 ⟨fun b hb=>?_,ih (fun b hb=>g1 b (Zs _ hb)) (fun b hb=>g2 b (Zs _ hb)) g5⟩;obtain⟨d,hd,rfl⟩:=Zl.1 hb;obtain⟨q0,hq0⟩:=Us _ (g2 c (Zm ..));exact FN (g1 c (Zm ..) q0 hq0) ((g4 d hd).1 q0 hq0)
   exact key r (fun b hb=>(h2.1 b hb).2) (fun b hb=>hn b (Zs _ hb)) h2.2
 have hlen:1≤ks.length:=J5.2 h0;have:(Gh (ks.map kK)).innerOk=true:=VH (by rw[Zc,Zc];exact hlen) (by rw[Zc,Zc];exact hl) (by rw[Zc,Zc,Zc,V9,Zc];omega) (fun k hkm=>by
  obtain⟨x,hx,rfl⟩:=Zl.1 hkm;rw[←Ub]at hx;obtain⟨c,hc,rfl⟩:=Zl.1 hx;exact hk c hc) (fun p hpm=>by
  obtain⟨x,hx,rfl⟩:=Zl.1 hpm;obtain⟨c,hc,rfl⟩:=Zl.1 hx;exact hp c hc) hr
 unfold Nd.ok;rw[this,Jd]
def Hl(key:Bs):List Kid→List Kid
 |[]=>[]
 |k::r=> {k with key:=key}::r
theorem j3(key:Bs)(ks:List Kid):(Hl key ks).length=ks.length:=by cases ks<;>rfl
theorem Zf7(key:Bs)(ks:List Kid):(Hl key ks).map (·.ps)=ks.map (·.ps):=by cases ks<;>rfl
theorem xf(key:Bs)(ks:List Kid):(Hl key ks).flatMap (·.ps)=ks.flatMap (·.ps):=by cases ks<;>rfl
theorem xg(key:Bs)(ks:List Kid):(Hl key ks).flatMap (·.gs)=ks.flatMap (·.gs):=by cases ks<;>rfl
theorem Zf8(key:Bs)(ks:List Kid):(Hl key ks).map (·.page)=ks.map (·.page):=by cases ks<;>rfl
theorem Zf9(key:Bs)(ks:List Kid):(Hl key ks).tail=ks.tail:=by cases ks<;>rfl
theorem VW{key:Bs}{ks:List Kid}(h:Sep ks):Sep (Hl key ks):=by
 cases ks with
 |nil=>exact h
 |cons k r=>exact Yf.2 (Yf.1 h)
theorem VL{T:Tg}{pg:Nat→Option Bs}{h:Nat}{key:Bs}{ks:List Kid}(H:∀k∈ks,Sub T pg h k.page k.ps k.gs):∀k∈Hl key ks,Sub T pg h k.page k.ps k.gs:=by
 cases ks with
 |nil=>exact H
 |cons k r=>
  intro c hc;rcases Zg.1 hc with rfl|hc
  ·exact H k (Zm ..)
  ·exact H c (Zs _ hc)
theorem H0.congr{a b:List Kid}(h:H0 a)(e:a.map (·.ps)=b.map (·.ps)):H0 b:=fun j hj=>by
 have hl:a.length=b.length:=by simpa using congrArg Yi e
 have:=h j (by omega);have g:∀i (h1:i<a.length) (h2:i<b.length),a[i].ps=b[i].ps:=fun i h1 h2=>by
  have e2:(a.map (·.ps))[i]'(by simpa using h1)=(b.map (·.ps))[i]'(by simpa using h2):=by simp only[e]
  simpa using e2
 rw[g j (by omega) (by omega),g (j+1) (by omega) (by omega)]at this;exact this
theorem At.perm{τ0 τ:Tr}{g c c':List Nat}{k:Nat}(h:At τ0 g c k τ)(hp:c.Perm c'):At τ0 g c' k τ:=
 ⟨h.s,h.a,h.w,h.ok,h.n,h.bk,fun j=>by rw[h.us j,hp.mem_iff],hp.nodup_iff.1 h.nd,fun j hj=>h.nw j (hp.mem_iff.2 hj),h.pg,h.fr⟩
theorem At.more{τ0 τ:Tr}{g c:List Nat}{k k':Nat}(h:At τ0 g c k τ)(hk:k≤k'):At τ0 g c k' τ:=
 ⟨h.s,h.a,h.w,h.ok,h.n,h.bk,h.us,h.nd,h.nw,h.pg,by have:=h.fr;omega⟩
theorem xh{n:Nd}{pcs:List Pc}(h:M2 n pcs)(ht:H8 pcs)(hz:n.size≤160):pcs.length=1:=by
 rcases pcs with _|⟨⟨k1,x1⟩,_|⟨⟨k2,x2⟩,r⟩⟩
 ·exact absurd rfl h.ne
 ·rfl
 ·exfalso;have l1:=(h.ok x1 (by simp)).2;have hg:glue (Gd x1 k2 x2) r=n:=h.gl;have s0:=VC r (Gd x1 k2 x2) (fun x hx=>by
   show x.2.leaf=x1.leaf;rw[(h.ok x.2 (by simp only[Zr,Zg,Zl];exact .inr (.inr ⟨x,hx,rfl⟩))).2,l1]) (fun x _=>FJ _)
  rw[hg]at s0;have t1:160<(Gd x1 k2 x2).size:=ht.1;omega
def kw(ks:List Kid):Nat:=(ks.map fun k=>1+k.key.length).sum
theorem j4(ks:List Kid):(Gh (ks.map kK)).size=2+2*ks.length+kw ks.tail:=by
 rw[Db rfl];show 2+2*((ks.map kK).map (·.1)).length+G4 ((ks.map kK).tail.map (·.2))=_;rw[Zc,Zc,←Ub,X3];unfold G4 kw;rw[X3];rfl
theorem VP(a b:List Kid):kw (a++b)=kw a+kw b:=by unfold kw;simp
theorem T4(a:Kid)(b:List Kid):kw (a::b)=1+a.key.length+kw b:=by unfold kw;simp
def UZ(T:Tg)(h:Nat)(ps:List Pr)(n:Nat):Prop:=
 (h=0→158<weight ps)∧(h=1→T.t=true→∃l,160<4+(3+T.m)*(l-1)∧159*(l/2)≤weight ps∧l+2≤n)
theorem FR{m:Nat}:∀ {ks:List Kid},(∀k∈ks,k.key.length≤m)→kw ks≤(1+m)*ks.length
 |[],_=>Zj _
 |k::ks,h=>by
  have h1:=h k (Zm ..);have h2:=FR (ks:=ks) (fun c hc=>h c (Zs _ hc));rw[T4,Zf,Nat.mul_succ];omega
theorem H0.tail{x:Kid}{l:List Kid}(h:H0 (x::l)):H0 l:=fun j hj=>by
 have:=h (j+1) (by rw[Zf];omega);simpa using this
theorem H0.weight :∀ {ks:List Kid},H0 ks→159*(ks.length/2)≤Go.Cis.weight (ks.flatMap (·.ps))
 |[],_=>Zj _
 |[x],_=>by simp
 |x::y::r,h=>by
  have h1:=h 0 (by simp);have h1:158<Go.Cis.weight x.ps+Go.Cis.weight y.ps:=h1;have h2:=H0.weight (ks:=r) h.tail.tail;rw[Zx,Zx,Cg,Cg,Zf,Zf];omega
theorem UY{T:Tg}{pg:Nat→Option Bs}:∀ {ks:List Kid},(∀k∈ks,Sub T pg 0 k.page k.ps k.gs)→(ks.flatMap (·.gs)).length=ks.length
 |[],_=>rfl
 |k::r,h=>by
  have h1:=h k (Zm ..);have e:k.gs.length=1:=by
   generalize k.gs=g at h1;cases h1;rfl
  rw[Zx,Zd,e,UY (fun c hc=>h c (Zs _ hc)),Zf];omega
structure Ups(T:Tg)(pg:Nat→Option Bs)(h:Nat)(kk:List (Nat×Bs))(pz:List Pr)(gz:List Nat)(ups:List Kid):Prop where
 kk:ups.map kK=kk
 sub:∀k∈ups,Sub T pg h k.page k.ps k.gs
 sep:Sep ups
 ps:ups.flatMap (·.ps)=pz
 gs:(ups.flatMap (·.gs)).Perm gz
 key:∀k∈ups.tail,isKey k.key=true
 tl:h=0→H0 ups
 km:∀k∈ups.tail,k.key.length≤T.m
 wd:2≤ups.length→UZ T h pz gz.length
theorem FT{α β:Type}(a:α)(l:List α)(ps:List β):((a::l).zip ps).tail=l.zip ps.tail:=by cases ps<;>simp
theorem M2.isKey{n:Nd}{pcs:List Pc}(h:M2 n pcs)(hn:n.ok=true):∀y∈pcs.tail,Go.Cis.isKey y.1=true:=fun y hy=>by
 rcases pcs with _|⟨x,r⟩
 ·cases hy
 ·have hy:y∈r:=hy;obtain⟨s,t,rfl⟩:=Zqj hy;rcases List.eq_nil_or_concat s with rfl|⟨s',z,rfl⟩
  ·exact(h.merge_ok (r1:=[]) hn).2.1
  ·have e:x::(s'.concat z++y::t)=(x::s')++z::y::t:=by simp
   rw[e]at h;exact(h.merge_ok hn).2.1
theorem FQ{K:Bs→Prop}{ups:List Kid}{pgs:List Nat}{pcs:List Pc}(h:ups.map kK=pgs.zip (pcs.map (·.1)))(hk:∀y∈pcs.tail,K y.1):∀k∈ups.tail,K k.key:=fun k hkm=>by
 have h1:kK k∈(ups.map kK).tail:=by rw[←Ub];exact Zl.2 ⟨k,hkm,rfl⟩
 rw[h]at h1;rcases pgs with _|⟨g,pgs⟩
 ·cases h1
 ·rw[FT]at h1;have h2:=(Kv h1).2;rw[←Ub]at h2;obtain⟨y,hy,he⟩:=Zl.1 h2;have:K y.1:=hk y hy;rw[show k.key=y.1 from he.symm];exact this
theorem FW{ups:List Kid}{pgs:List Nat}{pcs:List Pc}(h:ups.map kK=pgs.zip (pcs.map (·.1)))(hk:∀y∈pcs.tail,isKey y.1=true):∀k∈ups.tail,isKey k.key=true:=FQ (K:=fun b=>isKey b=true) h hk
theorem FL{ups:List Kid}{pgs:List Nat}{pcs:List Pc}(h:ups.map kK=pgs.zip (pcs.map (·.1)))(hl:pgs.length=pcs.length):ups.length=pcs.length:=by
 have:=congrArg Yi h;rw[Zc,X9,Zc]at this;omega
theorem Zga{T:Tg}{pg:Nat→Option Bs}{ps:List Pr}{pcs:List Pc}{p:Nat}{tk:List Nat}(hn:(Gj ps).ok=true)(hpm:∀q∈ps,q.1.length≤T.m)(hpc:M2 (Gj ps) pcs)(hti:H8 pcs)(hl:tk.length+1=pcs.length)(hpg:∀x∈(p::tk).zip pcs,pg x.1=some x.2.2.enc):∃ups,Ups T pg 0 ((p::tk).zip (pcs.map (·.1))) ps (p::tk) ups:=by
 have hlen:(p::tk).length=pcs.length:=hl;have hlf:∀m∈pcs.map (·.2),He m∧m.leaf=true:=hpc.ok;have e1:(((p::tk).zip pcs).map Rn).flatMap (·.ps)=ps:=by
  rw[Kw,VT _ _ hlen,←Kw,←DL,hpc.gl];rfl
 have hkk:=FC (f:=Rn) (fun _=>rfl) (p::tk) pcs;refine⟨((p::tk).zip pcs).map Rn,hkk,Zf4 hlf hpg,FD ?_ ?_,e1,?_,FW hkk (hpc.isKey hn),fun _=>Zf5 hlen (fun m hm=>(hlf m hm).2) hti,?_,fun h2=>⟨fun _=>?_,fun e=>by cases e⟩⟩
 ·rw[e1];exact(Mh (Mj hn rfl)).2.2.2.2.1
 ·intro k hk;rw[←Ub,FT]at hk;obtain⟨x,hx,rfl⟩:=Zl.1 hk;have hx2:=(Kv hx).2;exact hpc.ky x.2 hx2 (hlf x.2.2 (Zl.2 ⟨x.2,Jf hx2,rfl⟩)).2
 ·rw[FB _ _ hlen]
 ·refine FQ (K:=fun b=>b.length≤T.m) hkk (fun y hy=>?_);have hy2:=hpc.ky y hy (hlf y.2 (Zl.2 ⟨y,Jf hy,rfl⟩)).2;rcases hp:y.2.pairs with _|⟨q,r⟩
  ·rw[hp]at hy2;cases hy2
  ·rw[hp]at hy2;have e:q.1=y.1:=Option.some.inj hy2;rw[←e];refine hpm q ?_;rw[←e1,Kw,VT _ _ hlen,←Kw];exact Yb.2 ⟨y,Jf hy,by rw[hp];exact Zm ..⟩
 ·have hl2:=FL hkk hlen;rcases Zt 160 (Gj ps).size with hz|hz
  ·rw[Nf rfl]at hz;have hz:160<2+weight ps:=hz;omega
  ·have:=xh hpc hti hz;omega
theorem FP{T:Tg}{pg:Nat→Option Bs}{h:Nat}{ks:List Kid}{pcs:List Pc}{p:Nat}{tk:List Nat}(hn:(Gh (ks.map kK)).ok=true)(hsub:∀k∈ks,Sub T pg h k.page k.ps k.gs)(hsep:Sep ks)(ht:T.t=true→h=0→H0 ks)(hkm:∀k∈ks.tail,k.key.length≤T.m)(hpc:M2 (Gh (ks.map kK)) pcs)(hti:H8 pcs)(hl:tk.length+1=pcs.length)(hpg:∀x∈(p::tk).zip pcs,pg x.1=some x.2.2.enc):∃ups,Ups T pg (h+1) ((p::tk).zip (pcs.map (·.1))) (ks.flatMap (·.ps)) (p::tk++ks.flatMap (·.gs)) ups:=by
 have hlf:∀m∈pcs.map (·.2),He m∧m.leaf=false:=hpc.ok;rcases hp0:pcs with _|⟨⟨k0,n0⟩,r⟩
 ·exact absurd hp0 hpc.ne
 ·have hkeys:=VN k0 n0 r (hlf n0 (by rw[hp0];simp)).2;have hkids:=FZ pcs;rw[hpc.gl]at hkids;rw[←hp0,hpc.gl]at hkeys;rw[←hp0];have e1:(Hl k0 ks).map (·.page)=pcs.flatMap (·.2.kids):=by
   rw[Zf8,←hkids];show _=(ks.map kK).map (·.1);rw[X3];rfl
  have e2:(Hl k0 ks).map (·.key)=pcs.flatMap (fun x=>x.1::x.2.keys):=by
   rw[←hkeys];rcases ks with _|⟨k,ks⟩
   ·exfalso;obtain⟨_,_,g3,_⟩:=Mk (M6 hn rfl);have g3:1≤0:=g3;omega
   ·show k0::ks.map (·.key)=k0::((k::ks).map kK).tail.map (·.2);rw[Zr,Vv,X3];rfl
  obtain⟨ups,u1,u2,u3,u4,u5,u7,_⟩:=FF (T:=T) (pg:=pg) (h:=h) pcs (p::tk) (Hl k0 ks) hl hlf hpg e1 e2 (VL hsub) (VW hsep) (fun h1 h2=>(ht h1 h2).congr (Zf7 k0 ks).symm) (by rw[Zf9];exact hkm);refine⟨ups,u1,u2,u5,?_,?_,FW u1 (hpc.isKey hn),fun h=>(by cases h),u7,fun h2=>⟨fun e=>(by cases e),fun e hT=>?_⟩⟩
  ·rw[u3,xf]
  ·rw[xg]at u4;exact u4
  ·have e0:h=0:=by omega
   subst e0;have hl2:=FL u1 hl;have hks:1≤ks.length:=by
    rcases ks with _|⟨k,ks⟩
    ·obtain⟨_,_,g3,_⟩:=Mk (M6 hn rfl);have g3:1≤0:=g3;omega
    ·rw[Zf];omega
   have hz:160<(Gh (ks.map kK)).size:=by
    rcases Zt 160 (Gh (ks.map kK)).size with hz|hz
    ·exact hz
    ·have:=xh hpc hti hz;omega
   have hk:=FR hkm;rw[V9]at hk;rw[j4]at hz;refine⟨ks.length,?_,(ht hT rfl).weight,?_⟩
   ·have e3:(3+T.m)*(ks.length-1)=2*(ks.length-1)+(1+T.m)*(ks.length-1):=by rw[←Nat.add_mul];congr 1;omega
    rw[e3];omega
   ·rw[Zd,UY hsub,Zf];omega
theorem Sub.two{T:Tg}{pg:Nat→Option Bs}{h p q:Nat}{psa psb:List Pr}{ga gb:List Nat}{key:Bs}(ha:Sub T pg h p psa ga)(hb:Sub T pg h q psb gb)(hk:isKey key=true)(hkl:key.length≤T.m)(h1:∀x∈psa,Gf x.1 key=true)(h2:∀x∈psb,Gf x.1 key=false)(hT:T.t=true→h=0):
  ∃na nb A B,ga=p::A∧gb=q::B∧pg p=some na.enc∧pg q=some nb.enc∧He na∧He nb∧na.leaf=nb.leaf∧(Gd na key nb).ok=true∧(h=0→(Gd na key nb).size=2+weight psa+weight psb)∧
   ∀pg':Nat→Option Bs,(Gd na key nb).size≤160→pg' p=some (Gd na key nb).enc→(∀j∈A++B,pg' j=pg j)→Sub T pg' h p (psa++psb) (p::(A++B)):=by
 cases ha with
 |leaf a1 a2=>
  cases hb with
  |leaf b1 b2=>
   have la:=Mj a2.ok rfl;have lb:=Mj b2.ok rfl;have sa:=a2.sz;have sb:=b2.sz;rw[Nf rfl]at sa sb;have wa:=br psa;have wb:=br psb;have sa:2+weight psa≤160:=sa;have sb:2+weight psb≤160:=sb;have hok:(Gj (psa++psb)).ok=true:=D3 (jv (by rw[Zd];omega) (fun x hx=>by
    rcases Zk.1 hx with hx|hx
    ·have:=Cf la x hx;exact⟨this.1,this.2.2⟩
    ·have:=Cf lb x hx;exact⟨this.1,this.2.2⟩) (by
    rw[Ml,Zp,Ys];refine⟨Ml.1 (Mh la).2.2.2.2.1,Ml.1 (Mh lb).2.2.2.2.1,fun a hx b hy=>?_⟩;obtain⟨x,hx2,rfl⟩:=Zl.1 hx;obtain⟨y,hy2,rfl⟩:=Zl.1 hy;exact T3 (h1 x hx2) (h2 y hy2)))
   refine⟨Gj psa,Gj psb,[],[],rfl,rfl,a1,b1,a2,b2,rfl,hok,fun _=>?_,fun pg' hz hp hj=>?_⟩
   ·show 2+weight (psa++psb)=_;rw[Cg];omega
   ·exact .leaf hp ⟨hok,hz,fun _=>by
     have:=a2.ne rfl;have this:psa≠[]:=this;show psa++psb≠[];simp[this]⟩
 | @inner h _ ka a1 a2 a3 a4 a5 a6=>
  cases hb with
  | @inner _ _ kb b1 b2 b3 b4 b5 b6=>
   have hT:T.t=true→False:=fun e=>by have:=hT e;omega
   obtain⟨n1,l1,k1,p1,r1⟩:=D4 a2;obtain⟨n2,l2,k2,p2,r2⟩:=D4 b2;have za:=a2.sz;have zb:=b2.sz;rw[Db rfl]at za zb;have za:2+2*((ka.map kK).map (·.1)).length+_≤160:=za;have zb:2+2*((kb.map kK).map (·.1)).length+_≤160:=zb;rw[Zc,Zc]at za zb;rcases kb with _|⟨y0,kb⟩
   ·exact absurd rfl n2
   have hy0:=(b3 y0 (Zm ..)).ne;have em:Gd (Gh (ka.map kK)) key (Gh ((y0::kb).map kK))=Gh ((ka++Hl key (y0::kb)).map kK):=by
    rcases ka with _|⟨x0,ka⟩
    ·exact absurd rfl n1
    ·unfold Gh M1 Gd Hl;simp[kK]
   have hsep:Sep (ka++Hl key (y0::kb)):=by
    refine Ys.2 ⟨a4,VW b4,fun x hx y hy=>?_⟩;have hxk:∀q∈x.ps,Gf q.1 key=true:=fun q hq=>h1 q (Yb.2 ⟨x,hx,hq⟩);rcases Zg.1 hy with rfl|hy
    ·exact⟨hxk,fun q hq=>h2 q (Yb.2 ⟨y0,Zm ..,hq⟩)⟩
    ·have hyy:=(Yf.1 b4).1 y hy;obtain⟨q0,hq0⟩:=Us _ hy0;refine⟨fun q hq=>Dz _ _ _ (T3 (hxk q hq) (h2 q0 (Yb.2 ⟨y0,Zm ..,hq0⟩))) (hyy.1 q0 hq0),hyy.2⟩
   have hsub:∀k∈ka++Hl key (y0::kb),Sub T pg h k.page k.ps k.gs:=fun k hkm=>by
    rcases Zk.1 hkm with hkm|hkm
    ·exact a3 k hkm
    ·exact VL b3 k hkm
   have hok:(Gh ((ka++Hl key (y0::kb)).map kK)).ok=true:=VQ (by simp[Hl]) (by rw[Zd,j3];omega) hsep (fun k hkm=>(hsub k hkm).ne) (fun k hkm=>by
    rcases ka with _|⟨x0,ka⟩
    ·exact absurd rfl n1
    ·have hkm:k∈ka++Hl key (y0::kb):=hkm;rcases Zk.1 hkm with hkm|hkm
     ·exact k1 (kK k) (Zl.2 ⟨k,hkm,rfl⟩)
     ·rcases Zg.1 hkm with rfl|hkm
      ·exact hk
      ·exact k2 (kK k) (Zl.2 ⟨k,hkm,rfl⟩)) (fun k hkm=>by
    rcases Zk.1 hkm with hkm|hkm
    ·exact p1 (kK k) (Zl.2 ⟨k,hkm,rfl⟩)
    ·rcases Zg.1 hkm with rfl|hkm
     ·exact p2 (kK y0) (Zl.2 ⟨y0,Zm ..,rfl⟩)
     ·exact p2 (kK k) (Zl.2 ⟨k,Zs _ hkm,rfl⟩))
   refine⟨_,_,_,_,rfl,rfl,a1,b1,a2,b2,rfl,?_,fun h=>(by cases h),fun pg' hz hp hj=>?_⟩
   ·rw[em];exact hok
   ·rw[em]at hz hp;have:=Sub.inner (T:=T) (pg:=pg') (h:=h) (p:=p) hp ⟨hok,hz,fun e=>by cases e⟩ (fun k hkm=>(hsub k hkm).congr (fun j hjm=>hj j (by
     have:j∈(ka++Hl key (y0::kb)).flatMap (·.gs):=Yb.2 ⟨k,hkm,hjm⟩;rw[Yd,xg]at this;exact this))) hsep (fun e=>(hT e).elim) (fun k hkm=>by
     rcases ka with _|⟨x0,ka⟩
     ·exact absurd rfl n1
     ·have hkm:k∈ka++Hl key (y0::kb):=hkm;rcases Zk.1 hkm with hkm|hkm
      ·exact a6 k hkm
      ·rcases Zg.1 hkm with rfl|hkm
       ·exact hkl
       ·exact b6 k hkm)
    rw[Yd,xf,Yd,xg]at this;exact this
structure GOk(k:Bs)(G:List Pr→Option (List Pr)):Prop where
 loc:∀A B C,(∀q∈A,Gf q.1 k=true)→(∀q∈C,Gf k q.1=true)→G (A++B++C)=(G B).map (fun B'=>A++B'++C)
 keys:∀B B',G B=some B'→∀q∈B',q.1=k∨∃q2∈B,q2.1=q.1
def Ma(dc:Bool)(a b:List Pr):Int:=bif dc then(b.length:Int)-a.length else 0
def FnO(G:List Pr→Option (List Pr))(e0:Nat)(dc:Bool)(τ:Tr)(ps:List Pr)(P:List Asn)(r:Value)(τ':Tr)(P':List Asn):Prop:=
  (∀A∈P,A∈P')∧
  ((∃ps' v',G ps=some ps'∧r=.tuple ⟨[v',.int .i64 0]⟩∧NdV P' v' (Gj ps')∧(Gj ps').ok=true∧weight ps'≤316∧τ'= {τ with count:=τ.count+Ma dc ps ps'})∨
   (G ps=none∧e0≠0∧∃v' n',r=.tuple ⟨[v',.int .i64 (e0:Nat)]⟩∧NdV P' v' n'∧τ'=τ))
def xj(P0:List Asn)(t:Nat)(fid:FuncId)(caps:Array Value)(G:List Pr→Option (List Pr))(e0:Nat)(dc:Bool):Prop:=
 ∀(L P:List Asn) (τ:Tr) (v:Value) (ps:List Pr),(∀A∈P0,A∈P)→NdV P v (Gj ps)→He (Gj ps)→ -1000000≤τ.count→τ.count≤1000000→
  Sp SET fid ([]++[v]++caps.toList) (trL t τ++L) P (fun r L' P'=>∃τ',FnO G e0 dc τ ps P r τ' P'∧L'=trL t τ'++L)
def N5(T:Tg)(h:Nat)(G:List Pr→Option (List Pr))(e0:Nat)(dc:Bool)(τ:Tr)(gs:List Nat)(ps:List Pr)(P:List Asn)(r:Value)(τ':Tr)(P':List Asn):Prop:=
  (∀A∈P,A∈P')∧τ'.root=τ.root∧τ'.depth=τ.depth∧
  ((∃e:Nat,r=.tuple ⟨[.slice none 0 0,.int .i64 (e:Nat)]⟩∧e≠0∧Wob τ τ'∧(e=5∧τ.α.free<((2*(h+1):Nat):Int)∨e=e0∧G ps=none))∨
   (∃kv ups ps',r=.tuple ⟨[kv,.int .i64 ((0:Nat):Int)]⟩∧Sl 2 kv ((ups.map kK).map Gs)∈P'∧G ps=some ps'∧Ups T τ'.pg h (ups.map kK) ps' (ups.flatMap (·.gs)) ups∧ups.length≤3∧At τ gs (ups.flatMap (·.gs)) (2*(h+1)) τ'∧τ'.count=τ.count+Ma dc ps ps'))
theorem N5.shape{T:Tg}{h:Nat}{G:List Pr→Option (List Pr)}{e0:Nat}{dc:Bool}{τ:Tr}{gs:List Nat}{ps:List Pr}{P:List Asn}{r:Value}{τ':Tr}{P':List Asn}(H:N5 T h G e0 dc τ gs ps P r τ' P'):∃kv,∃e:Nat,r=.tuple ⟨[kv,.int .i64 (e:Nat)]⟩:=by
 obtain⟨_,_,_,⟨e,he,_⟩|⟨kv,_,_,he,_⟩⟩:=H
 ·exact⟨_,e,he⟩
 ·exact⟨kv,0,he⟩
theorem Ci.shape{τ:Tr}{p:Nat}{n:Nd}{P:List Asn}{r:Value}{τ':Tr}{P':List Asn}(H:Ci τ p n P r τ' P'):∃kv,∃e:Nat,r=.tuple ⟨[kv,.int .i64 (e:Nat)]⟩:=by
 obtain⟨_,_,_,_,⟨he,_⟩|⟨kv,_,_,he,_⟩⟩:=H
 ·exact⟨_,5,he⟩
 ·exact⟨kv,0,he⟩
theorem FnO.shape{G:List Pr→Option (List Pr)}{e0:Nat}{dc:Bool}{τ:Tr}{ps:List Pr}{P:List Asn}{r:Value}{τ':Tr}{P':List Asn}(H:FnO G e0 dc τ ps P r τ' P'):∃v',∃e:Nat,∃n',r=.tuple ⟨[v',.int .i64 (e:Nat)]⟩∧NdV P' v' n'∧(e=0→∃ps',G ps=some ps'∧n'=Gj ps'∧(Gj ps').ok=true∧weight ps'≤316∧τ'= {τ with count:=τ.count+Ma dc ps ps'})∧(e≠0→e=e0∧G ps=none∧τ'=τ):=by
 obtain⟨_,⟨ps',v',h1,h2,h3,h4,h5,h6⟩|⟨h1,h2,v',n',h3,h4,h5⟩⟩:=H
 ·exact⟨v',0,_,h2,h3,fun _=>⟨ps',h1,rfl,h4,h5,h6⟩,fun h=>absurd rfl h⟩
 ·exact⟨v',e0,n',h3,h4,fun h=>absurd h h2,fun _=>⟨rfl,h1,h5⟩⟩
theorem Ups.nil{T:Tg}{pg:Nat→Option Bs}{h:Nat}:Ups T pg h [] [] [] []:=
 ⟨rfl,fun _ h=>(by cases h),Xx.nil,rfl,.refl _,fun _ h=>(by cases h),fun _ j hj=>(by cases hj),fun _ h=>(by cases h),fun h=>(by cases h)⟩
theorem Ups.own{T:Tg}{pg:Nat→Option Bs}{h:Nat}{kk:List (Nat×Bs)}{ps:List Pr}{gs:List Nat}{ups:List Kid}(H:Ups T pg h kk ps gs ups):Ups T pg h (ups.map kK) ps (ups.flatMap (·.gs)) ups:=
 ⟨rfl,H.sub,H.sep,H.ps,.refl _,H.key,H.tl,H.km,fun h=>by rw[H.gs.length_eq];exact H.wd h⟩
theorem At.count{τ0 τ:Tr}{g c:List Nat}{k:Nat}{x:Int}(h:At τ0 g c k τ):At τ0 g c k {τ with count:=x}:=
 ⟨h.s,h.a,h.w,h.ok,h.n,h.bk,h.us,h.nd,h.nw,h.pg,h.fr⟩
theorem At.count0{τ0 τ:Tr}{g c:List Nat}{k:Nat}{x:Int}(h:At {τ0 with count:=x} g c k τ):At τ0 g c k τ:=
 ⟨h.s,h.a,h.w,h.ok,h.n,h.bk,h.us,h.nd,h.nw,h.pg,h.fr⟩
theorem Wob.count0{τ0 τ:Tr}{x:Int}(h:Wob {τ0 with count:=x} τ):Wob τ0 τ:=⟨h.s,h.a,h.w,h.n,h.bk,h.ok⟩
theorem Zgb{T:Tg}{G:List Pr→Option (List Pr)}{e0:Nat}{dc:Bool}{τ:Tr}{p:Nat}{ps:List Pr}{P P':List Asn}(hP:∀A∈P,A∈P')(hok:τ.α.Ok)(hp:mem τ.α.us p=true)(hG:G ps=some [])(hk:Sl 2 (.slice none 0 0) []∈P'):
  N5 T 0 G e0 dc τ [p] ps P (.tuple ⟨[.slice none 0 0,.int .i64 ((0:Nat):Int)]⟩) {({τ with count:=τ.count+Ma dc ps []}:Tr)with α:=τ.α.give p} P':=
 ⟨hP,rfl,rfl,.inr ⟨_,[],[],rfl,hk,hG,Ups.nil,by simp,(((At.refl (g:=[p]) hok (by simp) (by simpa using hp)).give (A:=[]) (B:=[])).2.more (by omega)).count,rfl⟩⟩
theorem Zgc{T:Tg}{G:List Pr→Option (List Pr)}{e0:Nat}{dc:Bool}{τ τ2:Tr}{p:Nat}{ps ps':List Pr}{P P1 P':List Asn}{r:Value}(hP:∀A∈P,A∈P1)(hpm:∀q∈ps',q.1.length≤T.m)(hG:G ps=some ps')(hn:(Gj ps').ok=true)(hw:Ci {τ with count:=τ.count+Ma dc ps ps'} p (Gj ps') P1 r τ2 P'):
  N5 T 0 G e0 dc τ [p] ps P r τ2 P':=by
 obtain⟨h1,h2,h3,h4,⟨h5,h6,h7⟩|⟨kv,pcs,tk,h5,h6,h7,h8,h9,h10,h11,h12⟩⟩:=hw
 ·exact⟨fun A hA=>h1 A (hP A hA),h2,h4,.inl ⟨5,h5,by decide,h6.count0,.inl ⟨rfl,h7⟩⟩⟩
 ·obtain⟨ups,u⟩:=Zga (T:=T) hn hpm h7 h8 h10 h12;have hl:ups.length=pcs.length:=by
   have:=congrArg Yi u.kk;rw[Zc,X9,Zc,Zf]at this;omega
  refine⟨fun A hA=>h1 A (hP A hA),h2,h4,.inr ⟨kv,ups,ps',h5,?_,hG,u.own,by omega,?_,h3⟩⟩
  ·rw[u.kk];exact h6
  ·exact(h11.count0.perm u.gs.symm).more (by omega)
structure Fit(τ:Tr)(gs:List Nat):Prop where
 ok:τ.α.Ok
 bk:τ.α.back≤1000000
 nn:τ.σ.n=τ.α.n
 u0:mem τ.α.us 0=true
 g0:0∉gs
 nd:gs.Nodup
 us:∀j∈gs,mem τ.α.us j=true
 c0: -1000000≤τ.count
 c1:τ.count≤1000000
def RZ(T:Tg)(h:Nat):Prop:=
 ∀(L P P0:List Asn) (t:Nat) (τ:Tr) (p:Nat) (ps:List Pr) (gs:List Nat) (key:Bs) (fid:FuncId) (caps:Array Value) (G:List Pr→Option (List Pr)) (e0:Nat) (dc:Bool),
  xj P0 t fid caps G e0 dc→GOk key G→(∀A∈P0,A∈P)→Ro 0 G5∈P→Fit τ gs→Sub T τ.pg h p ps gs→(T.t=true→h≤1)→(∀q∈ps,q.1.length≤T.m)→key.length≤T.m→
  Sp SET 78 [.pointer (some ⟨t,0,none⟩),.int .i64 (p:Nat),S key,.func (.func fid) #[] caps] (trL t τ++L) P (fun r L' P'=>∃τ',N5 T h G e0 dc τ gs ps P r τ' P'∧L'=trL t τ'++L)
theorem Zgd(T:Tg)(L P P0:List Asn)(t:Nat)(τ:Tr)(p:Nat)(ps:List Pr)(key:Bs)(fid:FuncId)(caps:Array Value)(G:List Pr→Option (List Pr))(e0:Nat)(dc:Bool)(hf:xj P0 t fid caps G e0 dc)(hpm:∀ps',G ps=some ps'→∀q∈ps',q.1.length≤T.m)(h0:∀A∈P0,A∈P)(hT:Ro 0 G5∈P)(hfit:Fit τ [p])(hpg:τ.pg p=some (Gj ps).enc)(hpo:He (Gj ps)):Sp SET 78 [.pointer (some ⟨t,0,none⟩),.int .i64 (p:Nat),S key,.func (.func fid) #[] caps] (trL t τ++L) P (fun r L' P'=>∃τ',N5 T 0 G e0 dc τ [p] ps P r τ' P'∧L'=trL t τ'++L):=by
 obtain⟨hok,hbk,hnn,hu0,hg0,hnd,hus,hc0,hc1⟩:=hfit;have hpu:=hus p (by simp);have hpl:=hok.uo p hpu;refine .bo (fn:=Tryz.f78) (N:=114) ?_;refine .seq (.region (.pu .as (.pu .as (.nil (.seq (.region (.pu .mv (.pu .mv ?_))))))));refine .call (w8 _ _ _ _ _ _ (by omega) hpg hpo) ?_;rintro _ _ _ ⟨v,rfl,hv,rfl,hs1⟩;have hv0:=hv;obtain⟨pv,kv,iv,rfl,hpv,hkv,hiv⟩:=hv.ex;refine .fact (Gi (.s (.p hpv))) fun⟨a1,c1,e1⟩=>?_;refine .fact (Gi (.s (.p hkv))) fun⟨a2,c2,e2⟩=>?_;refine .fact (Gi (.s (.p hiv))) fun⟨a3,c3,e3⟩=>?_;subst e1 e2 e3;refine .pu .mv (.pu .ex (.pu .ex ?_));refine .nw (cs:=[.bool false,.slice none 0 0,.slice none 0 0,.slice none 0 0]) fun b10=>?_;refine .st (vs:=[_,_,_,_]) ?_;refine .pu .as (.nil (.seq (.seq (.region (.pu .mv (.pu .cmp (.nil ?_)))))));refine .no rfl (.skip (.seq (.seq (.region (.pu .fa (.ld ?_))))))
 refine .nil ?_;refine .yes rfl (.seq (.seq (.region (.pu .mv (.lda (vs:=[_,_,_,_]) ?_)))));refine .call (Sp.tr [_] _ (fun L=>hf L _ τ _ ps (fun A hA=>hs1 _ (h0 _ hA)) hv0 hpo hc0 hc1)) ?_;rintro _ _ _ ⟨τ1,hfo,rfl⟩;obtain⟨v',e,n',rfl,hv1,hy,hn⟩:=hfo.shape;have hs2:=hfo.1;have hv10:=hv1;obtain⟨qv,rv,sv,rfl,hqv,hrv,hsv⟩:=hv1.ex;refine .fact (Gi (.s (.p hqv))) fun⟨b1,d1,f1⟩=>?_;refine .fact (Gi (.s (.p hrv))) fun⟨b2,d2,f2⟩=>?_;refine .fact (Gi (.s (.p hsv))) fun⟨b3,d3,f3⟩=>?_;subst f1 f2 f3;refine .pu .mv (.pu .ex (.pu .ex (.st (vs:=[_,_,_,_]) ?_)));refine .pu .as (.nil ?_);by_cases he:e=0
 ·refine .seq (.region (.pu .mv (.pu .cn ?_)));obtain⟨ps',hG,rfl,hnok,hw,rfl⟩:=hy he;have hT2:=hs2 _ (hs1 _ hT);refine .nil ?_;refine .no rfl (.skip ?_);by_cases hps:ps'=[]
  ·refine .seq (.region (.pu .mv (.pu .mv (.lda (vs:=[_,_,_,_]) ?_))));refine .call (Sp.tr [_] _ (fun L=>FH L _ _ {τ with count:=τ.count+Ma dc ps ps'} _ _ _ hv10 (.inl ⟨rfl,hps⟩) hpu)) ?_;rintro _ _ _ ⟨τ2,⟨rfl,rfl,rfl⟩,rfl⟩
   refine .pu .ex (.pu .ex (.pu .as (.pu .as (.nil (.ret ?_)))));refine⟨_,.tmp rfl (.tmp rfl .nil),_,_,(Ent.drop.trans (Ent.sl0 (k:=2) (c:=0))),{({τ with count:=τ.count+Ma dc ps ps'}:Tr)with α:=τ.α.give p},?_,rfl⟩
   subst hps;exact Zgb (fun A hA=>.tail _ (hs2 _ (hs1 _ hA))) hok hpu hG (.head _)
  ·refine .seq (.region (.pu .mv (.pu .mv (.lda (vs:=[_,_,_,_]) ?_))));refine .call (Sp.tr [_] _ (fun L=>xc L _ _ {τ with count:=τ.count+Ma dc ps ps'} p _ (Gj ps') hv10 ⟨hnok,Nd.ok_sm hnok,fun _=>hps,(Nd.ok_w hnok).1,(Nd.ok_w hnok).2⟩ (by rw[Nf rfl];show 2+weight ps'≤318;omega) hT2 hok hbk hnn hpu)) ?_;rintro _ _ _ ⟨τ2,hwo,rfl⟩
   obtain⟨kv2,e2,rfl⟩:=hwo.shape;refine .pu .ex (.pu .ex (.pu .as (.pu .as (.nil (.ret ?_)))));exact⟨_,.tmp rfl (.tmp rfl .nil),_,_,.drop,τ2,Zgc (fun A hA=>hs2 _ (hs1 _ hA)) (hpm _ hG) hG hnok hwo,rfl⟩
 ·refine .seq (.region (.pu .mv (.pu .cy (.nil ?_))));refine .yes rfl (.seq (.region (.pu .mv (.pu .as (.pu .as (.nil (.ret ?_)))))));refine⟨_,.tmp rfl (.tmp rfl .nil),_,_,.drop,τ1,⟨fun A hA=>hs2 _ (hs1 _ hA),?_,?_,.inl ⟨e,rfl,he,?_,?_⟩⟩,rfl⟩
  all_goals obtain⟨h1,h2,rfl⟩:=hn he
  ·rfl
  ·rfl
  ·exact⟨rfl,rfl,⟨_,rfl⟩,rfl,rfl,hok⟩
  ·exact .inr ⟨h1,h2⟩
def nk(ks:List Kid):List (Nat×Bs):=Mt [] (ks.map kK)
theorem xk(ks:List Kid):(nk ks).length=ks.length:=by unfold nk;rw[bw,Zc]
theorem UX(ks:List Kid):Bj (Gh (ks.map kK)) (nk ks):=by
 rcases ks with _|⟨k,r⟩
 ·exact⟨rfl,rfl,fun x hx=>by cases hx⟩
 ·exact⟨rfl,rfl,fun x hx=>by cases hx;rfl⟩
theorem RY{l r:List Kid}{x:Kid}{i:Nat}(hi:i=l.length)(h:i<(nk (l++x::r)).length):(nk (l++x::r))[i].1=x.page∧(l≠[]→(nk (l++x::r))[i].2=x.key):=by
 subst hi;rcases l with _|⟨a,l⟩
 ·exact⟨rfl,fun h=>absurd rfl h⟩
 ·refine⟨?_,fun _=>?_⟩
  ·simp[nk,Mt,kK]
  ·simp[nk,Mt,kK]
theorem Zge{l r:List Kid}{x y m:Kid}(hm:kK m=kK x):By (nk (l++x::y::r)) l.length=nk (l++m::r):=by
 have hm1:m.page=x.page:=congrArg Prod.fst hm;rcases l with _|⟨a,l⟩
 ·simp[By,nk,Mt,kK,hm1]
 ·have e:By ((a::l++x::y::r).map kK) (a::l).length=(a::l++m::r).map kK:=by
   have:=VB ((a::l).map kK) (kK x) (kK y) (r.map kK);rw[Zc]at this;unfold By;rw[show(a::l++x::y::r).map kK=(a::l).map kK++kK x::kK y::r.map kK by rw[Zp];rfl,this,Zp,←hm];rfl
  unfold nk By;have f:∀(z:Nat×Bs) (t:List (Nat×Bs)),Mt [] (z::t)=(z.1,[])::t:=fun _ _=>rfl;unfold By at e;simp only[Y0,Zr,f,Zf,Zqg,List.drop_succ_cons]at e ⊢;rw[List.cons.injEq]at e;rw[e.2]
theorem Zgf{n:Nd}{ks:List Kid}(h:Bj n (nk ks))(h1:n.leaf=false)(h2:n.pairs=[]):n=Gh (ks.map kK):=by
 have e1:=h.kids;have e2:=h.keys;have g1:(nk ks).map (·.1)=(ks.map kK).map (·.1):=by cases ks<;>rfl
 have g2:(nk ks).tail.map (·.2)=(ks.map kK).tail.map (·.2):=by cases ks<;>rfl
 rw[g1]at e1;rw[g2]at e2;cases n;simp only at h1 h2 e1 e2;subst h1 h2 e1 e2;rfl
theorem Zgg{A C ups:List Kid}{o:Kid}{i:Nat}(hi:i=A.length)(h:i<(nk (A++o::C)).length):Gh (Rk (nk (A++o::C)) i (nk (A++o::C))[i].2 (ups.map kK))=Gh ((A++Hl o.key ups++C).map kK):=by
 subst hi;rcases A with _|⟨a,A⟩
 ·rcases ups with _|⟨u,ups⟩
  ·rfl
  ·simp[Rk,nk,Mt,kK,Hl,Gh]
 ·have e:=(RY (l:=a::A) (x:=o) (r:=C) rfl h).2 (fun e=>by cases e);rw[e];have f:Mt o.key (ups.map kK)=(Hl o.key ups).map kK:=by cases ups<;>rfl
  unfold Rk;rw[f];simp[nk,Mt,Gh,M1];simp only[kK];have d:∀ {α:Type} (u:List α) (z:α) (w:List α) (n:Nat),n=u.length→List.drop (n+1) (u++z::w)=w:=fun u z w n hn=>by
   subst hn;rw[Zqf,Vl (by omega)];simp
  exact⟨d _ _ _ _ (by rw[Zc]),d _ _ _ _ (by rw[Zc])⟩
theorem RX{ks:List Kid}(ok:He (Gh (ks.map kK)))(key:Bs):∃A o C,ks=A++o::C∧A.length=(Gh (ks.map kK)).find key∧(A≠[]→Gf key o.key=false)∧∀c∈C,Gf key c.key=true:=by
 obtain⟨h1,h2,h3,h4,h5⟩:=D4 ok;obtain⟨f1,f2⟩:=Zf2 (n:=Gh (ks.map kK)) rfl h5 key;have hkl:(Gh (ks.map kK)).keys=ks.tail.map (·.key):=by
  show(ks.map kK).tail.map (·.2)=_;rw[←Ub,X3];rfl
 have hk:(Gh (ks.map kK)).keys.length=ks.length-1:=by rw[hkl,Zc,V9]
 have hks:1≤ks.length:=by
  have:ks≠[]:=fun e=>h1 (by rw[e];rfl);exact J5.2 this
 have hi:(Gh (ks.map kK)).find key<ks.length:=by omega
 have hget:∀j (hj:j+1<ks.length) (h2:j<(Gh (ks.map kK)).keys.length),(Gh (ks.map kK)).keys[j]=ks[j+1].key:=fun j hj h2=>by
  simp only[hkl,Yw,List.getElem_tail]
 refine⟨ks.take ((Gh (ks.map kK)).find key),ks[(Gh (ks.map kK)).find key],ks.drop ((Gh (ks.map kK)).find key+1),?_,?_,fun hA=>?_,fun c hc=>?_⟩
 ·rw[←X7 hi,Ym]
 ·rw[Zq];omega
 ·have hpos:0<(Gh (ks.map kK)).find key:=by
   rcases Xi ((Gh (ks.map kK)).find key)with e|e
   ·rw[e]at hA;exact absurd rfl hA
   ·exact e
  have:=(f2 ((Gh (ks.map kK)).find key-1) (by omega)).1 (by omega);rw[hget _ (by omega)]at this;have e:(Gh (ks.map kK)).find key-1+1=(Gh (ks.map kK)).find key:=by omega
  simp only[e]at this;exact this
 ·obtain⟨m,hm,rfl⟩:=List.getElem_of_mem hc;rw[Z5]at hm;rw[List.getElem_drop];have:=(f2 ((Gh (ks.map kK)).find key+m) (by omega)).2 (by omega);rw[hget _ (by omega)]at this;have e:(Gh (ks.map kK)).find key+m+1=(Gh (ks.map kK)).find key+1+m:=by omega
  simp only[e]at this;exact this
theorem Sep.cross{A C:List Kid}{o:Kid}(h:Sep (A++o::C)):Sep A∧Sep C∧(∀a∈A,(∀q∈a.ps,Gf q.1 o.key=true))∧(A≠[]→∀q∈o.ps,Gf q.1 o.key=false)∧(∀c∈C,(∀q∈o.ps,Gf q.1 c.key=true)∧∀q∈c.ps,Gf q.1 c.key=false)∧∀a∈A,∀c∈C,∀q∈a.ps,Gf q.1 c.key=true:=by
 obtain⟨h1,h2,h3⟩:=Ys.1 h;obtain⟨h4,h5⟩:=Yf.1 h2;refine⟨h1,h5,fun a ha=>(h3 a ha o (Zm ..)).1,fun hA=>?_,h4,fun a ha c hc=>(h3 a ha c (Zs _ hc)).1⟩;obtain⟨a,ha⟩:=Us _ hA;exact(h3 a ha o (Zm ..)).2
theorem Zgh{A C ups:List Kid}{o:Kid}{key:Bs}(h:Sep (A++o::C))(hu:Sep ups)(hune:∀u∈ups,u.ps≠[])(hA:A≠[]→Gf key o.key=false)(hC:∀c∈C,Gf key c.key=true)(hq:∀q∈ups.flatMap (·.ps),q.1=key∨∃q2∈o.ps,q2.1=q.1):Sep (A++Hl o.key ups++C):=by
 obtain⟨h1,h2,h3,h4,h5,h6⟩:=h.cross;have lo:A≠[]→∀q∈ups.flatMap (·.ps),Gf q.1 o.key=false:=fun hne q hqm=>by
  rcases hq q hqm with e|⟨q2,hq2,e⟩
  ·rw[e];exact hA hne
  ·rw[←e];exact h4 hne q2 hq2
 have hi:∀c∈C,∀q∈ups.flatMap (·.ps),Gf q.1 c.key=true:=fun c hc q hqm=>by
  rcases hq q hqm with e|⟨q2,hq2,e⟩
  ·rw[e];exact hC c hc
  ·rw[←e];exact(h5 c hc).1 q2 hq2
 refine Ys.2 ⟨Ys.2 ⟨h1,VW hu,fun a ha u hum=>?_⟩,h2,fun x hx c hc=>?_⟩
 ·have hne:A≠[]:=Zqe ha;rcases ups with _|⟨u0,ups⟩
  ·cases hum
  ·rcases Zg.1 hum with rfl|hum
   ·exact⟨h3 a ha,fun q hqm=>lo hne q (Yb.2 ⟨u0,Zm ..,hqm⟩)⟩
   ·have hu0:=(Yf.1 hu).1 u hum;obtain⟨q0,hq0⟩:=Us _ (hune u0 (Zm ..));have hl:=lo hne q0 (Yb.2 ⟨u0,Zm ..,hq0⟩);exact⟨fun q hqm=>Dz _ _ _ (T3 (h3 a ha q hqm) hl) (hu0.1 q0 hq0),hu0.2⟩
 ·refine⟨fun q hqm=>?_,(h5 c hc).2⟩;rcases Zk.1 hx with hx|hx
  ·exact h6 x hx c hc q hqm
  ·refine hi c hc q ?_;rw[←xf o.key ups];exact Yb.2 ⟨x,hx,hqm⟩
theorem RV{K:Bs→Prop}{A C ups:List Kid}{o:Kid}(h:∀k∈(A++o::C).tail,K k.key)(hu:∀k∈ups.tail,K k.key):∀k∈(A++Hl o.key ups++C).tail,K k.key:=fun k hk=>by
 have hC:∀c∈C,K c.key:=fun c hc=>h c (by
  rcases A with _|⟨a,A⟩
  ·exact hc
  ·show c∈A++o::C;simp[hc])
 rcases A with _|⟨a,A⟩
 ·rcases ups with _|⟨u,ups⟩
  ·exact hC k (Jf hk)
  ·have hk:k∈ups++C:=hk;rcases Zk.1 hk with hk|hk
   ·exact hu k hk
   ·exact hC k hk
 ·have hk:k∈A++Hl o.key ups++C:=hk;have h:∀k∈A++o::C,K k.key:=h;rcases Zk.1 hk with hk|hk
  ·rcases Zk.1 hk with hk|hk
   ·exact h k (by simp[hk])
   ·rcases ups with _|⟨u,ups⟩
    ·cases hk
    ·rcases Zg.1 hk with rfl|hk
     ·exact h o (by simp)
     ·exact hu k hk
  ·exact hC k hk
theorem Zgi{A C ups:List Kid}{o:Kid}(h:∀k∈(A++o::C).tail,isKey k.key=true)(hu:∀k∈ups.tail,isKey k.key=true):∀k∈(A++Hl o.key ups++C).tail,isKey k.key=true:=RV (K:=fun b=>isKey b=true) h hu
theorem Zgj(a:List Kid):kw a.tail≤kw a:=by
 cases a with
 |nil=>exact Ze _
 |cons x r=>rw[T4];show kw r≤_;omega
theorem UV :∀ {ks:List Kid},(∀k∈ks,isKey k.key=true)→kw ks≤33*ks.length
 |[],_=>Zj _
 |k::ks,h=>by
  have h1:=(Rh (h k (Zm ..))).2;have h2:=UV (ks:=ks) (fun c hc=>h c (Zs _ hc));rw[T4,Zf];omega
theorem Zgk{A C ups:List Kid}{o:Kid}(hz:(Gh ((A++o::C).map kK)).size≤160)(hl:ups.length≤3)(hu:∀k∈ups.tail,isKey k.key=true):(Gh ((A++Hl o.key ups++C).map kK)).size≤318:=by
 rw[j4]at hz ⊢;have hm:=UV hu;rw[V9]at hm;simp only[Zd,Zf,j3]at hz ⊢;rcases A with _|⟨a,A⟩
 ·have hz:2+2*(0+(C.length+1))+kw C≤160:=hz;rcases ups with _|⟨u,ups⟩
  ·have:=Zgj C;show 2+2*(0+0+C.length)+kw C.tail≤318;omega
  ·simp only[Vv,Zf]at hm hl;show 2+2*(0+(ups.length+1)+C.length)+kw (ups++C)≤318;rw[VP];omega
 ·simp only[Y0,Vv,Zf,VP,T4]at hz ⊢;rcases ups with _|⟨u,ups⟩
  ·show 2+2*(A.length+1+0+C.length)+(kw A+0+kw C)≤318;omega
  ·have:kw (Hl o.key (u::ups))=1+o.key.length+kw ups:=T4 ..;simp only[Vv,Zf]at hm hl ⊢;rw[this];omega
structure EdI(T:Tg)(h:Nat)(τ0:Tr)(gs0:List Nat)(p:Nat)(PS:List Pr)(d:Int)(τ:Tr)(ks:List Kid)(k last:Nat):Prop where
 at_:At τ0 gs0 (p::ks.flatMap (·.gs)) (2*(h+1)) τ
 sub:∀c∈ks,Sub T τ.pg h c.page c.ps c.gs
 sep:Sep ks
 ps:ks.flatMap (·.ps)=PS
 key:∀c∈ks.tail,isKey c.key=true
 km:∀c∈ks.tail,c.key.length≤T.m
 len:ks.length≤255
 sz:(Gh (ks.map kK)).size≤318
 tl:T.t=true→h=0→∀j,j<k∨last≤j→TL ks j
 rt:τ.root=τ0.root
 dp:τ.depth=τ0.depth
 ct:τ.count=τ0.count+d
theorem At.page{τ0 τ:Tr}{g c:List Nat}{k:Nat}(h:At τ0 g c k τ)(hu0:mem τ0.α.us 0=true)(hg0:0∉g){j:Nat}(hj:j∈c):mem τ.α.us j=true∧j<τ.α.n∧1≤j∧j≤65535:=by
 have h1:=(h.us j).2 (.inr hj);have h2:=h.ok.uo j h1;have h3:=h.ok.n1;refine⟨h1,h2,?_,by omega⟩;rcases Xi j with e|e
 ·subst e;rcases h.nw 0 hj with e|e
  ·exact absurd e hg0
  ·rw[hu0]at e;cases e
 ·exact e
theorem EdI.big{T:Tg}{h:Nat}{τ0:Tr}{gs0:List Nat}{p:Nat}{PS:List Pr}{d:Int}{τ:Tr}{ks:List Kid}{k last:Nat}(H:EdI T h τ0 gs0 p PS d τ ks k last)(hu0:mem τ0.α.us 0=true)(hg0:0∉gs0)(hne:ks≠[]):(Gh (ks.map kK)).ok=true:=
 VQ hne H.len H.sep (fun c hc=>(H.sub c hc).ne) H.key (fun c hc=>by
  have:=H.at_.page hu0 hg0 (j:=c.page) (Zs _ (Yb.2 ⟨c,hc,(H.sub c hc).head⟩));exact this.2.2)
theorem EdI.start{T:Tg}{h:Nat}{τ τ1:Tr}{p:Nat}{key:Bs}{A C ups:List Kid}{o:Kid}{ps':List Pr}{d:Int}{G:List Pr→Option (List Pr)}(hG:GOk key G)
  (hfit:Fit τ (p::(A++o::C).flatMap (·.gs))) (ok:He (Gh ((A++o::C).map kK))) (hsub:∀k∈A++o::C,Sub T τ.pg h k.page k.ps k.gs) (hsep:Sep (A++o::C)) (ht:T.t=true→h=0→H0 (A++o::C)) (hkm:∀k∈(A++o::C).tail,k.key.length≤T.m)
  (hA:A≠[]→Gf key o.key=false) (hC:∀c∈C,Gf key c.key=true) (hg:G o.ps=some ps') (hu:Ups T τ1.pg h (ups.map kK) ps' (ups.flatMap (·.gs)) ups) (hl:ups.length≤3) (hat:At τ o.gs (ups.flatMap (·.gs)) (2*(h+1)) τ1) (hrt:τ1.root=τ.root) (hdp:τ1.depth=τ.depth) (hct:τ1.count=τ.count+d):
  EdI T h τ (p::(A++o::C).flatMap (·.gs)) p (A.flatMap (·.ps)++ps'++C.flatMap (·.ps)) d τ1 (A++Hl o.key ups++C) (A.length-1) (A.length+ups.length):=by
 obtain⟨n1,n2,n3,n4,n5⟩:=D4 ok;have hz:=ok.sz;have hkeys:∀k∈(A++o::C).tail,isKey k.key=true:=fun k hk=>n3 (kK k) (by rw[←Ub];exact Zl.2 ⟨k,hk,rfl⟩);have e1:p::(A++o::C).flatMap (·.gs)=(p::A.flatMap (·.gs))++o.gs++C.flatMap (·.gs):=by
  rw[Yd,Zx];simp
 have e2:p::(A++Hl o.key ups++C).flatMap (·.gs)=(p::A.flatMap (·.gs))++ups.flatMap (·.gs)++C.flatMap (·.gs):=by
  rw[Yd,Yd,xg];simp
 have h0:=At.refl hfit.ok hfit.nd hfit.us;have h00:At τ (p::(A++o::C).flatMap (·.gs)) ((p::A.flatMap (·.gs))++o.gs++C.flatMap (·.gs)) 0 τ:=e1▸h0;have hstep:=h00.step hat;have hune:∀u∈ups,u.ps≠[]:=fun u hum=>(hu.sub u hum).ne;refine⟨?_,?_,?_,?_,Zgi hkeys hu.key,RV (K:=fun b=>b.length≤T.m) hkm hu.km,?_,?_,?_,hrt,hdp,hct⟩
 ·rw[e2];exact hstep.more (by omega)
 ·intro c hc;rcases Zk.1 hc with hc|hc
  ·rcases Zk.1 hc with hc|hc
   ·exact(hsub c (by simp[hc])).congr (fun j hj=>h00.keep hat (.inl (Zs _ (Yb.2 ⟨c,hc,hj⟩))))
   ·exact VL hu.sub c hc
  ·exact(hsub c (by simp[hc])).congr (fun j hj=>h00.keep hat (.inr (Yb.2 ⟨c,hc,hj⟩)))
 ·refine Zgh hsep hu.sep hune hA hC (fun q hq=>?_);rw[hu.ps]at hq;exact hG.keys _ _ hg q hq
 ·rw[Yd,Yd,xf,hu.ps]
 ·rw[j4]at hz;simp only[Zd,Zf,j3]at hz ⊢;omega
 ·exact Zgk hz hl hu.key
 ·intro hT hh j hj hj2;have htt:=ht hT hh;simp only[Zd,j3]at hj2;rcases hj with hj|hj
  ·have:=htt j (by rw[Zd,Zf];omega);rw[Vm (by omega),Vm (by omega)]at this;simp only[Zu];rw[Vm (by omega),Vm (by omega)];exact this
  ·have htc:H0 C:=by
    have:=htt.right;exact(H0.right (a:=[o]) (b:=C) this)
   have h3:=htc (j-(A.length+ups.length)) (by omega);have hlen:(A++Hl o.key ups).length=A.length+ups.length:=by rw[Zd,j3]
   rw[Vn (by omega),Vn (by omega)];simp only[hlen];have e:j+1-(A.length+ups.length)=j-(A.length+ups.length)+1:=by omega
   simp only[e];exact h3
theorem Zgl{l r:List Kid}{x y:Kid}:TL (l++x::y::r) l.length↔158<weight x.ps+weight y.ps:=by
 have g1:∀h,(l++x::y::r)[l.length]'h=x:=fun h=>by rw[Vn (Ze _)];simp
 have g2:∀h,(l++x::y::r)[l.length+1]'h=y:=fun h=>by rw[Vn (by omega)];simp
 constructor
 ·intro h;have:=h (by simp);rw[g1,g2]at this;exact this
 ·intro h hj;rw[g1,g2];exact h
theorem Zgm{l r:List Kid}{x y m:Kid}{last:Nat}(hm:m.ps=x.ps++y.ps)(hlt:l.length<last)(h:∀j,j<l.length∨last≤j→TL (l++x::y::r) j):∀j,j<l.length∨last-1≤j→TL (l++m::r) j:=by
 have hw:weight m.ps=weight x.ps+weight y.ps:=by rw[hm,Cg]
 intro j hj hj2;have hj3:j+1<l.length+1+r.length:=by simpa[Ya,Nat.add_comm 1]using hj2
 rcases Zt (j+1) l.length with h1|h1
 ·have:=h j (.inl (by omega)) (by simp;omega);rw[Vm (by omega),Vm h1]at this ⊢;exact this
 ·rcases Zt j l.length with h2|h2
  ·
   have e:j+1=l.length:=by omega
   have:=h j (.inl h2) (by simp;omega);rw[Vm h2,Vn (by omega)]at this ⊢;simp only[e,Xs,J8]at this ⊢;omega
  ·have:=h (j+1) (.inr (by omega)) (by simp;omega);rw[Vn (by omega),Vn (by omega)]at this ⊢;obtain⟨i,rfl⟩:∃i,j=l.length+i:=⟨j-l.length,by omega⟩;have e0:l.length+i+1+1-l.length=i+1+1:=by omega
   have e1:l.length+i+1-l.length=i+1:=by omega
   have e2:l.length+i-l.length=i:=by omega
   simp only[e0,e1,e2,Uq]at this ⊢;cases i with
   |zero=>
    simp only[J8]at this ⊢;omega
   |succ i=>
    simp only[Uq]at this ⊢;exact this
theorem EdI.pair{T:Tg}{h:Nat}{τ0:Tr}{gs0:List Nat}{p:Nat}{PS:List Pr}{d:Int}{τ:Tr}{l r:List Kid}{x y:Kid}{last:Nat}(H:EdI T h τ0 gs0 p PS d τ (l++x::y::r) l.length last)(hlt:l.length<last)(hT:T.t=true→h=0):
  ∃na nb,τ.pg x.page=some na.enc∧τ.pg y.page=some nb.enc∧He na∧He nb∧na.leaf=nb.leaf∧isKey y.key=true∧(Gd na y.key nb).ok=true∧mem τ.α.us x.page=true∧mem τ.α.us y.page=true∧
   (160<(Gd na y.key nb).size→EdI T h τ0 gs0 p PS d τ (l++x::y::r) (l.length+1) last)∧
   ((Gd na y.key nb).size≤160→∃m,kK m=kK x∧EdI T h τ0 gs0 p PS d {τ with σ:=τ.σ.put (x.page:Nat) (Gd na y.key nb).enc,α:=τ.α.give y.page} (l++m::r) l.length (last-1)):=by
 obtain⟨hat,hsub,hsep,hps,hkey,hkm,hlen,hsz,htl,hrt,hdp,hct⟩:=H;obtain⟨s1,s2,s3,s4,s5,s6⟩:=Sep.cross (A:=l) (o:=x) (C:=y::r) hsep;obtain⟨s7,s8⟩:=Yf.1 s2;have hxs:=hsub x (by simp);have hys:=hsub y (by simp);have hyk:isKey y.key=true:=hkey y (by cases l<;>simp)
 obtain⟨na,nb,A,B,ga,gb,pa,pb,oa,ob,lf,mok,msz,mk⟩:=Sub.two hxs hys hyk (hkm y (by cases l<;>simp)) (s5 y (Zm ..)).1 (s5 y (Zm ..)).2 hT
 have hux:mem τ.α.us x.page=true:=(hat.us _).2 (.inr (Zs _ (Yb.2 ⟨x,by simp,hxs.head⟩)));have huy:mem τ.α.us y.page=true:=(hat.us _).2 (.inr (Zs _ (Yb.2 ⟨y,by simp,hys.head⟩)));refine⟨na,nb,pa,pb,oa,ob,lf,hyk,mok,hux,huy,fun hz=>?_,fun hz=>?_⟩
 ·refine⟨hat,hsub,hsep,hps,hkey,hkm,hlen,hsz,fun hTt hh j hj=>?_,hrt,hdp,hct⟩;rcases Zt j l.length with h1|h1
  ·exact htl hTt hh j (.inl h1)
  ·rcases hj with hj|hj
   ·have e:j=l.length:=by omega
    subst e;rw[Zgl];have:=msz hh;omega
   ·exact htl hTt hh j (.inr hj)
 ·
  have e1:p::(l++x::y::r).flatMap (·.gs)=(p::l.flatMap (·.gs)++x.page::A)++y.page::(B++r.flatMap (·.gs)):=by
   rw[Yd,Zx,Zx,ga,gb];simp
  have hat2:At τ0 gs0 ((p::l.flatMap (·.gs)++x.page::A)++y.page::(B++r.flatMap (·.gs))) (2*(h+1)) τ:=e1▸hat;have hat3:=hat2.put (p:=x.page) (s:=(Gd na y.key nb).enc) (by simp);have hat4:=hat3.give.2;have hnd:=hat2.nd;rw[Xa]at hnd;obtain⟨nd1,nd2,nd3⟩:=hnd;rw[Xa]at nd1;obtain⟨nd4,nd5,nd6⟩:=nd1;have hpgj:∀j,j≠x.page→({τ with σ:=τ.σ.put (x.page:Nat) (Gd na y.key nb).enc,α:=τ.α.give y.page}:Tr).pg j=τ.pg j:=fun j hj=>by
   have:=Tr.pg_put τ x.page j (Gd na y.key nb).enc;rw[if_neg hj]at this;exact this
  have hpgx:({τ with σ:=τ.σ.put (x.page:Nat) (Gd na y.key nb).enc,α:=τ.α.give y.page}:Tr).pg x.page=some (Gd na y.key nb).enc:=by
   have:=Tr.pg_put τ x.page x.page (Gd na y.key nb).enc;rw[if_pos rfl]at this;exact this
  have nx1:∀j∈l.flatMap (·.gs),j≠x.page:=fun j hj=>nd6 j (Zs _ hj) x.page (Zm ..);have nx2:∀j∈A,j≠x.page:=fun j hj e=>(Yz.1 nd5).1 (by rw[←e];exact hj);have nx3:∀j∈B++r.flatMap (·.gs),j≠x.page:=fun j hj e=>nd3 x.page (by simp) j (Zs _ hj) e.symm;refine⟨⟨x.page,x.key,x.ps++y.ps,x.page::(A++B)⟩,rfl,?_,?_,?_,?_,?_,?_,?_,?_,fun hTt hh=>Zgm rfl hlt (htl hTt hh),hrt,hdp,hct⟩
  ·have e2:p::(l++(⟨x.page,x.key,x.ps++y.ps,x.page::(A++B)⟩:Kid)::r).flatMap (·.gs)=(p::l.flatMap (·.gs)++x.page::A)++(B++r.flatMap (·.gs)):=by
    rw[Yd,Zx];simp
   rw[e2];exact hat4
  ·intro c hc;rcases Zk.1 hc with hc|hc
   ·exact(hsub c (by simp[hc])).congr (fun j hj=>hpgj j (nx1 j (Yb.2 ⟨c,hc,hj⟩)))
   ·rcases Zg.1 hc with rfl|hc
    ·refine mk _ hz hpgx (fun j hj=>hpgj j ?_);rcases Zk.1 hj with hj|hj
     ·exact nx2 j hj
     ·exact nx3 j (Jt _ hj)
    ·exact(hsub c (by simp[hc])).congr (fun j hj=>hpgj j (nx3 j (Ja _ (Yb.2 ⟨c,hc,hj⟩))))
  ·refine Ys.2 ⟨s1,Yf.2 ⟨fun c hc=>⟨fun q hq=>?_,(s7 c hc).2⟩,s8⟩,fun a ha c hc=>?_⟩
   ·rcases Zk.1 hq with hq|hq
    ·exact(s5 c (Zs _ hc)).1 q hq
    ·exact(s7 c hc).1 q hq
   ·rcases Zg.1 hc with rfl|hc
    ·refine⟨s3 a ha,fun q hq=>?_⟩;have hlo:=s4 (Zqe ha);rcases Zk.1 hq with hq|hq
     ·exact hlo q hq
     ·obtain⟨q0,hq0⟩:=Us _ hxs.ne;have hy:=s5 y (Zm ..);exact Rm (Rm (hlo q0 hq0) (Rl (hy.1 q0 hq0))) (hy.2 q hq)
    ·exact⟨s6 a ha c (Zs _ hc),(s7 c hc).2⟩
  ·rw[←hps];simp
  ·intro c hc;cases l with
   |nil=>
    have hc:c∈r:=hc;exact hkey c (by simp[hc])
   |cons a l=>
    have hc:c∈l++(⟨x.page,x.key,x.ps++y.ps,x.page::(A++B)⟩:Kid)::r:=hc;rcases Zk.1 hc with hc|hc
    ·exact hkey c (by simp[hc])
    ·rcases Zg.1 hc with rfl|hc
     ·exact hkey x (by simp)
     ·exact hkey c (by simp[hc])
  ·intro c hc;cases l with
   |nil=>
    have hc:c∈r:=hc;exact hkm c (by simp[hc])
   |cons a l=>
    have hc:c∈l++(⟨x.page,x.key,x.ps++y.ps,x.page::(A++B)⟩:Kid)::r:=hc;rcases Zk.1 hc with hc|hc
    ·exact hkm c (by simp[hc])
    ·rcases Zg.1 hc with rfl|hc
     ·exact hkm x (by simp)
     ·exact hkm c (by simp[hc])
  ·simp only[Zd,Zf]at hlen ⊢;omega
  ·rw[j4]at hsz ⊢;cases l with
   |nil=>
    show 2+2*(r.length+1)+kw r≤318;have hsz:2+2*(r.length+1+1)+kw (y::r)≤318:=hsz;rw[T4]at hsz;omega
   |cons a l=>
    simp only[Y0,Vv,Zf,Zd,VP,T4]at hsz ⊢;omega
theorem EdI.done{T:Tg}{h:Nat}{τ0:Tr}{gs0:List Nat}{p:Nat}{PS:List Pr}{d:Int}{τ:Tr}{ks:List Kid}{k last:Nat}(H:EdI T h τ0 gs0 p PS d τ ks k last)(hx:ks.length≤k+1∨last≤k):T.t=true→h=0→H0 ks:=fun hT hh j=>by
 rcases Zt j k with h1|h1
 ·exact H.tl hT hh j (.inl h1)
 ·rcases hx with hx|hx
  ·intro hj;omega
  ·exact H.tl hT hh j (.inr (by omega))
theorem Zgn{T:Tg}{h:Nat}{G:List Pr→Option (List Pr)}{e0:Nat}{dc:Bool}{τ τ2 τ3:Tr}{gs:List Nat}{p:Nat}{ps ps':List Pr}{ks:List Kid}{k last:Nat}{P P1 P':List Asn}{r:Value}(hP:∀A∈P,A∈P1)(H:EdI T h τ gs p ps' (Ma dc ps ps') τ2 ks k last)(hT:T.t=true→h=0→H0 ks)(hG:G ps=some ps')(hn:(Gh (ks.map kK)).ok=true)(hw:Ci τ2 p (Gh (ks.map kK)) P1 r τ3 P'):
  N5 T (h+1) G e0 dc τ gs ps P r τ3 P':=by
 obtain⟨h1,h2,h3,h4,⟨h5,h6,h7⟩|⟨kv,pcs,tk,h5,h6,h7,h8,h9,h10,h11,h12⟩⟩:=hw
 ·refine⟨fun A hA=>h1 A (hP A hA),h2.trans H.rt,h4.trans H.dp,.inl ⟨5,h5,by decide,H.at_.wob.trans h6,.inl ⟨rfl,?_⟩⟩⟩;have:=H.at_.fr;omega
 ·have hat:At τ gs ([]++[p]++ks.flatMap (·.gs)) (2*(h+1)) τ2:=H.at_;obtain⟨ups,u⟩:=FP (T:=T) (pg:=τ3.pg) (h:=h) hn (fun c hc=>(H.sub c hc).congr (fun j hj=>hat.keep h11 (.inr (Yb.2 ⟨c,hc,hj⟩)))) H.sep hT H.km h7 h8 h10 h12;have hl:ups.length=pcs.length:=by
   have:=congrArg Yi u.kk;rw[Zc,X9,Zc,Zf]at this;omega
  rw[H.ps]at u;refine⟨fun A hA=>h1 A (hP A hA),h2.trans H.rt,h4.trans H.dp,.inr ⟨kv,ups,ps',h5,?_,hG,u.own,by omega,?_,h3.trans H.ct⟩⟩
  ·rw[u.kk];exact h6
  ·exact((hat.step h11).perm (by simpa using u.gs.symm)).more (by omega)
theorem Zgo{T:Tg}{h:Nat}{G:List Pr→Option (List Pr)}{e0:Nat}{dc:Bool}{τ τ2:Tr}{gs:List Nat}{p:Nat}{ps ps':List Pr}{k last:Nat}{P P':List Asn}(hP:∀A∈P,A∈P')(H:EdI T h τ gs p ps' (Ma dc ps ps') τ2 [] k last)(hG:G ps=some ps')(hk:Sl 2 (.slice none 0 0) []∈P'):
  N5 T (h+1) G e0 dc τ gs ps P (.tuple ⟨[.slice none 0 0,.int .i64 ((0:Nat):Int)]⟩) {τ2 with α:=τ2.α.give p} P':=by
 have hat:At τ gs ([]++p::[]) (2*(h+1)) τ2:=H.at_;have hps:=H.ps;have hps:ps'=[]:=hps.symm;subst hps;exact⟨hP,H.rt,H.dp,.inr ⟨_,[],[],rfl,hk,hG,Ups.nil,by simp,hat.give.2.more (by omega),H.ct⟩⟩
theorem Zgp{T:Tg}{h:Nat}{G:List Pr→Option (List Pr)}{e0:Nat}{dc:Bool}{key:Bs}{τ τ1:Tr}{gs gs1:List Nat}{A C:List Kid}{o:Kid}{P P1 P':List Asn}{kv:Value}{e:Nat}(hP:∀A∈P,A∈P1)(hGok:GOk key G)(hA:∀q∈A.flatMap (·.ps),Gf q.1 key=true)(hC:∀q∈C.flatMap (·.ps),Gf key q.1=true)(he:e≠0)(H:N5 T h G e0 dc τ gs1 o.ps P1 (.tuple ⟨[kv,.int .i64 (e:Nat)]⟩) τ1 P'):
  N5 T (h+1) G e0 dc τ gs ((A++o::C).flatMap (·.ps)) P (.tuple ⟨[.slice none 0 0,.int .i64 (e:Nat)]⟩) τ1 P':=by
 obtain⟨h1,h2,h3,⟨e',h4,h5,h6,h7⟩|⟨_,_,_,h4,_⟩⟩:=H
 ·have e1:e=e':=by
   injection h4 with h4
   injection h4 with h4
   injection h4 with _ h4
   injection h4 with h4 _
   injection h4 with _ h4
   omega
  subst e1;refine⟨fun A hA=>h1 A (hP A hA),h2,h3,.inl ⟨e,rfl,he,h6,?_⟩⟩;rcases h7 with⟨h7,h8⟩|⟨h7,h8⟩
  ·exact .inl ⟨h7,by omega⟩
  ·refine .inr ⟨h7,?_⟩;rw[Yd,Zx,←Zu,hGok.loc _ _ _ hA hC,h8];rfl
 ·exfalso;injection h4 with h4
  injection h4 with h4
  injection h4 with _ h4
  injection h4 with h4 _
  injection h4 with _ h4
  omega
theorem RU{A C:List Kid}{o:Kid}{key:Bs}(h:Sep (A++o::C))(hone:o.ps≠[])(hA:A≠[]→Gf key o.key=false)(hC:∀c∈C,Gf key c.key=true):(∀q∈A.flatMap (·.ps),Gf q.1 key=true)∧∀q∈C.flatMap (·.ps),Gf key q.1=true:=by
 obtain⟨h1,h2,h3,h4,h5,h6⟩:=h.cross;refine⟨fun q hq=>?_,fun q hq=>?_⟩
 ·obtain⟨a,ha,hq⟩:=Yb.1 hq;exact T3 (h3 a ha q hq) (hA (Zqe ha))
 ·obtain⟨c,hc,hq⟩:=Yb.1 hq;exact T3 (hC c hc) ((h5 c hc).2 q hq)
theorem Rp{a b:Value}{x y:Int}(h:Value.tuple ⟨[a,.int .i64 x]⟩=.tuple ⟨[b,.int .i64 y]⟩):a=b∧x=y:=by
 injection h with h
 injection h with h
 injection h with h1 h
 injection h with h _
 injection h with _ h
 exact⟨h1,h⟩
theorem UU{a b:Value}{x y:Bool}{c d:Value}(h:Value.tuple ⟨[a,.bool x,c]⟩=.tuple ⟨[b,.bool y,d]⟩):a=b∧x=y:=by
 injection h with h
 injection h with h
 injection h with h1 h
 injection h with h _
 injection h with h
 exact⟨h1,h⟩
theorem N5.fine{T:Tg}{h:Nat}{G:List Pr→Option (List Pr)}{e0:Nat}{dc:Bool}{τ:Tr}{gs:List Nat}{ps:List Pr}{P:List Asn}{kv:Value}{τ':Tr}{P':List Asn}(H:N5 T h G e0 dc τ gs ps P (.tuple ⟨[kv,.int .i64 ((0:Nat):Int)]⟩) τ' P'):∃ups ps',Sl 2 kv ((ups.map kK).map Gs)∈P'∧G ps=some ps'∧Ups T τ'.pg h (ups.map kK) ps' (ups.flatMap (·.gs)) ups∧ups.length≤3∧At τ gs (ups.flatMap (·.gs)) (2*(h+1)) τ'∧τ'.count=τ.count+Ma dc ps ps':=by
 obtain⟨h1,h2,h3,⟨e',h4,h5,h6,h7⟩|⟨kv',ups,ps',h4,h5⟩⟩:=H
 ·exact absurd (Rp h4).2.symm (by omega)
 ·rw[(Rp h4).1];exact⟨ups,ps',h5⟩
theorem Tz.yes{τ:Tr}{n m:Nd}{nks:List (Nat×Bs)}{i p q:Nat}{P:List Asn}{v:Value}{τ':Tr}{P':List Asn}(H:Tz τ n m nks i p q P (.tuple ⟨[v,.bool true,.int .i64 0]⟩) τ' P'):m.size≤160∧∃n',NdV P' v n'∧n'.leaf=n.leaf∧n'.pairs=n.pairs∧Bj n' (By nks i)∧τ'= {τ with σ:=τ.σ.put (p:Nat) m.enc,α:=τ.α.give q}:=by
 obtain⟨_,v',⟨_,he,_⟩|⟨h1,n',he,h2⟩⟩:=H
 ·exact absurd (UU he).2 (by decide)
 ·rw[(UU he).1];exact⟨h1,n',h2⟩
theorem Tz.no{τ:Tr}{n m:Nd}{nks:List (Nat×Bs)}{i p q:Nat}{P:List Asn}{v:Value}{τ':Tr}{P':List Asn}(H:Tz τ n m nks i p q P (.tuple ⟨[v,.bool false,.int .i64 0]⟩) τ' P'):160<m.size∧τ'=τ:=by
 obtain⟨_,v',⟨h1,he,h2,h3⟩|⟨h1,n',he,h2⟩⟩:=H
 ·exact⟨h1,h3⟩
 ·exact absurd (UU he).2 (by decide)
theorem Tz.shape2{τ:Tr}{n m:Nd}{nks:List (Nat×Bs)}{i p q:Nat}{P:List Asn}{r:Value}{τ':Tr}{P':List Asn}(H:Tz τ n m nks i p q P r τ' P'):∃v' b n',r=.tuple ⟨[v',.bool b,.int .i64 0]⟩∧NdV P' v' n'∧n'.leaf=n.leaf:=by
 obtain⟨_,v',⟨_,he,h,_⟩|⟨_,n',he,h,h2,_⟩⟩:=H
 ·exact⟨v',_,n,he,h,rfl⟩
 ·exact⟨v',_,n',he,h,h2⟩
theorem RJ{l r:List Kid}{x y:Kid}(h:l.length+1<(nk (l++x::y::r)).length):(nk (l++x::y::r))[l.length+1].1=y.page∧(nk (l++x::y::r))[l.length+1].2=y.key:=by
 rcases l with _|⟨a,l⟩
 ·exact⟨rfl,rfl⟩
 ·constructor
  ·simp[nk,Mt,kK]
  ·simp[nk,Mt,kK]
theorem RG(dc:Bool)(a b b' c:List Pr):Ma dc (a++b++c) (a++b'++c)=Ma dc b b':=by
 unfold Ma;cases dc
 ·rfl
 ·simp only[cond_true,Zd];omega
theorem Fit.kid{τ:Tr}{p:Nat}{A C:List Kid}{o:Kid}(h:Fit τ (p::(A++o::C).flatMap (·.gs))):Fit τ o.gs:=by
 have hsub:∀j∈o.gs,j∈p::(A++o::C).flatMap (·.gs):=fun j hj=>Zs _ (Yb.2 ⟨o,by simp,hj⟩);refine⟨h.ok,h.bk,h.nn,h.u0,fun e=>h.g0 (hsub 0 e),?_,fun j hj=>h.us j (hsub j hj),h.c0,h.c1⟩;have:=(Yz.1 h.nd).2;rw[Yd,Zx,Xa]at this;exact(Xa.1 this.2.1).1
theorem cells3{b:Value}{a1 a2 a3 b1 b2 b3:Value}{c:Value}(h:Value.agg ⟨[b,a1,a2,a3]⟩=.agg ⟨[c,b1,b2,b3]⟩):a1=b1∧a2=b2∧a3=b3:=by
 have:=w6 h;simp only[List.cons.injEq,and_true]at this;exact this.2
structure EdP where
 k:Nat
 last:Nat
 ks:List Kid
 pv:Value
 kv:Value
 iv:Value
 τ:Tr
 P:List Asn
structure EdP.Ok(T:Tg)(h:Nat)(τ0:Tr)(gs0:List Nat)(p:Nat)(PS:List Pr)(d:Int)(Pk:List Asn)(a:EdP):Prop where
 ed:EdI T h τ0 gs0 p PS d a.τ a.ks a.k a.last
 nd:NdV a.P (.agg ⟨[.bool false,a.pv,a.kv,a.iv]⟩) (Gh (a.ks.map kK))
 sub:∀A∈Pk,A∈a.P
 kb:a.k≤300∧a.last≤300
theorem Zgq{ks:List Kid}{k:Nat}(h:k+1<ks.length):∃l x y r,ks=l++x::y::r∧l.length=k:=
 ⟨ks.take k,ks[k],ks[k+1],ks.drop (k+2),by rw[←X7,←X7,Ym],by rw[Zq];omega⟩
theorem Zgr(T:Tg)(h:Nat)(ih:RZ T h)(L P P0:List Asn)(t:Nat)(τ:Tr)(p:Nat)(key:Bs)(fid:FuncId)(caps:Array Value)(G:List Pr→Option (List Pr))(e0:Nat)(dc:Bool)(A C:List Kid)(o:Kid)(hf:xj P0 t fid caps G e0 dc)(hG:GOk key G)(h0:∀A∈P0,A∈P)(hT:Ro 0 G5∈P)(hfit:Fit τ (p::(A++o::C).flatMap (·.gs)))(hpg:τ.pg p=some (Gh ((A++o::C).map kK)).enc)(hpo:He (Gh ((A++o::C).map kK)))(hsub:∀c∈A++o::C,Sub T τ.pg h c.page c.ps c.gs)(hsep:Sep (A++o::C))(htl:T.t=true→h=0→H0 (A++o::C))(hkm:∀k∈(A++o::C).tail,k.key.length≤T.m)(hTh:T.t=true→h=0)(hpm:∀q∈(A++o::C).flatMap (·.ps),q.1.length≤T.m)(hkyl:key.length≤T.m)
 (hAl:A.length=(Gh ((A++o::C).map kK)).find key) (hA:A≠[]→Gf key o.key=false) (hC:∀c∈C,Gf key c.key=true):Sp SET 78 [.pointer (some ⟨t,0,none⟩),.int .i64 (p:Nat),S key,.func (.func fid) #[] caps] (trL t τ++L) P (fun r L' P'=>∃τ',N5 T (h+1) G e0 dc τ (p::(A++o::C).flatMap (·.gs)) ((A++o::C).flatMap (·.ps)) P r τ' P'∧L'=trL t τ'++L):=by
 have hfit0:=hfit;obtain⟨Q0,hQ0⟩:∃Q0:List Asn,Q0=P:=⟨P,rfl⟩;obtain⟨hok,hbk,hnn,hu0,hg0,hnd,hus,hc0,hc1⟩:=hfit;have hpu:=hus p (by simp);have hpl:=hok.uo p hpu;have hos:=hsub o (by simp);obtain⟨n1,n2,n3,n4,n5⟩:=D4 hpo;rw[Zc]at n2;obtain⟨sA,sC⟩:=RU hsep hos.ne hA hC;have hal2:A.length<(A++o::C).length:=by simp
 have hgo:((Gh ((A++o::C).map kK)).kids.map encI)[((A.length:Nat):Int).toNat]? =some [.int .i64 (o.page:Nat)]:=by
  show((((A++o::C).map kK).map (·.1)).map encI)[((A.length:Nat):Int).toNat]? =_;rw[Yp];simp[kK,encI]
 have hkl:((Gh ((A++o::C).map kK)).kids.map encI).length=(A++o::C).length:=by
  show((((A++o::C).map kK).map (·.1)).map encI).length=_;simp
 refine .bo (fn:=Tryz.f78) (N:=114) ?_;refine .seq (.region (.pu .as (.pu .as (.nil (.seq (.region (.pu .mv (.pu .mv ?_))))))));refine .call (w8 _ _ _ _ _ _ (by omega) hpg hpo) ?_;rintro _ _ _ ⟨v,rfl,hv,rfl,hs1⟩;have hv0:=hv;obtain⟨pv,kv,iv,rfl,hpv,hkv,hiv⟩:=hv.ex;refine .fact (Gi (.s (.p hpv))) fun⟨a1,c1,e1⟩=>?_;refine .fact (Gi (.s (.p hkv))) fun⟨a2,c2,e2⟩=>?_;refine .fact (Gi (.s (.p hiv))) fun⟨a3,c3,e3⟩=>?_;subst e1 e2 e3;refine .pu .mv (.pu .ex (.pu .ex ?_));refine .nw (cs:=[.bool false,.slice none 0 0,.slice none 0 0,.slice none 0 0]) fun b10=>?_;refine .st (vs:=[_,_,_,_]) ?_;refine .pu .as (.nil (.seq (.seq (.region (.pu .mv (.pu .cmp (.nil ?_)))))));refine .no rfl (.skip (.seq (.seq (.region (.pu .fa (.ld ?_))))));refine .nil ?_;refine .no rfl (.skip (.seq (.region (.lda (vs:=[_,_,_,_]) ?_))));refine .pu .mv ?_;refine .call (XR _ _ _ (Gh ((A++o::C).map kK)) key hv0 hpo.sm.small hpo.ok) ?_;rintro _ L P ⟨rfl,rfl,rfl⟩
 rw[←hAl];refine .pu .mv (.pu .ex (.pu .ex (.pu .as (.pu .as (.nil (.seq (.seq (.region (.pu .mv (.pu .cmp (.nil ?_)))))))))));refine .no rfl (.skip (.seq (.region (.pu .mv (.pu .fa (.ld ?_))))));refine .pu .mv ?_;refine .lk (.ia (k:=1) (es:=(Gh ((A++o::C).map kK)).kids.map encI) (hn:=⟨by omega,by omega⟩)) ?_;refine .le hgo ?_;refine .pu .mv (.pu .mv ?_);refine .call (Sp.tr [_] _ (fun L=>ih L _ P0 t τ o.page o.ps o.gs key fid caps G e0 dc hf hG (fun A hA=>hs1 _ (h0 _ hA)) (hs1 _ hT) hfit0.kid hos (fun e=>by have:=hTh e;omega) (fun q hq=>hpm q (Yb.2 ⟨o,by simp,hq⟩)) hkyl)) ?_;rintro _ _ _ ⟨τ1,heo,rfl⟩;obtain⟨kv1,e1,rfl⟩:=heo.shape;have hs2:=heo.1;refine .pu .mv (.pu .ex (.pu .ex (.pu .as (.pu .as (.nil ?_)))));by_cases he:e1=0
 ·refine .seq (.seq (.region (.pu .mv (.pu .cn (.nil ?_)))));refine .no rfl (.skip (.seq (.region ?_)));subst he;obtain⟨ups,ps',hkv1,hGo,hups,hul,hat1,hct1⟩:=heo.fine;have hI:=EdI.start hG hfit0 hpo hsub hsep htl hkm hA hC hGo hups hul hat1 heo.2.1 heo.2.2.1 hct1;have hnv:=hv0.sub hs2;have hnl:=xk (A++o::C);have hal3:A.length<(nk (A++o::C)).length:=by rw[hnl];exact hal2
  refine .lda (vs:=[_,_,_,_]) ?_;refine .pu .mv (.pu .mv ?_);refine .call (Zf0 _ _ _ _ (Gh ((A++o::C).map kK)) (nk (A++o::C)) (ups.map kK) A.length hnv (UX _) hal3 hkv1 (by rw[hnl];omega) (by rw[Zc];omega)) ?_;rintro _ _ _ ⟨r',rfl,hr',rfl,hs3⟩;rw[Zgg rfl hal3]at hr';have hr0:=hr';obtain⟨qv,rv,sv,rfl,hqv,hrv,hsv⟩:=hr'.ex;refine .fact (Gi (.s (.p hqv))) fun⟨b1,d1,f1⟩=>?_;refine .fact (Gi (.s (.p hrv))) fun⟨b2,d2,f2⟩=>?_;refine .fact (Gi (.s (.p hsv))) fun⟨b3,d3,f3⟩=>?_;subst f1 f2 f3;have hkv2:=hs3 _ hkv1;have hkvl:((ups.map kK).map Gs).length=ups.length:=by rw[Zc,Zc]
  have hPk:∀A∈P0,A∈_:=fun A hA=>hs3 _ (hs2 _ (hs1 _ (h0 _ hA)));have hal4:A.length≤255:=by omega
  refine .st (vs:=[_,_,_,_]) ?_;refine .nil (.seq (.seq (.region (.pu .mv (.pu .sub ?_)))));refine .pu (.max (c:=((A.length-1:Nat):Int)) (hc:=by split<;>omega)) ?_
  refine .pu .mv (.pu .mv (.lk .ln ?_));refine .pu .add ?_;rw[show Value.int .i64 ((A.length:Int)+(((ups.map kK).map Gs).length:Nat))=Value.int .i64 ((A.length+ups.length:Nat):Int) by rw[hkvl];rfl];refine .pu .as (.pu .as (.nil ?_));refine .block (W.loop (fun a:EdP=>a.Ok T h τ (p::(A++o::C).flatMap (·.gs)) p (A.flatMap (·.ps)++ps'++C.flatMap (·.ps)) (Ma dc o.ps ps') Q0) (fun a=>a.ks.length-a.k) (fun a=>[(14,.int .i64 (a.k:Nat)),(15,.int .i64 (a.last:Nat)),(10,pp0 b10),(0,.pointer (some ⟨t,0,none⟩)),(1,.int .i64 (p:Nat))]) (fun a=>Pt b10 [.bool false,a.pv,a.kv,a.iv] (tz 0 131)::(trL t a.τ++L)) (fun a=>a.P) ⟨A.length-1,A.length+ups.length,A++Hl o.key ups++C,_,_,_,τ1,_⟩ ⟨hI,hr0,fun A hA=>hs3 _ (hs2 _ (hs1 _ (hQ0▸hA))),by show A.length-1≤300;omega,by show A.length+ups.length≤300;omega⟩ ⟨rfl,rfl,rfl,rfl,rfl,trivial⟩ (.refl _ _) (fun a ha=>?_))
  obtain⟨hed,hnd3,hsubP,hkb,hlb⟩:=ha;generalize a.k=k at hed hkb ⊢;generalize a.last=last at hed hlb ⊢;generalize a.ks=ks at hed hnd3 ⊢;generalize a.pv=pv3 at hnd3 ⊢;generalize a.kv=kv3 at hnd3 ⊢;generalize a.iv=iv3 at hnd3 ⊢;generalize a.τ=τ3 at hed ⊢;generalize a.P=P3 at hnd3 hsubP ⊢;have hnd30:=hnd3;obtain⟨pw,kw',iw,ew,hpw,hkw,hiw⟩:=hnd3.ex;obtain⟨rfl,rfl,rfl⟩:=cells3 ew;refine .fact (Gi (.s (.p hpw))) fun⟨a4,c4,(f1:pv3=_)⟩=>?_;refine .fact (Gi (.s (.p hkw))) fun⟨a5,c5,(f2:kv3=_)⟩=>?_;refine .fact (Gi (.s (.p hiw))) fun⟨a6,c6,(f3:iv3=_)⟩=>?_;subst f1 f2 f3;have hkl3:((Gh (ks.map kK)).kids.map encI).length=ks.length:=by
   show(((ks.map kK).map (·.1)).map encI).length=_;simp
  have hlen3:=hed.len;obtain⟨w3,hw3⟩:=hed.at_.w;have hn3:τ3.σ.n=τ3.α.n:=by rw[hed.at_.n,hw3];exact hnn
  have hbk3:τ3.α.back≤1000000:=by rw[hed.at_.bk];exact hbk
  refine .seq (.seq (.region (.pu .mv (.pu .add (.pu .fa (.ld ?_))))));refine .lk .ln ?_;refine .pu .cmp (.pu .mv ?_);refine .and 86 3 (decide ((k:Int)<(last:Nat))) (fun hq=>?_) ?_
  ·refine .on (.pu .mv (.on (.pu .mv (.on (.pu .cmp ?_)))));exact .fin rfl
  refine .nil ?_;refine .ite rfl (fun ht90=>?_) (fun ht90=>?_)
  ·refine .skip (.block (.seq (.region ?_)));simp only[Zi,decide_eq_true_eq]at ht90;obtain⟨l,x,y,r,rfl,hl⟩:=Zgq (ks:=ks) (k:=k) (by omega);subst hl;obtain⟨na,nb,pa,pb,oa,ob,lf,hyk,mok,hux,huy,hnext,hjoin⟩:=hed.pair (by omega) hTh;have hnk:=xk (l++x::y::r);have hly:l.length+1<(nk (l++x::y::r)).length:=by rw[hnk];simp
   have g1:=(RY (l:=l) (x:=x) (r:=y::r) rfl (by omega)).1;have g2:=(RJ hly).1;have g3:=(RJ hly).2;have hux2:=hed.at_.ok.uo _ hux;have huy2:=hed.at_.ok.uo _ huy;refine .pu .mv (.lda (vs:=[_,_,_,_]) ?_);refine .pu .mv ?_;refine .call (Sp.tr [_] _ (fun L=>Zf1 L _ t τ3 _ (Gh ((l++x::y::r).map kK)) na nb (nk (l++x::y::r)) l.length hnd30 (UX _) hly (by rw[hnk];omega) (by rw[g1];omega) (by rw[g2];omega) (by rw[g1];exact pa) (by rw[g2];exact pb) oa ob lf (by rw[g3];exact hyk) (by rw[g3];exact mok) (by rw[g2];exact huy))) ?_;rintro _ _ _ ⟨τ4,hjo,rfl⟩;rw[g1,g2,g3]at hjo;have hs4:=hjo.1;obtain⟨v',b,n',rfl,hv',hlf'⟩:=hjo.shape2;obtain⟨qv4,rv4,sv4,ev4,hqv4,hrv4,hsv4⟩:=hv'.ex;have hlf2:n'.leaf=false:=hlf';rw[hlf2]at ev4;subst ev4;refine .fact (Gi (.s (.p hqv4))) fun⟨b7,d7,f7⟩=>?_;refine .fact (Gi (.s (.p hrv4))) fun⟨b8,d8,f8⟩=>?_
   refine .fact (Gi (.s (.p hsv4))) fun⟨b9,d9,f9⟩=>?_;subst f7 f8 f9;refine .pu .mv (.pu .ex (.pu .ex (.pu .ex ?_)));refine .nw (cs:=[.bool false,.slice none 0 0,.slice none 0 0,.slice none 0 0]) fun b16=>?_;refine .st (vs:=[_,_,_,_]) ?_;refine .pu .as (.pu .as (.nil (.seq (.seq (.region (.pu .mv (.pu .cmp (.nil ?_))))))));refine .no rfl (.skip ?_);by_cases hb:b=true
   ·refine .seq (.seq (.region ?_));subst hb;refine .pu .mv (.pu .nt (.nil ?_));refine .no rfl (.skip (.seq (.region (.lda (vs:=[_,_,_,_]) ?_))));refine .st (vs:=[_,_,_,_]) ?_;refine .nil (.region (.pu .mv (.pu .sub (.pu .as (.nil ?_)))));obtain⟨hz4,n5,hn5,hl5,hp5,hN5,rfl⟩:=hjo.yes;obtain⟨m,hmk,hI4⟩:=hjoin hz4;rw[Zge hmk]at hN5;rw[Zgf hN5 hl5 hp5]at hn5;refine⟨⟨l.length,last-1,l++m::r,_,_,_,_,_⟩,⟨hI4,hn5,fun A hA=>hs4 _ (hsubP _ hA),by show l.length≤300;omega,by show last-1≤300;omega⟩,by simp only[Zd,Zf];omega,⟨rfl,?_,rfl,rfl,rfl,trivial⟩,Ent.drop⟩;have e5:((last-1:Nat):Int)=(last:Int)-1:=by omega
    exact congrArg (fun x=>some (Value.int .i64 x)) e5.symm
   ·refine .seq (.seq (.region ?_));have hb2:b=false:=by simpa using hb
    subst hb2;refine .pu .mv (.pu .nt (.nil ?_));refine .yes rfl (.seq (.region (.pu .mv (.pu .add (.pu .as (.nil (.exit ?_)))))));obtain⟨hz4,rfl⟩:=hjo.no;refine⟨⟨l.length+1,last,l++x::y::r,_,_,_,_,_⟩,⟨hnext hz4,hnd30.sub hs4,fun A hA=>hs4 _ (hsubP _ hA),by show l.length+1≤300;omega,by show last≤300;omega⟩,by simp only[Zd,Zf];omega,⟨rfl,rfl,rfl,rfl,rfl,trivial⟩,Ent.drop⟩
  refine .exit ?_;by_cases hks:ks=[]
  ·refine .seq (.region ?_);have hx:ks.length≤k+1∨last≤k:=by
    simp only[Xz,decide_eq_false_iff_not]at ht90;omega
   have htd:=hed.done hx;have hGw:G ((A++o::C).flatMap (·.ps))=some (A.flatMap (·.ps)++ps'++C.flatMap (·.ps)):=by
    rw[Yd,Zx,←Zu,hG.loc _ _ _ sA sC,hGo];rfl
   have hdw:Ma dc ((A++o::C).flatMap (·.ps)) (A.flatMap (·.ps)++ps'++C.flatMap (·.ps))=Ma dc o.ps ps':=by
    rw[Yd,Zx,←Zu];exact RG ..
   rw[←hdw]at hed;have hpu3:mem τ3.α.us p=true:=(hed.at_.us p).2 (.inr (Zm ..));have hT3:=hsubP _ (hQ0▸hT);refine .pu .mv (.pu .mv (.lda (vs:=[_,_,_,_]) ?_));refine .call (Sp.tr [_] _ (fun L=>FH L _ _ τ3 _ _ _ hnd30 (.inr ⟨rfl,by rw[hks];rfl⟩) hpu3)) ?_;rintro _ _ _ ⟨τ5,⟨rfl,rfl,rfl⟩,rfl⟩;refine .pu .ex (.pu .ex (.pu .as (.pu .as (.nil (.ret ?_)))));refine⟨_,.tmp rfl (.tmp rfl .nil),_,_,(Ent.drop.trans (Ent.sl0 (k:=2) (c:=0))),{τ3 with α:=τ3.α.give p},?_,rfl⟩
   subst hks;exact Zgo (fun A hA=>.tail _ (hsubP _ (hQ0▸hA))) hed hGw (.head _)
  ·refine .seq (.region ?_);have hx:ks.length≤k+1∨last≤k:=by
    simp only[Xz,decide_eq_false_iff_not]at ht90;omega
   have htd:=hed.done hx;have hGw:G ((A++o::C).flatMap (·.ps))=some (A.flatMap (·.ps)++ps'++C.flatMap (·.ps)):=by
    rw[Yd,Zx,←Zu,hG.loc _ _ _ sA sC,hGo];rfl
   have hdw:Ma dc ((A++o::C).flatMap (·.ps)) (A.flatMap (·.ps)++ps'++C.flatMap (·.ps))=Ma dc o.ps ps':=by
    rw[Yd,Zx,←Zu];exact RG ..
   rw[←hdw]at hed;have hpu3:mem τ3.α.us p=true:=(hed.at_.us p).2 (.inr (Zm ..));have hT3:=hsubP _ (hQ0▸hT);refine .pu .mv (.pu .mv (.lda (vs:=[_,_,_,_]) ?_));refine .call (Sp.tr [_] _ (fun L=>xc L _ _ τ3 p _ (Gh (ks.map kK)) hnd30 ⟨hed.big hu0 hg0 hks,Nd.ok_sm (hed.big hu0 hg0 hks),fun e=>(by cases e),(Nd.ok_w (hed.big hu0 hg0 hks)).1,(Nd.ok_w (hed.big hu0 hg0 hks)).2⟩ hed.sz hT3 hed.at_.ok hbk3 hn3 hpu3)) ?_;rintro _ _ _ ⟨τ5,hwo,rfl⟩;obtain⟨kv5,e5,rfl⟩:=hwo.shape;refine .pu .ex (.pu .ex (.pu .as (.pu .as (.nil (.ret ?_)))));exact⟨_,.tmp rfl (.tmp rfl .nil),_,_,.drop,τ5,Zgn (fun A hA=>hsubP _ (hQ0▸hA)) hed htd hGw (hed.big hu0 hg0 hks) hwo,rfl⟩
 ·refine .seq (.seq (.region (.pu .mv (.pu .cy (.nil ?_)))));refine .yes rfl (.seq (.region (.pu .mv (.pu .as (.pu .as (.nil (.ret ?_)))))));exact⟨_,.tmp rfl (.tmp rfl .nil),_,_,.drop,τ1,Zgp hs1 hG sA sC he heo,rfl⟩
theorem RH{m:Nat}{key:Bs}{G:List Pr→Option (List Pr)}(hG:GOk key G){ps ps':List Pr}(h:G ps=some ps')(hpm:∀q∈ps,q.1.length≤m)(hkl:key.length≤m):∀q∈ps',q.1.length≤m:=fun q hq=>by
 rcases hG.keys _ _ h q hq with e|⟨q2,h2,e⟩
 ·rw[e];exact hkl
 ·rw[←e];exact hpm q2 h2
theorem RN(T:Tg):∀h,RZ T h
 |0=>fun L P P0 t τ p ps gs key fid caps G e0 dc hf hG h0 hT hfit hsub hTh hpm hkl=>by
  cases hsub with
  |leaf hpg hpo=>exact Zgd T L P P0 t τ p ps key fid caps G e0 dc hf (fun ps2 hg=>RH hG hg hpm hkl) h0 hT hfit hpg hpo
 |h+1=>fun L P P0 t τ p ps gs key fid caps G e0 dc hf hG h0 hT hfit hsub hTh hpm hkl=>by
  cases hsub with
  | @inner _ _ ks hpg hpo hk hsep htl hkm=>
   obtain⟨A,o,C,rfl,hAl,hA,hC⟩:=RX hpo key;exact Zgr T h (RN T h) L P P0 t τ p key fid caps G e0 dc A C o hf hG h0 hT hfit hpg hpo hk hsep htl hkm (fun e=>by have:=hTh e;omega) hpm hkl hAl hA hC
inductive Below(T:Tg)(pg:Nat→Option Bs):Nat→List Pr→List Nat→Nat→Prop
 |none:Below T pg 0 [] [] 0
 |some {h r:Nat} {ps:List Pr} {gs:List Nat} (hr:r≠0) (hs:Sub T pg h r ps gs):Below T pg r ps gs (h+1)
theorem RB{ups:List Kid}(hl:ups.length≤3)(hk:∀k∈ups.tail,isKey k.key=true):(Gh (ups.map kK)).size≤74:=by
 rw[j4];have:=UV hk;rw[V9]at this;omega
def RD(T:Tg)(h:Nat)(ups:List Kid)(τ0:Tr)(g0:List Nat)(κ:Nat)(c:Int)(ps:List Pr)(P:List Asn)(r:Value)(τ':Tr)(P':List Asn):Prop:=
  (∀A∈P,A∈P')∧
  ((r=.int .i64 5∧Wob τ0 τ'∧τ0.α.free<((κ+3:Nat):Int))∨
   (r=.int .i64 0∧∃gs,∃dp:Nat,Below T τ'.pg τ'.root ps gs dp∧τ'.depth=dp∧At τ0 g0 gs (κ+1) τ'∧τ'.count=c∧(dp≤h+1∨dp=h+2∧1<ups.length∧(ups.flatMap (·.gs)).length+1≤gs.length)))
theorem Ci.fine{τ:Tr}{p:Nat}{n:Nd}{P:List Asn}{kv:Value}{τ':Tr}{P':List Asn}(H:Ci τ p n P (.tuple ⟨[kv,.int .i64 ((0:Nat):Int)]⟩) τ' P'):τ'.root=τ.root∧τ'.count=τ.count∧τ'.depth=τ.depth∧∃pcs tk,Sl 2 kv (((p::tk).zip (pcs.map (·.1))).map Gs)∈P'∧M2 n pcs∧H8 pcs∧pcs.length≤3∧tk.length+1=pcs.length∧At τ [p] (p::tk) tk.length τ'∧∀x∈(p::tk).zip pcs,τ'.pg x.1=some x.2.2.enc:=by
 obtain⟨h1,h2,h3,h4,⟨h5,h6,h7⟩|⟨kv',pcs,tk,h5,h6⟩⟩:=H
 ·exact absurd (Rp h5).2 (by decide)
 ·rw[(Rp h5).1];exact⟨h2,h3,h4,pcs,tk,h6⟩
theorem Ci.err{τ:Tr}{p:Nat}{n:Nd}{P:List Asn}{kv:Value}{e:Nat}{τ':Tr}{P':List Asn}(he:e≠0)(H:Ci τ p n P (.tuple ⟨[kv,.int .i64 (e:Nat)]⟩) τ' P'):e=5∧Wob τ τ'∧τ.α.free<2:=by
 obtain⟨h1,h2,h3,h4,⟨h5,h6,h7⟩|⟨kv',pcs,tk,h5,h6⟩⟩:=H
 ·have:=(Rp h5).2;exact⟨by omega,h6,h7⟩
 ·have:=(Rp h5).2;omega
theorem Sub.node{T:Tg}{pg:Nat→Option Bs}{h p:Nat}{ps:List Pr}{gs:List Nat}(H:Sub T pg h p ps gs):∃n,pg p=some n.enc∧He n∧(n.leaf=false→∃h',∃ks:List Kid,h=h'+1∧n=Gh (ks.map kK)∧(∀k∈ks,Sub T pg h' k.page k.ps k.gs)∧ps=ks.flatMap (·.ps)∧gs=p::ks.flatMap (·.gs)):=by
 cases H with
 |leaf h ok=>exact⟨_,h,ok,fun e=>(by cases e)⟩
 |inner hp ok hk sp ht km=>exact⟨_,hp,ok,fun _=>⟨_,_,rfl,rfl,hk,rfl,rfl⟩⟩
theorem Zgs{T:Tg}{h:Nat}{τ0 τ1 τ3:Tr}{g0:List Nat}{κ1 b:Nat}{ps:List Pr}{ups:List Kid}{kv:Value}{P P':List Asn}(hu:Ups T τ1.pg h (ups.map kK) ps (ups.flatMap (·.gs)) ups)(hT:T.t=true→h=0→H0 ups)(hl:ups.length≤3)(hat1:At τ0 g0 (ups.flatMap (·.gs)) κ1 τ1)(hbn:b<τ1.α.n)(hbu:mem τ1.α.us b=false)(hbo:({τ1.α with us:=Gp τ1.α.us b}:AS0).Ok)(hn:(Gh (ups.map kK)).ok=true)
  (hw:Ci {τ1 with α:= {τ1.α with us:=Gp τ1.α.us b}} b (Gh (ups.map kK)) P (.tuple ⟨[kv,.int .i64 ((0:Nat):Int)]⟩) τ3 P'):∃ups',ups'.length=1∧(ups'.flatMap (·.gs)).length=(ups.flatMap (·.gs)).length+1∧Ups T τ3.pg (h+1) (ups'.map kK) ps (ups'.flatMap (·.gs)) ups'∧At τ0 g0 (ups'.flatMap (·.gs)) (κ1+1) τ3∧Sl 2 kv ((ups'.map kK).map Gs)∈P':=by
 obtain⟨_,_,_,pcs,tk,h6,h7,h8,h9,h10,h11,h12⟩:=hw.fine;have h1:=xh h7 h8 (Ye (RB hl hu.key) (by decide));have htk:tk=[]:=Yh.1 (by omega);subst htk;have hat2:=hat1.take hbn hbu hbo;have hat2':At τ0 g0 (ups.flatMap (·.gs)++[b]++[]) (κ1+1) {τ1 with α:= {τ1.α with us:=Gp τ1.α.us b}}:=by rw[Z9];exact hat2
 obtain⟨ups',u⟩:=FP (T:=T) (pg:=τ3.pg) (h:=h) hn (fun c hc=>(hu.sub c hc).congr (fun j hj=>hat2'.keep h11 (.inl (Yb.2 ⟨c,hc,hj⟩)))) hu.sep hT hu.km h7 h8 h10 h12;have hl2:ups'.length=pcs.length:=by
  have:=congrArg Yi u.kk;rw[Zc,X9,Zc,Zf]at this;omega
 rw[hu.ps]at u;refine⟨ups',by omega,?_,u.own,?_,?_⟩
 ·rw[u.gs.length_eq,Zd];show 1+_=_;omega
 ·have:=hat2'.step h11;refine(this.perm ?_).more (by simp);rw[Z9];exact(List.perm_append_comm (l₁:=ups.flatMap (·.gs)) (l₂:=[b])).trans u.gs.symm
 ·rw[u.kk];exact h6
theorem Zgt{P:List Asn}{ks:List (Nat×Bs)}{kv iv:Value}:NdV (Sl 2 (.slice none 0 0) []::Sl 1 iv ((ks.map (·.1)).map encI)::Sl 1 kv ((ks.tail.map (·.2)).map encS)::P) (.agg ⟨[.bool false,.slice none 0 0,kv,iv]⟩) (Gh ks):=
 ⟨⟨_,_,_,rfl,.head _,.tail _ (.tail _ (.head _)),.tail _ (.head _)⟩⟩
theorem At.dp{τ0 τ:Tr}{g c:List Nat}{k:Nat}{x:Int}(h:At τ0 g c k τ):At τ0 g c k {τ with depth:=x}:=
 ⟨h.s,h.a,h.w,h.ok,h.n,h.bk,h.us,h.nd,h.nw,h.pg,h.fr⟩
theorem At.rt{τ0 τ:Tr}{g c:List Nat}{k x:Nat}(h:At τ0 g c k τ):At τ0 g c k {τ with root:=x}:=
 ⟨h.s,h.a,h.w,h.ok,h.n,h.bk,h.us,h.nd,h.nw,h.pg,h.fr⟩
structure DnS where
 h:Nat
 gs:List Nat
 τ:Tr
 P:List Asn
structure DnS.Ok(T:Tg)(B N:Nat)(Wd:Prop)(τ0:Tr)(g0:List Nat)(κ:Nat)(c:Int)(ps:List Pr)(P:List Asn)(a:DnS):Prop where
 sb:Sub T a.τ.pg a.h a.τ.root ps a.gs
 at_:At τ0 g0 a.gs (κ+1) a.τ
 sub:∀A∈P,A∈a.P
 ct:a.τ.count=c
 dp:a.τ.depth=((a.h+1:Nat):Int)
 hb:a.h≤B
 nb:Wd→a.h=B→N+1≤a.gs.length
structure GrS where
 h:Nat
 ups:List Kid
 kv:Value
 κ:Nat
 τ:Tr
 P:List Asn
structure GrS.Ok(T:Tg)(B N:Nat)(Wd:Prop)(τ0:Tr)(g0:List Nat)(κ:Nat)(c:Int)(ps:List Pr)(P:List Asn)(a:GrS):Prop where
 up:Ups T a.τ.pg a.h (a.ups.map kK) ps (a.ups.flatMap (·.gs)) a.ups
 len:a.ups.length≤3
 at_:At τ0 g0 (a.ups.flatMap (·.gs)) a.κ a.τ
 kv:Sl 2 a.kv ((a.ups.map kK).map Gs)∈a.P
 sub:∀A∈P,A∈a.P
 ct:a.τ.count=c
 dp:a.τ.depth=((a.h+1:Nat):Int)
 κb:a.κ≤(if 1<a.ups.length then κ else κ+1)
 hb:a.h+(if 1<a.ups.length then 1 else 0)≤B
 nb:Wd→N+(if 1<a.ups.length then 0 else 1)≤(a.ups.flatMap (·.gs)).length
theorem Zgu(T:Tg)(h:Nat)(L P:List Asn)(t:Nat)(τ0 τ:Tr)(g0:List Nat)(κ:Nat)(ps:List Pr)(ups:List Kid)(kv:Value)(hT:Ro 0 G5∈P)(hfit:Fit τ0 g0)(hu:Ups T τ.pg h (ups.map kK) ps (ups.flatMap (·.gs)) ups)(hl:ups.length≤3)(hat:At τ0 g0 (ups.flatMap (·.gs)) κ τ)(hkv:Sl 2 kv ((ups.map kK).map Gs)∈P)(hdp:τ.depth=((h+1:Nat):Int))(hh:h≤99999):Sp SET 81 [.pointer (some ⟨t,0,none⟩),kv] (trL t τ++L) P (fun r L' P'=>∃τ',RD T h ups τ0 g0 κ τ.count ps P r τ' P'∧L'=trL t τ'++L):=by
 obtain⟨hok,hbk,hnn,hu0,hg0,hnd,hus,hc0,hc1⟩:=hfit;obtain⟨Q0,hQ0⟩:∃Q0:List Asn,Q0=P:=⟨P,rfl⟩;obtain⟨B,hB⟩:∃B:Nat,B=h+(if 1<ups.length then 1 else 0):=⟨_,rfl⟩;obtain⟨N,hN⟩:∃N:Nat,N=(ups.flatMap (·.gs)).length:=⟨_,rfl⟩;obtain⟨Wd,hW⟩:∃Wd:Prop,Wd=(1<ups.length):=⟨_,rfl⟩;have hB2:B≤100000:=by rw[hB];split<;>omega
 refine .bo (fn:=Tryz.f81) (N:=132) ?_;refine .seq (.region (.pu .as (.nil ?_)));refine .seq (.block (W.loop (fun a:GrS=>a.Ok T B N Wd τ0 g0 κ τ.count ps Q0) (fun a=>a.ups.length) (fun a=>[(1,a.kv),(0,.pointer (some ⟨t,0,none⟩))]) (fun a=>trL t a.τ++L) (fun a=>a.P) ⟨h,ups,kv,κ,τ,P⟩ ⟨hu,hl,hat,hkv,fun A hA=>hQ0▸hA,rfl,hdp,by show κ≤_;split<;>omega,Nat.le_of_eq hB.symm,fun w=>by show N+(if 1<ups.length then 0 else 1)≤(ups.flatMap (·.gs)).length;rw[if_pos (hW▸w),hN];exact Ze _⟩ ⟨rfl,rfl,trivial⟩ (.refl _ _) (fun a ha=>?_)))
 obtain⟨hu1,hl1,hat1,hkv1,hs1,hct1,hdp1,hκ1,hh1,hnb1⟩:=ha;generalize a.h=h1 at hu1 hdp1 hh1 ⊢;generalize a.ups=ups1 at hu1 hl1 hat1 hkv1 hκ1 hh1 hnb1 ⊢;generalize a.kv=kv1 at hkv1 ⊢;generalize a.κ=κ1 at hat1 hκ1 ⊢;generalize a.τ=τ1 at hu1 hat1 hct1 hdp1 ⊢;generalize a.P=P1 at hkv1 hs1 ⊢;refine .fact (Gi (.s (.p hkv1))) fun⟨a1,c1,(e1:kv1=_)⟩=>?_;subst e1;have hkvl:((ups1.map kK).map Gs).length=ups1.length:=by rw[Zc,Zc]
 have hall3:((ups1.map kK).map Gs).length=(ups1.map kK).length:=Zc ..;obtain⟨w1,hw1⟩:=hat1.w;have hn1:τ1.σ.n=τ1.α.n:=by rw[hat1.n,hw1];exact hnn
 have hbk1:τ1.α.back≤1000000:=by rw[hat1.bk];exact hbk
 have hT1:=hs1 _ (hQ0▸hT);by_cases h1l:1<ups1.length
 ·refine .seq (.seq (.region (.pu .mv (.lk .ln ?_))));refine .pu .cy (.nil ?_);refine .yes rfl (.skip ?_);by_cases hf:τ1.α.free≤0
  ·refine .block (.seq (.region (.pu .mv (.pu .nc (.pu .fa (.ld ?_))))));refine .call (Sp.up (.s (.s .z)) (fun L=>w9 L _ _ _ hbk1 hT1 hf)) ?_;rintro _ L P ⟨rfl,rfl,rfl⟩;refine .pu .mv (.pu .ex (.pu .ex (.pu .as (.pu .as (.nil (.seq (.seq (.region (.pu .mv (.pu .cmp (.nil ?_)))))))))));refine .yes rfl (.seq (.region (.pu .mv (.pu .as (.nil (.ret ?_))))));refine⟨_,.tmp rfl .nil,_,_,.refl _ _,τ1,⟨fun A hA=>hs1 _ (hQ0▸hA),.inl ⟨rfl,hat1.wob,?_⟩⟩,rfl⟩;have:=hat1.fr;rw[if_pos h1l]at hκ1;omega
  ·refine .block (.seq (.region (.pu .mv (.pu .nc (.pu .fa (.ld ?_))))));refine .call (Sp.at [_,_] _ (fun L=>xb L _ _ _ hbk1 hT1 (by omega))) ?_;rintro _ _ _ ⟨b,⟨rfl,hbn,hbu,hbo,rfl⟩,rfl⟩;refine .pu .mv (.pu .ex (.pu .ex (.pu .as (.pu .as (.nil (.seq (.seq (.region (.pu .mv (.pu .cmp (.nil ?_)))))))))));refine .no rfl (.skip (.seq (.region (.pu (.bd (vs:=[_,_,_,_])) ?_))));refine .nw (cs:=[.bool false,.slice none 0 0,.slice none 0 0,.slice none 0 0]) fun b7=>?_;refine .st (vs:=[_,_,_,_]) ?_;refine .nil (.seq (.seq (.region (.pu .mv (.lk .ln ?_)))));refine .pu .mv (.nil ?_);refine .block (W.loop (fun a:RpS=>a.j≤(ups1.map kK).length) (fun a=>(ups1.map kK).length-a.j) (fun a=>[(30,.int .i64 (a.j:Nat)),(29,.int .i64 (((ups1.map kK).map Gs).length:Nat)),(28,.slice a1 ((ups1.map kK).map Gs).length c1),(7,pp0 b7),(0,.pointer (some ⟨t,0,none⟩)),(5,.int .i64 (b:Nat))]) (fun a=>Ow 1 a.kv ((((ups1.map kK).take a.j).tail.map (·.2)).map encS)::Ow 1 a.iv ((((ups1.map kK).take a.j).map (·.1)).map encI)::Pt b7 [.bool false,.slice none 0 0,a.kv,a.iv] (tz 0 131)::(trL t {τ1 with α:= {τ1.α with us:=Gp τ1.α.us b}}++L)) (fun _=>_) ⟨0,.slice none 0 0,.slice none 0 0⟩ (Zj _) ⟨rfl,rfl,rfl,rfl,rfl,rfl,trivial⟩ (Ent.none.trans Ent.none) (fun a ha=>?_))
   generalize a.j=j at ha ⊢;generalize a.kv=kv5 at ⊢;generalize a.iv=iv5 at ⊢;by_cases hlj:j<(ups1.map kK).length
   ·refine .seq (.region ?_);have hlj2:j<((ups1.map kK).map Gs).length:=by omega
    have hj10:j≤10:=by rw[Zc]at hlj;omega
    refine .pu .cy (.nil (.seq (.yes rfl (.skip (.seq (.block (.seq (.region (.pu .mv ?_)))))))));have hgj:((ups1.map kK).map Gs)[((j:Nat):Int).toNat]? =some [.int .i64 ((ups1.map kK)[j].1:Nat),S (ups1.map kK)[j].2]:=by
     rw[Yp,Zy,Zn hlj];rfl
    refine .lk (.ia (k:=2) (es:=(ups1.map kK).map Gs) (hn:=⟨by omega,by omega⟩)) ?_;refine .la hgj ?_;refine .nw (cs:=[.int .i64 0,S []]) fun b9=>?_;refine .pu .as (.st (vs:=[_,_]) ?_);refine .nil ?_;by_cases hj0:0<j
    ·refine .seq (.seq (.region (.pu .mv (.pu .cy (.nil ?_)))));refine .yes rfl (.region (.pu .fa (.ld ?_)));refine .pu .fa (.ld ?_);refine .bl (k:=1) (es:=[[_]]) fun v41=>?_;refine .ap (fun v42=>?_) (hr:=.s (.s .z)) (hw:=.o .l0) (hn:=by rw[Zc,Zc,V9,Zq];show(min j _-1+1)*16≤_;omega) (ho:=fun f hf=>by rcases Z6.1 hf with rfl;rfl)
     refine .fact (Hr .l0) fun⟨a42,c42,e42⟩=>?_;subst e42;refine .pu .fa (.st (vs:=[_]) ?_);refine .nil (.region (.pu .fa (.ld ?_)));refine .pu .fa (.ld ?_);refine .bl (k:=1) (es:=[[_]]) fun v48=>?_;refine .ap (fun v49=>?_) (hr:=.s (.s (.s (.s .z)))) (hw:=.o .l0) (hn:=by rw[Zc,Zc,Zq];show(min j _+1)*8≤_;omega) (ho:=fun f hf=>by rcases Z6.1 hf with rfl;rfl)
     refine .fact (Hr .l0) fun⟨a49,c49,e49⟩=>?_;subst e49;refine .pu .fa (.st (vs:=[_]) ?_);refine .nil (.region (.pu .add (.pu .mv (.nil ?_))));refine⟨⟨j+1,.slice a42 (Y3 encS (Y3 (fun x:Nat×Bs=>x.2) (Ur j (ups1.map kK)).tail)++[[S (ups1.map kK)[j].2]]).length c42,.slice a49 (Y3 encI (Y3 (fun x:Nat×Bs=>x.1) (Ur j (ups1.map kK)))++[[Value.int .i64 ((ups1.map kK)[j].1:Nat)]]).length c49⟩,hlj,by show(ups1.map kK).length-(j+1)<(ups1.map kK).length-j;omega,⟨rfl,rfl,rfl,rfl,rfl,rfl,trivial⟩,?_⟩;show Ent _ _ (Ow 1 _ ((((ups1.map kK).take (j+1)).tail.map (·.2)).map encS)::Ow 1 _ ((((ups1.map kK).take (j+1)).map (·.1)).map encI)::_) _;rw[Xb hlj,Zqh (fun e=>by
      have:=congrArg Yi e;rw[Zq,Zo]at this;omega)]
     simp only[Zp,Zr,Vd];exact(Ent.dropAt [_] _ _).trans ((Ent.dropAt [_,_] _ _).trans ((Ent.dropAt [_,_] _ _).trans Ent.swap))
    ·refine .seq (.seq (.region (.pu .mv (.pu .cn (.nil ?_)))));refine .no rfl (.skip (.region (.pu .fa (.ld ?_))));refine .pu .fa (.ld ?_);refine .bl (k:=1) (es:=[[_]]) fun v48=>?_;refine .ap (fun v49=>?_) (hr:=.s (.s (.s .z))) (hw:=.o .l0) (hn:=by rw[Zc,Zc,Zq];show(min j _+1)*8≤_;omega) (ho:=fun f hf=>by rcases Z6.1 hf with rfl;rfl)
     refine .fact (Hr .l0) fun⟨a49,c49,e49⟩=>?_;subst e49;refine .pu .fa (.st (vs:=[_]) ?_);refine .nil (.region (.pu .add (.pu .mv (.nil ?_))));refine⟨⟨j+1,kv5,.slice a49 (Y3 encI (Y3 (fun x:Nat×Bs=>x.1) (Ur j (ups1.map kK)))++[[Value.int .i64 ((ups1.map kK)[j].1:Nat)]]).length c49⟩,hlj,by show(ups1.map kK).length-(j+1)<(ups1.map kK).length-j;omega,⟨rfl,rfl,rfl,rfl,rfl,rfl,trivial⟩,?_⟩;have hj1:j=0:=by omega
     show Ent _ _ (Ow 1 _ ((((ups1.map kK).take (j+1)).tail.map (·.2)).map encS)::Ow 1 _ ((((ups1.map kK).take (j+1)).map (·.1)).map encI)::_) _;rw[Xb hlj];subst hj1;simp only[J3,Xj,Vv,Zqi,Zp,Zr,Vd];exact(Ent.dropAt [_] _ _).trans ((Ent.dropAt [_] _ _).trans Ent.swap)
   ·refine .seq (.region ?_);have hlj2:¬j<((ups1.map kK).map Gs).length:=by omega
    refine .pu .cn (.nil (.seq (.no rfl (.exit (.seq (.seq (.region ?_)))))));have e:(ups1.map kK).take j=ups1.map kK:=Z8 (by omega);rw[e];refine .fact (Hr .l0) fun⟨ax,cx,(ex:kv5=_)⟩=>?_;refine .fact (Hr .l1) fun⟨ay,cy,(ey:iv5=_)⟩=>?_;subst ex ey;refine .ent (Ent.sl.trans (Ent.sl.trans (Ent.sl0 (k:=2) (c:=0)))) ?_;have hpgb:∀c∈ups1,1≤c.page∧c.page≤65535:=fun c hc=>(hat1.page hu0 hg0 (Yb.2 ⟨c,hc,(hu1.sub c hc).head⟩)).2.2;have hne1:ups1≠[]:=fun e=>by rw[e]at h1l;cases h1l
    have hnok:(Gh (ups1.map kK)).ok=true:=VQ hne1 (by omega) hu1.sep (fun c hc=>(hu1.sub c hc).ne) hu1.key hpgb;have hnd:=fun P=>Zgt (ks:=ups1.map kK) (kv:=.slice ax (((ups1.map kK).tail.map (·.2)).map encS).length cx) (iv:=.slice ay (((ups1.map kK).map (·.1)).map encI).length cy) (P:=P);have hat2:=hat1.take hbn hbu hbo;have hbu2:mem (Gp τ1.α.us b) b=true:=(hat2.us b).2 (.inr (by simp));refine .pu .mv (.pu .mv (.lda (vs:=[_,_,_,_]) ?_));refine .call (Sp.tr [_] _ (fun L=>xc L _ t {τ1 with α:= {τ1.α with us:=Gp τ1.α.us b}} b _ (Gh (ups1.map kK)) (hnd _) ⟨hnok,Nd.ok_sm hnok,fun e=>(by cases e),(Nd.ok_w hnok).1,(Nd.ok_w hnok).2⟩ (Ye (RB hl1 hu1.key) (by decide)) (.tail _ (.tail _ (.tail _ hT1))) hbo hbk1 hn1 hbu2)) ?_;rintro _ _ _ ⟨τ3,hwo,rfl⟩
    obtain⟨kv6,e6,rfl⟩:=hwo.shape;have hs6:=hwo.1;refine .pu .mv (.pu .ex (.pu .ex (.pu .as (.pu .as (.nil ?_)))));by_cases he6:e6=0
    ·refine .seq (.region (.pu .mv (.pu .cn (.nil ?_))));refine .no rfl (.skip (.region ?_));subst he6;obtain⟨ups6,hl6,hgl6,hu6,hat6,hkv6⟩:=Zgs hu1 (fun _ hh=>hu1.tl hh) hl1 hat1 hbn hbu hbo hnok hwo;obtain⟨hr6,hc6,hd6,_⟩:=hwo.fine;have hd7:τ3.depth=((h1+1:Nat):Int):=hd6.trans hdp1;rw[if_pos h1l]at hκ1 hh1 hnb1;refine .pu .mv (.pu .nc (.pu .fa (.ld ?_)));refine .pu .add (.pu .nc (.pu .fa (.st (vs:=[_]) ?_)));refine .nil ?_;refine⟨⟨h1+1,ups6,kv6,κ1+1,{τ3 with depth:=τ3.depth+1},_⟩,⟨hu6,by show ups6.length≤3;omega,hat6.dp,hkv6,fun A hA=>hs6 _ (.tail _ (.tail _ (.tail _ (hs1 _ hA)))),hc6.trans hct1,by show τ3.depth+1=_;rw[hd7];rfl,by show κ1+1≤(if 1<ups6.length then κ else κ+1);rw[if_neg (by omega)];omega,by show h1+1+(if 1<ups6.length then 1 else 0)≤B;rw[if_neg (by omega)];omega,fun w=>by show N+(if 1<ups6.length then 0 else 1)≤(ups6.flatMap (·.gs)).length;rw[if_neg (by omega),hgl6];have:=hnb1 w;omega⟩,by show ups6.length<ups1.length;omega,⟨rfl,rfl,trivial⟩,Ent.drop⟩
    ·refine .seq (.region (.pu .mv (.pu .cy (.nil ?_))));refine .yes rfl (.seq (.region (.pu .mv (.pu .as (.nil (.ret ?_))))));refine⟨_,.tmp rfl .nil,_,_,.drop,τ3,⟨fun A hA=>hs6 _ (.tail _ (.tail _ (.tail _ (hs1 _ (hQ0▸hA))))),.inl ⟨?_,?_,?_⟩⟩,rfl⟩
     all_goals obtain⟨g1,g2,g3⟩:=hwo.err he6
     ·rw[g1];rfl
     ·exact hat2.wob.trans g2
     ·have:=hat2.fr;rw[if_pos h1l]at hκ1;have g3:({τ1.α with us:=Gp τ1.α.us b}:AS0).free<2:=g3
      have:τ0.α.free≤({τ1.α with us:=Gp τ1.α.us b}:AS0).free+((κ1+1:Nat):Int):=hat2.fr
      omega
 ·refine .seq (.seq (.region (.pu .mv (.lk .ln ?_))));refine .pu .cn (.nil ?_);refine .no rfl (.exit (.seq (.region (.pu .mv (.pu .nc (.pu .fa (.st (vs:=[_]) ?_)))))));refine .nil ?_;by_cases hk0:ups1=[]
  ·refine .seq (.seq (.region (.pu .mv (.lk .ln ?_))));have hl0:ups1.length=0:=by rw[hk0];rfl
   refine .pu .cy (.nil ?_);refine .yes rfl (.seq (.region (.pu .mv (.pu .nc (.pu .fa (.st (vs:=[_]) ?_))))));refine .nil (.seq (.region (.pu .as (.nil (.ret ?_)))));refine⟨_,.tmp rfl .nil,_,_,.refl _ _,{τ1 with root:=0,depth:=0},⟨fun A hA=>hs1 _ (hQ0▸hA),.inr ⟨rfl,[],0,?_,rfl,?_,hct1,.inl (by omega)⟩⟩,rfl⟩
   ·have:=hu1.ps;subst hk0;rw[←this];exact .none
   ·subst hk0;rw[if_neg h1l]at hκ1;exact((hat1.more hκ1).rt (x:=0)).dp (x:=0)
  ·refine .seq (.seq (.region (.pu .mv (.lk .ln ?_))));have hl0:ups1.length=1:=by have:=J5.2 hk0;omega
   refine .pu .cn (.nil ?_);refine .no rfl (.skip (.seq (.region (.pu .mv (.pu .mv ?_)))));obtain⟨k0,rfl⟩:=List.length_eq_one_iff.1 hl0;have hk0s:=hu1.sub k0 (by simp);have hps0:k0.ps=ps:=by simpa using hu1.ps
   have hsb0:Sub T τ1.pg h1 k0.page ps k0.gs:=hps0▸hk0s;have hgk0:(([k0].map kK).map Gs)[(0:Int).toNat]? =some [.int .i64 (k0.page:Nat),S k0.key]:=rfl;refine .lk (.ia (k:=2) (es:=([k0].map kK).map Gs) (hn:=⟨by omega,by rw[hkvl];omega⟩)) ?_;refine .pu .fa (.lf (k:=2) (i:=0) (j:=0) (v:=.slice a1 (([k0].map kK).map Gs).length c1) hgk0 ?_);refine .pu .nc (.pu .fa (.st (vs:=[_]) ?_));refine .nil ?_;refine .block (W.loop (fun a:DnS=>a.Ok T B N Wd τ0 g0 κ τ.count ps Q0) (fun a=>a.h) (fun a=>[(0,.pointer (some ⟨t,0,none⟩))]) (fun a=>trL t a.τ++L) (fun a=>a.P) ⟨h1,k0.gs,{τ1 with root:=k0.page},_⟩ ⟨hsb0,(((by simpa using hat1:At τ0 g0 k0.gs κ1 τ1).more (by rw[if_neg h1l]at hκ1;exact hκ1)).rt),hs1,hct1,hdp1,by show h1≤B;omega,fun w _=>by show N+1≤k0.gs.length;have:=hnb1 w;rw[if_neg h1l]at this;simpa using this⟩ ⟨rfl,trivial⟩ (.refl _ _) (fun a ha=>?_))
   obtain⟨hsb,hat4,hs4,hct4,hdp4,hh4,hnb4⟩:=ha;generalize a.h=h4 at hsb hdp4 hh4 hnb4 ⊢;generalize a.gs=gs4 at hsb hat4 hnb4 ⊢;generalize a.τ=τ4 at hsb hat4 hct4 hdp4 ⊢;generalize a.P=P4 at hs4 ⊢;obtain⟨n4,hpn4,hpo4,hin4⟩:=hsb.node;have hroot:=hat4.page hu0 hg0 hsb.head;obtain⟨w4,hw4⟩:=hat4.w;have hn4:τ4.σ.n=τ4.α.n:=by rw[hat4.n,hw4];exact hnn
   refine .block (.seq (.region (.pu .mv (.pu .mv (.pu .nc (.pu .fa (.ld ?_)))))));refine .call (w8 _ _ _ _ _ n4 (by omega) hpn4 hpo4) ?_;rintro _ _ _ ⟨v4,rfl,hv4,rfl,hs5⟩;have hv40:=hv4;obtain⟨qv,rv,sv,rfl,hqv,hrv,hsv⟩:=hv4.ex;refine .fact (Gi (.s (.p hqv))) fun⟨b1,d1,f1⟩=>?_;refine .fact (Gi (.s (.p hrv))) fun⟨b2,d2,f2⟩=>?_;refine .fact (Gi (.s (.p hsv))) fun⟨b3,d3,f3⟩=>?_;subst f1 f2 f3;refine .pu .mv (.pu .ex (.pu .ex ?_));refine .nw (cs:=[.bool false,.slice none 0 0,.slice none 0 0,.slice none 0 0]) fun b10=>?_;refine .st (vs:=[_,_,_,_]) ?_;refine .pu .as (.nil (.seq (.seq (.region (.pu .mv (.pu .cmp (.pu .mv (.on (.pu .fa (.on (.ld ?_)))))))))));refine .pu .pk (.pu .mv ?_);refine .or 100 4 (decide (((n4.kids.map encI).length:Int)>1)) (fun hq=>?_) ?_
   ·refine .on (.pu .fa (.on (.ld ?_)));refine .on (.lk .ln ?_);refine .on (.pu .cmp ?_);exact .fin rfl
   refine .nil ?_;refine .ite rfl (fun ht105=>?_) (fun ht105=>?_)
   ·refine .seq (.region (.pu .mv (.pu .as (.nil (.ret ?_)))));refine⟨_,.tmp rfl .nil,_,_,.drop,τ4,⟨fun A hA=>hs5 _ (hs4 _ (hQ0▸hA)),.inr ⟨rfl,gs4,h4+1,.some (by omega) hsb,hdp4,hat4,hct4,?_⟩⟩,rfl⟩;subst hW hN;by_cases hw:1<ups.length
    ·rw[if_pos hw]at hB;rcases Zt h4 B with hlt|hge
     ·exact .inl (by omega)
     ·exact .inr ⟨by omega,hw,hnb4 hw (by omega)⟩
    ·rw[if_neg hw]at hB;exact .inl (by omega)
   refine .skip ?_;refine .seq (.seq (.drawn fun _=>?_));obtain⟨hlf4,hkk4⟩:n4.leaf=false∧n4.kids.length≤1:=by
    rw[Bool.or_eq_false_iff,decide_eq_false_iff_not,Zc]at ht105;exact⟨ht105.1,by omega⟩
   obtain⟨h5,ks5,rfl,rfl,hsub5,hps5,hgs5⟩:=hin4 hlf4;have hne5:=(D4 hpo4).1;have hkl5:ks5.length≤1:=by
    have:((ks5.map kK).map (·.1)).length≤1:=hkk4;simpa using this
   obtain⟨c5,rfl⟩:∃c5,ks5=[c5]:=by
    rcases ks5 with _|⟨c5,_|⟨d5,r5⟩⟩
    ·exact absurd rfl hne5
    ·exact⟨c5,rfl⟩
    ·simp at hkl5
   have hgc5:((Gh ([c5].map kK)).kids.map encI)[(0:Int).toNat]? =some [.int .i64 (c5.page:Nat)]:=rfl;have hat5:At τ0 g0 ([]++τ4.root::c5.gs) (κ+1) τ4:=by rw[hgs5]at hat4;simpa using hat4
   refine .pu .mv (.pu .nc (.pu .fa (.lo 0 0 .ld .mk ?_)));refine .pu .mv (.pu .nc (.pu .fa (.lo 0 0 .ld .mk ?_)));refine .call (Sp.up (.s (.s (.s .z))) (fun L=>jz L _ _ _ _ hroot.1)) ?_;rintro _ L P ⟨rfl,rfl,rfl⟩;refine .pu .as (.nil (.cons (.yes .mk (.skip .nil)) (.cons (.yes .mk (.skip .nil)) .nil)) (.seq (.region (.pu .mv (.pu .cmp (.nil ?_))))));refine .no rfl (.skip (.seq (.region (.pu .mv (.pu .fa (.ld ?_))))));refine .lk (.ia (k:=1) (es:=(Gh ([c5].map kK)).kids.map encI) (hn:=⟨by omega,by show(0:Int)<1;omega⟩)) ?_;refine .le hgc5 ?_;refine .pu .nc (.pu .fa (.st (vs:=[_]) ?_));refine .nil (.region (.pu .mv (.pu .nc (.pu .fa (.ld ?_)))));refine .pu .sub (.pu .nc (.pu .fa (.st (vs:=[_]) ?_)));refine .nil ?_;refine⟨⟨h5,c5.gs,{τ4 with α:=τ4.α.give τ4.root,root:=c5.page,depth:=τ4.depth-1},_⟩,⟨?_,hat5.give.2.rt.dp,fun A hA=>hs5 _ (hs4 _ hA),hct4,?_,by show h5≤B;omega,fun _ (e:h5=B)=>absurd e (by omega)⟩,U6 _,⟨rfl,trivial⟩,Ent.drop⟩
   ·have e5:ps=c5.ps:=by rw[hps5];simp
    rw[e5];exact hsub5 c5 (by simp)
   ·show τ4.depth-1=((h5+1:Nat):Int);rw[hdp4];omega
theorem Sp.atN{E:Env}{β:Type}{f:FuncId}{args:List Value}{A:Asn}{P:List Asn}{N:β→Asn}{R:Value→β→List Asn→Prop}(L1 L2:List Asn)(h:∀L,Sp E f args (A::L) P (fun r L' P'=>∃y,R r y P'∧L'=N y::A::L)):Sp E f args (L1++A::L2) P (fun r L' P'=>∃y,R r y P'∧L'=N y::(L1++A::L2)):=
 Sp.ent (.perm (Nx L1 L2 A)) ((h (L1++L2)).post (fun v L' P' ⟨y,h1,h2⟩=>⟨N y::(L1++A::L2),P',by rw[h2];exact .perm ((Nx L1 L2 A).symm.cons _),y,h1,rfl⟩))
theorem xm(p:Nat)(a:AS0):Sp SET 192 [.pointer (some ⟨p,0,none⟩)] (Alc p a::L) P (fun r L' P'=>∃p',(r=.pointer (some ⟨p',0,none⟩)∧P'=P)∧L'=Alc p' a::Alc p a::L):=
 (Zfn L P p a).post (fun v L' P' ⟨p',e0,e1,e2⟩=>⟨_,_,.refl _ _,p',⟨e0,e2⟩,e1⟩)
def PgM(m p:Nat)(w:List (Int×Bs))(turn:Int):Asn:=Bx (fun _:Nat=>True) (fun b=>mkL m p w turn b)
theorem Zgv(p:Nat)(σ:PSt):Sp SET 193 [.pointer (some ⟨p,0,none⟩)] (PgS p σ::L) P (fun r L' P'=>∃m,(r=.pointer (some ⟨m,0,none⟩)∧P'=P)∧L'=PgM m p σ.w σ.turn::PgS p σ::L):=
 Sp.open fun b _=>(Zcz L P p σ b).post (fun v L' P' ⟨m,b',e0,e1,e2⟩=>by
  subst e1 e2;exact⟨_,_,(Ent.close b' trivial).trans (Ent.under (Ent.close b trivial) rfl),m,⟨e0,rfl⟩,rfl⟩)
theorem Zgw(p m:Nat)(σ:PSt)(w:List (Int×Bs)):Sp SET 194 [.pointer (some ⟨p,0,none⟩),.pointer (some ⟨m,0,none⟩)] (PgS p σ::PgM m p w σ.turn::L) P (fun r L' P'=>r=.int .i64 0∧L'=PgS p {σ with w:=w}::PgM m p w σ.turn::L∧P'=P):=
 Sp.open fun b _=>Sp.ent (Ent.pull (pgL p σ b) [_] L) (Sp.open fun bm _=>Sp.ent (Ent.pull (mkL m p w σ.turn bm) (pgL p σ b) L) ((Zc1 L P p m σ b w bm).post (fun v L' P' ⟨b',e0,e1,e2⟩=>by
  subst e1 e2;exact⟨_,_,(Ent.close (b.1,b') trivial).trans (Ent.under (Ent.close bm trivial) rfl),e0,rfl,rfl⟩)))
theorem Zgx(A B C D:Asn){R:List Asn}:(A::B::C::D::R).Perm (D::A::B::C::R):=List.perm_middle (l₁:=[A,B,C])
def tmL(m t:Nat)(τ:Tr)(x:Nat×Nat):List Asn:=[Pt m [.pointer (some ⟨τ.s,0,none⟩),.pointer (some ⟨x.1,0,none⟩),.int .i64 (τ.root:Nat),.int .i64 τ.count,.int .i64 τ.depth,.pointer (some ⟨t,0,none⟩),.pointer (some ⟨x.2,0,none⟩)] (tz 0 277),PgM x.2 τ.s τ.σ.w τ.σ.turn,Alc x.1 τ.α]
theorem RF(t:Nat)(τ:Tr):Sp SET 138 [.pointer (some ⟨t,0,none⟩)] (trL t τ++L) P (fun r L' P'=>∃m x,(r=.pointer (some ⟨m,0,none⟩)∧P'=P)∧L'=tmL m t τ x++(trL t τ++L)):=by
 refine .bo (fn:=Tryz.f138) (N:=23) ?_;refine .seq (.region (.pu .as (.nil (.seq (.seq (.region (.pu .mv (.pu .peq (.nil ?_)))))))));refine .no rfl (.skip (.seq (.region (.pu .mv (.pu .nc (.lda (vs:=[_,_,_,_,_]) ?_))))));refine .nw (cs:=[.pointer none,.pointer none,.int .i64 0,.int .i64 0,.int .i64 0]) fun b3=>?_;refine .st (vs:=[_,_,_,_,_]) ?_;refine .nil (.seq (.region (.pu .mv (.pu .nc (.pu .fa (.ld ?_))))));refine .call (Sp.atN [_,_,_] _ (fun L=>xm L _ _ _)) ?_;rintro _ _ _ ⟨a',⟨rfl,rfl⟩,rfl⟩;refine .pu .fa (.st (vs:=[_]) ?_);refine .nil ?_;refine .seq (.drawn fun _=>?_);refine .lo 0 1 .ld .mk ?_;refine .pu .mv (.pu .mv (.pu .nc (.pu .fa (.lo 0 0 .ld .mk ?_))));refine .call (Sp.atN [_,_,_] _ (fun L=>Zgv L _ _ _)) ?_;rintro _ _ _ ⟨pm,⟨rfl,rfl⟩,rfl⟩;refine .pu (.bd (vs:=[_,_,_,_,_,_,_])) ?_;refine .bx (cs:=[_,_,_,_,_,_,_]) (hlt:=by show∀x∈([]:Hj),_;simp) fun b23=>?_
 refine .pu .as (.nil (.cons (.yes .mk (.skip .nil)) (.cons (.yes .mk (.yes .mk .nil)) .nil)) (.ret ?_));exact⟨_,.tmp rfl .nil,_,_,(Ent.trans (.perm (Zgx _ _ _ _)) Ent.drop),b23,(a',pm),⟨rfl,rfl⟩,rfl⟩
theorem Zgy(p m:Nat)(σ:PSt)(w:List (Int×Bs)):Sp SET 194 [.pointer (some ⟨p,0,none⟩),.pointer (some ⟨m,0,none⟩)] (PgS p σ::PgM m p w σ.turn::L) P (fun r L' P'=>∃_:Unit,(r=.int .i64 0∧P'=P)∧L'=PgS p {σ with w:=w}::PgM m p w σ.turn::L):=
 (Zgw L P p m σ w).post (fun v L' P' ⟨e0,e1,e2⟩=>⟨_,_,.refl _ _,(),⟨e0,e2⟩,e1⟩)
theorem RQ(t m:Nat)(τ:Tr)(x:Nat×Nat)(a2:Nat)(w2:List (Int×Bs))(α2:AS0)(root2:Nat)(count2 depth2:Int):Sp SET 141 [.pointer (some ⟨t,0,none⟩),.pointer (some ⟨m,0,none⟩)] (trL t ⟨τ.s,a2,{τ.σ with w:=w2},α2,root2,count2,depth2⟩++(tmL m t τ x++L)) P (fun r L' P'=>∃a',(r=.int .i64 0∧P'=P)∧L'=trL t {τ with a:=a'}++(tmL m t τ x++L)):=by
 refine .bo (fn:=Tryz.f141) (N:=46) ?_;refine .seq (.region (.pu .as (.nil (.seq (.seq (.region (.pu .mv (.pu .peq (.pu .mv (.on (.pu .mv (.on (.pu .peq (.pu .pk (.pu .mv (.on (.pu .mv (.on (.pu .nc (.on (.pu .fa (.on (.ld ?_)))))))))))))))))))))));refine .on (.pu .mv (.on (.pu .pdiff (.pu .pk (.nil ?_)))));refine .no rfl (.skip ?_);refine .seq (.seq (.drawn fun _=>?_));refine .pu .mv (.pu .nc (.pu .fa (.lo 0 0 .ld .mk ?_)));refine .pu .mv (.pu .nc (.pu .fa (.lo 0 0 .ld .mk ?_)));refine .call (Sp.at2 (A':=PgM x.2 τ.s τ.σ.w τ.σ.turn) [_] [_,_] _ (fun L=>Zgy L _ _ _ {τ.σ with w:=w2} τ.σ.w)) ?_;rintro _ _ _ ⟨_,⟨rfl,rfl⟩,rfl⟩
 refine .pu .as (.nil (.cons (.yes .mk (.skip .nil)) (.cons (.yes .mk (.skip .nil)) .nil)) (.seq (.region (.pu .mv (.pu .cmp (.nil ?_))))));refine .no rfl (.skip (.seq (.region (.pu .mv (.pu .mv (.pu .nc (.pu .fa (.lda (vs:=[_,_,_,_,_]) ?_))))))));refine .pu .nc (.st (vs:=[_,_,_,_,_]) ?_);refine .nil (.seq (.region (.pu .mv (.pu .mv (.pu .nc (.pu .fa (.pu .fa (.ld ?_))))))));refine .call (Sp.atN [_,_,_,_,_] _ (fun L=>xm L _ _ _)) ?_;rintro _ _ _ ⟨a',⟨rfl,rfl⟩,rfl⟩;refine .pu .nc (.pu .fa (.st (vs:=[_]) ?_));refine .nil (.seq (.region (.pu .as (.nil (.ret ?_)))));exact⟨_,.tmp rfl .nil,_,_,(Ent.trans (Ent.dropAt [_,_,_] _ _) (.perm (Nx [_,_] _ _).symm)),a',⟨rfl,rfl⟩,rfl⟩
end Go.Cis
