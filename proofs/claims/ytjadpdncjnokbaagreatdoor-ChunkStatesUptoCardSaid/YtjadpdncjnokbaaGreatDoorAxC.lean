/- The abstract machine's operations and the model's, part 9: builtins. -/
import Derived.Test.YtjadpdncjnokbaaGreatDoorAxA
import Derived.Deep.AppendSrc
import Derived.Below
import Derived.RangeFuncIn
import Derived.RangeFuncRecord
import Derived.RangeFuncLeaves
import Derived.Laws.Externs
import Derived.Lib.Overlaps
import Derived.Lib.Bytealg
import Derived.Laws.IdiomCopy
set_option linter.all false
open Nat renaming beq→Za,ble→Zb,le_refl→Ze,blt→Zh,zero_add→Zw,lt_or_ge→Zt,add_zero→Yg,blt_eq→Yj,add_assoc→Ya,sub_zero→Yl,beq_eq→X0,min→Y4,le_trans→Ye,le_of_eq→Xo,lt_of_lt_of_le→Yu,add_comm→Vi,add_mul→Yv,ble_eq→Vh,strongRecOn→Ki,xor→Xw,zero_mul→Xh,mul_le_mul_right→Yo,beq_refl→Yy,sub_self→Xs,ble_eq_true_of_le→Z0,mod_two_eq_zero_or_one→Jh,le_of_ble_eq_true→Yr,testBit_or→Jp,lt_trichotomy→Kk,eq_of_beq_eq_true→Zv
open Bool renaming and_eq_true→Zi,or_eq_true→Yq,not_eq_true'→Xd,cond_eq_ite→Zor,not_true→Vx,false_or→Vb,true_and→X4,false_eq_true→Vp
open Array renaming getD_eq_getD_getElem?→Xg,length_toList→Y6,getElem?_eq_getElem→Y5,ext'→Yt,getElem?_setIfInBounds→Xy,getElem?_toList→Yx,mem_toList_iff→Jo,replicate→Kg,range→Vr,size_append→Zoq,getElem?_append_left→Jl,toList_inj→Ke,all_toList→Zov,getElem?_eq_some_iff→X5
open List renaming getElem?_cons_zero→Y7,range→Xn,getElem?_cons_succ→Y9,getElem?_eq_getElem→Zn,getElem?_eq_some_iff→Yc,length_append→Zd,eq_nil_of_length_eq_zero→Vg,mem_cons→Zg,mem_filter→Vz,all_eq_true→Xt,getElem?_map→Zy,append_assoc→Zu,mem_range→Js,size_toArray→Ve,nil_append→Xj,getElem?_eq_none→Xr,length_map→Zc,nodup_cons→Yz,map_cons→Zr,pairwise_cons→Yf,getD_eq_getElem?_getD→Jq,length_nil→Zo,getElem?_range→J9,getElem?_append_left→Vt,getElem?_append_right→Vj,length_cons→Zf,length_singleton→Jr,mem_zipIdx_iff_getElem?→Zos,cons_append→Y0,countP_append→Zot,countP→Zou,mem_of_getElem?→Y8,dropWhile_cons→Zox
open Option renaming map_some→Xc,getD_some→U0,join_some→Zow
open Int renaming emod_eq_of_lt→Uh
namespace Go.Ax
open Go
section
variable {E:Env}{i:Io}{s:AS}{w:World}
theorem ZC{P:Program}(hR:Rel i s w){size m:Nat}{y y':Value}(hy:VR i y y')(hm:∀k,Bq y=some k→m≤k){l:List Value}(h:B3 s size m y=some l):
  ∃l':List Value,(Builtin.firstCells size m y').run P w=.ok l'.toArray w∧VRs i l l'∧l.length=m*size:=by
 unfold B3 at h;split at h
 ·cases h;cases hy;have:=hm 0 rfl;obtain rfl:m=0:=by omega
  exact⟨[],rfl,.nil,by simp⟩
 ·rename_i a n c;cases hy with
  | @slice b o q t _ _ p c' hib h1 h2 h3 h4 h5=>
   cases hm0:Za m 0 with
   |true=>
    rw[hm0]at h;cases h;obtain rfl:m=0:=by simpa using hm0
    refine⟨[],?_,.nil,by simp⟩;simp only[Builtin.firstCells,Xh];rfl
   |false=>
    rw[hm0]at h;simp only[cond_false]at h;have hne:m≠0:=fun e=>by subst e;cases hm0
    have hmn:=hm n rfl;obtain rfl:=h4.resolve_right (by omega);exact hR.rdN (P:=P) h hib
 ·rename_i bs;cases h1:Za size 1 with
  |false=>rw[h1]at h;cases h
  |true=>
   have hex:fh m bs.data.toList=(bs.extract 0 m).data.toList:=by rw[m6,extract_toList,List.drop_zero,Yl]
   rw[h1,hex]at h;cases h;cases hy;have hs1:size=1:=by simpa using h1
   refine⟨_,?_,HW (i:=i) _,?_⟩
   ·show Result.ok (Array.map _ _) w=_;congr 1;apply Yt;exact Array.toList_map
   ·rw[hs1];have:=hm _ rfl;have h2:(bs.extract 0 m).size=m:=by rw[ByteArray.size_extract];omega
    rw[Zc,Y6,Nat.mul_one];exact h2
 ·cases h
theorem ZD{y y':Value}(hy:VR i y y'){m:Nat}(h:Bq y=some m)(P:Program)(w:World):(Builtin.lenOf y').run P w=.ok m w:=by
 unfold Bq at h;split at h
 ·cases h;cases hy<;>rfl
 ·cases h;cases hy;rfl
 ·cases h
section
variable {P:Program}{ts:Array TypeId}{t u ty e:TypeId}{d:TypeDesc}
theorem qq(h0:ts[0]? =some t)(h1:ts[1]? =some u)(ht:∀w,(underlying t).run P w=.ok (.slice e) w)(hu:∀w,(underlying u).run P w=.ok d w)(hd:∀k,d≠ .int k)
  {size:Nat} (hs:∀w,(sizeOf e).run P w=.ok size w) {base:Option Addr} {n c m:Nat} {y:Value} (hl:(Builtin.lenOf y).run P w=.ok m w) {l:List Value} (hc:(Builtin.firstCells size m y).run P w=.ok l.toArray w)
  (hroom:n+m≤c) {w':World} (hst:∀a,base=some a→(storeCells (a.add (n*size)) l).run P w=.ok () w') (hnone:base=none→w'=w):
  (Builtin.append_ ts ty #[.slice base n c,y]).run P w=.ok (.slice base (n+m) c) w':=by
 have hz:(match d with|.int _=>true|_=>false)=false:=by
  cases d<;>first|rfl|exact absurd rfl (hd _)
 cases base with
 |none=>
  obtain rfl:=hnone rfl;simp[Builtin.append_,h0,h1,ht,hu,hz,hs,hl,hroom,hc]
 |some a=>
  have:=hst a rfl;simp[Builtin.append_,h0,h1,ht,hu,hz,hs,hl,hroom,hc,this]
theorem MU(h0:ts[0]? =some t)(h1:ts[1]? =some u)(ht:∀w,(underlying t).run P w=.ok (.slice e) w)(hu:∀w,(underlying u).run P w=.ok d w)(hd:∀k,d≠ .int k)
  {size:Nat} (hs:∀w,(sizeOf e).run P w=.ok size w) {info:TypeInfo} (hi:∀w,(typeInfo e).run P w=.ok info w) (hb:info.bytes≠0) {zv:Value} (hz:∀w,(zeroValue e).run P w=.ok zv w)
  {base:Option Addr} {n c m:Nat} {y:Value} (hl:∀w,(Builtin.lenOf y).run P w=.ok m w) {l:List Value} (hc:(Builtin.firstCells size m y).run P w.drew=.ok l.toArray w.drew)
  {olds:List Value} (ho:(Builtin.firstCells size n (.slice base n c)).run P w.drew=.ok olds.toArray w.drew)
  (hroom:c<n+m) (hfit:(n+m)*info.bytes≤140737488355328):
  (Builtin.append_ ts ty #[.slice base n c,y]).run P w=.ok (.slice (some ⟨w.heap.size,0,none⟩) (n+m) (grownCap w (n+m) c e))
   (Hn w.drew (.cells ((olds++l).toArray++Builtin.zeroCells zv.cells (grownCap w (n+m) c e-(n+m))) e (0,0))):=by
 have hzz:(match d with|.int _=>true|_=>false)=false:=by
  cases d<;>first|rfl|exact absurd rfl (hd _)
 have hn:¬(n+m≤c):=by omega
 have h48:¬(281474976710656<Builtin.nextslicecap (n+m) c*info.bytes):=by
  have:=growslice_fits hroom hfit;omega
 simp[Builtin.append_,h0,h1,ht,hu,hzz,hs,hl,hn,hc,hi,hb,hz,h48,Question.forced,ho,newRow,grownCap,run_askRoom];show Hn w.drew _=_;congr 2;apply Yt;simp
end
theorem F8(hR:Rel i s w):Rel i s w.drew∧Fr i s w i s w.drew:=⟨hR.same rfl,Fr.same rfl rfl rfl rfl⟩
theorem MJ(hR:Rel i s w){olds olds' l l':List Value}(ho:VRs i olds olds')(hl:VRs i l l'){need cap size z:Nat}{zv:Array Value}(e:TypeId)(hze:ze z≠0→e+1=ze z)(hlen:(olds++l).length=need*size)
  (hzs:zv.size=size) (hcap:need≤cap) (hz:zs z=size):
  let o:=Obj.cells ((olds'++l').toArray++Builtin.zeroCells zv (cap-need)) e (0,0)
  ∃i',Rel i' (s.rowz z (olds++l)) (Hn w o)∧Fr i s w i' (s.rowz z (olds++l)) (Hn w o)∧VR i' (.slice (some ⟨s.nx,0,none⟩) need (2*need)) (.slice (some ⟨w.heap.size,0,none⟩) need cap):=by
 have hv:=ho.append hl;have hlen':=hv.length;have hsz:((olds'++l').toArray++Builtin.zeroCells zv (cap-need)).size=cap*size:=by
  rw[Zoq,Ve,←hlen',hlen,size_zeroCells,hzs,←Yv];congr 1;omega
 have hle:need*size≤cap*size:=Yo _ hcap;obtain⟨g1,g2,g3⟩:=hR.rowz hv z ((olds'++l').toArray++Builtin.zeroCells zv (cap-need)) e hze (0,0) (.inl rfl) (by rw[hsz,hlen];exact hle)
  (fun k hk=>by rw[Jl (by rw[Ve,←hlen'];exact hk)];simp) (size,cap*size) ⟨hz.symm,Xo hsz.symm⟩
 refine⟨_,g1,g2,.slice (G8 _ _ _) (by omega) (by omega) (by omega) (.inl rfl) (fun _ _=>?_)⟩;rw[B7];simp
theorem Rel.rdC(hR:Rel i s w){b o n q t m z:Nat}{c:T Value}{l:List Value}(hb:s.h.get b=some (.cells c m z))(hr:Go.Ax.rdN s b o n=some l)(hi:i b=some (q,t)){cs:Array Value}{e:TypeId}{fr:Nat×Nat}(hw:w.heap[q]? =some (.cells cs e fr)):
  ∃l':List Value,VRs i l l'∧l.length=n∧∀k,k<n→cs[t+o+k]? =l'[k]? :=by
 unfold Go.Ax.rdN at hr;rw[hb]at hr;simp only at hr;obtain⟨cs0,e0,fr0,h1,h2,h3,h4,h5⟩:=hR.at (P:=default) hb rfl hi;rw[hw]at h1;cases h1;cases hble:Zb (o+n) m with
 |false=>rw[hble]at hr;cases hr
 |true=>
  rw[hble]at hr;have hle:o+n≤m:=by simpa using hble
  obtain⟨hl1,hl2⟩:=T.list_some c n o l hr
  let l':List Value:=(Xn n).map fun k=>cs.getD (t+o+k) undef
  have hcs:∀k,k<n→cs[t+o+k]? =l'[k]? :=by
   intro k hk;simp only[l',Zy,J9 hk,Xc];rw[Xg];have:t+o+k<cs.size:=by omega
   simp[Y5 this]
  refine⟨l',VRs.of_get (by simp[l',hl1]) (fun k v hk=>?_),hl1,hcs⟩;have hkn:k<n:=by
   have:=(Yc.1 hk).1;omega
  have:=hl2 k hkn;rw[hk]at this;obtain⟨v',a,b⟩:=h4 (o+k) v (by omega) this;refine⟨v',?_,b⟩;rw[←hcs k hkn,Ya];exact a
theorem Zad(hR:Rel i s w){b q m z size need cap:Nat}{c:T Value}{z2:Nat}(hb:s.h.get b=some (.cells c m z2)){tt:Nat}(hi:i b=some (q,tt))(hm:m=need*size){zv:Array Value}(hzs:zv.size=size)(hcap:need≤cap)(hz:zs z=size)(e:TypeId)(hze:ze z≠0→e+1=ze z)(P:Program):
  ∃l':List Value,(loadCells ⟨q,tt+0,none⟩ (need*size)).run P w=.ok l'.toArray w∧l'.length=need*size∧
   (let o:=Obj.cells (([]++l').toArray++Builtin.zeroCells zv (cap-need)) e (0,0)
   ∃i',Rel i' (s.new (.cells c (need*size) z)) (Hn w o)∧Fr i s w i' (s.new (.cells c (need*size) z)) (Hn w o)∧VR i' (.slice (some ⟨s.nx,0,none⟩) need (2*need)) (.slice (some ⟨w.heap.size,0,none⟩) need cap)):=by
 obtain⟨cs,e1,fr,h1,h2,h3,h4,h5⟩:=hR.at (P:=P) hb rfl hi;subst hm
 let l':List Value:=(Xn (need*size)).map fun k=>cs.getD (tt+k) undef
 have hcs:∀k,k<need*size→cs[tt+k]? =l'[k]? :=by
  intro k hk;simp only[l',Zy,J9 hk,Xc];rw[Xg];have:tt+k<cs.size:=by omega
  simp[Y5 this]
 have hlen:l'.length=need*size:=by simp[l']
 refine⟨l',?_,hlen,?_⟩
 ·have:=run_loadCells_list (P:=P) (w:=w) ⟨q,tt+0,none⟩ l' (fun j v hj=>by
   have hjn:j<need*size:=by
    have:=(Yc.1 hj).1;omega
   rw[Bu,cell_of h1,Yg,hcs j hjn,hj])
  rw[hlen]at this;exact this
 ·have hsz:(([]++l').toArray++Builtin.zeroCells zv (cap-need)).size=cap*size:=by
   rw[Xj,Zoq,Ve,hlen,size_zeroCells,hzs,←Yv];congr 1;omega
  have hle:need*size≤cap*size:=Yo _ hcap;have hlei:Le i (ext i s.nx (w.heap.size,0) (size,cap*size)):=Nb (hR.fresh s.nx (Ze _)).1;obtain⟨g1,g2⟩:=hR.new (lm:=(size,cap*size)) (o:=.cells c (need*size) z) (x:=.cells (([]++l').toArray++Builtin.zeroCells zv (cap-need)) e (0,0))
   ⟨_,e,(0,0),rfl,by rw[hsz];omega,.inl rfl,fun k v hk hv=>by
    obtain⟨v',a1,a2⟩:=h4 k v hk hv;refine⟨v',?_,a2.mono hlei⟩;rw[Zw,Jl (by rw[Xj,Ve,hlen];exact hk)];rw[hcs k hk]at a1;simpa using a1,fun h=>⟨hze h,fun _=>rfl⟩⟩
   (fun _ _ _ h=>by cases h;exact⟨hz.symm,fun _ _ _ h=>by cases h;exact Xo hsz.symm⟩)
  refine⟨_,g1,g2,.slice (G8 _ _ _) (by omega) (by omega) (by omega) (.inl rfl) (fun _ _=>?_)⟩;rw[B7];simp
theorem Zae{P:Program}{ts:Array TypeId}{t u ty e:TypeId}{kd:IntKind}(h0:ts[0]? =some t)(h1:ts[1]? =some u)(ht:∀w,(underlying t).run P w=.ok (.slice e) w)(hu:∀w,(underlying u).run P w=.ok (.int kd) w)
  {size:Nat} (hs:∀w,(sizeOf e).run P w=.ok size w) (hsz:size≠0) {info:TypeInfo} (hi:∀w,(typeInfo e).run P w=.ok info w) (hb:info.bytes≠0) {zv:Value} (hz:∀w,(zeroValue e).run P w=.ok zv w)
  {m:Nat} (hm:m≠0) (hfit:m*info.bytes≤small) (hms:m≤small) (w:World):
  (Builtin.append_ ts ty #[.slice none 0 0,.int .i64 m]).run P w=.ok (.slice (some ⟨w.heap.size,0,none⟩) m (grownCap w m 0 e))
   (Hn w.drew (.cells (([]++(Builtin.zeroCells zv.cells m).toList).toArray++Builtin.zeroCells zv.cells (grownCap w m 0 e-m)) e (0,0))):=by
 unfold small at hfit hms;have h48:¬(281474976710656<Builtin.nextslicecap m 0*info.bytes):=by
  have:Builtin.nextslicecap m 0=m:=by unfold Builtin.nextslicecap;rw[if_pos (by omega)]
  rw[this];omega
 have hw:IntKind.i64.wrap (m:Int)=(m:Int):=by rw[IntKind.wrap_i64];omega
 have hfit2:¬(281474976710656:Int)<(m:Int)*(info.bytes:Int):=by
  rw[←Int.natCast_mul];omega
 have hneg:¬((m:Int)<0):=by omega
 have hbig:¬IntKind.i64.max<(m:Int):=by
  have:IntKind.i64.max=9223372036854775807:=rfl;omega
 have hlt:¬(m≤0):=by omega
 have hms0:m*size≠0:=Nat.mul_ne_zero hm hsz;simp[Builtin.append_,h0,h1,ht,hu,hs,hi,hb,hz,hw,hfit2,hneg,h48,hm,hsz,hms0,hbig,Question.forced,newRow,grownCap,run_askRoom,Builtin.firstCells,asInt,asIntOf];rw[if_neg (by omega)];rfl
theorem Zaf(hT:Gr E)(t u:TypeId)(ts:Array TypeId)(ty:TypeId){x y x' y':Value}(hR:Rel i s w)(hx:VR i x x')(hy:VR i y y')(h0:ts[0]? =some t)(h1:ts[1]? =some u){v:Value}{s':AS}(h:Cx E s t u x y=some (v,s')):
  Sim E i s w (Builtin.append_ ts ty #[x',y']) v s':=by
 unfold Cx at h;split at h
 ·rename_i ti ui ht hu;split at h
  ·rename_i e kd hdesc hdescu;unfold zt at h;split at h
   ·rename_i j a1 a2 m hj;cases hzero:(Za j.size 0||Za j.bytes 0||Za m 0||Zb 524288 j.size)with
    |true=>rw[hzero]at h;cases h
    |false=>
     rw[hzero]at h;simp only[cond_false]at h;have hjs:j.size≠0:=fun e=>by rw[e]at hzero;cases hzero
     have hjb:j.bytes≠0:=fun e=>by rw[e]at hzero;simp at hzero
     have hjz:j.size<524288:=by
      rcases Zt j.size 524288 with h|h
      ·exact h
      ·rw[Z0 h]at hzero;simp at hzero
     have hm0:m≠0:=fun e=>by rw[e]at hzero;simp at hzero
     cases hsm:(Zb (m*j.bytes) small&&Zb m small)with
     |false=>rw[hsm]at h;cases h
     |true=>
      rw[hsm]at h;cases h;simp only[Zi,Vh]at hsm;have htd:∀w,(underlying t).run E.P w=.ok (.slice e) w:=fun w=>by rw[G0 hT ht,hdesc]
      have hud:∀w,(underlying u).run E.P w=.ok (.int kd) w:=fun w=>by rw[G0 hT hu,hdescu]
      have hs:=Hz hT hj;obtain⟨info,q1,_,q3,q4,zv,q5,q6,qv,_,_,q7⟩:=hT.ty e j hj;have hi:∀w,(typeInfo e).run E.P w=.ok info w:=fun w=>by unfold typeInfo;simp[q1]
      have hz:∀w,(zeroValue e).run E.P w=.ok zv w:=fun w=>by unfold zeroValue typeInfo;simp[q1,q5]
      have hzs:zv.cells.size=j.size:=by rw[←Y6,q6];exact q7
      cases hx with
      |nils hc0=>
       cases hy;have hvz:VRs i (rep m j.zero) (Builtin.zeroCells zv.cells m).toList:=by
        have h1:(Builtin.zeroCells zv.cells m).toList=rep m zv.cells.toList:=Iz m zv.cells;rw[h1,←q6];exact VRs.rep m (qv i).cells
       have hrun:=Zae (ty:=ty) h0 h1 htd hud hs hjs hi (by rw[q4];exact hjb) hz hm0 (by rw[q4];exact hsm.1) hsm.2 w;obtain⟨i',g1,g2,g3⟩:=MJ (F8 hR).1 (olds:=[]) (olds':=[]) .nil hvz (z:=tz j.size e) (zv:=zv.cells) (cap:=grownCap w m 0 e) (need:=m) e (fun _=>(Nz hjz).symm)
        (by rw[Xj,Iy,q7]) hzs (grownCap_ge _ _ _ _) (Na hjz)
       exact⟨_,_,i',hrun,g3,g1,(F8 hR).2.trans g2⟩
   ·cases h
  ·cases h
  ·rename_i e hdesc hnot;split at h
   ·cases h
   ·rename_i j hj;cases hzero:(Za j.size 0||Za j.bytes 0||Zb 524288 j.size)with
    |true=>rw[hzero]at h;cases h
    |false=>
     rw[hzero]at h;simp only[cond_false]at h;have hjs:j.size≠0:=fun e=>by rw[e]at hzero;cases hzero
     have hjb:j.bytes≠0:=fun e=>by rw[e]at hzero;simp at hzero
     have hjz:j.size<524288:=by
      rcases Zt j.size 524288 with h|h
      ·exact h
      ·rw[Z0 h]at hzero;simp at hzero
     split at h
     ·rename_i a n c m hm;split at h
      ·rename_i tsh hsh;cases h;unfold Di at hsh;cases hcond:(Za n 0&&Za (c%2) 1&&Zh (c/2) m&&Zb (m*j.bytes) small)with
       |false=>rw[hcond]at hsh;cases hsh
       |true=>
        rw[hcond,cond_true]at hsh;simp only[Zi,X0,Yj,Vh]at hcond;obtain⟨⟨⟨rfl,hodd⟩,hlt⟩,hsm⟩:=hcond;unfold Ip at hsh;split at hsh
        ·rename_i ad na ca;split at hsh
         ·rename_i c2 m2 z2 hblk;cases hoff:(Za ad.off 0&&Za m2 (m*j.size))with
          |false=>rw[hoff]at hsh;cases hsh
          |true=>
           rw[hoff]at hsh;cases hsh;simp only[Zi,X0]at hoff;obtain⟨ho0,rfl⟩:=hoff;have hmna:na=m:=by
            have:=hm;simp only[Bq,Option.some.injEq]at this;exact this
           subst hmna;have htd:∀w,(underlying t).run E.P w=.ok (.slice e) w:=fun w=>by rw[G0 hT ht,hdesc]
           have hud:∀w,(underlying u).run E.P w=.ok ui.desc w:=G0 hT hu;have hd:∀k,ui.desc≠ .int k:=fun k hk=>hnot k hk;have hs:=Hz hT hj;have hl:=fun w=>ZD hy hm E.P w;obtain⟨info,q1,_,q3,q4,zv,q5,q6,_,_,_,q7⟩:=hT.ty e j hj;have hi:∀w,(typeInfo e).run E.P w=.ok info w:=fun w=>by unfold typeInfo;simp[q1]
           have hz:∀w,(zeroValue e).run E.P w=.ok zv w:=fun w=>by unfold zeroValue typeInfo;simp[q1,q5]
           have hzs:zv.cells.size=j.size:=by rw[←Y6,q6];exact q7
           cases hy with
           | @slice b2 o2 q2 t2 _ _ p2 c2' hib2 y1 y2 y3 y4 y5=>
           simp only at ho0 hblk;subst ho0;obtain rfl:=y4.resolve_right (by omega);have hxs:∃bx cx,x'=.slice bx 0 cx∧cx<0+na:=by
            cases hx with
            |nils hc0=>exact⟨_,_,rfl,by omega⟩
            |slice hib k1 k2 k3 k4 k5=>exact⟨_,_,rfl,by have:=k2 hodd;omega⟩
           obtain⟨bx,cx,rfl,hcx⟩:=hxs;have h0na:(0+na)=na:=Zw _;obtain⟨l',r1,r2,i',g1,g2,g3⟩:=Zad (F8 hR).1 hblk hib2 (need:=na) (size:=j.size) rfl (z:=tz j.size e) (zv:=zv.cells) (cap:=grownCap w (0+na) cx e) hzs (by have:=grownCap_ge w (0+na) cx e;omega) (Na hjz) e (fun _=>(Nz hjz).symm) E.P;have hrun:=MU (w:=w) (ty:=ty) (base:=bx) (olds:=[]) h0 h1 htd hud hd hs hi (by rw[q4];exact hjb) hz hl (l:=l') r1 (by
            cases bx with
            |none=>rfl
            |some bb=>simp[Builtin.firstCells];rfl) hcx (by rw[q4,Zw];unfold small at hsm;omega)
           rw[h0na]at hrun ⊢;rw[h0na]at g1 g2 g3;exact⟨_,_,i',hrun,g3,g1,(F8 hR).2.trans g2⟩
         ·cases hsh
        ·cases hsh
      rename_i hnosh;split at h
      ·cases h
      ·rename_i new hnew;have htd:∀w,(underlying t).run E.P w=.ok (.slice e) w:=fun w=>by rw[G0 hT ht,hdesc]
       have hud:∀w,(underlying u).run E.P w=.ok ui.desc w:=G0 hT hu;have hd:∀k,ui.desc≠ .int k:=fun k hk=>hnot k hk;have hs:=Hz hT hj;have hl:=fun w=>ZD hy hm E.P w;obtain⟨new',hc,hvn,hnl⟩:=ZC (P:=E.P) hR hy (fun k hk=>by rw[hm]at hk;cases hk;exact Ze _) hnew;have hmle:∀k,Bq y=some k→m≤k:=fun k hk=>by rw[hm]at hk;cases hk;exact Ze _
       obtain⟨newD,hcD,hvD,_⟩:=ZC (P:=E.P) (F8 hR).1 hy hmle hnew;obtain⟨info,q1,_,q3,q4,zv,q5,q6,_,_,_,q7⟩:=hT.ty e j hj;have hi:∀w,(typeInfo e).run E.P w=.ok info w:=fun w=>by unfold typeInfo;simp[q1]
       have hz:∀w,(zeroValue e).run E.P w=.ok zv w:=fun w=>by unfold zeroValue typeInfo;simp[q1,q5]
       have hzs:zv.cells.size=j.size:=by rw[←Y6,q6];exact q7
       have hgrow:∀(s1:AS) (z:Nat) (olds olds':List Value) (base:Option Addr) (c':Nat),Rel i s1 w→Fr i s w i s1 w→VRs i olds olds'→olds.length=n*j.size→zs z=j.size→(ze z≠0→e+1=ze z)→c'<n+m→(n+m)*j.bytes≤small→
         (Builtin.firstCells j.size n (.slice base n c')).run E.P w.drew=.ok olds'.toArray w.drew→
         Sim E i s w (Builtin.append_ ts ty #[.slice base n c',y']) (.slice (some ⟨s1.nx,0,none⟩) (n+m) (2*(n+m))) (s1.rowz z (olds++new)):=by
        intro s1 z olds olds' base c' hR1 hF1 hvo hlo hz2 hz3 hlt hsm hrun;have hrun2:=MU (w:=w) (ty:=ty) h0 h1 htd hud hd hs hi (by rw[q4];exact hjb) hz hl hcD hrun hlt (by rw[q4];unfold small at hsm;omega);obtain⟨i',g1,g2,g3⟩:=MJ (F8 hR1).1 hvo hvD (z:=z) (zv:=zv.cells) (cap:=grownCap w (n+m) c' e) e hz3 (by rw[Zd,hlo,hnl,Yv]) hzs (grownCap_ge _ _ _ _) hz2;exact⟨_,_,i',hrun2,g3,g1,hF1.trans ((F8 hR1).2.trans g2)⟩
       cases hm0:Za m 0 with
       |true=>
        rw[hm0]at h;cases h;obtain rfl:m=0:=by simpa using hm0
        have hnn:new'=[]:=by
         have:new'.length=0:=by rw[←hvn.length,hnl];simp
         exact Vg this
        subst hnn;refine Sim.ofPure hR (v':=x') ?_ hx;cases hx with
        |nils=>exact qq h0 h1 htd hud hd hs (hl w) hc (by omega) (fun a h=>by cases h) (fun _=>rfl)
        |slice hib k1 k2 k3 k4 k5=>exact qq h0 h1 htd hud hd hs (hl w) hc (by omega) (fun a _=>rfl) (fun h=>by cases h)
       |false=>
        rw[hm0]at h;simp only[cond_false]at h;have hmne:m≠0:=fun e=>by subst e;cases hm0
        cases hroom:Zb (n+m) (c/2)with
        |true=>
         rw[hroom]at h;simp only[cond_true]at h;have hle:n+m≤c/2:=by simpa using hroom
         split at h
         ·cases h
         ·rename_i a';split at h
          ·cases h
          ·rename_i s2 hw;cases h;cases hx with
           | @slice b o q t' _ _ p c' hib k1 k2 k3 k4 k5=>
            obtain rfl:=k4.resolve_right (by omega);obtain⟨w',g1,g2,g3⟩:=hR.wrN (P:=E.P) hw hib hvn;refine⟨_,w',i,qq h0 h1 htd hud hd hs (hl w) hc (by omega) (fun a ha=>?_) (fun h=>by cases h),.slice hib hle k2 k3 (.inl rfl) k5,g2,g3⟩;cases ha;rw[Bu,Ya];exact g1
        |false=>
         rw[hroom]at h;simp only[cond_false]at h;have hgt:c/2<n+m:=by
          rcases Zt (c/2) (n+m)with hh|hh
          ·exact hh
          ·rw[show Zb (n+m) (c/2)=true by simpa using hh]at hroom;cases hroom
         cases hsm:Zb ((n+m)*j.bytes) small with
         |false=>rw[hsm]at h;cases h
         |true=>
         rw[hsm]at h;simp only[cond_true]at h;have hsm':(n+m)*j.bytes≤small:=by simpa using hsm
         split at h
         ·cases h;cases hx with
          |nils hc0=>exact hgrow s _ [] [] none 0 hR (.refl _ _ _) .nil (by simp) (Na hjz) (fun _=>(Nz hjz).symm) (by omega) hsm' rfl
         ·rename_i a';cases hx with
          | @slice b o q t' _ _ p c' hib k1 k2 k3 k4 k5=>
          cases hn0:(Za n 0&&Za (c%2) 1)with
          |true=>
           rw[hn0]at h;cases h;simp only[Zi,X0]at hn0;obtain⟨rfl,hodd⟩:=hn0;have:=k2 hodd;exact hgrow s _ [] [] _ c' hR (.refl _ _ _) .nil (by simp) (Na hjz) (fun _=>(Nz hjz).symm) (by omega) hsm' (by simp only[Builtin.firstCells,Xh];rfl)
          |false=>
           rw[hn0]at h;simp only[cond_false]at h;split at h
           ·cases h
           ·rename_i old hold;split at h
            ·rename_i cc mm z hbl;have hread:∀(s1:AS) (z:Nat),Rel i s1 w→Fr i s w i s1 w→zs z=j.size→(ze z≠0→e+1=ze z)→c'<n+m→Sim E i s w (Builtin.append_ ts ty #[.slice (some ⟨q,p,none⟩) n c',y']) (.slice (some ⟨s1.nx,0,none⟩) (n+m) (2*(n+m))) (s1.rowz z (old++new)):=by
              intro s1 z hR1 hF1 hz2 hz3 hlt;obtain⟨old',r1,r2,r3⟩:=(F8 hR).1.rdN (P:=E.P) hold hib;rcases Nat.eq_zero_or_pos n with hn|hn
              ·subst hn;have:old=[]:=Vg (by rw[r3];simp);subst this;exact hgrow s1 z [] [] _ c' hR1 hF1 .nil (by simp) hz2 hz3 hlt hsm' (by simp only[Builtin.firstCells,Xh];rfl)
              ·obtain rfl:=k4.resolve_right (by omega);exact hgrow s1 z old old' _ c' hR1 hF1 r2 r3 hz2 hz3 hlt hsm' r1
             cases hodd:Za (c%2) 1 with
             |true=>
              rw[hodd]at h;cases h;have ho:c%2=1:=by simpa using hodd
              have:=k2 ho;exact hread s _ hR (.refl _ _ _) (Na hjz) (fun _=>(Nz hjz).symm) (by omega)
             |false=>
              rw[hodd]at h;simp only[cond_false]at h;have hev:c%2=0:=by
               rcases Jh c with hh|hh
               ·exact hh
               ·rw[hh]at hodd;cases hodd
              cases hzz:(Za (zs z) j.size&&ones new)with
              |false=>rw[hzz]at h;cases h
              |true=>
               rw[hzz]at h;cases h;simp only[Zi,X0]at hzz;obtain⟨hz2,hones⟩:=hzz;rcases Zt c' (n+m)with hlt|hge
               ·obtain⟨K1,K2⟩:=hR.kill hbl;exact hread _ _ K1 K2 (R4 hjz) (fun h=>(mz hjz h).2.symm) hlt
               ·obtain rfl:=k4.resolve_right (by omega);obtain⟨cs,e1,fr,w1,w2,w3,w4,w5⟩:=hR.at (P:=E.P) hbl rfl hib;obtain⟨L1,L2⟩:=hR.lim _ _ _ _ _ _ hbl hib;have L3:=L2 cs e1 fr w1;have L4:=k5 hev (by omega);rw[L1,hz2]at L4;have L5:(n+m)*j.size≤c'*j.size:=Yo _ hge;have L6:(n+m)*j.size=n*j.size+m*j.size:=Yv _ _ _;have hnl':new'.length=m*j.size:=by rw[←hvn.length,hnl]
                obtain⟨cs',S1,S2,S3⟩:=HX (P:=E.P) q (t'+o+n*j.size) new' 0 w cs e1 fr w1 (by omega) (w3.imp (fun e=>Xo e.symm) (·.2)) (by rw[hvn.ones];exact hones);obtain⟨old',r1,r2,r3⟩:=hR.rdC hbl hold hib w1;have hle:=Nb (x:=(q,t'+o)) (lm:=i.lim b) (hR.fresh s.nx (Ze _)).1;have hol':old'.length=n*j.size:=by rw[←r1.length,r2]
                obtain⟨G1,G2⟩:=hR.grow (w':=Hh w q (.cells cs' e1 fr)) (p:=t'+o) (lm:=i.lim b) (o:=.cells (T.e.fill 0 (old++new)) (old++new).length (zg j.size z e)) hbl hib (fun k hk=>fv hk) (fw _ _ _) rfl rfl rfl
                 (by
                  rw[Dm w1];refine OR.row ((r1.append hvn).mono hle) cs' e1 fr (zg j.size z e) (fun h=>by
                   obtain⟨u1,u2⟩:=mz hjz h;rw[u2,←u1];exact(w5 (by omega)).1) (by rw[S2,AU];exact w3) _ (by rw[Zd,r2,hnl,S2];omega) (fun k hk=>?_) (.inr (by rw[R4 hjz];exact hjs))
                  rw[Zd,r2,hnl]at hk;rw[S3];by_cases hk2:k<n*j.size
                  ·rw[if_neg (by omega),Vt (by omega)];exact r3 k hk2
                  ·rw[if_pos (by omega),Vj (by omega)];congr 1;omega)
                 (fun c1 n1 z1 hcc=>by
                  cases hcc;refine⟨by rw[L1,hz2,R4 hjz],fun cs2 e2 fr2 hw2=>?_⟩;rw[Dm w1]at hw2;cases hw2;omega)
                refine⟨_,_,_,qq h0 h1 htd hud hd hs (hl w) hc hge (w':=Hh w q (.cells cs' e1 fr)) (fun a ha=>?_) (fun h=>by cases h),?_,G1,G2⟩
                ·cases ha;rw[Bu];exact S1
                ·refine .slice (G8 _ _ _) (by omega) (by omega) (by omega) (.inl rfl) (fun _ _=>?_);rw[B7,L1,hz2];omega
            ·cases h
     ·cases h
  ·cases h
 ·cases h
end
end Go.Ax
namespace Go.Ax
open Go
section
variable {E:Env}{i:Io}{s:AS}{w:World}
theorem Zag(hT:Gr E)(t:TypeId)(ts:Array TypeId)(ty:TypeId){x y x' y':Value}(hR:Rel i s w)(hx:VR i x x')(hy:VR i y y')(h0:ts[0]? =some t){v:Value}{s':AS}(h:zw E s t x y=some (v,s')):
  Sim E i s w (Builtin.copy_ ts ty #[x',y']) v s':=by
 unfold zw at h;split at h
 ·cases h
 ·rename_i ti ht;have hd:=G0 hT ht w;split at h
  ·rename_i e hdesc;split at h
   ·cases h
   ·rename_i j hj;have hs:=Hz hT hj w;split at h
    ·rename_i a n c m hm;have hl:=ZD hy hm E.P w;split at h
     ·cases h
     ·rename_i new hnew;obtain⟨new',hc,hvn,hnl⟩:=ZC (P:=E.P) hR hy (fun k hk=>by rw[hm]at hk;cases hk;exact Nat.min_le_left _ _) hnew;split at h
      ·cases h;cases hx;refine Sim.ofPure hR (v':=.int .i64 (Y4 m 0:Nat)) ?_ (.int _ _);simp[Builtin.copy_,h0,hd,hdesc,hl,hs]at hc ⊢;simp[hc,goInt]
      ·rename_i a';cases hx with
       | @slice b o q t' _ _ p c' hib k1 k2 k3 k4 k5=>
        have hrun:∀w',(storeCells ⟨q,p,none⟩ new').run E.P w=.ok () w'→(Builtin.copy_ ts ty #[.slice (some ⟨q,p,none⟩) n c',y']).run E.P w=.ok (.int .i64 (Y4 m n:Nat)) w':=by
         intro w' hst;simp only[Builtin.copy_,h0,List.getElem?_toArray,Y7,Y9,Sem.run_bind,hd,hdesc,Result.andThen_ok,hl,hs,hc,hst,Sem.run_pure,goInt]
        cases hmin:Za (Y4 m n) 0 with
        |true=>
         rw[hmin]at h;cases h;have h00:Y4 m n=0:=by simpa using hmin
         have:new'=[]:=Vg (by rw[←hvn.length,hnl,h00];simp);subst this;exact Sim.ofPure hR (hrun w rfl) (.int _ _)
        |false=>
         rw[hmin]at h;simp only[cond_false]at h;split at h
         ·cases h
         ·rename_i s2 hw;cases h;have hne:Y4 m n≠0:=fun e=>by rw[e]at hmin;cases hmin
          have hle:Y4 m n≤n:=Nat.min_le_right _ _;obtain rfl:=k4.resolve_right (by omega);obtain⟨w',g1,g2,g3⟩:=hR.wrN (P:=E.P) hw hib hvn;exact⟨_,w',i,hrun w' g1,.int _ _,g2,g3⟩
    ·cases h
  ·cases h
theorem Zah(hT:Gr E)(t:TypeId)(ts:Array TypeId)(ty:TypeId){x x':Value}(hR:Rel i s w)(hx:VR i x x')(h0:ts[0]? =some t){v:Value}{s':AS}(h:B4 E s t x=some (v,s')):
  Sim E i s w (Builtin.clear_ ts ty #[x']) v s':=by
 unfold B4 at h;split at h
 ·cases h
 ·rename_i ti ht;have hd:=G0 hT ht w;split at h
  ·cases h;cases hx;exact Sim.ofPure hR (v':=.tuple #[]) (by simp[Builtin.clear_,h0,hd]) (.tuple .nil)
  ·cases h;cases hx;exact Sim.ofPure hR (v':=.tuple #[]) (by simp[Builtin.clear_,h0,hd]) (.tuple .nil)
  ·rename_i b _;split at h
   ·rename_i es hes;cases h;cases hx;rename_i q hib;obtain⟨_,es',clk,l,hw1,hw2,hw3,hw4,hw5⟩:=hR.at (P:=E.P) hes rfl hib;obtain⟨g1,g2⟩:=hR.mapNow (es2:=[]) hes hib hw1 (m':= #[]) (clk':=clk) rfl (l:=[]) (.refl _) .nil .nil (.nil _);refine⟨.tuple #[],_,i,?_,.tuple .nil,g1,g2⟩;simp[Builtin.clear_,h0,hd,C5 hw1,I1 hw1]
   ·cases h
  ·rename_i e a n c hdesc;cases hx with
   | @slice b o q t' _ _ p c' hib k1 k2 k3 k4 k5=>
    cases hn:Za n 0 with
    |true=>
     rw[hn]at h;cases h;obtain rfl:n=0:=by simpa using hn
     exact Sim.ofPure hR (v':=.tuple #[]) (by simp[Builtin.clear_,h0,hd,hdesc]) (.tuple .nil)
    |false=>
     rw[hn]at h;simp only[cond_false]at h;have hne:n≠0:=fun e=>by subst e;cases hn
     split at h
     ·cases h
     ·rename_i j hj;split at h
      ·cases h
      ·rename_i s2 hw;cases h;obtain⟨zv,hz1,hz2,hz3,_,_,hzl⟩:=Dn hT hj w;obtain rfl:=k4.resolve_right (by omega);have hv:VRs i (rep n j.zero) (Builtin.zeroCells zv.cells n).toList:=by
        have:=VRs.rep (i:=i) n (l:=j.zero) (l':=zv.cells.toList) (by rw[←hz2];exact(hz3 i).cells);unfold Builtin.zeroCells;rw[Iz];exact this
       obtain⟨w',g1,g2,g3⟩:=hR.wrN (P:=E.P) hw hib hv;refine⟨.tuple #[],w',i,?_,.tuple .nil,g2,g3⟩;simp[Builtin.clear_,h0,hd,hdesc,hz1,g1,hne]
  ·cases h
theorem MR.length{es:List (Value×Value)}{l:List MapEntry}(h:MR i es l):l.length=es.length:=by
 have:=congrArg List.length h.keys;simpa using this
theorem Zai(hT:Gr E)(t:TypeId)(ts:Array TypeId)(ty:TypeId){x x':Value}(hR:Rel i s w)(hx:VR i x x')(h0:ts[0]? =some t){v:Value}(h:Fp E s t x=some v):
  Sim E i s w (Builtin.len_ ts ty #[x']) v s:=by
 unfold Fp at h;split at h
 ·cases h
 ·rename_i ti ht;have hd:=G0 hT ht w;split at h
  ·rename_i b hdesc;cases h;cases hx;exact Sim.ofPure hR (by simp[Builtin.len_,h0,hd,hdesc,goInt]) (.int _ _)
  ·rename_i n e hdesc;cases h;exact Sim.ofPure hR (by simp[Builtin.len_,h0,hd,hdesc,goInt]) (.int _ _)
  ·rename_i e a n c hdesc;cases h;cases hx<;>exact Sim.ofPure hR (by simp[Builtin.len_,h0,hd,hdesc,goInt]) (.int _ _)
  ·rename_i e a hdesc;cases h;cases hx;exact Sim.ofPure hR (by simp[Builtin.len_,h0,hd,hdesc,goInt]) (.int _ _)
  ·rename_i e a b hdesc;split at h
   ·rename_i es hes;cases h;cases hx;rename_i q hib;obtain⟨_,es',clk,l,hw1,hw2,hw3,hw4,hw5⟩:=hR.at (P:=E.P) hes rfl hib;have hlen:es'.size=es.length:=by rw[←Y6,←hw2.length_eq,hw3.length]
    refine Sim.ofPure hR (v':=.int .i64 es.length) ?_ (.int _ _);rw[←hlen];simp[Builtin.len_,h0,hd,hdesc,goInt,C5 hw1]
   ·cases h
  ·cases h
theorem Zaj(hT:Gr E)(t:TypeId)(ts:Array TypeId)(ty:TypeId){x x':Value}(hR:Rel i s w)(hx:VR i x x')(h0:ts[0]? =some t){v:Value}(h:fk E t x=some v):
  Sim E i s w (Builtin.cap_ ts ty #[x']) v s:=by
 unfold fk at h;split at h
 ·cases h
 ·rename_i ti ht;have hd:=G0 hT ht w;split at h
  ·rename_i n e hdesc;cases h;exact Sim.ofPure hR (by simp[Builtin.cap_,h0,hd,hdesc,goInt]) (.int _ _)
  ·rename_i e n c hdesc;cases h;cases hx with
   |nils hc0=>exact Sim.ofPure hR (by simp[Builtin.cap_,h0,hd,hdesc,goInt]) (.int _ _)
  ·rename_i e a n c hne hdesc;cases hc:Za (c%2) 1 with
   |false=>rw[hc]at h;cases h
   |true=>
    rw[hc]at h;cases h;have hodd:c%2=1:=by simpa using hc
    cases hx with
    |nils hc0=>
     rw[hc0];exact Sim.ofPure hR (by simp[Builtin.cap_,h0,hd,hdesc,goInt]) (.int _ _)
    |slice hib k1 k2 k3 k4 k5=>
     rw[←k2 hodd];exact Sim.ofPure hR (by simp[Builtin.cap_,h0,hd,hdesc,goInt]) (.int _ _)
  ·cases h
theorem ZF{P:Program}{f:Value→Value→Option Value}{g:Value→Value→Sem Value}(hfg:∀x y z x' y',f x y=some z→VR i x x'→VR i y y'→∃z',(g x' y').run P w=.ok z' w∧VR i z z'):
  ∀ {l l':List Value} {x x' z:Value},VRs i l l'→VR i x x'→Iq f x l=some z→∃z',(l'.foldlM g x').run P w=.ok z' w∧VR i z z'
 |_,_,x,x',z,.nil,hx,h=>by
  simp only[Iq,Option.some.injEq]at h;subst h;exact⟨x',rfl,hx⟩
 |y::l,y'::l',x,x',z,.cons hy hl,hx,h=>by
  simp only[Iq]at h;split at h
  ·cases h
  ·rename_i u hu;obtain⟨u',g1,g2⟩:=hfg _ _ _ _ _ hu hx hy;obtain⟨z',g3,g4⟩:=ZF hfg hl g2 h;refine⟨z',?_,g4⟩;rw[List.foldlM_cons];simp only[Sem.run_bind,g1,Result.andThen_ok,g3]
theorem Zak(P:Program)(x y z x' y':Value)(h:zx x y=some z)(hx:VR i x x')(hy:VR i y y'):∃z',(Builtin.max2 x' y').run P w=.ok z' w∧VR i z z':=by
 unfold zx at h;split at h
 ·cases h;cases hx;cases hy;exact⟨_,rfl,.int _ _⟩
 ·cases h
theorem Zal(P:Program)(x y z x' y':Value)(h:z6 x y=some z)(hx:VR i x x')(hy:VR i y y'):∃z',(Builtin.min2 x' y').run P w=.ok z' w∧VR i z z':=by
 unfold z6 at h;split at h
 ·cases h;cases hx;cases hy;exact⟨_,rfl,.int _ _⟩
 ·cases h
end
end Go.Ax
namespace Go.Ax
open Go
section
variable {E:Env}{i:Io}{s:AS}{w:World}
theorem I2{α:Type}{a:Array α}{x:α}{l:List α}(h:a.toList=x::l):a[0]? =some x:=by
 rw[←Yx,h];rfl
theorem Zam{α:Type}{a:Array α}{x y:α}{l:List α}(h:a.toList=x::y::l):a[1]? =some y:=by
 rw[←Yx,h];rfl
theorem Zan(ts:Array TypeId)(ty:TypeId){x x':Value}(hR:Rel i s w)(hx:VR i x x'){v:Value}{s':AS}(h:m8 s x=some (v,s')):Sim E i s w (Builtin.unsafeSliceData_ ts ty #[x']) v s':=by
 unfold m8 at h;split at h
 ·cases h;cases hx;exact Sim.ofPure hR (v':=.pointer none) rfl .nilp
 ·rename_i a n c;cases hc:Za (c/2) 0 with
  |true=>rw[hc]at h;cases h
  |false=>
   rw[hc]at h;cases h;have hc0:c/2≠0:=fun e=>by rw[e]at hc;cases hc
   cases hx with
   | @slice b o q t _ _ p c' hi h1 h2 h3 h4 h5=>
    obtain rfl:=h4.resolve_right (by omega);exact Sim.ofPure hR (Lib.run_unsafeSliceData_row w ts ty _ n c' (by omega)) (.ptr hi)
 ·cases h
theorem MK{P:Program}{w:World}:∀(ns:List Int) (q p:Nat) (acc:ByteArray),(∀j n,ns[j]? =some n→w.cell? ⟨q,p+j,none⟩=some (.int .u8 n))→
  (loadBytes ⟨q,p,none⟩ acc ns.length).run P w=.ok ⟨⟨acc.data.toList++ns.map fun n=>UInt8.ofNat n.toNat⟩⟩ w
 |[],q,p,acc,_=>by simp[loadBytes]
 |n::ns,q,p,acc,h=>by
  have h0:w.cell? ⟨q,p,none⟩=some (.int .u8 n):=by simpa using h 0 n rfl
  have ih:=MK (P:=P) (w:=w) ns q (p+1) (acc.push n.toNat.toUInt8) (fun j m hj=>by
   have:=h (j+1) m (by simpa using hj);rw[show p+1+j=p+(j+1) by omega];exact this)
  simp only[Zf,loadBytes,Sem.run_bind,run_load,h0,Result.andThen_ok,Bu];rw[ih];congr 2;apply Yt;simp[ByteArray.push]
theorem Zao(hT:Gr E)(t it:TypeId)(ty:TypeId){x y x' y':Value}(hR:Rel i s w)(hx:VR i x x')(hy:VR i y y'){v:Value}{s':AS}(h:fm E s t x y=some (v,s')):
  Sim E i s w (Builtin.unsafeString_ #[t,it] ty #[x',y']) v s':=by
 have hmax:IntKind.i64.max=9223372036854775807:=rfl;unfold fm at h;split at h
 ·rename_i m pa ti ht;cases hy;cases hm:Za m 0 with
  |true=>
   rw[hm]at h;cases h;obtain rfl:m=0:=by simpa using hm
   cases hx with
   |nilp=>exact Sim.ofPure hR (v':=.string .empty) (Lib.run_unsafeString_none w t it ty none) (.string _)
   |ptr hi=>exact Sim.ofPure hR (v':=.string .empty) (Lib.run_unsafeString_none w t it ty _) (.string _)
  |false=>
   rw[hm,cond_false]at h;have hm0:m≠0:=fun e=>by rw[e]at hm;cases hm
   split at h
   ·rename_i a e hdesc;split at h
    ·rename_i j c k z hj hb;cases hcond:(Za j.size 1&&Za (ze z) (e+1)&&Zb m small)with
     |false=>rw[hcond]at h;cases h
     |true=>
      rw[hcond,cond_true]at h;simp only[Zi,X0,Vh]at hcond;obtain⟨⟨k1,k2⟩,k3⟩:=hcond;split at h
      ·rename_i l hl;split at h
       ·rename_i bs hbs;cases h;cases hx with
        | @ptr b o q tt hi=>
         obtain⟨cs,e1,fr,g1,g2,g3,g4,g5⟩:=hR.at (P:=E.P) hb rfl hi;obtain⟨f1,_⟩:=g5 (by rw[k2];exact Nat.succ_ne_zero _);have he:e1=e:=by rw[k2]at f1;exact Nat.succ.inj f1
         subst he;obtain⟨info,q1,_,q3,_⟩:=hT.ty e1 j hj;have hcell:E.P.cellsOf e1=1:=by simp[Program.cellsOf,q1,q3,k1]
         obtain⟨l',r1,r2,r3⟩:=hR.rdC hb hl hi g1;obtain⟨ns,s1,s2⟩:=ZH r1 hbs;have hnl:ns.length=m:=by
          have:=r1.length;rw[s1,Zc]at this;omega
         have hle:tt+o+m≤cs.size:=by
          have hh:=hl;unfold Go.Ax.rdN at hh;rw[hb]at hh;simp only at hh;cases hbb:Zb (o+m) k with
          |false=>rw[hbb]at hh;cases hh
          |true=>
           have:=Yr hbb;omega
         have hload:=MK (P:=E.P) (w:=w) ns q (tt+o) .empty (fun jj n hn=>by
          have hjm:jj<m:=by
           have:=(Yc.1 hn).1;omega
          rw[cell_of g1,r3 jj hjm,s1,Zy,hn];rfl)
         rw[hnl]at hload;have hlies:liesAt E.P E.P.depth e1 (cs.size/E.P.cellsOf e1) (tt+o) e1 m=true:=by
          have hd1:E.P.depth=(2*(E.P.types.size+Made.depth)+1)+1:=rfl;rw[hd1];simp only[liesAt,Yq];left;rw[hd1];simp[rowAt,hcell,sameLayout,hle];exact .inl (Nat.mod_one _)
         have hsh:w.shape? q=some (e1,cs.size):=by unfold World.shape?;rw[g1]
         have htd:(underlying t).run E.P w=.ok (.pointer e1) w:=by rw[G0 hT ht,hdesc]
         have h63:¬(IntKind.i64.max<(m:Int)):=by
          rw[hmax];unfold small at k3;omega
         have hneg:¬((m:Int)<0):=by omega
         have hupd:=hR.upd (w':=w.freeze ⟨q,tt+o,none⟩ m) (o':=.dead) hb rfl rfl hi (fun kk hk=>by
           unfold World.freeze;rw[if_neg hm0];show(w.heap.modify q _)[kk]? =_;rw[Array.getElem?_modify,if_neg (fun e=>hk e.symm)])
          (by unfold World.freeze;rw[if_neg hm0];show(w.heap.modify q _).size=_;simp) (by unfold World.freeze;rw[if_neg hm0]) (by unfold World.freeze;rw[if_neg hm0]) (by unfold World.freeze;rw[if_neg hm0])
          (fun h=>by cases h)
         refine⟨.string ⟨⟨bs⟩⟩,_,i,?_,.string _,hupd.1,hupd.2⟩;have htd':(elemOf t).run E.P w=.ok e1 w:=by simp[elemOf,htd]
         have hdef:Builtin.unsafeString_ #[t,it] ty #[.pointer (some ⟨q,tt+o,none⟩),.int .i64 (.ofNat m)]=(do
           let n←asInt (.int .i64 (.ofNat m))
           if n < 0 then runtimePanic (.error "unsafe.String: len out of range")
           if n > IntKind.i64.max then unsupported (.unsafePointer "String: a length above the largest int")
           if n=0 then pure (.string .empty)
           else if←variablesAt ⟨q,tt+o,none⟩ (←elemOf t) n.toNat then do
            let s←loadBytes ⟨q,tt+o,none⟩ .empty n.toNat
            freeze ⟨q,tt+o,none⟩ n.toNat
            pure (.string s)
           else unsupported (.unsafePointer "String: not so many bytes at ptr")) := rfl
         rw[hdef];have hmi:¬((m:Int)=0):=by omega
         simp[asInt,asIntOf,hneg,htd',variablesAt,hsh,hlies,hload,s2];rw[if_neg (by rw[←hmax];exact h63),if_neg hm0]
       ·cases h
      ·cases h
    ·cases h
   ·cases h
 ·cases h
theorem Zap(hT:Gr E)(b:Builtin)(ts:Array TypeId)(ty:TypeId)(cs:Array Bool){xs l':List Value}(hR:Rel i s w)(hx:VRs i xs l'){v:Value}{s':AS}(h:R8 E s b ts.toList xs=some (v,s')):
  Bf E i s w (builtin b ts ty cs ⟨l'⟩) v s':=by
 unfold R8 at h;split at h
 ·rename_i t tl x hts;obtain _|⟨h1,h2⟩:=hx;cases h2;split at h
  ·cases h
  ·rename_i v' hv;cases h;exact(Zai hT t ts ty hR h1 (I2 hts) hv).next
 ·rename_i t tl x hts;obtain _|⟨h1,h2⟩:=hx;cases h2;split at h
  ·cases h
  ·rename_i v' hv;cases h;exact(Zaj hT t ts ty hR h1 (I2 hts) hv).next
 ·rename_i t u tl x y hts;obtain _|⟨h1,h2⟩:=hx;obtain _|⟨h2,h3⟩:=h2;cases h3;exact(Zaf hT t u ts ty hR h1 h2 (I2 hts) (Zam hts) h).next
 ·rename_i t tl x y hts;obtain _|⟨h1,h2⟩:=hx;obtain _|⟨h2,h3⟩:=h2;cases h3;exact(Zag hT t ts ty hR h1 h2 (I2 hts) h).next
 ·rename_i x;obtain _|⟨h1,h2⟩:=hx;cases h2;exact(Zan ts ty hR h1 h).next
 ·rename_i t it x y hts;obtain _|⟨h1,h2⟩:=hx;obtain _|⟨h2,h3⟩:=h2;cases h3;have:ts= #[t,it]:=Yt hts;subst this;exact(Zao hT t it ty hR h1 h2 h).next
 ·rename_i t tl x hts;obtain _|⟨h1,h2⟩:=hx;cases h2;exact(Zah hT t ts ty hR h1 (I2 hts) h).next
 ·rename_i t tl x y hts;obtain _|⟨h1,h2⟩:=hx;obtain _|⟨h2,h3⟩:=h2;cases h3;exact(Zac hT t ts ty hR h1 h2 (I2 hts) h).next
 ·rename_i x l;obtain _|⟨h1,h2⟩:=hx;split at h
  ·cases h
  ·rename_i v' hv;cases h;obtain⟨z,g1,g2⟩:=ZF (w:=w) (Zak E.P) h2 h1 hv;exact(Sim.ofPure hR (m:=Builtin.max_ ts ty ⟨_⟩) g1 g2).next
 ·rename_i x l;obtain _|⟨h1,h2⟩:=hx;split at h
  ·cases h
  ·rename_i v' hv;cases h;obtain⟨z,g1,g2⟩:=ZF (w:=w) (Zal E.P) h2 h1 hv;exact(Sim.ofPure hR (m:=Builtin.min_ ts ty ⟨_⟩) g1 g2).next
 ·cases h
theorem Bf.congr{m m':Sem Next}{v:Value}{s':AS}(h:Bf E i s w m v s')(e:m'.run E.P w=m.run E.P w):Bf E i s w m' v s':=by
 obtain⟨w',i',h1,h2,h3⟩:=h;refine⟨w',i',h1,h2,?_⟩;rw[e];exact h3
theorem Zaq(hT:Gr E)(c:Call)(o:Oper)(ho:o.op=.call c){tm:Tm}{ρ:Operand→Value}(hR:Rel i s w)(hρ:TR i tm ρ){v:Value}{s':AS}(h:Br c E tm s=some (v,s')):
  Bf E i s w (execOp ρ o) v s':=by
 unfold Br at h;split at h
 ·rename_i b hb;split at h
  ·rename_i xs hxs;have hx:=hρ.evs hxs;refine(Zap hT b c.argTypes o.type (c.args.map fun|.const _=>true|_=>false) hR hx h).congr ?_;unfold execOp;rw[ho];simp only[resolve,hb,Sem.run_bind,Sem.run_pure,Result.andThen_ok,invoke];congr 2;apply Yt;simp
  ·cases h
 ·cases h
theorem Zar(hT:Gr E)(o:Oper){tm:Tm}{ρ:Operand→Value}(hR:Rel i s w)(hρ:TR i tm ρ){v:Value}{s':AS}(h:opA o.op E tm s=some (v,s')):
  Bf E i s w (execOp ρ o) v s':=by
 unfold opA at h;cases ho:o.op<;>rw[ho]at h<;>simp only at h
 case call c=>exact Zaq hT c o ho hR hρ h
 case nilCheck x=>exact AQ o x hR hρ ho h
 all_goals first
  |(cases h;done)
  |(unfold execOp;rw[ho];first
    |exact AN _ hR hρ h
    |exact AB _ _ _ hR hρ h
    |exact(AC hT _ hR h).next
    |exact(AD _ _ hR hρ h).next
    |exact(PR hT _ _ hR hρ h).next
    |exact(PQ hT _ _ _ hR hρ h).next
    |exact(AF hT _ _ hR hρ h).next
    |(obtain⟨g,rfl⟩:=AT hT _ _ _ hR hρ h;exact g.next)
    |exact(PF hT _ _ _ _ hR hρ h).next
    |exact(SX _ _ hR hρ h).next
    |exact(SJ hT _ _ _ hR hρ h).next
    |exact(AW hT _ _ hR hρ h).next
    |exact(AL _ _ _ hR hρ h).next
    |exact(PW hT _ _ hR hρ h).next
    |exact(PL hT _ _ _ hR hρ h).next
    |exact(PU hT _ _ _ _ _ hR hρ h).next
    |exact(PZ hT _ _ _ hR hρ h).next
    |exact(PY hT _ _ _ hR hρ h).next
    |exact(PX hT _ _ _ hR hρ h).next
    |exact(PV hT _ _ _ hR hρ h).next
    |exact(SB hT _ _ _ _ hR hρ h).next
    |(obtain⟨g,rfl⟩:=Zab hT _ _ _ _ hR hρ h;exact g.next)
    |exact(PP hT _ _ hR hρ h).next
    |exact(SZ _ _ _ hR hρ h).next
    |exact(SY hT _ _ _ _ hR hρ h).next
    |exact(AP _ _ hR hρ h).next)
end
end Go.Ax
namespace Go.Ax
open Go
section
variable {E:Env}{i:Io}{s:AS}{w:World}
def TmR(i:Io)(tm:Tm)(ts:Array Value):Prop:=∀k v,tm.get k=some v→VR i v (ts.getD k undef)
theorem TmR.mono{i j:Io}{tm:Tm}{ts:Array Value}(h:TmR i tm ts)(hle:Le i j):TmR j tm ts:=fun k v e=>(h k v e).mono hle
theorem Zas{v u:Value}(h:cst v=some u):VR i u v:=by
 unfold cst at h;split at h<;>first|(cases h;done)|skip
 ·cases h;exact .int _ _
 ·cases h;exact .bool _
 ·cases h;exact .string _
 ·cases h;exact .nilp
 ·cases h;exact .nils rfl
 ·cases h;exact .nilm
 ·cases h;exact .nilFunc
 ·cases h;exact .nilIface
 ·cases h;exact .float _ _
theorem TmR.tr{tm:Tm}{a:Act}(hg:Gl i)(h:TmR i tm a.tmps):TR i tm a.eval:=by
 intro x v e;cases x with
 |tmp k=>exact h k v e
 |const c=>exact Zas e
 |global g=>
  unfold ev at e;simp only at e;cases hb:Zh g 1000 with
  |false=>rw[hb]at e;cases e
  |true=>
   rw[hb]at e;cases e;have hlt:g<1000:=by simpa[Yj]using hb
   have:=VR.ptr (o:=0) (hg g hlt);exact this
 |func f=>cases e;exact .func _ .nil .nil
theorem TmR.put{tm tm':Tm}{a:Act}{N:Nat}{dst:Option Tmp}{v v':Value}(h:TmR i tm a.tmps)(hN:N<a.tmps.size)(hv:VR i v v')(hp:Gq N tm dst v=some tm'):TmR i tm' (a.put dst v').tmps:=by
 cases dst with
 |none=>cases hp;exact h
 |some d=>
  unfold Gq at hp;simp only at hp;cases hb:Zb d N with
  |false=>rw[hb]at hp;cases hp
  |true=>
   rw[hb]at hp;cases hp;have hle:LE.le (α:=Nat) d N:=by simpa using hb
   have hlt:LT.lt (α:=Nat) d a.tmps.size:=Nat.lt_of_le_of_lt hle hN;intro k u e;rw[T.get_set]at e;show VR i u ((a.tmps.setIfInBounds d v').getD k undef);rw[Xg,Xy];by_cases hk:k=d
   ·subst hk;rw[if_pos rfl]at e;cases e;rw[if_pos rfl,if_pos hlt];exact hv
   ·rw[if_neg hk]at e;rw[if_neg (fun h=>hk h.symm),←Xg];exact h k u e
theorem Zat(a:Act)(dst:Option Tmp)(v:Value):(a.put dst v).tmps.size=a.tmps.size:=by
 cases dst<;>simp[Act.put]
theorem put_defers(a:Act)(dst:Option Tmp)(v:Value):(a.put dst v).defers=a.defers:=by
 cases dst<;>rfl
def qt(i:Io)(s:AS)(w:World)(v:Value)(s':AS):Ending→World→Prop
 |.returned v',w'=>∃i',VR i' v v'∧Rel i' s' w'∧Fr i s w i' s' w'
 |_,_=>False
def Nc(P:Program)(f:FuncId)(args':List Value)(i:Io)(s:AS)(w:World)(v:Value)(s':AS):Prop:=
 (∃v' w' i',(callFunc f ⟨args'⟩).run P w=.ok (.value v') w'∧VR i' v v'∧Rel i' s' w'∧Fr i s w i' s' w')∨
 ((callFunc f ⟨args'⟩).run P w=.ok (.enter f ⟨args'⟩) w∧Calls P f ⟨args'⟩ w (qt i s w v s'))
def Mz(P:Program)(call:Gu):Prop:=
 ∀f args s v s',call f args s=some (v,s')→∀i w args',Rel i s w→Gl i→VRs i args args'→Nc P f args' i s w v s'
theorem Zau{P:Program}{o:Oper}{a:Act}{next:Act→World→Prop}{Q:Exit→Act→World→Prop}{f:FuncId}{args:Array Value}{v:Value}{s':AS}
  (hc:Calls P f args w (qt i s w v s')) (hk:∀v' w' i',VR i' v v'→Rel i' s' w'→Fr i s w i' s' w'→next (a.put o.dst v') w'):o.upon P a next Q (.ok (.enter f args) w):=by
 refine Calls.mono hc (fun e w'' he=>?_);cases e with
 |returned v'=>
  obtain⟨i',h1,h2,h3⟩:=he;exact hk v' w'' i' h1 h2 h3
 |panicked c=>exact he.elim
 |outgrown=>exact he.elim
theorem Bf.wp{o:Oper}{a:Act}{v:Value}{s':AS}{next:Act→World→Prop}{Q:Exit→Act→World→Prop}(h:Bf E i s w (execOp a.eval o) v s')
  (hk:∀v' w' i',VR i' v v'→Rel i' s' w'→Fr i s w i' s' w'→next (a.put o.dst v') w'):o.wp E.P a w next Q:=by
 obtain⟨w',i',h1,h2,h3⟩:=h;unfold Oper.wp;rcases h3 with⟨v',hr,hv⟩|⟨hr,hv⟩
 ·rw[hr];exact hk v' w' i' hv h1 h2
 ·rw[hr];subst hv;exact hk undef w' i' (.undef i') h1 h2
theorem ZT(hT:Gr E){call:Gu}(hC:Mz E.P call)(o:Oper){tm:Tm}{a:Act}(hR:Rel i s w)(hg:Gl i)(hρ:TR i tm a.eval){v:Value}{s':AS}(h:Hb o.op E call tm s=some (v,s'))
  {next:Act→World→Prop} {Q:Exit→Act→World→Prop} (hk:∀v' w' i',VR i' v v'→Rel i' s' w'→Fr i s w i' s' w'→next (a.put o.dst v') w'):o.wp E.P a w next Q:=by
 have hop:∀ {v s'},opA o.op E tm s=some (v,s')→(∀v' w' i',VR i' v v'→Rel i' s' w'→Fr i s w i' s' w'→next (a.put o.dst v') w')→o.wp E.P a w next Q:=fun h hk=>(Zar hT o hR hρ h).wp hk;cases ho:o.op
 case call c=>
  rw[ho]at h;unfold Hb It at h;simp only at h;split at h
  ·rename_i f hf;unfold Fz at h;split at h
   ·rename_i g first captured xs hfv hxs;have h1:=hρ f _ hfv;generalize hgf:a.eval f=f' at h1;cases h1 with| @func _ fa fa' fc fc' h1 h2=>
    have h3:=hρ.evs hxs;have hargs:=(h1.append h3).append h2;have hF:=hC _ _ _ _ _ h i w _ hR hg hargs;have hrun:(execOp a.eval o).run E.P w=(callFunc g ⟨fa'++c.args.toList.map a.eval++fc'⟩).run E.P w:=by
     unfold execOp;rw[ho];simp only[resolve,hf,hgf,Deferred.ofValue,Sem.run_bind,Sem.run_pure,Result.andThen_ok,invoke];congr 2;apply Yt;simp
    unfold Oper.wp;rw[hrun];rcases hF with⟨v',w',i',q1,q2,q3,q4⟩|⟨q1,q2⟩
    ·rw[q1];exact hk v' w' i' q2 q3 q4
    ·rw[q1];exact Zau q2 hk
   ·cases h
  ·exact hop (by unfold opA;rw[ho];exact h) hk
 all_goals
  refine hop ?_ hk;rw[ho]at h ⊢;exact h
end
end Go.Ax
namespace Go.Ax
open Go Go.RowKit
structure AR(dl:List Deferred)(i:Io)(tm:Tm)(N:Nat)(a:Act):Prop where
 tm:TmR i tm a.tmps
 size:N<a.tmps.size
 defers:a.defers=dl
variable {dl:List Deferred}
theorem AR.mono{i j:Io}{tm:Tm}{N:Nat}{a:Act}(h:AR dl i tm N a)(hle:Le i j):AR dl j tm N a:=⟨h.tm.mono hle,h.size,h.defers⟩
theorem AR.put{i:Io}{tm tm':Tm}{N:Nat}{a:Act}{dst:Option Tmp}{v v':Value}(h:AR dl i tm N a)(hv:VR i v v')(hp:Gq N tm dst v=some tm'):AR dl i tm' N (a.put dst v'):=
 ⟨h.tm.put h.size hv hp,by rw[Zat];exact h.size,by rw[put_defers];exact h.defers⟩
def F9(dl:List Deferred)(i:Io)(s:AS)(w:World)(tm':Tm)(s':AS)(N:Nat)(K:Act→World→Prop):Prop:=
 ∀i' w' a',Rel i' s' w'→Fr i s w i' s' w'→AR dl i' tm' N a'→K a' w'
section
variable {E:Env}{i:Io}{s:AS}{w:World}
theorem F9.head{s1 s':AS}{tm':Tm}{N:Nat}{K:Act→World→Prop}{i1:Io}{w1:World}(h:F9 dl i s w tm' s' N K)(hf:Fr i s w i1 s1 w1):F9 dl i1 s1 w1 tm' s' N K:=
 fun i' w' a' hr hf' ha=>h i' w' a' hr (hf.trans hf') ha
theorem qx{ops:Array Oper}{o:Oper}{tm:Tm}{ts:Array Value}{b:Bool}(hm:TmR i tm ts)(h:Ha ops.toList tm o=some b):Region.wanted o (yielded ops ts)=b:=by
 unfold Ha at h;unfold Region.wanted;split at h
 ·rename_i hg;cases h;rw[hg]
 ·rename_i j want hg;rw[hg];simp only;split at h
  ·rename_i o' ho';split at h
   ·rename_i d hd;have ho2:ops[j]? =some o':=by rw[←Yx];exact ho'
    have hy:yielded ops ts j=match ts[d]? with
     |some (.bool b)=>some b
     |_=>none:=by
     unfold yielded;rw[ho2];simp only[Option.bind_some,hd];rfl
    rw[hy];split at h
    ·rename_i c hc;cases h;have:=hm d _ hc;rw[Xg]at this;cases hts:ts[d]? with
     |none=>rw[hts]at this;cases this
     |some v=>
      rw[hts]at this;simp only[U0]at this;cases this;simp only;cases c<;>cases want<;>rfl
    ·rename_i v hnb hv;cases h;have:=hm d _ hv;rw[Xg]at this;cases hts:ts[d]? with
     |none=>rfl
     |some u=>
      rw[hts]at this;simp only[U0]at this;cases u<;>first|rfl|(cases this;exact absurd rfl (hnb _))
    ·cases h
   ·cases h
  ·cases h
theorem ZQ(hT:Gr E){call:Gu}(hC:Mz E.P call){N:Nat}{ops:Array Oper}{Q:Exit→Act→World→Prop}:∀(l:List Oper) {tm tm':Tm} {i:Io} {s s':AS} {w:World} {a:Act},
  Mq E call N ops.toList l tm s=some (tm',s')→Rel i s w→Gl i→AR dl i tm N a→F9 dl i s w tm' s' N (Q .normal)→wpList E.P ops Q l a w
 |[],tm,tm',i,s,s',w,a,h,hR,hg,ha,hK=>by
  cases h;exact hK i w a hR (.refl _ _ _) ha
 |o::l,tm,tm',i,s,s',w,a,h,hR,hg,ha,hK=>by
  have h':(match Ha ops.toList tm o with
   |none=>none
   |some false=>match Gq N tm o.dst undef with
    |none=>none
    |some tm'=>Mq E call N ops.toList l tm' s
   |some true=>match Hb o.op E call tm s with
    |none=>none
    |some (v,s')=>match Gq N tm o.dst v with
     |none=>none
     |some tm'=>Mq E call N ops.toList l tm' s')=some (tm',s'):=h
  clear h;unfold wpList;split at h'
  ·cases h'
  ·rename_i hw;rw[if_neg (by rw[qx ha.tm hw];simp)];split at h'
   ·cases h'
   ·rename_i tm1 hp;exact ZQ hT hC l h' hR hg (ha.put (.undef i) hp) hK
  ·rename_i hw;rw[if_pos (qx ha.tm hw)];left;split at h'
   ·cases h'
   ·rename_i v s1 hx;split at h'
    ·cases h'
    ·rename_i tm1 hp;refine ZT hT hC o hR hg (ha.tm.tr hg) hx (fun v' w' i' hv hR' hF=>?_);exact ZQ hT hC l h' hR' (hg.mono hF.le) ((ha.mono hF.le).put hv hp) (hK.head hF)
def ZW(E:Env)(call:Gu):Prop:=
 ∀(N:Nat) (ops:Array Oper) (tm tm':Tm) (s s':AS),Dl E call N ops.toList tm s=some (tm',s')→Te E.ty ops.toList=true→
  ∀(dl:List Deferred) (i:Io) (w:World) (a:Act) (Q:Exit→Act→World→Prop) (id:Nat),Rel i s w→Gl i→AR dl i tm N a→F9 dl i s w tm' s' N (Q .normal)→(Code.region id ops true).wp E.P Q a w
noncomputable def codeOk(ty:T TI):Code→Bool
 |.region _ ops true=>Te ty ops.toList
 |.seq a b=>codeOk ty a&&codeOk ty b
 |.cond _ a b=>codeOk ty a&&codeOk ty b
 |.block _ b=>codeOk ty b
 |.loop b=>codeOk ty b
 |_=>true
def exX :X→Exit
 |.nor=>.normal
 |.exit j=>.exit j
 |.ret=>.ret
def qz(P:Program)(c:Code)(Q:Exit→Act→World→Prop)(a:Act)(w:World):Prop:=
 ∀(b:Frame) (k:List Item) (cs:List Frame),∃e a' w',Q e a' w'∧Arrives P (lone (b.at a (.inLoop c::k)) cs w) b k cs e a' w'
theorem Zav{P:Program}{c:Code}{Q:Exit→Act→World→Prop}{a:Act}{w:World}(h:c.wp P (Exit.then (qz P c Q) Q) a w):(Code.loop c).wp P Q a w∧qz P c Q a w:=by
 have key:∀(b:Frame) (k:List Item) (cs:List Frame),∃e a' w',Q e a' w'∧Arrives P (lone (b.at a (.code c::.inLoop c::k)) cs w) b k cs e a' w':=by
  intro b k cs;obtain⟨e,a1,w1,hq,harr⟩:=h b (.inLoop c::k) cs;cases e with
  |normal=>
   obtain⟨e2,a2,w2,hq2,harr2⟩:=hq b k cs;exact⟨e2,a2,w2,hq2,.of_steps harr harr2⟩
  |exit id=>exact⟨_,a1,w1,hq,.pass (x:=.inLoop c) rfl (fun _ _=>.inl (by simp)) harr⟩
  |goto l=>exact⟨_,a1,w1,hq,.pass (x:=.inLoop c) rfl (fun _ _=>.inl (by simp)) harr⟩
  |ret=>exact⟨_,a1,w1,hq,.pass (x:=.inLoop c) rfl (fun _ _=>.inl (by simp)) harr⟩
  |panic ch=>exact⟨_,a1,w1,hq,.pass (x:=.inLoop c) rfl (fun _ _=>.inl (by simp)) harr⟩
  |outgrown=>exact⟨_,a1,w1,hq,.pass (x:=.inLoop c) rfl (fun _ _=>.inl (by simp)) harr⟩
 constructor
 ·intro b k cs;obtain⟨e,a',w',hq,harr⟩:=key b k cs;exact⟨e,a',w',hq,.of_steps (.one step_loop) harr⟩
 ·intro b k cs;obtain⟨e,a',w',hq,harr⟩:=key b k cs;exact⟨e,a',w',hq,.of_steps (.one step_inLoop) harr⟩
def Dq(n0:Nat)(i:Io)(s:AS)(w:World)(l:List Deferred):Prop:=
 n0≤w.heap.size∧l.Nodup∧∀d∈l,∃D,d= {target:=.collected D,args:= #[]}∧n0≤D∧w.heap[D]? =some (.deferred (some []))∧∀b t,i b=some (D,t)→s.h.get b=none
theorem Dq.fr{n0:Nat}{i i':Io}{s s':AS}{w w':World}{l:List Deferred}(h:Dq n0 i s w l)(hF:Fr i s w i' s' w'):Dq n0 i' s' w' l:=by
 refine⟨Ye h.1 hF.size,h.2.1,fun d hd=>?_⟩;obtain⟨D,h1,h2,h3,h4⟩:=h.2.2 d hd;have hlt:D<w.heap.size:=lt_of_some h3;have hfx:∀b t,i b=some (D,t)→fixed (obA s b)=true:=fun b t e=>by
  unfold obA;rw[h4 b t e];rfl
 refine⟨D,h1,h2,?_,fun b t e=>?_⟩
 ·rw[hF.keep D hlt hfx];exact h3
 ·rcases hF.new b D t e with e1|e1|⟨b0,t0,e1,e2⟩
  ·rw[hF.ro b _ e1 (hfx b t e1)];exact h4 b t e1
  ·omega
  ·rw[hfx b0 t0 e1]at e2;cases e2
theorem Rel.below{i:Io}{s:AS}{w w':World}(h:Rel i s w)(hb:Below w.heap.size w w'):Rel i s w'∧Fr i s w i s w':=by
 have hd:∀b q t,i b=some (q,t)→s.h.get b≠none∨1000≤b→w'.heap[q]? =w.heap[q]? :=fun b q t e g=>hb.block q (h.dom b q t e g);refine⟨⟨fun b o ho ha=>?_,h.inj,h.fresh,fun b c n z q t ho e=>?_,fun b q t e g=>Yu (h.dom b q t e g) hb.size⟩,
  ⟨.refl i,fun _ _ _ e=>.inl e,hb.os,hb.tape,hb.output,hb.size,fun q hq _=>hb.block q hq,fun _ _ _ _=>rfl,Ze _,fun _ _ e=>e,fun _ _ _ e=>e,fun _ e=>e⟩⟩
 ·obtain⟨q,t,e,hor⟩:=h.obj b o ho ha;exact⟨q,t,e,by rw[hd b q t e (.inl (by rw[ho];simp))];exact hor⟩
 ·obtain⟨l1,l2⟩:=h.lim b c n z q t ho e;exact⟨l1,fun cs e' fr hw=>l2 cs e' fr (by rw[←hd b q t e (.inl (by rw[ho];simp))];exact hw)⟩
def gp(E:Env):Prop:=
 ∀g,E.back g=true→(∀args w,(callFunc g args).run E.P w=.ok (.enter g args) w)∧
  ∀(l:Nat) (ad:Addr) (a:Option Addr) (c:Nat) (W:World),W.cell? ad=some (.slice a 0 c)→
   Calls E.P g #[.func (.yield l) #[] #[],.pointer (some ad)] W fun e W'=>(∃v,e=.returned v)∧Below W.heap.size W W'
theorem Zaw{E:Env}(hB:gp E){f:Operand}{ps:Array Tmp}{assign body:Code}{Q:Exit→Act→World→Prop}{a:Act}{w:World}{g:FuncId}{ad:Addr}{a0:Option Addr}{c:Nat}
  (hf:a.eval f=.func (.func g) #[] #[.pointer (some ad)]) (hb:E.back g=true) (hc:w.cell? ad=some (.slice a0 0 c))
  (hK:∀(w':World) (D:Nat),Below w.heap.size w w'→w.heap.size≤D→w'.heap[D]? =some (.deferred (some []))→Q .normal {a with defers:= {target:=.collected D,args:= #[]}::a.defers} w'):
  (Code.rangeFunc f ps assign body).wp E.P Q a w:=by
 obtain⟨hent,hcall⟩:=hB g hb;refine(wpIn_wide (n:=1)).1 (wpIn_rangeFunc (F:=Fence.wide) (fun fn _=>?_));obtain⟨rec,hrec⟩:∃rec:Loop,rec= {state:=.ready,pending:=none,fn,tmps:=a.tmps,params:=ps,assign,body,defers:=w.heap.size}:=⟨_,rfl⟩;obtain⟨W1,hW1⟩:∃W1,(w.alloc (.deferred (some []))).alloc (.loop rec)=W1:=⟨_,rfl⟩;have hsz:W1.heap.size=w.heap.size+2:=by rw[←hW1];simp
 have hb1:Below w.heap.size w W1:=by
  rw[←hW1];exact((Below.refl _ w).alloc (Ze _) _).alloc (by simp) _
 have hL1:W1.heap[w.heap.size+1]? =some (.loop rec):=by
  rw[←hW1];have:=World.alloc_heap_new (w.alloc (.deferred (some []))) (.loop rec);rwa [World.size_alloc]at this
 have hK1:W1.heap[w.heap.size]? =some (.deferred (some [])):=by
  rw[←hW1];exact(Below.heap_alloc _ _ _ (by simp)).trans (World.alloc_heap_new w _)
 have hc1:W1.cell? ad=some (.slice a0 0 c):=by
  rw[←hc];exact hb1.cell (p:=ad) (by
   rcases Zt ad.block w.heap.size with h|h
   ·exact h
   ·have h0:w.heap[ad.block]? =none:=Array.getElem?_eq_none h;simp[World.cell?,h0]at hc)
 refine⟨w.heap.size+1,[{target:=.collected w.heap.size,args:= #[]}],W1,{target:=.fn (.func g) #[.pointer (some ad)],args:= #[.func (.yield (w.heap.size+1)) #[] #[]]},W1,g,
  #[.func (.yield (w.heap.size+1)) #[] #[]]++ #[.pointer (some ad)],W1,?_,?_,fun _ _=>trivial,?_,fun _=>Ze _,?_⟩
 ·rw[←hW1,hrec];exact run_enterLoop_outer _ _ _ _ _
 ·simp only[resolve,hf];simp[go_sem]
 ·simp[invoke,go_sem,hent]
 ·refine callsIn_wide.2 (Calls.mono (hcall (w.heap.size+1) ad a0 c W1 hc1) (fun e W2 he=>?_));obtain⟨⟨v,rfl⟩,hb2⟩:=he;have hL2:W2.heap[w.heap.size+1]? =some (.loop rec):=(hb2.block _ (by omega)).trans hL1;have hK2:W2.heap[w.heap.size]? =some (.deferred (some [])):=(hb2.block _ (by omega)).trans hK1;refine⟨none,W2.putObj (w.heap.size+1) (.loop {rec with state:=.exhausted}),?_,?_⟩
  ·rw[run_endLoop hL2 (by rw[hrec];simp),hrec]
  ·refine hK _ w.heap.size ?_ (Ze _) ?_
   ·have h2:Below w.heap.size w W2:=hb1.trans (hb2.mono (by omega));refine⟨h2.os,h2.tape,h2.output,?_,fun k hk=>?_⟩
    ·show _≤(W2.heap.setIfInBounds _ _).size;simpa using h2.size
    ·show(W2.heap.setIfInBounds _ _)[k]? =_;rw[Xy,if_neg (by omega)];exact h2.block k hk
   ·show(W2.heap.setIfInBounds _ _)[w.heap.size]? =_;rw[Xy,if_neg (by omega)];exact hK2
def Dr(n0:Nat)(i:Io)(s:AS)(w:World)(tm':Tm)(s':AS)(N:Nat)(K:Act→World→Prop):Prop:=
 ∀i' w' a' dl',Rel i' s' w'→Fr i s w i' s' w'→Dq n0 i' s' w' dl'→AR dl' i' tm' N a'→K a' w'
theorem Dr.plain{n0:Nat}{i:Io}{s s':AS}{w:World}{tm':Tm}{N:Nat}{K:Act→World→Prop}(h:Dr n0 i s w tm' s' N K)(hd:Dq n0 i s w dl):F9 dl i s w tm' s' N K:=
 fun i' w' a' hR hF ha=>h i' w' a' dl hR hF (hd.fr hF) ha
theorem Dr.head{n0:Nat}{i i1:Io}{s s1 s':AS}{w w1:World}{tm':Tm}{N:Nat}{K:Act→World→Prop}(h:Dr n0 i s w tm' s' N K)(hF:Fr i s w i1 s1 w1):Dr n0 i1 s1 w1 tm' s' N K:=
 fun i' w' a' dl' hR hF' hd ha=>h i' w' a' dl' hR (hF.trans hF') hd ha
theorem MG(hT:Gr E)(hB:gp E){call:Gu}(hC:Mz E.P call)(hD:ZW E call){N n0:Nat}:∀(F:Nat),
  (∀(c:Code) {tm tm':Tm} {i:Io} {s s':AS} {w:World} {a:Act} {dl:List Deferred} {x:X} {Q:Exit→Act→World→Prop},Hp E call N F c tm s=some (x,tm',s')→codeOk E.ty c=true→Rel i s w→Gl i→Dq n0 i s w dl→AR dl i tm N a→
   Dr n0 i s w tm' s' N (Q (exX x))→c.wp E.P Q a w)∧
  (∀(c:Code) {tm tm':Tm} {i:Io} {s s':AS} {w:World} {a:Act} {dl:List Deferred} {x:X} {Q:Exit→Act→World→Prop},Hp E call N F (.loop c) tm s=some (x,tm',s')→codeOk E.ty c=true→Rel i s w→Gl i→Dq n0 i s w dl→AR dl i tm N a→
   Dr n0 i s w tm' s' N (Q (exX x))→qz E.P c Q a w)
 |0=>⟨fun c _ _ _ _ _ _ _ _ _ _ h=>(by cases h),fun c _ _ _ _ _ _ _ _ _ _ h=>(by cases h)⟩
 |F+1=>by
  obtain⟨ih1,ih2⟩:=MG hT hB hC hD (N:=N) (n0:=n0) F;have hloop:∀(c:Code) {tm tm':Tm} {i:Io} {s s':AS} {w:World} {a:Act} {dl:List Deferred} {x:X} {Q:Exit→Act→World→Prop},Hp E call N (F+1) (.loop c) tm s=some (x,tm',s')→codeOk E.ty c=true→Rel i s w→Gl i→Dq n0 i s w dl→AR dl i tm N a→
    Dr n0 i s w tm' s' N (Q (exX x))→(Code.loop c).wp E.P Q a w∧qz E.P c Q a w:=by
   intro c tm tm' i s s' w a dl x Q h hok hR hg hd ha hK;refine Zav ?_;have h':C3 c E call N (Hp E call N F) tm s=some (x,tm',s'):=h;unfold C3 at h';split at h'
   ·cases h'
   ·rename_i y tm1 s1 hb;refine ih1 c hb hok hR hg hd ha (fun i1 w1 a1 dl1 hR1 hF1 hd1 ha1=>?_);cases y with
    |nor=>exact ih2 c h' hok hR1 (hg.mono hF1.le) hd1 ha1 (hK.head hF1)
    |exit j=>cases h';exact hK i1 w1 a1 dl1 hR1 hF1 hd1 ha1
    |ret=>cases h';exact hK i1 w1 a1 dl1 hR1 hF1 hd1 ha1
  refine⟨?_,fun c _ _ _ _ _ _ _ _ _ _ h hok hR hg hd ha hK=>(hloop c h hok hR hg hd ha hK).2⟩;intro c tm tm' i s s' w a dl x Q h hok hR hg hd ha hK;have h':pq c E call N (Hp E call N F) tm s=some (x,tm',s'):=h;cases c with
  |skip=>cases h';exact wp_skip (hK i w a dl hR (.refl _ _ _) hd ha)
  |ret=>cases h';exact wp_ret (hK i w a dl hR (.refl _ _ _) hd ha)
  |exit id=>cases h';exact wp_exit (hK i w a dl hR (.refl _ _ _) hd ha)
  |loop c=>exact(hloop c h hok hR hg hd ha hK).1
  |region id ops draw=>
   have h2:C1 ops draw E call N (Hp E call N F) tm s=some (x,tm',s'):=h';unfold C1 at h2;cases draw with
   |false=>
    simp only[cond_false]at h2;split at h2
    ·cases h2
    ·rename_i tm1 s1 hr;cases h2;exact wp_region_list (ZQ hT hC _ hr hR hg ha (hK.plain hd))
   |true=>
    simp only[cond_true]at h2;split at h2
    ·cases h2
    ·rename_i tm1 s1 hr;cases h2;exact hD N ops tm _ s _ hr hok dl i w a Q id hR hg ha (hK.plain hd)
  |seq c1 c2=>
   have h2:C2 c1 c2 E call N (Hp E call N F) tm s=some (x,tm',s'):=h';unfold C2 at h2;simp only[codeOk,Zi]at hok;split at h2
   ·cases h2
   ·rename_i y tm1 s1 hb;refine wp_seq (ih1 c1 hb hok.1 hR hg hd ha (fun i1 w1 a1 dl1 hR1 hF1 hd1 ha1=>?_));cases y with
    |nor=>exact ih1 c2 h2 hok.2 hR1 (hg.mono hF1.le) hd1 ha1 (hK.head hF1)
    |exit j=>cases h2;exact hK i1 w1 a1 dl1 hR1 hF1 hd1 ha1
    |ret=>cases h2;exact hK i1 w1 a1 dl1 hR1 hF1 hd1 ha1
  |cond y c1 c2=>
   have h2:F3 y c1 c2 E call N (Hp E call N F) tm s=some (x,tm',s'):=h';unfold F3 at h2;simp only[codeOk,Zi]at hok;split at h2
   ·rename_i t ht;have hv:=(ha.tm.tr hg) y _ ht;generalize hgy:a.eval y=y' at hv;cases hv;refine wp_cond hgy ?_;cases t with
    |true=>exact ih1 c1 h2 hok.1 hR hg hd ha hK
    |false=>exact ih1 c2 h2 hok.2 hR hg hd ha hK
   ·cases h2
  |block id c=>
   have h2:F4 id c E call N (Hp E call N F) tm s=some (x,tm',s'):=h';unfold F4 at h2;split at h2
   ·cases h2
   ·rename_i y tm1 s1 hb;refine wp_block (ih1 c hb hok hR hg hd ha (fun i1 w1 a1 dl1 hR1 hF1 hd1 ha1=>?_));cases y with
    |nor=>cases h2;exact hK i1 w1 a1 dl1 hR1 hF1 hd1 ha1
    |ret=>cases h2;exact hK i1 w1 a1 dl1 hR1 hF1 hd1 ha1
    |exit j=>
     simp only at h2;show Exit.inBlock id Q (.exit j) a1 w1;unfold Exit.inBlock;simp only;cases hj:Za j id with
     |true=>
      rw[hj]at h2;cases h2;rw[if_pos (by simpa using hj)];exact hK i1 w1 a1 dl1 hR1 hF1 hd1 ha1
     |false=>
      rw[hj]at h2;cases h2;rw[if_neg (fun e=>by subst e;rw[Yy]at hj;cases hj)];exact hK i1 w1 a1 dl1 hR1 hF1 hd1 ha1
  |rangeFunc f ps assign body=>
   have h2:z8 f E call N (Hp E call N F) tm s=some (x,tm',s'):=h';unfold z8 at h2;split at h2
   ·rename_i g p hf;cases hbk:E.back g with
    |false=>rw[hbk]at h2;cases h2
    |true=>
     rw[hbk,cond_true]at h2;split at h2
     ·rename_i a0 c0 hrd;cases h2;have hv:=(ha.tm.tr hg) f _ hf;generalize hgf:a.eval f=f' at hv;cases hv with| @func _ fa fa' fc fc' v1 v2=>
      cases v1;cases v2 with| @cons _ u _ l v3 v4=>
      cases v4;cases v3 with| @ptr b o q t hi=>
      obtain⟨v',g1,g2⟩:=hR.rd hrd hi;have hc:∃a1 c1,v'=.slice a1 0 c1:=by cases g2<;>exact⟨_,_,rfl⟩
      obtain⟨a1,c1,rfl⟩:=hc;refine Zaw hB hgf hbk g1 (fun w' D hb hD hw=>?_);obtain⟨hR',hF'⟩:=hR.below hb;have hno:∀b t,i b=some (D,t)→s.h.get b=none:=fun b t e=>by
       cases hg:s.h.get b with
       |none=>rfl
       |some o=>
        have:=hR.dom b D t e (.inl (by rw[hg];simp));omega
      refine hK i w' _ ({target:=.collected D,args:= #[]}::dl) hR' hF' ⟨Ye hd.1 hb.size,?_,fun d hm=>?_⟩ ⟨ha.tm,ha.size,by rw[←ha.defers]⟩
      ·refine Yz.2 ⟨fun hm=>?_,hd.2.1⟩;obtain⟨D',e1,_,e3,_⟩:=hd.2.2 _ hm;have:D=D':=by injection e1 with e1;injection e1
       subst this;have:=lt_of_some e3;omega
      ·rcases Zg.1 hm with rfl|hm
       ·exact⟨D,rfl,Ye hd.1 hD,hw,hno⟩
       ·exact(hd.fr hF').2.2 d hm
     ·cases h2
   ·cases h2
  |_=>cases h'
end
end Go.Ax
namespace Go.Ax
open Go Go.RowKit
structure q8(E:Env):Prop where
 fn : ∀ f fn, E.fn.get f = some fn → E.P.funcs[f]? = some fn ∧ (fn.name == "runtime.NumGoroutine") = false ∧ ∀ c, fn.body = some c → codeOk E.ty c = true
def ZL(E:Env):Prop:=
 ∀f p,E.prim.get f=some p→∀args s v s',p args s=some (v,s')→∀i w args',Rel i s w→Gl i→VRs i args args'→Nc E.P f args' i s w v s'
section
variable {dl:List Deferred}{E:Env}{i:Io}{s:AS}{w:World}
def q9(tmps:Array Value):ResultVar→Sem Value
 |.tmp t=>pure (tmps.getD t undef)
 |.cell a t=>do loadVar t (←asAddr (tmps.getD a undef))
theorem Zax(hT:Gr E){tm:Tm}{ts:Array Value}(hR:Rel i s w)(hm:TmR i tm ts)(r:ResultVar){v:Value}(h:(match r with
   |.tmp t=>tm.get t
   |.cell a t=>match E.ty.get t,tm.get a with
    |some i,some (.pointer (some p))=>bif Hw i.desc then(match rdN s p.block p.off i.size with
     |some l=>some (.agg ⟨l⟩)
     |none=>none)else rd s p.block p.off
    |_,_=>none)=some v):∃v',(q9 ts r).run E.P w=.ok v' w∧VR i v v':=by
 cases r with
 |tmp t=>exact⟨_,rfl,hm t v h⟩
 |cell a t=>
  simp only at h;split at h
  ·rename_i ti p ht hp;have hc:=hm a _ hp;unfold q9;generalize hg:ts.getD a undef=y at hc;cases hc with
   | @ptr b o q t' hi=>
    have hA:=ZZ hT ht w;have hS:=Hz hT ht w;cases hagg:Hw ti.desc with
    |true=>
     rw[hagg]at h hA;simp only[cond_true]at h;split at h
     ·rename_i l hl;cases h;obtain⟨l',h1,h2,_⟩:=hR.rdN (P:=E.P) hl hi;refine⟨.agg l'.toArray,?_,.agg h2⟩;show(do loadVar t (←asAddr (ts.getD a undef)):Sem Value).run E.P w=_;rw[hg];unfold loadVar;simp[hA,hS,h1,asAddr]
     ·cases h
    |false=>
     rw[hagg]at h hA;simp only[cond_false]at h;obtain⟨v',h1,h2⟩:=hR.rd h hi;refine⟨v',?_,h2⟩;show(do loadVar t (←asAddr (ts.getD a undef)):Sem Value).run E.P w=_;rw[hg];unfold loadVar;simp[hA,h1,asAddr]
  ·cases h
theorem MH(hT:Gr E){tm:Tm}{ts:Array Value}(hR:Rel i s w)(hm:TmR i tm ts):∀(l:List ResultVar) {vs:List Value},Be E tm s l=some vs→∃vs',(l.mapM (q9 ts)).run E.P w=.ok vs' w∧VRs i vs vs'
 |[],vs,h=>by cases h;exact⟨[],rfl,.nil⟩
 |r::l,vs,h=>by
  have h':(match (match r with
   |.tmp t=>tm.get t
   |.cell a t=>match E.ty.get t,tm.get a with
    |some i,some (.pointer (some p))=>bif Hw i.desc then(match rdN s p.block p.off i.size with
     |some l=>some (.agg ⟨l⟩)
     |none=>none)else rd s p.block p.off
    |_,_=>none)with
   |none=>none
   |some v=>match Be E tm s l with
    |none=>none
    |some vs=>some (v::vs))=some vs:=h
  clear h;split at h'
  ·cases h'
  ·rename_i v hv;obtain⟨v',h1,h2⟩:=Zax hT hR hm r hv;split at h'
   ·cases h'
   ·rename_i us hus;cases h';obtain⟨us',h3,h4⟩:=MH hT hR hm l hus;refine⟨v'::us',?_,.cons h2 h4⟩;rw[List.mapM_cons];simp only[Sem.run_bind,h1,h3,Result.andThen_ok,Sem.run_pure]
theorem Zay(hT:Gr E){tm:Tm}{ts:Array Value}(hR:Rel i s w)(hm:TmR i tm ts)(fn:Func){vs:List Value}(h:Be E tm s fn.results.toList=some vs):∃v',(results fn ts).run E.P w=.ok v' w∧VR i (Bt vs) v':=by
 obtain⟨vs',h1,h2⟩:=MH hT hR hm _ h;have e:results fn ts=(do
   let vs←fn.results.mapM (q9 ts)
   pure (if h:vs.size=1 then vs[0]else .tuple vs)):=by
  unfold results;congr 2
 rw[e,Array.mapM_eq_mapM_toList];simp only[map_eq_pure_bind,Sem.run_bind,h1,Result.andThen_ok,Sem.run_pure];refine⟨_,rfl,?_⟩;cases h2 with
 |nil=>exact .tuple .nil
 |cons g1 g2=>
  cases g2 with
  |nil=>exact g1
  |cons g3 g4=>exact .tuple (.cons g1 (.cons g3 g4))
theorem Zaz{args args':List Value}(n:Nat)(h:VRs i args args'):TmR i (T.e.fill 0 args) (⟨args'⟩++Kg n undef:Array Value):=by
 intro k v e;rw[T.get_fill]at e;by_cases hk:0≤k∧k<0+args.length
 ·rw[if_pos hk]at e;obtain⟨v',h1,h2⟩:=h.get e;have hlen:=h.length;rw[Xg,Jl (by simp;omega)];have:(⟨args'⟩:Array Value)[k]? =args'[k]? :=by simp
  rw[this];simp only[Yl]at h1;rw[h1];exact h2
 ·rw[if_neg hk]at e;cases e
theorem Rel.put{i:Io}{s:AS}{w:World}{D:Nat}(h:Rel i s w)(o:Obj)(hn:∀b t,i b=some (D,t)→s.h.get b=none):Rel i s (w.putObj D o):=by
 have hd:∀b q t,i b=some (q,t)→s.h.get b≠none→(w.putObj D o).heap[q]? =w.heap[q]? :=fun b q t e g=>by
  show(w.heap.setIfInBounds D o)[q]? =_;rw[Xy,if_neg (fun e'=>by subst e';exact g (hn b t e))]
 have hs:(w.putObj D o).heap.size=w.heap.size:=by
  show(w.heap.setIfInBounds D o).size=_;simp
 refine⟨fun b x ho ha=>?_,h.inj,h.fresh,fun b c n z q t ho e=>?_,fun b q t e g=>by rw[hs];exact h.dom b q t e g⟩
 ·obtain⟨q,t,e,hor⟩:=h.obj b x ho ha;exact⟨q,t,e,by rw[hd b q t e (by rw[ho];simp)];exact hor⟩
 ·obtain⟨l1,l2⟩:=h.lim b c n z q t ho e;exact⟨l1,fun cs e' fr hw=>l2 cs e' fr (by rw[←hd b q t e (by rw[ho];simp)];exact hw)⟩
theorem MM{P:Program}{fn:Func}{tmps:Array Value}{R:Ending→World→Prop}{n:Nat}{i0 i:Io}{s0 s:AS}{w0:World}:∀ {dl:List Deferred} {w:World},Dq w0.heap.size i s w dl→Rel i s w→Fr i0 s0 w0 i s w→
  (∀w',Rel i s w'→Fr i0 s0 w0 i s w'→∃v,(results fn tmps).run P w'=.ok v w'∧R (.returned v) w')→LeavesInM Fence.wide n P fn tmps R dl .returning w
 |[],w,_,hR,hF,h=>h w hR hF
 |d::dl,w,hd,hR,hF,h=>by
  obtain⟨D,rfl,h2,h3,h4⟩:=hd.2.2 d (by simp);refine⟨by simp,.inl ⟨D,w.putObj D (.deferred none),rfl,run_takeDeferred h3,?_⟩⟩;have hs:(w.putObj D (.deferred none)).heap.size=w.heap.size:=by
   show(w.heap.setIfInBounds D _).size=_;simp
  have hne:∀k,k≠D→(w.putObj D (.deferred none)).heap[k]? =w.heap[k]? :=fun k hk=>by
   show(w.heap.setIfInBounds D _)[k]? =_;rw[Xy,if_neg (fun e=>hk e.symm)]
  refine MM ?_ (hR.put _ h4) ⟨hF.le,hF.new,hF.os,hF.tape,hF.output,by rw[hs];exact hF.size,fun q hq hn=>?_,hF.ro,hF.nx,hF.dom,hF.gone,hF.stay⟩ h
  ·refine⟨by rw[hs];exact hd.1,(Yz.1 hd.2.1).2,fun d' hd'=>?_⟩;obtain⟨D',rfl,g2,g3,g4⟩:=hd.2.2 d' (by simp[hd']);refine⟨D',rfl,g2,?_,g4⟩;rw[hne D' (fun e=>by subst e;exact(Yz.1 hd.2.1).1 hd')];exact g3
  ·rw[hne q (by omega)];exact hF.keep q hq hn
theorem MN(hT:Gr E)(hB:gp E)(hF:q8 E)(hP:ZL E)(hDr:∀call,Mz E.P call→ZW E call)(F:Nat):∀D,Mz E.P (Gw E F D)
 |0=>fun f args s v s' h=>by cases h
 |D+1=>by
  intro f args s v s' h i w args' hR hg ha;have ih:=MN hT hB hF hP hDr F D;have h':(match E.prim.get f with
   |some p=>p args s
   |none=>match E.fn.get f with
    |none=>none
    |some fn=>match fn.body with
     |none=>none
     |some c=>bif Za fn.ntmps 0 then none else Hf (Nat.pred fn.ntmps) fun N=>match Hp E (Gw E F D) N F c (T.e.fill 0 args) s with
      |some (.exit _,_,_)=>none
      |none=>none
      |some (_,tm,s')=>match Be E tm s' fn.results.toList with
       |none=>none
       |some vs=>some (Bt vs,s'))=some (v,s'):=h
  clear h;split at h'
  ·rename_i p hp;exact hP f p hp args s v s' h' i w args' hR hg ha
  ·split at h'
   ·cases h'
   ·rename_i fn hfn;obtain⟨hf1,hf2,hf3⟩:=hF.fn f fn hfn;split at h'
    ·cases h'
    ·rename_i c hc;cases hn:Za fn.ntmps 0 with
     |true=>rw[hn]at h';cases h'
     |false=>
      rw[hn,cond_false,natK_eq]at h';have hne:fn.ntmps≠0:=fun e=>by rw[e]at hn;cases hn
      refine .inr ⟨?_,?_⟩
      ·unfold callFunc
       have hf2' : fn.name ≠ "runtime.NumGoroutine" := by simpa using hf2
       simp[hf1,hf2',hc]
      ·refine(callsIn_wide (n:=1)).1 (callsIn_of_wp_marks hf1 hc trivial (wpIn_wide.2 ?_) rfl);have hsz:fn.ntmps.pred<((⟨args'⟩:Array Value)++Kg (fn.ntmps-(⟨args'⟩:Array Value).size) undef).size:=by
        rw[Zoq,Array.size_replicate,Nat.pred_eq_sub_one];omega
       have hstart:AR [] i (T.e.fill 0 args) fn.ntmps.pred {tmps:=⟨args'⟩++Kg (fn.ntmps-(⟨args'⟩:Array Value).size) undef,defers:=[]}:=⟨Zaz _ ha,hsz,rfl⟩;have hend:∀(x:X) (tm:Tm) (s1:AS),(x=.nor∨x=.ret)→(match Be E tm s1 fn.results.toList with
         |none=>none
         |some vs=>some (Bt vs,s1))=some (v,s')→Dr w.heap.size i s w tm s1 fn.ntmps.pred (bodyPostM Fence.wide 1 E.P fn (qt i s w v s') (exX x)):=by
        intro x tm s1 hx hres i' w' a' dl' hR' hF' hd' ha';split at hres
        ·cases hres
        ·rename_i vs hvs;cases hres;have:LeavesInM Fence.wide 1 E.P fn a'.tmps (qt i s w (Bt vs) s') a'.defers .returning w':=by
          rw[ha'.defers];refine MM hd' hR' hF' (fun w2 hR2 hF2=>?_);obtain⟨v',g1,g2⟩:=Zay hT hR2 ha'.tm fn hvs;exact⟨v',g1,i',g2,hR2,hF2⟩
         rcases hx with rfl|rfl<;>exact this
       split at h'
       ·cases h'
       ·cases h'
       ·rename_i x tm s1 hnx hcode;refine(MG hT hB ih (hDr _ ih) F).1 c hcode (hf3 c hc) hR hg ⟨Ze _,List.nodup_nil,fun d hd=>by cases hd⟩ hstart (hend x tm s1 ?_ h');cases x with
        |nor=>exact .inl rfl
        |ret=>exact .inr rfl
        |exit j=>exact(hnx j rfl).elim
end
end Go.Ax
namespace Go.Ax
open Go
section
variable {E:Env}{i:Io}{w:World}
def B9(P:Program)(i:Io)(w:World)(m:Sem Value)(b:Nat)(v:Value)(o:Gg):Prop:=
 ∃v' x w1,m.run P w=.ok v' w1∧w1.heap=(Hn w x).heap∧w1.os=w.os∧w1.tape=w.tape∧w1.output=w.output∧
  (∀c n z,o=.cells c n z→zs z=0)∧alive o=true∧fixed o=false∧∀j,Le i j→j b=some (w.heap.size,0)→VR j v v'∧OR j o (some x) 0
theorem B9.rowz{P:Program}{m:Sem Value}{b:Nat}{l l':List Value}(hv:VRs i l l')(e:TypeId)(z:Nat)(hze:ze z≠0→e+1=ze z)(hzs:zs z=0){w1:World}(hw1:w1.heap=w.heap)(ho:w1.os=w.os)(ht:w1.tape=w.tape)(hp:w1.output=w.output){v v':Value}
  (hr:m.run P w=.ok v' (Hn w1 (.cells l'.toArray e (0,0)))) (hvr:∀j:Io,Le i j→j b=some (w.heap.size,0)→VR j v v'):B9 P i w m b v (.cells (T.e.fill 0 l) l.length z):=by
 refine⟨v',.cells l'.toArray e (0,0),_,hr,?_,ho,ht,hp,fun c n z h=>by cases h;exact hzs,rfl,rfl,fun j hle hj=>⟨hvr j hle hj,?_⟩⟩
 ·show w1.heap.push _=w.heap.push _;rw[hw1]
 ·exact OR.row (hv.mono hle) _ _ _ z hze (.inl rfl) 0 (by simp[hv.length]) (fun k _=>by simp)
theorem B9.row{P:Program}{m:Sem Value}{b:Nat}{l l':List Value}(hv:VRs i l l')(e:TypeId){w1:World}(hw1:w1.heap=w.heap)(ho:w1.os=w.os)(ht:w1.tape=w.tape)(hp:w1.output=w.output){v v':Value}
  (hr:m.run P w=.ok v' (Hn w1 (.cells l'.toArray e (0,0)))) (hvr:∀j:Io,Le i j→j b=some (w.heap.size,0)→VR j v v'):B9 P i w m b v (.cells (T.e.fill 0 l) l.length 0):=
 B9.rowz hv e 0 (fun h=>absurd rfl h) rfl hw1 ho ht hp hr hvr
theorem I3(b:Nat)(o:Gg):((⟨.e,b⟩:AS).new o).h.get b=some o:=by
 show((T.e:T Gg).set b o).get b=some o;exact T.get_set_same _ _ _
theorem Za0{op:Op}{tm:Tm}{b:Nat}{v:Value}{o:Gg}(h:N4 op E tm b=some (v,o)):∃s',opA op E tm ⟨.e,b⟩=some (v,s')∧s'.h.get b=some o:=by
 unfold N4 at h;split at h
 ·cases h
 ·rename_i v1 s1 h1;split at h
  ·cases h
  ·rename_i o1 h2;cases h;exact⟨s1,h1,h2⟩
theorem Za1(hT:Gr E){o:Oper}(hn:Gv o.op=true){tm:Tm}{ρ:Operand→Value}(hρ:TR i tm ρ){b:Nat}{v:Value}{ob:Gg}(h:N4 o.op E tm b=some (v,ob)):
  ∃m:Sem Value,execOp ρ o=(do let v←m;Pure.pure (Next.value v))∧B9 E.P i w m b v ob:=by
 obtain⟨s',h1,h2⟩:=Za0 h;clear h;cases ho:o.op<;>rw[ho]at hn h1<;>first|(cases hn;done)|skip
 case alloc t=>
  refine⟨Instr.alloc t true (.tuple #[]),by unfold execOp;rw[ho],?_⟩;simp only[opA,Fq]at h1;split at h1
  ·rename_i ti ht;cases h1;rw[AS.rowz,I3]at h2;cases h2;obtain⟨zv,g1,g2,g3,_⟩:=Dn hT ht w;refine B9.rowz (l':=zv.cells.toList) (by rw[←g2];exact(g3 i).cells) t (tz 0 t) (fun _=>(Nz (by omega)).symm) (Na (by omega)) (w1:=w) rfl rfl rfl rfl (v':=.pointer (some ⟨w.heap.size,0,none⟩)) ?_ (fun j _ hj=>?_)
   ·unfold Instr.alloc newVar newRow;simp[g1,Hn]
   ·have:=VR.ptr (o:=0) hj;exact this
  ·cases h1
 case box t x=>
  refine⟨Instr.box t (ρ x),by unfold execOp;rw[ho],?_⟩;simp only[opA,Dj]at h1;split at h1
  ·rename_i u hu;cases h1;rw[AS.rowz,I3]at h2;cases h2;refine B9.rowz (l':=(ρ x).cells.toList) (hρ x _ hu).cells t (tz 0 t) (fun _=>(Nz (by omega)).symm) (Na (by omega)) (w1:=w) rfl rfl rfl rfl (v':=.pointer (some ⟨w.heap.size,0,none⟩)) ?_ (fun j _ hj=>?_)
   ·unfold Instr.box newVar newRow;simp[Hn]
   ·have:=VR.ptr (o:=0) hj;exact this
  ·cases h1
 case buildSlice t n ps=>
  refine⟨Instr.buildSlice t n (ps.map fun(k,x)=>(k,ρ x)),by unfold execOp;rw[ho],?_⟩;simp only[opA,N1]at h1;split at h1
  ·rename_i ti l ht hl;obtain⟨hl1,hl2⟩:=qh hρ hl;have hd:=G0 hT ht w;split at h1
   ·rename_i e hdesc;split at h1
    ·cases h1
    ·rename_i tj hj;cases hb:Zb (n*tj.size) 65536 with
     |false=>rw[hb]at h1;cases h1
     |true=>
      rw[hb,cond_true]at h1;have hle:n*tj.size≤65536:=by simpa using hb
      split at h1
      ·cases h1
      ·rename_i cs hcs;cases h1;simp only[AS.row,AS.rowz,I3]at h2;cases h2;obtain⟨zv,hz1,hz2,hz3,_,_,hzl⟩:=Dn hT hj w;have hrc:VRs i (rep n tj.zero) (rep n zv.cells.toList):=VRs.rep n (by rw[←hz2];exact(hz3 i).cells);obtain⟨r',k1,k2⟩:=gj (i:=i) (fun k=>some (k*tj.size,tj.size)) l _ _ _ _ cs hl1 hl2 hrc hcs;have hzs:zv.cells.size=tj.size:=by rw[←Y6,hz2];exact hzl
       have key:(Instr.buildSlice t n (ps.map fun(k,x)=>(k,ρ x))).run E.P w=.ok (.slice (some ⟨w.heap.size,0,none⟩) n n) (Hn w (.cells r'.toArray e (0,0))):=by
        unfold Instr.buildSlice;simp only[Sem.run_bind,hd,hdesc,Hz hT hj,Result.andThen_ok];rw[if_neg (by omega)];have hf:∀zc:Array Value,((Vr (n*tj.size)).map (fun k=>zc[k%zc.size]!)).toList=rep n zv.cells.toList→
          Instr.fill (fun i=>some (i*tj.size,tj.size)) ((Vr (n*tj.size)).map (fun k=>zc[k%zc.size]!)) (ps.map fun(k,x)=>(k,ρ x)).toList=some ⟨r'⟩:=by
         intro zc hzc;rw[qj,←k1];congr 1;exact Yt hzc
        by_cases hz0:n*tj.size=0
        ·rw[if_pos hz0];have:=hf #[] (by
          rw[hz0];have:(rep n zv.cells.toList).length=0:=by rw[Iy,Y6,hzs,hz0]
          rw[Vg this];simp)
         simp only[Sem.run_bind,Sem.run_pure,Result.andThen_ok,this,newRow,run_newObj];rfl
        ·rw[if_neg hz0];have:=hf zv.cells (by rw[←hzs];exact Iz n zv.cells);simp only[Sem.run_bind,Sem.run_pure,Result.andThen_ok,hz1,this,newRow,run_newObj];rfl
       exact B9.row k2 e (w1:=w) rfl rfl rfl rfl key (fun j _ hj=>.slice hj (by omega) (by omega) (by omega) (.inl rfl) (fun h0=>by omega))
   ·cases h1
  ·cases h1
 case makeMap t r=>
  refine⟨Instr.makeMap t (r.map ρ),by unfold execOp;rw[ho],?_⟩;simp only[opA]at h1;have hend:v=.map (some b)→ob=.map []→(Instr.makeMap t (r.map ρ)).run E.P w=.ok (.map (some w.heap.size)) (Hn w (.map #[] 0))→B9 E.P i w (Instr.makeMap t (r.map ρ)) b v ob:=by
   intro e1 e2 hr;subst e1;subst e2;exact⟨_,_,_,hr,rfl,rfl,rfl,rfl,fun c n z h=>(by cases h),rfl,rfl,fun j _ hj=>⟨.map hj,rfl, #[],0,[],rfl,List.Perm.refl _,.nil,List.Pairwise.nil,.nil _⟩⟩
  unfold fp at h1;cases r with
  |none=>
   cases h1;rw[I3]at h2;cases h2;exact hend rfl rfl rfl
  |some x=>
   simp only at h1;split at h1
   ·rename_i kt et a b' c k n ht hn';cases h1;rw[I3]at h2;cases h2;have hc:=hρ x _ hn';refine hend rfl rfl ?_;generalize hg:ρ x=y at hc;cases hc;unfold Instr.makeMap;simp only[Xc,hg];have hd:=G0 hT ht w;simp only[Sem.run_bind,hd,Result.andThen_ok];simp[asInt,asIntOf];rfl
   ·cases h1
 case makeSlice t l c=>
  refine⟨Instr.makeSlice t (ρ l) (ρ c),by unfold execOp;rw[ho],?_⟩;simp only[opA]at h1;unfold Ta at h1;split at h1
  ·rename_i ti k n k' m ht hn hm;have hcn:=hρ l _ hn;generalize hgn:ρ l=yn at hcn;cases hcn;have hcm:=hρ c _ hm;generalize hgm:ρ c=ym at hcm;cases hcm;have hd:=G0 hT ht w;split at h1
   ·rename_i e hdesc;split at h1
    ·cases h1
    ·rename_i tj hj;split at h1
     ·rename_i hcond;cases h1;simp only[AS.row,AS.rowz,I3]at h2;cases h2;obtain⟨c1,c2,c3,c4⟩:=hcond;obtain⟨zv,hz1,hz2,hz3,_,_,hzl⟩:=Dn hT hj w;obtain⟨info,hi1,hi2,hi3⟩:=z9 hT hj w;have hzs:zv.cells.size=tj.size:=by rw[←Y6,hz2];exact hzl
      have hw1:IntKind.i64.wrap n=n:=by
       rw[←gh];show wrS 18446744073709551616 9223372036854775808 n=n;rw[F6 _ _ (by decide)];unfold small at c4;have:n%((18446744073709551616:Nat):Int)=n:=Uh c1 (by omega);rw[this,if_neg (by omega)]
      have hw2:IntKind.i64.wrap m=m:=by
       rw[←gh];show wrS 18446744073709551616 9223372036854775808 m=m;rw[F6 _ _ (by decide)];unfold small at c4;have:m%((18446744073709551616:Nat):Int)=m:=Uh (by omega) (by omega);rw[this,if_neg (by omega)]
      have key:(Instr.makeSlice t (.int k n) (.int k' m)).run E.P w=.ok (.slice (some ⟨w.heap.size,0,none⟩) n.toNat m.toNat) (Hn w (.cells (rep m.toNat zv.cells.toList).toArray e (0,0))):=by
       unfold Instr.makeSlice;simp only[Sem.run_bind,hd,hdesc,Result.andThen_ok,asInt,asIntOf,Sem.run_pure,hi1,hi3,hw1,hw2,Hz hT hj];have hbig:(tj.bytes:Int)*m≤small:=by rw[Int.mul_comm];exact c3
       have hneg:¬((decide (m<0)||decide ((tj.bytes:Int)*m>2^48)||decide (n<0)||decide (n>m))=true):=by
        simp only[Yq,decide_eq_true_eq];unfold small at hbig;omega
       rw[if_neg hneg];simp only[Sem.run_bind,run_askRoom,Result.andThen_ok,Sem.run_pure,Hz hT hj];by_cases hz0:m.toNat* tj.size=0
       ·rw[if_pos hz0];have hr0:rep m.toNat zv.cells.toList=[]:=by
         apply Vg;rw[Iy,Y6,hzs,hz0]
        have hm0:(Vr 0).map (fun k=>(#[]:Array Value)[k%(#[]:Array Value).size]!)= #[]:=by simp
        simp only[Sem.run_bind,Sem.run_pure,Result.andThen_ok,hz0,newRow,run_newObj,hr0,hm0];rfl
       ·rw[if_neg hz0];have:(Vr (m.toNat* tj.size)).map (fun k=>zv.cells[k%zv.cells.size]!)=(rep m.toNat zv.cells.toList).toArray:=by
         apply Yt;rw[←hzs,Iz]
        simp only[Sem.run_bind,hz1,Result.andThen_ok,Sem.run_pure,this,newRow,run_newObj];rfl
      have hrc:VRs i (rep m.toNat tj.zero) (rep m.toNat zv.cells.toList):=VRs.rep _ (by rw[←hz2];exact(hz3 i).cells);exact B9.row hrc e (w1:=w) rfl rfl rfl rfl key (fun j _ hj=>.slice hj (by omega) (by omega) (by omega) (.inl rfl) (fun h0=>by omega))
     ·cases h1
   ·cases h1
  ·cases h1
end
end Go.Ax
namespace Go.Ax
open Go
section
variable {E:Env}{s:AS}{tm tm':Tm}
theorem gq :∀ {l:List Operand},(∀x∈l,ev tm' x=ev tm x)→evs tm' l=evs tm l
 |[],_=>rfl
 |x::l,h=>by
  simp only[evs];rw[h x (by simp),gq (fun y hy=>h y (by simp[hy]))]
theorem ZP :∀ {l:List (Nat×Operand)},(∀x∈l.map (·.2),ev tm' x=ev tm x)→partsOf tm' l=partsOf tm l
 |[],_=>rfl
 |(k,x)::l,h=>by
  simp only[partsOf];rw[h x (by simp),ZP (fun y hy=>h y (by simp only[Zr,Zg];exact .inr hy))]
theorem YZ{d m:Nat}{x:Option Operand}(h:∀y∈x.toList,ev tm' y=ev tm y):bnd tm' d m x=bnd tm d m x:=by
 cases x with
 |none=>rfl
 |some y=>simp only[bnd,h y (by simp)]
theorem MB{n c:Nat}{lo hi mx:Option Operand}(h1:∀y∈lo.toList,ev tm' y=ev tm y)(h2:∀y∈hi.toList,ev tm' y=ev tm y)(h3:∀y∈mx.toList,ev tm' y=ev tm y):
  Mn tm' n c lo hi mx=Mn tm n c lo hi mx:=by
 unfold Mn;rw[YZ h3];simp only[YZ h1,YZ h2]
theorem Za2{t:TypeId}{v:Value}{lo hi mx:Option Operand}(h1:∀y∈lo.toList,ev tm' y=ev tm y)(h2:∀y∈hi.toList,ev tm' y=ev tm y)(h3:∀y∈mx.toList,ev tm' y=ev tm y):
  Bc E s tm' t v lo hi mx=Bc E s tm t v lo hi mx:=by
 unfold Bc;simp only[MB h1 h2 h3,MB (mx:=none) h1 h2 (fun y hy=>by simp at hy)]
theorem YY(op:Op)(h:∀x∈op.operands,ev tm' x=ev tm x):opA op E tm' s=opA op E tm s:=by
 cases op<;>simp only[Op.operands]at h<;>simp only[opA]<;>try rfl
 case build t ps=>simp only[Fs];rw[ZP (fun x hx=>h x (by simpa using hx))]
 case buildSlice t n ps=>simp only[N1];rw[ZP (fun x hx=>h x (by simpa using hx))]
 case makeFunc f a b=>
  simp only[Fv];rw[gq (fun x hx=>h x (by simp[Jo.1 hx])),gq (l:=b.toList) (fun x hx=>h x (by simp[Jo.1 hx]))]
 case makeMap t r=>
  cases r with
  |none=>rfl
  |some x=>simp only[fp];rw[h x (by simp)]
 case slice t x lo hi mx=>
  simp only[No];rw[h x (by simp)];simp only[Za2 (tm:=tm) (tm':=tm') (E:=E) (s:=s) (t:=t) (lo:=lo) (hi:=hi) (mx:=mx) (fun y hy=>h y (by simp_all)) (fun y hy=>h y (by simp_all)) (fun y hy=>h y (by simp_all))]
 case call c=>
  simp only[Br];split
  ·rw[gq (fun x hx=>h x (by simp[Call.operands,Jo.1 hx]))]
  ·rfl
 case pick c a b=>
  simp only[Cz];rw[h c (by simp)];split
  ·rename_i t _;cases t with
   |true=>simp only[cond_true];rw[h a (by simp)]
   |false=>simp only[cond_false];rw[h b (by simp)]
  ·rfl
 all_goals
  simp only[B5,Dj,Bd,Ft,R9,M5,hUn,N2,Fu,Ta,Fw,Is,C0,Fx,Tb,Tc,m9,pf,Td,Fy];simp (disch:=simp) only[h]
theorem Za3{t:TypeId}{di:TI}(h:pj E.ty t=true)(hd:E.ty.get t=some di):(∃k,di.desc=.int k)∨∃k,di.desc=.float k:=by
 unfold pj at h;rw[hd]at h;simp only at h;split at h
 ·rename_i k hk;exact .inl ⟨k,hk⟩
 ·rename_i k hk;exact .inr ⟨k,hk⟩
 ·cases h
theorem MC{a b:TypeId}{x v:Value}{s':AS}(hn:pj E.ty b=true)(h:Cy E s a b x=some (v,s')):s'=s∧∀s2,Cy E s2 a b x=some (v,s2):=by
 unfold Cy at h ⊢;split at h
 ·rename_i si di hsi hdi;have hd:=Za3 hn hdi;have key:∀ {r:Option (Value×AS)},(Ir E s a b x=some (v,s'))→s'=s∧∀s2,Ir E s2 a b x=some (v,s2):=by
   intro _ h;unfold Ir at h ⊢;cases hp:plain x with
   |false=>rw[hp]at h;cases h
   |true=>
    rw[hp,cond_true]at h;split at h
    ·rename_i u hu;cases hpu:plain u with
     |false=>rw[hpu]at h;cases h
     |true=>
      rw[hpu,cond_true]at h;cases h;exact⟨rfl,fun s2=>by simp[hu,hpu]⟩
    ·cases h
  split at h
  ·rename_i k k' n hk;split at h
   ·rename_i u hu;cases h;exact⟨rfl,fun s2=>by simp[hk,hu]⟩
   ·cases h
  ·rename_i bs hk;rcases hd with⟨k,hk'⟩|⟨k,hk'⟩<;>rw[hk']at hk<;>cases hk
  ·rename_i e bs hk;rcases hd with⟨k,hk'⟩|⟨k,hk'⟩<;>rw[hk']at hk<;>cases hk
  ·rename_i e aa n c hk1 hk;rcases hd with⟨k,hk'⟩|⟨k,hk'⟩<;>rw[hk']at hk<;>cases hk
  ·rename_i e0 e aa n c hk1 hk;rcases hd with⟨k,hk'⟩|⟨k,hk'⟩<;>rw[hk']at hk<;>cases hk
  ·rename_i t0 p hk1 hk;rcases hd with⟨k,hk'⟩|⟨k,hk'⟩<;>rw[hk']at hk<;>cases hk
  ·rename_i t0 p hk1 hk;rcases hd with⟨k,hk'⟩|⟨k,hk'⟩<;>rw[hk']at hk<;>cases hk
  ·rename_i h1 h2 h3 h4;exact key (r:=none) h
 ·cases h
theorem YX{op:Op}(he:eff E.ty op=false)(hn:Gv op=false){v:Value}{s':AS}(h:opA op E tm s=some (v,s')):s'=s:=by
 cases op<;>simp only[opA]at h<;>first
  |(simp[eff]at he;done)
  |(simp[Gv]at hn;done)
  |(cases h;done)
  |skip
 case convert a b x=>
  simp only[N2]at h;split at h
  ·exact(MC (by simpa[eff]using he) h).1
  ·cases h
 case call c=>
  obtain⟨callee,args,ats⟩:=c;cases callee with
  |value f=>simp[eff]at he
  |invoke r m=>simp[eff]at he
  |builtin b=>
   simp only[Br]at h;split at h
   ·unfold R8 at h;split at h<;>first
     |(simp[eff]at he;done)
     |(split at h<;>cases h;rfl)
     |(cases h;done)
   ·cases h
 all_goals
  simp only[B5,Cz,Bd,Fs,R9,M5,hUn,Fu,Fv,Fw,Is,C0,Fx,Tb,Td,Fy,No,natK_eq,Zor]at h
  repeat' (split at h)
  all_goals first
   |(cases h;done)
   |(cases h;rfl)
   |skip
theorem Za4{op:Op}(he:eff E.ty op=false)(hn:Gv op=false)(hs:Dk op=false){v:Value}{s':AS}(h:opA op E tm s=some (v,s'))(s2:AS):opA op E tm s2=some (v,s2):=by
 cases op<;>simp only[opA]at h ⊢ <;>first
  |(simp[eff]at he;done)
  |(simp[Gv]at hn;done)
  |(simp[Dk]at hs;done)
  |(cases h;done)
  |skip
 case convert a b x=>
  simp only[N2]at h ⊢;split at h
  ·exact(MC (by simpa[eff]using he) h).2 s2
  ·cases h
 all_goals
  simp only[B5,Cz,Fs,hUn,Fu,Fv,Fw,Is,C0,Fx,Fy,natK_eq,Zor]at h ⊢
  repeat' (split at h)
  all_goals first
   |(cases h;done)
   |(cases h;simp_all;done)
   |skip
end
end Go.Ax
namespace Go.Ax
open Go
structure Ent where
 tm:Tm
 s:AS
 run:Bool
 v:Value
 s':AS
 x:Gg
section
variable {E:Env}{call:Gu}{N:Nat}{ops:List Oper}{an:List Nat}{base:Nat}
inductive Lex(E:Env)(call:Gu)(N:Nat)(ops:List Oper)(an:List Nat)(base:Nat):Nat→List Oper→Tm→AS→Gy→List Ent→Tm→AS→Gy→Prop
 |nil (i:Nat) (tm:Tm) (s:AS) (nw:Gy):Lex E call N ops an base i [] tm s nw [] tm s nw
 |skip {i:Nat} {o:Oper} {l:List Oper} {tm tm1 tm':Tm} {s s':AS} {nw nw':Gy} {tr:List Ent} (h1:Ha ops tm o=some false) (h2:Gq N tm o.dst undef=some tm1) (h3:Lex E call N ops an base (i+1) l tm1 s nw tr tm' s' nw'):
   Lex E call N ops an base i (o::l) tm s nw (⟨tm,s,false,undef,s,.dead⟩::tr) tm' s' nw'
 |fresh {i:Nat} {o:Oper} {l:List Oper} {tm tm1 tm':Tm} {s s':AS} {nw nw':Gy} {v:Value} {x:Gg} {tr:List Ent} (h1:Ha ops tm o=some true) (hn:Gv o.op=true) (h2:N4 o.op E tm (base+i)=some (v,x)) (h3:Gq N tm o.dst v=some tm1)
   (h4:Lex E call N ops an base (i+1) l tm1 s (nw++[(i,x)]) tr tm' s' nw'):Lex E call N ops an base i (o::l) tm s nw (⟨tm,s,true,v,s,x⟩::tr) tm' s' nw'
 |act {i:Nat} {o:Oper} {l:List Oper} {tm tm1 tm':Tm} {s s1 s':AS} {nw nw':Gy} {v:Value} {tr:List Ent} (h1:Ha ops tm o=some true) (hn:Gv o.op=false) (he:eff E.ty o.op=true) (h2:Hb o.op E call tm (laid base (an.getD i 0) nw s)=some (v,s1)) (h3:Gq N tm o.dst v=some tm1)
   (h4:Lex E call N ops an base (i+1) l tm1 s1 nw tr tm' s' nw'):Lex E call N ops an base i (o::l) tm s nw (⟨tm,s,true,v,s1,.dead⟩::tr) tm' s' nw'
 |look {i:Nat} {o:Oper} {l:List Oper} {tm tm1 tm':Tm} {s s1 s':AS} {nw nw':Gy} {v:Value} {tr:List Ent} (h1:Ha ops tm o=some true) (hn:Gv o.op=false) (he:eff E.ty o.op=false) (h2:Hb o.op E call tm (laid base (an.getD i 0) nw s)=some (v,s1)) (h3:Gq N tm o.dst v=some tm1)
   (h4:Lex E call N ops an base (i+1) l tm1 s nw tr tm' s' nw'):Lex E call N ops an base i (o::l) tm s nw (⟨tm,s,true,v,s,.dead⟩::tr) tm' s' nw'
theorem YV{op:Op}{tm:Tm}{s:AS}(he:eff E.ty op=false):Hb op E call tm s=opA op E tm s:=by
 cases op<;>try rfl
 case call c=>
  obtain⟨callee,args,ats⟩:=c;cases callee with
  |value f=>simp[eff]at he
  |invoke r m=>rfl
  |builtin b=>rfl
theorem Lex.news_ge{i:Nat}{l:List Oper}{tm tm':Tm}{s s':AS}{nw nw':Gy}{tr:List Ent}(h:Lex E call N ops an base i l tm s nw tr tm' s' nw'):∃r,nw'=nw++r∧∀x∈r,i≤x.1:=by
 induction h with
 |nil=>exact⟨[],by simp,by simp⟩
 |skip _ _ _ ih=>obtain⟨r,e,h⟩:=ih;exact⟨r,e,fun x hx=>by have:=h x hx;omega⟩
 |fresh _ _ _ _ _ ih=>
  obtain⟨r,e,h⟩:=ih;refine⟨_::r,by rw[e,Zu];rfl,fun x hx=>?_⟩;rcases Zg.1 hx with rfl|hx
  ·exact Ze _
  ·have:=h x hx;omega
 |act _ _ _ _ _ _ ih=>obtain⟨r,e,h⟩:=ih;exact⟨r,e,fun x hx=>by have:=h x hx;omega⟩
 |look _ _ _ _ _ _ ih=>obtain⟨r,e,h⟩:=ih;exact⟨r,e,fun x hx=>by have:=h x hx;omega⟩
theorem MD(bits:Nat)(s:AS):laid base bits [] s=s:=rfl
theorem YU :∀ {l:List Oper} {i:Nat} {tm tm':Tm} {s s':AS},(∀o∈l,eff E.ty o.op=false∧Gv o.op=false)→Mq E call N ops l tm s=some (tm',s')→∃tr,Lex E call N ops an base i l tm s [] tr tm' s' []
 |[],i,tm,tm',s,s',_,h=>by cases h;exact⟨[],.nil _ _ _ _⟩
 |o::l,i,tm,tm',s,s',hq,h=>by
  have h':(match Ha ops tm o with
   |none=>none
   |some false=>match Gq N tm o.dst undef with
    |none=>none
    |some tm'=>Mq E call N ops l tm' s
   |some true=>match Hb o.op E call tm s with
    |none=>none
    |some (v,s')=>match Gq N tm o.dst v with
     |none=>none
     |some tm'=>Mq E call N ops l tm' s')=some (tm',s'):=h
  clear h;have hq':=fun x hx=>hq x (List.mem_cons_of_mem _ hx);obtain⟨q1,q2⟩:=hq o (by simp);split at h'
  ·cases h'
  ·rename_i hw;split at h'
   ·cases h'
   ·rename_i tm1 hp;obtain⟨tr,ht⟩:=YU hq' h';exact⟨_,.skip hw hp ht⟩
  ·rename_i hw;split at h'
   ·cases h'
   ·rename_i v s1 hx;split at h'
    ·cases h'
    ·rename_i tm1 hp;have hst:s1=s:=by
      rw[YV q1]at hx;exact YX q1 q2 hx
     subst hst;obtain⟨tr,ht⟩:=YU hq' h';exact⟨_,.look hw q2 q1 hx hp ht⟩
noncomputable def C6(ty:T TI):List Oper→List Ent→List AS
 |o::l,e::tr=>if eff ty o.op then e.s'::C6 ty l tr else C6 ty l tr
 |_,_=>[]
theorem MF{ty:T TI}{op:Op}(h:Gv op=true):eff ty op=false:=by
 cases op<;>first|(cases h;done)|rfl
theorem gt :∀ {l:List Oper} {i:Nat} {tm tm':Tm} {s s':AS} {ss ss':List AS} {rs rs':List Rec} {nw nw':Gy},Np E call N ops an base l i tm s ss rs nw=some (tm',s',ss',rs',nw')→
  ∃tr,Lex E call N ops an base i l tm s nw tr tm' s' nw'∧ss'=ss++C6 E.ty l tr∧(∀r∈rs,r∈rs')∧
   ∀(k:Nat) (o:Oper) (e:Ent),l[k]? =some o→tr[k]? =some e→eff E.ty o.op=false→Gv o.op=false→e.run=true→∃nw1,(⟨i+k,o,e.tm,e.v,nw1⟩:Rec)∈rs'∧∃r,nw'=nw1++r∧∀x∈r,i+k≤x.1
 |[],i,tm,tm',s,s',ss,ss',rs,rs',nw,nw',h=>by
  cases h;exact⟨[],.nil _ _ _ _,by simp[C6],fun r hr=>hr,fun k o e h=>by simp at h⟩
 |o::l,i,tm,tm',s,s',ss,ss',rs,rs',nw,nw',h=>by
  have h':(match Ha ops tm o with
   |none=>none
   |some false=>match Gq N tm o.dst undef with
    |none=>none
    |some tm'=>Np E call N ops an base l (i+1) tm' s (bif eff E.ty o.op then ss++[s]else ss) rs nw
   |some true=>bif Gv o.op then(Hf (base+i) fun b=>match N4 o.op E tm b with
     |none=>none
     |some (v,x)=>match Gq N tm o.dst v with
      |none=>none
      |some tm'=>Np E call N ops an base l (i+1) tm' s ss rs (nw++[(i,x)]))
    else match Hb o.op E call tm (laid base (an.getD i 0) nw s)with
    |none=>none
    |some (v,s')=>match Gq N tm o.dst v with
     |none=>none
     |some tm'=>bif eff E.ty o.op then Np E call N ops an base l (i+1) tm' s' (ss++[s']) rs nw else Np E call N ops an base l (i+1) tm' s ss (⟨i,o,tm,v,nw⟩::rs) nw)=some (tm',s',ss',rs',nw'):=h
  clear h;have tail:∀ {e0:Ent} {tr:List Ent},(∀(k:Nat) (o:Oper) (e:Ent),l[k]? =some o→tr[k]? =some e→eff E.ty o.op=false→Gv o.op=false→e.run=true→∃nw1,(⟨i+1+k,o,e.tm,e.v,nw1⟩:Rec)∈rs'∧∃r,nw'=nw1++r∧∀x∈r,i+1+k≤x.1)→
    (eff E.ty o.op=false→Gv o.op=false→e0.run=true→∃nw1,(⟨i,o,e0.tm,e0.v,nw1⟩:Rec)∈rs'∧∃r,nw'=nw1++r∧∀x∈r,i≤x.1)→
    ∀(k:Nat) (o':Oper) (e:Ent),(o::l)[k]? =some o'→(e0::tr)[k]? =some e→eff E.ty o'.op=false→Gv o'.op=false→e.run=true→∃nw1,(⟨i+k,o',e.tm,e.v,nw1⟩:Rec)∈rs'∧∃r,nw'=nw1++r∧∀x∈r,i+k≤x.1:=by
   intro e0 tr h2 h3 k o' e hk he hf hn hr;cases k with
   |zero=>
    simp only[Y7,Option.some.injEq]at hk he;subst hk;subst he;exact h3 hf hn hr
   |succ k=>
    simp only[Y9]at hk he;have:=h2 k o' e hk he hf hn hr
    rwa [show i+1+k=i+(k+1) by omega]at this
  split at h'
  ·cases h'
  ·rename_i hw;split at h'
   ·cases h'
   ·rename_i tm1 hp;obtain⟨tr,ht,hs,hr,hk⟩:=gt h';refine⟨_,.skip hw hp ht,?_,hr,tail hk (fun _ _ h=>by cases h)⟩;rw[hs];cases he:eff E.ty o.op<;>simp[C6,he]
  ·rename_i hw;cases hnew:Gv o.op with
   |true=>
    rw[hnew,cond_true,natK_eq]at h';split at h'
    ·cases h'
    ·rename_i v x hx;split at h'
     ·cases h'
     ·rename_i tm1 hp;obtain⟨tr,ht,hs,hr,hk⟩:=gt h';refine⟨_,.fresh hw hnew hx hp ht,?_,hr,tail hk (fun _ h=>by rw[hnew]at h;cases h)⟩;rw[hs];simp[C6,MF hnew]
   |false=>
    rw[hnew,cond_false]at h';split at h'
    ·cases h'
    ·rename_i v s1 hx;split at h'
     ·cases h'
     ·rename_i tm1 hp;cases he:eff E.ty o.op with
      |true=>
       rw[he]at h';obtain⟨tr,ht,hs,hr,hk⟩:=gt h';refine⟨_,.act hw hnew he hx hp ht,?_,hr,tail hk (fun h=>by rw[he]at h;cases h)⟩;rw[hs];simp[C6,he]
      |false=>
       rw[he]at h';obtain⟨tr,ht,hs,hr,hk⟩:=gt h';refine⟨_,.look hw hnew he hx hp ht,?_,fun r h=>hr r (by simp[h]),tail hk (fun _ _ _=>⟨nw,hr _ (by simp),?_⟩)⟩
       ·rw[hs];simp[C6,he]
       ·obtain⟨r,e,hr⟩:=ht.news_ge;exact⟨r,e,fun x hx=>by have:=hr x hx;omega⟩
def H9(L:Nat→Bool)(d:Tmp):Nat→List Oper→List Ent→Option Value→Option Value
 |j,o::l,e::tr,acc=>H9 L d (j+1) l tr (if L j=true∧o.dst=some d then some e.v else acc)
 |_,_,_,acc=>acc
noncomputable def G3(ty:T TI)(L:Nat→Bool):Nat→List Oper→List Ent→AS→AS
 |j,o::l,e::tr,acc=>G3 ty L (j+1) l tr (if L j=true∧eff ty o.op=true then e.s' else acc)
 |_,_,_,acc=>acc
theorem YJ{L L':Nat→Bool}{d:Tmp}:∀ {l:List Oper} {tr:List Ent} {j:Nat} {acc:Option Value},(∀(k:Nat) (o:Oper),l[k]? =some o→o.dst=some d→L (j+k)=L' (j+k))→H9 L d j l tr acc=H9 L' d j l tr acc
 |[],_,_,_,_=>by simp[H9]
 |_::_,[],_,_,_=>by simp[H9]
 |o::l,e::tr,j,acc,h=>by
  simp only[H9];have h0:(L j=true∧o.dst=some d)↔(L' j=true∧o.dst=some d):=by
   constructor
   ·rintro⟨a,b⟩;exact⟨by have:=h 0 o rfl b;simp only[Yg]at this;rw[←this];exact a,b⟩
   ·rintro⟨a,b⟩;exact⟨by have:=h 0 o rfl b;simp only[Yg]at this;rw[this];exact a,b⟩
  simp only[h0];exact YJ (fun k o' hk ho=>by have:=h (k+1) o' (by simpa using hk) ho;rwa [show j+(k+1)=j+1+k by omega]at this)
theorem YK{ty:T TI}{L L':Nat→Bool}:∀ {l:List Oper} {tr:List Ent} {j:Nat} {acc:AS},(∀(k:Nat) (o:Oper),l[k]? =some o→eff ty o.op=true→L (j+k)=L' (j+k))→G3 ty L j l tr acc=G3 ty L' j l tr acc
 |[],_,_,_,_=>by simp[G3]
 |_::_,[],_,_,_=>by simp[G3]
 |o::l,e::tr,j,acc,h=>by
  simp only[G3];have h0:(L j=true∧eff ty o.op=true)↔(L' j=true∧eff ty o.op=true):=by
   constructor
   ·rintro⟨a,b⟩;exact⟨by have:=h 0 o rfl b;simp only[Yg]at this;rw[←this];exact a,b⟩
   ·rintro⟨a,b⟩;exact⟨by have:=h 0 o rfl b;simp only[Yg]at this;rw[this];exact a,b⟩
  simp only[h0];exact YK (fun k o' hk ho=>by have:=h (k+1) o' (by simpa using hk) ho;rwa [show j+(k+1)=j+1+k by omega]at this)
theorem rc{L:Nat→Bool}{d:Tmp}:∀ {l:List Oper} {tr:List Ent} {j:Nat} {acc:Option Value},(∀(k:Nat) (o:Oper),l[k]? =some o→o.dst=some d→L (j+k)=false)→H9 L d j l tr acc=acc
 |[],_,_,_,_=>by simp[H9]
 |_::_,[],_,_,_=>by simp[H9]
 |o::l,e::tr,j,acc,h=>by
  simp only[H9];rw[if_neg (fun hh=>by have:=h 0 o rfl hh.2;simp only[Yg]at this;rw[this]at hh;cases hh.1)];exact rc (fun k o' hk ho=>by have:=h (k+1) o' (by simpa using hk) ho;rwa [show j+(k+1)=j+1+k by omega]at this)
theorem Ds{ty:T TI}{L:Nat→Bool}:∀ {l:List Oper} {tr:List Ent} {j:Nat} {acc:AS},(∀(k:Nat) (o:Oper),l[k]? =some o→eff ty o.op=true→L (j+k)=false)→G3 ty L j l tr acc=acc
 |[],_,_,_,_=>by simp[G3]
 |_::_,[],_,_,_=>by simp[G3]
 |o::l,e::tr,j,acc,h=>by
  simp only[G3];rw[if_neg (fun hh=>by have:=h 0 o rfl hh.2;simp only[Yg]at this;rw[this]at hh;cases hh.1)];exact Ds (fun k o' hk ho=>by have:=h (k+1) o' (by simpa using hk) ho;rwa [show j+(k+1)=j+1+k by omega]at this)
theorem MQ{L:Nat→Bool}{d:Tmp}:∀ {l:List Oper} {tr:List Ent} {j k:Nat} {acc:Option Value} {o:Oper} {e:Ent},l[k]? =some o→tr[k]? =some e→o.dst=some d→L (j+k)=true→
  (∀(m:Nat) (o:Oper),k<m→l[m]? =some o→o.dst=some d→L (j+m)=false)→H9 L d j l tr acc=some e.v
 |[],_,_,_,_,_,_,h,_,_,_,_=>by simp at h
 |_::_,[],_,_,_,_,_,_,h,_,_,_=>by simp at h
 |o::l,e::tr,j,k,acc,o',e',h1,h2,h3,h4,h5=>by
  simp only[H9];cases k with
  |zero=>
   simp only[Y7,Option.some.injEq]at h1 h2;subst h1;subst h2;rw[if_pos ⟨h4,h3⟩];exact rc (fun k o' hk ho=>by have:=h5 (k+1) o' (by omega) (by simpa using hk) ho;rwa [show j+(k+1)=j+1+k by omega]at this)
  |succ k=>
   simp only[Y9]at h1 h2;exact MQ h1 h2 h3 (by rwa [show j+1+k=j+(k+1) by omega]) (fun m o' hm hk ho=>by
    have:=h5 (m+1) o' (by omega) (by simpa using hk) ho;rwa [show j+(m+1)=j+1+m by omega]at this)
theorem MW{ty:T TI}{L:Nat→Bool}:∀ {l:List Oper} {tr:List Ent} {j k:Nat} {acc:AS} {o:Oper} {e:Ent},l[k]? =some o→tr[k]? =some e→eff ty o.op=true→L (j+k)=true→
  (∀(m:Nat) (o:Oper),k<m→l[m]? =some o→eff ty o.op=true→L (j+m)=false)→G3 ty L j l tr acc=e.s'
 |[],_,_,_,_,_,_,h,_,_,_,_=>by simp at h
 |_::_,[],_,_,_,_,_,_,h,_,_,_=>by simp at h
 |o::l,e::tr,j,k,acc,o',e',h1,h2,h3,h4,h5=>by
  simp only[G3];cases k with
  |zero=>
   simp only[Y7,Option.some.injEq]at h1 h2;subst h1;subst h2;rw[if_pos ⟨h4,h3⟩];exact Ds (fun k o' hk ho=>by have:=h5 (k+1) o' (by omega) (by simpa using hk) ho;rwa [show j+(k+1)=j+1+k by omega]at this)
  |succ k=>
   simp only[Y9]at h1 h2;exact MW h1 h2 h3 (by rwa [show j+1+k=j+(k+1) by omega]) (fun m o' hm hk ho=>by
    have:=h5 (m+1) o' (by omega) (by simpa using hk) ho;rwa [show j+(m+1)=j+1+m by omega]at this)
theorem YG{tm tm1:Tm}{dst:Option Tmp}{v:Value}(h:Gq N tm dst v=some tm1)(d:Tmp):tm1.get d=if dst=some d then some v else tm.get d:=by
 cases dst with
 |none=>cases h;simp
 |some k=>
  unfold Gq at h;simp only at h;cases hb:Zb k N with
  |false=>rw[hb]at h;cases h
  |true=>
   rw[hb]at h;cases h;rw[T.get_set];by_cases e:d=k
   ·subst e;simp
   ·rw[if_neg e,if_neg (fun h=>e (Option.some.inj h).symm)]
theorem ML{op:Op}{tm tm':Tm}{s:AS}(h:∀x∈op.operands,ev tm' x=ev tm x):Hb op E call tm' s=Hb op E call tm s:=by
 cases op with
 |call c=>
  show It c E call tm' s=It c E call tm s;unfold It;split
  ·rename_i f hf;unfold Fz;rw[h f (by simp[Op.operands,Call.operands,hf]),gq (fun x hx=>h x (by simp[Op.operands,Call.operands,Jo.1 hx]))]
  ·exact YY (.call c) h
 |_=>exact YY (E:=E) (s:=s) _ h
theorem Lex.ent{i:Nat}{l:List Oper}{tm tm':Tm}{s s':AS}{nw nw':Gy}{tr:List Ent}(h:Lex E call N ops an base i l tm s nw tr tm' s' nw'):∀ {k:Nat} {o:Oper} (_:l[k]? =some o),∃e,tr[k]? =some e∧Ha ops e.tm o=some e.run∧
  (e.run=false→e.v=undef∧e.s'=e.s)∧(e.run=true→Gv o.op=true→N4 o.op E e.tm (base+(i+k))=some (e.v,e.x)∧(i+k,e.x)∈nw')∧
  (e.run=true→Gv o.op=false→∃nw1 s1,Hb o.op E call e.tm (laid base (an.getD (i+k) 0) nw1 e.s)=some (e.v,s1)∧(eff E.ty o.op=true→e.s'=s1)∧∃r,nw'=nw1++r∧∀x∈r,i+k≤x.1)∧
  (∃tm1,Gq N e.tm o.dst e.v=some tm1)∧(eff E.ty o.op=false→e.s'=e.s):=by
 induction h with
 |nil=>intro k o h;simp at h
 |skip h1 h2 h3 ih=>
  intro k o h;cases k with
  |zero=>
   simp only[Y7,Option.some.injEq]at h;subst h;exact⟨_,rfl,h1,fun _=>⟨rfl,rfl⟩,(fun h=>by cases h),(fun h=>by cases h),⟨_,h2⟩,fun _=>rfl⟩
  |succ k=>
   have:=ih (k:=k) (by simpa using h);simpa[Ya,Vi 1 k]using this
 |fresh h1 hn h2 h3 h4 ih=>
  intro k o h;cases k with
  |zero=>
   simp only[Y7,Option.some.injEq]at h;subst h;refine⟨_,rfl,h1,(fun h=>by cases h),fun _ _=>⟨h2,?_⟩,(fun _ h=>by rw[hn]at h;cases h),⟨_,h3⟩,fun _=>rfl⟩;obtain⟨r,e,_⟩:=h4.news_ge;rw[e];simp
  |succ k=>
   have:=ih (k:=k) (by simpa using h);simpa[Ya,Vi 1 k]using this
 |act h1 hn he h2 h3 h4 ih=>
  intro k o h;cases k with
  |zero=>
   simp only[Y7,Option.some.injEq]at h;subst h;refine⟨_,rfl,h1,(fun h=>by cases h),(fun _ h=>by rw[hn]at h;cases h),fun _ _=>⟨_,_,h2,fun _=>rfl,?_⟩,⟨_,h3⟩,(fun h=>by rw[he]at h;cases h)⟩;obtain⟨r,e,hr⟩:=h4.news_ge;exact⟨r,e,fun x hx=>by have:=hr x hx;omega⟩
  |succ k=>
   have:=ih (k:=k) (by simpa using h);simpa[Ya,Vi 1 k]using this
 |look h1 hn he h2 h3 h4 ih=>
  intro k o h;cases k with
  |zero=>
   simp only[Y7,Option.some.injEq]at h;subst h;refine⟨_,rfl,h1,(fun h=>by cases h),(fun _ h=>by rw[hn]at h;cases h),fun _ _=>⟨_,_,h2,(fun h=>by rw[he]at h;cases h),?_⟩,⟨_,h3⟩,fun _=>rfl⟩;obtain⟨r,e,hr⟩:=h4.news_ge;exact⟨r,e,fun x hx=>by have:=hr x hx;omega⟩
  |succ k=>
   have:=ih (k:=k) (by simpa using h);simpa[Ya,Vi 1 k]using this
theorem Lex.tmAt{i:Nat}{l:List Oper}{tm tm':Tm}{s s':AS}{nw nw':Gy}{tr:List Ent}(h:Lex E call N ops an base i l tm s nw tr tm' s' nw')(d:Tmp):∀ {j k:Nat} {e:Ent},tr[k]? =some e→e.tm.get d=H9 (fun x=>decide (x<j+k)) d j l tr (tm.get d):=by
 have step:∀ {o:Oper} {l:List Oper} {tm tm1 tm':Tm} {v:Value} {e0:Ent} {tr:List Ent},e0.tm=tm→e0.v=v→Gq N tm o.dst v=some tm1→(∀ {j k:Nat} {e:Ent},tr[k]? =some e→e.tm.get d=H9 (fun x=>decide (x<j+k)) d j l tr (tm1.get d))→
   ∀ {j k:Nat} {e:Ent},(e0::tr)[k]? =some e→e.tm.get d=H9 (fun x=>decide (x<j+k)) d j (o::l) (e0::tr) (tm.get d):=by
  intro o l tm tm1 tm' v e0 tr h1 h1' h2 ih j k e h;cases k with
  |zero=>
   simp only[Y7,Option.some.injEq]at h;subst h;rw[rc (fun k o _ _=>by simp),h1]
  |succ k=>
   rw[ih (j:=j+1) (by simpa using h)];simp only[H9];rw[YG h2,h1'];simp only[show(j<j+(k+1)) by omega,decide_true,true_and,show j+1+k=j+(k+1) by omega]
 induction h with
 |nil=>intro j k e h;simp at h
 |skip h1 h2 h3 ih=>exact step (tm':=tm') rfl rfl h2 ih
 |fresh h1 hn h2 h3 h4 ih=>exact step (tm':=tm') rfl rfl h3 ih
 |act h1 hn he h2 h3 h4 ih=>exact step (tm':=tm') rfl rfl h3 ih
 |look h1 hn he h2 h3 h4 ih=>exact step (tm':=tm') rfl rfl h3 ih
theorem Lex.tmEnd{i:Nat}{l:List Oper}{tm tm':Tm}{s s':AS}{nw nw':Gy}{tr:List Ent}(h:Lex E call N ops an base i l tm s nw tr tm' s' nw')(d:Tmp):∀ {j:Nat} {L:Nat→Bool},(∀k,k<l.length→L (j+k)=true)→tm'.get d=H9 L d j l tr (tm.get d):=by
 have step:∀ {o:Oper} {l:List Oper} {tm tm1 tm':Tm} {v:Value} {e0:Ent} {tr:List Ent},e0.v=v→Gq N tm o.dst v=some tm1→(∀ {j:Nat} {L:Nat→Bool},(∀k,k<l.length→L (j+k)=true)→tm'.get d=H9 L d j l tr (tm1.get d))→
   ∀ {j:Nat} {L:Nat→Bool},(∀k,k<(o::l).length→L (j+k)=true)→tm'.get d=H9 L d j (o::l) (e0::tr) (tm.get d):=by
  intro o l tm tm1 tm' v e0 tr h1 h2 ih j L hL;rw[ih (j:=j+1) (L:=L) (fun k hk=>by rw[show j+1+k=j+(k+1) by omega];exact hL _ (by simpa using hk))];simp only[H9];rw[YG h2,h1];have:=hL 0 (by simp);simp only[Yg]at this;simp only[this,true_and]
 induction h with
 |nil=>intro j L _;rfl
 |skip h1 h2 h3 ih=>exact step rfl h2 ih
 |fresh h1 hn h2 h3 h4 ih=>exact step rfl h3 ih
 |act h1 hn he h2 h3 h4 ih=>exact step rfl h3 ih
 |look h1 hn he h2 h3 h4 ih=>exact step rfl h3 ih
theorem Lex.sAt{i:Nat}{l:List Oper}{tm tm':Tm}{s s':AS}{nw nw':Gy}{tr:List Ent}(h:Lex E call N ops an base i l tm s nw tr tm' s' nw'):∀ {j k:Nat} {e:Ent},tr[k]? =some e→e.s=G3 E.ty (fun x=>decide (x<j+k)) j l tr s:=by
 have step:∀ {o:Oper} {l:List Oper} {s s1:AS} {e0:Ent} {tr:List Ent},e0.s=s→(eff E.ty o.op=true→e0.s'=s1)→(eff E.ty o.op=false→s1=s)→(∀ {j k:Nat} {e:Ent},tr[k]? =some e→e.s=G3 E.ty (fun x=>decide (x<j+k)) j l tr s1)→
   ∀ {j k:Nat} {e:Ent},(e0::tr)[k]? =some e→e.s=G3 E.ty (fun x=>decide (x<j+k)) j (o::l) (e0::tr) s:=by
  intro o l s s1 e0 tr h1 h2 h3 ih j k e h;cases k with
  |zero=>
   simp only[Y7,Option.some.injEq]at h;subst h;rw[Ds (fun k o _ _=>by simp),h1]
  |succ k=>
   rw[ih (j:=j+1) (by simpa using h)];simp only[G3];simp only[show(j<j+(k+1)) by omega,decide_true,true_and,show j+1+k=j+(k+1) by omega];cases he:eff E.ty o.op with
   |true=>simp[h2 he]
   |false=>simp[h3 he]
 induction h with
 |nil=>intro j k e h;simp at h
 |skip h1 h2 h3 ih=>exact step rfl (fun _=>rfl) (fun _=>rfl) ih
 |fresh h1 hn h2 h3 h4 ih=>exact step rfl (fun _=>rfl) (fun _=>rfl) ih
 |act h1 hn he h2 h3 h4 ih=>exact step rfl (fun _=>rfl) (fun h=>by rw[he]at h;cases h) ih
 |look h1 hn he h2 h3 h4 ih=>exact step rfl (fun _=>rfl) (fun _=>rfl) ih
theorem Lex.sEnd{i:Nat}{l:List Oper}{tm tm':Tm}{s s':AS}{nw nw':Gy}{tr:List Ent}(h:Lex E call N ops an base i l tm s nw tr tm' s' nw'):∀ {j:Nat} {L:Nat→Bool},(∀k,k<l.length→L (j+k)=true)→s'=G3 E.ty L j l tr s:=by
 have step:∀ {o:Oper} {l:List Oper} {s s1 s':AS} {e0:Ent} {tr:List Ent},(eff E.ty o.op=true→e0.s'=s1)→(eff E.ty o.op=false→s1=s)→(∀ {j:Nat} {L:Nat→Bool},(∀k,k<l.length→L (j+k)=true)→s'=G3 E.ty L j l tr s1)→
   ∀ {j:Nat} {L:Nat→Bool},(∀k,k<(o::l).length→L (j+k)=true)→s'=G3 E.ty L j (o::l) (e0::tr) s:=by
  intro o l s s1 s' e0 tr h2 h3 ih j L hL;rw[ih (j:=j+1) (L:=L) (fun k hk=>by rw[show j+1+k=j+(k+1) by omega];exact hL _ (by simpa using hk))];simp only[G3];have:=hL 0 (by simp);simp only[Yg]at this;simp only[this,true_and];cases he:eff E.ty o.op with
  |true=>simp[h2 he]
  |false=>simp[h3 he]
 induction h with
 |nil=>intro j L _;rfl
 |skip h1 h2 h3 ih=>exact step (fun _=>rfl) (fun _=>rfl) ih
 |fresh h1 hn h2 h3 h4 ih=>exact step (fun _=>rfl) (fun _=>rfl) ih
 |act h1 hn he h2 h3 h4 ih=>exact step (fun _=>rfl) (fun h=>by rw[he]at h;cases h) ih
 |look h1 hn he h2 h3 h4 ih=>exact step (fun _=>rfl) (fun _=>rfl) ih
theorem Lex.length{i:Nat}{l:List Oper}{tm tm':Tm}{s s':AS}{nw nw':Gy}{tr:List Ent}(h:Lex E call N ops an base i l tm s nw tr tm' s' nw'):tr.length=l.length:=by
 induction h with
 |nil=>rfl
 |skip _ _ _ ih=>simp[ih]
 |fresh _ _ _ _ _ ih=>simp[ih]
 |act _ _ _ _ _ _ ih=>simp[ih]
 |look _ _ _ _ _ _ ih=>simp[ih]
theorem Lex.news{i:Nat}{l:List Oper}{tm tm':Tm}{s s':AS}{nw nw':Gy}{tr:List Ent}(h:Lex E call N ops an base i l tm s nw tr tm' s' nw'):∃r,nw'=nw++r∧r.Pairwise (fun a b=>a.1≠b.1)∧∀x∈r,i≤x.1∧
  ∃o e,l[x.1-i]? =some o∧tr[x.1-i]? =some e∧Gv o.op=true∧e.run=true∧e.x=x.2:=by
 have shift:∀ {i:Nat} {o0:Oper} {e0:Ent} {l:List Oper} {tr:List Ent} {x:Nat×Gg},(i+1≤x.1∧∃o e,l[x.1-(i+1)]? =some o∧tr[x.1-(i+1)]? =some e∧Gv o.op=true∧e.run=true∧e.x=x.2)→
   i≤x.1∧∃o e,(o0::l)[x.1-i]? =some o∧(e0::tr)[x.1-i]? =some e∧Gv o.op=true∧e.run=true∧e.x=x.2:=by
  intro i o0 e0 l tr x ⟨h1,o,e,h2,h3,h4⟩;refine⟨by omega,o,e,?_,?_,h4⟩
  ·rw[show x.1-i=(x.1-(i+1))+1 by omega,Y9];exact h2
  ·rw[show x.1-i=(x.1-(i+1))+1 by omega,Y9];exact h3
 induction h with
 |nil=>exact⟨[],by simp,.nil,by simp⟩
 |skip _ _ _ ih=>obtain⟨r,e,hp,h⟩:=ih;exact⟨r,e,hp,fun x hx=>shift (h x hx)⟩
 |fresh h1 hn h2 h3 h4 ih=>
  obtain⟨r,e,hp,h⟩:=ih;refine⟨_::r,by rw[e,Zu];rfl,Yf.2 ⟨fun x hx=>?_,hp⟩,fun x hx=>?_⟩
  ·have:=(h x hx).1;simp only;omega
  ·rcases Zg.1 hx with rfl|hx
   ·exact⟨Ze _,_,_,by rw[Xs];rfl,by rw[Xs];rfl,hn,rfl,rfl⟩
   ·exact shift (h x hx)
 |act _ _ _ _ _ _ ih=>obtain⟨r,e,hp,h⟩:=ih;exact⟨r,e,hp,fun x hx=>shift (h x hx)⟩
 |look _ _ _ _ _ _ ih=>obtain⟨r,e,hp,h⟩:=ih;exact⟨r,e,hp,fun x hx=>shift (h x hx)⟩
end
end Go.Ax
namespace Go.Ax
open Go
theorem MP(f:Edge→Nat)(i:Nat):∀(l:List Edge) (b:Nat),(l.foldl (fun b e=>b|||2^e.on|||f e) b).testBit i=true→b.testBit i=true∨∃e∈l,e.on=i∨(f e).testBit i=true
 |[],b,h=>.inl h
 |e::l,b,h=>by
  rcases MP f i l _ h with h|⟨x,hx,h⟩
  ·rw[Jp,Jp,Nat.testBit_two_pow]at h;simp only[Yq,decide_eq_true_eq]at h;rcases h with(h|h)|h
   ·exact .inl h
   ·exact .inr ⟨e,by simp,.inl h⟩
   ·exact .inr ⟨e,by simp,.inr h⟩
  ·exact .inr ⟨x,by simp[hx],h⟩
theorem NZ :∀(l:List Oper) (acc:List Nat),∃r,Gt l acc=acc++r
 |[],acc=>⟨[],by simp[Gt]⟩
 |o::l,acc=>by
  obtain⟨r,h⟩:=NZ l (acc++[(o.after.toList.filter Mr).foldl (fun b e=>b|||2^e.on|||acc.getD e.on 0) 0]);refine⟨[(o.after.toList.filter Mr).foldl (fun b e=>b|||2^e.on|||acc.getD e.on 0) 0]++r,?_⟩;rw[Gt,h,Zu]
theorem NY :∀(l:List Oper) (acc:List Nat) (k:Nat) (o:Oper),l[k]? =some o→(∀e∈o.after.toList.filter Mr,e.on<acc.length+k)→
  (Gt l acc).getD (acc.length+k) 0=(o.after.toList.filter Mr).foldl (fun b e=>b|||2^e.on|||(Gt l acc).getD e.on 0) 0
 |[],_,_,_,h,_=>by simp at h
 |o'::l,acc,k,o,h,hlt=>by
  rw[Gt];cases k with
  |zero=>
   simp only[Y7,Option.some.injEq]at h;subst h;obtain⟨r,hr⟩:=NZ l (acc++[(o'.after.toList.filter Mr).foldl (fun b e=>b|||2^e.on|||acc.getD e.on 0) 0]);rw[hr];have h1:∀(xs:List Edge) (b:Nat),(∀e∈xs,e.on<acc.length)→xs.foldl (fun b e=>b|||2^e.on|||acc.getD e.on 0) b=
     xs.foldl (fun b e=>b|||2^e.on|||(acc++[(o'.after.toList.filter Mr).foldl (fun b e=>b|||2^e.on|||acc.getD e.on 0) 0]++r).getD e.on 0) b:=by
    intro xs
    induction xs with
    |nil=>intro b _;rfl
    |cons x xs ih=>
     intro b hx;simp only[List.foldl_cons];have:(acc++[(o'.after.toList.filter Mr).foldl (fun b e=>b|||2^e.on|||acc.getD e.on 0) 0]++r).getD x.on 0=acc.getD x.on 0:=by
      have hxl:=hx x (by simp);rw[Jq,Jq,Zu,Vt hxl]
     rw[this];exact ih _ (fun e he=>hx e (by simp[he]))
   rw[←h1 _ _ (by simpa using hlt)];rw[Jq,Zu,Vj (by omega)];simp
  |succ k=>
   simp only[Y9]at h;have:=NY l (acc++[(o'.after.toList.filter Mr).foldl (fun b e=>b|||2^e.on|||acc.getD e.on 0) 0]) k o h (by intro e he;have:=hlt e he;simp only[Zd,Jr];omega);simp only[Zd,Jr]at this;rw[show acc.length+(k+1)=acc.length+1+k by omega];exact this
theorem gw{ops:List Oper}{j i:Nat}{o:Oper}(h:ops[j]? =some o)(hlt:∀e∈o.after.toList.filter Mr,e.on<j)(hb:((Gt ops []).getD j 0).testBit i=true):
  ∃e∈o.after.toList.filter Mr,e.on=i∨((Gt ops []).getD e.on 0).testBit i=true:=by
 have:=NY ops [] j o h (by simpa using hlt);simp only[Zo,Zw]at this;rw[this]at hb;rcases MP _ i _ _ hb with h|h
 ·simp at h
 ·exact h
def Closed(ops:List Oper)(L:Nat→Bool):Prop:=∀(j:Nat) (o:Oper),ops[j]? =some o→L j=true→∀e∈o.after.toList.filter Mr,L e.on=true
def rf(ops:List Oper):Prop:=∀(j:Nat) (o:Oper),ops[j]? =some o→∀e∈o.after.toList.filter Mr,e.on<j
theorem I4{ops:List Oper}(hE:rf ops){L:Nat→Bool}(hC:Closed ops L){i:Nat}:∀(j:Nat) (o:Oper),ops[j]? =some o→L j=true→((Gt ops []).getD j 0).testBit i=true→L i=true:=by
 intro j
 induction j using Ki with
 |_ j ih=>
  intro o ho hL hb;obtain⟨e,he,h⟩:=gw ho (hE j o ho) hb;have hLe:=hC j o ho hL e he;rcases h with h|h
  ·rw[←h];exact hLe
  ·have hlt:=hE j o ho e he;have hj:j<ops.length:=by
    rcases Zt j ops.length with h|h
    ·exact h
    ·rw[Xr h]at ho;cases ho
   exact ih e.on hlt _ (Zn (by omega)) hLe h
theorem rh{ops:List Oper}(hE:rf ops){L:Nat→Bool}(hC:Closed ops L){i p:Nat}{o:Oper}(ho:ops[p]? =some o)(hr:∀e∈o.after.toList.filter Mr,L e.on=true)(hb:((Gt ops []).getD p 0).testBit i=true):L i=true:=by
 obtain⟨e,he,h⟩:=gw ho (hE p o ho) hb;have hLe:=hr e he;rcases h with h|h
 ·rw[←h];exact hLe
 ·have hlt:=hE p o ho e he;have hj:p<ops.length:=by
   rcases Zt p ops.length with h|h
   ·exact h
   ·rw[Xr h]at ho;cases ho
  exact I4 hE hC e.on _ (Zn (by omega)) hLe h
theorem YH{l:List Oper}{j:Nat}{o:Oper}(h:l[j]? =some o):(o,j)∈l.zipIdx:=by
 rw[Zos];simpa using h
theorem NX(e:Edge):Region.binds .any e=Mr e:=by
 obtain⟨on,g⟩:=e;cases g<;>rfl
theorem NV{ty:T TI}{ops:List Oper}(h:Te ty ops=true):rf ops:=by
 intro j o ho e he;rw[Vz]at he;simp only[Te,Zi,Xt]at h;have:=(h.1 (o,j) (YH ho)).1 e he.1;simp only[GL,he.2,Vx,Vb]at this;simpa[Yj]using this
theorem I5{ty:T TI}{ops:List Oper}(h:Te ty ops=true){i j:Nat}{o p:Oper}(ho:ops[i]? =some o)(hp:ops[j]? =some p)(hij:i<j):
  (eff ty o.op=true→eff ty p.op=true→((Gt ops []).getD j 0).testBit i=true)∧
  (∀d,o.dst=some d→(d∈looks ops p∨p.dst=some d)→((Gt ops []).getD j 0).testBit i=true)∧
  (∀d,p.dst=some d→d∈looks ops o→((Gt ops []).getD j 0).testBit i=true):=by
 simp only[Te,Zi,Xt]at h;have:=h.2 (o,i) (YH ho) (p,j) (YH hp);unfold GP at this;rw[show Zh i j=true by simpa[Yj]using hij,cond_true]at this;simp only[Zi]at this;obtain⟨⟨h1,h2⟩,h3⟩:=this;refine⟨fun a b=>?_,fun d hd hx=>?_,fun d hd hx=>?_⟩
 ·rw[a,b]at h1;simpa using h1
 ·rw[hd]at h2;have hc:((looks ops p).contains d||p.dst==some d)=true:=by
   rcases hx with hx|hx
   ·simp[hx]
   ·simp[hx]
  simp only[hc,cond_true]at h2;exact h2
 ·rw[hd]at h3;have hc:(looks ops o).contains d=true:=by simp[hx]
  simp only[hc,cond_true]at h3;exact h3
end Go.Ax
namespace Go.Ax
open Go
structure Mg(i:Io)(s:AS)(w:World)(b:Nat)(o:Gg):Prop where
 none:s.h.get b=none
 at_:∃q,i b=some (q,0)∧q<w.heap.size∧OR i o w.heap[q]? 0∧∀b' t,i b'=some (q,t)→b'=b∨(b'<1000∧obA s b'=.far)
 lim:i.lim b=(0,0)
 alive:alive o=true
 free:fixed o=false
 unit:∀c n z,o=.cells c n z→zs z=0
section
variable {i:Io}{s:AS}{w:World}
theorem NU{s:AS}{b:Nat}(h:s.h.get b=none):obA s b=.far:=by simp[obA,h]
theorem Mg.step{i':Io}{s':AS}{w':World}{b:Nat}{o:Gg}(h:Mg i s w b o)(hf:Fr i s w i' s' w'):Mg i' s' w' b o:=by
 obtain⟨q,h1,h2,h3,h4⟩:=h.at_;have hfar:fixed (obA s b)=true:=by rw[NU h.none];rfl
 have hfx:∀b' t,i b'=some (q,t)→fixed (obA s b')=true:=by
  intro b' t e;rcases h4 b' t e with rfl|⟨_,e2⟩
  ·exact hfar
  ·rw[e2];rfl
 refine⟨by rw[hf.ro b _ h1 hfar];exact h.none,⟨q,hf.le _ _ h1,Yu h2 hf.size,?_,?_⟩,by rw[hf.le.lim _ _ h1];exact h.lim,h.alive,h.free,h.unit⟩
 ·rw[hf.keep q h2 hfx];exact h3.mono hf.le
 ·intro b' t e;rcases hf.new b' q t e with e1|e1|⟨b0,t0,e1,e2⟩
  ·rcases h4 b' t e1 with rfl|⟨e4,e3⟩
   ·exact .inl rfl
   ·refine .inr ⟨e4,?_⟩;rw[fq (hf.ro b' _ e1 (by rw[e3];rfl))];exact e3
  ·omega
  ·rw[hfx b0 t0 e1]at e2;cases e2
theorem Rel.lay{b:Nat}{o:Gg}(h:Rel i s w)(hp:Mg i s w b o):Rel i (s.upd b o) w:=by
 obtain⟨q,h1,h2,h3,h4⟩:=hp.at_;have get:∀k,(s.upd b o).h.get k=if k=b then some o else s.h.get k:=fun k=>T.get_set _ _ _ _
 have hother:∀k y t,s.h.get k=some y→Go.Ax.alive y=true→i k=some (q,t)→k=b:=by
  intro k y t hk ha e;rcases h4 k t e with e1|⟨_,e1⟩
  ·exact e1
  ·rw[C4 hk]at e1;subst e1;cases ha
 refine⟨?_,?_,?_,?_,?_⟩
 ·intro k y hk ha;rw[get]at hk;by_cases e:k=b
  ·subst e;rw[if_pos rfl]at hk;cases hk;exact⟨q,0,h1,h3⟩
  ·rw[if_neg e]at hk;exact h.obj k y hk ha
 ·intro k k' y y' q1 t t' hk hk' ha ha' e e';rw[get]at hk hk';by_cases f:k=b<;>by_cases f':k'=b
  ·rw[f,f']
  ·rw[if_neg f']at hk';rw[f,h1]at e;cases e;exact absurd (hother k' y' t' hk' ha' e') f'
  ·rw[if_neg f]at hk;rw[f',h1]at e';cases e';exact absurd (hother k y t hk ha e) f
  ·rw[if_neg f]at hk;rw[if_neg f']at hk';exact h.inj k k' y y' q1 t t' hk hk' ha ha' e e'
 ·intro k hk;have:=h.fresh k hk;refine⟨this.1,?_⟩;rw[get,if_neg (fun e=>by subst e;rw[this.1]at h1;cases h1)];exact this.2
 ·intro k c n z q1 t hk e;rw[get]at hk;by_cases f:k=b
  ·subst f;rw[if_pos rfl]at hk;cases hk;rw[hp.lim];exact⟨(hp.unit c n z rfl).symm,fun _ _ _ _=>Nat.zero_le _⟩
  ·rw[if_neg f]at hk;exact h.lim k c n z q1 t hk e
 ·intro k q1 t e hk;rw[get]at hk;by_cases f:k=b
  ·subst f;rw[h1]at e;cases e;exact h2
  ·rw[if_neg f]at hk;exact h.dom k q1 t e hk
theorem Rel.reserve{b:Nat}{o:Gg}{x:Obj}{w1:World}(h:Rel i s w)(hb:b<s.nx)(hi:i b=none)(hg:s.h.get b=none)(hw:w1.heap=(Hn w x).heap)
  (hor:OR (ext i b (w.heap.size,0)) o (some x) 0) (ha:Go.Ax.alive o=true) (hf:fixed o=false) (hu:∀c n z,o=.cells c n z→zs z=0):
  Rel (ext i b (w.heap.size,0)) s w1∧Mg (ext i b (w.heap.size,0)) s w1 b o:=by
 have hle:Le i (ext i b (w.heap.size,0)):=Nb hi;have hnb:∀k y,s.h.get k=some y→k≠b:=fun k y hk e=>by subst e;rw[hg]at hk;cases hk
 have hsz:w1.heap.size=w.heap.size+1:=by rw[hw,Iv]
 refine⟨⟨?_,?_,?_,?_,?_⟩,⟨hg,⟨w.heap.size,G8 _ _ _,by omega,?_,?_⟩,B7 _ _ _,ha,hf,hu⟩⟩
 ·intro k y hk hal;obtain⟨q,t,e,hr⟩:=h.obj k y hk hal;refine⟨q,t,hle _ _ e,?_⟩;rw[hw,F5 (h.dom k q t e (.inl (by rw[hk];simp)))];exact hr.mono hle
 ·intro k k' y y' q t t' hk hk' hal hal' e e';rw[G6 (hnb k y hk)]at e;rw[G6 (hnb k' y' hk')]at e';exact h.inj k k' y y' q t t' hk hk' hal hal' e e'
 ·intro k hk;rw[G6 (by omega)];exact h.fresh k hk
 ·intro k c n z q t hk e;rw[G6 (hnb k _ hk)]at e;rw[Iw (hnb k _ hk),hw,F5 (h.dom k q t e (.inl (by rw[hk];simp)))];exact h.lim k c n z q t hk e
 ·intro k q t e hk;by_cases f:k=b
  ·rw[f,G8]at e;cases e;omega
  ·rw[G6 f]at e;have:=h.dom k q t e hk;omega
 ·rw[hw,pr];exact hor
 ·intro b' t e;by_cases f:b'=b
  ·exact .inl f
  ·rw[G6 f]at e;right;have hn:¬(s.h.get b'≠none∨1000≤b'):=fun hh=>by
    have:=h.dom b' _ t e hh;omega
   have hg':s.h.get b'=none:=Classical.byContradiction fun h=>hn (.inl h);exact⟨by omega,NU hg'⟩
theorem Rel.less{s1:AS}(h:Rel i s1 w)(hn:s.nx=s1.nx)(hs:∀b o,s.h.get b=some o→s1.h.get b=some o):Rel i s w:=by
 refine⟨fun b o hb ha=>h.obj b o (hs b o hb) ha,fun b b' o o' q t t' hb hb' ha ha' e e'=>h.inj b b' o o' q t t' (hs b o hb) (hs b' o' hb') ha ha' e e',fun b hb=>?_,fun b c n z q t hb e=>h.lim b c n z q t (hs b _ hb) e,fun b q t e hb=>h.dom b q t e (hb.imp (fun hb h1=>by
  cases hg:s.h.get b with
  |none=>exact hb hg
  |some o=>rw[hs b o hg]at h1;cases h1) id)⟩
 have:=h.fresh b (by omega);refine⟨this.1,?_⟩;cases hg:s.h.get b with
 |none=>rfl
 |some o=>rw[hs b o hg]at this;cases this.2
theorem Fr.reserve{i0:Io}{s0:AS}{w0 w1:World}{b:Nat}{x:Obj}(h:Fr i0 s0 w0 i s w)(hb:s0.nx≤b)(hi:i b=none)(hw:w1.heap=(Hn w x).heap)(h1:w1.os=w.os)(h2:w1.tape=w.tape)(h3:w1.output=w.output):
  Fr i0 s0 w0 (ext i b (w.heap.size,0)) s w1:=by
 have hsz:w1.heap.size=w.heap.size+1:=by rw[hw,Iv]
 refine⟨h.le.trans (Nb hi),?_,h1.trans h.os,h2.trans h.tape,h3.trans h.output,by have:=h.size;omega,?_,h.ro,h.nx,?_,h.gone,h.stay⟩
 ·intro k q t e;by_cases f:k=b
  ·rw[f,G8]at e;cases e;exact .inr (.inl h.size)
  ·rw[G6 f]at e;exact h.new k q t e
 ·intro q hq hn;rw[hw,F5 (Yu hq h.size)];exact h.keep q hq hn
 ·intro k hk e;rw[G6 (by omega)];exact h.dom k hk e
theorem Fr.swap{i0:Io}{s0 s1:AS}{w0:World}(h:Fr i0 s0 w0 i s w)(hn:s.nx=s1.nx)(hs:∀b,b<s0.nx→s1.h.get b=s.h.get b)(hf:∀b x,i0 b=some x→b<s0.nx)(hst:∀b,s0.h.get b≠none→s1.h.get b≠none):Fr i0 s0 w0 i s1 w:=
 ⟨h.le,h.new,h.os,h.tape,h.output,h.size,h.keep,fun b x e hfx=>by rw[hs b (hf b x e)];exact h.ro b x e hfx,by rw[←hn];exact h.nx,h.dom,fun b hb e g=>by rw[hs b hb];exact h.gone b hb e g,hst⟩
theorem Dt(base bits:Nat):∀(nw:Gy) (s:AS),(laid base bits nw s).nx=s.nx
 |[],s=>rfl
 |x::nw,s=>by
  have:laid base bits (x::nw) s=laid base bits nw (bif bits.testBit x.1 then(match s.h.get (base+x.1)with
   |none=>s.upd (base+x.1) x.2
   |some _=>s)else s):=rfl
  rw[this,Dt base bits nw];cases bits.testBit x.1 with
  |false=>rfl
  |true=>
   simp only[cond_true];split<;>rfl
theorem Ra(base bits:Nat)(x:Nat×Gg)(nw:Gy)(s:AS):laid base bits (x::nw) s=laid base bits nw (bif bits.testBit x.1 then(match s.h.get (base+x.1)with
   |none=>s.upd (base+x.1) x.2
   |some _=>s)else s):=rfl
theorem Du(base bits:Nat):∀(nw:Gy) (s:AS) (k:Nat) (o:Gg),s.h.get k=some o→(laid base bits nw s).h.get k=some o
 |[],s,k,o,h=>h
 |x::nw,s,k,o,h=>by
  rw[Ra];refine Du base bits nw _ k o ?_;cases bits.testBit x.1 with
  |false=>exact h
  |true=>
   simp only[cond_true];split
   ·rename_i hg;show(s.h.set (base+x.1) x.2).get k=some o;rw[T.get_set,if_neg (fun e=>by rw[e,hg]at h;cases h)];exact h
   ·exact h
theorem I6(base bits:Nat):∀(nw:Gy) (s:AS) (k:Nat),(∀x∈nw,bits.testBit x.1=true→k≠base+x.1)→(laid base bits nw s).h.get k=s.h.get k
 |[],s,k,h=>rfl
 |x::nw,s,k,h=>by
  rw[Ra,I6 base bits nw _ k (fun y hy=>h y (by simp[hy]))];cases hb:bits.testBit x.1 with
  |false=>rfl
  |true=>
   simp only[cond_true];split
   ·show(s.h.set (base+x.1) x.2).get k=_;rw[T.get_set,if_neg (h x (by simp) hb)]
   ·rfl
theorem NJ(base bits:Nat)(r:Gy):∀(nw:Gy) (s:AS),(∀x∈r,bits.testBit x.1=false)→laid base bits (nw++r) s=laid base bits nw s:=by
 have h0:∀(r:Gy) (s:AS),(∀x∈r,bits.testBit x.1=false)→laid base bits r s=s:=by
  intro r
  induction r with
  |nil=>intro s _;rfl
  |cons x r ih=>
   intro s h;rw[Ra,h x (by simp),cond_false];exact ih s (fun y hy=>h y (by simp[hy]))
 intro nw
 induction nw with
 |nil=>intro s h;exact h0 r s h
 |cons x nw ih=>
  intro s h;rw[Y0,Ra,Ra];exact ih _ h
theorem Mg.other{b b0:Nat}{o o0:Gg}(h:Mg i s w b o)(hne:b≠b0)(hb0:1000≤b0):Mg i (s.upd b0 o0) w b o:=by
 obtain⟨q,h1,h2,h3,h4⟩:=h.at_;have get:∀k,(s.upd b0 o0).h.get k=if k=b0 then some o0 else s.h.get k:=fun k=>T.get_set _ _ _ _
 refine⟨by rw[get,if_neg hne];exact h.none,⟨q,h1,h2,h3,fun b' t e=>?_⟩,h.lim,h.alive,h.free,h.unit⟩;rcases h4 b' t e with e1|⟨e1,e2⟩
 ·exact .inl e1
 ·refine .inr ⟨e1,?_⟩;have:obA (s.upd b0 o0) b'=obA s b':=fq (by rw[get,if_neg (by omega)]);rw[this];exact e2
theorem Rel.laid{base bits:Nat}(hbase:1000≤base):∀ {nw:Gy} {s:AS},Rel i s w→nw.Pairwise (fun a b=>a.1≠b.1)→(∀x∈nw,bits.testBit x.1=true→s.h.get (base+x.1)=none→Mg i s w (base+x.1) x.2)→Rel i (Go.Ax.laid base bits nw s) w
 |[],s,h,_,_=>h
 |x::nw,s,h,hp,hq=>by
  rw[Yf]at hp;rw[Ra];cases hb:bits.testBit x.1 with
  |false=>
   simp only[cond_false];exact Rel.laid hbase h hp.2 (fun y hy=>hq y (by simp[hy]))
  |true=>
   simp only[cond_true];split
   ·rename_i hg;refine Rel.laid hbase (h.lay (hq x (by simp) hb hg)) hp.2 (fun y hy hyb hyg=>?_);have hne:base+y.1≠base+x.1:=fun e=>hp.1 y hy (by omega);refine(hq y (by simp[hy]) hyb ?_).other hne (by omega);have:(s.upd (base+x.1) x.2).h.get (base+y.1)=if base+y.1=base+x.1 then some x.2 else s.h.get (base+y.1):=T.get_set _ _ _ _
    rw[this,if_neg hne]at hyg;exact hyg
   ·exact Rel.laid hbase h hp.2 (fun y hy=>hq y (by simp[hy]))
theorem Mg.laid{base bits:Nat}(hbase:1000≤base){b:Nat}{o:Gg}:∀ {nw:Gy} {s:AS},Mg i s w b o→(∀x∈nw,bits.testBit x.1=true→b≠base+x.1)→Mg i (Go.Ax.laid base bits nw s) w b o
 |[],s,h,_=>h
 |x::nw,s,h,hq=>by
  rw[Ra];refine Mg.laid hbase ?_ (fun y hy=>hq y (by simp[hy]));cases hb:bits.testBit x.1 with
  |false=>exact h
  |true=>
   simp only[cond_true];split
   ·exact h.other (hq x (by simp) hb) (by omega)
   ·exact h
theorem Mg.reserve{b b1:Nat}{o:Gg}{x:Obj}{w1:World}(h:Mg i s w b o)(hi:i b1=Option.none)(hw:w1.heap=(Hn w x).heap):Mg (ext i b1 (w.heap.size,0)) s w1 b o:=by
 obtain⟨q,h1,h2,h3,h4⟩:=h.at_;have hne:b≠b1:=fun e=>by subst e;rw[hi]at h1;cases h1
 refine⟨h.none,⟨q,by rw[G6 hne];exact h1,by rw[hw,Iv];omega,?_,fun b' t e=>?_⟩,by rw[Iw hne];exact h.lim,h.alive,h.free,h.unit⟩
 ·rw[hw,F5 h2];exact h3.mono (Nb hi)
 ·by_cases f:b'=b1
  ·rw[f,G8]at e;cases e;omega
  ·rw[G6 f]at e;exact h4 b' t e
theorem rj(base bits:Nat):∀(nw:Gy) (s:AS),nw.Pairwise (fun a b=>a.1≠b.1)→∀x∈nw,bits.testBit x.1=true→s.h.get (base+x.1)=none→(Go.Ax.laid base bits nw s).h.get (base+x.1)=some x.2
 |[],s,_,x,hx,_,_=>by cases hx
 |y::nw,s,hp,x,hx,hb,hg=>by
  rw[Yf]at hp;rw[Ra];rcases Zg.1 hx with rfl|hx
  ·rw[hb,cond_true,hg];exact Du base bits nw _ _ _ (T.get_set_same _ _ _)
  ·have hne:base+x.1≠base+y.1:=fun e=>hp.1 x hx (by omega);refine rj base bits nw _ hp.2 x hx hb ?_;cases hby:bits.testBit y.1 with
   |false=>exact hg
   |true=>
    simp only[cond_true];split
    ·show(s.h.set (base+y.1) y.2).get _=none;rw[T.get_set,if_neg hne];exact hg
    ·exact hg
end
end Go.Ax
namespace Go.Ax
open Go
section
variable {dl:List Deferred}{E:Env}{call:Gu}{N:Nat}
theorem NK :∀ {l:List Operand} {d:Tmp},Operand.tmp d∈l→d∈slotsOf l
 |x::l,d,h=>by
  rcases Zg.1 h with h|h
  ·subst h;simp[slotsOf]
  ·have:=NK h;cases x<;>simp[slotsOf,this]
def Lof(a:Array Bool):Nat→Bool:=fun j=>a.getD j false
def NG(E:Env)(call:Gu)(ops:List Oper)(base:Nat)(nw:Gy)(tr:List Ent)(s:AS):Prop:=
 ∀(L:Nat→Bool) (p:Nat) (o:Oper) (e:Ent),Closed ops L→L p=false→(∀x∈o.after.toList.filter Mr,L x.on=true)→ops[p]? =some o→tr[p]? =some e→eff E.ty o.op=false→Gv o.op=false→e.run=true→
  Hb o.op E call e.tm (laid base ((Gt ops []).getD p 0) nw (G3 E.ty L 0 ops tr s))=some (e.v,laid base ((Gt ops []).getD p 0) nw (G3 E.ty L 0 ops tr s))
structure Inv(dl:List Deferred)(E:Env)(N:Nat)(ops:List Oper)(tr:List Ent)(base:Nat)(nw:Gy)(tm:Tm)(s:AS)(i0:Io)(s0:AS)(w0:World)(L:Nat→Bool)(a:Act)(w:World):Prop where
 ex:∃(i:Io) (t:Tm),(∀d,t.get d=H9 L d 0 ops tr (tm.get d))∧AR dl i t N a∧Rel i (G3 E.ty L 0 ops tr s) w∧Fr i0 s0 w0 i (G3 E.ty L 0 ops tr s) w∧Gl i∧
  (∀x∈nw,L x.1=true→(G3 E.ty L 0 ops tr s).h.get (base+x.1)=none→Mg i (G3 E.ty L 0 ops tr s) w (base+x.1) x.2)∧
  (∀(p:Nat) (o:Oper),ops[p]? =some o→Gv o.op=true→L p=false→i (base+p)=none∧(G3 E.ty L 0 ops tr s).h.get (base+p)=none)∧(∀(p:Nat) (o:Oper),ops[p]? =some o→Gv o.op=true→base+p<(G3 E.ty L 0 ops tr s).nx)
 closed:Closed ops L
def rest(n:Nat)(L:Nat→Bool):Nat:=(Xn n).countP fun j=> !L j
theorem Za5{n p:Nat}{L:Nat→Bool}(hp:p<n)(h:L p=false):rest n (fun j=>L j||j==p)<rest n L:=by
 unfold rest
 induction n with
 |zero=>omega
 |succ n ih=>
  rw[List.range_succ,Zot,Zot];by_cases e:p=n
  ·subst e;have h1:(Xn p).countP (fun j=> !(L j||j==p))=(Xn p).countP (fun j=> !L j):=by
    apply List.countP_congr;intro x hx;have:x≠p:=by have:=Js.1 hx;omega
    simp[this]
   rw[h1];simp[h]
  ·have h0:(Xn n).countP (fun j=> !(L j||j==p))<(Xn n).countP (fun j=> !L j):=ih (by omega);have h2:Zou (fun j=> !(L j||j==p)) [n]≤Zou (fun j=> !L j) [n]:=by
    have:(n==p)=false:=by simpa using fun h=>e h.symm
    simp[this]
   exact Nat.add_lt_add_of_lt_of_le h0 h2
theorem Za6 (hT : Gr E) (hC : Mz E.P call) {ops : Array Oper} {tm tm' : Tm} {s s' : AS} {tr : List Ent} {base : Nat} {nw : Gy}
    (hl : Lex E call N ops.toList (Gt ops.toList []) base 0 ops.toList tm s [] tr tm' s' nw) (hok : Te E.ty ops.toList = true) (hrd : NG E call ops.toList base nw tr s)
    {i0 : Io} {s0 : AS} {w0 : World} (hb0 : s0.nx = base) (hbase : 1000 ≤ base) (hdom : ∀ b x, i0 b = some x → b < s0.nx) (hget0 : ∀ b, s0.nx ≤ b → s0.h.get b = none) {Q : Exit → Act → World → Prop} (hK : F9 dl i0 s0 w0 tm' (laid base (Tj ops.toList.length) nw s') N (Q .normal)) :
    ∀ (fuel : Nat) (listed : Array Bool) (a : Act) (w : World), listed.size = ops.size → rest ops.size (Lof listed) ≤ fuel → Inv dl E N ops.toList tr base nw tm s i0 s0 w0 (Lof listed) a w → wpAny E.P .any ops Q fuel listed a w := by
  have hE := NV hok
  obtain ⟨nr, hnr, hnp, hnf⟩ := hl.news
  rw [Xj] at hnr
  subst hnr
  have hlt : ∀ {j : Nat} {o : Oper}, ops.toList[j]? = some o → j < ops.size := by
    intro j o h
    rcases Zt j ops.toList.length with h' | h'
    · simpa using h'
    · rw [Xr h'] at h; cases h
  have hnwlt : ∀ x ∈ nw, x.1 < ops.toList.length := by
    intro x hx
    obtain ⟨_, o, e, h1, _⟩ := hnf x hx
    have := hlt h1
    simpa using this
  have hs0 : ∀ b, s0.h.get b ≠ none → b < base := fun b h => by
    rcases Zt b base with h' | h'
    · exact h'
    · exact absurd (hget0 b (by omega)) h
  have hend : ∀ (listed : Array Bool) (a : Act) (w : World), listed.size = ops.size → Region.ready .any ops listed = [] → Inv dl E N ops.toList tr base nw tm s i0 s0 w0 (Lof listed) a w → Q .normal a w := by
    intro listed a w hsz hr hI
    have hall : ∀ j, j < ops.size → Lof listed j = true := by
      intro j
      induction j using Ki with
      | _ j ih =>
        intro hj
        cases hL : Lof listed j with
        | true => rfl
        | false =>
          exfalso
          have ho : ops[j]? = some ops[j] := Y5 hj
          have : j ∈ Region.ready .any ops listed := by
            unfold Region.ready
            rw [Vz]
            refine ⟨Js.2 hj, ?_⟩
            have h1 : listed.getD j true = false := by
              have : listed.getD j false = false := hL
              rw [Xg, Y5 (by omega)] at this ⊢
              exact this
            rw [h1, ho]
            simp only [Bool.not_false, X4, Xc, U0]
            rw [← Zov, Xt]
            intro e he
            rw [NX]
            cases hbe : Mr e with
            | false => rfl
            | true =>
              have g1 := hE j ops[j] (by rw [Yx]; exact ho) e (Vz.2 ⟨he, hbe⟩)
              have := ih e.on g1 (by omega)
              unfold Lof at this
              rw [this]
              simp
          rw [hr] at this
          cases this
    obtain ⟨i, t, h1, h2, h3, h4, h5, h6, h7, h8⟩ := hI.ex
    have hs := hl.sEnd (j := 0) (L := Lof listed) (fun k hk => by simpa using hall k (by simpa using hk))
    rw [← hs] at h3 h4 h6
    have hlaid := h3.laid hbase (bits := Tj ops.toList.length) hnp (fun x hx _ hg => h6 x hx (hall _ (by simpa using hnwlt x hx)) hg)
    refine hK i w a hlaid (h4.swap (Dt _ _ _ _).symm (fun b hb => I6 _ _ _ _ _ (fun x _ _ => by omega)) hdom (fun b hb => ?_)) ⟨?_, h2.size, h2.defers⟩
    · have := h4.stay b hb
      cases hg : s'.h.get b with
      | none => exact absurd hg this
      | some o => rw [Du _ _ _ _ _ _ hg]; simp
    · intro k v e
      have ht := hl.tmEnd k (j := 0) (L := Lof listed) (fun k hk => by simpa using hall k (by simpa using hk))
      refine h2.tm k v ?_
      rw [h1 k, ← ht]
      exact e
  intro fuel
  induction fuel with
  | zero =>
    intro listed a w hsz hrest hI
    have hnil : Region.ready .any ops listed = [] := by
      rw [List.eq_nil_iff_forall_not_mem]
      intro j hj
      unfold Region.ready at hj
      rw [Vz] at hj
      obtain ⟨hj1, hj2⟩ := hj
      have hj1 := Js.1 hj1
      simp only [Zi, Xd] at hj2
      have h0 : (Xn ops.size).countP (fun j => !Lof listed j) = 0 := Nat.le_zero.1 hrest
      rw [List.countP_eq_zero] at h0
      have := h0 j (Js.2 hj1)
      have h2 : Lof listed j = false := by
        have := hj2.1
        unfold Lof
        rw [Xg, Y5 (by omega)] at this ⊢
        exact this
      rw [h2] at this
      simp at this
    exact ⟨hnil, hend listed a w hsz hnil hI⟩
  | succ fuel ih =>
    intro listed a w hsz hrest hI
    refine ⟨fun hr => hend listed a w hsz hr hI, fun p hp => ?_⟩
    unfold Region.ready at hp
    rw [Vz] at hp
    obtain ⟨hp1, hp2⟩ := hp
    have hpn := Js.1 hp1
    have ho : ops[p]? = some ops[p] := Y5 hpn
    generalize ops[p] = o at ho
    have hoL : ops.toList[p]? = some o := by rw [Yx]; exact ho
    simp only [Zi, Xd, ho, Xc, U0] at hp2
    have hLp : Lof listed p = false := by
      have := hp2.1
      unfold Lof
      rw [Xg, Y5 (by omega)] at this ⊢
      exact this
    have hready : ∀ e ∈ o.after.toList.filter Mr, Lof listed e.on = true := by
      have := hp2.2
      rw [← Zov, Xt] at this
      intro e he
      rw [Vz] at he
      have h1 := this e he.1
      rw [NX, he.2] at h1
      simpa [Lof] using h1
    have hcl := hI.closed
    have hL' : Lof (listed.setIfInBounds p true) = fun j => Lof listed j || j == p := by
      funext j
      unfold Lof
      rw [Xg, Xy]
      by_cases e : p = j
      · subst e
        rw [if_pos rfl, if_pos (by omega)]
        simp
      · rw [if_neg e, ← Xg]
        have : (j == p) = false := by simpa using fun h => e h.symm
        simp [this]
    have hcl' : Closed ops.toList (fun j => Lof listed j || j == p) := by
      intro j o' ho' hj e he
      simp only [Yq, beq_iff_eq] at hj ⊢
      rcases hj with hj | hj
      · exact .inl (hcl j o' ho' hj e he)
      · subst hj
        rw [hoL] at ho'
        cases ho'
        exact .inl (hready e he)
    obtain ⟨e, hte, hwant, hskip, hnew, hrun, ⟨tm1, hput⟩, hstill⟩ := hl.ent hoL
    rw [Zw] at hnew hrun
    have hslot : ∀ d, (d ∈ looks ops.toList o) → ∀ (k : Nat) (o' : Oper), ops.toList[k]? = some o' → o'.dst = some d → Lof listed k = decide (k < p) := by
      intro d hd k o' hk hdk
      rcases Kk k p with h | h | h
      · have := (I5 hok hk hoL h).2.1 d hdk (.inl hd)
        rw [rh hE hcl hoL hready this]
        simp [h]
      · subst h
        rw [hLp]
        simp
      · have := (I5 hok hoL hk h).2.2 d hdk hd
        cases hLk : Lof listed k with
        | true => rw [I4 hE hcl k o' hk hLk this] at hLp; cases hLp
        | false => simp; omega
    have hlater : ∀ d, o.dst = some d → ∀ (k : Nat) (o' : Oper), p < k → ops.toList[k]? = some o' → o'.dst = some d → Lof listed k = false := by
      intro d hd k o' hpk hk hdk
      have := (I5 hok hoL hk hpk).2.1 d hd (.inr hdk)
      cases hLk : Lof listed k with
      | true => rw [I4 hE hcl k o' hk hLk this] at hLp; cases hLp
      | false => rfl
    have heff : eff E.ty o.op = true → ∀ (k : Nat) (o' : Oper), ops.toList[k]? = some o' → eff E.ty o'.op = true → Lof listed k = decide (k < p) := by
      intro he k o' hk hek
      rcases Kk k p with h | h | h
      · have := (I5 hok hk hoL h).1 hek he
        rw [rh hE hcl hoL hready this]
        simp [h]
      · subst h
        rw [hLp]
        simp
      · have := (I5 hok hoL hk h).1 he hek
        cases hLk : Lof listed k with
        | true => rw [I4 hE hcl k o' hk hLk this] at hLp; cases hLp
        | false => simp; omega
    obtain ⟨i, t, h1, h2, h3, h4, h5, h6, h7, h8⟩ := hI.ex
    have hget : ∀ d, d ∈ looks ops.toList o → t.get d = e.tm.get d := by
      intro d hd
      rw [h1 d, hl.tmAt d (j := 0) hte]
      exact YJ (fun k o' hk hdk => by simpa using hslot d hd k o' hk hdk)
    have hev : ∀ x ∈ o.op.operands, ev t x = ev e.tm x := by
      intro x hx
      cases x with
      | tmp d => exact hget d (by unfold looks; exact List.mem_append_left _ (NK (Jo.2 hx)))
      | _ => rfl
    have hwant' : Ha ops.toList t o = some e.run := by
      rw [← hwant]
      unfold Ha
      split
      · rfl
      · rename_i j want hg
        split
        · rename_i o' ho'
          split
          · rename_i d hd
            rw [hget d (by unfold looks; rw [hg]; simp only [ho']; exact List.mem_append_right _ (by simp [hd]))]
          · rfl
        · rfl
    have hput' : ∃ t1, Gq N t o.dst e.v = some t1 ∧ ∀ d, t1.get d = H9 (fun j => Lof listed j || j == p) d 0 ops.toList tr (tm.get d) := by
      have hp1 : ∃ t1, Gq N t o.dst e.v = some t1 := by
        cases hd : o.dst with
        | none => exact ⟨t, rfl⟩
        | some d =>
          rw [hd] at hput
          unfold Gq at hput ⊢
          simp only at hput ⊢
          cases hb : Zb d N with
          | true => exact ⟨_, rfl⟩
          | false => rw [hb] at hput; cases hput
      obtain ⟨t1, ht1⟩ := hp1
      refine ⟨t1, ht1, fun d => ?_⟩
      rw [YG ht1]
      by_cases hd : o.dst = some d
      · rw [if_pos hd]
        symm
        refine MQ hoL hte hd (by simp) (fun k o' hk hko hdk => ?_)
        have := hlater d hd k o' hk hko hdk
        simp only [Zw, this, Vb]
        simp
        omega
      · rw [if_neg hd, h1 d]
        refine YJ (fun k o' hk hdk => ?_)
        have : k ≠ p := fun h => by subst h; rw [hoL] at hk; cases hk; exact hd hdk
        simp [this]
    have hsE : eff E.ty o.op = true → G3 E.ty (Lof listed) 0 ops.toList tr s = e.s := by
      intro he
      rw [hl.sAt (j := 0) hte]
      exact YK (fun k o' hk hek => by simpa using heff he k o' hk hek)
    have hsN : G3 E.ty (fun j => Lof listed j || j == p) 0 ops.toList tr s = if eff E.ty o.op = true then e.s' else G3 E.ty (Lof listed) 0 ops.toList tr s := by
      cases he : eff E.ty o.op with
      | true =>
        rw [if_pos rfl]
        refine MW hoL hte he (by simp) (fun k o' hk hko hek => ?_)
        have := heff he k o' hko hek
        simp only [Zw, this]
        simp
        omega
      | false =>
        rw [if_neg (by simp)]
        refine YK (fun k o' hk hek => ?_)
        have : k ≠ p := fun h => by subst h; rw [hoL] at hk; cases hk; rw [he] at hek; cases hek
        simp [this]
    obtain ⟨t1, ht1, hcur⟩ := hput'
    generalize hS : G3 E.ty (Lof listed) 0 ops.toList tr s = S at h3 h4 h6 h7 h8 hsE hsN
    generalize hS' : G3 E.ty (fun j => Lof listed j || j == p) 0 ops.toList tr s = S' at hsN
    have hnext : ∀ (i1 : Io) (w1 : World) (v' : Value), Le i i1 → VR i1 e.v v' → Rel i1 S' w1 → Fr i0 s0 w0 i1 S' w1 →
        (∀ x ∈ nw, (Lof listed x.1 || x.1 == p) = true → S'.h.get (base + x.1) = none → Mg i1 S' w1 (base + x.1) x.2) →
        (∀ (q : Nat) (o' : Oper), ops.toList[q]? = some o' → Gv o'.op = true → Lof listed q = false → q ≠ p → i1 (base + q) = none ∧ S'.h.get (base + q) = none) → (∀ (q : Nat) (o' : Oper), ops.toList[q]? = some o' → Gv o'.op = true → base + q < S'.nx) →
        wpAny E.P .any ops Q fuel (listed.setIfInBounds p true) (a.put o.dst v') w1 := by
      intro i1 w1 v' hle hv hR hF hpd hun hnx
      refine ih _ _ _ (by simp [hsz]) ?_ ?_
      · rw [hL']
        have := Za5 hpn hLp
        omega
      · rw [hL']
        refine ⟨⟨i1, t1, hcur, (h2.mono hle).put hv ht1, by rw [hS']; exact hR, by rw [hS']; exact hF, h5.mono hle, by rw [hS']; exact hpd, ?_, by rw [hS']; exact hnx⟩, hcl'⟩
        intro q o' hq hnq hLq
        rw [hS']
        have : Lof listed q = false ∧ q ≠ p := by
          constructor
          · cases hh : Lof listed q with
            | false => rfl
            | true => rw [hh] at hLq; cases hLq
          · intro e1; subst e1; simp at hLq
        exact hun q o' hq hnq this.1 this.2
    have hnotnew : (Gv o.op = true → e.run = false) → ∀ x ∈ nw, (Lof listed x.1 || x.1 == p) = true → Lof listed x.1 = true := by
      intro hnn x hx hLx
      rcases Yq _ _ ▸ hLx with h | h
      · exact h
      · exfalso
        have hxp : x.1 = p := by simpa using h
        obtain ⟨_, o', e', k1, k2, k3, k4, _⟩ := hnf x hx
        rw [Yl, hxp] at k1 k2
        rw [hoL] at k1
        cases k1
        rw [hte] at k2
        cases k2
        rw [hnn k3] at k4
        cases k4
    unfold wpOp
    rw [ho]
    simp only
    cases hrn : e.run with
    | false =>
      rw [hrn] at hwant'
      rw [if_neg (by rw [qx h2.tm hwant']; simp)]
      obtain ⟨k1, k2⟩ := hskip hrn
      have hsame : S' = S := by
        rw [hsN]
        cases he : eff E.ty o.op with
        | true => rw [if_pos rfl, k2, hsE he]
        | false => rw [if_neg (by simp)]
      rw [hsame] at hnext
      exact hnext i w undef (.refl i) (by rw [k1]; exact .undef i) h3 h4 (fun x hx hLx hg => h6 x hx (hnotnew (fun _ => hrn) x hx hLx) hg) (fun q o' hq hnq hLq _ => h7 q o' hq hnq hLq) h8
    | true =>
      rw [hrn] at hwant'
      rw [if_pos (qx h2.tm hwant')]
      left
      cases hisn : Gv o.op with
      | true =>
        have hne := MF (ty := E.ty) hisn
        rw [hne, if_neg (by simp)] at hsN
        obtain ⟨hnA, hmem⟩ := hnew hrn hisn
        have hnA' : N4 o.op E t (base + p) = some (e.v, e.x) := by
          unfold N4 at hnA ⊢
          rw [YY _ hev]
          exact hnA
        obtain ⟨m, hm, v', x, w1, g1, g2, g3, g4, g5, g6, g7, g8, g9⟩ := Za1 (w := w) hT hisn (h2.tm.tr h5) hnA'
        obtain ⟨u1, u2⟩ := h7 p o hoL hisn hLp
        have hpl := h8 p o hoL hisn
        have hle : Le i (ext i (base + p) (w.heap.size, 0)) := Nb u1
        obtain ⟨g10, g11⟩ := g9 _ hle (G8 _ _ _)
        obtain ⟨R1, R2⟩ := h3.reserve (o := e.x) (w1 := w1) (x := x) hpl u1 u2 g2 g11 g7 g8 g6
        unfold Oper.wp
        rw [hm]
        simp only [Sem.run_bind, g1, Result.andThen_ok, Sem.run_pure]
        show wpAny E.P .any ops Q fuel (listed.setIfInBounds p true) (a.put o.dst v') w1
        rw [hsN] at hnext
        refine hnext _ w1 v' hle g10 R1 (h4.reserve (by omega) u1 g2 g3 g4 g5) (fun y hy hLy hg => ?_) (fun q o' hq hnq hLq hqp => ?_) h8
        · by_cases hyp : y.1 = p
          · obtain ⟨_, o', e', k1, k2, k3, k4, k5⟩ := hnf y hy
            rw [Yl, hyp] at k1 k2
            rw [hte] at k2
            cases k2
            rw [hyp, ← k5]
            exact R2
          · have hLy' : Lof listed y.1 = true := by
              rcases Yq _ _ ▸ hLy with h | h
              · exact h
              · exact absurd (by simpa using h) hyp
            exact (h6 y hy hLy' hg).reserve u1 g2
        · obtain ⟨v1, v2⟩ := h7 q o' hq hnq hLq
          exact ⟨by rw [G6 (by omega)]; exact v1, v2⟩
      | false =>
        obtain ⟨nw1, s1', hx1, hx2, r, hr1, hr2⟩ := hrun hrn hisn
        have hanc : ∀ k, ((Gt ops.toList []).getD p 0).testBit k = true → Lof listed k = true := fun k hk => rh hE hcl hoL hready hk
        have hS1R : Rel i (laid base ((Gt ops.toList []).getD p 0) nw S) w := h3.laid hbase hnp (fun x hx hb hg => h6 x hx (hanc _ hb) hg)
        have hS1F : Fr i0 s0 w0 i (laid base ((Gt ops.toList []).getD p 0) nw S) w := h4.swap (Dt _ _ _ _).symm (fun b hb => I6 _ _ _ _ _ (fun x _ _ => by omega)) hdom (fun b hb => by
          have := h4.stay b hb
          cases hg : S.h.get b with
          | none => exact absurd hg this
          | some o => rw [Du _ _ _ _ _ _ hg]; simp)
        have hunex : ∀ (q : Nat) (o' : Oper), ops.toList[q]? = some o' → Gv o'.op = true → Lof listed q = false → (laid base ((Gt ops.toList []).getD p 0) nw S).h.get (base + q) = none := fun q o' hq hnq hLq => by
          rw [I6 _ _ _ _ _ (fun x hx hb e1 => by
            have : q = x.1 := by omega
            subst this
            rw [hanc _ hb] at hLq
            cases hLq)]
          exact (h7 q o' hq hnq hLq).2
        have hnn : ∀ x ∈ nw, (Lof listed x.1 || x.1 == p) = true → Lof listed x.1 = true := hnotnew (fun h => by rw [hisn] at h; cases h)
        have hbnx : ∀ (q : Nat) (o' : Oper), ops.toList[q]? = some o' → Gv o'.op = true → base + q < (laid base ((Gt ops.toList []).getD p 0) nw S).nx := fun q o' hq hnq => by rw [Dt]; exact h8 q o' hq hnq
        cases he : eff E.ty o.op with
        | true =>
          rw [he, if_pos rfl] at hsN
          have hx : Hb o.op E call t (laid base ((Gt ops.toList []).getD p 0) nw S) = some (e.v, S') := by
            rw [ML hev, hsE he, hsN, hx2 he]
            rw [hr1, NJ _ _ _ _ _ (fun x hx => ?_)]
            · exact hx1
            · cases hb : ((Gt ops.toList []).getD p 0).testBit x.1 with
              | false => rfl
              | true =>
                obtain ⟨e1, he1, h'⟩ := gw hoL (hE p o hoL) hb
                have l1 := hE p o hoL e1 he1
                have l2 := hr2 x hx
                have hlow : ∀ j : Nat, j ≤ p → ((Gt ops.toList []).getD j 0).testBit x.1 = true → x.1 < p := by
                  intro j
                  induction j using Ki with
                  | _ j ihj =>
                    intro hjp hbj
                    have hjl : j < ops.toList.length := by have : p < ops.toList.length := by simpa using hpn
                                                           omega
                    obtain ⟨e2, he2, h2'⟩ := gw (Zn hjl) (hE j _ (Zn hjl)) hbj
                    have l3 := hE j _ (Zn hjl) e2 he2
                    rcases h2' with h2' | h2'
                    · omega
                    · exact ihj e2.on l3 (by omega) h2'
                have := hlow p (Ze _) hb
                omega
          refine ZT hT hC o hS1R h5 (h2.tm.tr h5) hx (fun v' w' i' hv hR hF => ?_)
          refine hnext i' w' v' hF.le hv hR (hS1F.trans hF) (fun x hx hLx hg => ?_) (fun q o' hq hnq hLq hqp => ?_) (fun q o' hq hnq => ?_)
          · have hLx' := hnn x hx hLx
            have hg1 : (laid base ((Gt ops.toList []).getD p 0) nw S).h.get (base + x.1) = none := Classical.byContradiction fun h => hF.stay _ h hg
            have hg0 : S.h.get (base + x.1) = none := by
              cases hh : S.h.get (base + x.1) with
              | none => rfl
              | some y => rw [Du _ _ _ _ _ _ hh] at hg1; cases hg1
            refine (Mg.laid hbase (h6 x hx hLx' hg0) (fun y hy hb e1 => ?_)).step hF
            have hyx : y.1 = x.1 := by omega
            rw [hyx] at hb
            rw [rj _ _ _ _ hnp x hx hb hg0] at hg1
            cases hg1
          · exact ⟨hF.dom _ (hbnx q o' hq hnq) (h7 q o' hq hnq hLq).1, hF.gone _ (hbnx q o' hq hnq) (h7 q o' hq hnq hLq).1 (hunex q o' hq hnq hLq)⟩
          · exact Yu (hbnx q o' hq hnq) hF.nx
        | false =>
          rw [he, if_neg (by simp)] at hsN
          have hx : Hb o.op E call t (laid base ((Gt ops.toList []).getD p 0) nw S) = some (e.v, laid base ((Gt ops.toList []).getD p 0) nw S) := by
            have := hrd (Lof listed) p o e hcl hLp hready hoL hte he hisn hrn
            rw [hS] at this
            rw [ML hev]
            exact this
          refine ZT hT hC o hS1R h5 (h2.tm.tr h5) hx (fun v' w' i' hv hR hF => ?_)
          have hkeepS : ∀ b o, S.h.get b = some o → (laid base ((Gt ops.toList []).getD p 0) nw S).h.get b = some o := fun b o h => Du _ _ _ _ _ _ h
          rw [hsN] at hnext
          have hdomEq : ∀ b' x, i' b' = some x → i b' = some x := by
            intro b' x hx'
            have hb' : b' < (laid base ((Gt ops.toList []).getD p 0) nw S).nx := by
              rcases Zt b' (laid base ((Gt ops.toList []).getD p 0) nw S).nx with h | h
              · exact h
              · rw [(hR.fresh b' h).1] at hx'; cases hx'
            cases hi : i b' with
            | none => rw [hF.dom b' hb' hi] at hx'; cases hx'
            | some y => rw [← hx']; exact (hF.le _ _ hi).symm
          refine hnext i' w' v' hF.le hv (hR.less (Dt _ _ _ _).symm hkeepS) ((hS1F.trans hF).swap (Dt _ _ _ _) (fun b hb => (I6 _ _ _ _ _ (fun x _ _ => by omega)).symm) hdom h4.stay) (fun x hx hLx hg => ?_) (fun q o' hq hnq hLq hqp => ⟨?_, (h7 q o' hq hnq hLq).2⟩) h8
          · have hP := h6 x hx (hnn x hx hLx) hg
            obtain ⟨q, q1, q2, q3, q4⟩ := hP.at_
            have hOR : OR i' x.2 w'.heap[q]? 0 := by
              cases hb : ((Gt ops.toList []).getD p 0).testBit x.1 with
              | true =>
                have hv1 := rj base _ nw S hnp x hx hb hg
                exact hR.at (P := E.P) hv1 hP.alive (hF.le _ _ q1)
              | false =>
                have hP1 := (Mg.laid (bits := (Gt ops.toList []).getD p 0) hbase hP (fun y hy hb' e1 => by
                  have hyx : y.1 = x.1 := by omega
                  rw [hyx, hb] at hb'
                  cases hb')).step hF
                obtain ⟨q', r1, r2, r3, r4⟩ := hP1.at_
                rw [hF.le _ _ q1] at r1
                cases r1
                exact r3
            exact ⟨hg, ⟨q, hF.le _ _ q1, Yu q2 hF.size, hOR, fun b' t e1 => q4 b' t (hdomEq b' _ e1)⟩, by rw [hF.le.lim _ _ q1]; exact hP.lim, hP.alive, hP.free, hP.unit⟩
          · exact hF.dom _ (hbnx q o' hq hnq) (h7 q o' hq hnq hLq).1
end
end Go.Ax
namespace Go.Ax
open Go
theorem NH{a b:Value}(h:B6 a b=true):a=b:=by
 unfold B6 at h;split at h<;>first
  |(cases h;done)
  |rfl
  |(simp only[Zi,beq_iff_eq]at h;obtain⟨⟨h1,h2⟩,h3⟩:=h;subst h1;subst h2;subst h3;rfl)
  |(simp only[Zi,beq_iff_eq]at h;obtain⟨h1,h2⟩:=h;subst h1;subst h2;rfl)
  |(simp only[beq_iff_eq]at h;subst h;rfl)
theorem rk{e:Value→Value→Bool}(he:∀ {a b},e a b=true→a=b):∀ {a b:List Value},F0 e a b=true→a=b
 |[],[],_=>rfl
 |[],_::_,h=>by cases h
 |_::_,[],h=>by cases h
 |a::l,b::m,h=>by
  simp only[F0,Zi]at h;rw[he h.1,rk he h.2]
theorem YM{e:Value→Value→Bool}(he:∀ {a b},e a b=true→a=b){a b:Value}(h:N3 e a b=true):a=b:=by
 unfold N3 at h;split at h
 ·simp only[Zi,beq_iff_eq]at h;obtain⟨⟨h1,h2⟩,h3⟩:=h;have e2:=Ke.1 (rk he h2);have e3:=Ke.1 (rk he h3);subst h1;subst e2;subst e3;rfl
 ·simp only[Zi,beq_iff_eq]at h;rw[h.1,he h.2]
 ·rw[Ke.1 (rk he h)]
 ·exact NH h
theorem Za7{a b:Value}(h:veq a b=true):a=b:=YM (fun h=>YM (fun h=>YM (fun h=>NH h) h) h) h
noncomputable def cnt(ty:T TI)(L:Nat→Bool):Nat→List Oper→Nat
 |_,[]=>0
 |j,o::l=>(if(eff ty o.op&&L j)=true then 1 else 0)+cnt ty L (j+1) l
theorem YN(ty:T TI)(L:Nat→Bool):∀(l:List Oper) (j:Nat),((l.zipIdx j).filter fun(x:Oper×Nat)=>eff ty x.1.op&&L x.2).length=cnt ty L j l
 |[],j=>rfl
 |o::l,j=>by
  rw[List.zipIdx_cons,List.filter_cons,cnt,←YN ty L l (j+1)];simp only;cases eff ty o.op&&L j with
  |true=>simp;omega
  |false=>simp
theorem cnt_mono{ty:T TI}{L L':Nat→Bool}:∀ {l:List Oper} {j:Nat},(∀(k:Nat) (o:Oper),l[k]? =some o→eff ty o.op=true→L (j+k)=true→L' (j+k)=true)→cnt ty L j l≤cnt ty L' j l
 |[],_,_=>Ze _
 |o::l,j,h=>by
  simp only[cnt];have h1:=cnt_mono (ty:=ty) (L:=L) (L':=L') (l:=l) (j:=j+1) (fun k o' hk he hL=>by
   have:=h (k+1) o' (by simpa using hk) he (by rwa [show j+(k+1)=j+1+k by omega])
   rwa [show j+(k+1)=j+1+k by omega]at this)
  have h0:=h 0 o rfl;simp only[Yg]at h0;cases he:eff ty o.op with
  |false=>simp;exact h1
  |true=>
   cases hL:L j with
   |false=>simp;omega
   |true=>rw[h0 he hL];simp;exact h1
theorem YB{ty:T TI}{L:Nat→Bool}:∀ {l:List Oper} {tr:List Ent} {j:Nat} {acc:AS},l.length≤tr.length→(∀(a b:Nat) (o p:Oper),a<b→l[a]? =some o→l[b]? =some p→eff ty o.op=true→eff ty p.op=true→L (j+b)=true→L (j+a)=true)→
  (acc::C6 ty l tr)[cnt ty L j l]? =some (G3 ty L j l tr acc)
 |[],tr,j,acc,_,_=>by simp[cnt,G3]
 |_::_,[],_,_,h,_=>by simp at h
 |o::l,e::tr,j,acc,hlen,h=>by
  have hlen':l.length≤tr.length:=by simpa using hlen
  have h':∀(a b:Nat) (o p:Oper),a<b→l[a]? =some o→l[b]? =some p→eff ty o.op=true→eff ty p.op=true→L (j+1+b)=true→L (j+1+a)=true:=by
   intro a b o1 p1 hab ha hb he1 he2 hL;have:=h (a+1) (b+1) o1 p1 (by omega) (by simpa using ha) (by simpa using hb) he1 he2 (by rwa [show j+(b+1)=j+1+b by omega])
   rwa [show j+(a+1)=j+1+a by omega]at this
  simp only[cnt,G3,C6];cases he:eff ty o.op with
  |false=>
   simp only[Bool.false_and,Vp,if_false,and_false,Zw];exact YB hlen' h'
  |true=>
   cases hL:L j with
   |true=>
    simp only[X4,if_true,and_self];rw[Vi,Y9];exact YB hlen' h'
   |false=>
    have hno:∀(k:Nat) (o':Oper),l[k]? =some o'→eff ty o'.op=true→L (j+1+k)=false:=by
     intro k o' hk hek;cases hLk:L (j+1+k)with
     |false=>rfl
     |true=>
      have:=h 0 (k+1) o o' (by omega) rfl (by simpa using hk) he hek (by rwa [show j+(k+1)=j+1+k by omega]);simp only[Yg]at this;rw[hL]at this;cases this
    have hc0:cnt ty L (j+1) l=0:=by
     have:=cnt_mono (ty:=ty) (L:=L) (L':=fun _=>false) (l:=l) (j:=j+1) (fun k o' hk hek hLk=>by rw[hno k o' hk hek]at hLk;cases hLk);have h2:∀(l:List Oper) (j:Nat),cnt ty (fun _=>false) j l=0:=by
      intro l
      induction l with
      |nil=>intro j;rfl
      |cons x l ih=>intro j;simp[cnt,ih]
     rw[h2]at this;omega
    simp only[Bool.and_false,Vp,if_false,false_and,hc0,Yg,Y7];rw[Ds hno]
section
variable {dl:List Deferred}{E:Env}{call:Gu}{N:Nat}
theorem Za8{ops:List Oper}(hE:rf ops){k:Nat}:∀(j:Nat),j<ops.length→((Gt ops []).getD j 0).testBit k=true→k<j:=by
 intro j
 induction j using Ki with
 |_ j ih=>
  intro hj hb;obtain⟨e,he,h⟩:=gw (Zn hj) (hE j _ (Zn hj)) hb;have hlt:=hE j _ (Zn hj) e he;rcases h with h|h
  ·omega
  ·have:=ih e.on hlt (by omega) h;omega
theorem Za9(hm:E.P.follows .mixedOrders=true)(hT:Gr E)(hC:Mz E.P call):ZW E call:=by
 intro N ops tm tm' s s' h hok dl i w a Q id hR hg ha hK;have hE:=NV hok;have hbase:1000≤s.nx:=by
  rcases Zt s.nx 1000 with h|h
  ·have:=hg s.nx h;rw[(hR.fresh _ (Ze _)).1]at this;cases this
  ·exact h
 have hstart:∀k,Rel i ⟨s.h,s.nx+k⟩ w∧Fr i s w i ⟨s.h,s.nx+k⟩ w:=fun k=>
  ⟨⟨hR.obj,hR.inj,fun b hb=>hR.fresh b (by have:s.nx+k≤b:=hb;omega),hR.lim,hR.dom⟩,
   ⟨.refl i,fun _ _ _ h=>.inl h,rfl,rfl,rfl,Ze _,fun _ _ _=>rfl,fun _ _ _ _=>rfl,Nat.le_add_right _ _,fun _ _ h=>h,fun _ _ _ h=>h,fun _ h=>h⟩⟩
 have hdom:∀b x,i b=some x→b<s.nx:=by
  intro b x e;rcases Zt b s.nx with h|h
  ·exact h
  ·rw[(hR.fresh b h).1]at e;cases e
 suffices hs:∃k tr nw s2,(∀(p:Nat) (o:Oper),ops.toList[p]? =some o→Gv o.op=true→p<k)∧Lex E call N ops.toList (Gt ops.toList []) s.nx 0 ops.toList tm ⟨s.h,s.nx+k⟩ [] tr tm' s2 nw∧NG E call ops.toList s.nx nw tr ⟨s.h,s.nx+k⟩∧(F9 dl i s w tm' (laid s.nx (Tj ops.toList.length) nw s2) N (Q .normal)) by
  obtain⟨k,tr,nw,s2,hkn,hl,hrd,hK2⟩:=hs;obtain⟨hR1,hF1⟩:=hstart k;have hL0:∀j,Lof (Kg ops.size false) j=false:=by
   intro j;unfold Lof;rw[Xg,Array.getElem?_replicate];split<;>rfl
  refine wp_region_any hm (Za6 hT hC hl hok hrd (w0:= {w with drawn:=w.drawn+1}) (i0:=i) (s0:=s) rfl hbase hdom (fun b hb=>(hR.fresh b hb).2) (hK2.head (Fr.same rfl rfl rfl rfl)) _ _ _ _ (by simp) ?_ ⟨⟨i,tm,?_,ha,?_,?_,hg,?_,?_,?_⟩,?_⟩)
  ·unfold rest;exact Ye List.countP_le_length (by simp)
  ·intro d;rw[rc (fun k o _ _=>hL0 _)]
  ·rw[Ds (fun k o _ _=>hL0 _)];exact hR1.same rfl
  ·rw[Ds (fun k o _ _=>hL0 _)];exact⟨hF1.le,hF1.new,rfl,rfl,rfl,Ze _,fun _ _ _=>rfl,hF1.ro,hF1.nx,hF1.dom,hF1.gone,hF1.stay⟩
  ·intro x _ hx;rw[hL0]at hx;cases hx
  ·intro p o hp hn _;rw[Ds (fun k o _ _=>hL0 _)];exact hR.fresh (s.nx+p) (by omega)
  ·intro p o hp hn;rw[Ds (fun k o _ _=>hL0 _)];have:=hkn p o hp hn;show s.nx+p<s.nx+k;omega
  ·intro j o _ hj;rw[hL0]at hj;cases hj
 unfold Dl at h;cases hany:(ops.toList.any fun o=>eff E.ty o.op||Gv o.op)with
 |false=>
  rw[hany,cond_false]at h;have hno:∀o∈ops.toList,eff E.ty o.op=false∧Gv o.op=false:=by
   intro o ho;have:=List.any_eq_false.1 hany o ho;simp only[Bool.not_eq_true,Bool.or_eq_false_iff]at this;exact this
  obtain⟨tr,hl⟩:=YU (an:=Gt ops.toList []) (base:=s.nx) (i:=0) hno h;refine⟨0,tr,[],s',(fun p o hp hn=>by rw[(hno o (Y8 hp)).2]at hn;cases hn),hl,?_,hK⟩;intro L p o e hcl hLp hready ho hte he hn hrun;have hs0:∀(L:Nat→Bool),G3 E.ty L 0 ops.toList tr s=s:=fun L=>Ds (fun k o hk hek=>by rw[(hno o (Y8 hk)).1]at hek;cases hek);obtain⟨e',hte',_,_,_,hx,_,_⟩:=hl.ent ho;rw[hte]at hte';cases hte';obtain⟨nw1,sx,hx1,_,r,hr1,hr2⟩:=hx hrun hn;have hn1:nw1=[]:=by
   cases nw1 with
   |nil=>rfl
   |cons a l=>cases hr1
  have hes:e.s=s:=by rw[hl.sAt (j:=0) hte];exact hs0 _
  subst hn1;rw[MD,hes]at hx1;show Hb o.op E call e.tm (laid s.nx _ [] (G3 E.ty L 0 ops.toList tr s))=some (e.v,laid s.nx _ [] (G3 E.ty L 0 ops.toList tr s));rw[MD,hs0];rw[YV he]at hx1 ⊢;rw[YX he hn hx1]at hx1;exact hx1
 |true=>
  rw[hany,cond_true,natK_eq]at h;split at h
  ·cases h
  ·rename_i tm1 s2 ss rs nw hrunD;cases hall:rs.all (Iu E ops.toList (Gt ops.toList []) s.nx ss)with
   |false=>rw[hall]at h;cases h
   |true=>
    rw[hall,cond_true]at h;cases h;obtain⟨tr,hl,hss,_,hrs⟩:=gt hrunD;refine⟨ops.toList.length,tr,nw,s2,fun p o hp _=>(Yc.1 hp).1,hl,?_,hK⟩;intro L p o e hcl hLp hready ho hte he hn hrun;have hpn:p<ops.toList.length:=by
     rcases Zt p ops.toList.length with h|h
     ·exact h
     ·rw[Xr h]at ho;cases ho
    obtain⟨e',hte',_,_,_,hx,_,_⟩:=hl.ent ho;rw[hte]at hte';cases hte';obtain⟨nw1,sx,hx1,_,r,hr1,hr2⟩:=hx hrun hn;rw[Zw]at hx1 hr2;rw[YV he]at hx1 ⊢;cases hse:Dk o.op with
    |false=>
     have:=Za4 he hn hse hx1 (laid s.nx ((Gt ops.toList []).getD p 0) nw (G3 E.ty L 0 ops.toList tr ⟨s.h,s.nx+ops.toList.length⟩));exact this
    |true=>
     obtain⟨nw2,hmem,r2,hr3,hr4⟩:=hrs p o e ho hte he hn hrun;have hrd:=Xt.1 hall _ hmem;unfold Iu at hrd;simp only[hse,Vx,cond_false,Xt,Zw]at hrd hr4;have hnth:=YB (ty:=E.ty) (L:=L) (l:=ops.toList) (tr:=tr) (j:=0) (acc:=⟨s.h,s.nx+ops.toList.length⟩) (by rw[hl.length];exact Ze _) (fun a b o1 p1 hab ha hb e1 e2 hLb=>by
      simp only[Zw]at hLb ⊢;exact I4 hE hcl b p1 hb hLb ((I5 hok ha hb hab).1 e1 e2))
     have hin:(G3 E.ty L 0 ops.toList tr ⟨s.h,s.nx+ops.toList.length⟩,cnt E.ty L 0 ops.toList)∈ss.zipIdx:=by
      rw[Zos,hss];exact hnth
     have:=hrd _ hin;simp only at this;have hlo:Tf E.ty ops.toList ((Gt ops.toList []).getD p 0)≤cnt E.ty L 0 ops.toList:=by
      unfold Tf;refine Ye (Xo (YN E.ty (fun j=>((Gt ops.toList []).getD p 0).testBit j) ops.toList 0)) ?_;refine cnt_mono (fun k o' hk hek hb=>?_);simp only[Zw]at hb ⊢;exact rh hE hcl ho hready hb
     have hhi:cnt E.ty L 0 ops.toList≤Ti E.ty ops.toList (Gt ops.toList []) p:=by
      unfold Ti;refine Ye ?_ (Xo (YN E.ty (fun j=> !((Gt ops.toList []).getD j 0).testBit p) ops.toList 0).symm);refine cnt_mono (fun k o' hk hek hLk=>?_);simp only[Zw]at hLk ⊢;cases hb:((Gt ops.toList []).getD k 0).testBit p with
      |false=>rfl
      |true=>rw[I4 hE hcl k o' hk hLk hb]at hLp;cases hLp
     rw[show(Zb (Tf E.ty ops.toList ((Gt ops.toList []).getD p 0)) (cnt E.ty L 0 ops.toList)&&Zb (cnt E.ty L 0 ops.toList) (Ti E.ty ops.toList (Gt ops.toList []) p))=true by
      rw[Zi];exact⟨by simpa using hlo,by simpa using hhi⟩,cond_true]at this
     have hnw:laid s.nx ((Gt ops.toList []).getD p 0) nw2 (G3 E.ty L 0 ops.toList tr ⟨s.h,s.nx+ops.toList.length⟩)=laid s.nx ((Gt ops.toList []).getD p 0) nw (G3 E.ty L 0 ops.toList tr ⟨s.h,s.nx+ops.toList.length⟩):=by
      rw[hr3,NJ _ _ _ _ _ (fun x hx=>?_)];cases hb:((Gt ops.toList []).getD p 0).testBit x.1 with
      |false=>rfl
      |true=>
       have:=Za8 hE p hpn hb;have:=hr4 x hx;omega
     rw[hnw]at this;split at this
     ·rename_i v s3 hop;rw[YX he hn hop]at hop;rw[Za7 this]at hop;exact hop
     ·cases this
theorem YC(hm:E.P.follows .mixedOrders=true)(hT:Gr E)(hB:gp E)(hF:q8 E)(hP:ZL E)(F D:Nat):Mz E.P (Gw E F D):=
 MN hT hB hF hP (fun _ hC=>Za9 hm hT hC) F D
end
end Go.Ax
namespace Go.Ax
open Go
def jb :Value→Bool
 |.bool _|.int _ _|.float _ _|.string _|.pointer none|.slice none 0 0|.map none|.nilFunc|.nilIface=>true
 |_=>false
def zok :Value→Bool
 |.agg cs=>cs.toList.all jb
 |v=>jb v
theorem NM{v:Value}(h:jb v=true)(i:Io):VR i v v:=by
 unfold jb at h;split at h<;>first
  |(cases h;done)
  |exact .bool _
  |exact .int _ _
  |exact .float _ _
  |exact .string _
  |exact .nilp
  |exact .nils rfl
  |exact .nilm
  |exact .nilFunc
  |exact .nilIface
theorem NN(i:Io):∀ {l:List Value},l.all jb=true→VRs i l l
 |[],_=>.nil
 |v::l,h=>by
  simp only[List.all_cons,Zi]at h;exact .cons (NM h.1 i) (NN i h.2)
theorem Zba{v:Value}(h:zok v=true)(i:Io):VR i v v:=by
 unfold zok at h;split at h
 ·exact .agg (NN i h)
 ·exact NM h i
def Gc(info:TypeInfo):List Value:=
 match info.zero with
 |some v=>v.cells.toList
 |none=>[]
def Zbb :Value→Bool
 |.agg _=>true
 |_=>false
def rm(info:TypeInfo)(d:TypeDesc):Bool:=
 match info.zero with
 |some v=>zok v&&(Zbb v==Hw d)&&Za (Gc info).length info.size
 |none=>false
theorem Zbc{E:Env}(h:∀t ti,E.ty.get t=some ti→∃info,E.P.info? t=some info∧E.P.underlying t=some ti.desc∧info.size=ti.size∧info.bytes=ti.bytes∧Gc info=ti.zero∧rm info ti.desc=true):Gr E:=by
 refine⟨fun t ti ht=>?_⟩;obtain⟨info,h1,h2,h3,h4,h5,h6⟩:=h t ti ht;refine⟨info,h1,h2,h3,h4,?_⟩;unfold rm at h6;unfold Gc at h5 h6;cases hz:info.zero with
 |none=>rw[hz]at h6;cases h6
 |some zv=>
  rw[hz]at h5 h6;simp only[Zi,beq_iff_eq,X0]at h5 h6;obtain⟨⟨g1,g2⟩,g3⟩:=h6;refine⟨zv,rfl,h5,fun i=>Zba g1 i,fun ha=>?_,fun ha=>?_,by rw[←h5,g3,h3]⟩
  ·rw[ha]at g2;cases zv<;>first|(cases g2;done)|skip
   rename_i cs;rw[←h5];rfl
  ·rw[ha]at g2;cases zv<;>first|(cases g2;done)|(rw[←h5];rfl)
noncomputable def T.fillO{α:Type}(t:T α)(i:Nat)(l:List (Option α)):T α:=
 List.rec (motive:=fun _=>Nat→T α→T α) (fun _ t=>t) (fun x _ ih i t=>ih (i+1) (t.put i x)) l i t
theorem T.fillO_nil{α:Type}(t:T α)(i:Nat):t.fillO i []=t:=rfl
theorem T.fillO_cons{α:Type}(t:T α)(i:Nat)(x:Option α)(l:List (Option α)):t.fillO i (x::l)=(t.put i x).fillO (i+1) l:=rfl
theorem T.get_fillO{α:Type}(l:List (Option α)):∀(t:T α) (i j:Nat),(t.fillO i l).get j=if i≤j∧j<i+l.length then(l[j-i]?).join else t.get j:=by
 induction l with
 |nil=>intro t i j;rw[T.fillO_nil];simp;omega
 |cons x l ih=>
  intro t i j;rw[T.fillO_cons,ih,T.get_put];simp only[Zf];by_cases h1:j=i
  ·subst h1;rw[if_neg (by omega),if_pos rfl,if_pos (by omega)];simp
  ·by_cases h2:i+1≤j∧j<i+1+l.length
   ·rw[if_pos h2,if_pos (by omega),List.getElem?_cons,if_neg (by omega)];congr 2
   ·rw[if_neg h2,if_neg h1,if_neg (by omega)]
def rp(P:Program)(info:TypeInfo):TypeDesc:=
 match info.desc with
 |.named _ u=>((P.types[u]?).map (·.desc)).getD .invalid
 |d=>d
def NB(P:Program)(info:TypeInfo):TI:=⟨rp P info,info.size,Gc info,info.bytes⟩
def YD(P:Program)(info:TypeInfo):Bool:=
 match info.desc with
 |.named _ u=>Zh u P.types.size
 |_=>true
def tyL(P:Program):List (Option TI):=P.types.toList.map fun info=>bif YD P info&&rm info (rp P info)then some (NB P info)else none
theorem info_lt{P:Program}{t:TypeId}(h:t<P.types.size):P.info? t=P.types[t]? :=by
 unfold Tables.info?;rw[if_pos h]
theorem YF{E:Env}(h:E.ty=T.e.fillO 0 (tyL E.P)):Gr E:=by
 refine Zbc (fun t ti ht=>?_);rw[h,T.get_fillO]at ht;split at ht
 ·rename_i hr;simp only[Yl,tyL,Zy]at ht;cases hi:E.P.types.toList[t]? with
  |none=>rw[hi]at ht;cases ht
  |some info=>
   rw[hi]at ht;simp only[Xc,Zow]at ht;cases hg:(YD E.P info&&rm info (rp E.P info))with
   |false=>rw[hg]at ht;cases ht
   |true=>
    rw[hg]at ht;cases ht;simp only[Zi]at hg;have hi':E.P.info? t=some info:=by
     have hlt:t<E.P.types.size:=by
      have:=(Yc.1 hi).1;simpa using this
     rw[info_lt hlt,←Yx];exact hi
    refine⟨info,hi',?_,rfl,rfl,rfl,hg.2⟩;have hn:=hg.1;unfold Program.underlying;rw[hi'];simp only[NB,rp];unfold YD at hn;cases hd:info.desc with
    |named s u=>
     rw[hd]at hn;have hlt:u<E.P.types.size:=by simpa[Yj]using hn
     obtain⟨desc,str,size,bytes,hp,al,fa,zero,comp,ms⟩:=info;simp only at hd;subst hd;simp only;rw[info_lt hlt,Y5 hlt];rfl
    |_=>
     obtain⟨desc,str,size,bytes,hp,al,fa,zero,comp,ms⟩:=info;simp only at hd;subst hd;rfl
 ·cases ht
noncomputable def YR (ty : T TI) (fn : Func) : Bool := !(fn.name == "runtime.NumGoroutine") && (match fn.body with
 |some c=>codeOk ty c
 |none=>true)
noncomputable def fnL(ty:T TI)(P:Program):List (Option Func):=P.funcs.toList.map fun fn=>bif YR ty fn then some fn else none
theorem YT{E:Env}(h:E.fn=T.e.fillO 0 (fnL E.ty E.P)):q8 E:=by
 refine⟨fun f fn hf=>?_⟩;rw[h,T.get_fillO]at hf;split at hf
 ·simp only[Yl,fnL,Zy]at hf;cases hi:E.P.funcs.toList[f]? with
  |none=>rw[hi]at hf;cases hf
  |some fn'=>
   rw[hi]at hf;simp only[Xc,Zow]at hf;cases hg:YR E.ty fn' with
   |false=>rw[hg]at hf;cases hf
   |true=>
    rw[hg]at hf;cases hf;unfold YR at hg;simp only[Zi,Xd]at hg;refine⟨by rw[←Yx];exact hi,hg.1,fun c hc=>?_⟩;have:=hg.2;rw[hc]at this;exact this
 ·cases hf
end Go.Ax
namespace Go.Ax
open Go
theorem Nc.same {P : Program} {f : FuncId} {fn : Func} (hf : P.funcs[f]? = some fn) (hn : (fn.name == "runtime.NumGoroutine") = false) (hb : fn.body.isNone = false) {args' : List Value} {i : Io} {s : AS} {w : World} {v v' : Value}
  (hR:Rel i s w) (hc:Calls P f ⟨args'⟩ w fun e w'=>e=.returned v'∧w'=w) (hv:VR i v v'):Nc P f args' i s w v s:=by
 have hn' : fn.name ≠ "runtime.NumGoroutine" := by simpa using hn
 have hb':fn.body≠none:=fun e=>by rw[e]at hb;cases hb
 refine .inr ⟨?_,Calls.mono hc (fun e w' he=>?_)⟩
 ·unfold callFunc;simp[hf,hn',hb']
 ·obtain⟨rfl,rfl⟩:=he;exact⟨i,hv,hR,.refl _ _ _⟩
theorem Rel.bytes{i:Io}{s:AS}{w:World}(hR:Rel i s w){b o n q t:Nat}{l:List Value}{bs:List UInt8}(hr:Go.Ax.rdN s b o n=some l)(hi:i b=some (q,t))(hl:l=bs.map fun c=>Value.int .u8 c.toNat):
  bs.length=n∧∀k (h:k<bs.length),w.cell? ⟨q,t+o+k,none⟩=some (.int .u8 (bs[k].toNat:Nat)):=by
 obtain⟨l',_,h2,h3⟩:=hR.rdN (P:=default) hr hi;have hn:bs.length=n:=by rw[←h3,hl,Zc]
 refine⟨hn,fun k hk=>?_⟩;have hrd:Go.Ax.rd s b (o+k)=some (.int .u8 (bs[k].toNat:Nat)):=by
  unfold Go.Ax.rdN at hr;unfold Go.Ax.rd;have key:∀(c:T Value) (m:Nat),(bif Zb (o+n) m then c.list n o else none)=some l→(bif Zh (o+k) m then c.get (o+k)else none)=some (.int .u8 (bs[k].toNat:Nat)):=by
   intro c m hc;cases hb:Zb (o+n) m with
   |false=>rw[hb]at hc;cases hc
   |true=>
    rw[hb,cond_true]at hc;have hle:o+n≤m:=by simpa using hb
    have hlt:Zh (o+k) m=true:=by rw[Yj];omega
    rw[hlt,cond_true,(T.list_some c n o l hc).2 k (by omega),hl];simp[hk]
  split at hr
  ·rename_i c m z hg;exact key c m hr
  ·rename_i c m hg;exact key c m hr
  ·cases hr
 obtain⟨v',g1,g2⟩:=hR.rd hrd hi;cases g2;rw[Ya];exact g1
end Go.Ax
namespace Go.Ax
open Go
def M0(x:Nat):Nat:=if x%2=1 then(x/2)^^^3988292384 else x/2
def Nr :Nat→Nat→Nat
 |0,x=>x
 |j+1,x=>M0 (Nr j x)
def Ns :Nat→List UInt8→Nat
 |x,[]=>x
 |x,c::l=>Ns (Nr 8 (x^^^c.toNat)) l
def Ms(c:Nat)(l:List UInt8):Nat:=(l.reverse.dropWhile fun x=>x.toNat==c).length
noncomputable section
def kc1(x:Nat):Nat:=bif Za (x%2) 1 then Xw (x/2) 3988292384 else x/2
def kc8(x:Nat):Nat:=Hf (kc1 x) fun x=>Hf (kc1 x) fun x=>Hf (kc1 x) fun x=>Hf (kc1 x) fun x=>Hf (kc1 x) fun x=>Hf (kc1 x) fun x=>Hf (kc1 x) fun x=>kc1 x
def kcL(l:List Value):Nat→Option Nat:=
 List.rec (motive:=fun _=>Nat→Option Nat) (fun x=>some x) (fun v _ ih x=>match v with
  |.int .u8 (.ofNat b)=>bif Zh b 256 then Hf (kc8 (Xw x b)) ih else none
  |_=>none) l
theorem Zbd(x:Nat):kc1 x=M0 x:=by
 unfold kc1 M0;rcases Jh x with h|h
 ·rw[h];rfl
 ·rw[h];rfl
theorem NC(x:Nat):kc8 x=Nr 8 x:=by
 unfold kc8;simp only[natK_eq,Zbd];rfl
theorem ND :∀ {l:List Value} {x r:Nat},kcL l x=some r→∃bs:List UInt8,l=bs.map (fun c=>Value.int .u8 c.toNat)∧r=Ns x bs
 |[],x,r,h=>by cases h;exact⟨[],rfl,rfl⟩
 |v::l,x,r,h=>by
  have h':(match (generalizing:=false) v with
   |.int .u8 (.ofNat b)=>bif Zh b 256 then Hf (kc8 (Xw x b)) (kcL l)else none
   |_=>none)=some r:=h
  clear h;split at h'
  ·rename_i b;cases hb:Zh b 256 with
   |false=>rw[hb]at h';cases h'
   |true=>
    rw[hb,cond_true,natK_eq,NC]at h';have hlt:b<256:=by simpa[Yj]using hb
    obtain⟨bs,h1,h2⟩:=ND h';have e:(UInt8.ofNat b).toNat=b:=by simp;omega
    refine⟨UInt8.ofNat b::bs,?_,?_⟩
    ·rw[Zr,h1,e];rfl
    ·show r=Ns (Nr 8 (x^^^(UInt8.ofNat b).toNat)) bs;rw[e];exact h2
  ·cases h'
def rq :List Value→AS→Option (Value×AS)
 |[.slice (some a) n c],s=>bif Zb n 1000000 then(match rdN s a.block a.off n with
  |none=>none
  |some l=>match kcL l 4294967295 with
   |none=>none
   |some r=>Hf (Xw r 4294967295) fun r=>some (.int .i64 (.ofNat r),s))else none
 |_,_=>none
end
end Go.Ax
namespace Go.Ax
open Go
theorem NF{α:Type}(p:α→Bool):∀(l:List α) (x:α),(l++[x]).dropWhile p=if l.dropWhile p=[]then(if p x then []else [x])else l.dropWhile p++[x]
 |[],x=>by simp[List.dropWhile];split<;>simp_all
 |y::l,x=>by
  rw[Y0,Zox,Zox];cases hp:p y with
  |true=>simp only[if_true];exact NF p l x
  |false=>simp
theorem Zbe(c:Nat)(x:UInt8)(l:List UInt8):Ms c (x::l)=if Ms c l=0 then(if x.toNat=c then 0 else 1)else Ms c l+1:=by
 unfold Ms;rw[List.reverse_cons,NF];by_cases h:l.reverse.dropWhile (fun x=>x.toNat==c)=[]
 ·rw[if_pos h,h];simp only[Zo,if_true];by_cases hx:x.toNat=c
  ·simp[hx]
  ·simp[hx]
 ·rw[if_neg h];have:(l.reverse.dropWhile (fun x=>x.toNat==c)).length≠0:=fun e=>h (Vg e);rw[if_neg this,Zd];rfl
noncomputable section
def kt(c:Nat)(l:List Value):Nat→Nat→Option Nat:=
 List.rec (motive:=fun _=>Nat→Nat→Option Nat) (fun _ best=>some best) (fun v _ ih i best=>match v with
  |.int .u8 (.ofNat b)=>bif Zh b 256 then Hf (Nat.succ i) (fun i=>ih i (bif Za b c then best else i))else none
  |_=>none) l
theorem NR{c:Nat}:∀ {l:List Value} {i best r:Nat},kt c l i best=some r→∃bs:List UInt8,l=bs.map (fun c=>Value.int .u8 c.toNat)∧r=if Ms c bs=0 then best else i+Ms c bs
 |[],i,best,r,h=>by cases h;exact⟨[],rfl,rfl⟩
 |v::l,i,best,r,h=>by
  have h':(match (generalizing:=false) v with
   |.int .u8 (.ofNat b)=>bif Zh b 256 then Hf (Nat.succ i) (fun i=>kt c l i (bif Za b c then best else i))else none
   |_=>none)=some r:=h
  clear h;split at h'
  ·rename_i b;cases hb:Zh b 256 with
   |false=>rw[hb]at h';cases h'
   |true=>
    rw[hb,cond_true,natK_eq]at h';have hlt:b<256:=by simpa[Yj]using hb
    obtain⟨bs,h1,h2⟩:=NR h';have e:(UInt8.ofNat b).toNat=b:=by simp;omega
    refine⟨UInt8.ofNat b::bs,?_,?_⟩
    ·rw[Zr,h1,e];rfl
    ·rw[Zbe,e,h2];by_cases h0:Ms c bs=0
     ·rw[if_pos h0,if_pos h0];by_cases hc:b=c
      ·subst hc;simp
      ·have:Za b c=false:=by
        cases hh:Za b c with
        |false=>rfl
        |true=>exact absurd (Zv hh) hc
       rw[this];simp[hc]
     ·rw[if_neg h0,if_neg h0,if_neg (by omega)];simp only[Nat.succ_eq_add_one];omega
  ·cases h'
end
end Go.Ax
namespace Go.Ax
open Go
theorem Nc.ext {P : Program} {f : FuncId} {fn : Func} {e : Array Value → Sem Value} (hf : P.funcs[f]? = some fn) (hname : (fn.name == "runtime.NumGoroutine") = false) (hb : fn.body.isNone = true) (hn : Extern.findNext fn = none) (he : Extern.find fn = some e)
  {args':List Value} {i:Io} {s s':AS} {w:World} {v:Value} (h:∃v' w' i',(e ⟨args'⟩).run P w=.ok v' w'∧VR i' v v'∧Rel i' s' w'∧Fr i s w i' s' w'):Nc P f args' i s w v s':=by
 obtain⟨v',w',i',h1,h2,h3,h4⟩:=h;refine .inl ⟨v',w',i',?_,h2,h3,h4⟩;rw[run_callFunc_extern hf hname hb hn he,h1];rfl
def POk(P:Program)(f:FuncId)(p:List Value→AS→Option (Value×AS)):Prop:=
 ∀args s v s',p args s=some (v,s')→∀i w args',Rel i s w→Gl i→VRs i args args'→Nc P f args' i s w v s'
noncomputable section
def rr :List Value→AS→Option (Value×AS)
 |[v],s=>some (v,s)
 |_,_=>none
theorem Zbf {P : Program} {f : FuncId} {fn : Func} (hf : P.funcs[f]? = some fn) (hname : (fn.name == "runtime.NumGoroutine") = false) (hb : fn.body.isNone = true) (hn : Extern.findNext fn = none) (he : Extern.find fn = some Extern.AbiNoEscape.same) : POk P f rr := by
 intro args s v s' h i w args' hR hg ha;unfold rr at h;split at h
 ·cases h;cases ha with
  |cons h1 h2=>
   cases h2;exact Nc.ext hf hname hb hn he ⟨_,w,i,rfl,h1,hR,.refl _ _ _⟩
 ·cases h
def jc :List Value→AS→Option (Value×AS)
 |[.iface t (.map (some r))],s=>match s.h.get r with
  |some (.map es)=>some (.iface t (.map (some s.nx)),s.new (.map es))
  |_=>none
 |_,_=>none
theorem Zbg {P : Program} {f : FuncId} {fn : Func} (hf : P.funcs[f]? = some fn) (hname : (fn.name == "runtime.NumGoroutine") = false) (hb : fn.body.isNone = true) (hn : Extern.findNext fn = none) (he : Extern.find fn = some Extern.MapsClone.clone) : POk P f jc := by
 intro args s v s' h i w args' hR hg ha;unfold jc at h;split at h
 ·rename_i t r;split at h
  ·rename_i es hes;cases h;cases ha with
   |cons h1 h2=>
    cases h2;cases h1 with|iface _ h1=>
    cases h1 with| @map _ q hi=>
    obtain⟨_,es',clk,l,g1,g2,g3,g4⟩:=hR.at (P:=P) hes rfl hi;obtain⟨k1,k2⟩:=hR.new (lm:=(0,0)) (o:=.map es) (x:=.map es' clk) ⟨rfl,es',clk,l,rfl,g2,g3.mono (Nb (hR.fresh s.nx (Ze _)).1),g4⟩;refine Nc.ext hf hname hb hn he ⟨_,_,_,?_,.iface t (.map (G8 _ _ _)),k1,k2⟩;change Sem.run P (α:=Value) (do
     let .map entries clock ← getObj q | stuck "maps.clone: a map expected"
     pure (.iface t (.map (some (←newObj (.map entries clock)))))) w=_
    simp only[Sem.run_bind,C5 g1 P,Result.andThen_ok];rfl
  ·cases h
 ·cases h
def YQ :List Value→AS→Option (Value×AS)
 |[.slice (some a) _ _,.slice (some b) _ _],s=>match s.h.get b.block with
  |some (.cells _ k _)=>bif !Nat.beq a.block b.block&&live s a.block&&Zb 1 k then some (.bool false,s)else none
  |_=>none
 |_,_=>none
def NT(E:Env)(t:TypeId):Bool:=
 match E.ty.get t with
 |some ti=>match ti.desc with
  |.slice e=>(E.ty.get e).isSome
  |_=>false
 |none=>false
theorem Zbh {E : Env} (hT : Gr E) {f : FuncId} {fn : Func} {t r : TypeId} (hf : E.P.funcs[f]? = some fn) (hname : (fn.name == "runtime.NumGoroutine") = false) (hb : fn.body.isNone = true) (hn : Extern.findNext fn = none)
  (he:Extern.find fn=some (Extern.SlicesOverlaps.overlaps #[t,t] #[r])) (hchk:NT E t=true):POk E.P f YQ:=by
 intro args s v s' h i w args' hR hg ha;have hex:∃ti e j,E.ty.get t=some ti∧ti.desc=.slice e∧E.ty.get e=some j:=by
  unfold NT at hchk;split at hchk
  ·rename_i ti hti;split at hchk
   ·rename_i e hd;cases hj:E.ty.get e with
    |none=>rw[hj]at hchk;cases hchk
    |some j=>exact⟨ti,e,j,hti,hd,hj⟩
   ·cases hchk
  ·cases hchk
 obtain⟨ti,e,j,ht,hd,hj⟩:=hex;have hu:E.P.underlying t=some (.slice e):=by
  obtain⟨_,_,q2,_⟩:=hT.ty t ti ht;rw[q2,hd]
 unfold YQ at h;split at h
 ·rename_i a n c b m c2;split at h
  ·rename_i cb k zb hblk;cases hl:(!Nat.beq a.block b.block&&live s a.block&&Zb 1 k)with
   |false=>rw[hl]at h;cases h
   |true=>
    rw[hl]at h;cases h;simp only[Zi,Xd,Vh]at hl;obtain⟨⟨hne,hla⟩,hk1⟩:=hl;cases ha with
    |cons h1 h2=>
    cases h2 with
    |cons h2 h3=>
    cases h3;cases h1 with
    | @slice ba oa qa ta _ _ pa ca' hia x1 x2 x3 x4 x5=>
    cases h2 with
    | @slice bb ob qb tb _ _ pb cb' hib y1 y2 y3 y4 y5=>
    simp only at hne hla hblk;obtain⟨csa,ea,fra,w1,w2⟩:=hR.live_cells hla hia;obtain⟨csb,eb,frb,w3,w4,_⟩:=hR.at (P:=E.P) hblk rfl hib;have hnb:ba≠bb:=fun e=>by subst e;rw[Yy]at hne;cases hne
    have hlive:∃o,s.h.get ba=some o∧alive o=true:=by
     unfold live at hla;split at hla
     ·rename_i hgg;exact⟨_,hgg,rfl⟩
     ·cases hla
    obtain⟨oa',ha1,ha2⟩:=hlive;have hqne:qa≠qb:=fun e=>by
     subst e;exact hnb (hR.inj ba bb oa' _ qa ta tb ha1 hblk ha2 rfl hia hib)
    refine Nc.ext hf hname hb hn he ⟨.bool false,w,i,?_,.bool _,hR,.refl _ _ _⟩;exact Lib.run_overlaps_apart w t r e hu j.size (Hz hT hj) ⟨qa,pa,none⟩ ⟨qb,pb,none⟩ n ca' m cb' hqne ea eb csa.size csb.size (by unfold World.shape?;rw[w1]) (by unfold World.shape?;rw[w3]) (by omega) (notFrozen w1 w2 _ _) (notFrozen w1 w2 _ _)
  ·cases h
 ·cases h
end
end Go.Ax
namespace Go.Ax
open Go Go.RowKit
section
variable {i:Io}{s:AS}{w:World}
theorem Rel.newAt{w':World}{o:Gg}{x:Obj}{lm:Nat×Nat}{q:Nat}(h:Rel i s w)(hb:Below w.heap.size w w')(hq:w.heap.size≤q)(hx:w'.heap[q]? =some x)(hor:OR (ext i s.nx (q,0) lm) o (some x) 0)
  (hlim:∀c n z,o=.cells c n z→lm.1=zs z∧∀cs e fr,x=.cells cs e fr→lm.2≤cs.size:=by intro _ _ _ h;cases h):
  Rel (ext i s.nx (q,0) lm) (s.new o) w'∧Fr i s w (ext i s.nx (q,0) lm) (s.new o) w':=by
 obtain⟨hR',hF'⟩:=h.below hb;have hnx:=h.fresh s.nx (Ze _);have hle:Le i (ext i s.nx (q,0) lm):=Nb hnx.1;have get:∀k,(s.new o).h.get k=if k=s.nx then some o else s.h.get k:=fun k=>T.get_set _ _ _ _
 have hlt:∀k y q' t,s.h.get k=some y→i k=some (q',t)→q'<w.heap.size:=fun k y q' t hk e=>h.dom k q' t e (.inl (by rw[hk];simp));refine⟨⟨?_,?_,?_,?_,?_⟩,⟨hle,?_,hF'.os,hF'.tape,hF'.output,hF'.size,hF'.keep,?_,Nat.le_succ _,fun k hk e=>by rw[G6 (by omega)];exact e,fun k hk _ e=>by rw[get,if_neg (by omega)];exact e,fun k g=>by rw[get];split<;>first|(simp;done)|exact g⟩⟩
 ·intro k y hk ha;rw[get]at hk;by_cases e:k=s.nx
  ·rw[if_pos e]at hk;cases hk;subst e;exact⟨q,0,G8 _ _ _,by rw[hx];exact hor⟩
  ·rw[if_neg e]at hk;obtain⟨q',t,e',hr⟩:=hR'.obj k y hk ha;exact⟨q',t,by rw[G6 e];exact e',hr.mono hle⟩
 ·intro k k' y y' q1 t t' hk hk' ha ha' e e';rw[get]at hk hk';by_cases f:k=s.nx<;>by_cases f':k'=s.nx
  ·rw[f,f']
  ·rw[if_neg f']at hk';rw[G6 f']at e';rw[f,G8]at e;cases e;have:=hlt k' y' q t' hk' e';omega
  ·rw[if_neg f]at hk;rw[G6 f]at e;rw[f',G8]at e';cases e';have:=hlt k y q t hk e;omega
  ·rw[if_neg f]at hk;rw[if_neg f']at hk';rw[G6 f]at e;rw[G6 f']at e';exact h.inj k k' y y' q1 t t' hk hk' ha ha' e e'
 ·intro k hk;have hk':s.nx+1≤k:=hk;obtain⟨g1,g2⟩:=h.fresh k (by omega);exact⟨by rw[G6 (by omega)];exact g1,by rw[get,if_neg (by omega)];exact g2⟩
 ·intro k c n z q' t' hk e;rw[get]at hk;by_cases f:k=s.nx
  ·rw[if_pos f]at hk;cases hk;subst f;rw[G8]at e;cases e;rw[B7];obtain⟨g1,g2⟩:=hlim c n z rfl;exact⟨g1,fun cs e' fr hw=>g2 cs e' fr (by rw[hx]at hw;cases hw;rfl)⟩
  ·rw[if_neg f]at hk;rw[G6 f]at e;rw[Iw f];exact hR'.lim k c n z q' t' hk e
 ·intro k q' t' e hk;by_cases f:k=s.nx
  ·subst f;rw[G8]at e;cases e;exact(X5.1 hx).1
  ·rw[G6 f]at e;rw[get,if_neg f]at hk;exact hR'.dom k q' t' e hk
 ·intro k q' t' e;by_cases f:k=s.nx
  ·subst f;rw[G8]at e;cases e;exact .inr (.inl hq)
  ·rw[G6 f]at e;exact .inl e
 ·intro k y e hf;rw[get,if_neg (fun f=>by subst f;rw[hnx.1]at e;cases e)]
end
end Go.Ax
namespace Go.Ax
open Go Go.RowKit
theorem Zbi{s:AS}{b o n:Nat}{l:List Value}(hr:rdN s b o n=some l):l.length=n∧∀k,k<n→rd s b (o+k)=l[k]? :=by
 unfold rdN at hr;unfold rd;have key:∀(c:T Value) (m:Nat),(bif Zb (o+n) m then c.list n o else none)=some l→l.length=n∧∀k,k<n→(bif Zh (o+k) m then c.get (o+k)else none)=l[k]? :=by
  intro c m hc;cases hb:Zb (o+n) m with
  |false=>rw[hb]at hc;cases hc
  |true=>
   rw[hb,cond_true]at hc;have hle:o+n≤m:=by simpa using hb
   obtain⟨g1,g2⟩:=T.list_some c n o l hc;refine⟨g1,fun k hk=>?_⟩;have hlt:Zh (o+k) m=true:=by rw[Yj];omega
   rw[hlt,cond_true,g2 k hk]
 split at hr
 ·rename_i c m z hg;exact key c m hr
 ·rename_i c m hg;exact key c m hr
 ·cases hr
theorem Rel.cellsN{i:Io}{s:AS}{w:World}(h:Rel i s w){b o n q t:Nat}{l:List Value}(hr:Go.Ax.rdN s b o n=some l)(hi:i b=some (q,t)):
  ∃l':List Value,VRs i l l'∧l'.length=n∧∀j (hj:j<l'.length),w.cell? ⟨q,t+o+j,none⟩=some l'[j]:=by
 obtain⟨g1,g2⟩:=Zbi hr;have key:∀j,j<n→∃v v',l[j]? =some v∧w.cell? ⟨q,t+o+j,none⟩=some v'∧VR i v v':=by
  intro j hj;have hv:l[j]? =some (l[j]'(by omega)):=Zn _;obtain⟨v',k1,k2⟩:=h.rd ((g2 j hj).trans hv) hi;rw[←Ya]at k1;exact⟨_,v',hv,k1,k2⟩
 let f:Nat→Value:=fun j=>if hj:j<n then Classical.choose (Classical.choose_spec (key j hj))else undef
 have hf:∀j,j<n→w.cell? ⟨q,t+o+j,none⟩=some (f j)∧∀v,l[j]? =some v→VR i v (f j):=by
  intro j hj;have:=Classical.choose_spec (Classical.choose_spec (key j hj));have e:f j=Classical.choose (Classical.choose_spec (key j hj)):=dif_pos hj;rw[e];exact⟨this.2.1,fun v hv=>by rw[this.1]at hv;cases hv;exact this.2.2⟩
 refine⟨(Xn n).map f,VRs.of_get (by simp[g1]) (fun k v hk=>?_),by simp,fun j hj=>?_⟩
 ·have hkn:k<n:=by have:=(Yc.1 hk).1;omega
  exact⟨f k,by simp[hkn],(hf k hkn).2 v hk⟩
 ·have hjn:j<n:=by simpa using hj
  rw[(hf j hjn).1];simp
noncomputable def I7(s:AS)(k a n:Nat)(x:Option Addr)(r:Option (List Value)):Option (Option (List Value)):=
 bif Za a k then(match x with
  |some ⟨b,o,none⟩=>bif Zb n 1000000 then(match rdN s b o n with
   |some l=>bif ones l then some (some l)else none
   |none=>none)else none
  |_=>none)else some r
noncomputable def I8(s:AS)(wb wo k:Nat)(m:Nat):Option (Option (List Value)):=
 Nat.rec (motive:=fun _=>Option (Option (List Value))) (some none) (fun j ih=>match ih with
  |none=>none
  |some r=>match rdN s wb (wo+2*j) 2 with
   |some [.int .i64 (.ofNat a),.slice x n _]=>I7 s k a n x r
   |_=>none) m
structure Ca(s:AS)(wb wo k j:Nat)(a:Nat)(x:Option Addr)(n c:Nat):Prop where
 at_:rdN s wb (wo+2*j) 2=some [.int .i64 (.ofNat a),.slice x n c]
 ok:a=k→∃b o l,x=some ⟨b,o,none⟩∧n≤1000000∧rdN s b o n=some l∧ones l=true
theorem YW(s:AS)(wb wo k:Nat):∀(m:Nat) (r:Option (List Value)),I8 s wb wo k m=some r→
  (∀j,j<m→∃a x n c,Ca s wb wo k j a x n c)∧
  (r=none→∀j,j<m→∀a x n c,Ca s wb wo k j a x n c→a≠k)∧
  (∀l,r=some l→∃j0,j0<m∧(∃b o n c,Ca s wb wo k j0 k (some ⟨b,o,none⟩) n c∧rdN s b o n=some l)∧∀j,j0<j→j<m→∀a x n c,Ca s wb wo k j a x n c→a≠k)
 |0,r,h=>by
  cases h;exact⟨fun j hj=>by omega,fun _ j hj=>by omega,fun l h=>by cases h⟩
 |m+1,r,h=>by
  have h':(match I8 s wb wo k m with
   |none=>none
   |some r=>match rdN s wb (wo+2*m) 2 with
    |some [.int .i64 (.ofNat a),.slice x n _]=>I7 s k a n x r
    |_=>none)=some r:=h
  split at h'
  ·cases h'
  ·rename_i r0 hr0;split at h'
   ·rename_i a x n c hrd;obtain⟨i1,i2,i3⟩:=YW s wb wo k m r0 hr0;have qp:∀a' x' n' c',Ca s wb wo k m a' x' n' c'→a'=a:=fun a' x' n' c' hw=>by
     have:=hw.at_.symm.trans hrd;simp at this;exact Int.ofNat.inj this.1
    unfold I7 at h';cases hak:Za a k with
    |false=>
     rw[hak,cond_false]at h';cases h';have hne:a≠k:=fun e=>by subst e;rw[Yy]at hak;cases hak
     have hm:Ca s wb wo k m a x n c:=⟨hrd,fun e=>absurd e hne⟩;refine⟨fun j hj=>?_,fun hr j hj a' x' n' c' hw=>?_,fun l hl=>?_⟩
     ·by_cases e:j=m
      ·subst e;exact⟨_,_,_,_,hm⟩
      ·exact i1 j (by omega)
     ·by_cases e:j=m
      ·subst e;rw[qp _ _ _ _ hw];exact hne
      ·exact i2 hr j (by omega) a' x' n' c' hw
     ·obtain⟨j0,g1,g2,g3⟩:=i3 l hl;refine⟨j0,by omega,g2,fun j hj1 hj2 a' x' n' c' hw=>?_⟩;by_cases e:j=m
      ·subst e;rw[qp _ _ _ _ hw];exact hne
      ·exact g3 j hj1 (by omega) a' x' n' c' hw
    |true=>
     rw[hak,cond_true]at h';have hk:a=k:=Zv hak;subst hk;split at h'
     ·rename_i b o;cases hn:Zb n 1000000 with
      |false=>rw[hn]at h';cases h'
      |true=>
       rw[hn,cond_true]at h';split at h'
       ·rename_i l hl;cases ho:ones l with
        |false=>rw[ho]at h';cases h'
        |true=>
         rw[ho,cond_true]at h';cases h';have hm:Ca s wb wo a m a (some ⟨b,o,none⟩) n c:=⟨hrd,fun _=>⟨b,o,l,rfl,Yr hn,hl,ho⟩⟩;refine⟨fun j hj=>?_,(fun hr=>nomatch hr),fun l' hl'=>?_⟩
         ·by_cases e:j=m
          ·subst e;exact⟨_,_,_,_,hm⟩
          ·exact i1 j (by omega)
         ·cases hl';exact⟨m,by omega,⟨b,o,n,c,hm,hl⟩,fun j hj1 hj2=>by omega⟩
       ·cases h'
     ·cases h'
   ·cases h'
end Go.Ax
namespace Go.Ax
open Go Go.RowKit
theorem Zbj{w:World}{b o:Nat}{v:Value}{cs:Array Value}{e:TypeId}{fr:Nat×Nat}(h:w.heap[b]? =some (.cells cs e fr)):
  (w.setCell ⟨b,o,none⟩ v).heap[b]? =some (.cells (cs.setIfInBounds o v) e fr):=by
 obtain⟨hlt,hk⟩:=X5.1 h;show(w.heap.modify b _)[b]? =_;rw[Y5 (by rw[Array.size_modify];exact hlt),Array.getElem_modify_self,hk];rfl
theorem jd{b:Nat}{e:TypeId}{fr:Nat×Nat}:∀(vs:List Value) (o:Nat) (w:World) (cs:Array Value),w.heap[b]? =some (.cells cs e fr)→
  ∃cs',(w.setCells b o vs).heap[b]? =some (.cells cs' e fr)∧cs'.size=cs.size∧∀k,k<cs.size→cs'[k]? =if o≤k∧k<o+vs.length then vs[k-o]? else cs[k]?
 |[],o,w,cs,h=>⟨cs,h,rfl,fun k _=>by rw[if_neg (by rw[Zo];omega)]⟩
 |v::vs,o,w,cs,h=>by
  obtain⟨cs',h1,h2,h3⟩:=jd vs (o+1) _ _ (Zbj (o:=o) (v:=v) h);rw[Array.size_setIfInBounds]at h2 h3;refine⟨cs',h1,h2,fun k hk=>?_⟩;rw[h3 k hk];by_cases hko:k=o
  ·subst hko;rw[if_neg (by omega),if_pos (by simp),Xs,Y7,Xy,if_pos rfl,if_pos hk]
  ·by_cases hin:o+1≤k∧k<o+1+vs.length
   ·rw[if_pos hin,if_pos (by simp;omega)];obtain⟨d,hd⟩:∃d,k-o=d+1:=⟨k-o-1,by omega⟩;rw[hd,Y9];congr 1;omega
   ·rw[if_neg hin,if_neg (by simp;omega),Xy,if_neg (by omega)]
theorem jf{b:Nat}:∀(vs:List Value) (o:Nat) (w:World) (k:Nat),k≠b→(w.setCells b o vs).heap[k]? =w.heap[k]?
 |[],_,_,_,_=>rfl
 |v::vs,o,w,k,h=>(jf vs (o+1) _ k h).trans (Below.heap_setCell w ⟨b,o,none⟩ v k h)
theorem setCells_size{b:Nat}:∀(vs:List Value) (o:Nat) (w:World),(w.setCells b o vs).heap.size=w.heap.size
 |[],_,_=>rfl
 |v::vs,o,w=>(setCells_size vs (o+1) _).trans (by simp[World.setCell])
theorem Bg{b:Nat}:∀(vs:List Value) (o:Nat) (w:World),(w.setCells b o vs).os=w.os∧(w.setCells b o vs).tape=w.tape∧(w.setCells b o vs).output=w.output
 |[],_,_=>⟨rfl,rfl,rfl⟩
 |v::vs,o,w=>Bg vs (o+1) _
end Go.Ax
