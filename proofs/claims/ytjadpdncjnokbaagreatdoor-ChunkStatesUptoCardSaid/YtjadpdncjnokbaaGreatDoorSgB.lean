/- slices.Backward over waiting writes: the iterator's contract. -/
import Derived.Test.YtjadpdncjnokbaaGreatDoorChecked
import Derived.RangeFuncNested
import Derived.TacticsIn
import Derived.BigFrameIn
import Derived.LoopIn
import Derived.RegionIn
import Derived.OwnWalkIn
import Derived.RangeFuncKeeps
import Derived.Lib.Walk
import Derived.Deep.LoopGhost
import Derived.Lib.SliceRun
import Derived.Shelf.Abstract
import Derived.Deep.OwnRows
import Derived.Test.YtjadpdncjnokbaaGreatDoorAxC
import Derived.Shelf.Spec.SlicesInsert
import Derived.Lib.AppendZerosOnto
import Derived.Laws.NewBlocks
set_option linter.all false
open Nat renaming le_refl→Ze,ble→Zb,add_assoc→Ya,beq→Za,min→Y4,reduceAdd→Jg,reduceSub→K6,blt→Zh,min_def→Gb,zero_add→Zw,add_zero→Yg,zero_le→Zj,lt_or_ge→Zt,mul_comm→Uc,le_trans→Ye,mul_one→Vs,le_of_eq→Xo,blt_eq→Yj,ble_eq→Vh
open List renaming getElem?_eq_getElem→Zn,getElem?_drop→V8,size_toArray→Ve,length_cons→Zf,length_nil→Zo,push_toArray→K9,append_toArray→Ga,nil_append→Xj,cons_append→Y0,getElem?_eq_some_iff→Yc,getElem?_take→Ux,mem_append→Zk,getElem_cons_zero→J8,getElem_cons_succ→Uq,length_drop→Z5,getElem?_replicate→Ko,mem_cons→Zg,mem_of_mem_drop→V5,length_take→Zq,getElem?_append→Zn0
open Array renaming getElem?_eq_some_iff→X5,replicate_succ→K7,replicate_zero→K8,getElem?_toList→Yx,getElem?_eq_getElem→Y5
open Bool renaming and_eq_true→Zi
namespace Go.Proofs
open Go Go.RowKit Go.Lib
abbrev OM(ws:Nat→Value×Value){len:Nat}(x:Fin len):Array Value:= #[.int .i64 (x.val:Nat),.agg #[(ws x.val).1,(ws x.val).2]]
def Fc(len:Nat)(t:Nat):List (Fin len):=(List.range t).filterMap fun r=>if h:r<len then some ⟨len-1-r,by omega⟩else none
theorem y8(len t:Nat)(h:t<len):Fc len (t+1)=Fc len t++[⟨len-1-t,by omega⟩]:=by
 unfold Fc;rw[List.range_succ,List.filterMap_append];simp[h]
theorem ON(len:Nat):∀(t:Nat),t≤len→(Fc len t).length=t
 |0,_=>rfl
 |t+1,h=>by rw[y8 len t h,List.length_append,ON len t (by omega)];rfl
theorem GK(len:Nat):∀(t:Nat),t≤len→∀(x:Fin len),len-t≤x.val→x∈Fc len t
 |0,_,x,h=>by have:=x.isLt;omega
 |t+1,ht,x,h=>by
  rw[y8 len t ht];by_cases he:x.val=len-1-t
  ·exact Zk.2 (.inr (by simp;exact Fin.ext he))
  ·exact Zk.2 (.inl (GK len t (by omega) x (by omega)))
set_option maxHeartbeats 2000000 in
set_option maxRecDepth 100000 in
theorem Zl7(n:Nat)(hn:1≤n)(bx g off len c:Nat)(ws:Nat→Value×Value)(w:World)(hbl:bx<w.heap.size)(hgl:g<w.heap.size)(hlen:len≤1000000)
  (hbx:w.cell? ⟨bx,0,none⟩=some (.slice (some ⟨g,off,none⟩) len c))
  (hc:∀j,j<len→w.cell? ⟨g,off+2*j,none⟩=some (ws j).1∧w.cell? ⟨g,off+2*j+1,none⟩=some (ws j).2):
  SeqStopsK Fence.wide n Tryz.prog 221 #[.pointer (some ⟨bx,0,none⟩)] (OM ws (len:=len)) (Below w.heap.size) (fun xs=>xs=Fc len len) (fun pre=>∃t,t<len∧pre=Fc len (t+1)) len w:=by
 intro l J Jx W hW hJ hJx hY h0;refine callsIn_of_wp Tryz.func221 rfl trivial ?_ rfl;simp only[Tryz.ntmps221,Ve,Zf,Zo,Jg,K6,K7,K8,K9,Ga,Xj,Y0];have hbxW:W.cell? ⟨bx,0,none⟩=some (.slice (some ⟨g,off,none⟩) len c):=(hW.cell (p:=⟨bx,0,none⟩) hbl).trans hbx
 gi_wp2
 gi_loopw [3] (fun i wr=>∃t,t≤len∧i=.int .i64 ((len:Int)-1-t)∧J (Fc len t) wr∧Below w.heap.size w wr) (fun i _=>match i with|.int _ k=>(k+1).toNat|_=>0)
 case atStart=>
  exact⟨0,Zj _,by simp,h0,hW⟩
 case round=>
  obtain⟨t,ht,rfl,hJt,hbt⟩:=hrel;rcases Zt t len with hlt|hge
  ·obtain⟨j,hjt⟩:∃j,j+t+1=len:=⟨len-1-t,by omega⟩;have hjl:j<len:=by omega
   have hk:((len:Int)-1-t)=(j:Int):=by omega
   have hej:len-1-t=j:=by omega
   rw[hk];have hbxr:wr.cell? ⟨bx,0,none⟩=some (.slice (some ⟨g,off,none⟩) len c):=(hbt.cell (p:=⟨bx,0,none⟩) hbl).trans hbx;have hc1:wr.cell? ⟨g,off+j*2,none⟩=some (ws j).1:=by rw[Uc j 2];exact(hbt.cell (p:=⟨g,off+2*j,none⟩) hgl).trans (hc j hjl).1
   have hc2:wr.cell? ⟨g,off+j*2+1,none⟩=some (ws j).2:=by rw[Uc j 2];exact(hbt.cell (p:=⟨g,off+2*j+1,none⟩) hgl).trans (hc j hjl).2
   obtain⟨fn,tmps,assign,body,hy,hR⟩:=hY (Fc len t) ⟨j,hjl⟩ wr hJt (by rw[ON len t ht];exact hlt)
   dsimp only[OM]at hy
   have hsc:=y8 len t hlt;rw[show(⟨len-1-t,by omega⟩:Fin len)=⟨j,hjl⟩from Fin.ext hej]at hsc;rw[←hsc]at hR;clear hY hk hej hsc hJt
   gi_wp2
   refine hR.mono ?_;rintro e W3 (⟨rfl,hJ3,hk3⟩|⟨rfl,hJx3⟩)
   ·gi_wp2
    go_roundw
    case rel=>exact⟨t+1,hlt,by congr 1;omega,hJ3,hbt.trans hk3⟩
    case measure=>simp only[Int.sub_add_cancel];omega
   ·gi_wp2
    refine bodyPost_ret (results_none rfl _ _ _) rfl ?_;exact⟨⟨_,rfl⟩,.inr ⟨_,⟨t,hlt,rfl⟩,hJx3⟩⟩
  ·obtain rfl:t=len:=by omega
   gi_wp2
   go_end0
   exact⟨⟨_,rfl⟩,.inl ⟨_,rfl,hJt⟩⟩
end Go.Proofs
namespace Go.Proofs
open Go Go.RowKit Go.Lib
theorem Tryz.info5z :(Tryz.prog.info? 5).map (fun i=>(i.zero,i.size,i.bytes))=some (some (.int .u8 0),1,1):=by kernel_rfl
set_option maxHeartbeats 2000000 in
set_option maxRecDepth 100000 in
theorem OB(b off n c:Nat)(zs:List Value)(w:World)(hn:zs.length=n)(h1:∀u∈zs,u.oneCell'=true)(hbig:n≤1000000)(hc:∀j (h:j<zs.length),w.cell? ⟨b,off+j,none⟩=some zs[j]):
  Calls Tryz.prog 167 #[.slice (some ⟨b,off,none⟩) n c] w fun e w'=>∃v',e=.returned v'∧w'.ownsRow w.heap.size 5 1 v' n zs∧v'≠ .slice none 0 0∧Below w.heap.size w w':=by
 obtain⟨i0,hi,hz0,hz1,hz2⟩:=info_parts Tryz.info5z;have q42:∀(w:World) (a:Option Addr) (n c n' c':Nat),(binOp .eql 156 (.slice a n c) (.slice none n' c')).run Tryz.prog w=.ok (.bool a.isNone) w:=fun w a n c n' c'=>Lib.run_eql_slice_nil w _ _ a n c n' c' Tryz.underlying156;have A:Aside (∀j (h:j<zs.length),w.cell? ⟨b,off+j,none⟩=some zs[j]):=hc;clear hc
 go_enter Tryz.func167,Tryz.ntmps167
 go_wp2_with (at_builtin;refine wpList_append_own _ rfl _ _ 156 rfl w.heap.size 5 i0 (.int .u8 0) 1 1 Tryz.underlying156 hi hz0 hz1 hz2 rfl (by decide) _ _ _ rfl (World.ownsRow_made w #[] 0 (Ze _) (Zj _) rfl) ⟨b,off,none⟩ n c zs rfl ?qc1 ?qc2 ?qc3 ?qc4 ?qc5 ?qc6 ?_)
 case qc1=>simp;omega
 case qc2=>
  intro j u hj;have hjn:j<zs.length:=(Yc.1 hj).1;rw[Addr.add_lit];refine Lib.cell?_alloc_some _ ?_;rw[A.out j hjn];rw[Zn hjn]at hj;exact hj
 case qc3=>exact h1
 case qc4=>unfold maxLen;omega
 case qc5=>omega
 case qc6=>simp
 intro v' w1 hown hgrow hnil
 go_wp2
 go_ret
 refine⟨v',rfl,by simpa using hown,hnil,?_⟩;exact((Below.refl _ w).alloc (Ze _) _).grown hgrow (by simp) (by intro k hk;simp[Value.ownBlock]at hk;omega)
end Go.Proofs
namespace Go.Proofs
open Go Go.RowKit Go.Lib
theorem Zl8(F:Fence)(n:Nat)(hF:F.fn 165)(hro:F.round=none)(ad:Addr)(a:Option Addr)(m c:Nat)(k:Int)(w:World)(hd:w.cell? ad=some (.slice a m c))(h0:0≤k)(h1:k<m):
  CallsIn F n Tryz.prog 165 #[.pointer (some ad),.int .i64 k] w fun e w'=>e=.returned (.bool true)∧w'=w:=by
 refine callsIn_of_wp Tryz.func165 rfl hF ?_ hro;simp only[Tryz.ntmps165,Ve,Zf,Zo,Jg,K6,K7,K8,K9,Ga,Xj,Y0]
 gi_wp2
 go_ret
 exact⟨rfl,rfl⟩
theorem Zl9(F:Fence)(n:Nat)(hF:F.fn 166)(hro:F.round=none)(a:Option Addr)(m c:Nat)(w:World):
  CallsIn F n Tryz.prog 166 #[.slice a m c] w fun e w'=>e=.returned (.func (.func 221) #[] #[.pointer (some ⟨w.heap.size,0,none⟩)])∧w'=w.alloc (.cells #[.slice a m c] 189):=by
 refine callsIn_of_wp Tryz.func166 rfl hF ?_ hro;simp only[Tryz.ntmps166,Ve,Zf,Zo,Jg,K6,K7,K8,K9,Ga,Xj,Y0]
 gi_wp2
 go_ret
 exact⟨rfl,rfl⟩
theorem OC{w:World}{base:Nat}{e:TypeId}{size:Nat}{v:Value}{n:Nat}{xs:List Value}(h:w.ownsRow base e size v n xs)(h':v≠ .slice none 0 0):∃g cap,base≤g∧v=.slice (some ⟨g,0,none⟩) n cap:=by
 obtain⟨_,h⟩:=h;rcases h with⟨h,_⟩|⟨g,cap,cur,h1,h2,_⟩
 ·exact absurd h h'
 ·exact⟨g,cap,h2,h1⟩
theorem y9{w:World}{base base':Nat}{e:TypeId}{size g n cap B:Nat}{v:Value}{xs:List Value}(h:w.ownsRow base e size (.slice (some ⟨g,0,none⟩) n cap) n xs)(hb:base'≤base)(hB:B<g):
  (w.setCell ⟨B,0,none⟩ v).ownsRow base' e size (.slice (some ⟨g,0,none⟩) n cap) n xs:=by
 have h1:=h.kept (grownBy_setCell' w B v) (.inr (fun e=>by
  have h2:g=B:=by simpa[Value.ownBlock]using e
  omega))
 refine⟨h1.1,?_⟩;rcases h1.2 with⟨e,_⟩|⟨g',cap',cur,e,r,rest⟩
 ·cases e
 ·exact .inr ⟨g',cap',cur,e,Ye hb r,rest⟩
structure RdI{len:Nat}(ats:Nat→Int)(k:Int)(w:World)(m:Nat)(pre:List (Fin len))(W:World):Prop where
 sz:m≤W.heap.size
 no:∀x∈pre,ats x.val≠k
 b0:Boxed W w.heap.size 3 (.int .i64 k)
 b1:Boxed W (w.heap.size+1) 156 (.slice none 0 0)
 b2:Boxed W (w.heap.size+1+1) 30 (.int .i64 0)
 low:Below w.heap.size w W
def RdX{len:Nat}(ats:Nat→Int)(zs:Nat→List Value)(k:Int)(w:World)(c:Code)(xs:List (Fin len))(W:World):Prop:=
 ∃pre x v',c=.ret∧xs=pre++[x]∧(∀y∈pre,ats y.val≠k)∧ats x.val=k∧Boxed W (w.heap.size+1) 156 v'∧Boxed W (w.heap.size+1+1) 30 (.int .i64 0)∧Below w.heap.size w W∧
  W.ownsRow w.heap.size 5 1 v' (zs x.val).length (zs x.val)∧v'≠ .slice none 0 0
theorem RdI.own{len:Nat}(ats:Nat→Int)(k:Int)(w:World)(m:Nat)(B:Nat)(hB:w.heap.size≤B):OwnFrom B (RdI (len:=len) ats k w m):=fun s W W' row hs hg hr=>by
 have hne:∀b t v,Boxed W b t v→some b≠row:=fun b t v hb e=>by
  obtain⟨_,o,ho,hc⟩:=hr b e.symm;rw[show W.heap[b]? =_ from hb]at ho;cases ho;cases hc
 exact⟨Ye hs.sz hg.size,hs.no,hs.b0.kept hg (hne _ _ _ hs.b0),hs.b1.kept hg (hne _ _ _ hs.b1),hs.b2.kept hg (hne _ _ _ hs.b2),hs.low.grown hg hs.low.size (fun r e=>by have:=(hr r e).1;omega)⟩
theorem RdX.own{len:Nat}(ats:Nat→Int)(zs:Nat→List Value)(k:Int)(w:World)(c:Code)(B:Nat)(hB:w.heap.size≤B):OwnFrom B (RdX (len:=len) ats zs k w c):=fun s W W' row hs hg hr=>by
 obtain⟨pre,x,v',h1,h2,h3,h4,h5,h6,h7,h8,h9⟩:=hs;have hne:∀b t v,Boxed W b t v→some b≠row:=fun b t v hb e=>by
  obtain⟨_,o,ho,hc⟩:=hr b e.symm;rw[show W.heap[b]? =_ from hb]at ho;cases ho;cases hc
 refine⟨pre,x,v',h1,h2,h3,h4,h5.kept hg (hne _ _ _ h5),h6.kept hg (hne _ _ _ h6),h7.grown hg h7.size (fun r e=>by have:=(hr r e).1;omega),?_,h9⟩;obtain⟨g1,g2⟩:=h8;refine⟨g1,?_⟩;rcases g2 with g2|⟨g,cap,cur,q1,q2,q3,q4⟩
 ·exact .inl g2
 ·refine .inr ⟨g,cap,cur,q1,q2,?_,q4⟩;rw[grownBy_keeps_cells hg (fun r e=>(hr r e).2) q3 rfl];exact q3
def Zer(W:World)(q:Nat):Prop:=∃cur,W.heap[q]? =some (.cells cur 5 (0,0))∧cur.size=256∧∀j,j<256→cur[j]? =some (.int .u8 0)
def Zma (ats : Nat → Int) (zs : Nat → List Value) (k : Nat) (sba : Option Addr) (torn : Bool) (sz : List Value) (len : Nat) (w : World) (e : Ending) (w' : World) : Prop :=
  Below w.heap.size w w' ∧ ∃ v' er, e = .returned (.tuple #[v', .int .i64 er]) ∧
      ((∃ x : Fin len, ats x.val = k ∧ (∀ y : Fin len, x.val < y.val → ats y.val ≠ k) ∧ er = 0 ∧ v' ≠ .slice none 0 0 ∧ w'.ownsRow w.heap.size 5 1 v' (zs x.val).length (zs x.val)) ∨
       ((∀ x : Fin len, ats x.val ≠ k) ∧ ((torn = true ∧ v' = .slice none 0 0 ∧ er = 3) ∨
         (torn = false ∧ er = 0 ∧ ((sba = none ∧ ∃ q, w.heap.size ≤ q ∧ v' = .slice (some ⟨q, 0, none⟩) 256 256 ∧ Zer w' q) ∨
           (sba ≠ none ∧ v' ≠ .slice none 0 0 ∧ w'.ownsRow w.heap.size 5 1 v' sz.length sz))))))
set_option maxHeartbeats 8000000 in
set_option maxRecDepth 100000 in
theorem OD(qd pd:Nat)(sa so n cs:Nat)(g off len c:Nat)(ats:Nat→Int)(ba:Nat→Option Addr)(bn bc:Nat→Nat)(zs:Nat→List Value)(k:Nat)(sba:Option Addr)(sbn sbc:Nat)(torn:Bool)(sz:List Value)(w:World)
  (h1:k<n) (hlen:len≤1000000) (hgl:g<w.heap.size)
  (d0:w.cell? ⟨qd,pd,none⟩=some (.slice (some ⟨sa,so,none⟩) n cs)) (d1:w.cell? ⟨qd,pd+1,none⟩=some (.slice (some ⟨g,off,none⟩) len c)) (d2:w.cell? ⟨qd,pd+2,none⟩=some (.bool false))
  (hc:∀j,j<len→w.cell? ⟨g,off+2*j,none⟩=some (.int .i64 (ats j))∧w.cell? ⟨g,off+2*j+1,none⟩=some (.slice (ba j) (bn j) (bc j)))
  (hb:∀j,j<len→ats j=k→∃b bo,ba j=some ⟨b,bo,none⟩∧bn j=(zs j).length∧b<w.heap.size∧(zs j).length≤1000000∧(∀u∈zs j,u.oneCell'=true)∧∀i (h:i<(zs j).length),w.cell? ⟨b,bo+i,none⟩=some (zs j)[i])
  (t0:w.cell? ⟨sa,so+k*2,none⟩=some (.slice sba sbn sbc)) (t1:w.cell? ⟨sa,so+k*2+1,none⟩=some (.bool torn))
  (hs:(∀x:Fin len,ats x.val≠k)→torn=false→(sba=none∧sbn=0∧sbc=0)∨∃b bo,sba=some ⟨b,bo,none⟩∧sbn=sz.length∧b<w.heap.size∧sz.length≤1000000∧(∀u∈sz,u.oneCell'=true)∧∀i (h:i<sz.length),w.cell? ⟨b,bo+i,none⟩=some sz[i]) (hsal:sa<w.heap.size):
  Calls Tryz.prog 101 #[.pointer (some ⟨qd,pd,none⟩),.int .i64 k] w (Zma ats zs k sba torn sz len w):=by
 refine(callsIn_wide (n:=5)).1 (callsIn_of_wp_marks Tryz.func101 rfl trivial ?_ rfl);simp only[Tryz.ntmps101,Ve,Zf,Zo,Jg,K6,K7,K8,K9,Ga,Xj,Y0];have hA:Aside (∀j,j<len→w.cell? ⟨g,off+2*j,none⟩=some (.int .i64 (ats j))∧w.cell? ⟨g,off+2*j+1,none⟩=some (.slice (ba j) (bn j) (bc j))):=hc;have hB:Aside (∀j,j<len→ats j=k→∃b bo,ba j=some ⟨b,bo,none⟩∧bn j=(zs j).length∧b<w.heap.size∧(zs j).length≤1000000∧(∀u∈zs j,u.oneCell'=true)∧∀i (h:i<(zs j).length),w.cell? ⟨b,bo+i,none⟩=some (zs j)[i]):=hb;clear hc hb;have lift:∀ {ad:Addr} {v:Value},w.cell? ad=some v→(((w.alloc (.cells #[.int .i64 k] 3)).alloc (.cells #[.slice none 0 0] 156)).alloc (.cells #[.int .i64 0] 30)).cell? ad=some v:=
  fun h=>cell?_alloc_some _ (cell?_alloc_some _ (cell?_alloc_some _ h))
 have e1:=lift d1;have e2:=lift d2
 gi_wp2_with (first
  |(refine⟨trivial,?_⟩;gi_at_call 165;refine(Zl8 Fence.wide _ trivial rfl ⟨qd,pd,none⟩ _ n cs k _ (cell?_alloc_some _ (cell?_alloc_some _ (cell?_alloc_some _ d0))) (Int.natCast_nonneg _) (by omega)).mono ?_;rintro e w' ⟨rfl,rfl⟩)
  |(refine⟨trivial,?_⟩;gi_at_call 166;refine(Zl9 Fence.wide _ trivial rfl _ _ _ _).mono ?_;rintro e w' ⟨rfl,rfl⟩))
 obtain⟨W0,hW0⟩:∃W0,((((w.alloc (.cells #[.int .i64 k] 3)).alloc (.cells #[.slice none 0 0] 156)).alloc (.cells #[.int .i64 0] 30)).alloc (.cells #[.slice (some ⟨g,off,none⟩) len c] 189))=W0:=⟨_,rfl⟩;have hs0:W0.heap.size=w.heap.size+4:=by rw[←hW0];simp
 have hX0:Boxed W0 w.heap.size 3 (.int .i64 k):=by rw[←hW0];exact(((Boxed.new w _ _).alloc _).alloc _).alloc _
 have hX1:Boxed W0 (w.heap.size+1) 156 (.slice none 0 0):=by
  rw[←hW0];have:=((Boxed.new (w.alloc (.cells #[.int .i64 k] 3)) 156 (.slice none 0 0)).alloc (.cells #[.int .i64 0] 30)).alloc (.cells #[.slice (some ⟨g,off,none⟩) len c] 189)
  rwa [World.size_alloc]at this
 have hX2:Boxed W0 (w.heap.size+1+1) 30 (.int .i64 0):=by
  rw[←hW0];have:=(Boxed.new ((w.alloc (.cells #[.int .i64 k] 3)).alloc (.cells #[.slice none 0 0] 156)) 30 (.int .i64 0)).alloc (.cells #[.slice (some ⟨g,off,none⟩) len c] 189)
  rwa [World.size_alloc,World.size_alloc]at this
 have hX3:Boxed W0 (w.heap.size+1+1+1) 189 (.slice (some ⟨g,off,none⟩) len c):=by
  rw[←hW0];have:=Boxed.new (((w.alloc (.cells #[.int .i64 k] 3)).alloc (.cells #[.slice none 0 0] 156)).alloc (.cells #[.int .i64 0] 30)) 189 (.slice (some ⟨g,off,none⟩) len c)
  rwa [World.size_alloc,World.size_alloc,World.size_alloc]at this
 have hlow:Below w.heap.size w W0:=by
  rw[←hW0];exact((((Below.refl _ w).alloc (Ze _) _).alloc (by simp) _).alloc (by simp;omega) _).alloc (by simp;omega) _
 have hlift0:∀ {ad:Addr} {v:Value},w.cell? ad=some v→W0.cell? ad=some v:=fun h=>by rw[←hW0];exact cell?_alloc_some _ (lift h)
 rw[hW0];clear e1 e2 lift;refine wpIn_rangeFunc_ownH rfl (by omega) (gf:=221) (lb:= #[.pointer (some ⟨w.heap.size+1+1+1,0,none⟩)]) rfl trivial (enters_of Tryz.func221 (by kernel_rfl) rfl)
  (Zl7 4 (by omega) (w.heap.size+1+1+1) g off len c (fun j=>(.int .i64 (ats j),.slice (ba j) (bn j) (bc j))) W0 (by omega) (by omega) hlen hX3.cell (fun j hj=>⟨hlift0 (hA.out j hj).1,hlift0 (hA.out j hj).2⟩))
  belowK_t (belowK_b (Ze _)) (Below.refl _ _) (fun _=>rfl)
  (RdI ats k w W0.heap.size) (RdX ats zs k w) (RdI.own ats k w _ _ (by omega)) (fun c=>RdX.own ats zs k w c _ (by omega)) ⟨Ze _,by simp,hX0,hX1,hX2,hlow⟩
  (fun x a' W=>∃B,w.heap.size+4≤B∧W.heap[B]? =some (.cells #[.int .i64 (ats x.val),.slice (ba x.val) (bn x.val) (bc x.val)] 193 (0,0))∧a'= {tmps:= #[.pointer (some ⟨qd,pd,none⟩),.int .i64 k,undef,.pointer (some ⟨w.heap.size,0,none⟩),.pointer (some ⟨w.heap.size+1,0,none⟩),.pointer (some ⟨w.heap.size+1+1,0,none⟩),undef,.pointer (some ⟨B,0,none⟩),undef,.bool false,.pointer (some ⟨qd,pd,none⟩),.int .i64 k,.bool true,.bool false,.bool false,.pointer (some ⟨qd,pd,none⟩),.pointer (some ⟨qd,pd,none⟩),.pointer (some ⟨qd,pd+2,none⟩),.bool false,.pointer (some ⟨qd,pd,none⟩),.pointer (some ⟨qd,pd,none⟩),.pointer (some ⟨qd,pd+1,none⟩),.slice (some ⟨g,off,none⟩) len c,.func (.func 221) #[] #[.pointer (some ⟨w.heap.size+1+1+1,0,none⟩)],.int .i64 (x.val:Nat),.agg #[.int .i64 (ats x.val),.slice (ba x.val) (bn x.val) (bc x.val)],undef,undef,undef,undef,undef,undef,undef,undef,undef,undef,undef,undef,undef,undef,undef,undef,undef,undef,undef,undef,undef,undef,undef,undef,undef],defers:=[]}) ?_ ?_ ?_ ?_ ?_
 ·intro x a' s W W' row hs hg hr;obtain⟨B,h1,h2,h3⟩:=hs;exact⟨B,h1,(grownBy_keeps_cells hg (fun r e=>(hr r e).2) h2 rfl).trans h2,h3⟩
 ·intro l pre x W K hI hK
  gi_wp2_with (rw[Oper.semAt_eq _ _ _ (fun c h=>by cases h)];go_simp;try go_bits)
  exact hK _ _ ((KeepsOthers.alloc W _).from _) ((Below.refl _ W).alloc hI.sz _) ((RdI.own ats k w W0.heap.size W0.heap.size (by omega)).alloc _ hI) ⟨W.heap.size,by have:=hI.sz;omega,World.alloc_heap_new W _,rfl⟩
 ·rintro l pre x a' W hl hrec hI ⟨B,hB1,hB2,rfl⟩ hlt;have hA1:W.cell? ⟨B,0,none⟩=some (.int .i64 (ats x.val)):=by simp[World.cell?,hB2]
  have hA2:W.cell? ⟨B,1,none⟩=some (.slice (ba x.val) (bn x.val) (bc x.val)):=by simp[World.cell?,hB2]
  have hA3:=hI.b0.cell;by_cases hm:ats x.val=k
  ·obtain⟨b,bo,q1,q2,q3,q4,q5,q6⟩:=hB.out x.val x.isLt hm;rw[q1,q2]at hA2
   gi_wp2_with (first
    |(refine⟨trivial,?_⟩;gi_at_call 167;refine CallsIn.inRound l ((callsIn_wide.2 (OB b bo (zs x.val).length (bc x.val) (zs x.val) W rfl q5 q4 (fun j hj=>(hI.low.cell (p:=⟨b,bo+j,none⟩) q3).trans (q6 j hj)))).mono ?_);rintro e w1 ⟨v',rfl,k1,k2,k3⟩;obtain⟨gg,cap,hgg,rfl⟩:=OC k1 k2;have Y1:Boxed w1 (w.heap.size+1) 156 (.slice none 0 0):=(k3.block _ hI.b1.lt).trans hI.b1;have Y2:Boxed w1 (w.heap.size+1+1) 30 (.int .i64 0):=(k3.block _ hI.b2.lt).trans hI.b2;have Z1:=Y1.cell;have Z2:=Y1.frozen;have Z3:=Y2.cell;have Z4:=Y2.frozen)
    |(rw[Oper.semAt_eq _ _ _ (fun c h=>by cases h)];go_simp;try go_bits))
   have hn1:w.heap.size+1≠w.heap.size+1+1:=by omega
   have hsz:=hI.sz;have KO:KeepsFrom W0.heap.size W w1:=⟨k3.size,fun j o _ hj _=>(k3.block j (X5.1 hj).1).trans hj⟩;refine⟨(KO.trans ((KeepsOthers.setCell _ _ _).from _)).trans ((KeepsOthers.setCell _ _ _).from _),pre,x,_,rfl,rfl,hI.no,hm,(Y1.set _).other hn1 _,(Y2.other (Ne.symm hn1) _).set _,?_,?_,k2⟩
   ·exact Below.setCell (p:=⟨w.heap.size+1+1,0,none⟩) (Below.setCell (p:=⟨w.heap.size+1,0,none⟩) (hI.low.trans (k3.mono hI.low.size)) (show _≤w.heap.size+1 by omega) _) (show _≤w.heap.size+1+1 by omega) _
   ·exact y9 (y9 k1 hI.low.size (by omega)) (Ze _) (by omega)
  ·gi_wp2_with (rw[Oper.semAt_eq _ _ _ (fun c h=>by cases h)];go_simp;try go_bits)
   exact⟨KeepsFrom.refl _ _,Below.refl _ _,⟨hI.sz,fun y hy=>(Zk.1 hy).elim (hI.no y) (fun e=>by rw[List.mem_singleton.1 e];exact hm),hI.b0,hI.b1,hI.b2,hI.low⟩⟩
 ·intro D xs W hD hS hI hK;subst hS;have hnone:∀x:Fin len,ats x.val≠k:=fun x=>hI.no x (GK len len (Ze _) x (by omega));have lw:∀ {ad:Addr} {v:Value},ad.block<w.heap.size→w.cell? ad=some v→W.cell? ad=some v:=fun hl h=>(hI.low.cell hl).trans h;have f0:=lw (ad:=⟨sa,so+k*2,none⟩) hsal t0;have f1:=lw (ad:=⟨sa,so+k*2+1,none⟩) hsal t1;have f2:=lw (ad:=⟨qd,pd,none⟩) (block_lt_of_cell d0) d0;have f3:=hI.b0.cell
  gi_wp2
  refine wpIn_wide.2 ?_;have la:∀ {ad:Addr} {v:Value},W.cell? ad=some v→(W.alloc (.cells #[.slice none 0 0,.bool false] 196)).cell? ad=some v:=fun h=>cell?_alloc_some _ h;have g0:=la f0;have g1:=la f1;have g2:=la f2;have g3:=la f3
  go_region
  obtain⟨W2,hW2⟩:∃W2,(W.alloc (.cells #[.slice sba sbn sbc,.bool torn] 196)).drew=W2:=⟨_,rfl⟩;have X1:Boxed W2 (w.heap.size+1) 156 (.slice none 0 0):=by rw[←hW2];exact hI.b1.alloc _
  have X2:Boxed W2 (w.heap.size+1+1) 30 (.int .i64 0):=by rw[←hW2];exact hI.b2.alloc _
  have X8:W2.heap[W.heap.size]? =some (.cells #[.slice sba sbn sbc,.bool torn] 196 (0,0)):=by rw[←hW2];exact World.alloc_heap_new W _
  have L2:Below w.heap.size w W2:=by rw[←hW2];exact(hI.low.alloc hI.low.size _).drew
  have K2:W2.heap[D]? =some (.deferred (some [])):=by rw[←hW2];exact(Below.heap_alloc W _ D (X5.1 hK).1).trans hK
  rw[hW2];have c0:W2.cell? ⟨W.heap.size,0,none⟩=some (.slice sba sbn sbc):=by simp[World.cell?,X8]
  have c1:W2.cell? ⟨W.heap.size,1,none⟩=some (.bool torn):=by simp[World.cell?,X8]
  have Z1:=X1.cell;have Z2:=X1.frozen;have Z3:=X2.cell;have Z4:=X2.frozen;have q42:∀(w:World) (a:Option Addr) (n c n' c':Nat),(binOp .eql 156 (.slice a n c) (.slice none n' c')).run Tryz.prog w=.ok (.bool a.isNone) w:=fun w a n c n' c'=>Lib.run_eql_slice_nil w _ _ a n c n' c' Tryz.underlying156;have hn1:w.heap.size+1≠w.heap.size+1+1:=by omega
  cases torn with
  |true=>
   gi_wp2
   have B1:=(X1.set (.slice none 0 0)).other hn1 (.int .i64 3);have B2:=(X2.other (Ne.symm hn1) (.slice none 0 0)).set (.int .i64 3);have KD:((W2.setCell ⟨w.heap.size+1,0,none⟩ (.slice none 0 0)).setCell ⟨w.heap.size+1+1,0,none⟩ (.int .i64 3)).heap[D]? =some (.deferred (some [])):=((KeepsOthers.setCell _ _ _).same D _ ((KeepsOthers.setCell _ _ _).same D _ K2 rfl) rfl);have LL:Below w.heap.size w ((W2.setCell ⟨w.heap.size+1,0,none⟩ (.slice none 0 0)).setCell ⟨w.heap.size+1+1,0,none⟩ (.int .i64 3)):=(Below.setCell (p:=⟨w.heap.size+1+1,0,none⟩) (Below.setCell (p:=⟨w.heap.size+1,0,none⟩) (L2) (show _≤w.heap.size+1 by omega) _) (show _≤w.heap.size+1+1 by omega) _);have e4:=cell_kept (B1).cell (grownBy_putObj' _ D (.deferred none)) (fun r e=>by cases e;exact⟨_,KD,rfl⟩);have e5:=cell_kept (B2).cell (grownBy_putObj' _ D (.deferred none)) (fun r e=>by cases e;exact⟨_,KD,rfl⟩)
   refine⟨by simp,.inl ⟨_,_,rfl,run_takeDeferred KD,?_⟩⟩;refine⟨.tuple #[.slice none 0 0,.int .i64 3],?_,?_⟩
   ·simp[results,Tryz.f101,go_sem,e4,e5]
   ·exact⟨(LL).grown (grownBy_putObj' _ D _) (LL).size (fun r e=>by cases e;omega),_,_,rfl,.inr ⟨hnone,.inl ⟨rfl,rfl,rfl⟩⟩⟩
  |false=>
   rcases hs hnone rfl with⟨rfl,rfl,rfl⟩|⟨b,bo,rfl,rfl,p1,p2,p3,p4⟩
   ·obtain⟨ZR,hZR⟩:∃ZR,ZR=madeCells #[Value.int .u8 0] 256:=⟨_,rfl⟩;have hmk:∀V,(Instr.makeSlice 156 (.int .i64 256) (.int .i64 256)).run Tryz.prog V=.ok (.slice (some ⟨V.heap.size,0,none⟩) 256 256) (V.alloc (.cells ZR 5)):=fun V=>by
     rw[hZR];exact run_make_row' 156 5 (.int .u8 0) 1 Tryz.underlying156 Tryz.info5z rfl .i64 .i64 256 (by omega) (by omega) V
    have hzr:ZR.size=256∧∀j,j<256→ZR[j]? =some (.int .u8 0):=by
     rw[hZR];refine⟨size_madeCells _ _,fun j hj=>?_⟩;rw[←Yx,toList_madeCells_one,Ko,if_pos hj]
    clear hZR;have Y1:Boxed (W2.alloc (.cells ZR 5)) (w.heap.size+1) 156 (.slice none 0 0):=X1.alloc _;have Y2:Boxed (W2.alloc (.cells ZR 5)) (w.heap.size+1+1) 30 (.int .i64 0):=X2.alloc _;have Z1:=Y1.cell;have Z2:=Y1.frozen;have Z3:=Y2.cell;have Z4:=Y2.frozen
    gi_wp2
    have B1:=(Y1.set (.slice (some ⟨W2.heap.size,0,none⟩) 256 256)).other hn1 (.int .i64 0);have B2:=(Y2.other (Ne.symm hn1) (.slice (some ⟨W2.heap.size,0,none⟩) 256 256)).set (.int .i64 0);have K3:(W2.alloc (.cells ZR 5)).heap[D]? =some (.deferred (some [])):=(Below.heap_alloc W2 _ D (X5.1 K2).1).trans K2;have hsz:=hI.low.size;have hX2l:=X2.lt;have KD:(((W2.alloc (.cells ZR 5)).setCell ⟨w.heap.size+1,0,none⟩ (.slice (some ⟨W2.heap.size,0,none⟩) 256 256)).setCell ⟨w.heap.size+1+1,0,none⟩ (.int .i64 0)).heap[D]? =some (.deferred (some [])):=((KeepsOthers.setCell _ _ _).same D _ ((KeepsOthers.setCell _ _ _).same D _ K3 rfl) rfl);have LL:Below w.heap.size w (((W2.alloc (.cells ZR 5)).setCell ⟨w.heap.size+1,0,none⟩ (.slice (some ⟨W2.heap.size,0,none⟩) 256 256)).setCell ⟨w.heap.size+1+1,0,none⟩ (.int .i64 0)):=(Below.setCell (p:=⟨w.heap.size+1+1,0,none⟩) (Below.setCell (p:=⟨w.heap.size+1,0,none⟩) (L2.alloc L2.size _) (show _≤w.heap.size+1 by omega) _) (show _≤w.heap.size+1+1 by omega) _)
    have hDn:D≠W2.heap.size:=by have:=(X5.1 K2).1;omega
    have e4:=cell_kept (B1).cell (grownBy_putObj' _ D (.deferred none)) (fun r e=>by cases e;exact⟨_,KD,rfl⟩);have e5:=cell_kept (B2).cell (grownBy_putObj' _ D (.deferred none)) (fun r e=>by cases e;exact⟨_,KD,rfl⟩);refine⟨by simp,.inl ⟨_,_,rfl,run_takeDeferred KD,?_⟩⟩;refine⟨.tuple #[.slice (some ⟨W2.heap.size,0,none⟩) 256 256,.int .i64 0],?_,?_⟩
    ·simp[results,Tryz.f101,go_sem,e4,e5]
    ·refine⟨(LL).grown (grownBy_putObj' _ D _) (LL).size (fun r e=>by cases e;omega),_,_,rfl,.inr ⟨hnone,.inr ⟨rfl,rfl,.inl ⟨rfl,W2.heap.size,by omega,rfl,ZR,?_,hzr⟩⟩⟩⟩;refine(World.putObj_heap_other (Ne.symm hDn)).trans ?_;refine(Below.heap_setCell _ ⟨w.heap.size+1+1,0,none⟩ _ _ (show W2.heap.size≠w.heap.size+1+1 by omega)).trans ?_;refine(Below.heap_setCell _ ⟨w.heap.size+1,0,none⟩ _ _ (show W2.heap.size≠w.heap.size+1 by omega)).trans ?_;exact World.alloc_heap_new W2 _
   ·gi_wp2_with (refine⟨trivial,?_⟩;gi_at_call 167;refine((callsIn_wide.2 (OB b bo sz.length sbc sz W2 rfl p3 p2 (fun j hj=>(L2.cell (p:=⟨b,bo+j,none⟩) p1).trans (p4 j hj)))).mono ?_);rintro e w1 ⟨v',rfl,k1,k2,k3⟩;obtain⟨gg,cap,hgg,rfl⟩:=OC k1 k2;have Y1:Boxed w1 (w.heap.size+1) 156 (.slice none 0 0):=(k3.block _ X1.lt).trans X1;have Y2:Boxed w1 (w.heap.size+1+1) 30 (.int .i64 0):=(k3.block _ X2.lt).trans X2;have Z1:=Y1.cell;have Z2:=Y1.frozen;have Z3:=Y2.cell;have Z4:=Y2.frozen)
    have B1:=(Y1.set (.slice (some ⟨gg,0,none⟩) sz.length cap)).other hn1 (.int .i64 0);have B2:=(Y2.other (Ne.symm hn1) (.slice (some ⟨gg,0,none⟩) sz.length cap)).set (.int .i64 0);have K3:w1.heap[D]? =some (.deferred (some [])):=(k3.block _ (X5.1 K2).1).trans K2;have hsz:=hI.low.size;have hX2l:=X2.lt;have hsz2:=hI.sz;have KD:((w1.setCell ⟨w.heap.size+1,0,none⟩ (.slice (some ⟨gg,0,none⟩) sz.length cap)).setCell ⟨w.heap.size+1+1,0,none⟩ (.int .i64 0)).heap[D]? =some (.deferred (some [])):=((KeepsOthers.setCell _ _ _).same D _ ((KeepsOthers.setCell _ _ _).same D _ K3 rfl) rfl);have LL:Below w.heap.size w ((w1.setCell ⟨w.heap.size+1,0,none⟩ (.slice (some ⟨gg,0,none⟩) sz.length cap)).setCell ⟨w.heap.size+1+1,0,none⟩ (.int .i64 0)):=(Below.setCell (p:=⟨w.heap.size+1+1,0,none⟩) (Below.setCell (p:=⟨w.heap.size+1,0,none⟩) (L2.trans (k3.mono L2.size)) (show _≤w.heap.size+1 by omega) _) (show _≤w.heap.size+1+1 by omega) _)
    have e4:=cell_kept (B1).cell (grownBy_putObj' _ D (.deferred none)) (fun r e=>by cases e;exact⟨_,KD,rfl⟩);have e5:=cell_kept (B2).cell (grownBy_putObj' _ D (.deferred none)) (fun r e=>by cases e;exact⟨_,KD,rfl⟩);refine⟨by simp,.inl ⟨_,_,rfl,run_takeDeferred KD,?_⟩⟩;refine⟨.tuple #[.slice (some ⟨gg,0,none⟩) sz.length cap,.int .i64 0],?_,?_⟩
    ·simp[results,Tryz.f101,go_sem,e4,e5]
    ·exact⟨(LL).grown (grownBy_putObj' _ D _) (LL).size (fun r e=>by cases e;omega),_,_,rfl,.inr ⟨hnone,.inr ⟨rfl,rfl,.inr ⟨by simp,k2,ownsRow_putObj (y9 (y9 k1 L2.size (by omega)) (Ze _) (by omega)) _ KD rfl⟩⟩⟩⟩
 ·intro D c pre W hD hSp hx hK;obtain⟨t,ht,hp⟩:=hSp;obtain⟨pre',x,v',rfl,hx2,hx3,hx4,hx5,hx6,hx7,hx8,hx9⟩:=hx
  gi_wp2
  have hd:=hx5.cell;refine⟨by simp,.inl ⟨_,_,rfl,run_takeDeferred hK,?_⟩⟩;have hc4:=cell_kept hx5.cell (grownBy_putObj' _ D (.deferred none)) (fun r e=>by cases e;exact⟨_,hK,rfl⟩);have hc5:=cell_kept hx6.cell (grownBy_putObj' _ D (.deferred none)) (fun r e=>by cases e;exact⟨_,hK,rfl⟩);refine⟨.tuple #[v',.int .i64 0],?_,?_⟩
  ·simp[results,Tryz.f101,go_sem,hc4,hc5]
  ·refine⟨hx7.grown (grownBy_putObj' _ D _) hx7.size (fun r e=>by cases e;omega),v',0,rfl,.inl ⟨x,hx4,fun y hy=>?_,rfl,hx9,ownsRow_putObj hx8 _ hK rfl⟩⟩;rw[y8 len t ht,hx2]at hp;obtain⟨e1,e2⟩:=List.append_inj' hp rfl;subst e1;refine hx3 y (GK len t (by omega) y ?_);have:x.val=len-1-t:=by have:=List.singleton_inj.1 e2;rw[this]
   omega
end Go.Proofs
namespace Go.Proofs
open Go Go.RowKit Go.Lib Go.Ax
noncomputable def Fe(s:AS)(l:List Value):Value×AS:=(.tuple ⟨[.slice (some ⟨s.nx,0,none⟩) l.length (2*l.length),.int .i64 (.ofNat 0)]⟩,s.rowz (tz 1 5) l)
noncomputable def OF(n:Nat):Value:=.tuple ⟨[.slice none 0 1,.int .i64 (.ofNat n)]⟩
noncomputable def dr :List Value→AS→Option (Value×AS)
 |[.pointer (some ⟨p,o,none⟩),.int .i64 (.ofNat k)],s=>match Go.Ax.rdN s p o 3 with
  |some [.slice (some ⟨sb,so,none⟩) n _,.slice (some ⟨wb,wo,none⟩) m _,.bool false]=>
   bif Zh k n&&(Zb m 1000000&&Zb 1 m)then(match Go.Ax.rdN s sb (so+k*2) 2 with
    |some [.slice x sn _,.bool torn]=>match I8 s wb wo k m with
     |none=>none
     |some (some l)=>some (Fe s l)
     |some none=>bif torn then some (OF 3,s)else(match x with
      |none=>bif Za sn 0 then some (.tuple ⟨[.slice (some ⟨s.nx,0,none⟩) 256 513,.int .i64 (.ofNat 0)]⟩,s.rowz (tz 1 5) (Go.Ax.rep 256 [.int .u8 (.ofNat 0)]))else none
      |some ⟨b,o,none⟩=>bif Zb sn 1000000 then(match Go.Ax.rdN s b o sn with
       |some l=>bif ones l then some (Fe s l)else none
       |none=>none)else none
      |_=>none)
    |_=>none)else none
  |_=>none
 |_,_=>none
theorem OT{i:Io}{s:AS}{w w':World}(hR:Rel i s w){l l':List Value}(hv:VRs i l l')(hb:Below w.heap.size w w'){v':Value}(ho:w'.ownsRow w.heap.size 5 1 v' l'.length l')(hn:v'≠ .slice none 0 0):
  ∃i',VR i' (Fe s l).1 (.tuple #[v',.int .i64 0])∧Rel i' (Fe s l).2 w'∧Fr i s w i' (Fe s l).2 w':=by
 obtain⟨_,ho⟩:=ho;rcases ho with⟨h,_⟩|⟨g,cap,cur,rfl,h2,h3,h4,h5,h6,h7⟩
 ·exact absurd h hn
 ·have hle:Le i (ext i s.nx (g,0) (1,cap)):=Nb (hR.fresh s.nx (Ze _)).1;have hcs:∀k,k<l.length→cur[0+k]? =l'[k]? :=fun k hk=>by
   have hk':k<l'.length:=by rw[←hv.length];exact hk
   rw[Zw,←Yx];have:=congrArg (fun x=>x[k]?) h7;simp only[Ux,Vs,hk',if_true]at this;exact this
  have h6':cur.size=cap:=by rw[h6,Vs]
  obtain⟨k1,k2⟩:=hR.newAt (lm:=(1,cap)) (o:=.cells (T.e.fill 0 l) l.length (tz 1 5)) hb h2 h3 (OR.row (hv.mono hle) cur 5 (0,0) (tz 1 5) (fun _=>by rw[Nz (by omega)]) (.inl rfl) 0 (by rw[hv.length];omega) hcs)
   (fun c n z h=>by cases h;exact⟨(Na (by omega)).symm,fun cs e fr h=>by cases h;exact Xo h6'.symm⟩)
  refine⟨_,?_,k1,k2⟩;refine .tuple (.cons ?_ (.cons (.int _ _) .nil));refine hv.length▸ ?_;exact .slice (t:=0) (G8 _ _ _) (by omega) (by omega) (by rw[hv.length];omega) (.inl rfl) (fun _ _=>by rw[B7];omega)
structure GG(i:Io)(s:AS)(w:World)(wb wo q t k j:Nat)(a:Nat)(x:Option Addr)(n c:Nat)(x':Option Addr)(n' c':Nat)(zs:List Value):Prop where
 at_:Ca s wb wo k j a x n c
 c0:w.cell? ⟨q,t+wo+2*j,none⟩=some (.int .i64 a)
 c1:w.cell? ⟨q,t+wo+2*j+1,none⟩=some (.slice x' n' c')
 ok:a=k→∃b o l b' o',x=some ⟨b,o,none⟩∧Go.Ax.rdN s b o n=some l∧VRs i l zs∧x'=some ⟨b',o',none⟩∧n'=zs.length∧b'<w.heap.size∧zs.length≤1000000∧(∀u∈zs,u.oneCell'=true)∧∀m (h:m<zs.length),w.cell? ⟨b',o'+m,none⟩=some zs[m]
theorem Zmb{l:List Value}(h:ones l=true):∀u∈l,u.oneCell'=true:=by
 induction l with
 |nil=>intro u hu;cases hu
 |cons v l ih=>
  simp only[ones,Zi]at h;intro u hu;rcases Zg.1 hu with rfl|hu
  ·cases u<;>first|rfl|cases h.1
  ·exact ih h.2 u hu
theorem OQ{i:Io}{s:AS}{w:World}(hR:Rel i s w){b o n c:Nat}{l:List Value}{v':Value}(hv:VR i (.slice (some ⟨b,o,none⟩) n c) v')(hr:Go.Ax.rdN s b o n=some l)(ho:ones l=true)(hn:n≤1000000):
  ∃b' o' c' zs,v'=.slice (some ⟨b',o',none⟩) zs.length c'∧VRs i l zs∧b'<w.heap.size∧zs.length≤1000000∧(∀u∈zs,u.oneCell'=true)∧∀m (h:m<zs.length),w.cell? ⟨b',o'+m,none⟩=some zs[m]:=by
 cases hv with
 | @slice _ _ q t _ _ p c' hi x1 x2 x3 x4 x5=>
  obtain⟨zs,g1,g2,g3⟩:=hR.cellsN hr hi;have hq:q<w.heap.size:=hR.dom b q t hi (.inl (fun e=>by unfold Go.Ax.rdN at hr;rw[e]at hr;cases hr));refine⟨q,p,c',zs,by rw[g2],g1,hq,by omega,Zmb (by rw[g1.ones];exact ho),fun m hm=>?_⟩;rcases x4 with rfl|h0
  ·exact g3 m hm
  ·omega
theorem Zmc{i:Io}{s:AS}{w:World}(hR:Rel i s w){wb wo q t k j a n c:Nat}{x:Option Addr}(hi:i wb=some (q,t))(h:Ca s wb wo k j a x n c):∃x' n' c' zs,GG i s w wb wo q t k j a x n c x' n' c' zs:=by
 obtain⟨l',g1,g2,g3⟩:=hR.cellsN h.at_ hi;cases g1 with|cons v1 g1=>
 cases g1 with| @cons _ y _ _ v2 g1=>
 cases g1;cases v1;have e0:=g3 0 (by simp);have e1:=g3 1 (by simp);simp only[J8,Uq,Yg]at e0 e1;have hc0:w.cell? ⟨q,t+wo+2*j,none⟩=some (.int .i64 a):=by rw[Ya t wo];exact e0
 by_cases hk:a=k
 ·obtain⟨b,o,l,rfl,hn,hl,ho⟩:=h.ok hk;obtain⟨b',o',c',zs,rfl,p1,p2,p3,p4,p5⟩:=OQ hR v2 hl ho hn;exact⟨some ⟨b',o',none⟩,zs.length,c',zs,h,hc0,by rw[Ya t wo];exact e1,fun _=>⟨b,o,l,b',o',rfl,hl,p1,rfl,rfl,p2,p3,p4,p5⟩⟩
 ·have hs:∃x' n' c',y=.slice x' n' c':=by cases v2<;>exact⟨_,_,_,rfl⟩
  obtain⟨x',n',c',rfl⟩:=hs;exact⟨x',n',c',[],h,hc0,by rw[Ya t wo];exact e1,fun e=>absurd e hk⟩
theorem OW{i:Io}{s:AS}{w:World}(hR:Rel i s w){wb wo q t k m:Nat}(hi:i wb=some (q,t))(h:∀j,j<m→∃a x n c,Ca s wb wo k j a x n c):
  ∃(fa:Nat→Nat) (fx:Nat→Option Addr) (fn fc:Nat→Nat) (gx:Nat→Option Addr) (gn gc:Nat→Nat) (gz:Nat→List Value),∀j,j<m→GG i s w wb wo q t k j (fa j) (fx j) (fn j) (fc j) (gx j) (gn j) (gc j) (gz j):=by
 have h':∀j:Nat,∃z:Nat×Option Addr×Nat×Nat×Option Addr×Nat×Nat×List Value,j<m→GG i s w wb wo q t k j z.1 z.2.1 z.2.2.1 z.2.2.2.1 z.2.2.2.2.1 z.2.2.2.2.2.1 z.2.2.2.2.2.2.1 z.2.2.2.2.2.2.2:=by
  intro j;by_cases hj:j<m
  ·obtain⟨a,x,n,c,hw⟩:=h j hj;obtain⟨x',n',c',zs,hw'⟩:=Zmc hR hi hw;exact⟨⟨a,x,n,c,x',n',c',zs⟩,fun _=>hw'⟩
  ·exact⟨⟨0,none,0,0,none,0,0,[]⟩,fun e=>absurd e hj⟩
 obtain⟨f,hf⟩:=Classical.axiomOfChoice h';exact⟨fun j=>(f j).1,fun j=>(f j).2.1,fun j=>(f j).2.2.1,fun j=>(f j).2.2.2.1,fun j=>(f j).2.2.2.2.1,fun j=>(f j).2.2.2.2.2.1,fun j=>(f j).2.2.2.2.2.2.1,fun j=>(f j).2.2.2.2.2.2.2,hf⟩
theorem zd(args:Array Value)(w:World):(callFunc 101 args).run Tryz.prog w=.ok (.enter 101 args) w:=by
 unfold callFunc;have hf:Tryz.prog.funcs[101]? =some Tryz.f101:=Tryz.func101
 have hn : Tryz.f101.name ≠ "runtime.NumGoroutine" := by
  have : (Tryz.f101.name == "runtime.NumGoroutine") = false := by kernel_rfl
  simpa using this
 have hb:Tryz.f101.body≠none:=by
  have:Tryz.f101.body.isNone=false:=by kernel_rfl
  intro h;rw[h]at this;cases this
 simp[hf,hn,hb]
theorem rep_one(v:Value):∀n,Go.Ax.rep n [v]=List.replicate n v
 |0=>rfl
 |n+1=>by
  have:Go.Ax.rep (n+1) [v]=[v]++Go.Ax.rep n [v]:=rfl;rw[this,rep_one v n];rfl
theorem Zmd{i:Io}{s:AS}{w w':World}(hR:Rel i s w)(hb:Below w.heap.size w w'){q:Nat}(hq:w.heap.size≤q)(hz:Zer w' q):
  ∃i',VR i' (.tuple ⟨[.slice (some ⟨s.nx,0,none⟩) 256 513,.int .i64 (.ofNat 0)]⟩) (.tuple #[.slice (some ⟨q,0,none⟩) 256 256,.int .i64 0])∧Rel i' (s.rowz (tz 1 5) (Go.Ax.rep 256 [.int .u8 (.ofNat 0)])) w'∧Fr i s w i' (s.rowz (tz 1 5) (Go.Ax.rep 256 [.int .u8 (.ofNat 0)])) w':=by
 obtain⟨cur,h3,h4,h5⟩:=hz;obtain⟨L,hL⟩:∃L,L=Go.Ax.rep 256 [Value.int .u8 (.ofNat 0)]:=⟨_,rfl⟩;rw[←hL];have hl:L.length=256∧∀k v,L[k]? =some v→k<256∧v=Value.int .u8 0:=by
  rw[hL,rep_one];refine⟨List.length_replicate,fun k v hk=>?_⟩;rw[Ko]at hk;split at hk
  ·cases hk;exact⟨by assumption,rfl⟩
  ·cases hk
 clear hL;have hle:Le i (ext i s.nx (q,0) (1,256)):=Nb (hR.fresh s.nx (Ze _)).1;have hv:VRs (ext i s.nx (q,0) (1,256)) L L:=VRs.of_get rfl (fun k v hk=>⟨v,hk,by obtain⟨_,rfl⟩:=hl.2 k v hk;exact .int _ _⟩);obtain⟨k1,k2⟩:=hR.newAt (lm:=(1,256)) (o:=.cells (T.e.fill 0 L) L.length (tz 1 5)) hb hq h3
  (OR.row hv cur 5 (0,0) (tz 1 5) (fun _=>by rw[Nz (by omega)]) (.inl rfl) 0 (by omega) (fun k hk=>by
   have e:L[k]? =some L[k]:=Zn hk;obtain⟨e1,e2⟩:=hl.2 k _ e;rw[Zw,h5 k e1,e,e2]))
  (fun c n z h=>by cases h;exact⟨(Na (by omega)).symm,fun cs e fr h=>by cases h;exact Xo h4.symm⟩)
 exact⟨_,.tuple (.cons (.slice (t:=0) (G8 _ _ _) (by omega) (by omega) (by omega) (.inl rfl) (fun h=>by omega)) (.cons (.int _ _) .nil)),k1,k2⟩
theorem OL :POk Tryz.prog 101 dr:=by
 intro args s v s' h i w args' hR hg ha;unfold dr at h;split at h
 ·rename_i p o k;split at h
  ·rename_i sb so n sc wb wo m wc hdev;cases hb:(Zh k n&&(Zb m 1000000&&Zb 1 m))with
   |false=>rw[hb]at h;cases h
   |true=>
    rw[hb,cond_true]at h;simp only[Zi,Yj,Vh]at hb;obtain⟨hkn,hm,hm1⟩:=hb;split at h
    ·rename_i x sn sc2 torn hsec;cases ha with|cons a1 ha=>
     cases ha with|cons a2 ha=>
     cases ha;cases a2;cases a1 with| @ptr _ _ qd td hd=>
     obtain⟨ld,d1,d2,d3⟩:=hR.cellsN hdev hd;cases d1 with|cons u0 d1=>
     cases d1 with|cons u1 d1=>
     cases d1 with|cons u2 d1=>
     cases d1;cases u2;cases u0 with| @slice _ _ qs ts _ _ ps cs' hs y1 y2 y3 y4 y5=>
     cases u1 with| @slice _ _ qw tw _ _ pw cw' hw z1 z2 z3 z4 z5=>
     have D0:=d3 0 (by simp);have D1:=d3 1 (by simp);have D2:=d3 2 (by simp);simp only[J8,Uq,Yg]at D0 D1 D2;have hps:ps=ts+so:=y4.resolve_right (by omega);subst hps;obtain⟨lS,t1,t2,t3⟩:=hR.cellsN hsec hs;cases t1 with| @cons _ sv _ _ r0 t1=>
     cases t1 with|cons r1 t1=>
     cases t1;cases r1;have T0:=t3 0 (by simp);have T1:=t3 1 (by simp);simp only[J8,Uq,Yg,←Ya]at T0 T1;have hpw:pw=tw+wo:=z4.resolve_right (by omega);subst hpw;have hsv:∃sx sn' sc',sv=.slice sx sn' sc':=by cases r0<;>exact⟨_,_,_,rfl⟩
     obtain⟨sx,sn',sc',rfl⟩:=hsv;have hql:qs<w.heap.size:=block_lt_of_cell T0;split at h
     ·cases h
     ·
      rename_i l hsc;cases h;obtain⟨s1,_,s3⟩:=YW s wb wo k m (some l) hsc;obtain⟨fa,fx,fn,fc,gx,gn,gc,gz,hW⟩:=OW hR hw s1;obtain⟨j0,j1,⟨b0,o0,n0,c0,w1,w2⟩,j2⟩:=s3 l rfl;have uq:∀j,j<m→∀a x n c,Ca s wb wo k j a x n c→a=fa j∧x=fx j∧n=fn j:=fun j hj a x n c h'=>by
       have:=h'.at_.symm.trans (hW j hj).at_.at_;simp at this;exact⟨Int.ofNat.inj this.1,this.2.1,this.2.2.1⟩
      have hc:=OD qd (td+o) qs (ts+so) n cs' qw (tw+wo) m cw' (fun j=>(fa j:Int)) gx gn gc gz k sx sn' sc' torn [] w hkn hm (block_lt_of_cell (hW 0 (by omega)).c0) D0 D1 D2 (fun j hj=>⟨(hW j hj).c0,(hW j hj).c1⟩)
       (fun j hj e=>by obtain⟨_,_,_,b',o',_,_,_,e1,e2,e3,e4,e5,e6⟩:=(hW j hj).ok (by have:(fa j:Int)=k:=e;omega);exact⟨b',o',e1,e2,e3,e4,e5,e6⟩) T0 T1
       (fun hno=>absurd (show(fa j0:Int)=k by have:=(uq j0 j1 _ _ _ _ w1).1;omega) (hno ⟨j0,j1⟩)) hql
      refine .inr ⟨zd _ _,Calls.mono hc (fun e w' he=>?_)⟩
      ·obtain⟨q1,v',er,rfl,q2|⟨q2,_⟩⟩:=he
       ·obtain⟨⟨xx,hxx⟩,q3,q4,rfl,q5,q6⟩:=q2;have q3':fa xx=k:=by have:(fa xx:Int)=k:=q3;omega
        have hj:xx=j0:=by
         rcases Nat.lt_trichotomy xx j0 with h'|h'|h'
         ·exact absurd (show(fa j0:Int)=k by have:=(uq j0 j1 _ _ _ _ w1).1;omega) (q4 ⟨j0,j1⟩ h')
         ·exact h'
         ·exact absurd q3' (j2 xx h' hxx _ _ _ _ (hW xx hxx).at_)
        subst hj;obtain⟨b1,o1,l1,_,_,e0,e1,e2,_⟩:=(hW xx hxx).ok q3';obtain⟨_,u1,u2⟩:=uq xx j1 _ _ _ _ w1;rw[←u1]at e0;cases e0;rw[←u2,w2]at e1;cases e1;exact OT hR e2 q1 q6 q5
       ·exact absurd (show(fa j0:Int)=k by have:=(uq j0 j1 _ _ _ _ w1).1;omega) (q2 ⟨j0,j1⟩)
     ·
      rename_i hsc;obtain⟨s1,s2,_⟩:=YW s wb wo k m none hsc;obtain⟨fa,fx,fn,fc,gx,gn,gc,gz,hW⟩:=OW hR hw s1;have hno:∀xx:Fin m,(fa xx.val:Int)≠k:=fun xx e=>s2 rfl xx.val xx.isLt _ _ _ _ (hW xx.val xx.isLt).at_ (by omega);have hcs:∀sz:List Value,((∀xx:Fin m,(fa xx.val:Int)≠k)→torn=false→(sx=none∧sn'=0∧sc'=0)∨∃b bo,sx=some ⟨b,bo,none⟩∧sn'=sz.length∧b<w.heap.size∧sz.length≤1000000∧(∀u∈sz,u.oneCell'=true)∧∀i (h:i<sz.length),w.cell? ⟨b,bo+i,none⟩=some sz[i])→_:=
       fun sz hs=>OD qd (td+o) qs (ts+so) n cs' qw (tw+wo) m cw' (fun j=>(fa j:Int)) gx gn gc gz k sx sn' sc' torn sz w hkn hm (block_lt_of_cell (hW 0 (by omega)).c0) D0 D1 D2 (fun j hj=>⟨(hW j hj).c0,(hW j hj).c1⟩)
        (fun j hj e=>absurd e (hno ⟨j,hj⟩)) T0 T1 hs hql
      cases torn with
      |true=>
       rw[cond_true]at h;cases h;refine .inr ⟨zd _ _,Calls.mono (hcs [] (fun _ e=>by cases e)) (fun e w' he=>?_)⟩;obtain⟨q1,v',er,rfl,⟨xx,q3,_⟩|⟨_,⟨_,rfl,rfl⟩|⟨e,_⟩⟩⟩:=he
       ·exact absurd q3 (hno xx)
       ·obtain⟨k1,k2⟩:=hR.below q1;exact⟨i,.tuple (.cons (.nils (by decide)) (.cons (.int _ _) .nil)),k1,k2⟩
       ·cases e
      |false=>
       rw[cond_false]at h;split at h
       ·
        cases hsn:Za sn 0 with
        |false=>rw[hsn]at h;cases h
        |true=>
         rw[hsn,cond_true]at h;cases h;cases r0;refine .inr ⟨zd _ _,Calls.mono (hcs [] (fun _ _=>.inl ⟨rfl,rfl,rfl⟩)) (fun e w' he=>?_)⟩;obtain⟨q1,v',er,rfl,⟨xx,q3,_⟩|⟨_,⟨e,_⟩|⟨_,rfl,⟨_,q,q2,rfl,q4⟩|⟨e,_⟩⟩⟩⟩:=he
         ·exact absurd q3 (hno xx)
         ·cases e
         ·exact Zmd hR q1 q2 q4
         ·exact absurd rfl e
       ·rename_i b1 o1;cases hn:Zb sn 1000000 with
        |false=>rw[hn]at h;cases h
        |true=>
         rw[hn,cond_true]at h;split at h
         ·rename_i l hl;cases ho:ones l with
          |false=>rw[ho]at h;cases h
          |true=>
           rw[ho,cond_true]at h;cases h;obtain⟨b',o',c',zs,e1,p1,p2,p3,p4,p5⟩:=OQ hR r0 hl ho (Nat.le_of_ble_eq_true hn);cases e1;refine .inr ⟨zd _ _,Calls.mono (hcs zs (fun _ _=>.inr ⟨b',o',rfl,rfl,p2,p3,p4,p5⟩)) (fun e w' he=>?_)⟩;obtain⟨q1,v',er,rfl,⟨xx,q3,_⟩|⟨_,⟨e,_⟩|⟨_,rfl,⟨e,_⟩|⟨_,q5,q6⟩⟩⟩⟩:=he
           ·exact absurd q3 (hno xx)
           ·cases e
           ·cases e
           ·exact OT hR p1 q1 q6 q5
         ·cases h
       ·cases h
    ·cases h
  ·cases h
 ·cases h
end Go.Proofs
namespace Go.Proofs
open Go Go.RowKit Go.Lib
theorem zf{P:Program}(k:Nat)(w:World)(dT sT ty elem:TypeId)(b o dLen dCap:Nat)(a:Addr)(sLen sCap:Nat)(cs:List Value)
  (hu:P.underlying dT=some (.slice elem)) (hs:(P.info? elem).map (·.size)=some k) (hn:cs.length=Y4 sLen dLen*k)
  (hsrc:∀j v,cs[j]? =some v→w.cell? (a.add j)=some v) (hc:∀j,j<cs.length→(w.cell? ⟨b,o+j,none⟩).isSome=true) (hf:∀j,j<cs.length→w.frozen? ⟨b,o+j,none⟩=false) (h1:∀v∈cs,v.oneCell'=true):
  (Builtin.copy_ #[dT,sT] ty #[.slice (some ⟨b,o,none⟩) dLen dCap,.slice (some a) sLen sCap]).run P w=.ok (goInt (Y4 sLen dLen)) (w.setCells b o cs):=by
 have hl:=run_loadCells_list (P:=P) w a cs hsrc;have hst:=run_storeCells_cells (P:=P) b o cs 0 w (by simpa using hc) (by simpa using hf) h1;cases hq:P.info? elem with
 |none=>simp[hq]at hs
 |some i=>
  have hi:i.size=k:=by simpa[hq]using hs
  simp[Builtin.copy_,run_underlying hu,Builtin.lenOf,Builtin.firstCells,sizeOf,typeInfo,hq,hi,←hn,hl,hst]
theorem Tryz.info42z :(Tryz.prog.info? 42).map (fun i=>(i.zero,i.size,i.bytes))=some (some (.agg #[.string ⟨#[]⟩,.string ⟨#[]⟩]),2,32):=by kernel_rfl
theorem Tryz.size42 :(Tryz.prog.info? 42).map (·.size)=some 2:=by kernel_rfl
set_option maxHeartbeats 4000000 in
set_option maxRecDepth 100000 in
theorem Zme(b off n c i vb voff m vc:Nat)(cs vs:List Value)(w:World)(hi:i<n)(hm:0<m)(hroom:n+m≤c)(hc63:n+m≤1000000)(hvb:vb≠b)
  (hcl:cs.length=n*2) (hvl:vs.length=m*2)
  (hcs:∀j v,cs[j]? =some v→w.cell? ⟨b,off+j,none⟩=some v) (hsp:∀j,j<(n+m)*2→(w.cell? ⟨b,off+j,none⟩).isSome=true) (hfz:∀j,j<(n+m)*2→w.frozen? ⟨b,off+j,none⟩=false)
  (hvs:∀j v,vs[j]? =some v→w.cell? ⟨vb,voff+j,none⟩=some v) (h1c:∀v∈cs,v.oneCell'=true) (h1v:∀v∈vs,v.oneCell'=true)
  (tA tB:TypeId) (kA kB:Nat) (hsa:w.shape? vb=some (tA,kA)) (hsb:w.shape? b=some (tB,kB)) (hkB:kB≠0) (hfa:w.frozen? ⟨vb,voff,none⟩=false) (hfe:w.frozen? ⟨vb,kA,none⟩=false):
  Calls Tryz.prog 153 #[.slice (some ⟨b,off,none⟩) n c,.int .i64 i,.slice (some ⟨vb,voff,none⟩) m vc] w fun e w'=>
   e=.returned (.slice (some ⟨b,off,none⟩) (n+m) c)∧w'=(w.drew.setCells b (off+(i+m)*2) (cs.drop (i*2))).setCells b (off+i*2) vs:=by
 have hz1:¬((m:Int)=0):=by omega
 have hz2:¬((i:Int)=(n:Int)):=by omega
 have hsz:=Tryz.size42;have hov:∀lb cb,(callFunc 214 #[.slice (some ⟨vb,voff,none⟩) m vc,.slice (some ⟨b,off+(i+m)*2,none⟩) lb cb]).run Tryz.prog w=.ok (.value (.bool false)) w:=fun lb cb=>by
  rw[run_callFunc_extern Tryz.func214 (by kernel_rfl) (by kernel_rfl) (by kernel_rfl) (e:=Extern.SlicesOverlaps.overlaps #[34,34] #[4]) (by kernel_rfl),
   Lib.run_overlaps_apart w 34 4 42 Tryz.underlying34 2 (fun w=>by obtain⟨i0,hi0,h0,h1,h2⟩:=info_parts Tryz.info42z;simp[sizeOf,typeInfo,hi0,h1]) ⟨vb,voff,none⟩ ⟨b,off+(i+m)*2,none⟩ m vc lb cb hvb tA tB kA kB hsa hsb hkB hfa hfe]
  rfl
 have hdl:(cs.drop (i*2)).length=(n-i)*2:=by rw[Z5,hcl];omega
 have hw1:IntKind.i64.wrap ((i:Int)+(m:Int))=(i:Int)+(m:Int):=by rw[IntKind.wrap_i64];omega
 have hb1:(0:Int)≤(i:Int)+(m:Int):=by omega
 have hin:i≤n:=by omega
 have htn:((i:Int)+(m:Int)).toNat=i+m:=by omega
 have hb2:¬(c=i+m):=by omega
 have hb3:(i:Int)≤(n:Int)+(m:Int):=by omega
 have hb4:¬(c=i):=by omega
 have hcp1:∀ty dc sc,(Builtin.copy_ #[34,34] ty #[.slice (some ⟨b,off+(i+m)*2,none⟩) (n+m-(i+m)) dc,.slice (some ⟨b,off+i*2,none⟩) (n+m-i) sc]).run Tryz.prog w.drew=.ok (goInt (Y4 (n+m-i) (n+m-(i+m)))) (w.drew.setCells b (off+(i+m)*2) (cs.drop (i*2))):=fun ty dc sc=>
  zf 2 w.drew _ _ ty 42 b (off+(i+m)*2) (n+m-(i+m)) dc ⟨b,off+i*2,none⟩ (n+m-i) sc (cs.drop (i*2)) Tryz.underlying34 hsz (by rw[hdl];simp only[Gb];split<;>omega)
   (fun j v hj=>by rw[Addr.add_lit,Ya];exact hcs (i*2+j) v (by rwa [V8]at hj))
   (fun j hj=>by rw[Ya];exact hsp _ (by omega)) (fun j hj=>by rw[Ya];exact hfz _ (by omega)) (fun v hv=>h1c v (V5 hv))
 obtain⟨W1,hW1⟩:∃W1,W1=w.drew.setCells b (off+(i+m)*2) (cs.drop (i*2)):=⟨_,rfl⟩;have hsp1:∀k,k<(n+m)*2→(W1.cell? ⟨b,off+k,none⟩).isSome=true:=fun k hk=>by
  rw[hW1];exact isSome_setCells b _ _ _ (fun j hj=>by rw[Ya];exact hsp _ (by omega)) _ (hsp k hk)
 have hcp2:∀(W:World),(∀x,W.cell? x=W1.cell? x)→(∀x,W.frozen? x=W1.frozen? x)→∀ty dc,(Builtin.copy_ #[34,34] ty #[.slice (some ⟨b,off+i*2,none⟩) (n+m-i) dc,.slice (some ⟨vb,voff,none⟩) m vc]).run Tryz.prog W=.ok (goInt (Y4 m (n+m-i))) (W.setCells b (off+i*2) vs):=fun W hWc hWf ty dc=>
  zf 2 W _ _ ty 42 b (off+i*2) (n+m-i) dc ⟨vb,voff,none⟩ m vc vs Tryz.underlying34 hsz (by rw[hvl];simp only[Gb];split<;>omega)
   (fun j v hj=>by
    rw[Addr.add_lit,hWc,hW1,World.cell?_setCells_out b _ _ _ _ (fun h _=>absurd h hvb)];exact hvs j v hj)
   (fun j hj=>by rw[hWc,Ya];exact hsp1 _ (by omega)) (fun j hj=>by rw[hWf,hW1,World.frozen?_setCells,Ya];exact hfz _ (by omega)) h1v
 rw[←hW1]at hcp1;have mixed:Tryz.prog.follows Departure.mixedOrders=true:=by kernel_rfl
 go_enter Tryz.func153,Tryz.ntmps153
 go_wp2_with (simp only[hov])
 go_region_law_o (refine step_copy_runI rfl _ _ 34 34 rfl _ _ (by simp[Act.eval,Act.put]) (by simp[Act.eval,Act.put]) (hcp1 _ _ _) ?_)
 go_wp2_with (at_builtin;refine wpList_copy_runI _ rfl _ _ 34 34 rfl _ _ rfl rfl (hcp2 _ (fun _=>rfl) (fun _=>rfl) _ _) ?_)
 go_ret
 first|exact⟨rfl,rfl⟩|exact⟨rfl,by rw[hW1]⟩
set_option maxHeartbeats 4000000 in
set_option maxRecDepth 100000 in
theorem Zmf(b off n c i vb voff m vc:Nat)(cs vs:List Value)(w:World)(hi:i<n)(hm:0<m)(hnc:n≤c)(hroom:c<n+m)(hbig:(n+m)*32≤140737488355328)
  (hcl:cs.length=n*2) (hvl:vs.length=m*2) (hbw:b<w.heap.size) (hvw:vb<w.heap.size)
  (hcs:∀j v,cs[j]? =some v→w.cell? ⟨b,off+j,none⟩=some v)
  (hvs:∀j v,vs[j]? =some v→w.cell? ⟨vb,voff+j,none⟩=some v) (h1c:∀v∈cs,v.oneCell'=true) (h1v:∀v∈vs,v.oneCell'=true):
  Calls Tryz.prog 153 #[.slice (some ⟨b,off,none⟩) n c,.int .i64 i,.slice (some ⟨vb,voff,none⟩) m vc] w fun e w'=>
   ∃(G:Nat) (ROW:Array Value),n+m≤G∧G≤9223372036854775807∧ROW.size=G*2∧(∀(j:Nat) (v:Value),(cs.take (i*2))[j]? =some v→ROW[j]? =some v)∧e=.returned (.slice (some ⟨w.heap.size,0,none⟩) (n+m) G)∧
   w'=(((w.alloc (.cells ROW 42)).drew.setCells w.heap.size (i*2) vs).drew).setCells w.heap.size ((i+m)*2) (cs.drop (i*2)):=by
 obtain⟨i0,hi0,hz0,hzs,hzb⟩:=info_parts Tryz.info42z;have hz1:¬((m:Int)=0):=by omega
 have hz2:¬((i:Int)=(n:Int)):=by omega
 have hz3:(c:Int)<(n:Int)+(m:Int):=by omega
 have hsz:=Tryz.size42;have hkk:(n:Int)+(m:Int)-(i:Int)=((n+m-i:Nat):Int):=by omega
 have hik:i+(n+m-i)=n+m:=by omega
 have hold:(Builtin.firstCells i0.size i (.slice (some ⟨b,off,none⟩) i c)).run Tryz.prog w.drew=.ok (cs.take (i*2)).toArray w.drew:=by
  rw[hzs];exact run_firstCells_some w.drew 2 i ⟨b,off,none⟩ i c (cs.take (i*2)) (by rw[Zq];omega) (fun j v hj=>by
   rw[Addr.add_lit];rw[Ux]at hj;split at hj
   ·exact hcs j v hj
   ·cases hj)
 have hrz:∀ty,(Builtin.append_ #[34,3] ty #[.slice (some ⟨b,off,none⟩) i c,.int .i64 ((n:Int)+(m:Int)-(i:Int))]).run Tryz.prog w=
   .ok (.slice (some ⟨w.heap.size,0,none⟩) (n+m) (grownCap w (n+m) c 42)) (w.drew.alloc (.cells ((cs.take (i*2)).toArray++Builtin.zeroCells (Value.agg #[.string ⟨#[]⟩,.string ⟨#[]⟩]).cells (n+m-i)++Builtin.zeroCells (Value.agg #[.string ⟨#[]⟩,.string ⟨#[]⟩]).cells (grownCap w (n+m) c 42-(n+m))) 42)):=fun ty=>by
  have h:=Lib.run_append_grow_zeros w 34 3 ty 42 i0 _ .i64 .i64 Tryz.underlying34 Tryz.underlying3 hi0 hz0 (some ⟨b,off,none⟩) i c (cs.take (i*2)) hold (n+m-i) (by omega) (by omega) (by omega) (by omega) (by rw[hzb];omega) (by rw[hzb,hik];exact growslice_fits hroom hbig);rw[hik]at h;rw[hkk];exact h
 obtain⟨G,hG⟩:∃G,G=grownCap w (n+m) c 42:=⟨_,rfl⟩;have hGn:n+m≤G:=by rw[hG];exact grownCap_ge w _ _ _
 have hG63:G≤9223372036854775807:=by
  have:=grownCap_le_maxLen w (n+m) c 42 (by unfold maxLen;omega);rw[←hG]at this;unfold maxLen at this;omega
 obtain⟨ROW,hROW⟩:∃ROW:Array Value,ROW=(cs.take (i*2)).toArray++Builtin.zeroCells (Value.agg #[.string ⟨#[]⟩,.string ⟨#[]⟩]).cells (n+m-i)++Builtin.zeroCells (Value.agg #[.string ⟨#[]⟩,.string ⟨#[]⟩]).cells (G-(n+m)):=⟨_,rfl⟩;rw[←hG]at hrz;rw[←hROW]at hrz;have hRs:ROW.size=G*2:=by
  rw[hROW];simp[Builtin.zeroCells,Value.cells];omega
 have hRt:∀(j:Nat) (v:Value),(cs.take (i*2))[j]? =some v→ROW[j]? =some v:=fun j v hj=>by
  rw[hROW,Array.append_assoc,Array.getElem?_append_left (by have:=(Yc.1 hj).1;simpa using this)];simpa using hj
 obtain⟨W1,hW1⟩:∃W1,W1=w.drew.alloc (.cells ROW 42):=⟨_,rfl⟩;rw[←hW1]at hrz;have hN:∀j,j<(n+m)*2→(W1.cell? ⟨w.heap.size,j,none⟩).isSome=true:=fun j hj=>by
  rw[hW1,World.cell?_alloc_at (w:=w.drew) ROW _ w.heap.size j rfl,Y5 (by omega)];rfl
 have hNf:∀j,W1.frozen? ⟨w.heap.size,j,none⟩=false:=fun j=>by rw[hW1];exact World.frozen?_alloc_at (w:=w.drew) ROW _ w.heap.size j rfl
 have hOb:∀j v,w.cell? ⟨b,j,none⟩=some v→W1.cell? ⟨b,j,none⟩=some v:=fun j v h=>by rw[hW1,World.cell?_alloc_past (w:=w.drew) _ b j hbw];exact h
 have hOv:∀j v,w.cell? ⟨vb,j,none⟩=some v→W1.cell? ⟨vb,j,none⟩=some v:=fun j v h=>by rw[hW1,World.cell?_alloc_past (w:=w.drew) _ vb j hvw];exact h
 have hcpA:∀(W:World),(∀x,W.cell? x=W1.cell? x)→(∀x,W.frozen? x=W1.frozen? x)→∀ty dc,(Builtin.copy_ #[34,34] ty #[.slice (some ⟨w.heap.size,i*2,none⟩) (n+m-i) dc,.slice (some ⟨vb,voff,none⟩) m vc]).run Tryz.prog W=.ok (goInt (Y4 m (n+m-i))) (W.setCells w.heap.size (i*2) vs):=fun W hWc hWf ty dc=>
  zf 2 W _ _ ty 42 w.heap.size (i*2) (n+m-i) dc ⟨vb,voff,none⟩ m vc vs Tryz.underlying34 hsz (by rw[hvl];simp only[Gb];split<;>omega)
   (fun j v hj=>by rw[Addr.add_lit,hWc];exact hOv _ v (hvs j v hj))
   (fun j hj=>by rw[hWc];exact hN _ (by omega)) (fun j hj=>by rw[hWf];exact hNf _) h1v
 have hGi:¬(G=i):=by omega
 have hGim:¬(G=i+m):=by omega
 have hci:¬(c=i):=by omega
 have hbN:b≠w.heap.size:=by omega
 have hdl:(cs.drop (i*2)).length=(n-i)*2:=by rw[Z5,hcl];omega
 have hcpB:∀(W:World),(∀x,W.cell? x=(W1.setCells w.heap.size (i*2) vs).cell? x)→(∀x,W.frozen? x=(W1.setCells w.heap.size (i*2) vs).frozen? x)→∀ty dc sc,(Builtin.copy_ #[34,34] ty #[.slice (some ⟨w.heap.size,(i+m)*2,none⟩) (n+m-(i+m)) dc,.slice (some ⟨b,off+i*2,none⟩) (n-i) sc]).run Tryz.prog W=.ok (goInt (Y4 (n-i) (n+m-(i+m)))) (W.setCells w.heap.size ((i+m)*2) (cs.drop (i*2))):=fun W hWc hWf ty dc sc=>
  zf 2 W _ _ ty 42 w.heap.size ((i+m)*2) (n+m-(i+m)) dc ⟨b,off+i*2,none⟩ (n-i) sc (cs.drop (i*2)) Tryz.underlying34 hsz (by rw[hdl];simp only[Gb];split<;>omega)
   (fun j v hj=>by
    rw[Addr.add_lit,hWc,World.cell?_setCells_out _ _ _ _ _ (fun h _=>absurd h hbN),Ya];exact hOb _ v (hcs (i*2+j) v (by rwa [V8]at hj)))
   (fun j hj=>by rw[hWc];exact isSome_setCells _ _ _ _ (fun t ht=>hN _ (by omega)) _ (hN _ (by omega)))
   (fun j hj=>by rw[hWf,World.frozen?_setCells];exact hNf _) (fun v hv=>h1c v (V5 hv))
 subst hW1;have hE1:∀x,((w.alloc (.cells ROW 42)).drew).cell? x=(w.drew.alloc (.cells ROW 42)).cell? x:=fun x=>rfl;have hE2:∀x,((w.alloc (.cells ROW 42)).drew).frozen? x=(w.drew.alloc (.cells ROW 42)).frozen? x:=fun x=>rfl;have hF1:∀x,(((w.alloc (.cells ROW 42)).drew.setCells w.heap.size (i*2) vs).drew).cell? x=((w.drew.alloc (.cells ROW 42)).setCells w.heap.size (i*2) vs).cell? x:=fun x=>rfl;have hF2:∀x,(((w.alloc (.cells ROW 42)).drew.setCells w.heap.size (i*2) vs).drew).frozen? x=((w.drew.alloc (.cells ROW 42)).setCells w.heap.size (i*2) vs).frozen? x:=fun x=>rfl;have hw1:IntKind.i64.wrap ((i:Int)+(m:Int))=(i:Int)+(m:Int):=by rw[IntKind.wrap_i64];omega
 have hb1:(0:Int)≤(i:Int)+(m:Int):=by omega
 have hin:i≤n:=by omega
 have htn:((i:Int)+(m:Int)).toNat=i+m:=by omega
 have hb3:(i:Int)≤(n:Int):=by omega
 clear hkk hik hold hROW hG;have mixed:Tryz.prog.follows Departure.mixedOrders=true:=by kernel_rfl
 go_enter Tryz.func153,Tryz.ntmps153
 go_wp2_with (first
  |(at_builtin;refine Lib.wpList_append_run _ rfl _ _ _ _ rfl _ _ rfl rfl _ _ (hrz _) ?_)
  |(at_builtin;refine wpList_copy_runI _ rfl _ _ 34 34 rfl _ _ rfl rfl (hcpA _ hE1 hE2 _ _) ?_)
  |(at_builtin;refine wpList_copy_runI _ rfl _ _ 34 34 rfl _ _ rfl rfl (hcpB _ (fun _=>rfl) (fun _=>rfl) _ _ _) ?_))
 go_region_law_o (refine step_copy_runI rfl _ _ 34 34 rfl (.slice (some ⟨w.heap.size,(i+m)*2,none⟩) (n+m-(i+m)) (G-(i+m))) (.slice (some ⟨b,off+i*2,none⟩) (n-i) (c-i)) (by simp[Act.eval,Act.put]) (by simp[Act.eval,Act.put]) (hcpB _ hF1 hF2 3 (G-(i+m)) (c-i)) ?_)
 go_wp2
 go_ret
 exact⟨G,ROW,hGn,hG63,hRs,hRt,rfl,rfl⟩
end Go.Proofs
namespace Go.Proofs
open Go Go.RowKit Go.Lib Go.Ax
noncomputable def Cr :List Value→AS→Option (Value×AS)
 |[.slice (some ⟨a,o,none⟩) n c,.int .i64 (.ofNat k),.slice (some ⟨vb,vo,none⟩) m vc],s=>match s.h.get a,s.h.get vb with
  |some (.cells ca na za),some (.cells cv nv zv)=>
   bif Za (zs za) 2&&(Za (za%2) 0&&(Za (zv%2) 0&&(Zb 1 m&&(Zh k n&&(Zb (n+m) 1000000&&(!Nat.beq a vb&&(Za (c%2) 0&&Zb 1 nv)))))))then
    (match Go.Ax.rdN s a o (n*2),Go.Ax.rdN s vb vo (m*2)with
    |some l,some r=>bif ones l&&ones r then some (.slice (some ⟨s.nx,0,none⟩) (n+m) (2*(n+m)),(s.upd a .dead).rowz (zg 2 za 42) (l.take (k*2)++(r++l.drop (k*2))))else none
    |_,_=>none)else none
  |_,_=>none
 |_,_=>none
theorem Zmg{l r:List Value}{n m k:Nat}(hl:l.length=n*2)(hr:r.length=m*2)(hk:k<n)(j:Nat)(hj:j<(n+m)*2):
  (l.take (k*2)++(r++l.drop (k*2)))[j]? =if j<k*2 then l[j]? else if j<(k+m)*2 then r[j-k*2]? else l[j-m*2]? :=by
 rw[Zn0,Zq,hl];have:min (k*2) (n*2)=k*2:=by omega
 rw[this];split
 ·rw[Ux,if_pos (by assumption)]
 ·rw[Zn0,hr];split
  ·rw[if_pos (by omega)]
  ·rw[if_neg (by omega),V8];congr 1;omega
theorem zh{l:List Value}(h:ones l=true):∀u∈l,u.oneCell'=true:=by
 induction l with
 |nil=>intro u hu;cases hu
 |cons v l ih=>
  simp only[ones,Zi]at h;intro u hu;rcases Zg.1 hu with rfl|hu
  ·cases u<;>first|rfl|cases h.1
  ·exact ih h.2 u hu
theorem OP(args:Array Value)(w:World):(callFunc 153 args).run Tryz.prog w=.ok (.enter 153 args) w:=by
 unfold callFunc;have hf:Tryz.prog.funcs[153]? =some Tryz.f153:=Tryz.func153
 have hn : Tryz.f153.name ≠ "runtime.NumGoroutine" := by
  have : (Tryz.f153.name == "runtime.NumGoroutine") = false := by kernel_rfl
  simpa using this
 have hb:Tryz.f153.body≠none:=by
  have:Tryz.f153.body.isNone=false:=by kernel_rfl
  intro h;rw[h]at this;cases this
 simp[hf,hn,hb]
theorem VRs.three{i:Io}{l l' r r':List Value}(hl:VRs i l l')(hr:VRs i r r')(k:Nat):VRs i (l.take k++(r++l.drop k)) (l'.take k++(r'++l'.drop k)):=
 (hl.take k).append (hr.append (hl.drop k))
theorem AZ :POk Tryz.prog 153 Cr:=by
 intro args s v s' h i w args' hR hg ha;unfold Cr at h;split at h
 ·rename_i a o n c k vb vo m vc;split at h
  ·rename_i ca na za cv nv zv hba hbv;cases hb:(Za (zs za) 2&&(Za (za%2) 0&&(Za (zv%2) 0&&(Zb 1 m&&(Zh k n&&(Zb (n+m) 1000000&&(!Nat.beq a vb&&(Za (c%2) 0&&Zb 1 nv))))))))with
   |false=>rw[hb]at h;cases h
   |true=>
    rw[hb,cond_true]at h;simp only[Zi,Yj,Vh,Nat.beq_eq,Bool.not_eq_true']at hb;obtain⟨hza,hz2,hzv,hm1,hkn,hnm,hne,hc2,hnv⟩:=hb;have hne':a≠vb:=fun e=>by subst e;rw[Nat.beq_refl]at hne;cases hne
    split at h
    ·rename_i l r hl hr;cases ho:(ones l&&ones r)with
     |false=>rw[ho]at h;cases h
     |true=>
      rw[ho,cond_true]at h;cases h;simp only[Zi]at ho;cases ha with|cons a1 ha=>
      cases ha with|cons a2 ha=>
      cases ha with|cons a3 ha=>
      cases ha;cases a2;cases a1 with| @slice _ _ q t _ _ p c' hia x1 x2 x3 x4 x5=>
      cases a3 with| @slice _ _ qv tv _ _ pv vc' hiv y1 y2 y3 y4 y5=>
      have hp:p=t+o:=x4.resolve_right (by omega);have hpv:pv=tv+vo:=y4.resolve_right (by omega);subst hp hpv;obtain⟨cs,e,fr,h1,h2,h3,h4,h5⟩:=hR.at (P:=default) hba rfl hia;obtain⟨cs2,e2,fr2,g1,g2,g3,g4,g5⟩:=hR.at (P:=default) hbv rfl hiv;have hfr:fr.1=fr.2:=h3.resolve_right (fun h=>by omega);have hfr2:fr2.1=fr2.2:=g3.resolve_right (fun h=>by omega);obtain⟨l',l1,l2,l3⟩:=hR.rdC hba hl hia h1;obtain⟨r',r1,r2,r3⟩:=hR.rdC hbv hr hiv g1;have hl':l'.length=n*2:=by rw[←l1.length];exact l2
      have hr':r'.length=m*2:=by rw[←r1.length];exact r2
      have hqv:qv≠q:=fun e=>by subst e;exact hne' (hR.inj a vb _ _ _ _ _ hba hbv rfl rfl hia hiv)
      obtain⟨m1,m2⟩:=hR.lim a ca na za q t hba hia;have hroomA:=m2 cs e fr h1;have hcell:∀(b:Nat) (cs:Array Value) (e:TypeId) (fr:Nat×Nat),w.heap[b]? =some (.cells cs e fr)→∀j,w.cell? ⟨b,j,none⟩=cs[j]? :=fun b cs e fr hb j=>by simp[World.cell?,hb]
      have hfroz:∀(b:Nat) (cs:Array Value) (e:TypeId) (fr:Nat×Nat),w.heap[b]? =some (.cells cs e fr)→fr.1=fr.2→∀j,w.frozen? ⟨b,j,none⟩=false:=fun b cs e fr hb hf j=>by
       unfold World.frozen?;simp[hb,hf]
       try omega
      have hcs:∀j v,l'[j]? =some v→w.cell? ⟨q,t+o+j,none⟩=some v:=fun j v hj=>by
       have hjn:=(Yc.1 hj).1;rw[hcell q cs e fr h1,l3 j (by omega)];exact hj
      have hvs:∀j v,r'[j]? =some v→w.cell? ⟨qv,tv+vo+j,none⟩=some v:=fun j v hj=>by
       have hjn:=(Yc.1 hj).1;rw[hcell qv cs2 e2 fr2 g1,r3 j (by omega)];exact hj
      have hL:∀j,j<(n+m)*2→(l'.take (k*2)++(r'++l'.drop (k*2)))[j]? =if j<k*2 then l'[j]? else if j<(k+m)*2 then r'[j-k*2]? else l'[j-m*2]? :=fun j hj=>Zmg hl' hr' hkn j hj
      have hv:=VRs.three l1 r1 (k*2);have hLl:(l.take (k*2)++(r++l.drop (k*2))).length=(n+m)*2:=by
       rw[hv.length];simp[hl',hr'];omega
      obtain⟨L,hLe⟩:∃L,L=l.take (k*2)++(r++l.drop (k*2)):=⟨_,rfl⟩;obtain⟨L',hLe'⟩:∃L',L'=l'.take (k*2)++(r'++l'.drop (k*2)):=⟨_,rfl⟩;rw[←hLe,←hLe']at hv;rw[←hLe]at hLl ⊢;rw[←hLe']at hL;have hdl:(l'.drop (k*2)).length=(n-k)*2:=by rw[Z5,hl'];omega
      rcases Zt c' (n+m)with hgrow|hroom
      ·have hc:=Zmf q (t+o) n c' k qv (tv+vo) m vc' l' r' w hkn hm1 (by omega) hgrow (by omega) hl' hr' (block_lt_of_cell (hcs 0 _ (Zn (by omega)))) (block_lt_of_cell (hvs 0 _ (Zn (by omega)))) hcs hvs
        (zh (by rw[l1.ones];exact ho.1)) (zh (by rw[r1.ones];exact ho.2))
       refine .inr ⟨OP _ _,Calls.mono hc (fun e w' he=>?_)⟩;obtain⟨G,ROW,k1,k2,k3,k4,rfl,rfl⟩:=he;obtain⟨hRk,hFk⟩:=hR.kill hba;obtain⟨ca1,p1,p2,p3⟩:=jd r' (k*2) (w.alloc (.cells ROW 42)).drew ROW (World.alloc_heap_new w _);obtain⟨ca2,p4,p5,p6⟩:=jd (l'.drop (k*2)) ((k+m)*2) ((w.alloc (.cells ROW 42)).drew.setCells w.heap.size (k*2) r').drew ca1 p1;obtain⟨w',hw'⟩:∃w',w'=(((w.alloc (.cells ROW 42)).drew.setCells w.heap.size (k*2) r').drew).setCells w.heap.size ((k+m)*2) (l'.drop (k*2)):=⟨_,rfl⟩;rw[←hw']at p4 ⊢;have hbel:Below w.heap.size w w':=by
        rw[hw'];refine⟨(Bg _ _ _).1.trans (Bg _ _ _).1,(Bg _ _ _).2.1.trans (Bg _ _ _).2.1,(Bg _ _ _).2.2.trans (Bg _ _ _).2.2,?_,fun j hj=>?_⟩
        ·rw[setCells_size];show w.heap.size≤((w.alloc (.cells ROW 42)).drew.setCells w.heap.size (k*2) r').heap.size;rw[setCells_size];show w.heap.size≤(w.alloc (.cells ROW 42)).heap.size;rw[World.size_alloc];omega
        ·refine(jf _ _ _ j (by omega)).trans ((jf _ _ _ j (by omega)).trans ?_);exact Below.heap_alloc w _ j hj
       have hfin:∀j,j<L.length→ca2[0+j]? =L'[j]? :=fun j hj=>by
        rw[hLl]at hj;rw[Zw,hL j hj,p6 j (by omega),hdl,p3 j (by omega),hr'];by_cases j1:j<k*2
        ·rw[if_neg (by omega),if_neg (by omega),if_pos j1];have hj':j<l'.length:=by omega
         rw[Zn hj'];exact k4 j _ (by rw[Ux,if_pos j1,Zn hj'])
        ·by_cases j2:j<(k+m)*2
         ·rw[if_neg (by omega),if_pos (by omega),if_neg j1,if_pos j2]
         ·rw[if_pos (by omega),if_neg j1,if_neg j2,V8];congr 1;omega
       have hle:Le i (ext i s.nx (w.heap.size,0) (2,G*2)):=Nb (hR.fresh s.nx (Ze _)).1;obtain⟨q1,q2⟩:=hRk.newAt (lm:=(2,G*2)) (o:=.cells (T.e.fill 0 L) L.length (zg 2 za 42)) hbel (Ze _) p4
        (OR.row (hv.mono hle) ca2 42 (0,0) (zg 2 za 42) (fun hz=>(mz (by omega) hz).2.symm) (.inl rfl) 0 (by omega) hfin)
        (fun c n z h=>by cases h;exact⟨(R4 (by omega)).symm,fun cs e fr h=>by cases h;show G*2≤ca2.size;omega⟩)
       exact⟨_,.slice (t:=0) (G8 _ _ _) (by omega) (by omega) (by omega) (.inl rfl) (fun _ _=>by rw[B7];omega),q1,hFk.trans q2⟩
      ·have hc2':t+o+c'*2≤cs.size:=by
        have:=x5 hc2 (by omega);rw[m1,hza]at this;omega
       have hc:=Zme q (t+o) n c' k qv (tv+vo) m vc' l' r' w hkn hm1 hroom hnm hqv hl' hr' hcs
        (fun j hj=>by rw[hcell q cs e fr h1,Y5 (by omega)];rfl) (fun j hj=>hfroz q cs e fr h1 hfr _) hvs
        (zh (by rw[l1.ones];exact ho.1)) (zh (by rw[r1.ones];exact ho.2)) e2 e cs2.size cs.size (by unfold World.shape?;rw[g1]) (by unfold World.shape?;rw[h1]) (by omega) (hfroz qv cs2 e2 fr2 g1 hfr2 _) (hfroz qv cs2 e2 fr2 g1 hfr2 _)
       refine .inr ⟨OP _ _,Calls.mono hc (fun e' w' he=>?_)⟩;obtain⟨rfl,hw'⟩:=he;obtain⟨ca1,p1,p2,p3⟩:=jd (l'.drop (k*2)) (t+o+(k+m)*2) w.drew cs (show w.drew.heap[q]? =_ from h1);obtain⟨ca2,p4,p5,p6⟩:=jd r' (t+o+k*2) (w.drew.setCells q (t+o+(k+m)*2) (l'.drop (k*2))) ca1 p1;rw[←hw']at p4;have hfin:∀j,j<L.length→ca2[t+o+j]? =L'[j]? :=fun j hj=>by
        rw[hLl]at hj;rw[hL j hj,p6 _ (by omega),hr',p3 _ (by omega),hdl];by_cases j1:j<k*2
        ·rw[if_neg (by omega),if_neg (by omega),if_pos j1,l3 j (by omega)]
        ·by_cases j2:j<(k+m)*2
         ·rw[if_pos (by omega),if_neg j1,if_pos j2];congr 1;omega
         ·rw[if_neg (by omega),if_pos (by omega),if_neg j1,if_neg j2,V8];congr 1;omega
       have hle:Le i (ext i s.nx (q,t+o) (i.lim a)):=Nb (hR.fresh s.nx (Ze _)).1;have hzz:ze (zg 2 za 42)≠0→e+1=ze (zg 2 za 42):=fun hz=>by
        obtain⟨u1,u2⟩:=mz (size:=2) (z:=za) (e:=42) (by omega) hz;rw[u2,←u1];exact(h5 (by rw[u1];omega)).1
       obtain⟨q1,q2⟩:=hR.grow (w':=w') (p:=t+o) (lm:=i.lim a) (o:=.cells (T.e.fill 0 L) L.length (zg 2 za 42)) hba hia
        (fun j hj=>by rw[hw'];exact(jf _ _ _ j hj).trans (jf _ _ _ j hj))
        (by rw[hw',setCells_size,setCells_size];rfl)
        (by rw[hw'];exact(Bg _ _ _).1.trans (Bg _ _ _).1) (by rw[hw'];exact(Bg _ _ _).2.1.trans (Bg _ _ _).2.1) (by rw[hw'];exact(Bg _ _ _).2.2.trans (Bg _ _ _).2.2)
        (by rw[p4];exact OR.row (hv.mono hle) ca2 e fr (zg 2 za 42) hzz (.inl hfr) (t+o) (by omega) hfin (.inr (by rw[R4 (by omega)];omega)))
        (fun c n z h=>by cases h;exact⟨by rw[R4 (by omega),m1,hza],fun cs' e' fr' h=>by rw[p4]at h;cases h;omega⟩)
       exact⟨_,.slice (o:=0) (t:=t+o) (G8 _ _ _) (by omega) (by omega) (by omega) (.inl rfl) (fun _ h0=>by rw[B7];exact x5 hc2 h0),q1,q2⟩
    ·cases h
  ·cases h
 ·cases h
end Go.Proofs
