/- The variables that the laws of this seat begin with: two tables. -/
import Derived.Test.YtjadpdncjnokbaaGreatDoorSgD
import Derived.Test.YtjadpdncjnokbaaGreatDoorFnA
import Derived.Test.YtjadpdncjnokbaaGreatDoorCards
import Derived.ProofKit
import Derived.OpenShut
import Derived.ChangeSlices
import Derived.Lib.LaidTab
import Derived.Lib.LaidU8
import Derived.Lib.SmallJoins
import Derived.Deep.Strs
import Derived.Lay
import Derived.LaidMore
import Derived.Stop.LaidErr
set_option linter.all false
open List renaming mem_cons→Zg,mem_cons_self→Zm,getElem?_map→Zy,length_map→Zc,mem_map→Zl
open Nat renaming zero_le→Zj
namespace Go.Proofs.YtjadpdncjnokbaaGreatDoor
open Go.ChangeShapes Go.WideShapes Go.ChangeAt Go.ChangeMaps Go.RowKit Go.Ax Go.Lx
set_option maxRecDepth 100000
theorem first_eq :Go.Pinned.utf8First=Lib.firstData:=by kernel_rfl
theorem own :ownKnob Tryz.prog.godebug=none:=by kernel_rfl
def z64 :List Int:=[0,1,56,2,57,49,28,3,61,58,42,50,38,29,17,4,62,47,59,36,45,43,51,22,53,39,33,30,24,18,12,5,63,55,48,27,60,41,37,16,46,35,44,21,52,32,23,11,54,26,40,15,34,20,31,10,25,14,19,9,13,8,7,6]
theorem g0 : Tryz.prog.globalNamed "math/bits.deBruijn64tab" = some 0 := by kernel_rfl
theorem g0t :(Tryz.prog.globals[0]?).map (·.type)=some 279:=by kernel_rfl
theorem g1 : Tryz.prog.globalNamed "unicode/utf8.first" = some 1 := by kernel_rfl
theorem g1t :(Tryz.prog.globals[1]?).map (·.type)=some 401:=by kernel_rfl
theorem u279 :Tryz.prog.underlying 279=some (.array 64 5):=by kernel_rfl
theorem u401 :Tryz.prog.underlying 401=some (.array 256 5):=by kernel_rfl
theorem u5 :Tryz.prog.underlying 5=some (.int .u8):=by kernel_rfl
theorem c5 :Tryz.prog.cellsOf 5=1:=by kernel_rfl
theorem c279 :Tryz.prog.cellsOf 279=64:=by kernel_rfl
theorem c401 :Tryz.prog.cellsOf 401=256:=by kernel_rfl
theorem c3 :Tryz.prog.cellsOf 3=1:=by kernel_rfl
theorem laidOut :laidOutB Tryz.prog=true:=by kernel_rfl
theorem heap_of{W:World}{n:String}{g:Nat}{k:IntKind}{zs:List Int}(hg:Tryz.prog.globalNamed n=some g)(h:Lib.TabIs Tryz.prog W n k zs):∃e fr,W.heap[g]? =some (.cells (zs.map fun z=>Value.int k z).toArray e fr):=by
 unfold Lib.TabIs World.var? at h;rw[hg]at h;simp only[Option.bind_some]at h
 match hw:W.heap[g]?,h with
 |some (.cells cs t fr),h=>
  obtain rfl:=Option.some.inj h;exact⟨t,fr,rfl⟩
 |none,h=>cases h
 |some (.map _ _),h=>cases h
structure LaidW(W:World):Prop where
 t0:∃e fr,W.heap[0]? =some (.cells (z64.map fun z=>Value.int .u8 z).toArray e fr)
 t1:∃(zs:List Int) (e:TypeId) (fr:Nat×Nat),W.heap[1]? =some (.cells (zs.map fun z=>Value.int .u8 z).toArray e fr)
set_option maxRecDepth 100000 in
theorem laidW_of{W:World}(h:laidMetH Tryz.prog Rows.chunkTightUptoRow.laid W):LaidW W:=by
 rw[MakeChecks.laidMetH_plain _ _ _ (by kernel_rfl)]at h
 have a0 : Lib.TabIs Tryz.prog W "math/bits.deBruijn64tab" .u8 z64 := Lib.tabIs_of_head g0 g0t u279 u5 c5 c279 h
 have h2 : laidMet Tryz.prog [("unicode/utf8.first", Go.Pinned.utf8First)] W := h.tail.tail
 rw[first_eq]at h2
 have a1 : Lib.TabIs Tryz.prog W "unicode/utf8.first" .u8 Lib.firstTab := Lib.tabIs_of_head g1 g1t u401 u5 c5 c401 h2
 obtain⟨e,fr,h1⟩:=heap_of g1 a1;exact⟨heap_of g0 a0,_,e,fr,h1⟩
abbrev gs8 :List Nat:=[0]
theorem low8 :∀g∈gs8,g<1000:=by decide
theorem LaidW.cells{W:World}(h:LaidW W):∀q,q∈gs8∨q∈[1]→∃cs e fr,W.heap[q]? =some (.cells cs e fr):=fun q hq=>by
 have hq':q=0∨q=1:=by simpa using hq
 rcases hq' with rfl|rfl
 ·obtain⟨e,fr,h⟩:=h.t0;exact⟨_,e,fr,h⟩
 ·obtain⟨zs,e,fr,h⟩:=h.t1;exact⟨_,e,fr,h⟩
theorem LaidW.small{W:World}(h:LaidW W){q o:Nat}(hq:q=0∨q=1){v:Value}(hv:W.cell? ⟨q,o,none⟩=some v):∃k z,v=.int k z∧k≠ .i64:=by
 have key:∀(k:IntKind) (zs:List Int) e fr,k≠ .i64→W.heap[q]? =some (.cells (zs.map fun z=>Value.int k z).toArray e fr)→∃k z,v=.int k z∧k≠ .i64:=by
  intro k zs e fr hk hw;unfold World.cell? at hv;simp only[hw]at hv;have hv':(zs.map fun z=>Value.int k z)[o]? =some v:=by simpa using hv
  rw[Zy]at hv';cases hz:zs[o]? with
  |none=>rw[hz]at hv';cases hv'
  |some z=>rw[hz]at hv';cases hv';exact⟨k,z,rfl,hk⟩
 rcases hq with rfl|rfl
 ·obtain⟨e,fr,h⟩:=h.t0;exact key _ _ _ _ (by decide) h
 ·obtain⟨zs,e,fr,h⟩:=h.t1;exact key _ _ _ _ (by decide) h
theorem bind_map{qs:List Nat}{k:IntKind}{zs:List Int}(j:Nat)(v:Value)(h:(zs.map fun z=>Value.int k z)[j]? =some v):(((zs.map fun z=>Value.int k z).toArray)[j]?).bind (inV qs)=some v:=by
 rw[List.getElem?_toArray,h];rw[Zy]at h;cases hz:zs[j]? with
 |none=>rw[hz]at h;cases h
 |some z=>rw[hz]at h;cases h;rfl
theorem tabL_eq :Cs=z64.map fun z=>Value.int .u8 z:=by kernel_rfl
theorem tabD_eq :Go.Cis.G5=z64.map fun z=>Value.int .u8 z:=by kernel_rfl
theorem stN_roN{w:World}{gs qs ms:List Nat}(ok:Nl w gs qs ms){g:Nat}(hg:g∈gs){cs:List Value}{e:TypeId}{fr:Nat×Nat}(hc:w.heap[g]? =some (.cells cs.toArray e fr))(hv:∀(k:Nat) (v:Value),cs[k]? =some v→((cs.toArray)[k]?).bind (inV qs)=some v):∃U,(RoN g cs).p U (stN w gs qs ms).h∧∀b,U b→(stN w gs qs ms).h.get b≠none:=by
 have h:=WP ok hg;rw[lr hc]at h;refine⟨fun b=>b=g,⟨rfl,_,by rw[List.size_toArray]at h;exact h,fun k v hk=>?_⟩,fun b hb=>by rw[hb,h];simp⟩;rw[lq qs _ _ _ _ (fun j _=>rfl),if_pos (Zj _),Nat.sub_zero,Array.getElem?_toList];exact hv k v hk
theorem LaidW.start{W:World}(h:LaidW W){qs r:List Nat}(ok:Nl W gs8 qs (1::r)):∀A∈[Ro 0 Go.Cis.G5,RoN 0 Cs,Top],∃U,A.p U (stN W gs8 qs (1::r)).h∧∀b,U b→(stN W gs8 qs (1::r)).h.get b≠none:=by
 intro A hA;rcases Zg.1 hA with rfl|hA
 ·obtain⟨e,fr,h⟩:=h.t0;rw[tabD_eq];exact Zkj ok (Zm ..) h (bind_map)
 rcases Zg.1 hA with rfl|hA
 ·obtain⟨e,fr,h⟩:=h.t0;rw[tabL_eq];exact stN_roN ok (Zm ..) h bind_map
 rcases Zg.1 hA with rfl|hA
 ·have h:=EZ ok (i:=0) (q:=1) rfl;exact⟨fun b=>b=1000,rfl,fun b hb=>by rw[hb];rw[show(1000:Nat)=1000+0 from rfl,h];simp⟩
 ·cases hA
theorem bulk_ints{H:Type}(k:IntKind):∀l:List Int,Rows.uptoBulkAll (H:=H) (l.map fun x=>.lit (.int k x))=l.length
 |[]=>rfl
 |x::l=>by
  show Rows.uptoBulk (H:=H) (.lit (.int k x))+Rows.uptoBulkAll (l.map fun x=>.lit (.int k x))=_;rw[bulk_ints k l];show 1+l.length=l.length+1;omega
theorem key{W:World}{v:Value}{es:List Value}{q:Nat}(hs:Fa W v es)(hne:es≠[])(hq:q∈blk v):∃y∈es,∃o,W.cell? ⟨q,o,none⟩=some y:=by
 rcases hs with⟨_,h⟩|⟨b,p,c,rfl,_,_,h4⟩
 ·exact absurd h hne
 ·rcases Zg.1 hq with rfl|hq
  ·cases he:es with
   |nil=>exact absurd he hne
   |cons y l=>exact⟨y,Zm ..,p+0,h4 0 y (by rw[he];rfl)⟩
  ·cases hq
theorem slice_ok{W:World}{base:Nat}{t e:TypeId}{a:Addr}{len cap:Nat}(hu:Tryz.prog.underlying t=some (.slice e))(hok:Cell.okWide Tryz.prog W .any base t (.slice (some a) len cap)):a=⟨a.block,a.off,none⟩∧a.block<W.heap.size:=by
 obtain⟨b,off,spot⟩:=a;simp only[Cell.okWide,hu,Cell.ok,World.has]at hok;obtain⟨_,_,_,hspot,row,cells,hshape,_⟩:=hok;obtain rfl:spot=Option.none:=hspot;refine⟨rfl,?_⟩;rcases Nat.lt_or_ge b W.heap.size with h|h
 ·exact h
 ·unfold World.shape? at hshape;simp[Array.getElem?_eq_none h]at hshape
theorem nums_in{H:Type}{enc:TypeId×Value→H}{W:World}{base n:Nat}{v:Value}{y:DataW H×List MemPlace}(hok:Cell.okWide Tryz.prog W .any base 45 v)(h:DataW.trod enc Tryz.prog W 0 (fun _=>true) true n 45 [v]=some y):∃nums:List Int,Fa W v (nums.map (Value.int .i64))∧nums.length≤Rows.uptoBulk y.1∧∀x∈nums,-9223372036854775808≤x∧x≤9223372036854775807:=by
 rcases open_ints Tryz.underlying45 Tryz.underlying3 c3 h with⟨h1,rfl⟩|⟨a,len,cap,zs,h1,_,hl,hm,hz,rfl,hc,hw⟩
 ·cases h1;exact⟨[],.inl ⟨rfl,rfl⟩,Zj _,fun x hx=>by cases hx⟩
 ·cases h1;obtain⟨ha,hlt⟩:=slice_ok Tryz.underlying45 hok;have hz:zs.length=cap:=by simpa using hz
  have hlen:(zs.take len).length=len:=by rw[List.length_take];omega
  refine⟨zs.take len,.inr ⟨a.block,a.off,cap,?_,?_,hlt,?_⟩,?_,?_⟩
  ·rw[Zc,hlen,←ha]
  ·rw[Zc,hlen];exact hl
  ·intro i y hy;rw[Zy]at hy;cases hi:(zs.take len)[i]? with
   |none=>rw[hi]at hy;cases hy
   |some j=>
    rw[hi]at hy;cases hy;have hlt:=(List.getElem?_eq_some_iff.1 hi).1;rw[List.getElem?_take,if_pos (by omega)]at hi;have:=hc i (by omega);rw[List.getD_eq_getElem?_getD,hi,ha,add_plain]at this;exact this
  ·have e:=bulk_ints (H:=H) .i64 (zs.take len);show _≤Rows.uptoBulkAll _+Rows.uptoBulkAll _+1;rw[←e];exact Nat.le_trans (Nat.le_add_right _ _) (Nat.le_succ _)
  ·intro x hx;have:=bounds_i64 (hw x (List.mem_of_mem_take hx));omega
theorem slice_in{H:Type}{enc:TypeId×Value→H}{W:World}{base:Nat}{v:Value}{d:DataW H}{p:List MemPlace}(hok:Value.okWide Tryz.prog W .any base 45 v)(h:DataW.Trod enc Tryz.prog W 0 (fun _=>true) true 45 v d p):∃nums:List Int,Fa W v (nums.map (Value.int .i64))∧∀x∈nums,-9223372036854775808≤x∧x≤9223372036854775807:=by
 obtain⟨a,len,cap,rfl⟩:=okWide_slice Tryz.underlying45 hok;have hok':Cell.okWide Tryz.prog W .any base 45 (.slice a len cap):=by
  unfold Value.okWide at hok;rw[Tryz.underlying45]at hok;exact hok
 obtain⟨fuel,hf⟩:=h;obtain⟨nums,h1,_,h3⟩:=nums_in hok' hf;exact⟨nums,h1,h3⟩
theorem LaidW.sls{W:World}(hT:LaidW W){vm:Value}{nums:List Int}(hm:Fa W vm (nums.map (Value.int .i64))):md W gs8 [1] [] [(vm,nums.map (Value.int .i64))]:=by
 have big:∀x∈[(vm,nums.map (Value.int .i64))],x.2≠[]→∀q∈blk x.1,¬(q=0∨q=1):=by
  intro x hx hne q hq h;rcases Zg.1 hx with rfl|hx
  ·obtain⟨y,hy,o,hc⟩:=key hm hne hq;obtain⟨s,_,rfl⟩:=Zl.1 hy;obtain⟨k,z,h1,h2⟩:=hT.small h hc;cases h1;exact h2 rfl
  ·cases hx
 refine⟨low8,hT.cells,?_,?_,by simp,fun q hq h5=>?_,fun q hq hg=>?_,fun q hq=>by cases hq⟩
 ·intro x hx;rcases Zg.1 hx with rfl|hx
  ·exact hm
  ·cases hx
 ·intro x hx y hy;rcases Zg.1 hx with rfl|hx
  ·obtain⟨s,_,rfl⟩:=Zl.1 hy;exact Zk1 _ s
  ·cases hx
 ·have:q=1:=by simpa using hq
  obtain⟨x,hx,hne,hq⟩:=KC h5;exact big x hx hne q hq (by omega)
 ·have hg':q=0:=by simpa using hg
  rcases List.mem_append.1 hq with hq|hq
  ·have:q=1:=by simpa using hq
   omega
  ·obtain⟨x,hx,hne,hq⟩:=KC hq;exact big x hx hne q hq (by omega)
theorem LaidW.begin{W:World}(hT:LaidW W){vm:Value}{nums:List Int}(hm:Fa W vm (nums.map (Value.int .i64))):∃(qs ms:List Nat) (z:Value) (e:inV qs vm=some z),Nl W gs8 qs ms∧∀A∈[SlR 1 z (nums.map fun x=>[Value.int .i64 x]),Ro 0 Go.Cis.G5,RoN 0 Cs,Top],∃U,A.p U (stN W gs8 qs ms).h∧∀b,U b→(stN W gs8 qs ms).h.get b≠none:=by
 have ok:=hT.sls hm;obtain⟨zm,em,Um,um1,um2⟩:=ok.at (v:=vm) (es:=nums.map (Value.int .i64)) (Zm ..);have inOk:=ok.inOk;have start:=hT.start inOk;rw[List.map_map]at um1;exact⟨_,_,zm,em,inOk,fun A hA=>by
  rcases Zg.1 hA with rfl|hA
  ·exact⟨Um,um1,um2⟩
  ·exact start A hA⟩
end Go.Proofs.YtjadpdncjnokbaaGreatDoor
