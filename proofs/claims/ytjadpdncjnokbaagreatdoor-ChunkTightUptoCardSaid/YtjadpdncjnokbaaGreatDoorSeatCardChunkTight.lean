/- ChunkTight: for every number of blocks and all indexes that together hold at most 1048576 values, the law returns true and leaves its arguments alone; the package-level variables begin as the program's text lays them. -/
import Derived.Test.YtjadpdncjnokbaaGreatDoorSeatRoot
import Derived.Test.YtjadpdncjnokbaaGreatDoorFnS
import Derived.Test.YtjadpdncjnokbaaGreatDoorSeatFactChunkTight
import Derived.Deep.DeepHandedRow
import Derived.Deep.DeepWitnessRowRef
set_option linter.unusedSimpArgs false
set_option linter.unusedVariables false
namespace Go.Proofs.YtjadpdncjnokbaaGreatDoor.fnChunkTight
open Go.ChangeShapes Go.WideShapes Go.ChangeAt Go.ChangeMaps Go.RowKit Go.Ax Go.Lx Go.Cis
set_option maxRecDepth 100000
theorem law(W:World)(hT:LaidW W)(bn:Int)(vm:Value)(nums:List Int)(hm:Kl W vm (nums.map (Value.int .i64))):
  Calls Tryz.prog 4 #[.int .i64 bn,vm] W fun r W'=>r=.returned (.bool true)∧Below W.heap.size W W':=by
 obtain⟨qs,ms,z,e,inOk,start⟩:=hT.begin hm;have a:=Zwp Zyq (f:=4) (fn:=Tryz.f4) Tryz.func4 (by kernel_rfl) (by kernel_rfl) inOk
  (args:=[.int .i64 bn,z]) (args':=[.int .i64 bn,vm])
  (.cons (.int _ _) (.cons (Zjl e) .nil))
  (P:=[SlR 1 z (nums.map fun x=>[Value.int .i64 x]),Ro 0 Yi,RoN 0 U4,Top])
  start
  (Q:=fun v=>v=.bool true)
  (Zvr [] _ bn z nums (.tail _ (.head _)) (.tail _ (.tail _ (.head _))) (.tail _ (.tail _ (.tail _ (.head _)))) (.head _))
 refine a.mono fun r W' ⟨v,v',i',hv,hr,hvr,hb⟩=>?_;subst hv;cases hvr;exact⟨hr,hb⟩
theorem contract(H:Type)(enc:TypeId×Value→H)(W:World)(base:Nat)(args:Array Value)(ds gs:List (DataW H))(before:List MemPlace)
  (hval:∀(j:Nat) t v,Tryz.f4.params[j]? =some t→args[j]? =some v→Value.okWide Tryz.prog W .any base t v)
  (hW:DataW.Whole enc Tryz.prog Tryz.f4.params.toList Rows.chunkTightSpec.vars false W args.toList ds gs before) (hk:Rows.uptoSmall H (ds++gs)=true)
  (hL:laidMetH Tryz.prog Rows.chunkTightUptoRow.laid W) (hsh:W.ShapedOpen Tryz.prog):
  Calls Tryz.prog 4 args W fun e W'=>∃v,e=.returned v∧Rows.chunkTightSpec.post enc Tryz.prog Tryz.f4 false true false false W args v W':=by
 have hW':=hW;obtain⟨p,q,hA0,hV,rfl,hfz,hnd⟩:=hW;have hA:DataW.TrodAll enc Tryz.prog W 0 (fun _=>true) true Tryz.f4.params.toList args.toList ds p:=hA0;rw[Tryz.params4]at hA hval;obtain⟨v0,vs0,d0,ds0,p0,q0,hargs,rfl,rfl,h0,r0⟩:=trodAll_cons hA;obtain⟨v1,vs1,d1,ds1,p1,q1,rfl,rfl,rfl,h1,r1⟩:=trodAll_cons r0;obtain⟨rfl,rfl,rfl⟩:=trodAll_nil r1;obtain rfl:args= #[v0,v1]:=by cases args;simp_all
 obtain⟨rfl,rfl⟩:=trodVars_none hV;obtain⟨k,rfl,rfl,rfl,wk⟩:=open_int Tryz.underlying3 (hval 0 3 v0 rfl rfl) h0;have hv1:=hval 1 45 v1 rfl rfl;obtain⟨nums,m1,m2⟩:=slice_in hv1 h1;clear hA0;simp only[List.append_nil]at hW';have hT:=laidW_of hL;have hlt:∀x∈p1,x.block<W.heap.size:=fun x hx=>hW'.lt x (by simp[hx]);refine(law W hT k v1 nums m1).mono fun r W' ⟨he,hb⟩=>?_;subst he;exact⟨_,rfl,_,_,_,[],_,[],hW',trodAll_mk1 (shut_bool Tryz.underlying4 _),trodAll_cons_mk (shut_int Tryz.underlying3 wk) (trodAll_cons_mk (Below.trod laidOut (by kernel_rfl) (of_decide_eq_true (by kernel_rfl)) h1 hb hlt) trodAll_mk0),rfl,hb.frame _,fun h=>by cases h⟩
noncomputable def wits(os:Os):World:=World.laidAll Tryz.prog os Rows.chunkTightUptoRow.laid
def wargs :Array Value:= #[.int .i64 0,.slice none 0 0]
theorem laid_met(os:Os):laidMet Tryz.prog Rows.chunkTightUptoRow.laid ((wits os).forCall (fun _ _=>0) ⟨#[],wargs,[]⟩).memory:=
 laidMet_laidAll wargs (by kernel_rfl) (by kernel_rfl)
theorem reads(os:Os){H:Type}(enc:TypeId×Value→H):∃places,DataW.whole enc Tryz.prog ((wits os).forCall (fun _ _=>0) ⟨#[],wargs,[]⟩).memory Tryz.f4.params.toList Rows.chunkTightSpec.vars false wargs.toList 8=some ([.lit (.int .i64 0),.nil],[],places):=
 ⟨[],by kernel_rfl⟩
set_option maxRecDepth 100000 in
theorem liftedUpto(os:Os)(started:os.Started)(H:Type)(enc:TypeId×Value→H)(F:Stop.Interp):
  ReturnsInHanded {} Tryz.checked os 4 .any ((Rows.OpenSpec.upto Rows.chunkTightSpec).preRow enc Tryz.prog Tryz.f4 Rows.chunkTightUptoRow.domain false Rows.chunkTightUptoRow.laid) (((Rows.OpenSpec.upto Rows.chunkTightSpec).at F).post enc Tryz.prog Tryz.f4 false true false false):=by
 obtain⟨places,hx⟩:=reads os enc;refine returnsInHanded_of_row (C:=Tryz.checked) (s:=Rows.OpenSpec.upto Rows.chunkTightSpec) own started (by kernel_rfl) Tryz.func4
  (witness_row_atRef (enc:=enc) (C:=Tryz.checked) false (wits os) wargs (World.laidAll_os _ _ _) (by kernel_rfl) (by kernel_rfl) (by kernel_rfl)
   (OpenSpec.preRow_of_cond 8 hx (by kernel_rfl) (fun k hk=>by cases hk;kernel_rfl) (by kernel_rfl) (by rw[MakeChecks.laidMetH_plain _ _ _ (by kernel_rfl)];exact laid_met os))) ?_
 intro W base args ds gs before hval hW _ hk _ hL hsh _;exact contract H enc W base args ds gs before hval hW (hk _ rfl) hL hsh
theorem and2{a b:Bool}(h:a=true)(g:b=true):(a&&b)=true:=by rw[h,g];rfl
set_option maxRecDepth 100000 in
theorem closed :joinedFacts Tryz.prog 4 Tryz.f4 (Rows.OpenSpec.upto Rows.chunkTightSpec).bare Rows.chunkTightUptoRow=true:=
 (and2 (and2 (and2 (and2 (and2 (and2 (and2 (and2 (and2 (and2 (and2 (and2 (and2 (and2 (and2 (and2 (and2 (and2 (and2 (and2 (and2 (and2 (and2 (and2 (and2 (and2 (and2 (and2 (and2 (and2 (and2 k0 k1) k2) k3) k4) k5) k6) k7) k8) k9) k10) k11) k12) k13) k14) k15) k16) k17) k18) k19) k20) k21) k22) k23) k24) k25) k26) k27) k28) k29) k30) k31)
theorem saidUpto :Rows.ChunkTightUptoSaid:=
 OpenClaim.holds_of_cond 4 Tryz.f4 rfl rfl rfl rfl rfl rfl rfl ⟨rfl,rfl,rfl,rfl,rfl⟩ rfl rfl rfl rfl rfl (by kernel_rfl) Tryz.func4 closed
  (of_decide_eq_true (by kernel_rfl)) (by unfold Func.isWrapper;first|(rw[if_pos (by decide+kernel)];kernel_rfl)|(rw[if_neg (by decide+kernel)];exact⟨rfl,rfl⟩))
  (fun os started H enc _ F=>by rw[OpenClaim.pre_eq_preRow];exact liftedUpto os started H enc F)
end Go.Proofs.YtjadpdncjnokbaaGreatDoor.fnChunkTight
