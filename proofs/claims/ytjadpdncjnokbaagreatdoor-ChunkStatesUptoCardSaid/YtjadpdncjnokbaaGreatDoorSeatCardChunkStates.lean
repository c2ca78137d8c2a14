/- ChunkStates: for all fills and every index that together hold at most 1048576 values, the law returns true and leaves its arguments alone; the package-level variables begin as the program's text lays them. -/
import Derived.Test.YtjadpdncjnokbaaGreatDoorSeatRoot
import Derived.Test.YtjadpdncjnokbaaGreatDoorFnS
import Derived.Test.YtjadpdncjnokbaaGreatDoorSeatFactChunkStates
import Derived.Deep.DeepHandedRow
import Derived.Deep.DeepWitnessRowRef
set_option linter.all false
namespace Go.Proofs.YtjadpdncjnokbaaGreatDoor.fnChunkStates
open Go.ChangeShapes Go.WideShapes Go.ChangeAt Go.ChangeMaps Go.RowKit Go.Ax Go.Lx Go.Cis
set_option maxRecDepth 100000
theorem law(W:World)(hT:LaidW W)(x0:Int)(vm:Value)(nums:List Int)(hm:Fa W vm (nums.map (Value.int .i64)))(hr:∀x∈nums,-9223372036854775808≤x∧x≤9223372036854775807):
  Calls Tryz.prog 5 #[vm,.int .i64 x0] W fun r W'=>r=.returned (.bool true)∧Below W.heap.size W W':=by
 obtain⟨qs,ms,z,e,inOk,start⟩:=hT.begin hm;have a:=Zkl Zmw (f:=5) (fn:=Tryz.f5) Tryz.func5 (by kernel_rfl) (by kernel_rfl) inOk
  (args:=[z,.int .i64 x0]) (args':=[vm,.int .i64 x0])
  (.cons (WQ e) (.cons (.int _ _) .nil))
  (P:=[SlR 1 z (nums.map fun x=>[Value.int .i64 x]),Ro 0 G5,RoN 0 Cs,Top])
  start
  (Q:=fun v=>v=.bool true)
  (Zjo [] _ x0 z nums (fun x hx=>by have:=hr x hx;simp only[InR];omega) (.tail _ (.head _)) (.tail _ (.tail _ (.head _))) (.tail _ (.tail _ (.tail _ (.head _)))) (.head _))
 refine a.mono fun r W' ⟨v,v',i',hv,hr,hvr,hb⟩=>?_;subst hv;cases hvr;exact⟨hr,hb⟩
theorem contract(H:Type)(enc:TypeId×Value→H)(W:World)(base:Nat)(args:Array Value)(ds gs:List (DataW H))(before:List MemPlace)
  (hval:∀(j:Nat) t v,Tryz.f5.params[j]? =some t→args[j]? =some v→Value.okWide Tryz.prog W .any base t v)
  (hW:DataW.Whole enc Tryz.prog Tryz.f5.params.toList Rows.chunkStatesSpec.vars false W args.toList ds gs before) (hk:Rows.uptoSmall H (ds++gs)=true)
  (hL:laidMetH Tryz.prog Rows.chunkStatesUptoRow.laid W) (hsh:W.ShapedOpen Tryz.prog):
  Calls Tryz.prog 5 args W fun e W'=>∃v,e=.returned v∧Rows.chunkStatesSpec.post enc Tryz.prog Tryz.f5 false true false false W args v W':=by
 have hW':=hW;obtain⟨p,q,hA0,hV,rfl,hfz,hnd⟩:=hW;have hA:DataW.TrodAll enc Tryz.prog W 0 (fun _=>true) true Tryz.f5.params.toList args.toList ds p:=hA0;rw[Tryz.params5]at hA hval;obtain⟨v0,vs0,d0,ds0,p0,q0,hargs,rfl,rfl,h0,r0⟩:=trodAll_cons hA;obtain⟨v1,vs1,d1,ds1,p1,q1,rfl,rfl,rfl,h1,r1⟩:=trodAll_cons r0;obtain⟨rfl,rfl,rfl⟩:=trodAll_nil r1;obtain rfl:args= #[v0,v1]:=by cases args;simp_all
 obtain⟨rfl,rfl⟩:=trodVars_none hV;obtain⟨k,rfl,rfl,rfl,wk⟩:=open_int Tryz.underlying3 (hval 1 3 v1 rfl rfl) h1;have hv0:=hval 0 45 v0 rfl rfl;obtain⟨nums,m1,m2⟩:=slice_in hv0 h0;clear hA0;simp only[List.append_nil]at hW';have hT:=laidW_of hL;have hlt:∀x∈p0,x.block<W.heap.size:=fun x hx=>hW'.lt x (by simp[hx]);refine(law W hT k v0 nums m1 m2).mono fun r W' ⟨he,hb⟩=>?_;subst he;exact⟨_,rfl,_,_,_,[],_,[],hW',trodAll_mk1 (shut_bool Tryz.underlying4 _),trodAll_cons_mk (Below.trod laidOut (by kernel_rfl) (of_decide_eq_true (by kernel_rfl)) h0 hb hlt) (trodAll_cons_mk (shut_int Tryz.underlying3 wk) trodAll_mk0),rfl,hb.frame _,fun h=>by cases h⟩
noncomputable def wits(os:Os):World:=World.laidAll Tryz.prog os Rows.chunkStatesUptoRow.laid
def wargs :Array Value:= #[.slice none 0 0,.int .i64 0]
theorem laid_met(os:Os):laidMet Tryz.prog Rows.chunkStatesUptoRow.laid ((wits os).forCall (fun _ _=>0) ⟨#[],wargs,[]⟩).memory:=
 laidMet_laidAll wargs (by kernel_rfl) (by kernel_rfl)
theorem reads(os:Os){H:Type}(enc:TypeId×Value→H):∃places,DataW.whole enc Tryz.prog ((wits os).forCall (fun _ _=>0) ⟨#[],wargs,[]⟩).memory Tryz.f5.params.toList Rows.chunkStatesSpec.vars false wargs.toList 8=some ([.nil,.lit (.int .i64 0)],[],places):=
 ⟨[],by kernel_rfl⟩
set_option maxRecDepth 100000 in
theorem liftedUpto(os:Os)(started:os.Started)(H:Type)(enc:TypeId×Value→H)(F:Stop.Interp):
  ReturnsInHanded {} Tryz.checked os 5 .any ((Rows.OpenSpec.upto Rows.chunkStatesSpec).preRow enc Tryz.prog Tryz.f5 Rows.chunkStatesUptoRow.domain false Rows.chunkStatesUptoRow.laid) (((Rows.OpenSpec.upto Rows.chunkStatesSpec).at F).post enc Tryz.prog Tryz.f5 false true false false):=by
 obtain⟨places,hx⟩:=reads os enc;refine returnsInHanded_of_row (C:=Tryz.checked) (s:=Rows.OpenSpec.upto Rows.chunkStatesSpec) own started (by kernel_rfl) Tryz.func5
  (witness_row_atRef (enc:=enc) (C:=Tryz.checked) false (wits os) wargs (World.laidAll_os _ _ _) (by kernel_rfl) (by kernel_rfl) (by kernel_rfl)
   (OpenSpec.preRow_of_cond 8 hx (by kernel_rfl) (fun k hk=>by cases hk;kernel_rfl) (by kernel_rfl) (by rw[MakeChecks.laidMetH_plain _ _ _ (by kernel_rfl)];exact laid_met os))) ?_
 intro W base args ds gs before hval hW _ hk _ hL hsh _;exact contract H enc W base args ds gs before hval hW (hk _ rfl) hL hsh
theorem and2{a b:Bool}(h:a=true)(g:b=true):(a&&b)=true:=by rw[h,g];rfl
set_option maxRecDepth 100000 in
theorem closed :joinedFacts Tryz.prog 5 Tryz.f5 (Rows.OpenSpec.upto Rows.chunkStatesSpec).bare Rows.chunkStatesUptoRow=true:=
 (and2 (and2 (and2 (and2 (and2 (and2 (and2 (and2 (and2 (and2 (and2 (and2 (and2 (and2 (and2 (and2 (and2 (and2 (and2 (and2 (and2 (and2 (and2 (and2 (and2 (and2 (and2 (and2 (and2 (and2 (and2 k0 k1) k2) k3) k4) k5) k6) k7) k8) k9) k10) k11) k12) k13) k14) k15) k16) k17) k18) k19) k20) k21) k22) k23) k24) k25) k26) k27) k28) k29) k30) k31)
theorem saidUpto :Rows.ChunkStatesUptoSaid:=
 OpenClaim.holds_of_cond 5 Tryz.f5 rfl rfl rfl rfl rfl rfl rfl ⟨rfl,rfl,rfl,rfl,rfl⟩ rfl rfl rfl rfl rfl (by kernel_rfl) Tryz.func5 closed
  (of_decide_eq_true (by kernel_rfl)) (by unfold Func.isWrapper;first|(rw[if_pos (by decide+kernel)];kernel_rfl)|(rw[if_neg (by decide+kernel)];exact⟨rfl,rfl⟩))
  (fun os started H enc _ F=>by rw[OpenClaim.pre_eq_preRow];exact liftedUpto os started H enc F)
end Go.Proofs.YtjadpdncjnokbaaGreatDoor.fnChunkStates
