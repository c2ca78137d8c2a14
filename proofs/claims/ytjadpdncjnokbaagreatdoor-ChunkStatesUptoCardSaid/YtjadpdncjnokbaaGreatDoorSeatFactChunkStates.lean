/- ChunkStates: the closed facts that its row asks of the program. -/
import Derived.Test.YtjadpdncjnokbaaGreatDoorRows
import Derived.JoinedOf
import Derived.KernelRfl
set_option linter.all false
namespace Go.Proofs.YtjadpdncjnokbaaGreatDoor.fnChunkStates
def all1(p:OpenClaim→ChangeSpec→Program→FuncId→Func→Bool):Prop:=p Rows.chunkStatesUptoRow (Rows.OpenSpec.upto Rows.chunkStatesSpec).bare Tryz.prog 5 Tryz.f5=true
theorem k0 :all1 fun c s P f fn=>c.wf (OpenSpec.ofChange s):=by
 unfold all1;kernel_rfl
theorem k1 :all1 fun c s P f fn=>laidOutB P:=by
 unfold all1;kernel_rfl
theorem k2 :all1 fun c s P f fn=>mapsRowed P:=by
 unfold all1;kernel_rfl
theorem k3 :all1 fun c s P f fn=>fn.params.all (P.readableRec ·):=by
 unfold all1;kernel_rfl
theorem k4 :all1 fun c s P f fn=>namedTie P c.named s.vars:=by
 unfold all1;kernel_rfl
theorem k5 :all1 fun c s P f fn=>(c.stops==[]):=by
 unfold all1;kernel_rfl
theorem k6 :all1 fun c s P f fn=>(P.stops==[]):=by
 unfold all1;kernel_rfl
theorem k7 :all1 fun c s P f fn=>(c.knobs==[]):=by
 unfold all1;kernel_rfl
theorem k8 :all1 fun c s P f fn=>(P.stopKnobs==[]):=by
 unfold all1;kernel_rfl
theorem k9 :all1 fun c s P f fn=>(c.inPlace==P.inPlace f):=by
 unfold all1;kernel_rfl
theorem k10 :all1 fun c s P f fn=>(c.unfollowed==P.unfollowed f):=by
 unfold all1;kernel_rfl
theorem k11 :all1 fun c s P f fn=>(c.recurses==P.recurses f):=by
 unfold all1;kernel_rfl
theorem k12 :all1 fun c s P f fn=>(c.named==P.varsNamed f):=by
 unfold all1;kernel_rfl
theorem k13 :all1 fun c s P f fn=>(c.maps==(fn.params.toList++s.plain.varTypes P).any (P.mapsRec ·)):=by
 unfold all1;kernel_rfl
theorem k14 :all1 fun c s P f fn=>(c.ifaces==(fn.params.toList++s.plain.varTypes P).any (P.ifacesRec ·)):=by
 unfold all1;kernel_rfl
theorem k15 :all1 fun c s P f fn=>(c.mapsOut==P.mapsAmong fn.resultTypes.toList):=by
 unfold all1;kernel_rfl
theorem k16 :all1 fun c s P f fn=>(c.loops==(fn.params.toList++s.plain.varTypes P).any (P.loopsFrom ·)):=by
 unfold all1;kernel_rfl
theorem k17 :all1 fun c s P f fn=>(c.wideKeys==(fn.params.toList++s.plain.varTypes P++fn.resultTypes.toList).any (P.wideKeysFrom ·)):=by
 unfold all1;kernel_rfl
theorem k18 :all1 fun c s P f fn=>s.vars.all (P.varReadable ·):=by
 unfold all1;kernel_rfl
theorem k19 :all1 fun c s P f fn=>fn.resultTypes.all (fun t=>P.readableRec t&&decide (t<P.types.size)):=by
 unfold all1;kernel_rfl
theorem k20 :all1 fun c s P f fn=>(c.ifacesOut==fn.resultTypes.toList.any (P.ifacesRec ·)):=by
 unfold all1;kernel_rfl
theorem k21 :all1 fun c s P f fn=>(c.loopsOut==fn.resultTypes.toList.any (P.loopsFrom ·)):=by
 unfold all1;kernel_rfl
theorem k22 :all1 fun c s P f fn=>(c.plainKeys==P.plainKeys):=by
 unfold all1;kernel_rfl
theorem k23 :all1 fun c s P f fn=>c.shortTexts.isNone:=by
 unfold all1;kernel_rfl
theorem k24 :all1 fun c s P f fn=>P.stopsHeard:=by
 unfold all1;kernel_rfl
theorem k25 :all1 fun c s P f fn=>P.mayEnter:=by
 unfold all1;kernel_rfl
theorem k26 :all1 fun c s P f fn=>(c.lifted==P.liftsFinal):=by
 unfold all1;kernel_rfl
theorem k27 :all1 fun c s P f fn=>(P.make==some c.make):=by
 unfold all1;kernel_rfl
theorem k28 :all1 fun c s P f fn=>(c.kinds==(if c.domain.isEmpty then []else fn.params.toList.map fun t=>match P.underlying t with|some (.int k)=>some k|_=>none)):=by
 unfold all1;kernel_rfl
theorem k29 :all1 fun c s P f fn=>(c.pinned==c.pinnedBy):=by
 unfold all1;kernel_rfl
theorem k30 :all1 fun c s P f fn=>(c.veiled==(fn.params.toList++s.plain.varTypes P++fn.resultTypes.toList).any (P.veiledRec ·)):=by
 unfold all1;kernel_rfl
theorem k31 :all1 fun c s P f fn=>c.veiledFits P fn.params.toList (fn.params.toList++s.plain.varTypes P++fn.resultTypes.toList):=by
 unfold all1;kernel_rfl
end Go.Proofs.YtjadpdncjnokbaaGreatDoor.fnChunkStates
