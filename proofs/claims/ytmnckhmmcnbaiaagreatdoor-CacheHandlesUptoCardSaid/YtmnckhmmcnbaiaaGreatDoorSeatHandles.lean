/- CacheHandles: the law's code, run by the machine, its loop for whatever list. -/
import Derived.Test.YtmnckhmmcnbaiaaGreatDoorSeatH1
import Derived.Test.YtmnckhmmcnbaiaaGreatDoorSeatKiA
set_option linter.unusedSimpArgs false
set_option linter.unusedVariables false
namespace Go.Proofs
open Go Go.RowKit Go.Ax
noncomputable section
def kDoH : List Value → AS → R := memoP [kn2, ki1] (codeH 11)
theorem kDoH_ok : POk Tryz.prog 11 kDoH := memoP_ok (SE20_calls 100000 200) (codeH_ok 11) _ (fun m hm => by
  simp only [List.mem_cons, List.mem_nil_iff, or_false] at hm
  rcases hm with rfl | rfl
  · exact kn2_ok
  · exact ki1_ok)
def SPrimH : T (List Value → AS → Option (Value × AS)) := ((SPrim20.set 8 kKnown).set 9 kFresh).set 11 kDoH
theorem SPrimH_ok : ∀ f p, SPrimH.get f = some p → POk Tryz.prog f p := prim_set (E := SE20) (prim_set (E := SE20) (prim_set (E := SE20) SE20_prim kKnown_ok) kFresh_ok) kDoH_ok
def SEH : Env := envOf SPrimH
theorem SEH_calls : CallOk Tryz.prog (callA SEH 100000 200) := envOf_calls SPrimH_ok 100000 200
theorem SEH_draw : DrawOk SEH (callA SEH 100000 200) := drawOk (E := SEH) (by kernel_rfl) (envOf_ty _) SEH_calls
def handPre : List (Nat × OS) := [(0, .ro (nbV 64 315684040783403026461198565492879320519372303033823910828724750665742568755751545437592878574175936176031276695822391845783248645128493468529036736594176) 64),
    (1005, .cells [.slice (some ⟨1085, 0, none⟩) 296 593, .slice none 0 0, .bool false, .bool false, .int .i64 (.ofNat 0)] 5 84934656),
    (1010, .cells [.pointer (some ⟨1018, 0, none⟩)] 1 0),
    (1012, .cells [.int .i64 (.ofNat 120), .int .i64 (.ofNat 160), .int .i64 (.ofNat 14), .int .i64 (.ofNat 3), .float .f64 4607182418800017408, .float .f64 4611686018427387904, .float .f64 4621819117588971520, .pointer (some ⟨1005, 0, none⟩), .pointer (some ⟨1015, 0, none⟩), .pointer (some ⟨1639, 0, none⟩), .slice (some ⟨1010, 0, none⟩) 1 3, .int .i64 (.ofNat 0)] 12 45088768),
    (1014, .map []),
    (1015, .cells [.map (some 1014), .int .i64 (.ofNat 0), .string .empty, .slice none 0 0, .int .i64 (.ofNat 0)] 5 96468992),
    (1016, .cells [.int .i64 (.ofNat 1), .int .i64 (.ofNat 2), .int .i64 (.ofNat 0), .int .i64 (.ofNat 1), .slice none 0 0, .slice none 0 0] 6 0),
    (1017, .cells [.slice (some ⟨1016, 0, none⟩) 1 3, .int .i64 (.ofNat 2)] 2 166723584),
    (1018, .cells [.pointer (some ⟨1017, 0, none⟩), .slice none 0 0, .int .i64 (.ofNat 0), .int .i64 (.ofNat 0), .int .i64 (.ofNat 0), .int .i64 (.ofNat 0), .int .i64 (.ofNat 0), .int .i64 (.ofNat 0), .int .i64 (.ofNat 0), .int .i64 (.ofNat 0)] 10 110100480),
    (1085, .cells [.slice (some ⟨1557, 0, none⟩) 256 512, .bool false, .slice (some ⟨1209, 0, none⟩) 256 512, .bool false, .slice (some ⟨3342, 0, none⟩) 256 512, .bool false, .slice (some ⟨3625, 0, none⟩) 256 512, .bool false, .slice (some ⟨3907, 0, none⟩) 256 512, .bool false, .slice none 0 0, .bool false, .slice none 0 0, .bool false, .slice none 0 0, .bool false, .slice none 0 0, .bool false, .slice none 0 0, .bool false, .slice none 0 0, .bool false, .slice none 0 0, .bool false, .slice none 0 0, .bool false, .slice none 0 0, .bool false, .slice none 0 0, .bool false, .slice none 0 0, .bool false, .slice none 0 0, .bool false, .slice none 0 0, .bool false, .slice none 0 0, .bool false, .slice none 0 0, .bool false, .slice none 0 0, .bool false, .slice none 0 0, .bool false, .slice none 0 0, .bool false, .slice none 0 0, .bool false, .slice none 0 0, .bool false, .slice none 0 0, .bool false, .slice none 0 0, .bool false, .slice none 0 0, .bool false, .slice none 0 0, .bool false, .slice none 0 0, .bool false, .slice none 0 0, .bool false, .slice none 0 0, .bool false, .slice none 0 0, .bool false, .slice none 0 0, .bool false, .slice none 0 0, .bool false, .slice none 0 0, .bool false, .slice none 0 0, .bool false, .slice none 0 0, .bool false, .slice none 0 0, .bool false, .slice none 0 0, .bool false, .slice none 0 0, .bool false, .slice none 0 0, .bool false, .slice none 0 0, .bool false, .slice none 0 0, .bool false, .slice none 0 0, .bool false, .slice none 0 0, .bool false, .slice none 0 0, .bool false, .slice none 0 0, .bool false, .slice none 0 0, .bool false, .slice none 0 0, .bool false, .slice none 0 0, .bool false, .slice none 0 0, .bool false, .slice none 0 0, .bool false, .slice none 0 0, .bool false, .slice none 0 0, .bool false, .slice none 0 0, .bool false, .slice none 0 0, .bool false, .slice none 0 0, .bool false, .slice none 0 0, .bool false, .slice none 0 0, .bool false, .slice none 0 0, .bool false, .slice none 0 0, .bool false, .slice none 0 0, .bool false, .slice none 0 0, .bool false, .slice none 0 0, .bool false, .slice none 0 0, .bool false, .slice none 0 0, .bool false, .slice none 0 0, .bool false, .slice none 0 0, .bool false, .slice none 0 0, .bool false, .slice none 0 0, .bool false, .slice none 0 0, .bool false, .slice none 0 0, .bool false, .slice none 0 0, .bool false, .slice none 0 0, .bool false, .slice none 0 0, .bool false, .slice none 0 0, .bool false, .slice none 0 0, .bool false, .slice none 0 0, .bool false, .slice none 0 0, .bool false, .slice none 0 0, .bool false, .slice none 0 0, .bool false, .slice none 0 0, .bool false, .slice none 0 0, .bool false, .slice none 0 0, .bool false, .slice none 0 0, .bool false, .slice none 0 0, .bool false, .slice none 0 0, .bool false, .slice none 0 0, .bool false, .slice none 0 0, .bool false, .slice none 0 0, .bool false, .slice none 0 0, .bool false, .slice none 0 0, .bool false, .slice none 0 0, .bool false, .slice none 0 0, .bool false, .slice none 0 0, .bool false, .slice none 0 0, .bool false, .slice none 0 0, .bool false, .slice none 0 0, .bool false, .slice none 0 0, .bool false, .slice none 0 0, .bool false, .slice none 0 0, .bool false, .slice none 0 0, .bool false, .slice none 0 0, .bool false, .slice none 0 0, .bool false, .slice none 0 0, .bool false, .slice none 0 0, .bool false, .slice none 0 0, .bool false, .slice none 0 0, .bool false, .slice none 0 0, .bool false, .slice none 0 0, .bool false, .slice none 0 0, .bool false, .slice none 0 0, .bool false, .slice none 0 0, .bool false, .slice none 0 0, .bool false, .slice none 0 0, .bool false, .slice none 0 0, .bool false, .slice none 0 0, .bool false, .slice none 0 0, .bool false, .slice none 0 0, .bool false, .slice none 0 0, .bool false, .slice none 0 0, .bool false, .slice none 0 0, .bool false, .slice none 0 0, .bool false, .slice none 0 0, .bool false, .slice none 0 0, .bool false, .slice none 0 0, .bool false, .slice none 0 0, .bool false, .slice none 0 0, .bool false, .slice none 0 0, .bool false, .slice none 0 0, .bool false, .slice none 0 0, .bool false, .slice none 0 0, .bool false, .slice none 0 0, .bool false, .slice none 0 0, .bool false, .slice none 0 0, .bool false, .slice none 0 0, .bool false, .slice none 0 0, .bool false, .slice none 0 0, .bool false, .slice none 0 0, .bool false, .slice none 0 0, .bool false, .slice none 0 0, .bool false, .slice none 0 0, .bool false, .slice none 0 0, .bool false, .slice none 0 0, .bool false, .slice none 0 0, .bool false, .slice none 0 0, .bool false, .slice none 0 0, .bool false, .slice none 0 0, .bool false, .slice none 0 0, .bool false, .slice none 0 0, .bool false, .slice none 0 0, .bool false, .slice none 0 0, .bool false, .slice none 0 0, .bool false, .slice none 0 0, .bool false, .slice none 0 0, .bool false, .slice none 0 0, .bool false, .slice none 0 0, .bool false, .slice none 0 0, .bool false, .slice none 0 0, .bool false, .slice none 0 0, .bool false, .slice none 0 0, .bool false, .slice none 0 0, .bool false, .slice none 0 0, .bool false, .slice none 0 0, .bool false, .slice none 0 0, .bool false, .slice none 0 0, .bool false, .slice none 0 0, .bool false, .slice none 0 0, .bool false, .slice none 0 0, .bool false, .slice none 0 0, .bool false, .slice none 0 0, .bool false, .slice none 0 0, .bool false, .slice none 0 0, .bool false, .slice none 0 0, .bool false, .slice none 0 0, .bool false, .slice none 0 0, .bool false, .slice none 0 0, .bool false, .slice none 0 0, .bool false, .slice none 0 0, .bool false, .slice none 0 0, .bool false, .slice none 0 0, .bool false, .slice none 0 0, .bool false, .slice none 0 0, .bool false, .slice none 0 0, .bool false, .slice none 0 0, .bool false, .slice none 0 0, .bool false, .slice none 0 0, .bool false, .slice none 0 0, .bool false, .slice none 0 0, .bool false, .slice none 0 0, .bool false, .slice none 0 0, .bool false, .slice none 0 0, .bool false, .slice none 0 0, .bool false, .slice none 0 0, .bool false, .slice none 0 0, .bool false, .slice none 0 0, .bool false, .slice none 0 0, .bool false, .slice none 0 0, .bool false, .slice none 0 0, .bool false, .slice none 0 0, .bool false, .slice none 0 0, .bool false, .slice none 0 0, .bool false, .slice none 0 0, .bool false, .slice none 0 0, .bool false, .slice none 0 0, .bool false, .slice none 0 0, .bool false, .slice none 0 0, .bool false, .slice none 0 0, .bool false, .slice none 0 0, .bool false, .slice none 0 0, .bool false, .slice none 0 0, .bool false, .slice none 0 0, .bool false, .slice none 0 0, .bool false, .slice none 0 0, .bool false, .slice none 0 0, .bool false, .slice none 0 0, .bool false, .slice none 0 0, .bool false, .slice none 0 0, .bool false, .slice none 0 0, .bool false, .slice none 0 0, .bool false, .slice none 0 0, .bool false, .slice none 0 0, .bool false, .slice none 0 0, .bool false, .slice none 0 0, .bool false, .slice none 0 0, .bool false, .slice none 0 0, .bool false, .slice none 0 0, .bool false, .slice none 0 0, .bool false, .slice none 0 0, .bool false, .slice none 0 0, .bool false, .slice none 0 0, .bool false, .slice none 0 0, .bool false, .slice none 0 0, .bool false, .slice none 0 0, .bool false, .slice none 0 0, .bool false, .slice none 0 0, .bool false, .slice none 0 0, .bool false, .slice none 0 0, .bool false, .slice none 0 0, .bool false, .slice none 0 0, .bool false, .slice none 0 0, .bool false, .slice none 0 0, .bool false, .slice none 0 0, .bool false, .slice none 0 0, .bool false, .slice none 0 0, .bool false, .slice none 0 0, .bool false, .slice none 0 0, .bool false, .slice none 0 0, .bool false, .slice none 0 0, .bool false, .slice none 0 0, .bool false, .slice none 0 0, .bool false, .slice none 0 0, .bool false, .slice none 0 0, .bool false, .slice none 0 0, .bool false, .slice none 0 0, .bool false, .slice none 0 0, .bool false, .slice none 0 0, .bool false, .slice none 0 0, .bool false, .slice none 0 0, .bool false, .slice none 0 0, .bool false, .slice none 0 0, .bool false, .slice none 0 0, .bool false, .slice none 0 0, .bool false, .slice none 0 0, .bool false, .slice none 0 0, .bool false, .slice none 0 0, .bool false, .slice none 0 0, .bool false, .slice none 0 0, .bool false, .slice none 0 0, .bool false, .slice none 0 0, .bool false, .slice none 0 0, .bool false, .slice none 0 0, .bool false, .slice none 0 0, .bool false, .slice none 0 0, .bool false, .slice none 0 0, .bool false, .slice none 0 0, .bool false, .slice none 0 0, .bool false, .slice none 0 0, .bool false, .slice none 0 0, .bool false, .slice none 0 0, .bool false, .slice none 0 0, .bool false, .slice none 0 0, .bool false, .slice none 0 0, .bool false, .slice none 0 0, .bool false, .slice none 0 0, .bool false, .slice none 0 0, .bool false, .slice none 0 0, .bool false, .slice none 0 0, .bool false, .slice none 0 0, .bool false, .slice none 0 0, .bool false, .slice none 0 0, .bool false, .slice none 0 0, .bool false, .slice none 0 0, .bool false, .slice none 0 0, .bool false, .slice none 0 0, .bool false] 592 0),
    (1209, .cells (nbV 256 36022211394028781476208574998112614003043788337930041915042873215028435754663194877271034799520284712) 256 6291458),
    (1324, .map [(.int .i64 (.ofNat 1), .string (nbS 38 254629497173168747932612311867782055743697762709410264378746426286920235276254835814499073)), (.int .i64 (.ofNat 0), .string (nbS 7 50331988))]),
    (1325, .map [(.int .i64 (.ofNat 1), .string (nbS 68 674837069413568931451088160437974111788814773378544498817697658293604630192305401752793634080290622010606068378478830551689310847473726846128678796472485727503617)), (.int .i64 (.ofNat 0), .string (nbS 7 83886420))]),
    (1326, .cells [.pointer (some ⟨1005, 0, none⟩), .pointer (some ⟨1357, 0, none⟩), .int .i64 (.ofNat 120), .int .i64 (.ofNat 160), .int .i64 (.ofNat 2), .int .i64 (.ofNat 1), .map (some 1324), .map (some 1325), .int .i64 (.ofNat 1)] 9 171966464),
    (1357, .cells [.pointer (some ⟨1005, 0, none⟩), .int .i64 (.ofNat 2), .int .i64 (.ofNat 120), .int .i64 (.ofNat 0), .int .i64 (.ofNat 3), .int .i64 (.ofNat 1)] 6 320864256),
    (1557, .cells (nbV 256 28471174262216532360180111922350024101472062107394643145502316986272546805545178737202488193920860200) 256 6291458),
    (1572, .cells [.pointer (some ⟨1326, 0, none⟩), .pointer (some ⟨1626, 0, none⟩), .int .i64 (.ofNat 1), .int .i64 (.ofNat 5), .int .i64 (.ofNat 1)] 5 228589568),
    (1622, .cells [.int .u64 (.ofNat 3), .int .u64 (.ofNat 0), .int .u64 (.ofNat 0)] 3 0),
    (1624, .cells [.int .u64 (.ofNat 0), .int .u64 (.ofNat 0), .int .u64 (.ofNat 0)] 3 0),
    (1626, .cells [.int .i64 (.ofNat 160), .slice (some ⟨1622, 0, none⟩) 3 7, .slice (some ⟨1624, 0, none⟩) 3 7, .int .i64 (.ofNat 0)] 4 349175808),
    (1639, .cells [.int .i64 (.ofNat 120), .int .i64 (.ofNat 160), .int .i64 (.ofNat 14), .int .i64 (.ofNat 3), .float .f64 4607182418800017408, .float .f64 4611686018427387904, .float .f64 4621819117588971520, .pointer (some ⟨1005, 0, none⟩), .pointer (some ⟨1015, 0, none⟩), .pointer (some ⟨1326, 0, none⟩), .pointer (some ⟨1572, 0, none⟩), .pointer (some ⟨1849, 0, none⟩), .pointer (some ⟨2576, 0, none⟩), .pointer (some ⟨2736, 0, none⟩), .pointer (some ⟨2771, 0, none⟩), .pointer (some ⟨2795, 0, none⟩), .int .i64 (.ofNat 1), .int .i64 (.ofNat 0), .int .i64 (.ofNat 2), .int .i64 (.ofNat 2), .int .i64 (.ofNat 2), .int .i64 (.ofNat 2), .int .i64 (.ofNat 2), .int .i64 (.ofNat 2), .int .i64 (.ofNat 2), .int .i64 (.ofNat 2), .map (some 4087), .string .empty, .map none] 29 79691776),
    (1849, .cells [.pointer (some ⟨1572, 0, none⟩)] 1 244318208),
    (2576, .cells [.pointer (some ⟨1572, 0, none⟩), .pointer (some ⟨1005, 0, none⟩), .int .i64 (.ofNat 282), .pointer (some ⟨2713, 0, none⟩), .int .i64 (.ofNat 0)] 5 247463936),
    (2709, .cells [.int .u64 (.ofNat 0)] 1 0),
    (2711, .cells [.int .u64 (.ofNat 0)] 1 0),
    (2713, .cells [.int .i64 (.ofNat 14), .slice (some ⟨2709, 0, none⟩) 1 3, .slice (some ⟨2711, 0, none⟩) 1 3, .int .i64 (.ofNat 0)] 4 349175808),
    (2736, .cells [.pointer (some ⟨1849, 0, none⟩), .pointer (some ⟨2576, 0, none⟩), .pointer (some ⟨1015, 0, none⟩)] 3 254803968),
    (2769, .map []),
    (2771, .cells [.pointer (some ⟨2576, 0, none⟩), .pointer (some ⟨1015, 0, none⟩), .float .f64 4607182418800017408, .float .f64 4611686018427387904, .float .f64 4621819117588971520, .int .i64 (.ofNat 1), .pointer (some ⟨2775, 0, none⟩), .map (some 2769), .int .i64 (.ofNat 0)] 9 190840832),
    (2774, .map []),
    (2775, .cells [.slice none 0 0, .map (some 2774), .int .i64 (.ofNat 0)] 3 299892736),
    (2794, .map []),
    (2795, .cells [.pointer (some ⟨2576, 0, none⟩), .int .i64 (.negSucc 0), .int .i64 (.ofNat 0), .map (some 2794)] 4 261095424),
    (3342, .cells (nbV 256 38999015523639973228455811449741619373361255906305894282697166227866924897961604545480067908160005029746150610772761016381186788454220539334780199697605202772637096155479006448018191894385038594768279607399481430) 256 6291458),
    (3625, .cells (nbV 256 652854797179606690600762331533891150158816756315469641008817545767332377725100059158619602849056689078564120037077149520859116364431275218157373039406020173144799690817845017409086684718166486724551983086762608591969180016870499184017552055893854278526391883094337794167642845769433205) 256 6291458),
    (3907, .cells (nbV 256 52217900258217791622153701399683495410468919664821815945182706706781277385119120690794031096712746955951961525591965141842335349833012624302521581018287717954571864183312374932414231880237383759) 256 6291458),
    (4087, .map [])]
def handC : Code := (Tryz.f3.body).getD .skip
theorem handC_eq : Tryz.f3.body = some handC := by kernel_rfl
def handD : Code := dropS 8 handC
def handR : Code := headS (headS handD)
def handB : Code := bodyB (bodyB (tailS (headS handD)))
def handO1 : Array Oper := opsOf (headS (headS handB))
def handO2 : Array Oper := opsOf (headS (bodyB (headS (tailS handB))))
def handY : Code := tailS (bodyB (headS (tailS handB)))
def handO3 : Array Oper := opsOf (tailS (tailS handB))
theorem handD_eq : dropS 8 handC = .seq (.seq handR (.block 2 (.loop handB))) (dropS 9 handC) := by kernel_rfl
theorem handB_eq : handB = .seq (.seq (.region 17 handO1 false) (.cond (.tmp 69) .skip (.exit 2))) (.seq (.block 3 (.seq (.region 19 handO2 false) handY)) (.region 18 handO3 false)) := by kernel_rfl
theorem handH1 : HeadOps handO1 8 0 62 22 (.ofNat 30) := by
  refine ⟨nthO handO1 0, nthO handO1 1, nthO handO1 2, nthO handO1 3, nthO handO1 4, nthO handO1 5, nthO handO1 6, nthO handO1 7, cTys (nthO handO1 2).op, xTy (nthO handO1 3).op, yTy (nthO handO1 3).op, yTy (nthO handO1 6).op, ?_, ⟨?_, ?_, ?_⟩, ⟨?_, ?_, ?_⟩, ⟨?_, ?_, ?_⟩, ⟨?_, ?_, ?_⟩, ⟨?_, ?_, ?_⟩, ⟨?_, ?_, ?_⟩, ⟨?_, ?_, ?_⟩, ⟨?_, ?_, ?_⟩, ?_⟩ <;> kernel_rfl
theorem handH2 : PickOps handO2 8 0 9 72 8 22 3 46 := by
  refine ⟨nthO handO2 0, nthO handO2 1, nthO handO2 2, nthO handO2 3, nthO handO2 4, nthO handO2 5, nthO handO2 6, nthO handO2 7, nthO handO2 8, xTy (nthO handO2 5).op, yTy (nthO handO2 5).op, xTy (nthO handO2 7).op, yTy (nthO handO2 7).op, ?_, ⟨?_, ?_, ?_⟩, ⟨?_, ?_, ?_⟩, ⟨?_, ?_, ?_⟩, ⟨?_, ?_, ?_⟩, ⟨?_, ?_, ?_⟩, ⟨?_, ?_, ?_⟩, ⟨?_, ?_, ?_⟩, ⟨?_, ?_, ?_⟩, ⟨?_, ?_, ?_⟩⟩ <;> kernel_rfl
theorem handH3 : IncOps handO3 8 70 := by
  refine ⟨nthO handO3 0, nthO handO3 1, nthO handO3 2, xTy (nthO handO3 1).op, yTy (nthO handO3 1).op, ?_, ⟨?_, ?_, ?_⟩, ⟨?_, ?_, ?_⟩, ⟨?_, ?_, ?_⟩⟩ <;> kernel_rfl

def handTl (p : Inp) : List (Nat × Value) := [(0, p.sv), (3, .pointer (some ⟨1012, 0, none⟩))]
theorem hand_a (p : Inp) : codeq SEH (callq SEH 100000 200) 100000 (mkC SEH 172 (takeS 8 handC)) (T.e.fill 0 [p.sv]) (startSt p) (outK handPre 6378 ((handTl p).map (·.1))) = some (.tuple ⟨.int .i64 (xN .nor) :: .bool true :: (handTl p).map (·.2)⟩, z0) := by
  obtain ⟨sv, l⟩ := p
  cases l <;> kernel_rfl
theorem hand_b (p : Inp) : codeq SEH (callq SEH 100000 200) 100000 (mkC SEH 172 handR) (tmL (handTl p)) (stL (p.blocks ++ handPre) 6378) (outK handPre 6378 (((8, iv 0) :: handTl p).map (·.1))) = some (.tuple ⟨.int .i64 (xN .nor) :: .bool true :: ((8, iv 0) :: handTl p).map (·.2)⟩, z0) := by
  obtain ⟨sv, l⟩ := p
  cases l <;> kernel_rfl
theorem hand_y0 (p : Inp) (i : Nat) : codeq SEH (callq SEH 100000 200) 100000 (mkC SEH 172 handY) (tmL ((9, iv (1 + 0)) :: (8, iv i) :: handTl p)) (stL (p.blocks ++ handPre) 6378) (outK handPre 6378 (((8, iv i) :: handTl p).map (·.1))) = some (.tuple ⟨.int .i64 (xN .nor) :: .bool true :: ((8, iv i) :: handTl p).map (·.2)⟩, z0) := by
  obtain ⟨sv, l⟩ := p
  cases l <;> kernel_rfl
theorem hand_y1 (p : Inp) (i : Nat) : codeq SEH (callq SEH 100000 200) 100000 (mkC SEH 172 handY) (tmL ((9, iv (1 + 1)) :: (8, iv i) :: handTl p)) (stL (p.blocks ++ handPre) 6378) (outK handPre 6378 (((8, iv i) :: handTl p).map (·.1))) = some (.tuple ⟨.int .i64 (xN .nor) :: .bool true :: ((8, iv i) :: handTl p).map (·.2)⟩, z0) := by
  obtain ⟨sv, l⟩ := p
  cases l <;> kernel_rfl
theorem hand_y2 (p : Inp) (i : Nat) : codeq SEH (callq SEH 100000 200) 100000 (mkC SEH 172 handY) (tmL ((9, iv (1 + 2)) :: (8, iv i) :: handTl p)) (stL (p.blocks ++ handPre) 6378) (outK handPre 6378 (((8, iv i) :: handTl p).map (·.1))) = some (.tuple ⟨.int .i64 (xN .nor) :: .bool true :: ((8, iv i) :: handTl p).map (·.2)⟩, z0) := by
  obtain ⟨sv, l⟩ := p
  cases l <;> kernel_rfl
theorem hand_y3 (p : Inp) (i : Nat) : codeq SEH (callq SEH 100000 200) 100000 (mkC SEH 172 handY) (tmL ((9, iv (1 + 3)) :: (8, iv i) :: handTl p)) (stL (p.blocks ++ handPre) 6378) (outK handPre 6378 (((8, iv i) :: handTl p).map (·.1))) = some (.tuple ⟨.int .i64 (xN .nor) :: .bool true :: ((8, iv i) :: handTl p).map (·.2)⟩, z0) := by
  obtain ⟨sv, l⟩ := p
  cases l <;> kernel_rfl
theorem hand_y4 (p : Inp) (i : Nat) : codeq SEH (callq SEH 100000 200) 100000 (mkC SEH 172 handY) (tmL ((9, iv (1 + 4)) :: (8, iv i) :: handTl p)) (stL (p.blocks ++ handPre) 6378) (outK handPre 6378 (((8, iv i) :: handTl p).map (·.1))) = some (.tuple ⟨.int .i64 (xN .nor) :: .bool true :: ((8, iv i) :: handTl p).map (·.2)⟩, z0) := by
  obtain ⟨sv, l⟩ := p
  cases l <;> kernel_rfl
theorem hand_y5 (p : Inp) (i : Nat) : codeq SEH (callq SEH 100000 200) 100000 (mkC SEH 172 handY) (tmL ((9, iv (1 + 5)) :: (8, iv i) :: handTl p)) (stL (p.blocks ++ handPre) 6378) (outK handPre 6378 (((8, iv i) :: handTl p).map (·.1))) = some (.tuple ⟨.int .i64 (xN .nor) :: .bool true :: ((8, iv i) :: handTl p).map (·.2)⟩, z0) := by
  obtain ⟨sv, l⟩ := p
  cases l <;> kernel_rfl
theorem hand_y6 (p : Inp) (i : Nat) : codeq SEH (callq SEH 100000 200) 100000 (mkC SEH 172 handY) (tmL ((9, iv (1 + 6)) :: (8, iv i) :: handTl p)) (stL (p.blocks ++ handPre) 6378) (outK handPre 6378 (((8, iv i) :: handTl p).map (·.1))) = some (.tuple ⟨.int .i64 (xN .nor) :: .bool true :: ((8, iv i) :: handTl p).map (·.2)⟩, z0) := by
  obtain ⟨sv, l⟩ := p
  cases l <;> kernel_rfl
theorem hand_y7 (p : Inp) (i : Nat) : codeq SEH (callq SEH 100000 200) 100000 (mkC SEH 172 handY) (tmL ((9, iv (1 + 7)) :: (8, iv i) :: handTl p)) (stL (p.blocks ++ handPre) 6378) (outK handPre 6378 (((8, iv i) :: handTl p).map (·.1))) = some (.tuple ⟨.int .i64 (xN .nor) :: .bool true :: ((8, iv i) :: handTl p).map (·.2)⟩, z0) := by
  obtain ⟨sv, l⟩ := p
  cases l <;> kernel_rfl
theorem hand_y (p : Inp) (i r : Nat) (hr : r < 8) : codeq SEH (callq SEH 100000 200) 100000 (mkC SEH 172 handY) (tmL ((9, iv (1 + r)) :: (8, iv i) :: handTl p)) (stL (p.blocks ++ handPre) 6378) (outK handPre 6378 (((8, iv i) :: handTl p).map (·.1))) = some (.tuple ⟨.int .i64 (xN .nor) :: .bool true :: ((8, iv i) :: handTl p).map (·.2)⟩, z0) := by
  have : r = 0 ∨ r = 1 ∨ r = 2 ∨ r = 3 ∨ r = 4 ∨ r = 5 ∨ r = 6 ∨ r = 7 := by omega
  rcases this with rfl | rfl | rfl | rfl | rfl | rfl | rfl | rfl
  · exact hand_y0 p i
  · exact hand_y1 p i
  · exact hand_y2 p i
  · exact hand_y3 p i
  · exact hand_y4 p i
  · exact hand_y5 p i
  · exact hand_y6 p i
  · exact hand_y7 p i
theorem hand_z (p : Inp) (i : Nat) : codeq SEH (callq SEH 100000 200) 100000 (mkC SEH 172 (dropS 9 handC)) (tmL ((8, iv i) :: handTl p)) (stL (p.blocks ++ handPre) 6378) (outK [] 6378 ([((2 : Nat), Value.bool true)].map (·.1))) = some (.tuple ⟨.int .i64 (xN .ret) :: .bool true :: [((2 : Nat), Value.bool true)].map (·.2)⟩, z0) := by
  obtain ⟨sv, l⟩ := p
  cases l <;> kernel_rfl
end
end Go.Proofs
