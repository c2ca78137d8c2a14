/- CacheDown: the law's code, run by the machine, its loop for whatever list. -/
import Derived.Test.YtmnckhmmcnbaiaaGreatDoorSeatBegin
import Derived.Test.YtmnckhmmcnbaiaaGreatDoorSeatKdA
import Derived.Test.YtmnckhmmcnbaiaaGreatDoorSeatKdB
set_option linter.unusedSimpArgs false
set_option linter.unusedVariables false
namespace Go.Proofs
open Go Go.RowKit Go.Ax
noncomputable section
def kDoD : List Value → AS → R := memoP [kd2, kd3, kd5] (code20 11)
theorem kDoD_ok : POk Tryz.prog 11 kDoD := memoP_ok (SE20_calls 100000 200) (code20_ok 11) _ (fun m hm => by
  simp only [List.mem_cons, List.mem_nil_iff, or_false] at hm
  rcases hm with rfl | rfl | rfl
  · exact kd2_ok
  · exact kd3_ok
  · exact kd5_ok)
def kMountD : List Value → AS → R := memoP [kd4] (code20 15)
theorem kMountD_ok : POk Tryz.prog 15 kMountD := memoP_ok (SE20_calls 100000 200) (code20_ok 15) _ (fun m hm => by
  simp only [List.mem_cons, List.mem_nil_iff, or_false] at hm
  subst hm
  exact kd4_ok)
def SPrimD : T (List Value → AS → Option (Value × AS)) := (((SPrim20.set 8 kKnown).set 9 kFresh).set 11 kDoD).set 15 kMountD
theorem SPrimD_ok : ∀ f p, SPrimD.get f = some p → POk Tryz.prog f p := prim_set (E := SE20) (prim_set (E := SE20) (prim_set (E := SE20) (prim_set (E := SE20) SE20_prim kKnown_ok) kFresh_ok) kDoD_ok) kMountD_ok
def SED : Env := envOf SPrimD
theorem SED_calls : CallOk Tryz.prog (callA SED 100000 200) := envOf_calls SPrimD_ok 100000 200
theorem SED_draw : DrawOk SED (callA SED 100000 200) := drawOk (E := SED) (by kernel_rfl) (envOf_ty _) SED_calls
def downPre : List (Nat × OS) := [(0, .ro (nbV 64 315684040783403026461198565492879320519372303033823910828724750665742568755751545437592878574175936176031276695822391845783248645128493468529036736594176) 64),
    (1005, .cells [.slice (some ⟨1085, 0, none⟩) 296 593, .slice none 0 0, .bool true, .bool true, .int .i64 (.ofNat 0)] 5 84934656),
    (1010, .cells [.pointer (some ⟨1018, 0, none⟩)] 1 0),
    (1012, .cells [.int .i64 (.ofNat 120), .int .i64 (.ofNat 160), .int .i64 (.ofNat 14), .int .i64 (.ofNat 3), .float .f64 4607182418800017408, .float .f64 4611686018427387904, .float .f64 4621819117588971520, .pointer (some ⟨1005, 0, none⟩), .pointer (some ⟨1015, 0, none⟩), .pointer (some ⟨1639, 0, none⟩), .slice (some ⟨1010, 0, none⟩) 1 3, .int .i64 (.ofNat 0)] 12 45088768),
    (1014, .map []),
    (1015, .cells [.map (some 1014), .int .i64 (.ofNat 0), .string .empty, .slice none 0 0, .int .i64 (.ofNat 0)] 5 96468992),
    (1016, .cells [.int .i64 (.ofNat 1), .int .i64 (.ofNat 2), .int .i64 (.ofNat 0), .int .i64 (.ofNat 1), .slice none 0 0, .slice none 0 0] 6 0),
    (1017, .cells [.slice (some ⟨1016, 0, none⟩) 1 3, .int .i64 (.ofNat 2)] 2 166723584),
    (1018, .cells [.pointer (some ⟨1017, 0, none⟩), .slice none 0 0, .int .i64 (.ofNat 0), .int .i64 (.ofNat 0), .int .i64 (.ofNat 0), .int .i64 (.ofNat 0), .int .i64 (.ofNat 0), .int .i64 (.ofNat 0), .int .i64 (.ofNat 0), .int .i64 (.ofNat 0)] 10 110100480),
    (1085, .cells [.slice (some ⟨1557, 0, none⟩) 256 512, .bool false, .slice (some ⟨1209, 0, none⟩) 256 512, .bool false, .slice (some ⟨3342, 0, none⟩) 256 512, .bool false, .slice (some ⟨3625, 0, none⟩) 256 512, .bool false, .slice (some ⟨3907, 0, none⟩) 256 512, .bool false, .slice (some ⟨6655, 0, none⟩) 256 512, .bool false, .slice (some ⟨6938, 0, none⟩) 256 512, .bool false, .slice (some ⟨7220, 0, none⟩) 256 512, .bool false, .slice none 0 0, .bool false, .slice none 0 0, .bool false, .slice none 0 0, .bool false, .slice none 0 0, .bool false, .slice none 0 0, .bool false, .slice none 0 0, .bool false, .slice none 0 0, .bool false, .slice none 0 0, .bool false, .slice none 0 0, .bool false, .slice none 0 0, .bool false, .slice none 0 0, .bool false, .slice none 0 0, .bool false, .slice none 0 0, .bool false, .slice none 0 0, .bool false, .slice none 0 0, .bool false, .slice none 0 0, .bool false, .slice none 0 0, .bool false, .slice none 0 0, .bool false, .slice none 0 0, .bool false, .slice none 0 0, .bool false, .slice none 0 0, .bool false, .slice none 0 0, .bool false, .slice none 0 0, .bool false, .slice none 0 0, .bool false, .slice none 0 0, .bool false, .slice none 0 0, .bool false, .slice none 0 0, .bool false, .slice none 0 0, .bool false, .slice none 0 0, .bool false, .slice none 0 0, .bool false, .slice none 0 0, .bool false, .slice none 0 0, .bool false, .slice none 0 0, .bool false, .slice none 0 0, .bool false, .slice none 0 0, .bool false, .slice none 0 0, .bool false, .slice none 0 0, .bool false, .slice none 0 0, .bool false, .slice none 0 0, .bool false, .slice none 0 0, .bool false, .slice none 0 0, .bool false, .slice none 0 0, .bool false, .slice none 0 0, .bool false, .slice none 0 0, .bool false, .slice none 0 0, .bool false, .slice none 0 0, .bool false, .slice none 0 0, .bool false, .slice none 0 0, .bool false, .slice none 0 0, .bool false, .slice none 0 0, .bool false, .slice none 0 0, .bool false, .slice none 0 0, .bool false, .slice none 0 0, .bool false, .slice none 0 0, .bool false, .slice none 0 0, .bool false, .slice none 0 0, .bool false, .slice none 0 0, .bool false, .slice none 0 0, .bool false, .slice none 0 0, .bool false, .slice none 0 0, .bool false, .slice none 0 0, .bool false, .slice none 0 0, .bool false, .slice none 0 0, .bool false, .slice none 0 0, .bool false, .slice none 0 0, .bool false, .slice none 0 0, .bool false, .slice none 0 0, .bool false, .slice none 0 0, .bool false, .slice none 0 0, .bool false, .slice none 0 0, .bool false, .slice none 0 0, .bool false, .slice none 0 0, .bool false, .slice none 0 0, .bool false, .slice none 0 0, .bool false, .slice none 0 0, .bool false, .slice none 0 0, .bool false, .slice none 0 0, .bool false, .slice none 0 0, .bool false, .slice none 0 0, .bool false, .slice none 0 0, .bool false, .slice none 0 0, .bool false, .slice none 0 0, .bool false, .slice none 0 0, .bool false, .slice none 0 0, .bool false, .slice none 0 0, .bool false, .slice none 0 0, .bool false, .slice none 0 0, .bool false, .slice none 0 0, .bool false, .slice none 0 0, .bool false, .slice none 0 0, .bool false, .slice none 0 0, .bool false, .slice none 0 0, .bool false, .slice none 0 0, .bool false, .slice none 0 0, .bool false, .slice none 0 0, .bool false, .slice none 0 0, .bool false, .slice none 0 0, .bool false, .slice none 0 0, .bool false, .slice none 0 0, .bool false, .slice none 0 0, .bool false, .slice none 0 0, .bool false, .slice none 0 0, .bool false, .slice none 0 0, .bool false, .slice none 0 0, .bool false, .slice none 0 0, .bool false, .slice none 0 0, .bool false, .slice none 0 0, .bool false, .slice none 0 0, .bool false, .slice none 0 0, .bool false, .slice none 0 0, .bool false, .slice none 0 0, .bool false, .slice none 0 0, .bool false, .slice none 0 0, .bool false, .slice none 0 0, .bool false, .slice none 0 0, .bool false, .slice none 0 0, .bool false, .slice none 0 0, .bool false, .slice none 0 0, .bool false, .slice none 0 0, .bool false, .slice none 0 0, .bool false, .slice none 0 0, .bool false, .slice none 0 0, .bool false, .slice none 0 0, .bool false, .slice none 0 0, .bool false, .slice none 0 0, .bool false, .slice none 0 0, .bool false, .slice none 0 0, .bool false, .slice none 0 0, .bool false, .slice none 0 0, .bool false, .slice none 0 0, .bool false, .slice none 0 0, .bool false, .slice none 0 0, .bool false, .slice none 0 0, .bool false, .slice none 0 0, .bool false, .slice none 0 0, .bool false, .slice none 0 0, .bool false, .slice none 0 0, .bool false, .slice none 0 0, .bool false, .slice none 0 0, .bool false, .slice none 0 0, .bool false, .slice none 0 0, .bool false, .slice none 0 0, .bool false, .slice none 0 0, .bool false, .slice none 0 0, .bool false, .slice none 0 0, .bool false, .slice none 0 0, .bool false, .slice none 0 0, .bool false, .slice none 0 0, .bool false, .slice none 0 0, .bool false, .slice none 0 0, .bool false, .slice none 0 0, .bool false, .slice none 0 0, .bool false, .slice none 0 0, .bool false, .slice none 0 0, .bool false, .slice none 0 0, .bool false, .slice none 0 0, .bool false, .slice none 0 0, .bool false, .slice none 0 0, .bool false, .slice none 0 0, .bool false, .slice none 0 0, .bool false, .slice none 0 0, .bool false, .slice none 0 0, .bool false, .slice none 0 0, .bool false, .slice none 0 0, .bool false, .slice none 0 0, .bool false, .slice none 0 0, .bool false, .slice none 0 0, .bool false, .slice none 0 0, .bool false, .slice none 0 0, .bool false, .slice none 0 0, .bool false, .slice none 0 0, .bool false, .slice none 0 0, .bool false, .slice none 0 0, .bool false, .slice none 0 0, .bool false, .slice none 0 0, .bool false, .slice none 0 0, .bool false, .slice none 0 0, .bool false, .slice none 0 0, .bool false, .slice none 0 0, .bool false, .slice none 0 0, .bool false, .slice none 0 0, .bool false, .slice none 0 0, .bool false, .slice none 0 0, .bool false, .slice none 0 0, .bool false, .slice none 0 0, .bool false, .slice none 0 0, .bool false, .slice none 0 0, .bool false, .slice none 0 0, .bool false, .slice none 0 0, .bool false, .slice none 0 0, .bool false, .slice none 0 0, .bool false, .slice none 0 0, .bool false, .slice none 0 0, .bool false, .slice none 0 0, .bool false, .slice none 0 0, .bool false, .slice none 0 0, .bool false, .slice none 0 0, .bool false, .slice none 0 0, .bool false, .slice none 0 0, .bool false, .slice none 0 0, .bool false, .slice none 0 0, .bool false, .slice none 0 0, .bool false, .slice none 0 0, .bool false, .slice none 0 0, .bool false, .slice none 0 0, .bool false, .slice none 0 0, .bool false, .slice none 0 0, .bool false, .slice none 0 0, .bool false, .slice none 0 0, .bool false, .slice none 0 0, .bool false, .slice none 0 0, .bool false, .slice none 0 0, .bool false, .slice none 0 0, .bool false, .slice none 0 0, .bool false, .slice none 0 0, .bool false, .slice none 0 0, .bool false, .slice none 0 0, .bool false, .slice none 0 0, .bool false, .slice none 0 0, .bool false, .slice none 0 0, .bool false, .slice none 0 0, .bool false, .slice none 0 0, .bool false, .slice none 0 0, .bool false, .slice none 0 0, .bool false, .slice none 0 0, .bool false, .slice none 0 0, .bool false, .slice none 0 0, .bool false, .slice none 0 0, .bool false, .slice none 0 0, .bool false, .slice none 0 0, .bool false, .slice none 0 0, .bool false, .slice none 0 0, .bool false, .slice none 0 0, .bool false, .slice none 0 0, .bool false, .slice none 0 0, .bool false, .slice none 0 0, .bool false, .slice none 0 0, .bool false, .slice none 0 0, .bool false, .slice none 0 0, .bool false, .slice none 0 0, .bool false, .slice none 0 0, .bool false, .slice none 0 0, .bool false, .slice none 0 0, .bool false, .slice none 0 0, .bool false, .slice none 0 0, .bool false, .slice none 0 0, .bool false, .slice none 0 0, .bool false, .slice none 0 0, .bool false, .slice none 0 0, .bool false, .slice none 0 0, .bool false, .slice none 0 0, .bool false, .slice none 0 0, .bool false, .slice none 0 0, .bool false, .slice none 0 0, .bool false, .slice none 0 0, .bool false, .slice none 0 0, .bool false, .slice none 0 0, .bool false, .slice none 0 0, .bool false, .slice none 0 0, .bool false, .slice none 0 0, .bool false, .slice none 0 0, .bool false, .slice none 0 0, .bool false, .slice none 0 0, .bool false, .slice none 0 0, .bool false, .slice none 0 0, .bool false, .slice none 0 0, .bool false, .slice none 0 0, .bool false, .slice none 0 0, .bool false, .slice none 0 0, .bool false, .slice none 0 0, .bool false, .slice none 0 0, .bool false, .slice none 0 0, .bool false, .slice none 0 0, .bool false, .slice none 0 0, .bool false, .slice none 0 0, .bool false, .slice none 0 0, .bool false, .slice none 0 0, .bool false, .slice none 0 0, .bool false, .slice none 0 0, .bool false, .slice none 0 0, .bool false, .slice none 0 0, .bool false, .slice none 0 0, .bool false, .slice none 0 0, .bool false, .slice none 0 0, .bool false, .slice none 0 0, .bool false, .slice none 0 0, .bool false, .slice none 0 0, .bool false, .slice none 0 0, .bool false] 592 0),
    (1209, .cells (nbV 256 36022211394028781476208574998112614003043788337930041915042873215028435754663194877271034799520284712) 256 6291458),
    (1324, .map [(.int .i64 (.ofNat 1), .string (nbS 68 674837069413568931451088160437974111789475829347334747416649573601637401232133806435757915299575270805880474169707834389327845543322423706812688593399229423092993)), (.int .i64 (.ofNat 0), .string (nbS 7 83886420))]),
    (1325, .map []),
    (1326, .cells [.pointer (some ⟨1005, 0, none⟩), .pointer (some ⟨1357, 0, none⟩), .int .i64 (.ofNat 120), .int .i64 (.ofNat 160), .int .i64 (.ofNat 2), .int .i64 (.ofNat 1), .map (some 1324), .map (some 1325), .int .i64 (.ofNat 2)] 9 171966464),
    (1357, .cells [.pointer (some ⟨1005, 0, none⟩), .int .i64 (.ofNat 2), .int .i64 (.ofNat 120), .int .i64 (.ofNat 0), .int .i64 (.ofNat 6), .int .i64 (.ofNat 1)] 6 320864256),
    (1557, .cells (nbV 256 28471174262216532360180111922350024101472062107394643145502316986272546805545178737202488193920860200) 256 6291458),
    (1572, .cells [.pointer (some ⟨1326, 0, none⟩), .pointer (some ⟨1626, 0, none⟩), .int .i64 (.ofNat 1), .int .i64 (.ofNat 5), .int .i64 (.ofNat 1)] 5 228589568),
    (1622, .cells [.int .u64 (.ofNat 3), .int .u64 (.ofNat 0), .int .u64 (.ofNat 0)] 3 0),
    (1624, .cells [.int .u64 (.ofNat 0), .int .u64 (.ofNat 0), .int .u64 (.ofNat 0)] 3 0),
    (1626, .cells [.int .i64 (.ofNat 160), .slice (some ⟨1622, 0, none⟩) 3 7, .slice (some ⟨1624, 0, none⟩) 3 7, .int .i64 (.ofNat 0)] 4 349175808),
    (1639, .cells [.int .i64 (.ofNat 120), .int .i64 (.ofNat 160), .int .i64 (.ofNat 14), .int .i64 (.ofNat 3), .float .f64 4607182418800017408, .float .f64 4611686018427387904, .float .f64 4621819117588971520, .pointer (some ⟨1005, 0, none⟩), .pointer (some ⟨1015, 0, none⟩), .pointer (some ⟨1326, 0, none⟩), .pointer (some ⟨1572, 0, none⟩), .pointer (some ⟨1849, 0, none⟩), .pointer (some ⟨2576, 0, none⟩), .pointer (some ⟨2736, 0, none⟩), .pointer (some ⟨2771, 0, none⟩), .pointer (some ⟨2795, 0, none⟩), .int .i64 (.ofNat 1), .int .i64 (.ofNat 0), .int .i64 (.ofNat 0), .int .i64 (.ofNat 0), .int .i64 (.ofNat 0), .int .i64 (.ofNat 0), .int .i64 (.ofNat 0), .int .i64 (.ofNat 0), .int .i64 (.ofNat 0), .int .i64 (.ofNat 0), .map (some 7490), .string .empty, .map none] 29 79691776),
    (1849, .cells [.pointer (some ⟨1572, 0, none⟩)] 1 244318208),
    (2576, .cells [.pointer (some ⟨1572, 0, none⟩), .pointer (some ⟨1005, 0, none⟩), .int .i64 (.ofNat 282), .pointer (some ⟨2713, 0, none⟩), .int .i64 (.ofNat 0)] 5 247463936),
    (2709, .cells [.int .u64 (.ofNat 0)] 1 0),
    (2711, .cells [.int .u64 (.ofNat 0)] 1 0),
    (2713, .cells [.int .i64 (.ofNat 14), .slice (some ⟨2709, 0, none⟩) 1 3, .slice (some ⟨2711, 0, none⟩) 1 3, .int .i64 (.ofNat 0)] 4 349175808),
    (2736, .cells [.pointer (some ⟨1849, 0, none⟩), .pointer (some ⟨2576, 0, none⟩), .pointer (some ⟨1015, 0, none⟩)] 3 254803968),
    (2769, .map []),
    (2771, .cells [.pointer (some ⟨2576, 0, none⟩), .pointer (some ⟨1015, 0, none⟩), .float .f64 4607182418800017408, .float .f64 4611686018427387904, .float .f64 4621819117588971520, .int .i64 (.ofNat 1), .pointer (some ⟨2775, 0, none⟩), .map (some 2769), .int .i64 (.ofNat 0)] 9 190840832),
    (2774, .map []),
    (2775, .cells [.slice none 0 0, .map (some 2774), .int .i64 (.ofNat 0)] 3 299892736),
    (2794, .map []),
    (2795, .cells [.pointer (some ⟨2576, 0, none⟩), .int .i64 (.negSucc 0), .int .i64 (.ofNat 0), .map (some 2794)] 4 261095424),
    (3342, .cells (nbV 256 38999015523639973228455811449741619373361255906305894282697166227866924897961604545480067908160005029746150610772761016381186788454220539334780199697605202772637096155479006448018191894385038594768279607399481430) 256 6291458),
    (3625, .cells (nbV 256 652854797179606690600762331533891150158816756315469641008817545767332377725100059158619602849056689078564120037077149520859116364431275218157373039406020173144799690817845017409086684718166486724551983086762608591969180016870499184017552055893854278526391883094337794167642845769433205) 256 6291458),
    (3907, .cells (nbV 256 52217900258217791622153701399683495410468919664821815945182706706781277385119120690794031096712746955951961525591965141842335349833012624302521581018287717954571864183312374932414231880237383759) 256 6291458),
    (6655, .cells (nbV 256 36470181918726192120804388943563822051935168141191778686012859851831743806750900091406352759297003190053513365820514678416196089182730609272898361251687851354658347702684219213474441063699060094155201531250540630) 256 6291458),
    (6938, .cells (nbV 256 22023589110382811807888755329676327003358438865564493300254611175571352145369842585650744715969120753725147951600569412310644838669071981449207318916717405573428787797214616212662035630970191116180708101466282185530927753666058478296888056249110317531827567805245808224272419200676095970904000356685908610001842032705693440475643022899792913227768756604829843) 256 6291458),
    (7220, .cells (nbV 256 600099102769601598922681959736252003247824908880586277025838919403698213776563755512967594838578281277681666308526644732840918596391032191400319133922243499820991115383768119343047489682747228239) 256 6291458),
    (7490, .map []),
    (7492, .cells [.int .i64 (.ofNat 0), .int .i64 (.ofNat 0), .string .empty, .slice none 0 0, .slice none 0 0] 5 38797312)]
def downC : Code := (Tryz.f6.body).getD .skip
theorem downC_eq : Tryz.f6.body = some downC := by kernel_rfl
def downD : Code := dropS 8 downC
def downR : Code := headS (headS downD)
def downB : Code := bodyB (bodyB (tailS (headS downD)))
def downO1 : Array Oper := opsOf (headS (headS downB))
def downO2 : Array Oper := opsOf (headS (bodyB (headS (tailS downB))))
def downY : Code := tailS (bodyB (headS (tailS downB)))
def downO3 : Array Oper := opsOf (tailS (tailS downB))
theorem downD_eq : dropS 8 downC = .seq (.seq downR (.block 0 (.loop downB))) (dropS 9 downC) := by kernel_rfl
theorem downB_eq : downB = .seq (.seq (.region 11 downO1 false) (.cond (.tmp 54) .skip (.exit 0))) (.seq (.block 1 (.seq (.region 13 downO2 false) downY)) (.region 12 downO3 false)) := by kernel_rfl
theorem downH1 : HeadOps downO1 9 0 47 22 (.ofNat 40) := by
  refine ⟨nthO downO1 0, nthO downO1 1, nthO downO1 2, nthO downO1 3, nthO downO1 4, nthO downO1 5, nthO downO1 6, nthO downO1 7, cTys (nthO downO1 2).op, xTy (nthO downO1 3).op, yTy (nthO downO1 3).op, yTy (nthO downO1 6).op, ?_, ⟨?_, ?_, ?_⟩, ⟨?_, ?_, ?_⟩, ⟨?_, ?_, ?_⟩, ⟨?_, ?_, ?_⟩, ⟨?_, ?_, ?_⟩, ⟨?_, ?_, ?_⟩, ⟨?_, ?_, ?_⟩, ⟨?_, ?_, ?_⟩, ?_⟩ <;> kernel_rfl
theorem downH2 : PickOps downO2 9 0 10 57 22 22 3 46 := by
  refine ⟨nthO downO2 0, nthO downO2 1, nthO downO2 2, nthO downO2 3, nthO downO2 4, nthO downO2 5, nthO downO2 6, nthO downO2 7, nthO downO2 8, xTy (nthO downO2 5).op, yTy (nthO downO2 5).op, xTy (nthO downO2 7).op, yTy (nthO downO2 7).op, ?_, ⟨?_, ?_, ?_⟩, ⟨?_, ?_, ?_⟩, ⟨?_, ?_, ?_⟩, ⟨?_, ?_, ?_⟩, ⟨?_, ?_, ?_⟩, ⟨?_, ?_, ?_⟩, ⟨?_, ?_, ?_⟩, ⟨?_, ?_, ?_⟩, ⟨?_, ?_, ?_⟩⟩ <;> kernel_rfl
theorem downH3 : IncOps downO3 9 55 := by
  refine ⟨nthO downO3 0, nthO downO3 1, nthO downO3 2, xTy (nthO downO3 1).op, yTy (nthO downO3 1).op, ?_, ⟨?_, ?_, ?_⟩, ⟨?_, ?_, ?_⟩, ⟨?_, ?_, ?_⟩⟩ <;> kernel_rfl

def downTl (p : Inp) (n : Int) : List (Nat × Value) := [(0, p.sv), (1, .int .i64 n), (5, .pointer (some ⟨1012, 0, none⟩)), (7, .pointer (some ⟨7492, 0, none⟩)), (8, iv 4)]
theorem down_a (p : Inp) (n : Int) : codeq SED (callq SED 100000 200) 100000 (mkC SED 133 (takeS 8 downC)) (T.e.fill 0 [p.sv, .int .i64 n]) (startSt p) (outK downPre 7493 ((downTl p n).map (·.1))) = some (.tuple ⟨.int .i64 (xN .nor) :: .bool true :: (downTl p n).map (·.2)⟩, z0) := by
  obtain ⟨sv, l⟩ := p
  cases l <;> kernel_rfl
theorem down_b (p : Inp) (n : Int) : codeq SED (callq SED 100000 200) 100000 (mkC SED 133 downR) (tmL (downTl p n)) (stL (p.blocks ++ downPre) 7493) (outK downPre 7493 (((9, iv 0) :: downTl p n).map (·.1))) = some (.tuple ⟨.int .i64 (xN .nor) :: .bool true :: ((9, iv 0) :: downTl p n).map (·.2)⟩, z0) := by
  obtain ⟨sv, l⟩ := p
  cases l <;> kernel_rfl
theorem down_y0 (p : Inp) (n : Int) (i : Nat) : codeq SED (callq SED 100000 200) 100000 (mkC SED 133 downY) (tmL ((10, iv (1 + 0)) :: (9, iv i) :: downTl p n)) (stL (p.blocks ++ downPre) 7493) (outK downPre 7493 (((9, iv i) :: downTl p n).map (·.1))) = some (.tuple ⟨.int .i64 (xN .nor) :: .bool true :: ((9, iv i) :: downTl p n).map (·.2)⟩, z0) := by
  obtain ⟨sv, l⟩ := p
  cases l <;> kernel_rfl
theorem down_y1 (p : Inp) (n : Int) (i : Nat) : codeq SED (callq SED 100000 200) 100000 (mkC SED 133 downY) (tmL ((10, iv (1 + 1)) :: (9, iv i) :: downTl p n)) (stL (p.blocks ++ downPre) 7493) (outK downPre 7493 (((9, iv i) :: downTl p n).map (·.1))) = some (.tuple ⟨.int .i64 (xN .nor) :: .bool true :: ((9, iv i) :: downTl p n).map (·.2)⟩, z0) := by
  obtain ⟨sv, l⟩ := p
  cases l <;> kernel_rfl
theorem down_y2 (p : Inp) (n : Int) (i : Nat) : codeq SED (callq SED 100000 200) 100000 (mkC SED 133 downY) (tmL ((10, iv (1 + 2)) :: (9, iv i) :: downTl p n)) (stL (p.blocks ++ downPre) 7493) (outK downPre 7493 (((9, iv i) :: downTl p n).map (·.1))) = some (.tuple ⟨.int .i64 (xN .nor) :: .bool true :: ((9, iv i) :: downTl p n).map (·.2)⟩, z0) := by
  obtain ⟨sv, l⟩ := p
  cases l <;> kernel_rfl
theorem down_y3 (p : Inp) (n : Int) (i : Nat) : codeq SED (callq SED 100000 200) 100000 (mkC SED 133 downY) (tmL ((10, iv (1 + 3)) :: (9, iv i) :: downTl p n)) (stL (p.blocks ++ downPre) 7493) (outK downPre 7493 (((9, iv i) :: downTl p n).map (·.1))) = some (.tuple ⟨.int .i64 (xN .nor) :: .bool true :: ((9, iv i) :: downTl p n).map (·.2)⟩, z0) := by
  obtain ⟨sv, l⟩ := p
  cases l <;> kernel_rfl
theorem down_y4 (p : Inp) (n : Int) (i : Nat) : codeq SED (callq SED 100000 200) 100000 (mkC SED 133 downY) (tmL ((10, iv (1 + 4)) :: (9, iv i) :: downTl p n)) (stL (p.blocks ++ downPre) 7493) (outK downPre 7493 (((9, iv i) :: downTl p n).map (·.1))) = some (.tuple ⟨.int .i64 (xN .nor) :: .bool true :: ((9, iv i) :: downTl p n).map (·.2)⟩, z0) := by
  obtain ⟨sv, l⟩ := p
  cases l <;> kernel_rfl
theorem down_y5 (p : Inp) (n : Int) (i : Nat) : codeq SED (callq SED 100000 200) 100000 (mkC SED 133 downY) (tmL ((10, iv (1 + 5)) :: (9, iv i) :: downTl p n)) (stL (p.blocks ++ downPre) 7493) (outK downPre 7493 (((9, iv i) :: downTl p n).map (·.1))) = some (.tuple ⟨.int .i64 (xN .nor) :: .bool true :: ((9, iv i) :: downTl p n).map (·.2)⟩, z0) := by
  obtain ⟨sv, l⟩ := p
  cases l <;> kernel_rfl
theorem down_y6 (p : Inp) (n : Int) (i : Nat) : codeq SED (callq SED 100000 200) 100000 (mkC SED 133 downY) (tmL ((10, iv (1 + 6)) :: (9, iv i) :: downTl p n)) (stL (p.blocks ++ downPre) 7493) (outK downPre 7493 (((9, iv i) :: downTl p n).map (·.1))) = some (.tuple ⟨.int .i64 (xN .nor) :: .bool true :: ((9, iv i) :: downTl p n).map (·.2)⟩, z0) := by
  obtain ⟨sv, l⟩ := p
  cases l <;> kernel_rfl
theorem down_y7 (p : Inp) (n : Int) (i : Nat) : codeq SED (callq SED 100000 200) 100000 (mkC SED 133 downY) (tmL ((10, iv (1 + 7)) :: (9, iv i) :: downTl p n)) (stL (p.blocks ++ downPre) 7493) (outK downPre 7493 (((9, iv i) :: downTl p n).map (·.1))) = some (.tuple ⟨.int .i64 (xN .nor) :: .bool true :: ((9, iv i) :: downTl p n).map (·.2)⟩, z0) := by
  obtain ⟨sv, l⟩ := p
  cases l <;> kernel_rfl
theorem down_y8 (p : Inp) (n : Int) (i : Nat) : codeq SED (callq SED 100000 200) 100000 (mkC SED 133 downY) (tmL ((10, iv (1 + 8)) :: (9, iv i) :: downTl p n)) (stL (p.blocks ++ downPre) 7493) (outK downPre 7493 (((9, iv i) :: downTl p n).map (·.1))) = some (.tuple ⟨.int .i64 (xN .nor) :: .bool true :: ((9, iv i) :: downTl p n).map (·.2)⟩, z0) := by
  obtain ⟨sv, l⟩ := p
  cases l <;> kernel_rfl
theorem down_y9 (p : Inp) (n : Int) (i : Nat) : codeq SED (callq SED 100000 200) 100000 (mkC SED 133 downY) (tmL ((10, iv (1 + 9)) :: (9, iv i) :: downTl p n)) (stL (p.blocks ++ downPre) 7493) (outK downPre 7493 (((9, iv i) :: downTl p n).map (·.1))) = some (.tuple ⟨.int .i64 (xN .nor) :: .bool true :: ((9, iv i) :: downTl p n).map (·.2)⟩, z0) := by
  obtain ⟨sv, l⟩ := p
  cases l <;> kernel_rfl
theorem down_y10 (p : Inp) (n : Int) (i : Nat) : codeq SED (callq SED 100000 200) 100000 (mkC SED 133 downY) (tmL ((10, iv (1 + 10)) :: (9, iv i) :: downTl p n)) (stL (p.blocks ++ downPre) 7493) (outK downPre 7493 (((9, iv i) :: downTl p n).map (·.1))) = some (.tuple ⟨.int .i64 (xN .nor) :: .bool true :: ((9, iv i) :: downTl p n).map (·.2)⟩, z0) := by
  obtain ⟨sv, l⟩ := p
  cases l <;> kernel_rfl
theorem down_y11 (p : Inp) (n : Int) (i : Nat) : codeq SED (callq SED 100000 200) 100000 (mkC SED 133 downY) (tmL ((10, iv (1 + 11)) :: (9, iv i) :: downTl p n)) (stL (p.blocks ++ downPre) 7493) (outK downPre 7493 (((9, iv i) :: downTl p n).map (·.1))) = some (.tuple ⟨.int .i64 (xN .nor) :: .bool true :: ((9, iv i) :: downTl p n).map (·.2)⟩, z0) := by
  obtain ⟨sv, l⟩ := p
  cases l <;> kernel_rfl
theorem down_y12 (p : Inp) (n : Int) (i : Nat) : codeq SED (callq SED 100000 200) 100000 (mkC SED 133 downY) (tmL ((10, iv (1 + 12)) :: (9, iv i) :: downTl p n)) (stL (p.blocks ++ downPre) 7493) (outK downPre 7493 (((9, iv i) :: downTl p n).map (·.1))) = some (.tuple ⟨.int .i64 (xN .nor) :: .bool true :: ((9, iv i) :: downTl p n).map (·.2)⟩, z0) := by
  obtain ⟨sv, l⟩ := p
  cases l <;> kernel_rfl
theorem down_y13 (p : Inp) (n : Int) (i : Nat) : codeq SED (callq SED 100000 200) 100000 (mkC SED 133 downY) (tmL ((10, iv (1 + 13)) :: (9, iv i) :: downTl p n)) (stL (p.blocks ++ downPre) 7493) (outK downPre 7493 (((9, iv i) :: downTl p n).map (·.1))) = some (.tuple ⟨.int .i64 (xN .nor) :: .bool true :: ((9, iv i) :: downTl p n).map (·.2)⟩, z0) := by
  obtain ⟨sv, l⟩ := p
  cases l <;> kernel_rfl
theorem down_y14 (p : Inp) (n : Int) (i : Nat) : codeq SED (callq SED 100000 200) 100000 (mkC SED 133 downY) (tmL ((10, iv (1 + 14)) :: (9, iv i) :: downTl p n)) (stL (p.blocks ++ downPre) 7493) (outK downPre 7493 (((9, iv i) :: downTl p n).map (·.1))) = some (.tuple ⟨.int .i64 (xN .nor) :: .bool true :: ((9, iv i) :: downTl p n).map (·.2)⟩, z0) := by
  obtain ⟨sv, l⟩ := p
  cases l <;> kernel_rfl
theorem down_y15 (p : Inp) (n : Int) (i : Nat) : codeq SED (callq SED 100000 200) 100000 (mkC SED 133 downY) (tmL ((10, iv (1 + 15)) :: (9, iv i) :: downTl p n)) (stL (p.blocks ++ downPre) 7493) (outK downPre 7493 (((9, iv i) :: downTl p n).map (·.1))) = some (.tuple ⟨.int .i64 (xN .nor) :: .bool true :: ((9, iv i) :: downTl p n).map (·.2)⟩, z0) := by
  obtain ⟨sv, l⟩ := p
  cases l <;> kernel_rfl
theorem down_y16 (p : Inp) (n : Int) (i : Nat) : codeq SED (callq SED 100000 200) 100000 (mkC SED 133 downY) (tmL ((10, iv (1 + 16)) :: (9, iv i) :: downTl p n)) (stL (p.blocks ++ downPre) 7493) (outK downPre 7493 (((9, iv i) :: downTl p n).map (·.1))) = some (.tuple ⟨.int .i64 (xN .nor) :: .bool true :: ((9, iv i) :: downTl p n).map (·.2)⟩, z0) := by
  obtain ⟨sv, l⟩ := p
  cases l <;> kernel_rfl
theorem down_y17 (p : Inp) (n : Int) (i : Nat) : codeq SED (callq SED 100000 200) 100000 (mkC SED 133 downY) (tmL ((10, iv (1 + 17)) :: (9, iv i) :: downTl p n)) (stL (p.blocks ++ downPre) 7493) (outK downPre 7493 (((9, iv i) :: downTl p n).map (·.1))) = some (.tuple ⟨.int .i64 (xN .nor) :: .bool true :: ((9, iv i) :: downTl p n).map (·.2)⟩, z0) := by
  obtain ⟨sv, l⟩ := p
  cases l <;> kernel_rfl
theorem down_y18 (p : Inp) (n : Int) (i : Nat) : codeq SED (callq SED 100000 200) 100000 (mkC SED 133 downY) (tmL ((10, iv (1 + 18)) :: (9, iv i) :: downTl p n)) (stL (p.blocks ++ downPre) 7493) (outK downPre 7493 (((9, iv i) :: downTl p n).map (·.1))) = some (.tuple ⟨.int .i64 (xN .nor) :: .bool true :: ((9, iv i) :: downTl p n).map (·.2)⟩, z0) := by
  obtain ⟨sv, l⟩ := p
  cases l <;> kernel_rfl
theorem down_y19 (p : Inp) (n : Int) (i : Nat) : codeq SED (callq SED 100000 200) 100000 (mkC SED 133 downY) (tmL ((10, iv (1 + 19)) :: (9, iv i) :: downTl p n)) (stL (p.blocks ++ downPre) 7493) (outK downPre 7493 (((9, iv i) :: downTl p n).map (·.1))) = some (.tuple ⟨.int .i64 (xN .nor) :: .bool true :: ((9, iv i) :: downTl p n).map (·.2)⟩, z0) := by
  obtain ⟨sv, l⟩ := p
  cases l <;> kernel_rfl
theorem down_y20 (p : Inp) (n : Int) (i : Nat) : codeq SED (callq SED 100000 200) 100000 (mkC SED 133 downY) (tmL ((10, iv (1 + 20)) :: (9, iv i) :: downTl p n)) (stL (p.blocks ++ downPre) 7493) (outK downPre 7493 (((9, iv i) :: downTl p n).map (·.1))) = some (.tuple ⟨.int .i64 (xN .nor) :: .bool true :: ((9, iv i) :: downTl p n).map (·.2)⟩, z0) := by
  obtain ⟨sv, l⟩ := p
  cases l <;> kernel_rfl
theorem down_y21 (p : Inp) (n : Int) (i : Nat) : codeq SED (callq SED 100000 200) 100000 (mkC SED 133 downY) (tmL ((10, iv (1 + 21)) :: (9, iv i) :: downTl p n)) (stL (p.blocks ++ downPre) 7493) (outK downPre 7493 (((9, iv i) :: downTl p n).map (·.1))) = some (.tuple ⟨.int .i64 (xN .nor) :: .bool true :: ((9, iv i) :: downTl p n).map (·.2)⟩, z0) := by
  obtain ⟨sv, l⟩ := p
  cases l <;> kernel_rfl
theorem down_y (p : Inp) (n : Int) (i r : Nat) (hr : r < 22) : codeq SED (callq SED 100000 200) 100000 (mkC SED 133 downY) (tmL ((10, iv (1 + r)) :: (9, iv i) :: downTl p n)) (stL (p.blocks ++ downPre) 7493) (outK downPre 7493 (((9, iv i) :: downTl p n).map (·.1))) = some (.tuple ⟨.int .i64 (xN .nor) :: .bool true :: ((9, iv i) :: downTl p n).map (·.2)⟩, z0) := by
  have : r = 0 ∨ r = 1 ∨ r = 2 ∨ r = 3 ∨ r = 4 ∨ r = 5 ∨ r = 6 ∨ r = 7 ∨ r = 8 ∨ r = 9 ∨ r = 10 ∨ r = 11 ∨ r = 12 ∨ r = 13 ∨ r = 14 ∨ r = 15 ∨ r = 16 ∨ r = 17 ∨ r = 18 ∨ r = 19 ∨ r = 20 ∨ r = 21 := by omega
  rcases this with rfl | rfl | rfl | rfl | rfl | rfl | rfl | rfl | rfl | rfl | rfl | rfl | rfl | rfl | rfl | rfl | rfl | rfl | rfl | rfl | rfl | rfl
  · exact down_y0 p n i
  · exact down_y1 p n i
  · exact down_y2 p n i
  · exact down_y3 p n i
  · exact down_y4 p n i
  · exact down_y5 p n i
  · exact down_y6 p n i
  · exact down_y7 p n i
  · exact down_y8 p n i
  · exact down_y9 p n i
  · exact down_y10 p n i
  · exact down_y11 p n i
  · exact down_y12 p n i
  · exact down_y13 p n i
  · exact down_y14 p n i
  · exact down_y15 p n i
  · exact down_y16 p n i
  · exact down_y17 p n i
  · exact down_y18 p n i
  · exact down_y19 p n i
  · exact down_y20 p n i
  · exact down_y21 p n i
theorem down_z (p : Inp) (n : Int) (i : Nat) : codeq SED (callq SED 100000 200) 100000 (mkC SED 133 (dropS 9 downC)) (tmL ((9, iv i) :: downTl p n)) (stL (p.blocks ++ downPre) 7493) (outK [] 7493 ([((4 : Nat), Value.bool true)].map (·.1))) = some (.tuple ⟨.int .i64 (xN .ret) :: .bool true :: [((4 : Nat), Value.bool true)].map (·.2)⟩, z0) := by
  obtain ⟨sv, l⟩ := p
  cases l <;> kernel_rfl
end
end Go.Proofs
