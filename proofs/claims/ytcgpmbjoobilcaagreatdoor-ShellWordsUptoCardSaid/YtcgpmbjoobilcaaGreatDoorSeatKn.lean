/- Kept calls: what they look at, what they answer and what they leave. (Printed by program.) -/
import Derived.Test.YtcgpmbjoobilcaaGreatDoorAxG
set_option linter.unusedSimpArgs false
set_option linter.unusedVariables false
namespace Go.Proofs
open Go Go.Ax
noncomputable section
def kb0 : OS := .cells (nbV 256 28471174262216532360180111922350024101472062107394643145502316986272546805545178737202488193920860200) 256 6291458
def kb1 : OS := .cells [.int .i64 (.ofNat 120), .int .i64 (.ofNat 160), .int .i64 (.ofNat 14), .int .i64 (.ofNat 3), .float .f64 4607182418800017408, .float .f64 4611686018427387904, .float .f64 4621819117588971520, .pointer (some ⟨1006, 0, none⟩), .pointer (some ⟨1014, 0, none⟩), .pointer (some ⟨1322, 0, none⟩), .pointer (some ⟨1568, 0, none⟩), .pointer (some ⟨1845, 0, none⟩), .pointer (some ⟨2572, 0, none⟩), .pointer (some ⟨2732, 0, none⟩), .pointer (some ⟨2767, 0, none⟩), .pointer (some ⟨2791, 0, none⟩), .int .i64 (.ofNat 1), .int .i64 (.ofNat 0), .int .i64 (.ofNat 0), .int .i64 (.ofNat 0), .int .i64 (.ofNat 0), .int .i64 (.ofNat 0), .int .i64 (.ofNat 0), .int .i64 (.ofNat 0), .int .i64 (.ofNat 0), .int .i64 (.ofNat 0), .map (some 4083), .string .empty, .map none] 29 148897792
def kb2 : OS := .cells [.int .i64 (.ofNat 120), .int .i64 (.ofNat 160), .int .i64 (.ofNat 14), .int .i64 (.ofNat 3), .float .f64 4607182418800017408, .float .f64 4611686018427387904, .float .f64 4621819117588971520, .pointer (some ⟨1006, 0, none⟩), .pointer (some ⟨1014, 0, none⟩), .pointer (some ⟨1322, 0, none⟩), .pointer (some ⟨1568, 0, none⟩), .pointer (some ⟨1845, 0, none⟩), .pointer (some ⟨2572, 0, none⟩), .pointer (some ⟨2732, 0, none⟩), .pointer (some ⟨2767, 0, none⟩), .pointer (some ⟨2791, 0, none⟩), .int .i64 (.ofNat 1), .int .i64 (.ofNat 0), .int .i64 (.ofNat 2), .int .i64 (.ofNat 0), .int .i64 (.ofNat 0), .int .i64 (.ofNat 0), .int .i64 (.ofNat 0), .int .i64 (.ofNat 0), .int .i64 (.ofNat 0), .int .i64 (.ofNat 0), .map (some 4083), .string .empty, .map none] 29 148897792
def kb3 : OS := .cells [.int .i64 (.ofNat 120), .int .i64 (.ofNat 160), .int .i64 (.ofNat 14), .int .i64 (.ofNat 3), .float .f64 4607182418800017408, .float .f64 4611686018427387904, .float .f64 4621819117588971520, .pointer (some ⟨1006, 0, none⟩), .pointer (some ⟨1014, 0, none⟩), .pointer (some ⟨1635, 0, none⟩)] 10 73400320
def kb4 : OS := .cells [.int .i64 (.ofNat 14), .slice (some ⟨2705, 0, none⟩) 1 3, .slice (some ⟨2707, 0, none⟩) 1 3, .int .i64 (.ofNat 0)] 4 290455552
def kb5 : OS := .cells [.int .i64 (.ofNat 160), .slice (some ⟨1618, 0, none⟩) 3 7, .slice (some ⟨1620, 0, none⟩) 3 7, .int .i64 (.ofNat 0)] 4 290455552
def kb6 : OS := .cells [.int .i64 (.ofNat 282), .slice (some ⟨8508, 0, none⟩) 256 512] 2 224395268
def kb7 : OS := .cells [.int .u64 (.ofNat 0), .int .u64 (.ofNat 0), .int .u64 (.ofNat 0)] 3 0
def kb8 : OS := .cells [.int .u64 (.ofNat 3), .int .u64 (.ofNat 0), .int .u64 (.ofNat 0)] 3 0
def kb9 : OS := .cells [.pointer (some ⟨1006, 0, none⟩), .pointer (some ⟨1353, 0, none⟩), .int .i64 (.ofNat 120), .int .i64 (.ofNat 160), .int .i64 (.ofNat 2), .int .i64 (.ofNat 1), .map (some 1320), .map (some 1321), .int .i64 (.ofNat 1)] 9 256901120
def kb10 : OS := .cells [.pointer (some ⟨1322, 0, none⟩), .pointer (some ⟨1622, 0, none⟩), .int .i64 (.ofNat 1), .int .i64 (.ofNat 5), .int .i64 (.ofNat 1)] 5 191889408
def kb11 : OS := .cells [.pointer (some ⟨1322, 0, none⟩), .pointer (some ⟨1622, 0, none⟩), .int .i64 (.ofNat 1), .int .i64 (.ofNat 6), .int .i64 (.ofNat 1)] 5 191889408
def kb12 : OS := .cells [.pointer (some ⟨1568, 0, none⟩), .pointer (some ⟨1006, 0, none⟩), .int .i64 (.ofNat 282), .pointer (some ⟨2709, 0, none⟩), .int .i64 (.ofNat 0)] 5 316669952
def kb13 : OS := .cells [.pointer (some ⟨1845, 0, none⟩), .pointer (some ⟨2572, 0, none⟩), .pointer (some ⟨1014, 0, none⟩)] 3 326107136
def kb14 : OS := .cells [.pointer (some ⟨2572, 0, none⟩), .int .i64 (.negSucc 0), .int .i64 (.ofNat 0), .map (some 2790)] 4 336592896
def kb15 : OS := .cells [.slice (some ⟨1081, 0, none⟩) 296 593, .slice (some ⟨8509, 0, none⟩) 1 2, .bool false, .bool false, .int .i64 (.ofNat 0)] 5 111149056
def kb16 : OS := .cells [.slice (some ⟨1081, 0, none⟩) 296 593, .slice none 0 0, .bool false, .bool false, .int .i64 (.ofNat 0)] 5 111149056
def kb17 : OS := .cells [.slice (some ⟨1553, 0, none⟩) 256 512, .bool false, .slice (some ⟨1205, 0, none⟩) 256 512, .bool false, .slice (some ⟨3338, 0, none⟩) 256 512, .bool false, .slice (some ⟨3621, 0, none⟩) 256 512, .bool false, .slice (some ⟨3903, 0, none⟩) 256 512, .bool false, .slice none 0 0, .bool false, .slice none 0 0, .bool false, .slice none 0 0, .bool false, .slice none 0 0, .bool false, .slice none 0 0, .bool false, .slice none 0 0, .bool false, .slice none 0 0, .bool false, .slice none 0 0, .bool false, .slice none 0 0, .bool false, .slice none 0 0, .bool false, .slice none 0 0, .bool false, .slice none 0 0, .bool false, .slice none 0 0, .bool false, .slice none 0 0, .bool false, .slice none 0 0, .bool false, .slice none 0 0, .bool false, .slice none 0 0, .bool false, .slice none 0 0, .bool false, .slice none 0 0, .bool false, .slice none 0 0, .bool false, .slice none 0 0, .bool false, .slice none 0 0, .bool false, .slice none 0 0, .bool false, .slice none 0 0, .bool false, .slice none 0 0, .bool false, .slice none 0 0, .bool false, .slice none 0 0, .bool false, .slice none 0 0, .bool false, .slice none 0 0, .bool false, .slice none 0 0, .bool false, .slice none 0 0, .bool false, .slice none 0 0, .bool false, .slice none 0 0, .bool false, .slice none 0 0, .bool false, .slice none 0 0, .bool false, .slice none 0 0, .bool false, .slice none 0 0, .bool false, .slice none 0 0, .bool false, .slice none 0 0, .bool false, .slice none 0 0, .bool false, .slice none 0 0, .bool false, .slice none 0 0, .bool false, .slice none 0 0, .bool false, .slice none 0 0, .bool false, .slice none 0 0, .bool false, .slice none 0 0, .bool false, .slice none 0 0, .bool false, .slice none 0 0, .bool false, .slice none 0 0, .bool false, .slice none 0 0, .bool false, .slice none 0 0, .bool false, .slice none 0 0, .bool false, .slice none 0 0, .bool false, .slice none 0 0, .bool false, .slice none 0 0, .bool false, .slice none 0 0, .bool false, .slice none 0 0, .bool false, .slice none 0 0, .bool false, .slice none 0 0, .bool false, .slice none 0 0, .bool false, .slice none 0 0, .bool false, .slice none 0 0, .bool false, .slice none 0 0, .bool false, .slice none 0 0, .bool false, .slice none 0 0, .bool false, .slice none 0 0, .bool false, .slice none 0 0, .bool false, .slice none 0 0, .bool false, .slice none 0 0, .bool false, .slice none 0 0, .bool false, .slice none 0 0, .bool false, .slice none 0 0, .bool false, .slice none 0 0, .bool false, .slice none 0 0, .bool false, .slice none 0 0, .bool false, .slice none 0 0, .bool false, .slice none 0 0, .bool false, .slice none 0 0, .bool false, .slice none 0 0, .bool false, .slice none 0 0, .bool false, .slice none 0 0, .bool false, .slice none 0 0, .bool false, .slice none 0 0, .bool false, .slice none 0 0, .bool false, .slice none 0 0, .bool false, .slice none 0 0, .bool false, .slice none 0 0, .bool false, .slice none 0 0, .bool false, .slice none 0 0, .bool false, .slice none 0 0, .bool false, .slice none 0 0, .bool false, .slice none 0 0, .bool false, .slice none 0 0, .bool false, .slice none 0 0, .bool false, .slice none 0 0, .bool false, .slice none 0 0, .bool false, .slice none 0 0, .bool false, .slice none 0 0, .bool false, .slice none 0 0, .bool false, .slice none 0 0, .bool false, .slice none 0 0, .bool false, .slice none 0 0, .bool false, .slice none 0 0, .bool false, .slice none 0 0, .bool false, .slice none 0 0, .bool false, .slice none 0 0, .bool false, .slice none 0 0, .bool false, .slice none 0 0, .bool false, .slice none 0 0, .bool false, .slice none 0 0, .bool false, .slice none 0 0, .bool false, .slice none 0 0, .bool false, .slice none 0 0, .bool false, .slice none 0 0, .bool false, .slice none 0 0, .bool false, .slice none 0 0, .bool false, .slice none 0 0, .bool false, .slice none 0 0, .bool false, .slice none 0 0, .bool false, .slice none 0 0, .bool false, .slice none 0 0, .bool false, .slice none 0 0, .bool false, .slice none 0 0, .bool false, .slice none 0 0, .bool false, .slice none 0 0, .bool false, .slice none 0 0, .bool false, .slice none 0 0, .bool false, .slice none 0 0, .bool false, .slice none 0 0, .bool false, .slice none 0 0, .bool false, .slice none 0 0, .bool false, .slice none 0 0, .bool false, .slice none 0 0, .bool false, .slice none 0 0, .bool false, .slice none 0 0, .bool false, .slice none 0 0, .bool false, .slice none 0 0, .bool false, .slice none 0 0, .bool false, .slice none 0 0, .bool false, .slice none 0 0, .bool false, .slice none 0 0, .bool false, .slice none 0 0, .bool false, .slice none 0 0, .bool false, .slice none 0 0, .bool false, .slice none 0 0, .bool false, .slice none 0 0, .bool false, .slice none 0 0, .bool false, .slice none 0 0, .bool false, .slice none 0 0, .bool false, .slice none 0 0, .bool false, .slice none 0 0, .bool false, .slice none 0 0, .bool false, .slice none 0 0, .bool false, .slice none 0 0, .bool false, .slice none 0 0, .bool false, .slice none 0 0, .bool false, .slice none 0 0, .bool false, .slice none 0 0, .bool false, .slice none 0 0, .bool false, .slice none 0 0, .bool false, .slice none 0 0, .bool false, .slice none 0 0, .bool false, .slice none 0 0, .bool false, .slice none 0 0, .bool false, .slice none 0 0, .bool false, .slice none 0 0, .bool false, .slice none 0 0, .bool false, .slice none 0 0, .bool false, .slice none 0 0, .bool false, .slice none 0 0, .bool false, .slice none 0 0, .bool false, .slice none 0 0, .bool false, .slice none 0 0, .bool false, .slice none 0 0, .bool false, .slice none 0 0, .bool false, .slice none 0 0, .bool false, .slice none 0 0, .bool false, .slice none 0 0, .bool false, .slice none 0 0, .bool false, .slice none 0 0, .bool false, .slice none 0 0, .bool false, .slice none 0 0, .bool false, .slice none 0 0, .bool false, .slice none 0 0, .bool false, .slice none 0 0, .bool false, .slice none 0 0, .bool false, .slice none 0 0, .bool false, .slice none 0 0, .bool false, .slice none 0 0, .bool false, .slice none 0 0, .bool false, .slice none 0 0, .bool false, .slice none 0 0, .bool false, .slice none 0 0, .bool false, .slice none 0 0, .bool false, .slice none 0 0, .bool false, .slice none 0 0, .bool false, .slice none 0 0, .bool false, .slice none 0 0, .bool false, .slice none 0 0, .bool false, .slice none 0 0, .bool false, .slice none 0 0, .bool false, .slice none 0 0, .bool false, .slice none 0 0, .bool false, .slice none 0 0, .bool false, .slice none 0 0, .bool false, .slice none 0 0, .bool false, .slice none 0 0, .bool false, .slice none 0 0, .bool false, .slice none 0 0, .bool false, .slice none 0 0, .bool false, .slice none 0 0, .bool false, .slice none 0 0, .bool false, .slice none 0 0, .bool false, .slice none 0 0, .bool false, .slice none 0 0, .bool false, .slice none 0 0, .bool false, .slice none 0 0, .bool false, .slice none 0 0, .bool false, .slice none 0 0, .bool false, .slice none 0 0, .bool false, .slice none 0 0, .bool false, .slice none 0 0, .bool false, .slice none 0 0, .bool false, .slice none 0 0, .bool false, .slice none 0 0, .bool false, .slice none 0 0, .bool false, .slice none 0 0, .bool false, .slice none 0 0, .bool false, .slice none 0 0, .bool false, .slice none 0 0, .bool false, .slice none 0 0, .bool false, .slice none 0 0, .bool false, .slice none 0 0, .bool false, .slice none 0 0, .bool false, .slice none 0 0, .bool false, .slice none 0 0, .bool false, .slice none 0 0, .bool false, .slice none 0 0, .bool false, .slice none 0 0, .bool false, .slice none 0 0, .bool false, .slice none 0 0, .bool false, .slice none 0 0, .bool false, .slice none 0 0, .bool false, .slice none 0 0, .bool false, .slice none 0 0, .bool false, .slice none 0 0, .bool false, .slice none 0 0, .bool false, .slice none 0 0, .bool false, .slice none 0 0, .bool false, .slice none 0 0, .bool false, .slice none 0 0, .bool false, .slice none 0 0, .bool false, .slice none 0 0, .bool false, .slice none 0 0, .bool false, .slice none 0 0, .bool false, .slice none 0 0, .bool false, .slice none 0 0, .bool false, .slice none 0 0, .bool false, .slice none 0 0, .bool false, .slice none 0 0, .bool false, .slice none 0 0, .bool false, .slice none 0 0, .bool false, .slice none 0 0, .bool false, .slice none 0 0, .bool false, .slice none 0 0, .bool false, .slice none 0 0, .bool false, .slice none 0 0, .bool false, .slice none 0 0, .bool false, .slice none 0 0, .bool false, .slice none 0 0, .bool false, .slice none 0 0, .bool false, .slice none 0 0, .bool false, .slice none 0 0, .bool false, .slice none 0 0, .bool false, .slice none 0 0, .bool false, .slice none 0 0, .bool false, .slice none 0 0, .bool false, .slice none 0 0, .bool false, .slice none 0 0, .bool false, .slice none 0 0, .bool false, .slice none 0 0, .bool false, .slice none 0 0, .bool false, .slice none 0 0, .bool false, .slice none 0 0, .bool false, .slice none 0 0, .bool false, .slice none 0 0, .bool false, .slice none 0 0, .bool false, .slice none 0 0, .bool false, .slice none 0 0, .bool false, .slice none 0 0, .bool false, .slice none 0 0, .bool false] 592 0
def k211 : MS where
 args := [.agg #[.int .i64 (.ofNat 120), .int .i64 (.ofNat 160), .int .i64 (.ofNat 14), .int .i64 (.ofNat 3), .float .f64 4607182418800017408, .float .f64 4611686018427387904, .float .f64 4621819117588971520], .pointer (some ⟨1006, 0, none⟩), .pointer (some ⟨1014, 0, none⟩)]
 nx := 1030
 pre := [(2, .ro (nbV 64 315684040783403026461198565492879320519372303033823910828724750665742568755751545437592878574175936176031276695822391845783248645128493468529036736594176) 64),
  (1006, .cells [.slice (some ⟨1005, 0, none⟩) 296 593, .slice none 0 0, .bool false, .bool false, .int .i64 (.ofNat 0)] 5 111149056)]
 ans := .tuple #[.pointer (some ⟨1635, 0, none⟩), .int .i64 (.ofNat 0)]
 nx' := 4084
 post := [(1006, kb16),
  (1081, kb17),
  (1205, .cells (nbV 256 36022211394028781476208574998112614003043788337930041915042873215028435754663194877271034799520284712) 256 6291458),
  (1320, .map [(.int .i64 (.ofNat 1), .string (nbS 38 254629497173168747932612311867782055743697762709410264378746426286920235276254835814499073)), (.int .i64 (.ofNat 0), .string (nbS 7 50331988))]),
  (1321, .map []),
  (1322, kb9),
  (1353, .cells [.pointer (some ⟨1006, 0, none⟩), .int .i64 (.ofNat 2), .int .i64 (.ofNat 120), .int .i64 (.ofNat 0), .int .i64 (.ofNat 3), .int .i64 (.ofNat 1)] 6 387973120),
  (1553, kb0),
  (1568, .cells [.pointer (some ⟨1322, 0, none⟩), .pointer (some ⟨1622, 0, none⟩), .int .i64 (.ofNat 1), .int .i64 (.ofNat 3), .int .i64 (.ofNat 1)] 5 191889408),
  (1618, kb8),
  (1620, kb7),
  (1622, kb5),
  (1635, kb1),
  (1845, .cells [.pointer (some ⟨1568, 0, none⟩)] 1 310378496),
  (2572, kb12),
  (2705, .cells [.int .u64 (.ofNat 0)] 1 0),
  (2707, .cells [.int .u64 (.ofNat 0)] 1 0),
  (2709, kb4),
  (2732, kb13),
  (2765, .map []),
  (2767, .cells [.pointer (some ⟨2572, 0, none⟩), .pointer (some ⟨1014, 0, none⟩), .float .f64 4607182418800017408, .float .f64 4611686018427387904, .float .f64 4621819117588971520, .int .i64 (.ofNat 1), .pointer (some ⟨2771, 0, none⟩), .map (some 2765), .int .i64 (.ofNat 0)] 9 331350016),
  (2770, .map []),
  (2771, .cells [.slice none 0 0, .map (some 2770), .int .i64 (.ofNat 0)] 3 428867584),
  (2790, .map []),
  (2791, kb14),
  (3338, .cells (nbV 256 38999015523639973228455811449741619373361255906305894282697166227866924897961604545480067908160005029746150610772761016381186788454220539334780199697605202772637096155479006448018191894385038594768279607399481430) 256 6291458),
  (3621, .cells (nbV 256 652854797179606690600762331533891150158816756315469641008817545767332377725100059158619602849056689078564120037077149520859116364431275218157373039406020173144799690817845017409086684718166486724551983086762608591969180016870499184017552055893854278526391883094337794167642845769433205) 256 6291458),
  (3903, .cells (nbV 256 52217900258217791622153701399683495410468919664821815945182706706781277385119120690794031096712746955951961525591965141842335349833012624302521581018287717954571864183312374932414231880237383759) 256 6291458),
  (4083, .map [])]
def k212 : MS where
 args := [.pointer (some ⟨1011, 0, none⟩), .string (nbS 9 1884963721187936268899)]
 nx := 4084
 pre := [(1006, kb16),
  (1011, kb3),
  (1081, kb17),
  (1320, .map [(.int .i64 (.ofNat 1), .string (nbS 38 254629497173168747932612311867782055743697762709410264378746426286920235276254835814499073)), (.int .i64 (.ofNat 0), .string (nbS 7 50331988))]),
  (1321, .map []),
  (1322, kb9),
  (1553, kb0),
  (1568, .cells [.pointer (some ⟨1322, 0, none⟩), .pointer (some ⟨1622, 0, none⟩), .int .i64 (.ofNat 1), .int .i64 (.ofNat 3), .int .i64 (.ofNat 1)] 5 191889408),
  (1618, kb8),
  (1620, kb7),
  (1622, kb5),
  (1635, kb1),
  (1845, .cells [.pointer (some ⟨1568, 0, none⟩)] 1 310378496),
  (2572, kb12),
  (2705, .cells [.int .u64 (.ofNat 0)] 1 0),
  (2707, .cells [.int .u64 (.ofNat 0)] 1 0),
  (2709, kb4)]
 ans := .string (nbS 2 27503)
 nx' := 6266
 post := [(1006, kb16),
  (1011, kb3),
  (1081, kb17),
  (1320, .map [(.int .i64 (.ofNat 1), .string (nbS 38 254629497173168747932612311867782055743697762709410264378746426286920235276254835814499073)), (.int .i64 (.ofNat 0), .string (nbS 7 50331988))]),
  (1321, .map [(.int .i64 (.ofNat 1), .string (nbS 68 674837069413568931451088160437974111788814773378544498817697658293604630192305401752793634080290622010606068378478830551689310847473726846128678796472485727503617)), (.int .i64 (.ofNat 0), .string (nbS 7 83886420))]),
  (1322, kb9),
  (1553, kb0),
  (1568, kb10),
  (1618, kb8),
  (1620, kb7),
  (1622, kb5),
  (1635, kb1),
  (1845, .cells [.pointer (some ⟨1568, 0, none⟩)] 1 310378496),
  (2572, kb12),
  (2705, .cells [.int .u64 (.ofNat 0)] 1 0),
  (2707, .cells [.int .u64 (.ofNat 0)] 1 0),
  (2709, kb4)]
def k213 : MS where
 args := [.pointer (some ⟨1011, 0, none⟩), .string (nbS 7 28762263962087535)]
 nx := 6268
 pre := [(1006, kb16),
  (1011, kb3),
  (1081, kb17),
  (1321, .map [(.int .i64 (.ofNat 1), .string (nbS 68 674837069413568931451088160437974111788814773378544498817697658293604630192305401752793634080290622010606068378478830551689310847473726846128678796472485727503617)), (.int .i64 (.ofNat 0), .string (nbS 7 83886420))]),
  (1322, kb9),
  (1553, kb0),
  (1568, kb10),
  (1635, kb1),
  (1845, .cells [.pointer (some ⟨1568, 0, none⟩)] 1 310378496)]
 ans := .string (nbS 4 824208239)
 nx' := 7304
 post := [(1006, kb16),
  (1011, kb3),
  (1081, kb17),
  (1321, .map [(.int .i64 (.ofNat 1), .string (nbS 68 674837069413568931451088160437974111788814773378544498817697658293604630192305401752793634080290622010606068378478830551689310847473726846128678796472485727503617)), (.int .i64 (.ofNat 0), .string (nbS 7 83886420))]),
  (1322, kb9),
  (1553, kb0),
  (1568, kb10),
  (1635, kb2),
  (1845, .cells [.pointer (some ⟨1568, 0, none⟩)] 1 310378496)]
def k214 : MS where
 args := [.pointer (some ⟨1011, 0, none⟩), .string (nbS 16 68072030229422748042826170902856168055)]
 nx := 7306
 pre := [(2, .ro (nbV 64 315684040783403026461198565492879320519372303033823910828724750665742568755751545437592878574175936176031276695822391845783248645128493468529036736594176) 64),
  (1006, kb16),
  (1011, kb3),
  (1081, kb17),
  (1321, .map [(.int .i64 (.ofNat 1), .string (nbS 68 674837069413568931451088160437974111788814773378544498817697658293604630192305401752793634080290622010606068378478830551689310847473726846128678796472485727503617)), (.int .i64 (.ofNat 0), .string (nbS 7 83886420))]),
  (1322, kb9),
  (1553, kb0),
  (1568, kb10),
  (1618, kb8),
  (1620, kb7),
  (1622, kb5),
  (1635, kb2),
  (1845, .cells [.pointer (some ⟨1568, 0, none⟩)] 1 310378496),
  (2572, kb12),
  (2705, .cells [.int .u64 (.ofNat 0)] 1 0),
  (2707, .cells [.int .u64 (.ofNat 0)] 1 0),
  (2709, kb4),
  (2732, kb13)]
 ans := .string (nbS 2 27503)
 nx' := 10287
 post := [(1006, kb15),
  (1011, kb3),
  (1081, kb17),
  (1321, .map [(.int .i64 (.ofNat 1), .string (nbS 91 1176674546960087323003032484070374817731406815450584675189354857601955490215886767766970400393044911489992312558495042762469384925053217069022560755957866080763742821548135147237541691952426006288448879886497149756704257)), (.int .i64 (.ofNat 0), .string (nbS 7 100663636))]),
  (1322, kb9),
  (1553, kb0),
  (1568, kb11),
  (1618, kb8),
  (1620, kb7),
  (1622, kb5),
  (1635, kb2),
  (1845, .cells [.pointer (some ⟨1568, 0, none⟩)] 1 310378496),
  (2572, kb12),
  (2705, .cells [.int .u64 (.ofNat 1)] 1 0),
  (2707, .cells [.int .u64 (.ofNat 0)] 1 0),
  (2709, kb4),
  (2732, kb13),
  (8508, .cells (nbV 256 6513249) 256 6291458),
  (8509, kb6)]
def k215 : MS where
 args := [.pointer (some ⟨1011, 0, none⟩), .string (nbS 10 269768725217250788861298)]
 nx := 10289
 pre := [(1006, kb15),
  (1011, kb3),
  (1081, kb17),
  (1321, .map [(.int .i64 (.ofNat 1), .string (nbS 91 1176674546960087323003032484070374817731406815450584675189354857601955490215886767766970400393044911489992312558495042762469384925053217069022560755957866080763742821548135147237541691952426006288448879886497149756704257)), (.int .i64 (.ofNat 0), .string (nbS 7 100663636))]),
  (1322, kb9),
  (1553, kb0),
  (1568, kb11),
  (1635, kb2),
  (1845, .cells [.pointer (some ⟨1568, 0, none⟩)] 1 310378496),
  (2572, kb12),
  (2732, kb13),
  (2790, .map []),
  (2791, kb14),
  (8508, .cells (nbV 256 6513249) 256 6291458),
  (8509, kb6)]
 ans := .string (nbS 7 14414813096602479)
 nx' := 11624
 post := [(1006, kb15),
  (1011, kb3),
  (1081, kb17),
  (1321, .map [(.int .i64 (.ofNat 1), .string (nbS 91 1176674546960087323003032484070374817731406815450584675189354857601955490215886767766970400393044911489992312558495042762469384925053217069022560755957866080763742821548135147237541691952426006288448879886497149756704257)), (.int .i64 (.ofNat 0), .string (nbS 7 100663636))]),
  (1322, kb9),
  (1553, kb0),
  (1568, kb11),
  (1635, kb2),
  (1845, .cells [.pointer (some ⟨1568, 0, none⟩)] 1 310378496),
  (2572, kb12),
  (2732, kb13),
  (2790, .map [(.agg #[.int .i64 (.ofNat 2), .int .i64 (.ofNat 0)], .bool true)]),
  (2791, kb14),
  (8508, .cells (nbV 256 6513249) 256 6291458),
  (8509, kb6)]
def k216 : MS where
 args := [.pointer (some ⟨1011, 0, none⟩), .string (nbS 1 120)]
 nx := 11626
 pre := []
 ans := .string (nbS 7 14109424703664741)
 nx' := 11685
 post := []
end
end Go.Proofs
