/- The clock: Do(Tick) with whatever number, at whatever time. -/
import Derived.Test.YtmnckhmmcnbaiaaGreatDoorSeatTick
import Derived.Test.YtmnckhmmcnbaiaaGreatDoorSeatBegin
set_option linter.unusedSimpArgs false
set_option linter.unusedVariables false
namespace Go.Proofs
open Go Go.RowKit Go.Ax
noncomputable section
def SPrimT : T (List Value → AS → Option (Value × AS)) := SPrim20.set 52 tickP
theorem SPrimT_ok : ∀ f p, SPrimT.get f = some p → POk Tryz.prog f p := prim_set (E := SE20) SE20_prim tickP_ok
def SET : Env := envOf SPrimT
theorem SET_calls : CallOk Tryz.prog (callA SET 100000 200) := envOf_calls SPrimT_ok 100000 200
noncomputable def clkRest : List (Nat × OS) := [(0, .ro (nbV 64 315684040783403026461198565492879320519372303033823910828724750665742568755751545437592878574175936176031276695822391845783248645128493468529036736594176) 64),
    (1005, .cells [.slice (some ⟨1085, 0, none⟩) 296 593, .slice none 0 0, .bool false, .bool false, .int .i64 (.ofNat 0)] 5 84934656),
    (1010, .cells [.pointer (some ⟨1018, 0, none⟩)] 1 0),
    (1012, .cells [.int .i64 (.ofNat 120), .int .i64 (.ofNat 160), .int .i64 (.ofNat 14), .int .i64 (.ofNat 3), .float .f64 4607182418800017408, .float .f64 4611686018427387904, .float .f64 4621819117588971520, .pointer (some ⟨1005, 0, none⟩), .pointer (some ⟨1015, 0, none⟩), .pointer (some ⟨1639, 0, none⟩), .slice (some ⟨1010, 0, none⟩) 1 3, .int .i64 (.ofNat 0)] 12 45088768),
    (1014, .map []),
    (1015, .cells [.map (some 1014), .int .i64 (.ofNat 0), .string .empty, .slice none 0 0, .int .i64 (.ofNat 0)] 5 96468992),
    (1016, .cells [.int .i64 (.ofNat 1), .int .i64 (.ofNat 2), .int .i64 (.ofNat 0), .int .i64 (.ofNat 1), .slice none 0 0, .slice none 0 0] 6 0),
    (1017, .cells [.slice (some ⟨1016, 0, none⟩) 1 3, .int .i64 (.ofNat 2)] 2 166723584),
    (1018, .cells [.pointer (some ⟨1017, 0, none⟩), .slice none 0 0, .int .i64 (.ofNat 0), .int .i64 (.ofNat 0), .int .i64 (.ofNat 0), .int .i64 (.ofNat 0), .int .i64 (.ofNat 0), .int .i64 (.ofNat 0), .int .i64 (.ofNat 0), .int .i64 (.ofNat 0)] 10 110100480),
    (1085, .cells [.slice (some ⟨1557, 0, none⟩) 256 512, .bool false, .slice (some ⟨1209, 0, none⟩) 256 512, .bool false, .slice (some ⟨3342, 0, none⟩) 256 512, .bool false, .slice (some ⟨3625, 0, none⟩) 256 512, .bool false, .slice (some ⟨3907, 0, none⟩) 256 512, .bool false, .slice none 0 0, .bool false, .slice none 0 0, .bool false, .slice none 0 0, .bool false, .slice none 0 0, .bool false, .slice none 0 0, .bool false, .slice none 0 0, .bool false, .slice none 0 0, .bool false, .slice none 0 0, .bool false, .slice none 0 0, .bool false, .slice none 0 0, .bool false, .slice none 0 0, .bool false, .slice none 0 0, .bool false, .slice none 0 0, .bool false, .slice none 0 0, .bool false, .slice none 0 0, .bool false, .slice none 0 0, .bool false, .slice none 0 0, .bool false, .slice none 0 0, .bool false, .slice none 0 0, .bool false, .slice none 0 0, .bool false, .slice none 0 0, .bool false, .slice none 0 0, .bool false, .slice none 0 0, .bool false, .slice none 0 0, .bool false, .slice none 0 0, .bool false, .slice none 0 0, .bool false, .slice none 0 0, .bool false, .slice none 0 0, .bool false, .slice none 0 0, .bool false, .slice none 0 0, .bool false, .slice none 0 0, .bool false, .slice none 0 0, .bool false, .slice none 0 0, .bool false, .slice none 0 0, .bool false, .slice none 0 0, .bool false, .slice none 0 0, .bool false, .slice none 0 0, .bool false, .slice none 0 0, .bool false, .slice none 0 0, .bool false, .slice none 0 0, .bool false, .slice none 0 0, .bool false, .slice none 0 0, .bool false, .slice none 0 0, .bool false, .slice none 0 0, .bool false, .slice none 0 0, .bool false, .slice none 0 0, .bool false, .slice none 0 0, .bool false, .slice none 0 0, .bool false, .slice none 0 0, .bool false, .slice none 0 0, .bool false, .slice none 0 0, .bool false, .slice none 0 0, .bool false, .slice none 0 0, .bool false, .slice none 0 0, .bool false, .slice none 0 0, .bool false, .slice none 0 0, .bool false, .slice none 0 0, .bool false, .slice none 0 0, .bool false, .slice none 0 0, .bool false, .slice none 0 0, .bool false, .slice none 0 0, .bool false, .slice none 0 0, .bool false, .slice none 0 0, .bool false, .slice none 0 0, .bool false, .slice none 0 0, .bool false, .slice none 0 0, .bool false, .slice none 0 0, .bool false, .slice none 0 0, .bool false, .slice none 0 0, .bool false, .slice none 0 0, .bool false, .slice none 0 0, .bool false, .slice none 0 0, .bool false, .slice none 0 0, .bool false, .slice none 0 0, .bool false, .slice none 0 0, .bool false, .slice none 0 0, .bool false, .slice none 0 0, .bool false, .slice none 0 0, .bool false, .slice none 0 0, .bool false, .slice none 0 0, .bool false, .slice none 0 0, .bool false, .slice none 0 0, .bool false, .slice none 0 0, .bool false, .slice none 0 0, .bool false, .slice none 0 0, .bool false, .slice none 0 0, .bool false, .slice none 0 0, .bool false, .slice none 0 0, .bool false, .slice none 0 0, .bool false, .slice none 0 0, .bool false, .slice none 0 0, .bool false, .slice none 0 0, .bool false, .slice none 0 0, .bool false, .slice none 0 0, .bool false, .slice none 0 0, .bool false, .slice none 0 0, .bool false, .slice none 0 0, .bool false, .slice none 0 0, .bool false, .slice none 0 0, .bool false, .slice none 0 0, .bool false, .slice none 0 0, .bool false, .slice none 0 0, .bool false, .slice none 0 0, .bool false, .slice none 0 0, .bool false, .slice none 0 0, .bool false, .slice none 0 0, .bool false, .slice none 0 0, .bool false, .slice none 0 0, .bool false, .slice none 0 0, .bool false, .slice none 0 0, .bool false, .slice none 0 0, .bool false, .slice none 0 0, .bool false, .slice none 0 0, .bool false, .slice none 0 0, .bool false, .slice none 0 0, .bool false, .slice none 0 0, .bool false, .slice none 0 0, .bool false, .slice none 0 0, .bool false, .slice none 0 0, .bool false, .slice none 0 0, .bool false, .slice none 0 0, .bool false, .slice none 0 0, .bool false, .slice none 0 0, .bool false, .slice none 0 0, .bool false, .slice none 0 0, .bool false, .slice none 0 0, .bool false, .slice none 0 0, .bool false, .slice none 0 0, .bool false, .slice none 0 0, .bool false, .slice none 0 0, .bool false, .slice none 0 0, .bool false, .slice none 0 0, .bool false, .slice none 0 0, .bool false, .slice none 0 0, .bool false, .slice none 0 0, .bool false, .slice none 0 0, .bool false, .slice none 0 0, .bool false, .slice none 0 0, .bool false, .slice none 0 0, .bool false, .slice none 0 0, .bool false, .slice none 0 0, .bool false, .slice none 0 0, .bool false, .slice none 0 0, .bool false, .slice none 0 0, .bool false, .slice none 0 0, .bool false, .slice none 0 0, .bool false, .slice none 0 0, .bool false, .slice none 0 0, .bool false, .slice none 0 0, .bool false, .slice none 0 0, .bool false, .slice none 0 0, .bool false, .slice none 0 0, .bool false, .slice none 0 0, .bool false, .slice none 0 0, .bool false, .slice none 0 0, .bool false, .slice none 0 0, .bool false, .slice none 0 0, .bool false, .slice none 0 0, .bool false, .slice none 0 0, .bool false, .slice none 0 0, .bool false, .slice none 0 0, .bool false, .slice none 0 0, .bool false, .slice none 0 0, .bool false, .slice none 0 0, .bool false, .slice none 0 0, .bool false, .slice none 0 0, .bool false, .slice none 0 0, .bool false, .slice none 0 0, .bool false, .slice none 0 0, .bool false, .slice none 0 0, .bool false, .slice none 0 0, .bool false, .slice none 0 0, .bool false, .slice none 0 0, .bool false, .slice none 0 0, .bool false, .slice none 0 0, .bool false, .slice none 0 0, .bool false, .slice none 0 0, .bool false, .slice none 0 0, .bool false, .slice none 0 0, .bool false, .slice none 0 0, .bool false, .slice none 0 0, .bool false, .slice none 0 0, .bool false, .slice none 0 0, .bool false, .slice none 0 0, .bool false, .slice none 0 0, .bool false, .slice none 0 0, .bool false, .slice none 0 0, .bool false, .slice none 0 0, .bool false, .slice none 0 0, .bool false, .slice none 0 0, .bool false, .slice none 0 0, .bool false, .slice none 0 0, .bool false, .slice none 0 0, .bool false, .slice none 0 0, .bool false, .slice none 0 0, .bool false, .slice none 0 0, .bool false, .slice none 0 0, .bool false, .slice none 0 0, .bool false, .slice none 0 0, .bool false, .slice none 0 0, .bool false, .slice none 0 0, .bool false, .slice none 0 0, .bool false, .slice none 0 0, .bool false, .slice none 0 0, .bool false, .slice none 0 0, .bool false, .slice none 0 0, .bool false, .slice none 0 0, .bool false, .slice none 0 0, .bool false, .slice none 0 0, .bool false, .slice none 0 0, .bool false, .slice none 0 0, .bool false, .slice none 0 0, .bool false, .slice none 0 0, .bool false, .slice none 0 0, .bool false, .slice none 0 0, .bool false, .slice none 0 0, .bool false, .slice none 0 0, .bool false, .slice none 0 0, .bool false, .slice none 0 0, .bool false, .slice none 0 0, .bool false, .slice none 0 0, .bool false, .slice none 0 0, .bool false, .slice none 0 0, .bool false, .slice none 0 0, .bool false, .slice none 0 0, .bool false, .slice none 0 0, .bool false, .slice none 0 0, .bool false, .slice none 0 0, .bool false, .slice none 0 0, .bool false, .slice none 0 0, .bool false, .slice none 0 0, .bool false, .slice none 0 0, .bool false, .slice none 0 0, .bool false, .slice none 0 0, .bool false, .slice none 0 0, .bool false, .slice none 0 0, .bool false, .slice none 0 0, .bool false, .slice none 0 0, .bool false, .slice none 0 0, .bool false, .slice none 0 0, .bool false, .slice none 0 0, .bool false, .slice none 0 0, .bool false, .slice none 0 0, .bool false, .slice none 0 0, .bool false, .slice none 0 0, .bool false, .slice none 0 0, .bool false, .slice none 0 0, .bool false, .slice none 0 0, .bool false, .slice none 0 0, .bool false, .slice none 0 0, .bool false, .slice none 0 0, .bool false, .slice none 0 0, .bool false, .slice none 0 0, .bool false, .slice none 0 0, .bool false, .slice none 0 0, .bool false, .slice none 0 0, .bool false, .slice none 0 0, .bool false, .slice none 0 0, .bool false, .slice none 0 0, .bool false, .slice none 0 0, .bool false, .slice none 0 0, .bool false, .slice none 0 0, .bool false, .slice none 0 0, .bool false, .slice none 0 0, .bool false, .slice none 0 0, .bool false, .slice none 0 0, .bool false, .slice none 0 0, .bool false, .slice none 0 0, .bool false, .slice none 0 0, .bool false, .slice none 0 0, .bool false, .slice none 0 0, .bool false, .slice none 0 0, .bool false, .slice none 0 0, .bool false, .slice none 0 0, .bool false, .slice none 0 0, .bool false, .slice none 0 0, .bool false, .slice none 0 0, .bool false, .slice none 0 0, .bool false, .slice none 0 0, .bool false, .slice none 0 0, .bool false, .slice none 0 0, .bool false, .slice none 0 0, .bool false, .slice none 0 0, .bool false, .slice none 0 0, .bool false, .slice none 0 0, .bool false, .slice none 0 0, .bool false, .slice none 0 0, .bool false, .slice none 0 0, .bool false, .slice none 0 0, .bool false, .slice none 0 0, .bool false, .slice none 0 0, .bool false] 592 0),
    (1209, .cells (nbV 256 36022211394028781476208574998112614003043788337930041915042873215028435754663194877271034799520284712) 256 6291458),
    (1324, .map [(.int .i64 (.ofNat 1), .string (nbS 38 254629497173168747932612311867782055743697762709410264378746426286920235276254835814499073)), (.int .i64 (.ofNat 0), .string (nbS 7 50331988))]),
    (1325, .map []),
    (1326, .cells [.pointer (some ⟨1005, 0, none⟩), .pointer (some ⟨1357, 0, none⟩), .int .i64 (.ofNat 120), .int .i64 (.ofNat 160), .int .i64 (.ofNat 2), .int .i64 (.ofNat 1), .map (some 1324), .map (some 1325), .int .i64 (.ofNat 1)] 9 171966464),
    (1357, .cells [.pointer (some ⟨1005, 0, none⟩), .int .i64 (.ofNat 2), .int .i64 (.ofNat 120), .int .i64 (.ofNat 0), .int .i64 (.ofNat 3), .int .i64 (.ofNat 1)] 6 320864256),
    (1557, .cells (nbV 256 28471174262216532360180111922350024101472062107394643145502316986272546805545178737202488193920860200) 256 6291458),
    (1572, .cells [.pointer (some ⟨1326, 0, none⟩), .pointer (some ⟨1626, 0, none⟩), .int .i64 (.ofNat 1), .int .i64 (.ofNat 3), .int .i64 (.ofNat 1)] 5 228589568),
    (1622, .cells [.int .u64 (.ofNat 3), .int .u64 (.ofNat 0), .int .u64 (.ofNat 0)] 3 0),
    (1624, .cells [.int .u64 (.ofNat 0), .int .u64 (.ofNat 0), .int .u64 (.ofNat 0)] 3 0),
    (1626, .cells [.int .i64 (.ofNat 160), .slice (some ⟨1622, 0, none⟩) 3 7, .slice (some ⟨1624, 0, none⟩) 3 7, .int .i64 (.ofNat 0)] 4 349175808),
    (1849, .cells [.pointer (some ⟨1572, 0, none⟩)] 1 244318208),
    (2576, .cells [.pointer (some ⟨1572, 0, none⟩), .pointer (some ⟨1005, 0, none⟩), .int .i64 (.ofNat 282), .pointer (some ⟨2713, 0, none⟩), .int .i64 (.ofNat 0)] 5 247463936),
    (2709, .cells [.int .u64 (.ofNat 0)] 1 0),
    (2711, .cells [.int .u64 (.ofNat 0)] 1 0),
    (2713, .cells [.int .i64 (.ofNat 14), .slice (some ⟨2709, 0, none⟩) 1 3, .slice (some ⟨2711, 0, none⟩) 1 3, .int .i64 (.ofNat 0)] 4 349175808),
    (2736, .cells [.pointer (some ⟨1849, 0, none⟩), .pointer (some ⟨2576, 0, none⟩), .pointer (some ⟨1015, 0, none⟩)] 3 254803968),
    (2769, .map []),
    (2771, .cells [.pointer (some ⟨2576, 0, none⟩), .pointer (some ⟨1015, 0, none⟩), .float .f64 4607182418800017408, .float .f64 4611686018427387904, .float .f64 4621819117588971520, .int .i64 (.ofNat 1), .pointer (some ⟨2775, 0, none⟩), .map (some 2769), .int .i64 (.ofNat 0)] 9 190840832),
    (2774, .map []),
    (2775, .cells [.slice none 0 0, .map (some 2774), .int .i64 (.ofNat 0)] 3 299892736),
    (2794, .map []),
    (2795, .cells [.pointer (some ⟨2576, 0, none⟩), .int .i64 (.negSucc 0), .int .i64 (.ofNat 0), .map (some 2794)] 4 261095424),
    (3342, .cells (nbV 256 38999015523639973228455811449741619373361255906305894282697166227866924897961604545480067908160005029746150610772761016381186788454220539334780199697605202772637096155479006448018191894385038594768279607399481430) 256 6291458),
    (3625, .cells (nbV 256 652854797179606690600762331533891150158816756315469641008817545767332377725100059158619602849056689078564120037077149520859116364431275218157373039406020173144799690817845017409086684718166486724551983086762608591969180016870499184017552055893854278526391883094337794167642845769433205) 256 6291458),
    (3907, .cells (nbV 256 52217900258217791622153701399683495410468919664821815945182706706781277385119120690794031096712746955951961525591965141842335349833012624302521581018287717954571864183312374932414231880237383759) 256 6291458),
    (4087, .map [])]
noncomputable def clkRow (m : Int) : List Value := [.int .i64 (.ofNat 120), .int .i64 (.ofNat 160), .int .i64 (.ofNat 14), .int .i64 (.ofNat 3), .float .f64 4607182418800017408, .float .f64 4611686018427387904, .float .f64 4621819117588971520, .pointer (some ⟨1005, 0, none⟩), .pointer (some ⟨1015, 0, none⟩), .pointer (some ⟨1326, 0, none⟩), .pointer (some ⟨1572, 0, none⟩), .pointer (some ⟨1849, 0, none⟩), .pointer (some ⟨2576, 0, none⟩), .pointer (some ⟨2736, 0, none⟩), .pointer (some ⟨2771, 0, none⟩), .pointer (some ⟨2795, 0, none⟩), .int .i64 (.ofNat 1), .int .i64 m, .int .i64 (.ofNat 0), .int .i64 (.ofNat 0), .int .i64 (.ofNat 0), .int .i64 (.ofNat 0), .int .i64 (.ofNat 0), .int .i64 (.ofNat 0), .int .i64 (.ofNat 0), .int .i64 (.ofNat 0), .map (some 4087), .string .empty, .map none]
noncomputable def clkPre (m : Int) : List (Nat × OS) := (1639, .cells (clkRow m) 29 79691776) :: clkRest
def opV (k v : Int) : Value := .agg ⟨[.int .i64 k, .string .empty, .string .empty, .int .i64 0, .int .i64 0, .int .i64 v, .string .empty]⟩
/-- A block's first cells, its length and its kind, as a value. -/
noncomputable def cellsV (o : Option AObj) (k : Nat) : Value := match o with
  | some (.cells c n z) => @Option.rec (List Value) (fun _ => Value) undef (fun l => .tuple ⟨[.agg ⟨l⟩, .int .i64 (.ofNat n), .int .i64 (.ofNat z)]⟩) (c.list k 0)
  | _ => undef
theorem cellsV_spec {o : Option AObj} {k n z : Nat} {l : List Value} (h : cellsV o k = .tuple ⟨[.agg ⟨l⟩, .int .i64 (.ofNat n), .int .i64 (.ofNat z)]⟩) : ∃ c, o = some (.cells c n z) ∧ c.list k 0 = some l := by
  unfold cellsV at h
  split at h
  · rename_i c n' z'
    cases hl : c.list k 0 with
    | none => rw [hl] at h; cases h
    | some l' =>
      rw [hl] at h
      simp only [Value.tuple.injEq, Array.mk.injEq, List.cons.injEq, Value.agg.injEq, Value.int.injEq, true_and, and_true, Int.ofNat.injEq] at h
      obtain ⟨rfl, rfl, rfl⟩ := h
      exact ⟨c, rfl, hl⟩
  · cases h
theorem wk_list {c : T Value} {k z : Nat} {l : List Value} (h : c.list k 0 = some l) : Wk (OS.cells l k z).mk (.cells c k z) := by
  obtain ⟨h1, h2⟩ := T.list_some c k 0 l h
  refine ⟨rfl, rfl, fun j v hj hv => ?_⟩
  rw [T.get_fill] at hv
  split at hv
  · rw [← hv, Nat.sub_zero, ← h2 j hj, Nat.zero_add]
  · cases hv
def tupK (v : Value) (b : Bool) (l : List Value) : R := some (.tuple ⟨v :: .bool b :: l⟩, z0)
noncomputable def clkK : Value → AS → R := fun v s => tupK v (bAnd (lookB s.h clkRest) (Nat.ble 4088 s.nx)) [cellsV (s.h.get 1639) 29]
noncomputable def clkV (m : Int) : Value := .tuple ⟨[.agg ⟨clkRow m⟩, .int .i64 (.ofNat 29), .int .i64 (.ofNat 79691776)]⟩
theorem clk_tick (m v : Int) : callq SET 100000 200 11 [.pointer (some ⟨1639, 0, none⟩), opV 21 v] (stL (clkPre m) 4088) clkK =
    @Bool.rec (fun _ => R) (tupK (.agg ⟨[.int .i64 (tickE v m), .int .i64 (tickN v m), .string .empty, .slice none 0 0, .slice none 0 0]⟩) true [clkV (tickM v m)])
      (tupK (.agg ⟨[.int .i64 (tickE v m), .int .i64 0, .string .empty, .slice none 0 0, .slice none 0 0]⟩) true [clkV (tickM v m)]) (!(ieq (tickE v m) 0)) := by kernel_rfl
noncomputable def clkK2 : Value → AS → R := fun v s => tupK v (bAnd (lookB s.h clkRest) (Nat.ble 4251 s.nx)) [cellsV (s.h.get 1639) 29, cellsV (s.h.get 4250) 4]
theorem clk_status (m : Int) : callq SET 100000 200 11 [.pointer (some ⟨1639, 0, none⟩), opV 22 0] (stL (clkPre m) 4088) clkK2 =
    tupK (.agg ⟨[.int .i64 (.ofNat 0), .int .i64 (.ofNat 0), .string .empty, .slice none 0 0, .slice (some ⟨4250, 0, none⟩) 4 9]⟩) true [clkV m, .tuple ⟨[.agg ⟨[.int .i64 (.ofNat 0), .int .i64 (.ofNat 0), .int .i64 (.ofNat 0), .int .i64 m]⟩, .int .i64 (.ofNat 4), .int .i64 (.ofNat 0)]⟩] := by kernel_rfl

theorem clk_spec {args : List Value} {s : AS} {ans : Value} {m : Int} (h : callq SET 100000 200 11 args s clkK = tupK ans true [clkV m]) :
    ∃ s', callA SET 100000 200 11 args s = some (ans, s') ∧ 4088 ≤ s'.nx ∧ ∀ b x, (b, x) ∈ clkPre m → ∃ o, s'.h.get b = some o ∧ Wk x.mk o := by
  rw [callq_eq] at h
  cases hc : callA SET 100000 200 11 args s with
  | none => rw [hc] at h; cases h
  | some p =>
    obtain ⟨v, s'⟩ := p
    rw [hc] at h
    have h : clkK v s' = tupK ans true [clkV m] := h
    unfold clkK tupK at h
    simp only [Option.some.injEq, Prod.mk.injEq, Value.tuple.injEq, Array.mk.injEq, List.cons.injEq, Value.bool.injEq, and_true] at h
    obtain ⟨rfl, h2, h3⟩ := h
    obtain ⟨h4, h5⟩ := bAnd_eq h2
    obtain ⟨c, g1, g2⟩ := cellsV_spec h3
    refine ⟨s', rfl, Nat.le_of_ble_eq_true h5, fun b x hb => ?_⟩
    rcases List.mem_cons.1 hb with e | hb
    · cases e
      exact ⟨_, g1, wk_list g2⟩
    · exact lookB_eq s'.h clkRest h4 b x hb
theorem clk_spec2 {args : List Value} {s : AS} {ans : Value} {m : Int} {l : List Value} {n z : Nat} (h : callq SET 100000 200 11 args s clkK2 = tupK ans true [clkV m, .tuple ⟨[.agg ⟨l⟩, .int .i64 (.ofNat n), .int .i64 (.ofNat z)]⟩]) :
    ∃ s', callA SET 100000 200 11 args s = some (ans, s') ∧ 4251 ≤ s'.nx ∧ (∀ b x, (b, x) ∈ clkPre m → ∃ o, s'.h.get b = some o ∧ Wk x.mk o) ∧ ∃ c, s'.h.get 4250 = some (.cells c n z) ∧ c.list 4 0 = some l := by
  rw [callq_eq] at h
  cases hc : callA SET 100000 200 11 args s with
  | none => rw [hc] at h; cases h
  | some p =>
    obtain ⟨v, s'⟩ := p
    rw [hc] at h
    have h : clkK2 v s' = tupK ans true [clkV m, .tuple ⟨[.agg ⟨l⟩, .int .i64 (.ofNat n), .int .i64 (.ofNat z)]⟩] := h
    unfold clkK2 tupK at h
    simp only [Option.some.injEq, Prod.mk.injEq, Value.tuple.injEq, Array.mk.injEq, List.cons.injEq, Value.bool.injEq, and_true] at h
    obtain ⟨rfl, h2, h3, h6⟩ := h
    obtain ⟨h4, h5⟩ := bAnd_eq h2
    obtain ⟨c, g1, g2⟩ := cellsV_spec h3
    refine ⟨s', rfl, Nat.le_of_ble_eq_true h5, fun b x hb => ?_, cellsV_spec h6⟩
    rcases List.mem_cons.1 hb with e | hb
    · cases e
      exact ⟨_, g1, wk_list g2⟩
    · exact lookB_eq s'.h clkRest h4 b x hb
end
end Go.Proofs
