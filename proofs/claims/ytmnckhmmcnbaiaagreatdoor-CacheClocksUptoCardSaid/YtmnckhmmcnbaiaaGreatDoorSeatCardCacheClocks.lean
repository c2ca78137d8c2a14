/- CacheClocks: for all inputs the law returns true; the package-level variables begin as the program's text lays them. -/
import Derived.Test.YtmnckhmmcnbaiaaGreatDoorSeatClocksLaw
import Derived.Test.YtmnckhmmcnbaiaaGreatDoorSeatFactCacheClocks
import Derived.Test.YtmnckhmmcnbaiaaGreatDoorCards
import Derived.WalkKit
import Derived.ProofKit
import Derived.OpenShut
import Derived.ChangeSlices
import Derived.SizedLaws
import Derived.SevenTiedAt
import Derived.Deep.DeepHandedRow
import Derived.Deep.DeepWitnessRowRef
import Derived.Lib.LaidTab
import Derived.Lay
import Derived.LaidMore
import Derived.Stop.LaidErr
set_option linter.unusedSimpArgs false
set_option linter.unusedVariables false
namespace Go.Proofs.YtmnckhmmcnbaiaaGreatDoor.fnCacheClocks
open Go.ChangeShapes Go.WideShapes Go.ChangeAt Go.ChangeMaps Go.RowKit Go.Ax

theorem own : ownKnob Tryz.prog.godebug = none := by kernel_rfl
def z64 : List Int := [0, 1, 56, 2, 57, 49, 28, 3, 61, 58, 42, 50, 38, 29, 17, 4, 62, 47, 59, 36, 45, 43, 51, 22, 53, 39, 33, 30, 24, 18, 12, 5, 63, 55, 48, 27, 60, 41, 37, 16, 46, 35, 44, 21, 52, 32, 23, 11, 54, 26, 40, 15, 34, 20, 31, 10, 25, 14, 19, 9, 13, 8, 7, 6]
theorem g5 : Tryz.prog.globalNamed "math/bits.deBruijn64tab" = some 0 := by kernel_rfl
theorem g5t : (Tryz.prog.globals[0]?).map (·.type) = some 427 := by kernel_rfl
theorem u380 : Tryz.prog.underlying 427 = some (.array 64 5) := by kernel_rfl
theorem u5 : Tryz.prog.underlying 5 = some (.int .u8) := by kernel_rfl
theorem c5 : Tryz.prog.cellsOf 5 = 1 := by kernel_rfl
theorem c380 : Tryz.prog.cellsOf 427 = 64 := by kernel_rfl
theorem c3 : Tryz.prog.cellsOf 3 = 1 := by kernel_rfl
theorem laidOut : laidOutB Tryz.prog = true := by kernel_rfl
theorem at64 {W : World} {r : List (String × DataW Unit)} (h : laidMet Tryz.prog (("math/bits.deBruijn64tab", Rows.laid_math_bits_deBruijn64tab) :: r) W) : Lib.TabIs Tryz.prog W "math/bits.deBruijn64tab" .u8 z64 :=
  Lib.tabIs_of_head g5 g5t u380 u5 c5 c380 h
theorem tab64_of {W : World} (h : Lib.TabIs Tryz.prog W "math/bits.deBruijn64tab" .u8 z64) : TabAt W 0 tabV := by
  unfold Lib.TabIs World.var? at h
  rw [g5] at h
  simp only [Option.bind_some] at h
  match hw : W.heap[0]?, h with
  | some (.cells cs t fr), h =>
    obtain rfl := Option.some.inj h
    refine ⟨_, t, fr, hw, by kernel_rfl, fun v hv => ?_⟩
    have e : tabV = z64.map fun z => Value.int .u8 z := by kernel_rfl
    rw [e] at hv
    obtain ⟨z, _, rfl⟩ := List.mem_map.1 hv
    exact ⟨z, rfl⟩
  | none, h => cases h
  | some (.map _ _), h => cases h
set_option maxRecDepth 100000 in
theorem laidW_of {W : World} (h : laidMetH Tryz.prog Rows.cacheClocksUptoRow.laid W) : TabAt W 0 tabV := by
  rw [MakeChecks.laidMetH_plain _ _ _ (by kernel_rfl)] at h
  exact tab64_of (at64 h.tail.tail)

set_option maxRecDepth 100000 in
/-- What the walk gives, for all arguments and worlds. -/
theorem contract (H : Type) (enc : TypeId × Value → H) (W : World) (base : Nat) (args : Array Value) (ds gs : List (DataW H)) (before : List MemPlace)
    (hval : ∀ (j : Nat) t v, Tryz.f4.params[j]? = some t → args[j]? = some v → Value.okWide Tryz.prog W .any base t v)
    (hW : DataW.Whole enc Tryz.prog Tryz.f4.params.toList Rows.cacheClocksSpec.vars false W args.toList ds gs before)
    (hL : laidMetH Tryz.prog Rows.cacheClocksUptoRow.laid W) :
    Calls Tryz.prog 4 args W fun e W' => ∃ v, e = .returned v ∧ Rows.cacheClocksSpec.post enc Tryz.prog Tryz.f4 false true false false W args v W' := by
  have hW' := hW
  obtain ⟨p, q, hA0, hV, rfl, hfz, hnd⟩ := hW
  have hA : DataW.TrodAll enc Tryz.prog W 0 (fun _ => true) true Tryz.f4.params.toList args.toList ds p := hA0
  rw [Tryz.params4] at hA hval
  obtain ⟨v0, vs0, d0, ds0, p0, q0, hargs, rfl, rfl, h0, r0⟩ := trodAll_cons hA
  obtain ⟨rfl, rfl, rfl⟩ := trodAll_nil r0
  obtain rfl : args = #[v0] := by cases args; simp_all
  obtain ⟨rfl, rfl⟩ := trodVars_none hV
  clear hA0
  simp only [List.append_nil] at hW'
  have hT := laidW_of hL
  have hok := hval 0 22 v0 rfl rfl
  obtain ⟨a0, len, cap, rfl⟩ := okWide_slice Tryz.underlying22 hok
  have h0k := h0
  obtain ⟨fuel, hf⟩ := h0
  have hlt : ∀ x ∈ p0, x.block < W.heap.size := fun x hx => hW'.lt x (by simp [hx])
  have hargs : ∀ (W' : World), Below W.heap.size W W' → DataW.Trod enc Tryz.prog W' 0 (fun b => decide (b < W.heap.size)) true 22 (.slice a0 len cap) d0 p0 :=
    fun W' hn => Below.trod laidOut (by kernel_rfl) (of_decide_eq_true (by kernel_rfl)) h0k hn hlt
  have done : ∀ (e : Ending) (W' : World), e = .returned (.bool true) ∧ Below W.heap.size W W' → ∃ v, e = .returned v ∧ Rows.cacheClocksSpec.post enc Tryz.prog Tryz.f4 false true false false W #[.slice a0 len cap] v W' := fun e W' ⟨he, hb⟩ => by
    subst he
    exact ⟨_, rfl, _, _, _, [], _, [], hW', trodAll_mk1 (shut_bool Tryz.underlying4 _), trodAll_cons_mk (hargs _ hb) (trodAll_mk0), rfl, hb.frame _, fun h => by cases h⟩
  rcases open_ints Tryz.underlying22 Tryz.underlying3 c3 hf with ⟨hcs, hx⟩ | ⟨a, len', cap', zs, hcs, _, hl, hm, hz, hx, hcell, hwz⟩
  · simp [Value.cells] at hcs
    obtain ⟨rfl, rfl, rfl⟩ := hcs
    exact (clock_law (p := ⟨.slice none 0 0, []⟩) (.inl ⟨rfl, rfl⟩)  (start_inp (by decide) hT (o := none) (fun _ => rfl) (fun _ _ _ h => by cases h) _) (.nils rfl)).mono done
  · simp [Value.cells] at hcs
    obtain ⟨rfl, rfl, rfl⟩ := hcs
    obtain ⟨b, off, spot⟩ := a
    simp only [Value.okWide, Tryz.underlying22, Cell.okWide, Cell.ok, World.has] at hok
    obtain ⟨_, _, _, hspot, row, cells, hshape, _⟩ := hok
    obtain rfl : spot = none := hspot
    have hqs : b < W.heap.size := by
      rcases Nat.lt_or_ge b W.heap.size with h | h
      · exact h
      · unfold World.shape? at hshape
        simp [Array.getElem?_eq_none h] at hshape
    simp only [if_true] at hz
    have hlen : (zs.take len).length = len := by rw [List.length_take, hz]; omega
    have hs := start_inp (w0 := W) (gb := 0) (by decide) hT (o := some (b, off, cap)) (l := zs.take len) (fun h => by cases h) (fun q p c h => by
      cases h
      refine ⟨hqs, by rw [hlen]; exact hl, fun k z hk => ?_⟩
      have hk1 : k < (zs.take len).length := by
        rcases Nat.lt_or_ge k (zs.take len).length with h | h
        · exact h
        · rw [List.getElem?_eq_none h] at hk; cases hk
      rw [List.getElem?_take] at hk
      rw [if_pos (by omega)] at hk
      have := hcell k (by omega)
      rw [add_plain] at this
      rw [this, List.getD_eq_getElem?_getD, hk]
      rfl) (.slice (some ⟨1000, 0, none⟩) len (2 * len))
    exact (clock_law (p := ⟨.slice (some ⟨1000, 0, none⟩) len (2 * len), zs.take len⟩) (.inr (by rw [hlen]))  hs (start_vr hl)).mono done

/-- The world of the witness: the listed variables laid. -/
noncomputable def wits (os : Os) : World := World.laidAll Tryz.prog os Rows.cacheClocksUptoRow.laid
def wargs : Array Value := #[.slice none 0 0]

theorem laid_met (os : Os) : laidMet Tryz.prog Rows.cacheClocksUptoRow.laid ((wits os).forCall (fun _ _ => 0) ⟨#[], wargs, []⟩).memory :=
  laidMet_laidAll wargs (by kernel_rfl) (by kernel_rfl)
theorem reads (os : Os) {H : Type} (enc : TypeId × Value → H) : ∃ places, DataW.whole enc Tryz.prog ((wits os).forCall (fun _ _ => 0) ⟨#[], wargs, []⟩).memory Tryz.f4.params.toList Rows.cacheClocksSpec.vars false wargs.toList 8 = some ([.nil], [], places) :=
  ⟨[], by kernel_rfl⟩

set_option maxRecDepth 100000 in
/-- The row's step. -/
theorem liftedUpto (os : Os) (started : os.Started) (H : Type) (enc : TypeId × Value → H) (F : Stop.Interp) :
    ReturnsInHanded {} Tryz.checked os 4 .any ((Rows.OpenSpec.upto Rows.cacheClocksSpec).preRow enc Tryz.prog Tryz.f4 Rows.cacheClocksUptoRow.domain false Rows.cacheClocksUptoRow.laid) (((Rows.OpenSpec.upto Rows.cacheClocksSpec).at F).post enc Tryz.prog Tryz.f4 false true false false) := by
  obtain ⟨places, hx⟩ := reads os enc
  refine returnsInHanded_of_row (C := Tryz.checked) (s := Rows.OpenSpec.upto Rows.cacheClocksSpec) own started (by kernel_rfl) Tryz.func4
    (witness_row_atRef (enc := enc) (C := Tryz.checked) false (wits os) wargs (World.laidAll_os _ _ _) (by kernel_rfl) (by kernel_rfl) (by kernel_rfl)
      (OpenSpec.preRow_of_cond 8 hx (by kernel_rfl) (fun k hk => by cases hk; kernel_rfl) (by kernel_rfl) (by rw [MakeChecks.laidMetH_plain _ _ _ (by kernel_rfl)]; exact laid_met os))) ?_
  intro W base args ds gs before hval hW _ _ _ hL _ _
  exact contract H enc W base args ds gs before hval hW hL

theorem and2 {a b : Bool} (h : a = true) (g : b = true) : (a && b) = true := by rw [h, g]; rfl
set_option maxRecDepth 100000 in
theorem closed : joinedFacts Tryz.prog 4 Tryz.f4 (Rows.OpenSpec.upto Rows.cacheClocksSpec).bare Rows.cacheClocksUptoRow = true :=
  (and2 (and2 (and2 (and2 (and2 (and2 (and2 (and2 (and2 (and2 (and2 (and2 (and2 (and2 (and2 (and2 (and2 (and2 (and2 (and2 (and2 (and2 (and2 (and2 (and2 (and2 (and2 (and2 (and2 (and2 (and2 k0 k1) k2) k3) k4) k5) k6) k7) k8) k9) k10) k11) k12) k13) k14) k15) k16) k17) k18) k19) k20) k21) k22) k23) k24) k25) k26) k27) k28) k29) k30) k31)

theorem saidUpto : Rows.CacheClocksUptoSaid :=
  OpenClaim.holds_of_cond 4 Tryz.f4 rfl rfl rfl rfl rfl rfl rfl ⟨rfl, rfl, rfl, rfl, rfl⟩ rfl rfl rfl rfl rfl (by kernel_rfl) Tryz.func4 closed
    (of_decide_eq_true (by kernel_rfl)) (by unfold Func.isWrapper; first | (rw [if_pos (by decide +kernel)]; kernel_rfl) | (rw [if_neg (by decide +kernel)]; exact ⟨rfl, rfl⟩))
    (fun os started H enc _ F => by rw [OpenClaim.pre_eq_preRow]; exact liftedUpto os started H enc F)

end Go.Proofs.YtmnckhmmcnbaiaaGreatDoor.fnCacheClocks
