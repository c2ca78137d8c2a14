/- The laws of lines. -/
import Derived.Test.YtcgpmbjoobilcaaGreatDoorFnF
import Derived.Test.YtcgpmbjoobilcaaGreatDoorFnC
set_option linter.unusedSimpArgs false
set_option linter.unusedVariables false
namespace Go.Cis
open Go Go.Ax Go.Lx Go.Proofs
set_option maxRecDepth 100000
theorem to_sp (L P : List Asn) (x : OpD) : Sp SEL 16 [.agg ⟨opC x⟩] L P (fun r L' P' => r = .agg ⟨opC x⟩ ∧ L' = L ∧ P' = P) := by
 refine Sp.body (fn := Tryz.f16) (N := 17) (by kernel_rfl) (by kernel_rfl) rfl (by kernel_rfl) rfl ?_
 refine .seq (.region ?_)
 refine .bx (cs := [_, _, _, _, _, _, _]) fun b1 => ?_
 refine .nw (cs := [.int .i64 0, S [], S [], .int .i64 0, .int .i64 0, .int .i64 0, S []]) fun b2 => ?_
 refine .nil ?_
 refine .seq (.region ?_)
 refine .pu .fa ?_
 refine .ld ?_
 refine .pu .fa ?_
 refine .ld ?_
 refine .pu .fa ?_
 refine .ld ?_
 refine .pu .fa ?_
 refine .ld ?_
 refine .pu .fa ?_
 refine .ld ?_
 refine .pu .fa ?_
 refine .ld ?_
 refine .pu .fa ?_
 refine .ld ?_
 refine .pu (.bd (vs := [_, _, _, _, _, _, _])) ?_
 refine .st (vs := [_, _, _, _, _, _, _]) ?_
 refine .nil ?_
 refine .ret ?_
 exact ⟨_, .cell rfl .l0 rfl .nil, _, _, .d2, rfl, rfl, rfl⟩
theorem of_sp (L P : List Asn) (x : OpD) : Sp SEL 17 [.agg ⟨opC x⟩] L P (fun r L' P' => r = .agg ⟨opC x⟩ ∧ L' = L ∧ P' = P) := by
 refine Sp.body (fn := Tryz.f17) (N := 17) (by kernel_rfl) (by kernel_rfl) rfl (by kernel_rfl) rfl ?_
 refine .seq (.region ?_)
 refine .bx (cs := [_, _, _, _, _, _, _]) fun b1 => ?_
 refine .nw (cs := [.int .i64 0, S [], S [], .int .i64 0, .int .i64 0, .int .i64 0, S []]) fun b2 => ?_
 refine .nil ?_
 refine .seq (.region ?_)
 refine .pu .fa ?_
 refine .ld ?_
 refine .pu .fa ?_
 refine .ld ?_
 refine .pu .fa ?_
 refine .ld ?_
 refine .pu .fa ?_
 refine .ld ?_
 refine .pu .fa ?_
 refine .ld ?_
 refine .pu .fa ?_
 refine .ld ?_
 refine .pu .fa ?_
 refine .ld ?_
 refine .pu (.bd (vs := [_, _, _, _, _, _, _])) ?_
 refine .st (vs := [_, _, _, _, _, _, _]) ?_
 refine .nil ?_
 refine .ret ?_
 exact ⟨_, .cell rfl .l0 rfl .nil, _, _, .d2, rfl, rfl, rfl⟩
theorem opEqT {al : Al} {x y : Operand} {r : Nat} (a : OpD) (hx : evl al x = some (.agg ⟨opC a⟩) := by rfl) (hy : evl al y = some (.agg ⟨opC a⟩) := by rfl) : Pu SEL al (.binOp .eql 42 x y r) (.bool true) := by
 have := opEq42 (r := r) a a hx hy
 rwa [decide_eq_true rfl] at this
theorem lines_sp (L P : List Asn) (hT : RoN 2 tabV ∈ P) (hN : Top ∈ P) (hK : Kn P) (s : Bs) (hl : s.length ≤ 10000000000) {x : OpD} (hx : OpOk x) : Sp SEL 5 [S s, .agg ⟨opC x⟩] L P (fun r L' P' => r = .bool true) := by
 refine Sp.body (fn := Tryz.f5) (N := 54) (by kernel_rfl) (by kernel_rfl) rfl (by kernel_rfl) rfl ?_
 refine .seq (.region ?_)
 refine .bx (cs := [_, _, _, _, _, _, _]) fun b3 => ?_
 refine .ent .pt ?_
 refine .pu .as ?_
 refine .nil ?_
 refine .seq (.seq (.region ?_))
 refine .call (known_sp _ _ (.tail _ hT) (.tail _ hN)) ?_; rintro _ L P' ⟨rfl, rfl, rfl⟩
 have hK2 : Kn (Pt b3 (opC x) (tz 0 42) :: P) := hK.mono fun a h => .tail _ h
 refine .pu .nt ?_
 refine .nil ?_
 refine .no rfl ?_
 refine .skip ?_
 refine .seq (.region ?_)
 refine .pu .mv ?_
 refine .call (rlparse_sp _ _ s hl) ?_; rintro _ L P' ⟨rfl, rfl, rfl⟩
 refine .pu .mv ?_
 refine .pu .ex ?_
 refine .pu .ex ?_
 refine .nw (cs := [.int .i64 0, S [], S [], .int .i64 0, .int .i64 0, .int .i64 0, S []]) fun b5 => ?_
 refine .st (vs := [_, _, _, _, _, _, _]) ?_
 refine .pu .as ?_
 refine .nil ?_
 refine .seq (.region ?_)
 refine .pu .mv ?_
 refine .call (lparse_sp _ _ s hl hK2) ?_; rintro _ L P' ⟨rfl, rfl, rfl⟩
 refine .pu .mv ?_
 refine .pu .ex ?_
 refine .pu .ex ?_
 refine .nw (cs := [.int .i64 0, S [], S [], .int .i64 0, .int .i64 0, .int .i64 0, S []]) fun b7 => ?_
 refine .st (vs := [_, _, _, _, _, _, _]) ?_
 refine .pu .as ?_
 refine .nil ?_
 refine .seq (.region ?_)
 refine .lda (vs := [_, _, _, _, _, _, _]) ?_
 refine .call (rline_sp _ _ hx) ?_; rintro _ L P' ⟨rfl, rfl, rfl⟩
 refine .pu .mv ?_
 refine .pu .ex ?_
 refine .pu .ex ?_
 refine .pu .as ?_
 refine .pu .as ?_
 refine .nil ?_
 refine .seq (.region ?_)
 refine .lda (vs := [_, _, _, _, _, _, _]) ?_
 refine .call (to_sp _ _ x) ?_; rintro _ L P' ⟨rfl, rfl, rfl⟩
 refine .call (line_sp _ _ hx hK2) ?_; rintro _ L P' ⟨rfl, rfl, rfl⟩
 refine .pu .mv ?_
 refine .pu .ex ?_
 refine .pu .ex ?_
 refine .pu .as ?_
 refine .pu .as ?_
 refine .nil ?_
 refine .seq (.drawn (by kernel_rfl) fun base => ?_)
 refine .lo 0 1 .ld .mk ?_
 refine .lo 0 0 .ld .mk ?_
 refine .call (of_sp _ _ ((parseOp s).getD (op0 0))) ?_; rintro _ L P' ⟨rfl, rfl, rfl⟩
 refine .pu (opEqT ((parseOp s).getD (op0 0))) ?_
 refine .pu .mv ?_
 refine .pu .mv ?_
 refine .pu .mv ?_
 refine .pu (.cy (hq := rfl)) ?_
 refine .pu .pk ?_
 refine .pu .mv ?_
 refine .pu .mv ?_
 refine .pu .mv ?_
 refine .pu (.seq (q := true) (hq := by simp)) ?_
 refine .pu .pk ?_
 refine .pu .mv ?_
 refine .pu .mv ?_
 refine .pu .mv ?_
 refine .pu (.cy (hq := rfl)) ?_
 refine .pu .pk ?_
 refine .pu .as ?_
 refine .nil (.cons (.yes .mk (.skip .nil)) (.cons (.yes .mk (.yes .mk .nil)) .nil)) ?_
 refine .ret ?_
 exact ⟨_, .tmp rfl .nil, _, _, .refl _ _, rfl⟩
end Go.Cis
/- What is read is what is written. -/
namespace Go.Cis
open Go Go.Ax Go.Lx Go.Proofs
set_option maxRecDepth 100000
end Go.Cis
/- The law of inverses. -/
namespace Go.Cis
open Go Go.Ax Go.Lx Go.Proofs
set_option maxRecDepth 100000
end Go.Cis
