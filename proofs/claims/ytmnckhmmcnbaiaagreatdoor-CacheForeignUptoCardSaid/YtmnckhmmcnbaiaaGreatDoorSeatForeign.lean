/- CacheForeign: the law's code, its loop, what comes behind it. -/
import Derived.Test.YtmnckhmmcnbaiaaGreatDoorSeatBegin
import Derived.Test.YtmnckhmmcnbaiaaGreatDoorSeatKfA
import Derived.Test.YtmnckhmmcnbaiaaGreatDoorAxJ
set_option linter.unusedSimpArgs false
set_option linter.unusedVariables false
namespace Go.Proofs
open Go Go.RowKit Go.Ax
noncomputable section
noncomputable def kFreshF : List Value → AS → R := memoP [kf1] (code20 9)
theorem kFreshF_ok : POk Tryz.prog 9 kFreshF := memoP_ok (SE20_calls 100000 200) (code20_ok 9) _ (fun m hm => by
  simp only [List.mem_cons, List.mem_nil_iff, or_false] at hm
  subst hm
  exact kf1_ok)
noncomputable def SPrimF : T (List Value → AS → Option (Value × AS)) := (SPrim20.set 8 kKnown).set 9 kFreshF
theorem SPrimF_ok : ∀ f p, SPrimF.get f = some p → POk Tryz.prog f p := prim_set (E := SE20) (prim_set (E := SE20) SE20_prim kKnown_ok) kFreshF_ok
noncomputable def SEF : Env := envOf SPrimF
theorem SEF_calls : CallOk Tryz.prog (callA SEF 100000 200) := envOf_calls SPrimF_ok 100000 200
theorem SEF_draw : DrawOk SEF (callA SEF 100000 200) := drawOk (E := SEF) (by kernel_rfl) (envOf_ty _) SEF_calls
noncomputable def p0 : Inp := ⟨.slice none 0 0, []⟩
noncomputable def repV (n : Nat) (v : Value) : List Value := @Nat.rec (fun _ => List Value) [] (fun _ ih => v :: ih) n
noncomputable def repV2 (n : Nat) : List Value := @Nat.rec (fun _ => List Value) [] (fun _ ih => .slice none 0 0 :: .bool false :: ih) n
noncomputable def fPreA : List (Nat × OS) := [(0, .ro (nbV 64 315684040783403026461198565492879320519372303033823910828724750665742568755751545437592878574175936176031276695822391845783248645128493468529036736594176) 64),
    (1003, .cells [.int .i64 (.ofNat 120), .int .i64 (.ofNat 160), .int .i64 (.ofNat 14), .int .i64 (.ofNat 3), .float .f64 0, .float .f64 0, .float .f64 0] 7 33554432),
    (1004, .cells (repV2 296) 592 0),
    (1005, .cells [.slice (some ⟨1004, 0, none⟩) 296 593, .slice none 0 0, .bool false, .bool false, .int .i64 (.ofNat 0)] 5 84934656),
    (1015, .cells [.int .i64 (.ofNat 120), .int .i64 (.ofNat 160), .int .i64 (.ofNat 14), .int .i64 (.ofNat 3), .float .f64 0, .float .f64 0, .float .f64 0, .pointer (some ⟨1008, 0, none⟩), .pointer (some ⟨1018, 0, none⟩), .pointer (some ⟨1642, 0, none⟩), .slice (some ⟨1013, 0, none⟩) 1 3, .int .i64 (.ofNat 0)] 12 45088768),
    (1017, .map []),
    (1018, .cells [.map (some 1017), .int .i64 (.ofNat 0), .string .empty, .slice none 0 0, .int .i64 (.ofNat 0)] 5 96468992)]
noncomputable def fPre : List (Nat × OS) := fPreA ++ [(4091, .cells (nbV 256 0) 256 0)]
noncomputable def fPreR (v : Value) : List (Nat × OS) := fPreA ++ [(4091, .cells (repV 256 v) 256 0)]
noncomputable def fC : Code := (Tryz.f5.body).getD .skip
theorem fC_eq : Tryz.f5.body = some fC := by kernel_rfl
noncomputable def fD : Code := dropS 7 fC
noncomputable def fR : Code := headS (headS fD)
noncomputable def fB : Code := bodyB (bodyB (tailS (headS fD)))
noncomputable def fO1 : Array Oper := opsOf (headS (headS fB))
noncomputable def fO2 : Array Oper := opsOf (bodyB (headS (tailS fB)))
noncomputable def fO3 : Array Oper := opsOf (tailS (tailS fB))
noncomputable def fE : Code := dropS 8 fC
noncomputable def fO4 : Array Oper := opsOf (headS (headS fE))
noncomputable def fCd : Code := tailS (headS fE)
noncomputable def fZ : Code := dropS 9 fC
noncomputable def fRest : List Oper := fO4.toList.drop 5
theorem fD_eq : dropS 7 fC = .seq (.seq fR (.block 0 (.loop fB))) fE := by kernel_rfl
theorem fB_eq : fB = .seq (.seq (.region 10 fO1 false) (.cond (.tmp 46) .skip (.exit 0))) (.seq (.block 1 (.region 12 fO2 false)) (.region 11 fO3 false)) := by kernel_rfl
theorem fE_eq : fE = .seq (.seq (.region 13 fO4 false) fCd) fZ := by kernel_rfl
theorem fO4_eq : fO4.toList = nthO fO4 0 :: nthO fO4 1 :: nthO fO4 2 :: nthO fO4 3 :: nthO fO4 4 :: fRest := by kernel_rfl
theorem fH1 : HeadOps2 fO1 11 10 43 50 := by
  refine ⟨nthO fO1 0, nthO fO1 1, nthO fO1 2, nthO fO1 3, cTys (nthO fO1 2).op, xTy (nthO fO1 3).op, yTy (nthO fO1 3).op, ?_, ⟨?_, ?_, ?_⟩, ⟨?_, ?_, ?_⟩, ⟨?_, ?_, ?_⟩, ⟨?_, ?_, ?_⟩, ?_⟩ <;> kernel_rfl
theorem fH2 : FillOps fO2 11 10 1 49 50 3 5 := by
  refine ⟨nthO fO2 0, nthO fO2 1, nthO fO2 2, nthO fO2 3, nthO fO2 4, nthO fO2 5, ?_, ⟨?_, ?_, ?_⟩, ⟨?_, ?_, ?_⟩, ⟨?_, ?_, ?_⟩, ⟨?_, ?_, ?_⟩, ⟨?_, ?_, ?_⟩, ⟨?_, ?_, ?_⟩⟩ <;> kernel_rfl
theorem fH3 : IncOps fO3 11 47 := by
  refine ⟨nthO fO3 0, nthO fO3 1, nthO fO3 2, xTy (nthO fO3 1).op, yTy (nthO fO3 1).op, ?_, ⟨?_, ?_, ?_⟩, ⟨?_, ?_, ?_⟩, ⟨?_, ?_, ?_⟩⟩ <;> kernel_rfl

noncomputable def fTl (x y : Int) : List (Nat × Value) := [(0, .int .i64 x), (1, .int .i64 y), (5, .pointer (some ⟨1003, 0, none⟩)), (6, .pointer (some ⟨1005, 0, none⟩)), (8, .pointer (some ⟨1015, 0, none⟩)), (10, .slice (some ⟨4091, 0, none⟩) 256 513)]
theorem f_a (x y : Int) : codeq SEF (callq SEF 100000 200) 100000 (mkC SEF 82 (takeS 7 fC)) (T.e.fill 0 [.int .i64 x, .int .i64 y]) (startSt p0) (outK fPre 4092 ((fTl x y).map (·.1))) = some (.tuple ⟨.int .i64 (xN .nor) :: .bool true :: (fTl x y).map (·.2)⟩, z0) := by kernel_rfl
theorem f_b (x y : Int) : codeq SEF (callq SEF 100000 200) 100000 (mkC SEF 82 fR) (tmL (fTl x y)) (stL (p0.blocks ++ fPre) 4092) (outK fPre 4092 (((11, iv 0) :: fTl x y).map (·.1))) = some (.tuple ⟨.int .i64 (xN .nor) :: .bool true :: ((11, iv 0) :: fTl x y).map (·.2)⟩, z0) := by kernel_rfl
noncomputable def fTm (k : Nat) (x y u : Int) : Tm := (((((tmL (fTl x y)).set 54 (.pointer (some ⟨1005, 0, none⟩))).set 55 (.int .i64 x)).set 56 (.int .u64 u)).set 57 (.int .u64 (.ofNat k))).set 58 (iv k)
noncomputable def fRun (k : Nat) (x y u : Int) (v : Value) : R := runq (fRest.map (mkPer SEF 82 fO4.toList)) SEF (callq SEF 100000 200) (fTm k x y u) (stL (p0.blocks ++ fPreR v) 4092) fun tm s => codeq SEF (callq SEF 100000 200) 100000 (mkC SEF 82 fCd) tm s (nxK fun tm s => codeq SEF (callq SEF 100000 200) 100000 (mkC SEF 82 fZ) tm s (retK 4))
end
end Go.Proofs
