/-
  The shelf's layings at this dump, in plain words (lay-plain).
-/
import Derived.Shelf.SlGeneric
import Derived.Shelf.SlIterI.Nil
import Derived.Shelf.SortM.Plain
import Derived.Shelf.SortM.SortNone
import Derived.Shelf.SlMaps.Copy
import Derived.Ground.GgzProg
import Derived.Ground.SlgmProg
import Derived.Ground.SlmpProg
import Derived.Test.YtmnckhmmcnbaiaaGreatDoorProg
set_option linter.unusedSimpArgs false
set_option linter.unusedVariables false
namespace Go.Proofs
open Go.Shelf
def Tryz.laysKeys_ren : Go.Shelf.Ren := ⟨fun | 7 => 96 | 10 => 184 | n => n, fun | 23 => 161 | 26 => 3 | 3 => 9 | 28 => 190 | 0 => 0 | 27 => 189 | 33 => 81 | 4 => 4 | n => n, fun | n => n⟩
theorem Tryz.laysKeys : Go.Proofs.SlLaysZI.n7 Tryz.prog Tryz.laysKeys_ren := {
  mixed := by kernel_rfl
  f7 := ⟨Tryz.f96.name, by decide, Tryz.func96.trans (congrArg some (by kernel_rfl))⟩
  f10 := ⟨Tryz.f184.name, by decide, Tryz.func184.trans (congrArg some (by kernel_rfl))⟩
  t0 := Tryz.underlying0
  a0 := Tryz.isAgg0
  z0 := Tryz.sizeOf0
  v0 := Tryz.zeroValue0
  t4 := Tryz.underlying4
  a4 := Tryz.isAgg4
  z4 := Tryz.sizeOf4
  v4 := Tryz.zeroValue4
  t23 := Tryz.underlying161
  a23 := Tryz.isAgg161
  z23 := Tryz.sizeOf161
  v23 := Tryz.zeroValue161
  t26 := Tryz.underlying3
  a26 := Tryz.isAgg3
  z26 := Tryz.sizeOf3
  v26 := Tryz.zeroValue3
  t27 := Tryz.underlying189
  a27 := Tryz.isAgg189
  z27 := Tryz.sizeOf189
  v27 := Tryz.zeroValue189
  t28 := Tryz.underlying190
  a28 := Tryz.isAgg190
  z28 := Tryz.sizeOf190
  v28 := Tryz.zeroValue190
  t33 := Tryz.underlying81
  a33 := Tryz.isAgg81
  z33 := Tryz.sizeOf81
  v33 := Tryz.zeroValue81 }
def Tryz.laysSorted_ren : Go.Shelf.Ren := ⟨fun | 6 => 95 | 8 => 182 | 9 => 183 | 11 => 289 | 13 => 253 | 12 => 290 | 23 => 352 | 24 => 353 | 14 => 389 | 15 => 390 | 16 => 391 | 17 => 392 | 18 => 393 | 19 => 394 | 20 => 395 | 21 => 396 | 22 => 397 | 25 => 448 | 26 => 421 | 27 => 422 | 28 => 449 | 29 => 450 | 30 => 388 | 31 => 486 | n => n, fun | 26 => 3 | 28 => 190 | 24 => 22 | 0 => 0 | 3 => 3 | 37 => 219 | 48 => 460 | 50 => 46 | 4 => 4 | 40 => 454 | 39 => 453 | 45 => 361 | 5 => 5 | 9 => 9 | 51 => 514 | 55 => 518 | 57 => 555 | 58 => 289 | 33 => 81 | n => n, fun | n => n⟩
theorem Tryz.laysSorted : Go.Proofs.SlLaysZI.n6 Tryz.prog Tryz.laysSorted_ren := {
  mixed := by kernel_rfl
  f6 := ⟨Tryz.f95.name, by decide, Tryz.func95.trans (congrArg some (by kernel_rfl))⟩
  f8 := ⟨Tryz.f182.name, by decide, Tryz.func182.trans (congrArg some (by kernel_rfl))⟩
  f11 := ⟨Tryz.f289.name, by decide, Tryz.func289.trans (congrArg some (by kernel_rfl))⟩
  t0 := Tryz.underlying0
  a0 := Tryz.isAgg0
  z0 := Tryz.sizeOf0
  v0 := Tryz.zeroValue0
  t24 := Tryz.underlying22
  a24 := Tryz.isAgg22
  z24 := Tryz.sizeOf22
  v24 := Tryz.zeroValue22
  t26 := Tryz.underlying3
  a26 := Tryz.isAgg3
  z26 := Tryz.sizeOf3
  v26 := Tryz.zeroValue3
  t28 := Tryz.underlying190
  a28 := Tryz.isAgg190
  z28 := Tryz.sizeOf190
  v28 := Tryz.zeroValue190
  i26 := by kernel_rfl }
def Tryz.laysSort_ren : Go.Shelf.Ren := ⟨fun | 5 => 183 | 8 => 253 | 7 => 290 | 19 => 352 | 20 => 353 | 10 => 389 | 11 => 390 | 12 => 391 | 13 => 392 | 14 => 393 | 15 => 394 | 16 => 395 | 17 => 396 | 18 => 397 | 30 => 448 | 31 => 421 | 32 => 422 | 33 => 449 | 34 => 450 | 35 => 388 | 40 => 486 | n => n, fun | 23 => 22 | 25 => 3 | 3 => 3 | 32 => 219 | 22 => 22 | 0 => 0 | 44 => 460 | 46 => 46 | 4 => 4 | 36 => 454 | 35 => 453 | 41 => 361 | 5 => 5 | 9 => 9 | 53 => 514 | 57 => 518 | 63 => 555 | 64 => 289 | n => n, fun | n => n⟩
theorem Tryz.laysSort : Go.Proofs.SlLaysM.n5 Tryz.prog Tryz.laysSort_ren := {
  mixed := by kernel_rfl
  f5 := ⟨Tryz.f183.name, by decide, Tryz.func183.trans (congrArg some (by kernel_rfl))⟩
  f7 := ⟨Tryz.f290.name, by decide, Tryz.func290.trans (congrArg some (by kernel_rfl))⟩
  f8 := Tryz.func253.trans (congrArg some (by kernel_rfl))
  f10 := ⟨Tryz.f389.name, by decide, Tryz.func389.trans (congrArg some (by kernel_rfl))⟩
  f11 := ⟨Tryz.f390.name, by decide, Tryz.func390.trans (congrArg some (by kernel_rfl))⟩
  f12 := ⟨Tryz.f391.name, by decide, Tryz.func391.trans (congrArg some (by kernel_rfl))⟩
  f13 := ⟨Tryz.f392.name, by decide, Tryz.func392.trans (congrArg some (by kernel_rfl))⟩
  f14 := ⟨Tryz.f393.name, by decide, Tryz.func393.trans (congrArg some (by kernel_rfl))⟩
  f15 := ⟨Tryz.f394.name, by decide, Tryz.func394.trans (congrArg some (by kernel_rfl))⟩
  f16 := ⟨Tryz.f395.name, by decide, Tryz.func395.trans (congrArg some (by kernel_rfl))⟩
  f17 := ⟨Tryz.f396.name, by decide, Tryz.func396.trans (congrArg some (by kernel_rfl))⟩
  f18 := ⟨Tryz.f397.name, by decide, Tryz.func397.trans (congrArg some (by kernel_rfl))⟩
  f19 := Tryz.func352.trans (congrArg some (by kernel_rfl))
  f20 := Tryz.func353.trans (congrArg some (by kernel_rfl))
  f30 := ⟨Tryz.f448.name, by decide, Tryz.func448.trans (congrArg some (by kernel_rfl))⟩
  f31 := Tryz.func421.trans (congrArg some (by kernel_rfl))
  f32 := Tryz.func422.trans (congrArg some (by kernel_rfl))
  f33 := ⟨Tryz.f449.name, by decide, Tryz.func449.trans (congrArg some (by kernel_rfl))⟩
  f34 := ⟨Tryz.f450.name, by decide, Tryz.func450.trans (congrArg some (by kernel_rfl))⟩
  f35 := ⟨Tryz.f388.name, by decide, Tryz.func388.trans (congrArg some (by kernel_rfl))⟩
  f40 := ⟨Tryz.f486.name, by decide, Tryz.func486.trans (congrArg some (by kernel_rfl))⟩
  t0 := Tryz.underlying0
  a0 := Tryz.isAgg0
  z0 := Tryz.sizeOf0
  v0 := Tryz.zeroValue0
  t3 := Tryz.underlying3
  a3 := Tryz.isAgg3
  z3 := Tryz.sizeOf3
  v3 := Tryz.zeroValue3
  t4 := Tryz.underlying4
  a4 := Tryz.isAgg4
  z4 := Tryz.sizeOf4
  v4 := Tryz.zeroValue4
  t5 := Tryz.underlying5
  a5 := Tryz.isAgg5
  z5 := Tryz.sizeOf5
  v5 := Tryz.zeroValue5
  t9 := Tryz.underlying9
  a9 := Tryz.isAgg9
  z9 := Tryz.sizeOf9
  v9 := Tryz.zeroValue9
  t22 := Tryz.underlying22
  a22 := Tryz.isAgg22
  z22 := Tryz.sizeOf22
  v22 := Tryz.zeroValue22
  t23 := Tryz.underlying22
  a23 := Tryz.isAgg22
  z23 := Tryz.sizeOf22
  v23 := Tryz.zeroValue22
  t25 := Tryz.underlying3
  a25 := Tryz.isAgg3
  z25 := Tryz.sizeOf3
  v25 := Tryz.zeroValue3
  t32 := Tryz.underlying219
  a32 := Tryz.isAgg219
  z32 := Tryz.sizeOf219
  v32 := Tryz.zeroValue219
  t35 := Tryz.underlying453
  a35 := Tryz.isAgg453
  z35 := Tryz.sizeOf453
  v35 := Tryz.zeroValue453
  t36 := Tryz.underlying454
  a36 := Tryz.isAgg454
  z36 := Tryz.sizeOf454
  v36 := Tryz.zeroValue454
  t41 := Tryz.underlying361
  a41 := Tryz.isAgg361
  z41 := Tryz.sizeOf361
  v41 := Tryz.zeroValue361
  t44 := Tryz.underlying460
  a44 := Tryz.isAgg460
  z44 := Tryz.sizeOf460
  v44 := Tryz.zeroValue460
  t46 := Tryz.underlying46
  a46 := Tryz.isAgg46
  z46 := Tryz.sizeOf46
  v46 := Tryz.zeroValue46
  t53 := Tryz.underlying514
  a53 := Tryz.isAgg514
  z53 := Tryz.sizeOf514
  v53 := Tryz.zeroValue514
  t57 := Tryz.underlying518
  a57 := Tryz.isAgg518
  z57 := Tryz.sizeOf518
  v57 := Tryz.zeroValue518
  t63 := Tryz.underlying555
  a63 := Tryz.isAgg555
  z63 := Tryz.sizeOf555
  v63 := Tryz.zeroValue555
  t64 := Tryz.underlying289
  a64 := Tryz.isAgg289
  z64 := Tryz.sizeOf289
  v64 := Tryz.zeroValue289 }
def Tryz.laysCopy_ren : Go.Shelf.Ren := ⟨fun | 5 => 157 | n => n, fun | 23 => 161 | 24 => 161 | 26 => 3 | 27 => 9 | 0 => 0 | 4 => 4 | n => n, fun | n => n⟩
theorem Tryz.laysCopy : Go.Proofs.SlLaysX.n5 Tryz.prog Tryz.laysCopy_ren := {
  mixed := by kernel_rfl
  f5 := ⟨Tryz.f157.name, by decide, Tryz.func157.trans (congrArg some (by kernel_rfl))⟩
  t0 := Tryz.underlying0
  a0 := Tryz.isAgg0
  z0 := Tryz.sizeOf0
  v0 := Tryz.zeroValue0
  t4 := Tryz.underlying4
  a4 := Tryz.isAgg4
  z4 := Tryz.sizeOf4
  v4 := Tryz.zeroValue4
  t23 := Tryz.underlying161
  a23 := Tryz.isAgg161
  z23 := Tryz.sizeOf161
  v23 := Tryz.zeroValue161
  t24 := Tryz.underlying161
  a24 := Tryz.isAgg161
  z24 := Tryz.sizeOf161
  v24 := Tryz.zeroValue161
  a26 := Tryz.isAgg3
  z26 := Tryz.sizeOf3
  a27 := Tryz.isAgg9
  z27 := Tryz.sizeOf9 }
end Go.Proofs
