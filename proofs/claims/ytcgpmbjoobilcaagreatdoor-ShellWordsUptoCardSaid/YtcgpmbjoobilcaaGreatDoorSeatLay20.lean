/-
  DERIVED: THE SHELF's CONTRACTS AT THIS DUMP, IN PLAIN WORDS (tools/lay-plain.mjs out of 'T7.lean', which tools/lay-shelf.mjs wrote): THE SAME DECLARATIONS UNDER THE SAME NAMES: 'import', 'namespace', 'open', 'def', 'theorem' AND NOTHING ELSE: no command of the shelf's: FOR A HAND-IN. Each laying: the table of numbers ('.._ren') and one theorem, a field a fact of the dump's own or the kernel's comparison; each contract: ONE APPLICATION.
-/
import Derived.Shelf.SlGeneric
import Derived.Shelf.SlIterI.Nil
import Derived.Shelf.SortM.Plain
import Derived.Shelf.SortM.SortNone
import Derived.Shelf.SlMaps.Copy
import Derived.Ground.GgzProg
import Derived.Ground.SlgmProg
import Derived.Ground.SlmpProg
import Derived.Test.YtcgpmbjoobilcaaGreatDoorProg
set_option linter.unusedSimpArgs false
set_option linter.unusedVariables false
namespace Go.Proofs
open Go.Shelf
def Tryz.laysKeys_ren : Go.Shelf.Ren := ⟨fun | 7 => 209 | 10 => 308 | n => n, fun | 23 => 241 | 26 => 3 | 3 => 9 | 28 => 326 | 0 => 0 | 27 => 325 | 33 => 208 | 4 => 4 | n => n, fun | n => n⟩
theorem Tryz.laysKeys : Go.Proofs.SlLaysZI.n7 Tryz.prog Tryz.laysKeys_ren := {
 mixed := by kernel_rfl
 f7 := ⟨Tryz.f209.name, by decide, Tryz.func209.trans (congrArg some (by kernel_rfl))⟩
 f10 := ⟨Tryz.f308.name, by decide, Tryz.func308.trans (congrArg some (by kernel_rfl))⟩
 t0 := Tryz.underlying0
 a0 := Tryz.isAgg0
 z0 := Tryz.sizeOf0
 v0 := Tryz.zeroValue0
 t4 := Tryz.underlying4
 a4 := Tryz.isAgg4
 z4 := Tryz.sizeOf4
 v4 := Tryz.zeroValue4
 t23 := Tryz.underlying241
 a23 := Tryz.isAgg241
 z23 := Tryz.sizeOf241
 v23 := Tryz.zeroValue241
 t26 := Tryz.underlying3
 a26 := Tryz.isAgg3
 z26 := Tryz.sizeOf3
 v26 := Tryz.zeroValue3
 t27 := Tryz.underlying325
 a27 := Tryz.isAgg325
 z27 := Tryz.sizeOf325
 v27 := Tryz.zeroValue325
 t28 := Tryz.underlying326
 a28 := Tryz.isAgg326
 z28 := Tryz.sizeOf326
 v28 := Tryz.zeroValue326
 t33 := Tryz.underlying208
 a33 := Tryz.isAgg208
 z33 := Tryz.sizeOf208
 v33 := Tryz.zeroValue208 }
def Tryz.laysSorted_ren : Go.Shelf.Ren := ⟨fun | 6 => 208 | 8 => 306 | 9 => 307 | 11 => 398 | 13 => 400 | 12 => 399 | 23 => 467 | 24 => 158 | 14 => 458 | 15 => 459 | 16 => 460 | 17 => 461 | 18 => 462 | 19 => 463 | 20 => 464 | 21 => 465 | 22 => 466 | 25 => 506 | 26 => 507 | 27 => 508 | 28 => 509 | 29 => 510 | 30 => 481 | 31 => 532 | n => n, fun | 26 => 3 | 28 => 326 | 24 => 24 | 0 => 0 | 3 => 3 | 37 => 97 | 48 => 234 | 50 => 37 | 4 => 4 | 40 => 541 | 39 => 540 | 45 => 114 | 5 => 5 | 9 => 9 | 51 => 583 | 55 => 123 | 57 => 606 | 58 => 425 | 33 => 208 | n => n, fun | n => n⟩
theorem Tryz.laysSorted : Go.Proofs.SlLaysZI.n6 Tryz.prog Tryz.laysSorted_ren := {
 mixed := by kernel_rfl
 f6 := ⟨Tryz.f208.name, by decide, Tryz.func208.trans (congrArg some (by kernel_rfl))⟩
 f8 := ⟨Tryz.f306.name, by decide, Tryz.func306.trans (congrArg some (by kernel_rfl))⟩
 f11 := ⟨Tryz.f398.name, by decide, Tryz.func398.trans (congrArg some (by kernel_rfl))⟩
 t0 := Tryz.underlying0
 a0 := Tryz.isAgg0
 z0 := Tryz.sizeOf0
 v0 := Tryz.zeroValue0
 t24 := Tryz.underlying24
 a24 := Tryz.isAgg24
 z24 := Tryz.sizeOf24
 v24 := Tryz.zeroValue24
 t26 := Tryz.underlying3
 a26 := Tryz.isAgg3
 z26 := Tryz.sizeOf3
 v26 := Tryz.zeroValue3
 t28 := Tryz.underlying326
 a28 := Tryz.isAgg326
 z28 := Tryz.sizeOf326
 v28 := Tryz.zeroValue326
 i26 := by kernel_rfl }
def Tryz.laysSort_ren : Go.Shelf.Ren := ⟨fun | 5 => 307 | 8 => 400 | 7 => 399 | 19 => 467 | 20 => 158 | 10 => 458 | 11 => 459 | 12 => 460 | 13 => 461 | 14 => 462 | 15 => 463 | 16 => 464 | 17 => 465 | 18 => 466 | 30 => 506 | 31 => 507 | 32 => 508 | 33 => 509 | 34 => 510 | 35 => 481 | 40 => 532 | n => n, fun | 23 => 24 | 25 => 3 | 3 => 3 | 32 => 97 | 22 => 24 | 0 => 0 | 44 => 234 | 46 => 37 | 4 => 4 | 36 => 541 | 35 => 540 | 41 => 114 | 5 => 5 | 9 => 9 | 53 => 583 | 57 => 123 | 63 => 606 | 64 => 425 | n => n, fun | n => n⟩
theorem Tryz.laysSort : Go.Proofs.SlLaysM.n5 Tryz.prog Tryz.laysSort_ren := {
 mixed := by kernel_rfl
 f5 := ⟨Tryz.f307.name, by decide, Tryz.func307.trans (congrArg some (by kernel_rfl))⟩
 f7 := ⟨Tryz.f399.name, by decide, Tryz.func399.trans (congrArg some (by kernel_rfl))⟩
 f8 := Tryz.func400.trans (congrArg some (by kernel_rfl))
 f10 := ⟨Tryz.f458.name, by decide, Tryz.func458.trans (congrArg some (by kernel_rfl))⟩
 f11 := ⟨Tryz.f459.name, by decide, Tryz.func459.trans (congrArg some (by kernel_rfl))⟩
 f12 := ⟨Tryz.f460.name, by decide, Tryz.func460.trans (congrArg some (by kernel_rfl))⟩
 f13 := ⟨Tryz.f461.name, by decide, Tryz.func461.trans (congrArg some (by kernel_rfl))⟩
 f14 := ⟨Tryz.f462.name, by decide, Tryz.func462.trans (congrArg some (by kernel_rfl))⟩
 f15 := ⟨Tryz.f463.name, by decide, Tryz.func463.trans (congrArg some (by kernel_rfl))⟩
 f16 := ⟨Tryz.f464.name, by decide, Tryz.func464.trans (congrArg some (by kernel_rfl))⟩
 f17 := ⟨Tryz.f465.name, by decide, Tryz.func465.trans (congrArg some (by kernel_rfl))⟩
 f18 := ⟨Tryz.f466.name, by decide, Tryz.func466.trans (congrArg some (by kernel_rfl))⟩
 f19 := Tryz.func467.trans (congrArg some (by kernel_rfl))
 f20 := Tryz.func158.trans (congrArg some (by kernel_rfl))
 f30 := ⟨Tryz.f506.name, by decide, Tryz.func506.trans (congrArg some (by kernel_rfl))⟩
 f31 := Tryz.func507.trans (congrArg some (by kernel_rfl))
 f32 := Tryz.func508.trans (congrArg some (by kernel_rfl))
 f33 := ⟨Tryz.f509.name, by decide, Tryz.func509.trans (congrArg some (by kernel_rfl))⟩
 f34 := ⟨Tryz.f510.name, by decide, Tryz.func510.trans (congrArg some (by kernel_rfl))⟩
 f35 := ⟨Tryz.f481.name, by decide, Tryz.func481.trans (congrArg some (by kernel_rfl))⟩
 f40 := ⟨Tryz.f532.name, by decide, Tryz.func532.trans (congrArg some (by kernel_rfl))⟩
 t0 := Tryz.underlying0
 a0 := Tryz.isAgg0
 z0 := Tryz.sizeOf0
 v0 := Tryz.zeroValue0
 t3 := Tryz.underlying3
 a3 := Tryz.isAgg3
 z3 := Tryz.sizeOf3
 v3 := Tryz.zeroValue3
 t4 := Tryz.underlying4
 a4 := Tryz.isAgg4
 z4 := Tryz.sizeOf4
 v4 := Tryz.zeroValue4
 t5 := Tryz.underlying5
 a5 := Tryz.isAgg5
 z5 := Tryz.sizeOf5
 v5 := Tryz.zeroValue5
 t9 := Tryz.underlying9
 a9 := Tryz.isAgg9
 z9 := Tryz.sizeOf9
 v9 := Tryz.zeroValue9
 t22 := Tryz.underlying24
 a22 := Tryz.isAgg24
 z22 := Tryz.sizeOf24
 v22 := Tryz.zeroValue24
 t23 := Tryz.underlying24
 a23 := Tryz.isAgg24
 z23 := Tryz.sizeOf24
 v23 := Tryz.zeroValue24
 t25 := Tryz.underlying3
 a25 := Tryz.isAgg3
 z25 := Tryz.sizeOf3
 v25 := Tryz.zeroValue3
 t32 := Tryz.underlying97
 a32 := Tryz.isAgg97
 z32 := Tryz.sizeOf97
 v32 := Tryz.zeroValue97
 t35 := Tryz.underlying540
 a35 := Tryz.isAgg540
 z35 := Tryz.sizeOf540
 v35 := Tryz.zeroValue540
 t36 := Tryz.underlying541
 a36 := Tryz.isAgg541
 z36 := Tryz.sizeOf541
 v36 := Tryz.zeroValue541
 t41 := Tryz.underlying114
 a41 := Tryz.isAgg114
 z41 := Tryz.sizeOf114
 v41 := Tryz.zeroValue114
 t44 := Tryz.underlying234
 a44 := Tryz.isAgg234
 z44 := Tryz.sizeOf234
 v44 := Tryz.zeroValue234
 t46 := Tryz.underlying37
 a46 := Tryz.isAgg37
 z46 := Tryz.sizeOf37
 v46 := Tryz.zeroValue37
 t53 := Tryz.underlying583
 a53 := Tryz.isAgg583
 z53 := Tryz.sizeOf583
 v53 := Tryz.zeroValue583
 t57 := Tryz.underlying123
 a57 := Tryz.isAgg123
 z57 := Tryz.sizeOf123
 v57 := Tryz.zeroValue123
 t63 := Tryz.underlying606
 a63 := Tryz.isAgg606
 z63 := Tryz.sizeOf606
 v63 := Tryz.zeroValue606
 t64 := Tryz.underlying425
 a64 := Tryz.isAgg425
 z64 := Tryz.sizeOf425
 v64 := Tryz.zeroValue425 }
def Tryz.laysCopy_ren : Go.Shelf.Ren := ⟨fun | 5 => 211 | n => n, fun | 23 => 241 | 24 => 241 | 26 => 3 | 27 => 9 | 0 => 0 | 4 => 4 | n => n, fun | n => n⟩
theorem Tryz.laysCopy : Go.Proofs.SlLaysX.n5 Tryz.prog Tryz.laysCopy_ren := {
 mixed := by kernel_rfl
 f5 := ⟨Tryz.f211.name, by decide, Tryz.func211.trans (congrArg some (by kernel_rfl))⟩
 t0 := Tryz.underlying0
 a0 := Tryz.isAgg0
 z0 := Tryz.sizeOf0
 v0 := Tryz.zeroValue0
 t4 := Tryz.underlying4
 a4 := Tryz.isAgg4
 z4 := Tryz.sizeOf4
 v4 := Tryz.zeroValue4
 t23 := Tryz.underlying241
 a23 := Tryz.isAgg241
 z23 := Tryz.sizeOf241
 v23 := Tryz.zeroValue241
 t24 := Tryz.underlying241
 a24 := Tryz.isAgg241
 z24 := Tryz.sizeOf241
 v24 := Tryz.zeroValue241
 a26 := Tryz.isAgg3
 z26 := Tryz.sizeOf3
 a27 := Tryz.isAgg9
 z27 := Tryz.sizeOf9 }
end Go.Proofs
