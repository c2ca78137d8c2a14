/- strings.Join at this dump, and what the machine with it may be asked. -/
import Derived.Shelf.Strings.OnBuilder
import Derived.Ground.NamesProg
import Derived.Test.YtcgpmbjoobilcaaGreatDoorSeatEnv21
set_option linter.unusedSimpArgs false
set_option linter.unusedVariables false
namespace Go.Proofs
open Go.Shelf
def Tryz.laysJoin_ren : Go.Shelf.Ren := ⟨fun | 156 => 23 | 165 => 41 | 166 => 42 | 169 => 40 | 240 => 62 | 241 => 63 | 276 => 98 | 277 => 99 | n => n, fun | 31 => 23 | 9 => 9 | 3 => 3 | 4 => 4 | 0 => 0 | 20 => 20 | 72 => 93 | 76 => 100 | 70 => 90 | 37 => 91 | 75 => 95 | 127 => 126 | 164 => 159 | 5 => 5 | 80 => 98 | n => n, fun | n => n⟩
theorem Tryz.laysJoin : Go.Proofs.Lays.n156 Tryz.prog Tryz.laysJoin_ren := {
 mixed := by kernel_rfl
 f156 := Tryz.func23.trans (congrArg some (by kernel_rfl))
 f165 := Tryz.func41.trans (congrArg some (by kernel_rfl))
 f166 := Tryz.func42.trans (congrArg some (by kernel_rfl))
 f169 := Tryz.func40.trans (congrArg some (by kernel_rfl))
 f240 := Tryz.func62.trans (congrArg some (by kernel_rfl))
 f241 := Tryz.func63.trans (congrArg some (by kernel_rfl))
 f276 := Tryz.func98.trans (congrArg some (by kernel_rfl))
 f277 := Tryz.func99.trans (congrArg some (by kernel_rfl))
 t0 := Tryz.underlying0
 a0 := Tryz.isAgg0
 z0 := Tryz.sizeOf0
 v0 := Tryz.zeroValue0
 t3 := Tryz.underlying3
 a3 := Tryz.isAgg3
 z3 := Tryz.sizeOf3
 v3 := Tryz.zeroValue3
 t4 := Tryz.underlying4
 a4 := Tryz.isAgg4
 z4 := Tryz.sizeOf4
 v4 := Tryz.zeroValue4
 t9 := Tryz.underlying9
 a9 := Tryz.isAgg9
 z9 := Tryz.sizeOf9
 v9 := Tryz.zeroValue9
 t20 := Tryz.underlying20
 a20 := Tryz.isAgg20
 z20 := Tryz.sizeOf20
 v20 := Tryz.zeroValue20
 t31 := Tryz.underlying23
 a31 := Tryz.isAgg23
 z31 := Tryz.sizeOf23
 v31 := Tryz.zeroValue23
 t37 := Tryz.underlying91
 a37 := Tryz.isAgg91
 z37 := Tryz.sizeOf91
 v37 := Tryz.zeroValue91
 t70 := Tryz.underlying90
 a70 := Tryz.isAgg90
 z70 := Tryz.sizeOf90
 v70 := Tryz.zeroValue90
 t72 := Tryz.underlying93
 a72 := Tryz.isAgg93
 z72 := Tryz.sizeOf93
 v72 := Tryz.zeroValue93
 t75 := Tryz.underlying95
 a75 := Tryz.isAgg95
 z75 := Tryz.sizeOf95
 v75 := Tryz.zeroValue95
 t76 := Tryz.underlying100
 a76 := Tryz.isAgg100
 z76 := Tryz.sizeOf100
 v76 := Tryz.zeroValue100
 t127 := Tryz.underlying126
 a127 := Tryz.isAgg126
 z127 := Tryz.sizeOf126
 v127 := Tryz.zeroValue126
 t164 := Tryz.underlying159
 a164 := Tryz.isAgg159
 z164 := Tryz.sizeOf159
 v164 := Tryz.zeroValue159 }
theorem Tryz.joinX : Builder.Extra Tryz.prog Tryz.laysJoin_ren := {
 sizeBuilder := by kernel_rfl
 liesBuilder := by kernel_rfl
 t5 := Tryz.underlying5
 a5 := Tryz.isAgg5
 z5 := Tryz.sizeOf5
 v5 := Tryz.zeroValue5
 infoByte := by kernel_rfl
 cellsByte := by kernel_rfl
 sizeByte := by kernel_rfl
 neB5 := by decide }
open Go.RowKit Go.Ax
theorem Tryz.joinOk : POk Tryz.prog 23 joinP :=
 joinP_ok (fn := Tryz.f23) Tryz.func23 (by kernel_rfl) (by kernel_rfl)
  (fun a c sep w => Any.strings_Join_none Tryz.laysJoin Tryz.joinX a c sep w)
  (fun bk o c xs sep w h1 h2 h3 h4 h5 => Any.strings_Join Tryz.laysJoin Tryz.joinX bk o c xs sep w h1 h2 h3 h4 h5)
theorem SE21_prim : PrimOk SE21 := by
 intro f p hp
 have hp' : SPrim21.get f = some p := hp
 unfold SPrim21 at hp'
 rw [T.get_set] at hp'
 split at hp'
 ·rename_i h; subst h; cases hp'
  exact idx_ok (fn := Tryz.f258) Tryz.func258 (by kernel_rfl) (by kernel_rfl) (by kernel_rfl) (by kernel_rfl)
 rw [T.get_set] at hp'
 split at hp'
 ·rename_i h; subst h; cases hp'
  exact Tryz.joinOk
 exact SE20_prim f p hp'
theorem SE21_ty : TyOk SE21 := tyOk_tab Tryz.tyTab_eq
theorem SE21_fn : FnOk SE21 := fnOk_tab Tryz.fnTab_eq
theorem SE21_back : BackOk SE21 := fun g hg => SE_back g hg
theorem SE21_calls (F D : Nat) : CallOk Tryz.prog (callA SE21 F D) := callA_sound (E := SE21) (by kernel_rfl) SE21_ty SE21_back SE21_fn SE21_prim F D
end Go.Proofs
