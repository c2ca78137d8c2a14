/- This seat's machine. -/
import Derived.Test.YtcgpmbjoobilcaaGreatDoorSeatPrim
import Derived.Test.YtcgpmbjoobilcaaGreatDoorAxE
set_option linter.unusedSimpArgs false
set_option linter.unusedVariables false
namespace Go.Proofs
open Go Go.RowKit Go.Ax
noncomputable def SPrim : T (List Value → AS → Option (Value × AS)) := ((((T.e.set 379 crcP).set 524 trimP).set 383 mCloneP).set 299 apartP).set 98 noEscP
noncomputable def SE : Env := { P := Tryz.prog, ty := Tryz.tyTab, fn := Tryz.fnTab, prim := SPrim, back := fun g => Nat.beq g 212 }
theorem SE_ty : TyOk SE := tyOk_tab Tryz.tyTab_eq
theorem SE_fn : FnOk SE := fnOk_tab Tryz.fnTab_eq
theorem SE_prim : PrimOk SE := by
 intro f p hp
 have hp' : SPrim.get f = some p := hp
 unfold SPrim at hp'
 rw [T.get_set] at hp'
 split at hp'
 ·rename_i h; subst h; cases hp'
  exact noEsc_ok (fn := Tryz.f98) Tryz.func98 (by kernel_rfl) rfl (by kernel_rfl) (by kernel_rfl)
 rw [T.get_set] at hp'
 split at hp'
 ·rename_i h; subst h; cases hp'
  exact apart_ok (E := SE) SE_ty (fn := Tryz.f299) (t := 170) (r := 4) Tryz.func299 (by kernel_rfl) rfl (by kernel_rfl) (by kernel_rfl) (by kernel_rfl)
 rw [T.get_set] at hp'
 split at hp'
 ·rename_i h; subst h; cases hp'
  exact mClone_ok (fn := Tryz.f383) Tryz.func383 (by kernel_rfl) rfl (by kernel_rfl) (by kernel_rfl)
 rw [T.get_set] at hp'
 split at hp'
 ·rename_i h; subst h; cases hp'; exact trim_ok
 rw [T.get_set] at hp'
 split at hp'
 ·rename_i h; subst h; cases hp'; exact crc_ok
 ·cases hp'
theorem SE_back : BackOk SE := by
 intro g hg
 have : g = 212 := Nat.eq_of_beq_eq_true hg
 subst this
 refine ⟨fun args w => ?_, back_any⟩
 have hf : Tryz.prog.funcs[212]? = some Tryz.f212 := Tryz.func212
 have hn : Tryz.f212.name ≠ "runtime.NumGoroutine" := by
  have : (Tryz.f212.name == "runtime.NumGoroutine") = false := by kernel_rfl
  simpa using this
 have hb : Tryz.f212.body ≠ none := by
  have : Tryz.f212.body.isNone = false := by kernel_rfl
  intro h; rw [h] at this; cases this
 show (callFunc 212 args).run Tryz.prog w = _
 unfold callFunc
 simp [hf, hn, hb]
theorem SE_calls (F D : Nat) : CallOk Tryz.prog (callA SE F D) := callA_sound (E := SE) (by kernel_rfl) SE_ty SE_back SE_fn SE_prim F D
end Go.Proofs
