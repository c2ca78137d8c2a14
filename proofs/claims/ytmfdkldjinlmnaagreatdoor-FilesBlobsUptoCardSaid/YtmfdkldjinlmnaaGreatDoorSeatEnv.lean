/- This seat's machine. -/
import Derived.Test.YtmfdkldjinlmnaaGreatDoorSeatPrim
import Derived.Test.YtmfdkldjinlmnaaGreatDoorAxE
set_option linter.unusedSimpArgs false
set_option linter.unusedVariables false
namespace Go.Proofs
open Go Go.RowKit Go.Ax

noncomputable def SPrim : T (List Value → AS → Option (Value × AS)) := ((((T.e.set 119 crcP).set 362 trimP).set 291 mCloneP).set 311 apartP).set 359 noEscP
noncomputable def SE : Env := { P := Tryz.prog, ty := Tryz.tyTab, fn := Tryz.fnTab, prim := SPrim, back := fun g => Nat.beq g 319 }

theorem SE_ty : TyOk SE := tyOk_tab Tryz.tyTab_eq
theorem SE_fn : FnOk SE := fnOk_tab Tryz.fnTab_eq
theorem SE_prim : PrimOk SE := by
  intro f p hp
  have hp' : SPrim.get f = some p := hp
  unfold SPrim at hp'
  rw [T.get_set] at hp'
  split at hp'
  · rename_i h; subst h; cases hp'
    exact noEsc_ok (fn := Tryz.f359) Tryz.func359 (by kernel_rfl) rfl (by kernel_rfl) (by kernel_rfl)
  rw [T.get_set] at hp'
  split at hp'
  · rename_i h; subst h; cases hp'
    exact apart_ok (E := SE) SE_ty (fn := Tryz.f311) (t := 125) (r := 4) Tryz.func311 (by kernel_rfl) rfl (by kernel_rfl) (by kernel_rfl) (by kernel_rfl)
  rw [T.get_set] at hp'
  split at hp'
  · rename_i h; subst h; cases hp'
    exact mClone_ok (fn := Tryz.f291) Tryz.func291 (by kernel_rfl) rfl (by kernel_rfl) (by kernel_rfl)
  rw [T.get_set] at hp'
  split at hp'
  · rename_i h; subst h; cases hp'; exact trim_ok
  rw [T.get_set] at hp'
  split at hp'
  · rename_i h; subst h; cases hp'; exact crc_ok
  · cases hp'
theorem SE_back : BackOk SE := by
  intro g hg
  have : g = 319 := Nat.eq_of_beq_eq_true hg
  subst this
  refine ⟨fun args w => ?_, back_any⟩
  have hf : Tryz.prog.funcs[319]? = some Tryz.f319 := Tryz.func319
  have hn : Tryz.f319.name ≠ "runtime.NumGoroutine" := by
    have : (Tryz.f319.name == "runtime.NumGoroutine") = false := by kernel_rfl
    simpa using this
  have hb : Tryz.f319.body ≠ none := by
    have : Tryz.f319.body.isNone = false := by kernel_rfl
    intro h; rw [h] at this; cases this
  show (callFunc 319 args).run Tryz.prog w = _
  unfold callFunc
  simp [hf, hn, hb]
theorem SE_calls (F D : Nat) : CallOk Tryz.prog (callA SE F D) := callA_sound (E := SE) (by kernel_rfl) SE_ty SE_back SE_fn SE_prim F D
end Go.Proofs
