/- This seat's machine. -/
import Derived.Test.YtmnckhmmcnbaiaaGreatDoorSeatPrim
import Derived.Test.YtmnckhmmcnbaiaaGreatDoorAxE
set_option linter.unusedSimpArgs false
set_option linter.unusedVariables false
namespace Go.Proofs
open Go Go.RowKit Go.Ax

noncomputable def SPrim : T (List Value → AS → Option (Value × AS)) := ((((T.e.set 278 crcP).set 489 trimP).set 409 mCloneP).set 341 apartP).set 463 noEscP
noncomputable def SE : Env := { P := Tryz.prog, ty := Tryz.tyTab, fn := Tryz.fnTab, prim := SPrim, back := fun g => Nat.beq g 79 }

theorem SE_ty : TyOk SE := tyOk_tab Tryz.tyTab_eq
theorem SE_fn : FnOk SE := fnOk_tab Tryz.fnTab_eq
theorem SE_prim : PrimOk SE := by
  intro f p hp
  have hp' : SPrim.get f = some p := hp
  unfold SPrim at hp'
  rw [T.get_set] at hp'
  split at hp'
  · rename_i h; subst h; cases hp'
    exact noEsc_ok (fn := Tryz.f463) Tryz.func463 (by kernel_rfl) rfl (by kernel_rfl) (by kernel_rfl)
  rw [T.get_set] at hp'
  split at hp'
  · rename_i h; subst h; cases hp'
    exact apart_ok (E := SE) SE_ty (fn := Tryz.f341) (t := 226) (r := 4) Tryz.func341 (by kernel_rfl) rfl (by kernel_rfl) (by kernel_rfl) (by kernel_rfl)
  rw [T.get_set] at hp'
  split at hp'
  · rename_i h; subst h; cases hp'
    exact mClone_ok (fn := Tryz.f409) Tryz.func409 (by kernel_rfl) rfl (by kernel_rfl) (by kernel_rfl)
  rw [T.get_set] at hp'
  split at hp'
  · rename_i h; subst h; cases hp'; exact trim_ok
  rw [T.get_set] at hp'
  split at hp'
  · rename_i h; subst h; cases hp'; exact crc_ok
  · cases hp'
theorem SE_back : BackOk SE := by
  intro g hg
  have : g = 79 := Nat.eq_of_beq_eq_true hg
  subst this
  refine ⟨fun args w => ?_, back_any⟩
  have hf : Tryz.prog.funcs[79]? = some Tryz.f79 := Tryz.func79
  have hn : Tryz.f79.name ≠ "runtime.NumGoroutine" := by
    have : (Tryz.f79.name == "runtime.NumGoroutine") = false := by kernel_rfl
    simpa using this
  have hb : Tryz.f79.body ≠ none := by
    have : Tryz.f79.body.isNone = false := by kernel_rfl
    intro h; rw [h] at this; cases this
  show (callFunc 79 args).run Tryz.prog w = _
  unfold callFunc
  simp [hf, hn, hb]
theorem SE_calls (F D : Nat) : CallOk Tryz.prog (callA SE F D) := callA_sound (E := SE) (by kernel_rfl) SE_ty SE_back SE_fn SE_prim F D
end Go.Proofs
