/- This seat's machine, with sorted keys and maps laid into maps. -/
import Derived.Test.YtmnckhmmcnbaiaaGreatDoorSeatEnv16
import Derived.Test.YtmnckhmmcnbaiaaGreatDoorSeatSort
set_option linter.unusedSimpArgs false
set_option linter.unusedVariables false
namespace Go.Proofs
open Go Go.RowKit Go.Ax
noncomputable section
theorem orCode16_ok {f : FuncId} {p : List Value → AS → Option (Value × AS)} (hp : POk Tryz.prog f p) : POk Tryz.prog f (orCode p fun args s => callq SE16 100000 200 f args s pairK) := by
  intro args s v s' h i w args' hR hG hv
  unfold orCode at h
  cases hq : p args s with
  | some r =>
    rw [hq] at h
    have h : some r = some (v, s') := h
    cases h
    exact hp args s v s' hq i w args' hR hG hv
  | none =>
    rw [hq] at h
    have h : callq SE16 100000 200 f args s pairK = some (v, s') := h
    exact SE16_calls 100000 200 f args s v s' (callA_of_q h) i w args' hR hG hv
def SPrim20 : T (List Value → AS → Option (Value × AS)) := (SPrim16.set 95 (orCode (sortedP 184 3) fun args s => callq SE16 100000 200 95 args s pairK)).set 157 (orCode copyP fun args s => callq SE16 100000 200 157 args s pairK)
def SE20 : Env := { P := Tryz.prog, ty := Tryz.tyTab, fn := Tryz.fnTab, prim := SPrim20, back := fun g => Nat.beq g 79 }
theorem SE20_prim : PrimOk SE20 := by
  intro f p hp
  have hp' : SPrim20.get f = some p := hp
  unfold SPrim20 at hp'
  rw [T.get_set] at hp'
  split at hp'
  · rename_i h; subst h; cases hp'
    exact orCode16_ok (copy_ok (kt := 3) (by kernel_rfl) Tryz.func157 (by kernel_rfl) (by kernel_rfl) Tryz.copyC)
  rw [T.get_set] at hp'
  split at hp'
  · rename_i h; subst h; cases hp'
    exact orCode16_ok (sorted_ok (kt := 3) (by kernel_rfl) Tryz.func95 (by kernel_rfl) (by kernel_rfl) Tryz.sortedC)
  exact SE16_prim f p hp'
theorem SE20_ty : TyOk SE20 := tyOk_tab Tryz.tyTab_eq
theorem SE20_fn : FnOk SE20 := fnOk_tab Tryz.fnTab_eq
theorem SE20_back : BackOk SE20 := fun g hg => SE_back g hg
theorem SE20_calls (F D : Nat) : CallOk Tryz.prog (callA SE20 F D) := callA_sound (E := SE20) (by kernel_rfl) SE20_ty SE20_back SE20_fn SE20_prim F D
end
end Go.Proofs
