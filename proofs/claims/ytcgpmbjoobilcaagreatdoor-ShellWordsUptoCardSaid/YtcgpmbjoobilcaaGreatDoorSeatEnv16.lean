/- This seat's machine, with the readings of the device, the insertions of pairs and the counts of bytes. -/
import Derived.Test.YtcgpmbjoobilcaaGreatDoorSeatEnv
import Derived.Test.YtcgpmbjoobilcaaGreatDoorSgB
import Derived.Test.YtcgpmbjoobilcaaGreatDoorSgC
import Derived.Test.YtcgpmbjoobilcaaGreatDoorAxG
set_option linter.unusedSimpArgs false
set_option linter.unusedVariables false
namespace Go.Proofs
open Go Go.RowKit Go.Ax
noncomputable section
def orCode (p : List Value → AS → Option (Value × AS)) (els : List Value → AS → R) (args : List Value) (s : AS) : R := @Option.rec (Value × AS) (fun _ => R) (els args s) (fun r => some r) (p args s)
theorem orCode_ok {f : FuncId} {p : List Value → AS → Option (Value × AS)} (hp : POk Tryz.prog f p) : POk Tryz.prog f (orCode p fun args s => callq SE 100000 200 f args s pairK) := by
 intro args s v s' h i w args' hR hG hv
 unfold orCode at h
 cases hq : p args s with
 | some r =>
  rw [hq] at h
  have h : some r = some (v, s') := h
  cases h
  exact hp args s v s' hq i w args' hR hG hv
 | none =>
  rw [hq] at h
  have h : callq SE 100000 200 f args s pairK = some (v, s') := h
  exact SE_calls 100000 200 f args s v s' (callA_of_q h) i w args' hR hG hv
def SPrim16 : T (List Value → AS → Option (Value × AS)) := ((SPrim.set 72 (orCode readP fun args s => callq SE 100000 200 72 args s pairK)).set 197 (orCode insP fun args s => callq SE 100000 200 197 args s pairK)).set 152 cntP
def SE16 : Env := { P := Tryz.prog, ty := Tryz.tyTab, fn := Tryz.fnTab, prim := SPrim16, back := fun g => Nat.beq g 212 }
theorem SE16_prim : PrimOk SE16 := by
 intro f p hp
 have hp' : SPrim16.get f = some p := hp
 unfold SPrim16 at hp'
 rw [T.get_set] at hp'
 split at hp'
 ·rename_i h; subst h; cases hp'
  exact cnt_ok (fn := Tryz.f152) Tryz.func152 (by kernel_rfl) rfl (by kernel_rfl) (by kernel_rfl)
 rw [T.get_set] at hp'
 split at hp'
 ·rename_i h; subst h; cases hp'
  exact orCode_ok ins_ok
 rw [T.get_set] at hp'
 split at hp'
 ·rename_i h; subst h; cases hp'
  exact orCode_ok read_ok
 exact SE_prim f p hp'
theorem SE16_ty : TyOk SE16 := tyOk_tab Tryz.tyTab_eq
theorem SE16_fn : FnOk SE16 := fnOk_tab Tryz.fnTab_eq
theorem SE16_back : BackOk SE16 := fun g hg => SE_back g hg
theorem SE16_calls (F D : Nat) : CallOk Tryz.prog (callA SE16 F D) := callA_sound (E := SE16) (by kernel_rfl) SE16_ty SE16_back SE16_fn SE16_prim F D
end
end Go.Proofs
