/- This seat's machine, with kept calls of tree.Put. -/
import Derived.Test.YtmfdkldjinlmnaaGreatDoorSeatPutA
import Derived.Test.YtmfdkldjinlmnaaGreatDoorSeatPutB
import Derived.Test.YtmfdkldjinlmnaaGreatDoorSeatPutC
set_option linter.unusedSimpArgs false
set_option linter.unusedVariables false
namespace Go.Proofs
open Go Go.RowKit Go.Ax
noncomputable section
def code16 (f : FuncId) (args : List Value) (s : AS) : R := callq SE16 100000 200 f args s pairK
theorem code16_ok (f : FuncId) : POk Tryz.prog f (code16 f) := by
  intro args s v s' h i w args' hR hG hv
  exact SE16_calls 100000 200 f args s v s' (callA_of_q h) i w args' hR hG hv
def kPut : List Value → AS → R := memoP [kc9, kc10, kc11, kc16, kc17, kc18, kc23, kc24, kc25, kc29, kc31, kc36, kc38] (code16 84)
theorem kPut_ok : POk Tryz.prog 84 kPut := memoP_ok (SE16_calls 100000 200) (code16_ok 84) _ (fun m hm => by
  simp only [List.mem_cons, List.mem_nil_iff, or_false] at hm
  rcases hm with rfl | rfl | rfl | rfl | rfl | rfl | rfl | rfl | rfl | rfl | rfl | rfl | rfl
  · exact kc9_ok
  · exact kc10_ok
  · exact kc11_ok
  · exact kc16_ok
  · exact kc17_ok
  · exact kc18_ok
  · exact kc23_ok
  · exact kc24_ok
  · exact kc25_ok
  · exact kc29_ok
  · exact kc31_ok
  · exact kc36_ok
  · exact kc38_ok)
def SPrimP : T (List Value → AS → Option (Value × AS)) := SPrim16.set 84 kPut
def SEP : Env := { P := Tryz.prog, ty := Tryz.tyTab, fn := Tryz.fnTab, prim := SPrimP, back := fun g => Nat.beq g 319 }
theorem SEP_prim : PrimOk SEP := by
  intro f p hp
  have hp' : SPrimP.get f = some p := hp
  unfold SPrimP at hp'
  rw [T.get_set] at hp'
  split at hp'
  · rename_i h; subst h; cases hp'
    exact kPut_ok
  exact SE16_prim f p hp'
theorem SEP_ty : TyOk SEP := tyOk_tab Tryz.tyTab_eq
theorem SEP_fn : FnOk SEP := fnOk_tab Tryz.fnTab_eq
theorem SEP_back : BackOk SEP := fun g hg => SE_back g hg
theorem SEP_calls (F D : Nat) : CallOk Tryz.prog (callA SEP F D) := callA_sound (E := SEP) (by kernel_rfl) SEP_ty SEP_back SEP_fn SEP_prim F D
end
end Go.Proofs
