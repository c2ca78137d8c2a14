/- What the statement of chapter 16 asks first (its known) is true: the machine runs it in the kernel, five calls of it kept. -/
import Derived.Test.YtmfdkldjinlmnaaGreatDoorSeatMake
import Derived.Test.YtmfdkldjinlmnaaGreatDoorSeatWrite
import Derived.Test.YtmfdkldjinlmnaaGreatDoorSeatKn17
set_option linter.unusedSimpArgs false
set_option linter.unusedVariables false
namespace Go.Proofs
open Go Go.RowKit Go.Ax
noncomputable section

def codeP (f : FuncId) (args : List Value) (s : AS) : R := callq SEP 100000 200 f args s pairK
theorem codeP_ok (f : FuncId) : POk Tryz.prog f (codeP f) := by
  intro args s v s' h i w args' hR hG hv
  exact SEP_calls 100000 200 f args s v s' (callA_of_q h) i w args' hR hG hv
def kMake : List Value → AS → R := memoP [kc12, kc19, kc26] (codeP 35)
def kWrite : List Value → AS → R := memoP [kc32, kc39] (codeP 15)
theorem kMake_ok : POk Tryz.prog 35 kMake := memoP_ok (SEP_calls 100000 200) (codeP_ok 35) _ (fun m hm => by
  simp only [List.mem_cons, List.mem_nil_iff, or_false] at hm
  rcases hm with rfl | rfl | rfl
  · exact kc12_ok
  · exact kc19_ok
  · exact kc26_ok)
theorem kWrite_ok : POk Tryz.prog 15 kWrite := memoP_ok (SEP_calls 100000 200) (codeP_ok 15) _ (fun m hm => by
  simp only [List.mem_cons, List.mem_nil_iff, or_false] at hm
  rcases hm with rfl | rfl
  · exact kc32_ok
  · exact kc39_ok)
def SPrimK : T (List Value → AS → Option (Value × AS)) := (SPrimP.set 35 kMake).set 15 kWrite
def SEK : Env := { P := Tryz.prog, ty := Tryz.tyTab, fn := Tryz.fnTab, prim := SPrimK, back := fun g => Nat.beq g 319 }
theorem SEK_prim : PrimOk SEK := by
  intro f p hp
  have hp' : SPrimK.get f = some p := hp
  unfold SPrimK at hp'
  rw [T.get_set] at hp'
  split at hp'
  · rename_i h; subst h; cases hp'
    exact kWrite_ok
  rw [T.get_set] at hp'
  split at hp'
  · rename_i h; subst h; cases hp'
    exact kMake_ok
  exact SEP_prim f p hp'
theorem SEK_ty : TyOk SEK := tyOk_tab Tryz.tyTab_eq
theorem SEK_fn : FnOk SEK := fnOk_tab Tryz.fnTab_eq
theorem SEK_back : BackOk SEK := fun g hg => SE_back g hg
theorem SEK_calls (F D : Nat) : CallOk Tryz.prog (callA SEK F D) := callA_sound (E := SEK) (by kernel_rfl) SEK_ty SEK_back SEK_fn SEK_prim F D

theorem kn16_run : isTrueR (callq SEK 100000 200 5 [] st0 pairK) = true := by decide +kernel
theorem kn16 {w : World} (h : Tab64 w) : Calls Tryz.prog 5 #[] w fun e w' => e = .returned (.bool true) ∧ Below w.heap.size w w' := by
  obtain ⟨s', hs⟩ := isTrueR_spec kn16_run
  have hrun := callA_of_q hs
  have := calls_of_machine (SEK_calls 100000 200) (f := 5) (fn := Tryz.f5) Tryz.func5 (by kernel_rfl) (by kernel_rfl) (args := []) (args' := []) (h := st0.h) hrun (w := w) (st0_ro h) .nil
  refine Calls.mono this (fun e w' he => ?_)
  obtain ⟨v', i', h1, h2, h3⟩ := he
  cases h2
  exact ⟨h1, h3⟩
end
end Go.Proofs
