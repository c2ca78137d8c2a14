/- What the laws of chapter 20 begin with. -/
import Derived.Test.YtmnckhmmcnbaiaaGreatDoorSeatKnown
import Derived.Test.YtmnckhmmcnbaiaaGreatDoorAxH
set_option linter.unusedSimpArgs false
set_option linter.unusedVariables false
namespace Go.Proofs
open Go Go.RowKit Go.Ax
noncomputable section
def tabV : List Value := nbV 64 315684040783403026461198565492879320519372303033823910828724750665742568755751545437592878574175936176031276695822391845783248645128493468529036736594176
def startSt (p : Inp) : AS := stL (p.blocks ++ [(0, .ro tabV tabV.length)]) 1001
def z0 : AS := ⟨.e, 0⟩
theorem inp_nu {p : Inp} (h : p.Ok) : p.sv ≠ undef := by
  rcases h with ⟨h, _⟩ | h <;> rw [h] <;> exact fun e => by cases e
theorem cons_nu {l : List (Nat × Value)} (h : ∀ k v, (k, v) ∈ l → v ≠ undef) (j i : Nat) : ∀ k v, (k, v) ∈ (j, iv i) :: l → v ≠ undef := by
  intro k v hk
  rcases List.mem_cons.1 hk with e | hk
  · cases e; exact fun e => by cases e
  · exact h k v hk
theorem cons_vl {nx : Nat} {l : List (Nat × Value)} (h : ∀ k v, (k, v) ∈ l → vl nx v = true) (j i : Nat) : ∀ k v, (k, v) ∈ (j, iv i) :: l → vl nx v = true := by
  intro k v hk
  rcases List.mem_cons.1 hk with e | hk
  · cases e; rfl
  · exact h k v hk
end
end Go.Proofs
