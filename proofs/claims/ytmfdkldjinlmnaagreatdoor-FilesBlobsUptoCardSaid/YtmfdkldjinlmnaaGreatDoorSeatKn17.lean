/- What the statement of chapter 17 asks first (its known) is true: the machine runs it in the kernel. -/
import Derived.Test.YtmfdkldjinlmnaaGreatDoorSeatEnv
set_option linter.unusedSimpArgs false
set_option linter.unusedVariables false
namespace Go.Proofs
open Go Go.RowKit Go.Ax

/-- The table that math/bits reads. -/
def tab64 : List Nat := [0, 1, 56, 2, 57, 49, 28, 3, 61, 58, 42, 50, 38, 29, 17, 4, 62, 47, 59, 36, 45, 43, 51, 22, 53, 39, 33, 30, 24, 18, 12, 5, 63, 55, 48, 27, 60, 41, 37, 16, 46, 35, 44, 21, 52, 32, 23, 11, 54, 26, 40, 15, 34, 20, 31, 10, 25, 14, 19, 9, 13, 8, 7, 6]
noncomputable def tab64V : List Value := tab64.map fun n => .int .u8 (.ofNat n)
noncomputable def st0 : AS := ⟨(T.e : T AObj).set 5 (.ro (T.e.fill 0 tab64V) 64), 1000⟩
noncomputable def isTrueR : R → Bool
  | some (.bool true, _) => true
  | _ => false
theorem isTrueR_spec {r : R} (h : isTrueR r = true) : ∃ s, r = some (.bool true, s) := by
  unfold isTrueR at h
  split at h
  · exact ⟨_, rfl⟩
  · cases h

theorem kn17_run : isTrueR (callq SE 100000 200 9 [] st0 pairK) = true := by decide +kernel

/-- The table lies in its block. -/
def Tab64 (w : World) : Prop := ∃ cs e fr, w.heap[5]? = some (.cells cs e fr) ∧ 64 ≤ cs.size ∧ ∀ k v, k < 64 → tab64V[k]? = some v → cs[k]? = some v

theorem st0_ro {w : World} (h : Tab64 w) : ∀ b o, st0.h.get b = some o → b < 1000 ∧ b < w.heap.size ∧ (∃ c n, o = .ro c n) ∧ OR io0 o w.heap[b]? 0 := by
  intro b o hb
  obtain ⟨cs, e, fr, h1, h2, h3⟩ := h
  have hb' : ((T.e : T AObj).set 5 (.ro (T.e.fill 0 tab64V) 64)).get b = some o := hb
  rw [T.get_set] at hb'
  split at hb'
  · rename_i he
    subst he
    cases hb'
    refine ⟨by omega, lt_of_some h1, ⟨_, _, rfl⟩, cs, e, fr, h1, by omega, fun k v hk hv => ?_⟩
    have hlen : tab64V.length = 64 := rfl
    rw [get_fill0 _ _ (by omega)] at hv
    refine ⟨v, by rw [Nat.zero_add]; exact h3 k v hk hv, ?_⟩
    unfold tab64V at hv
    rw [List.getElem?_map] at hv
    cases hg : tab64[k]? with
    | none => rw [hg] at hv; cases hv
    | some n => rw [hg] at hv; cases hv; exact .int _ _
  · rw [T.get_e] at hb'; cases hb'

theorem kn17 {w : World} (h : Tab64 w) : Calls Tryz.prog 9 #[] w fun e w' => e = .returned (.bool true) ∧ Below w.heap.size w w' := by
  obtain ⟨s', hs⟩ := isTrueR_spec kn17_run
  have hrun := callA_of_q hs
  have := calls_of_machine (SE_calls 100000 200) (f := 9) (fn := Tryz.f9) Tryz.func9 (by kernel_rfl) (by kernel_rfl) (args := []) (args' := []) (h := st0.h) hrun (w := w) (st0_ro h) .nil
  refine Calls.mono this (fun e w' he => ?_)
  obtain ⟨v', i', h1, h2, h3⟩ := he
  cases h2
  exact ⟨h1, h3⟩
end Go.Proofs
