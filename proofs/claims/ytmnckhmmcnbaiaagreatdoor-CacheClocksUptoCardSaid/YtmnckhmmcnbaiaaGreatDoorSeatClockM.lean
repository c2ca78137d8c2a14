/- The clock in the world: what the law reads of it, and what it lays beside it. -/
import Derived.Test.YtmnckhmmcnbaiaaGreatDoorSeatClockB
set_option linter.unusedSimpArgs false
set_option linter.unusedVariables false
namespace Go.Proofs
open Go Go.RowKit Go.Ax

theorem ClkW.box {m : Int} {qb qc : Nat} {U V : Nat → Prop} {w : World} (h : ClkW m qb qc U V w) : w.cell? ⟨qb, 9, none⟩ = some (.pointer (some ⟨qc, 0, none⟩)) := by
  obtain ⟨i, hR, hg, h1, h2, hu, hv⟩ := h.ex
  have e : (stL (clkPre m) 4088).h.get 1012 = some (.cells (T.e.fill 0 boxRow) 12 45088768) := by
    have hn : ((clkPre m).map (·.1)).Nodup := by
      have : (clkPre m).map (·.1) = (clkPre 0).map (·.1) := by kernel_rfl
      rw [this]
      decide +kernel
    exact stL_mem hn (clk_box m)
  obtain ⟨cs, e1, fr, y1, y2, y3, y4, y5⟩ := hR.at (P := Tryz.prog) e rfl h1
  obtain ⟨v', z1, z2⟩ := y4 9 (.pointer (some ⟨1639, 0, none⟩)) (by omega) (by kernel_rfl)
  cases z2 with | @ptr _ _ q t hi =>
  rw [h2] at hi
  cases hi
  unfold World.cell?
  rw [y1]
  simpa using z1
/-- A world that has more in it. -/
theorem ClkW.more {m : Int} {qb qc : Nat} {U V U' V' : Nat → Prop} {w w' : World} (h : ClkW m qb qc U V w) (hb : Below w.heap.size w w') (hU : ∀ q, U' q → U q ∨ w.heap.size ≤ q) (hV : ∀ q, V' q → V q ∨ w.heap.size ≤ q) : ClkW m qb qc U' V' w' := by
  obtain ⟨i, hR, hg, h1, h2, hu, hv⟩ := h.ex
  refine ⟨i, (hR.below hb).1, hg, h1, h2, fun b q t e hq => ?_, fun b q t hs e hq => ?_⟩
  · rcases hU q hq with h3 | h3
    · exact hu b q t e h3
    · unfold obA
      cases hs : (stL (clkPre m) 4088).h.get b with
      | none => rfl
      | some o =>
        have := hR.dom b q t e (.inl (by rw [hs]; simp))
        omega
  · rcases hV q hq with h3 | h3
    · exact hv b q t hs e h3
    · have := hR.dom b q t e (.inl hs)
      omega
/-- A world where only blocks of V turned. -/
theorem ClkW.turn {m : Int} {qb qc : Nat} {U V : Nat → Prop} {w w' : World} (h : ClkW m qb qc U V w) (hb : ∀ q, ¬ V q → w'.heap[q]? = w.heap[q]?) (hz : w.heap.size ≤ w'.heap.size) : ClkW m qb qc U V w' := by
  obtain ⟨i, hR, hg, h1, h2, hu, hv⟩ := h.ex
  have hd : ∀ b q t, i b = some (q, t) → (stL (clkPre m) 4088).h.get b ≠ none → w'.heap[q]? = w.heap[q]? := fun b q t e g => hb q (hv b q t g e)
  refine ⟨i, ⟨fun b o ho ha => ?_, hR.inj, hR.fresh, fun b c n z q t ho e => ?_, fun b q t e g => Nat.lt_of_lt_of_le (hR.dom b q t e g) hz⟩, hg, h1, h2, hu, hv⟩
  · obtain ⟨q, t, e, hor⟩ := hR.obj b o ho ha
    exact ⟨q, t, e, by rw [hd b q t e (by rw [ho]; simp)]; exact hor⟩
  · obtain ⟨l1, l2⟩ := hR.lim b c n z q t ho e
    exact ⟨l1, fun cs e' fr hw => l2 cs e' fr (by rw [← hd b q t e (by rw [ho]; simp)]; exact hw)⟩
end Go.Proofs
