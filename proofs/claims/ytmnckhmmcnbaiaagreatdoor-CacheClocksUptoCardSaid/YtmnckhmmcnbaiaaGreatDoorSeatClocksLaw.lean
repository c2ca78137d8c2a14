/- CacheClocks: the law, from a start of the machine. -/
import Derived.Test.YtmnckhmmcnbaiaaGreatDoorSeatClockL
set_option linter.unusedSimpArgs false
set_option linter.unusedVariables false
namespace Go.Proofs
open Go Go.RowKit Go.Lib Go.Ax
theorem clock_law {w0 : World} {p : Inp} (hp : p.Ok) {i0 : Io} (hs : Started i0 p 0 tabV w0) {sv' : Value} (hv : VR i0 p.sv sv') :
    Calls Tryz.prog 4 ⟨[sv']⟩ w0 fun e w' => e = .returned (.bool true) ∧ Below w0.heap.size w0 w' := by
  have hin : p.In (stL (p.blocks ++ [(0, .ro tabV tabV.length)]) 1001) := Inp.In.stL p _ _
  have hB : BegW (fun q => q < w0.heap.size) w0 := by
    refine ⟨⟨i0.cut 1001, hs.rel.cutS begPre_ok (fun b x hb => ?_), fun g hg => ?_, fun _ _ _ _ _ => beg_fixed _ _⟩⟩
    · cases List.mem_singleton.1 hb
      cases hl : p.l with
      | nil =>
        have e : p.blocks = [] := by unfold Inp.blocks; rw [hl]
        rw [e]
        exact ⟨_, stL_mem (pre := [] ++ [(0, .ro tabV tabV.length)]) (by decide) (by simp), Wk.refl _ rfl⟩
      | cons x l =>
        have e : p.blocks = [(1000, .ro (intsV p.l) p.l.length)] := Inp.blocks_cons (by rw [hl]; simp)
        rw [e]
        have hn : (([(1000, OS.ro (intsV p.l) p.l.length)] ++ [(0, OS.ro tabV tabV.length)] : List (Nat × OS)).map (·.1)).Nodup := by
          show ([1000, 0] : List Nat).Nodup
          decide
        exact ⟨_, stL_mem hn (by simp), Wk.refl _ rfl⟩
    · rw [cut_lt (by omega)]
      exact hs.gl g hg
  rcases hp with ⟨h1, h2⟩ | h1
  · rw [h1] at hv
    cases hv
    exact clk_law none 0 0 w0 hB (fun i hi => by omega)
  · rw [h1] at hv
    cases hv with | @slice _ _ q t _ _ pp c' hi hn c1 c2 ho hl =>
    refine clk_law _ _ _ _ hB (fun i hlt => ?_)
    obtain ⟨v, hr⟩ := hin.rd hlt
    obtain ⟨v', e1, e2⟩ := hs.rel.rd hr hi
    cases e2
    have hpp : pp = t := by
      rcases ho with ho | ho
      · exact ho
      · omega
    subst hpp
    refine ⟨q, pp, v, rfl, ?_, e1⟩
    exact hs.rel.dom 1000 q pp hi (.inr (Nat.le_refl _))
end Go.Proofs
