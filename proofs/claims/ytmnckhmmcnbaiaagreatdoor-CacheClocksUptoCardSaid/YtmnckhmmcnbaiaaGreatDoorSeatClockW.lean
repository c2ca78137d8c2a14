/- The clock in the world: what Do(Tick) and Do(Status) answer and leave. -/
import Derived.Test.YtmnckhmmcnbaiaaGreatDoorSeatClock
import Derived.Test.YtmnckhmmcnbaiaaGreatDoorAxJ
set_option linter.unusedSimpArgs false
set_option linter.unusedVariables false
namespace Go.Proofs
open Go Go.RowKit Go.Ax

/-- A cache at this time lies in this world; the blocks of U are none of its own that turn, those of V none of its own. -/
structure ClkW (m : Int) (qb qc : Nat) (U V : Nat → Prop) (w : World) : Prop where
  ex : ∃ i : Io, Rel i (stL (clkPre m) 4088) w ∧ Gl i ∧ i 1012 = some (qb, 0) ∧ i 1639 = some (qc, 0) ∧ (∀ b q t, i b = some (q, t) → U q → fixed (obA (stL (clkPre m) 4088) b) = true) ∧ ∀ b q t, (stL (clkPre m) 4088).h.get b ≠ none → i b = some (q, t) → ¬ V q

theorem clk_get (m : Int) (b : Nat) : (stL (clkPre m) 4088).h.get b = if b = 1639 then (stL (clkPre m) 4088).h.get 1639 else (stL clkRest 4088).h.get b := by
  by_cases h : b = 1639
  · rw [if_pos h, h]
  · rw [if_neg h]
    unfold clkPre
    show (T.pk (T.e.lay (mkL clkRest)) 1639 _).get b = _
    rw [T.pk_eq]
    exact (T.get_set _ _ _ _).trans (if_neg h)
theorem clk_get0 (m : Int) : (stL (clkPre m) 4088).h.get 1639 = some (.cells (T.e.fill 0 (clkRow m)) 29 79691776) := by
  unfold clkPre
  show (T.pk (T.e.lay (mkL clkRest)) 1639 (some (.cells (T.e.fill 0 (clkRow m)) 29 79691776))).get 1639 = _
  rw [T.pk_eq]
  exact (T.get_set _ _ _ _).trans (if_pos rfl)
theorem clk_fixed (m m' : Int) (b : Nat) : fixed (obA (stL (clkPre m) 4088) b) = fixed (obA (stL (clkPre m') 4088) b) := by
  by_cases h : b = 1639
  · subst h
    unfold obA
    rw [clk_get0 m, clk_get0 m']
    rfl
  · unfold obA
    rw [clk_get m b, clk_get m' b, if_neg h, if_neg h]
theorem clkPre_ok (m : Int) : preL 4088 (clkPre m) = true := by kernel_rfl

theorem clk_dom {m m' : Int} {b : Nat} (h : (stL (clkPre m) 4088).h.get b ≠ none) : (stL (clkPre m') 4088).h.get b ≠ none := by
  by_cases e : b = 1639
  · subst e
    rw [clk_get0]
    simp
  · rw [clk_get, if_neg e] at h ⊢
    exact h
theorem ClkW.step {m m' : Int} {qb qc : Nat} {U V : Nat → Prop} {w w' : World} {i i' : Io} {s' : AS} (hR : Rel i (stL (clkPre m) 4088) w) (hg : Gl i) (h1 : i 1012 = some (qb, 0)) (h2 : i 1639 = some (qc, 0))
    (hu : ∀ b q t, i b = some (q, t) → U q → fixed (obA (stL (clkPre m) 4088) b) = true) (hv : ∀ b q t, (stL (clkPre m) 4088).h.get b ≠ none → i b = some (q, t) → ¬ V q) (hU : ∀ q, U q → q < w.heap.size) (hV : ∀ q, V q → q < w.heap.size) (hR' : Rel i' s' w') (hF : Fr i (stL (clkPre m) 4088) w i' s' w')
    (hs : ∀ b x, (b, x) ∈ clkPre m' → ∃ o, s'.h.get b = some o ∧ Wk x.mk o) : ClkW m' qb qc U V w' ∧ ∀ q, U q → w'.heap[q]? = w.heap[q]? := by
  refine ⟨⟨i'.cut 4088, hR'.cutS (clkPre_ok m') hs, fun g hg' => ?_, ?_, ?_, fun b q t e hq => ?_, fun b q t hb e hq => ?_⟩, fun q hq => hF.keep q (hU q hq) (fun b t e => hu b q t e hq)⟩
  · rw [cut_lt (by omega)]
    exact hF.le g _ (hg g hg')
  · rw [cut_lt (by omega)]
    exact hF.le _ _ h1
  · rw [cut_lt (by omega)]
    exact hF.le _ _ h2
  · obtain ⟨e1, e2⟩ := cut_some e
    rw [clk_fixed m' m]
    rcases hF.new b q t e1 with e3 | e3 | ⟨b0, t0, e3, e4⟩
    · exact hu b q t e3 hq
    · have := hU q hq; omega
    · rw [hu b0 q t0 e3 hq] at e4; cases e4
  · obtain ⟨e1, e2⟩ := cut_some e
    rcases hF.new b q t e1 with e3 | e3 | ⟨b0, t0, e3, e4⟩
    · exact hv b q t (clk_dom hb) e3 hq
    · have := hV q hq; omega
    · refine hv b0 q t0 (fun hn => ?_) e3 hq
      unfold obA at e4
      rw [hn] at e4
      cases e4

def opW (k v : Int) : Value := .agg #[.int .i64 k, .string .empty, .string .empty, .int .i64 0, .int .i64 0, .int .i64 v, .string .empty]
theorem opV_rel (i : Io) (k v : Int) : VR i (opV k v) (opW k v) := .agg (.cons (.int _ _) (.cons (.string _) (.cons (.string _) (.cons (.int _ _) (.cons (.int _ _) (.cons (.int _ _) (.cons (.string _) .nil)))))))

theorem enter11 (args : Array Value) (w : World) : (callFunc 11 args).run Tryz.prog w = .ok (.enter 11 args) w := enter_of Tryz.func11 (by kernel_rfl) (by kernel_rfl) _ _

theorem do_tick {m : Int} {qb qc : Nat} {U V : Nat → Prop} {w : World} (h : ClkW m qb qc U V w) (hU : ∀ q, U q → q < w.heap.size) (hV : ∀ q, V q → q < w.heap.size) (v : Int) :
    Calls Tryz.prog 11 #[.pointer (some ⟨qc, 0, none⟩), opW 21 v] w fun e w' => e = .returned (.agg #[.int .i64 (tickE v m), .int .i64 (tickN v m), .string .empty, .slice none 0 0, .slice none 0 0]) ∧ ClkW (tickM v m) qb qc U V w' ∧ (∀ q, U q → w'.heap[q]? = w.heap[q]?) ∧
      w'.os = w.os ∧ w'.tape = w.tape ∧ w'.output = w.output ∧ w.heap.size ≤ w'.heap.size := by
  obtain ⟨i, hR, hg, h1, h2, hu, hvv⟩ := h.ex
  have hrun : ∃ s', callA SET 100000 200 11 [.pointer (some ⟨1639, 0, none⟩), opV 21 v] (stL (clkPre m) 4088) = some (.agg ⟨[.int .i64 (tickE v m), .int .i64 (tickN v m), .string .empty, .slice none 0 0, .slice none 0 0]⟩, s') ∧ 4088 ≤ s'.nx ∧ ∀ b x, (b, x) ∈ clkPre (tickM v m) → ∃ o, s'.h.get b = some o ∧ Wk x.mk o := by
    refine clk_spec ?_
    rw [clk_tick]
    cases hok : tickOk v m with
    | true =>
      have : tickE v m = 0 := by unfold tickE; rw [hok]; rfl
      rw [this]
      rfl
    | false =>
      have e1 : tickE v m = 1 := by unfold tickE; rw [hok]; rfl
      have e2 : tickN v m = 0 := by unfold tickN; rw [hok]; rfl
      rw [e1, e2]
      rfl
  obtain ⟨s', hrun, _, hs⟩ := hrun
  have hF := SET_calls 11 _ _ _ s' hrun i w [.pointer (some ⟨qc, 0, none⟩), opW 21 v] hR hg (.cons (.ptr (o := 0) (t := 0) h2) (.cons (opV_rel i 21 v) .nil))
  rcases hF with ⟨v', w', i', hr, _⟩ | ⟨_, hc⟩
  · rw [enter11] at hr; cases hr
  · refine Calls.mono hc (fun e w' he => ?_)
    cases e with
    | returned v' =>
      obtain ⟨i', hv, hR', hF⟩ := he
      obtain ⟨k1, k2⟩ := ClkW.step hR hg h1 h2 hu hvv hU hV hR' hF hs
      refine ⟨?_, k1, k2, hF.os, hF.tape, hF.output, hF.size⟩
      cases hv with | agg hv =>
      cases hv with | cons a1 hv =>
      cases hv with | cons a2 hv =>
      cases hv with | cons a3 hv =>
      cases hv with | cons a4 hv =>
      cases hv with | cons a5 hv =>
      cases hv
      cases a1; cases a2; cases a3; cases a4; cases a5
      rfl
    | _ => exact he.elim

theorem do_status {m : Int} {qb qc : Nat} {U V : Nat → Prop} {w : World} (h : ClkW m qb qc U V w) (hU : ∀ q, U q → q < w.heap.size) (hV : ∀ q, V q → q < w.heap.size) :
    Calls Tryz.prog 11 #[.pointer (some ⟨qc, 0, none⟩), opW 22 0] w fun e w' => ∃ g p c, e = .returned (.agg #[.int .i64 0, .int .i64 0, .string .empty, .slice none 0 0, .slice (some ⟨g, p, none⟩) 4 c]) ∧
      w'.cell? ⟨g, p, none⟩ = some (.int .i64 0) ∧ w'.cell? ⟨g, p + 3, none⟩ = some (.int .i64 m) ∧ ClkW m qb qc U V w' ∧ (∀ q, U q → w'.heap[q]? = w.heap[q]?) ∧
      w'.os = w.os ∧ w'.tape = w.tape ∧ w'.output = w.output ∧ w.heap.size ≤ w'.heap.size := by
  obtain ⟨i, hR, hg, h1, h2, hu, hvv⟩ := h.ex
  obtain ⟨s', hrun, _, hs, c, hc1, hc2⟩ := clk_spec2 (clk_status m)
  have hF := SET_calls 11 _ _ _ s' hrun i w [.pointer (some ⟨qc, 0, none⟩), opW 22 0] hR hg (.cons (.ptr (o := 0) (t := 0) h2) (.cons (opV_rel i 22 0) .nil))
  rcases hF with ⟨v', w', i', hr, _⟩ | ⟨_, hc⟩
  · rw [enter11] at hr; cases hr
  · refine Calls.mono hc (fun e w' he => ?_)
    cases e with
    | returned v' =>
      obtain ⟨i', hv, hR', hF⟩ := he
      obtain ⟨k1, k2⟩ := ClkW.step hR hg h1 h2 hu hvv hU hV hR' hF hs
      cases hv with | agg hv =>
      cases hv with | cons a1 hv =>
      cases hv with | cons a2 hv =>
      cases hv with | cons a3 hv =>
      cases hv with | cons a4 hv =>
      cases hv with | cons a5 hv =>
      cases hv
      cases a1; cases a2; cases a3; cases a4
      cases a5 with | @slice _ _ q t _ _ p c' hi x1 x2 x3 x4 x5 =>
      obtain ⟨cs, e, fr, y1, y2, y3, y4, y5⟩ := hR'.at (P := Tryz.prog) hc1 rfl hi
      have hp : p = t := by
        rcases x4 with x4 | x4
        · omega
        · have := x2 (by decide); omega
      subst hp
      obtain ⟨l1, l2⟩ := T.list_some c 4 0 _ hc2
      obtain ⟨u0, z1, z2⟩ := y4 0 (.int .i64 (.ofNat 0)) (by omega) (by have := l2 0 (by omega); simpa using this)
      obtain ⟨u3, z3, z4⟩ := y4 3 (.int .i64 m) (by omega) (by have := l2 3 (by omega); simpa using this)
      cases z2
      cases z4
      refine ⟨q, p, c', rfl, ?_, ?_, k1, k2, hF.os, hF.tape, hF.output, hF.size⟩
      · unfold World.cell?
        rw [y1]
        exact z1
      · unfold World.cell?
        rw [y1]
        exact z3
    | _ => exact he.elim
end Go.Proofs
