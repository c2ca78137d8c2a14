/- The clock's beginning, in the world: known, fresh. -/
import Derived.Test.YtmnckhmmcnbaiaaGreatDoorSeatClockW
set_option linter.unusedSimpArgs false
set_option linter.unusedVariables false
namespace Go.Proofs
open Go Go.RowKit Go.Ax
noncomputable section
def SPrimC : T (List Value → AS → Option (Value × AS)) := (SPrim20.set 8 kKnown).set 9 kFresh
theorem SPrimC_ok : ∀ f p, SPrimC.get f = some p → POk Tryz.prog f p := prim_set (E := SE20) (prim_set (E := SE20) SE20_prim kKnown_ok) kFresh_ok
def SEC : Env := envOf SPrimC
theorem SEC_calls : CallOk Tryz.prog (callA SEC 100000 200) := envOf_calls SPrimC_ok 100000 200
def begPre : List (Nat × OS) := [(0, .ro tabV tabV.length)]
/-- The start: nothing but the table; the blocks of U are none that turn. -/
structure BegW (U : Nat → Prop) (w : World) : Prop where
  ex : ∃ i : Io, Rel i (stL begPre 1001) w ∧ Gl i ∧ ∀ b q t, i b = some (q, t) → U q → fixed (obA (stL begPre 1001) b) = true
def begK : Value → AS → R := fun v s => tupK v (lookB s.h begPre) []
theorem beg_known : callq SEC 100000 200 8 [] (stL begPre 1001) begK = tupK (.bool true) true [] := by kernel_rfl
def setV : Value := .agg ⟨[.int .i64 (.ofNat 120), .int .i64 (.ofNat 160), .int .i64 (.ofNat 14), .int .i64 (.ofNat 3), .float .f64 4607182418800017408, .float .f64 4611686018427387904, .float .f64 4621819117588971520]⟩
def begK2 : Value → AS → R := fun v s => tupK v (bAnd (lookB s.h clkRest) (Nat.ble 4088 s.nx)) [cellsV (s.h.get 1639) 29]
theorem beg_fresh : callq SEC 100000 200 9 [setV] (stL begPre 1003) begK2 = tupK (.tuple ⟨[.pointer (some ⟨1012, 0, none⟩), .bool true]⟩) true [clkV 0] := by kernel_rfl
theorem begPre_ok : preL 1001 begPre = true := by kernel_rfl
theorem begPre_ok3 : preL 1003 begPre = true := by kernel_rfl
theorem beg_fixed (n b : Nat) : fixed (obA (stL begPre n) b) = true := by
  unfold obA begPre
  have e : (stL [(0, OS.ro tabV tabV.length)] n).h.get b = if b = 0 then some (OS.ro tabV tabV.length).mk else none := by
    show (T.pk (T.e.lay (mkL [])) 0 (some (OS.ro tabV tabV.length).mk)).get b = _
    rw [T.pk_eq]
    exact (T.get_set _ _ _ _).trans (by split <;> rfl)
  rw [e]
  split <;> rfl

theorem clk_low : ((clkPre 0).all fun x => Nat.ble 1003 x.1 || fixed x.2.mk) = true := by kernel_rfl
theorem clk_lowf {b : Nat} (h : b < 1003) : fixed (obA (stL (clkPre 0) 4088) b) = true := by
  unfold obA
  cases hg : (stL (clkPre 0) 4088).h.get b with
  | none => rfl
  | some o =>
    obtain ⟨x, h1, rfl⟩ := stL_get hg
    have := List.all_eq_true.1 clk_low _ h1
    have h6 : (Nat.ble 1003 b || fixed x.mk) = true := this
    rcases (Bool.or_eq_true _ _).mp h6 with h2 | h2
    · have h3 : 1003 ≤ b := Nat.le_of_ble_eq_true h2
      omega
    · exact h2
def boxRow : List Value := [.int .i64 (.ofNat 120), .int .i64 (.ofNat 160), .int .i64 (.ofNat 14), .int .i64 (.ofNat 3), .float .f64 4607182418800017408, .float .f64 4611686018427387904, .float .f64 4621819117588971520, .pointer (some ⟨1005, 0, none⟩), .pointer (some ⟨1015, 0, none⟩), .pointer (some ⟨1639, 0, none⟩), .slice (some ⟨1010, 0, none⟩) 1 3, .int .i64 (.ofNat 0)]
theorem clk_box (m : Int) : ((1012, OS.cells boxRow 12 45088768) : Nat × OS) ∈ clkPre m := List.mem_of_getElem? (i := 4) (by kernel_rfl)
/-- Where a block of the machine begins in the world. -/
theorem at_zero {i : Io} {s : AS} {w : World} (hR : Rel i s w) {b : Nat} {c : T Value} {n z : Nat} (hb : s.h.get b = some (.cells c n z)) (hz : ze z ≠ 0) (hz0 : zs z = 0) : ∃ q, i b = some (q, 0) := by
  obtain ⟨q, t, h1, _⟩ := hR.obj b _ hb rfl
  obtain ⟨_, _, _, _, _, _, _, h5⟩ := hR.at (P := Tryz.prog) hb rfl h1
  obtain rfl := (h5 hz).2 hz0
  exact ⟨q, h1⟩

theorem known_w {U : Nat → Prop} {w : World} (h : BegW U w) (hU : ∀ q, U q → q < w.heap.size) :
    Calls Tryz.prog 8 #[] w fun e w' => e = .returned (.bool true) ∧ BegW U w' ∧ Below w.heap.size w w' := by
  obtain ⟨i, hR, hg, hu⟩ := h.ex
  have hrun : ∃ s', callA SEC 100000 200 8 [] (stL begPre 1001) = some (.bool true, s') ∧ ∀ b x, (b, x) ∈ begPre → ∃ o, s'.h.get b = some o ∧ Wk x.mk o := by
    have h := beg_known
    rw [callq_eq] at h
    cases hc : callA SEC 100000 200 8 [] (stL begPre 1001) with
    | none => rw [hc] at h; cases h
    | some p =>
      obtain ⟨v, s'⟩ := p
      rw [hc] at h
      have h : begK v s' = tupK (.bool true) true [] := h
      unfold begK tupK at h
      simp only [Option.some.injEq, Prod.mk.injEq, Value.tuple.injEq, Array.mk.injEq, List.cons.injEq, Value.bool.injEq, and_true] at h
      obtain ⟨rfl, h2⟩ := h
      exact ⟨s', rfl, lookB_eq s'.h begPre h2⟩
  obtain ⟨s', hrun, hs⟩ := hrun
  have hF := SEC_calls 8 _ _ _ s' hrun i w [] hR hg .nil
  rcases hF with ⟨v', w', i', hr, _⟩ | ⟨_, hc⟩
  · rw [enter_of Tryz.func8 (by kernel_rfl) (by kernel_rfl)] at hr; cases hr
  · refine Calls.mono hc (fun e w' he => ?_)
    cases e with
    | returned v' =>
      obtain ⟨i', hv, hR', hF⟩ := he
      cases hv
      exact ⟨rfl, ⟨i'.cut 1001, hR'.cutS begPre_ok hs, fun g hg' => by rw [cut_lt (by omega)]; exact hF.le g _ (hg g hg'), fun b q t e hq => beg_fixed _ _⟩, hF.os, hF.tape, hF.output, hF.size, fun k hk => hF.keep k hk (fun b t e => beg_fixed _ _)⟩
    | _ => exact he.elim

def setW : Value := .agg #[.int .i64 120, .int .i64 160, .int .i64 14, .int .i64 3, .float .f64 4607182418800017408, .float .f64 4611686018427387904, .float .f64 4621819117588971520]
def floV : Value := .agg ⟨[.float .f64 4607182418800017408, .float .f64 4611686018427387904, .float .f64 4621819117588971520]⟩
theorem beg_small : callq SEC 100000 200 10 [floV] (stL begPre 1001) begK = tupK setV true [] := by kernel_rfl
theorem small_w {U : Nat → Prop} {w : World} (h : BegW U w) (hU : ∀ q, U q → q < w.heap.size) :
    Calls Tryz.prog 10 #[floV] w fun e w' => e = .returned setW ∧ BegW U w' ∧ Below w.heap.size w w' := by
  obtain ⟨i, hR, hg, hu⟩ := h.ex
  have hrun : ∃ s', callA SEC 100000 200 10 [floV] (stL begPre 1001) = some (setV, s') ∧ ∀ b x, (b, x) ∈ begPre → ∃ o, s'.h.get b = some o ∧ Wk x.mk o := by
    have h := beg_small
    rw [callq_eq] at h
    cases hc : callA SEC 100000 200 10 [floV] (stL begPre 1001) with
    | none => rw [hc] at h; cases h
    | some p =>
      obtain ⟨v, s'⟩ := p
      rw [hc] at h
      have h : begK v s' = tupK setV true [] := h
      unfold begK tupK at h
      simp only [Option.some.injEq, Prod.mk.injEq, Value.tuple.injEq, Array.mk.injEq, List.cons.injEq, Value.bool.injEq, and_true] at h
      obtain ⟨rfl, h2⟩ := h
      exact ⟨s', rfl, lookB_eq s'.h begPre h2⟩
  obtain ⟨s', hrun, hs⟩ := hrun
  have hF := SEC_calls 10 _ _ _ s' hrun i w [floV] hR hg (.cons (.agg (.cons (.float _ _) (.cons (.float _ _) (.cons (.float _ _) .nil)))) .nil)
  rcases hF with ⟨v', w', i', hr, _⟩ | ⟨_, hc⟩
  · rw [enter_of Tryz.func10 (by kernel_rfl) (by kernel_rfl)] at hr; cases hr
  · refine Calls.mono hc (fun e w' he => ?_)
    cases e with
    | returned v' =>
      obtain ⟨i', hv, hR', hF⟩ := he
      cases hv with | agg hv =>
      cases hv with | cons a1 hv =>
      cases hv with | cons a2 hv =>
      cases hv with | cons a3 hv =>
      cases hv with | cons a4 hv =>
      cases hv with | cons a5 hv =>
      cases hv with | cons a6 hv =>
      cases hv with | cons a7 hv =>
      cases hv
      cases a1; cases a2; cases a3; cases a4; cases a5; cases a6; cases a7
      exact ⟨rfl, ⟨i'.cut 1001, hR'.cutS begPre_ok hs, fun g hg' => by rw [cut_lt (by omega)]; exact hF.le g _ (hg g hg'), fun b q t e hq => beg_fixed _ _⟩, hF.os, hF.tape, hF.output, hF.size, fun k hk => hF.keep k hk (fun b t e => beg_fixed _ _)⟩
    | _ => exact he.elim

theorem fresh_w {U : Nat → Prop} {w : World} (h : BegW U w) (hU : ∀ q, U q → q < w.heap.size) :
    Calls Tryz.prog 9 #[setW] w fun e w' => ∃ qb qc, e = .returned (.tuple #[.pointer (some ⟨qb, 0, none⟩), .bool true]) ∧ ClkW 0 qb qc U (fun _ => False) w' ∧ Below w.heap.size w w' := by
  obtain ⟨i0, hR0, hg0, _⟩ := h.ex
  have hst : ∀ b x, (b, x) ∈ begPre → ∃ o, (stL begPre 1001).h.get b = some o ∧ Wk x.mk o := fun b x hb => by
    cases List.mem_singleton.1 hb
    exact ⟨_, stL_mem (pre := begPre) (by decide) hb, Wk.refl _ rfl⟩
  have hR := hR0.cutS begPre_ok3 hst
  obtain ⟨i, hi⟩ : ∃ i, i = i0.cut 1003 := ⟨_, rfl⟩
  rw [← hi] at hR
  have hg : Gl i := fun g hg' => by rw [hi, cut_lt (by omega)]; exact hg0 g hg'
  have hrun : ∃ s', callA SEC 100000 200 9 [setV] (stL begPre 1003) = some (.tuple ⟨[.pointer (some ⟨1012, 0, none⟩), .bool true]⟩, s') ∧ ∀ b x, (b, x) ∈ clkPre 0 → ∃ o, s'.h.get b = some o ∧ Wk x.mk o := by
    have h := beg_fresh
    rw [callq_eq] at h
    cases hc : callA SEC 100000 200 9 [setV] (stL begPre 1003) with
    | none => rw [hc] at h; cases h
    | some p =>
      obtain ⟨v, s'⟩ := p
      rw [hc] at h
      have h : begK2 v s' = tupK (.tuple ⟨[.pointer (some ⟨1012, 0, none⟩), .bool true]⟩) true [clkV 0] := h
      unfold begK2 tupK at h
      simp only [Option.some.injEq, Prod.mk.injEq, Value.tuple.injEq, Array.mk.injEq, List.cons.injEq, Value.bool.injEq, and_true] at h
      obtain ⟨rfl, h2, h3⟩ := h
      obtain ⟨h4, h5⟩ := bAnd_eq h2
      obtain ⟨c, g1, g2⟩ := cellsV_spec h3
      refine ⟨s', rfl, fun b x hb => ?_⟩
      rcases List.mem_cons.1 hb with e | hb
      · cases e
        exact ⟨_, g1, wk_list g2⟩
      · exact lookB_eq s'.h clkRest h4 b x hb
  obtain ⟨s', hrun, hs⟩ := hrun
  have hF := SEC_calls 9 _ _ _ s' hrun i w [setW] hR hg (.cons (.agg (.cons (.int _ _) (.cons (.int _ _) (.cons (.int _ _) (.cons (.int _ _) (.cons (.float _ _) (.cons (.float _ _) (.cons (.float _ _) .nil)))))))) .nil)
  rcases hF with ⟨v', w', i', hr, _⟩ | ⟨_, hc⟩
  · rw [enter_of Tryz.func9 (by kernel_rfl) (by kernel_rfl)] at hr; cases hr
  · refine Calls.mono hc (fun e w' he => ?_)
    cases e with
    | returned v' =>
      obtain ⟨i', hv, hR', hF⟩ := he
      cases hv with | tuple hv =>
      cases hv with | cons a1 hv =>
      cases hv with | cons a2 hv =>
      cases hv
      cases a2
      cases a1 with | @ptr _ _ qb t hb =>
      obtain ⟨o1, g1, k1⟩ := hs 1012 _ (clk_box 0)
      obtain ⟨o2, g2, k2⟩ := hs 1639 (.cells (clkRow 0) 29 79691776) (List.mem_cons_self ..)
      have c1 : ∃ c, o1 = .cells c 12 45088768 := by
        cases o1 with
        | cells c n z => obtain ⟨rfl, rfl, _⟩ := k1; exact ⟨c, rfl⟩
        | _ => cases k1
      have c2 : ∃ c, o2 = .cells c 29 79691776 := by
        cases o2 with
        | cells c n z => obtain ⟨rfl, rfl, _⟩ := k2; exact ⟨c, rfl⟩
        | _ => cases k2
      obtain ⟨c1, rfl⟩ := c1
      obtain ⟨c2, rfl⟩ := c2
      obtain ⟨qb', hb'⟩ := at_zero hR' g1 (by decide) (by decide)
      obtain ⟨qc, hc'⟩ := at_zero hR' g2 (by decide) (by decide)
      rw [hb] at hb'
      cases hb'
      refine ⟨qb, qc, rfl, ⟨i'.cut 4088, hR'.cutS (clkPre_ok 0) hs, fun g hg' => by rw [cut_lt (by omega)]; exact hF.le g _ (hg g hg'), by rw [cut_lt (by omega)]; exact hb, by rw [cut_lt (by omega)]; exact hc', fun b q t e hq => ?_, fun _ _ _ _ _ h => h⟩,
        hF.os, hF.tape, hF.output, hF.size, fun k hk => hF.keep k hk (fun b t e => beg_fixed _ _)⟩
      obtain ⟨e1, e2⟩ := cut_some e
      rcases hF.new b q t e1 with e3 | e3 | ⟨b0, t0, e3, e4⟩
      · rw [hi] at e3
        exact clk_lowf (cut_some e3).2
      · have := hU q hq; omega
      · rw [beg_fixed] at e4; cases e4
    | _ => exact he.elim
end
end Go.Proofs
