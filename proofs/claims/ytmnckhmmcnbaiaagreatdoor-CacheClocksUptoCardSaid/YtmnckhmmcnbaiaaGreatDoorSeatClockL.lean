/- CacheClocks: for every list of ticks the law answers true. -/
import Derived.Test.YtmnckhmmcnbaiaaGreatDoorSeatClockM
import Derived.WalkKit
import Derived.Lib.Walk
import Derived.Deep.DeepCutAuto
import Derived.Deep.Cut
import Derived.Deep.CutRange
set_option linter.unusedSimpArgs false
set_option linter.unusedVariables false
namespace Go.Proofs
open Go Go.RowKit Go.Lib Go.Ax

/-- What stands behind the tick's call: its answer in a block of the law's own. -/
structure Behind (v m : Int) (qb qc q : Nat) (w wx : World) : Prop where
  e : wx.cell? ⟨q, 0, none⟩ = some (.int .i64 (tickE v m))
  n : wx.cell? ⟨q, 1, none⟩ = some (.int .i64 (tickN v m))
  c : ClkW (tickM v m) qb qc (fun k => k < w.heap.size ∨ k = q) (fun k => k = q) wx
  b : Below w.heap.size w wx
  hq : q < wx.heap.size

abbrev zer36 : Array Value := #[.int .i64 0, .int .i64 0, .string ⟨#[]⟩, .slice none 0 0, .slice none 0 0]
abbrev ans36 (e n : Int) : Array Value := #[.int .i64 e, .int .i64 n, .string .empty, .slice none 0 0, .slice none 0 0]
theorem cell_of {w : World} {g : Nat} {cs : Array Value} {e : TypeId} {fr : Nat × Nat} (h : w.heap[g]? = some (.cells cs e fr)) (j : Nat) : w.cell? ⟨g, j, none⟩ = cs[j]? := by
  unfold World.cell?
  rw [h]
  rfl
theorem cell_same {w w' : World} {q : Nat} (h : w'.heap[q]? = w.heap[q]?) (j : Nat) : w'.cell? ⟨q, j, none⟩ = w.cell? ⟨q, j, none⟩ := by
  unfold World.cell?
  rw [h]
theorem heap_new (w : World) (o : Obj) : (w.alloc o).heap[w.heap.size]? = some o := by
  show (w.heap.push o)[w.heap.size]? = _
  simp
theorem box_facts {w4 wr : World} (h : w4.heap[wr.heap.size]? = (wr.alloc (.cells zer36 36)).drew.heap[wr.heap.size]?) : w4.heap[wr.heap.size]? = some (.cells zer36 36 (0, 0)) := h.trans (heap_new _ _)

theorem below_of {w wr w4 : World} (hB : Below w.heap.size w wr) (hu4 : ∀ q, q < w.heap.size → w4.heap[q]? = wr.heap[q]?) (ho1 : w4.os = wr.os) (ho2 : w4.tape = wr.tape) (ho3 : w4.output = wr.output) (hsz : wr.heap.size ≤ w4.heap.size) : Below w.heap.size w w4 :=
  ⟨ho1.trans hB.os, ho2.trans hB.tape, ho3.trans hB.output, Nat.le_trans hB.size hsz, fun k hk => (hu4 k hk).trans (hB.block k hk)⟩

theorem behind_new {v m : Int} {qb qc : Nat} {w wr w4 : World} (hB : Below w.heap.size w wr) (hC : ClkW (tickM v m) qb qc (fun q => q < w.heap.size) (fun _ => False) w4) (hu4 : ∀ q, q < w.heap.size → w4.heap[q]? = wr.heap[q]?) (ho1 : w4.os = wr.os) (ho2 : w4.tape = wr.tape) (ho3 : w4.output = wr.output) (hsz : wr.heap.size ≤ w4.heap.size) :
    Behind v m qb qc w4.heap.size w (w4.alloc (.cells (ans36 (tickE v m) (tickN v m)) 36)) := by
  have hn := heap_new w4 (.cells (ans36 (tickE v m) (tickN v m)) 36)
  have hb4 := below_of hB hu4 ho1 ho2 ho3 hsz
  exact ⟨cell_of hn 0, cell_of hn 1, hC.more ((Below.refl _ _).alloc (Nat.le_refl _) _) (fun q hq => hq.imp id (fun h => Nat.le_of_eq h.symm)) (fun q hq => .inr (Nat.le_of_eq hq.symm)), hb4.alloc hb4.size _, by show _ < (w4.heap.push _).size; simp⟩

theorem set_size (w : World) (a : Addr) (u : Value) : (w.setCell a u).heap.size = w.heap.size := by simp [World.setCell]
theorem behind_old {v m : Int} {qb qc : Nat} {w wr w4 : World} (hB : Below w.heap.size w wr) (hC : ClkW (tickM v m) qb qc (fun q => q < w.heap.size ∨ q = wr.heap.size) (fun q => q = wr.heap.size) w4) (hu4 : ∀ q, (q < w.heap.size ∨ q = wr.heap.size) → w4.heap[q]? = (wr.alloc (.cells zer36 36)).drew.heap[q]?) (ho1 : w4.os = wr.os) (ho2 : w4.tape = wr.tape) (ho3 : w4.output = wr.output) (hsz : (wr.alloc (.cells zer36 36)).drew.heap.size ≤ w4.heap.size) :
    Behind v m qb qc wr.heap.size w (((((w4.setCell ⟨wr.heap.size, 0, none⟩ (.int .i64 (tickE v m))).setCell ⟨wr.heap.size, 1, none⟩ (.int .i64 (tickN v m))).setCell ⟨wr.heap.size, 2, none⟩ (.string .empty)).setCell ⟨wr.heap.size, 3, none⟩ (.slice none 0 0)).setCell ⟨wr.heap.size, 4, none⟩ (.slice none 0 0)) := by
  have hbk := box_facts (hu4 _ (.inr rfl))
  have hz : (wr.alloc (.cells zer36 36)).drew.heap.size = wr.heap.size + 1 := Array.size_push _
  have hlt : wr.heap.size < w4.heap.size := by omega
  obtain ⟨w5, hw5⟩ : ∃ w5, w5 = w4.setCell ⟨wr.heap.size, 0, none⟩ (.int .i64 (tickE v m)) := ⟨_, rfl⟩
  obtain ⟨w6, hw6⟩ : ∃ w6, w6 = w5.setCell ⟨wr.heap.size, 1, none⟩ (.int .i64 (tickN v m)) := ⟨_, rfl⟩
  obtain ⟨w7, hw7⟩ : ∃ w7, w7 = w6.setCell ⟨wr.heap.size, 2, none⟩ (.string .empty) := ⟨_, rfl⟩
  obtain ⟨w8, hw8⟩ : ∃ w8, w8 = w7.setCell ⟨wr.heap.size, 3, none⟩ (.slice none 0 0) := ⟨_, rfl⟩
  obtain ⟨w9, hw9⟩ : ∃ w9, w9 = w8.setCell ⟨wr.heap.size, 4, none⟩ (.slice none 0 0) := ⟨_, rfl⟩
  rw [← hw5, ← hw6, ← hw7, ← hw8, ← hw9]
  have h5 := setCell_row (o := 0) (v := .int .i64 (tickE v m)) hbk
  rw [← hw5] at h5
  have h6 := setCell_row (o := 1) (v := .int .i64 (tickN v m)) h5
  rw [← hw6] at h6
  have h7 := setCell_row (o := 2) (v := .string .empty) h6
  rw [← hw7] at h7
  have h8 := setCell_row (o := 3) (v := .slice none 0 0) h7
  rw [← hw8] at h8
  have h1 := setCell_row (o := 4) (v := .slice none 0 0) h8
  rw [← hw9] at h1
  have hk : ∀ k, k ≠ wr.heap.size → w9.heap[k]? = w4.heap[k]? := fun k hk => by
    rw [hw9, Below.heap_setCell _ _ _ _ hk, hw8, Below.heap_setCell _ _ _ _ hk, hw7, Below.heap_setCell _ _ _ _ hk, hw6, Below.heap_setCell _ _ _ _ hk, hw5, Below.heap_setCell _ _ _ _ hk]
  have hs5 : w9.heap.size = w4.heap.size := by rw [hw9, set_size, hw8, set_size, hw7, set_size, hw6, set_size, hw5, set_size]
  have ho : w9.os = w4.os ∧ w9.tape = w4.tape ∧ w9.output = w4.output := by
    subst hw9 hw8 hw7 hw6 hw5
    exact ⟨by simp [World.setCell], by simp [World.setCell], by simp [World.setCell]⟩
  have hwr := hB.size
  have c0 : w9.cell? ⟨wr.heap.size, 0, none⟩ = some (.int .i64 (tickE v m)) := by
    rw [cell_of h1 0]
    simp
  have c1 : w9.cell? ⟨wr.heap.size, 1, none⟩ = some (.int .i64 (tickN v m)) := by
    rw [cell_of h1 1]
    simp
  clear h1 h5 h6 h7 h8 hw5 hw6 hw7 hw8 hw9
  refine ⟨c0, c1, hC.turn (fun k hk' => hk k hk') (Nat.le_of_eq hs5.symm), ?_, by rw [hs5]; exact hlt⟩
  refine ⟨ho.1.trans (ho1.trans hB.os), ho.2.1.trans (ho2.trans hB.tape), ho.2.2.trans (ho3.trans hB.output), by rw [hs5]; omega, fun k hk' => ?_⟩
  rw [hk k (by omega), hu4 k (.inl hk')]
  refine Eq.trans ?_ (hB.block k hk')
  show (wr.heap.push _)[k]? = _
  rw [Array.getElem?_push, if_neg (by omega)]

set_option maxHeartbeats 4000000 in
set_option maxRecDepth 100000 in
theorem clk_law (a : Option Addr) (n c : Nat) (w : World) (h : BegW (fun q => q < w.heap.size) w) (hin : Aside (∀ i, i < n → ∃ b off v, a = some ⟨b, off, none⟩ ∧ b < w.heap.size ∧ w.cell? ⟨b, off + i, none⟩ = some (.int .i64 v))) : Calls Tryz.prog 4 #[.slice a n c] w fun e w' => e = .returned (.bool true) ∧ Below w.heap.size w w' := by
  go_enter Tryz.func4, Tryz.ntmps4
  go_wp2_with (first
    | (go_at_call 8; refine Calls.mono (known_w h (fun q hq => hq)) ?_; rintro e w1 ⟨rfl, hb1, hk1⟩)
    | (go_at_call 10; refine Calls.mono (small_w hb1 (fun q hq => Nat.lt_of_lt_of_le hq hk1.size)) ?_; rintro e w2 ⟨rfl, hb2, hk2⟩)
    | (go_at_call 9; refine Calls.mono (fresh_w hb2 (fun q hq => Nat.lt_of_lt_of_le hq (Nat.le_trans hk1.size hk2.size))) ?_; rintro e w3 ⟨qb, qc, rfl, hb3, hk3⟩))
  go_loopw [5, 6] (fun x y wr => ∃ (m : Int) (i : Nat), x = .int .i64 m ∧ y = .int .i64 (i : Int) ∧ 0 ≤ m ∧ m ≤ 100000 * i ∧ i ≤ n ∧ i ≤ 40 ∧ ClkW m qb qc (fun q => q < w.heap.size) (fun _ => False) wr ∧ Below w.heap.size w wr)
    (fun x y _ => match y with | .int _ k => (40 - k).toNat | _ => 0)
  case atStart => exact ⟨0, 0, rfl, rfl, by omega, by omega, by omega, by omega, hb3, (hk1.trans (hk2.mono hk1.size)).trans (hk3.mono (Nat.le_trans hk1.size hk2.size))⟩
  case round =>
    obtain ⟨m, i, rfl, rfl, g0, g1, g2, g3, hC, hB⟩ := hrel
    rcases Nat.lt_or_ge i n with hlt | hge
    · rcases Nat.lt_or_ge i 40 with hl4 | hg4
      · obtain ⟨b, off, v, rfl, hbl, hv⟩ := hin.out i hlt
        have hv' : wr.cell? ⟨b, off + i, none⟩ = some (.int .i64 v) := (hB.cell (p := ⟨b, off + i, none⟩) hbl).trans hv
        have hbox := hC.box
        have hv2 : ((wr.alloc (.cells #[.int .i64 0, .int .i64 0, .string ⟨#[]⟩, .slice none 0 0, .slice none 0 0] 36)).drew).cell? ⟨b, off + i, none⟩ = some (.int .i64 v) := cell?_alloc_some _ hv'
        have hb2' : ((wr.alloc (.cells #[.int .i64 0, .int .i64 0, .string ⟨#[]⟩, .slice none 0 0, .slice none 0 0] 36)).drew).cell? ⟨qb, 9, none⟩ = some (.pointer (some ⟨qc, 0, none⟩)) := cell?_alloc_some _ hbox
        have hsz : (wr.alloc (.cells #[.int .i64 0, .int .i64 0, .string ⟨#[]⟩, .slice none 0 0, .slice none 0 0] 36)).drew.heap.size = wr.heap.size + 1 := Array.size_push _
        have hwn : w.heap.size ≤ wr.heap.size := hB.size
        have hBA : Below wr.heap.size wr (wr.alloc (.cells #[.int .i64 0, .int .i64 0, .string ⟨#[]⟩, .slice none 0 0, .slice none 0 0] 36)).drew := ((Below.refl _ _).alloc (Nat.le_refl _) _).drew
        have hCA : ClkW m qb qc (fun q => q < w.heap.size ∨ q = wr.heap.size) (fun q => q = wr.heap.size) (wr.alloc (.cells #[.int .i64 0, .int .i64 0, .string ⟨#[]⟩, .slice none 0 0, .slice none 0 0] 36)).drew := hC.more hBA (fun q hq => hq.imp id (fun h => by omega)) (fun q hq => .inr (by omega))
        have hCB : ClkW m qb qc (fun q => q < w.heap.size) (fun _ => False) wr.drew := hC.more (Below.refl _ _).drew (fun q hq => .inl hq) (fun q hq => hq.elim)
        have hUA : ∀ q, (q < w.heap.size ∨ q = wr.heap.size) → q < (wr.alloc (.cells #[.int .i64 0, .int .i64 0, .string ⟨#[]⟩, .slice none 0 0, .slice none 0 0] 36)).drew.heap.size := fun q hq => by rw [hsz]; omega
        have hVA : ∀ q, q = wr.heap.size → q < (wr.alloc (.cells #[.int .i64 0, .int .i64 0, .string ⟨#[]⟩, .slice none 0 0, .slice none 0 0] 36)).drew.heap.size := fun q hq => by rw [hsz]; omega
        have hUB : ∀ q, q < w.heap.size → q < wr.drew.heap.size := fun q hq => Nat.lt_of_lt_of_le hq hwn
        go_upto_region 10 with fail
        go_cut [7] (fun x wx => ∃ q, x = .pointer (some ⟨q, 0, none⟩) ∧ Behind v m qb qc q w wx)
        case first =>
          go_region_with (first
            | (go_at_call 11; refine Calls.mono (do_tick hCA hUA hVA v) ?_; rintro e w4 ⟨rfl, hC4, hu4, ho1, ho2, ho3, hsz4⟩; have hbk := box_facts (hu4 _ (.inr rfl)); have k0 := cell_of hbk 0; have k1 := cell_of hbk 1; have k2 := cell_of hbk 2; have k3 := cell_of hbk 3; have k4 := cell_of hbk 4; have f0 := frozen_of_row _ _ 0 _ _ hbk; have f1 := frozen_of_row _ _ 1 _ _ hbk; have f2 := frozen_of_row _ _ 2 _ _ hbk; have f3 := frozen_of_row _ _ 3 _ _ hbk; have f4 := frozen_of_row _ _ 4 _ _ hbk; simp at k0 k1 k2 k3 k4)
            | (go_at_call 11; refine Calls.mono (do_tick hCB hUB (fun q hq => hq.elim) v) ?_; rintro e w4 ⟨rfl, hC4, hu4, ho1, ho2, ho3, hsz4⟩))
          all_goals (try go_wp2_with fail)
          all_goals go_meet
          all_goals refine ⟨_, rfl, ?_⟩
          all_goals first
            | (with_reducible refine behind_new hB ?_ ?_ ?_ ?_ ?_ ?_)
            | (with_reducible refine behind_old hB ?_ ?_ ?_ ?_ ?_ ?_)
          all_goals first | exact hC4 | exact hu4 | exact ho1 | exact ho2 | exact ho3 | exact hsz4
        case rest =>
          obtain ⟨q, rfl, hb⟩ := hcut
          have hv3 : wc.cell? ⟨b, off + i, none⟩ = some (.int .i64 v) := (hb.b.cell (p := ⟨b, off + i, none⟩) hbl).trans hv
          have hbox3 := hb.c.box
          have e3 := hb.e
          have n3 := hb.n
          clear hv' hbox hv2 hb2' hsz hwn hBA hCA hCB hUA hVA hUB
          by_cases hin' : 0 ≤ v ∧ v ≤ 100000
          · have hok : tickOk v m = true := by
              unfold tickOk
              simp only [Bool.and_eq_true, decide_eq_true_eq]
              refine ⟨hin', ?_⟩
              unfold wrap64
              omega
            have t1 : tickE v m = 0 := by unfold tickE; rw [hok]; rfl
            have t2 : tickN v m = m + v := by unfold tickN; rw [hok]; show wrap64 (m + v) = _; unfold wrap64; omega
            have t3 : tickM v m = m + v := by unfold tickM; rw [hok]; show wrap64 (m + v) = _; unfold wrap64; omega
            have hc := hb.c
            rw [t1] at e3
            rw [t2] at n3
            rw [t3] at hc
            have hU : ∀ k, (k < w.heap.size ∨ k = q) → k < wc.heap.size := fun k hk => by have := hb.b.size; have := hb.hq; omega
            have hV : ∀ k, k = q → k < wc.heap.size := fun k hk => by have := hb.hq; omega
            have hbb := hb.b
            clear hb hin hB hb1 hk1 hb2 hk2 hb3 hk3
            have hs := do_status hc hU hV
            go_wp2_with (go_at_call 11; refine Calls.mono hs ?_; rintro e w5 ⟨g, p, c5, rfl, x0, x3, hC5, hu5, ho1, ho2, ho3, hsz5⟩; have k0 : ∀ o, (w5.alloc o).cell? ⟨q, 0, none⟩ = some (.int .i64 0) := fun o => cell?_alloc_some _ ((cell_same (hu5 q (.inr rfl)) 0).trans e3); have k1 : ∀ o, (w5.alloc o).cell? ⟨q, 1, none⟩ = some (.int .i64 (m + v)) := fun o => cell?_alloc_some _ ((cell_same (hu5 q (.inr rfl)) 1).trans n3); have y0 : ∀ o, (w5.alloc o).cell? ⟨g, p, none⟩ = some (.int .i64 0) := fun o => cell?_alloc_some _ x0; have y3 : ∀ o, (w5.alloc o).cell? ⟨g, p + 3, none⟩ = some (.int .i64 (m + v)) := fun o => cell?_alloc_some _ x3)
            have hb5 : Below w.heap.size w w5 := below_of hbb (fun k hk => hu5 k (.inl hk)) ho1 ho2 ho3 hsz5
            refine ⟨⟨m + v, i + 1, rfl, by go_num, by omega, by omega, by omega, by omega, hC5.more ((Below.refl _ _).alloc (Nat.le_refl _) _) (fun k hk => .inl (.inl hk)) (fun k hk => hk.elim), hb5.alloc hb5.size _⟩, ?_⟩
            show (40 - ((i : Int) + 1)).toNat < (40 - (i : Int)).toNat
            omega
          · have hok : tickOk v m = false := by
              unfold tickOk
              simp only [Bool.and_eq_false_iff, decide_eq_false_iff_not]
              omega
            have t1 : tickE v m = 1 := by unfold tickE; rw [hok]; rfl
            have t2 : tickN v m = 0 := by unfold tickN; rw [hok]; rfl
            have t3 : tickM v m = m := by unfold tickM; rw [hok]; rfl
            have hc := hb.c
            rw [t1] at e3
            rw [t2] at n3
            rw [t3] at hc
            have hbb := hb.b
            clear hb hin hB hb1 hk1 hb2 hk2 hb3 hk3
            by_cases hneg : v < 0
            · go_wp2
              refine ⟨⟨m, i + 1, rfl, by go_num, by omega, by omega, by omega, by omega, hc.more (Below.refl _ _) (fun k hk => .inl (.inl hk)) (fun k hk => hk.elim), hbb⟩, ?_⟩
              show (40 - ((i : Int) + 1)).toNat < (40 - (i : Int)).toNat
              omega
            · have hbig : v > 100000 := by omega
              go_wp2
              refine ⟨⟨m, i + 1, rfl, by go_num, by omega, by omega, by omega, by omega, hc.more (Below.refl _ _) (fun k hk => .inl (.inl hk)) (fun k hk => hk.elim), hbb⟩, ?_⟩
              show (40 - ((i : Int) + 1)).toNat < (40 - (i : Int)).toNat
              omega
      · have : i = 40 := by omega
        subst this
        go_wp2
        go_ret
        exact ⟨rfl, hB⟩
    · have : i = n := by omega
      subst this
      go_wp2
      all_goals go_ret
      all_goals exact ⟨rfl, hB⟩
end Go.Proofs
