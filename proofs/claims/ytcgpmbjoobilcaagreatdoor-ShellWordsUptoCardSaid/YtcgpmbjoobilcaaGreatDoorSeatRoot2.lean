/- The variables that the laws of lines begin with: the tables, and two errors. -/
import Derived.Test.YtcgpmbjoobilcaaGreatDoorSeatRoot
import Derived.Test.YtcgpmbjoobilcaaGreatDoorFnG
set_option linter.unusedSimpArgs false
set_option linter.unusedVariables false
namespace Go.Proofs.YtcgpmbjoobilcaaGreatDoor
open Go.ChangeShapes Go.WideShapes Go.ChangeAt Go.ChangeMaps Go.RowKit Go.Ax Go.Lx
theorem starS : "*errors.errorString" = "*" ++ "errors.errorString" := by decide
theorem row576 (u : TypeId) (h : Tryz.prog.typeName? 3 u = some "*errors.errorString") : u = 576 :=
 typeName_ptr_named (nm := "errors.errorString") (by rw [← starS]; kernel_rfl) (by kernel_rfl) (by decide) u (by rw [← starS]; exact h)
theorem g6 : Tryz.prog.globalNamed "strconv.ErrSyntax" = some 6 := by kernel_rfl
theorem g6t : (Tryz.prog.globals[6]?).map (·.type) = some 95 := by kernel_rfl
theorem g7 : Tryz.prog.globalNamed "strconv.ErrRange" = some 7 := by kernel_rfl
theorem g7t : (Tryz.prog.globals[7]?).map (·.type) = some 95 := by kernel_rfl
theorem c578 : Tryz.prog.cellsOf 578 = 1 := by kernel_rfl
theorem heap_var {W : World} {n : String} {g : Nat} {cs : Array Value} (hg : Tryz.prog.globalNamed n = some g) (h : W.var? Tryz.prog n = some cs) : ∃ e fr, W.heap[g]? = some (.cells cs e fr) := by
 unfold World.var? at h
 rw [hg] at h
 simp only [Option.bind_some] at h
 match hw : W.heap[g]?, h with
 | some (.cells cs t fr), h =>
  obtain rfl := Option.some.inj h
  exact ⟨t, fr, rfl⟩
 | none, h => cases h
 | some (.map _ _), h => cases h
theorem cell_at {W : World} {a : Addr} {v : Value} (h : W.cell? a = some v) : a = ⟨a.block, a.off, none⟩ ∧ a.block < W.heap.size := by
 obtain ⟨b, o, sp⟩ := a
 unfold World.cell? at h
 cases hw : W.heap[b]? with
 | none => simp only [hw] at h; cases h
 | some ob =>
  have hlt := (Array.getElem?_eq_some_iff.1 hw).1
  simp only [hw] at h
  cases ob with
  | cells c t fr =>
   cases sp with
   | none => exact ⟨rfl, hlt⟩
   | some z => cases h
  | _ => cases h
def ErrAt (W : World) (g b o : Nat) : Prop := b < W.heap.size ∧ ∃ e fr, W.heap[g]? = some (.cells #[.iface 576 (.pointer (some ⟨b, o, none⟩))] e fr)
structure LaidW2 (W : World) : Prop extends LaidW W where
 e6 : ∃ b o, ErrAt W 6 b o
 e7 : ∃ b o, ErrAt W 7 b o
theorem err_of {W : World} {n : String} {g : Nat} {text : List UInt8} {r : List (String × DataW Unit)} (h : laidMet Tryz.prog ((n, .iface "*errors.errorString" (.ptr (.agg [.lit (.string text)]))) :: r) W) (hg : Tryz.prog.globalNamed n = some g) (ht : (Tryz.prog.globals[g]?).map (·.type) = some 95) : ∃ b o, ErrAt W g b o := by
 obtain ⟨a, s, hv, hc, _⟩ := laid_sentinel h hg ht Tryz.underlying95 row576 Tryz.underlying576 Tryz.underlying578 rfl rfl Tryz.underlying9 c578 c9
 obtain ⟨ha, hlt⟩ := cell_at hc
 obtain ⟨e, fr, hh⟩ := heap_var hg hv
 rw [ha] at hh
 exact ⟨a.block, a.off, hlt, e, fr, hh⟩
set_option maxRecDepth 100000 in
theorem laidW2_of {W : World} (h : laidMetH Tryz.prog Rows.shellLinesUptoRow.laid W) : LaidW2 W := by
 have h1 : LaidW W := laidW_of h
 rw [MakeChecks.laidMetH_plain _ _ _ (by kernel_rfl)] at h
 exact ⟨h1, err_of h.tail.tail.tail.tail.tail g6 g6t, err_of h.tail.tail.tail.tail.tail.tail g7 g7t⟩
abbrev gs9 : List Nat := [0, 2, 6, 7]
theorem low9 : ∀ g ∈ gs9, g < 1000 := by decide
theorem ErrAt.cells {W : World} {g b o : Nat} (h : ErrAt W g b o) : ∃ cs e fr, W.heap[g]? = some (.cells cs e fr) := by
 obtain ⟨_, e, fr, h⟩ := h
 exact ⟨_, e, fr, h⟩
theorem LaidW2.ok {W : World} (h : LaidW2 W) {b6 o6 b7 o7 : Nat} (h6 : ErrAt W 6 b6 o6) (h7 : ErrAt W 7 b7 o7) : SlsOk W gs9 [5] [b6, b7] [] := by
 refine ⟨low9, fun q hq => ?_, fun x hx => (by cases hx), fun x hx => (by cases hx), by simp, fun q _ hb => (by cases hb), fun q hq hg => ?_, fun q hq => ?_⟩
 ·have hq' : q = 0 ∨ q = 2 ∨ q = 6 ∨ q = 7 ∨ q = 5 := by simpa [or_assoc] using hq
  rcases hq' with rfl | rfl | rfl | rfl | rfl
  ·exact h.toLaidW.cells _ (.inl (by decide))
  ·exact h.toLaidW.cells _ (.inl (by decide))
  ·exact h6.cells
  ·exact h7.cells
  ·exact h.toLaidW.cells _ (.inr (by decide))
 ·have : q = 5 := by simpa [blks, nub] using hq
  subst this
  exact absurd hg (by decide)
 ·have hq' : q = b6 ∨ q = b7 := by simpa using hq
  rcases hq' with rfl | rfl
  ·exact h6.1
  ·exact h7.1
theorem ErrAt.ro {W : World} {g b o : Nat} (h : ErrAt W g b o) {gs qs ms : List Nat} (ok : InOk W gs qs ms) (hg : g ∈ gs) (hb : b ∈ qs) : ∃ e : Value, isIf e = true ∧ ∃ U, (Ro g [e]).p U (stN W gs qs ms).h ∧ ∀ b, U b → (stN W gs qs ms).h.get b ≠ none := by
 obtain ⟨_, ty, fr, hh⟩ := h
 obtain ⟨j, hj⟩ := ix_mem 0 hb
 refine ⟨.iface 576 (.pointer (some ⟨1000 + j, o, none⟩)), rfl, stN_roB ok hg hh (fun k v hk => ?_)⟩
 cases k with
 | succ k => cases hk
 | zero =>
  cases hk
  show inV qs (.iface 576 (.pointer (some ⟨b, o, none⟩))) = _
  show (ix b qs 0).map _ = _
  rw [hj]
  rfl
theorem LaidW.start9 {W : World} (h : LaidW W) {qs r : List Nat} (ok : InOk W gs9 qs (5 :: r)) : ∀ A ∈ [Ro 0 Go.Cis.pow10V, RoN 2 tabV, Top], ∃ U, A.p U (stN W gs9 qs (5 :: r)).h ∧ ∀ b, U b → (stN W gs9 qs (5 :: r)).h.get b ≠ none := by
 intro A hA
 rcases List.mem_cons.1 hA with rfl | hA
 ·obtain ⟨e, fr, h⟩ := h.t0
  rw [pow_eq]
  exact stN_roB ok (List.mem_cons_self ..) h (bind_map)
 rcases List.mem_cons.1 hA with rfl | hA
 ·obtain ⟨e, fr, h⟩ := h.t2
  rw [tab_eq]
  exact stN_roN ok (List.mem_cons_of_mem _ (List.mem_cons_self ..)) h bind_map
 rcases List.mem_cons.1 hA with rfl | hA
 ·have h := stN_q ok (i := 0) (q := 5) rfl
  exact ⟨fun b => b = 1000, rfl, fun b hb => by rw [hb]; rw [show (1000 : Nat) = 1000 + 0 from rfl, h]; simp⟩
 ·cases hA
theorem LaidW2.start {W : World} (h : LaidW2 W) : ∃ (qs ms : List Nat) (P : List Asn), InOk W gs9 qs ms ∧ Go.Cis.Kn P ∧ RoN 2 tabV ∈ P ∧ Top ∈ P ∧ ∀ A ∈ P, ∃ U, A.p U (stN W gs9 qs ms).h ∧ ∀ b, U b → (stN W gs9 qs ms).h.get b ≠ none := by
 obtain ⟨b6, o6, h6⟩ := h.e6
 obtain ⟨b7, o7, h7⟩ := h.e7
 have ok := h.ok h6 h7
 have inOk := ok.inOk
 have m6 : b6 ∈ qsOf [5] [b6, b7] [] := List.mem_append_right _ (List.mem_append_right _ (.head _))
 have m7 : b7 ∈ qsOf [5] [b6, b7] [] := List.mem_append_right _ (List.mem_append_right _ (.tail _ (.head _)))
 obtain ⟨e6, i6, r6⟩ := h6.ro inOk (by decide) m6
 obtain ⟨e7, i7, r7⟩ := h7.ro inOk (by decide) m7
 refine ⟨_, _, [Ro 6 [e6], Ro 7 [e7], Ro 0 Go.Cis.pow10V, RoN 2 tabV, Top], inOk, ⟨⟨e6, e7, .head _, .tail _ (.head _), i6, i7⟩, .tail _ (.tail _ (.head _))⟩, .tail _ (.tail _ (.tail _ (.head _))), .tail _ (.tail _ (.tail _ (.tail _ (.head _)))), fun A hA => ?_⟩
 rcases List.mem_cons.1 hA with rfl | hA
 ·exact r6
 rcases List.mem_cons.1 hA with rfl | hA
 ·exact r7
 ·exact h.toLaidW.start9 inOk A hA
end Go.Proofs.YtcgpmbjoobilcaaGreatDoor
