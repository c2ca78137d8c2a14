/- Functions without a body: what the machine knows of them. -/
import Derived.Test.YtmfdkldjinlmnaaGreatDoorAxPrim3
import Derived.Laws.Externs
import Derived.Lib.Overlaps
set_option linter.unusedVariables false
set_option linter.unusedSimpArgs false
namespace Go.Ax
open Go

theorem FSim.ext {P : Program} {f : FuncId} {fn : Func} {e : Array Value → Sem Value} (hf : P.funcs[f]? = some fn) (hname : (fn.name == "runtime.NumGoroutine") = false) (hb : fn.body.isNone = true) (hn : Extern.findNext fn = none) (he : Extern.find fn = some e)
    {args' : List Value} {i : Io} {s s' : AS} {w : World} {v : Value} (h : ∃ v' w' i', (e ⟨args'⟩).run P w = .ok v' w' ∧ VR i' v v' ∧ Rel i' s' w' ∧ Fr i s w i' s' w') : FSim P f args' i s w v s' := by
  obtain ⟨v', w', i', h1, h2, h3, h4⟩ := h
  refine .inl ⟨v', w', i', ?_, h2, h3, h4⟩
  rw [run_callFunc_extern hf hname hb hn he, h1]
  rfl

/-- What a prim owes. -/
def POk (P : Program) (f : FuncId) (p : List Value → AS → Option (Value × AS)) : Prop :=
  ∀ args s v s', p args s = some (v, s') → ∀ i w args', Rel i s w → Gl i → VRs i args args' → FSim P f args' i s w v s'

noncomputable section
def noEscP : List Value → AS → Option (Value × AS)
  | [v], s => some (v, s)
  | _, _ => none
theorem noEsc_ok {P : Program} {f : FuncId} {fn : Func} (hf : P.funcs[f]? = some fn) (hname : (fn.name == "runtime.NumGoroutine") = false) (hb : fn.body.isNone = true) (hn : Extern.findNext fn = none) (he : Extern.find fn = some Extern.AbiNoEscape.same) : POk P f noEscP := by
  intro args s v s' h i w args' hR hg ha
  unfold noEscP at h
  split at h
  · cases h
    cases ha with
    | cons h1 h2 =>
      cases h2
      exact FSim.ext hf hname hb hn he ⟨_, w, i, rfl, h1, hR, .refl _ _ _⟩
  · cases h

def mCloneP : List Value → AS → Option (Value × AS)
  | [.iface t (.map (some r))], s => match s.h.get r with
    | some (.map es) => some (.iface t (.map (some s.nx)), s.new (.map es))
    | _ => none
  | _, _ => none
theorem mClone_ok {P : Program} {f : FuncId} {fn : Func} (hf : P.funcs[f]? = some fn) (hname : (fn.name == "runtime.NumGoroutine") = false) (hb : fn.body.isNone = true) (hn : Extern.findNext fn = none) (he : Extern.find fn = some Extern.MapsClone.clone) : POk P f mCloneP := by
  intro args s v s' h i w args' hR hg ha
  unfold mCloneP at h
  split at h
  · rename_i t r
    split at h
    · rename_i es hes
      cases h
      cases ha with
      | cons h1 h2 =>
        cases h2
        cases h1 with | iface _ h1 =>
        cases h1 with | @map _ q hi =>
        obtain ⟨_, es', clk, l, g1, g2, g3, g4⟩ := hR.at (P := P) hes rfl hi
        obtain ⟨k1, k2⟩ := hR.new (lm := (0, 0)) (o := .map es) (x := .map es' clk) ⟨rfl, es', clk, l, rfl, g2, g3.mono (ext_le (hR.fresh s.nx (Nat.le_refl _)).1), g4⟩
        refine FSim.ext hf hname hb hn he ⟨_, _, _, ?_, .iface t (.map (ext_same _ _ _)), k1, k2⟩
        change Sem.run P (α := Value) (do
          let .map entries clock ← getObj q | stuck "maps.clone: a map expected"
          pure (.iface t (.map (some (← newObj (.map entries clock)))))) w = _
        simp only [Sem.run_bind, getMap g1 P, Result.andThen_ok]
        rfl
    · cases h
  · cases h

/-- Two slices that share nothing. -/
def apartP : List Value → AS → Option (Value × AS)
  | [.slice (some a) _ _, .slice (some b) _ _], s => match s.h.get b.block with
    | some (.cells _ k _) => bif !Nat.beq a.block b.block && live s a.block && Nat.ble 1 k then some (.bool false, s) else none
    | _ => none
  | _, _ => none
def sliceChk (E : Env) (t : TypeId) : Bool :=
  match E.ty.get t with
  | some ti => match ti.desc with
    | .slice e => (E.ty.get e).isSome
    | _ => false
  | none => false
theorem apart_ok {E : Env} (hT : TyOk E) {f : FuncId} {fn : Func} {t r : TypeId} (hf : E.P.funcs[f]? = some fn) (hname : (fn.name == "runtime.NumGoroutine") = false) (hb : fn.body.isNone = true) (hn : Extern.findNext fn = none)
    (he : Extern.find fn = some (Extern.SlicesOverlaps.overlaps #[t, t] #[r])) (hchk : sliceChk E t = true) : POk E.P f apartP := by
  intro args s v s' h i w args' hR hg ha
  have hex : ∃ ti e j, E.ty.get t = some ti ∧ ti.desc = .slice e ∧ E.ty.get e = some j := by
    unfold sliceChk at hchk
    split at hchk
    · rename_i ti hti
      split at hchk
      · rename_i e hd
        cases hj : E.ty.get e with
        | none => rw [hj] at hchk; cases hchk
        | some j => exact ⟨ti, e, j, hti, hd, hj⟩
      · cases hchk
    · cases hchk
  obtain ⟨ti, e, j, ht, hd, hj⟩ := hex
  have hu : E.P.underlying t = some (.slice e) := by
    obtain ⟨_, _, q2, _⟩ := hT.ty t ti ht
    rw [q2, hd]
  unfold apartP at h
  split at h
  · rename_i a n c b m c2
    split at h
    · rename_i cb k zb hblk
      cases hl : (!Nat.beq a.block b.block && live s a.block && Nat.ble 1 k) with
      | false => rw [hl] at h; cases h
      | true =>
        rw [hl] at h
        cases h
        simp only [Bool.and_eq_true, Bool.not_eq_true', Nat.ble_eq] at hl
        obtain ⟨⟨hne, hla⟩, hk1⟩ := hl
        cases ha with
        | cons h1 h2 =>
        cases h2 with
        | cons h2 h3 =>
        cases h3
        cases h1 with
        | @slice ba oa qa ta _ _ pa ca' hia x1 x2 x3 x4 x5 =>
        cases h2 with
        | @slice bb ob qb tb _ _ pb cb' hib y1 y2 y3 y4 y5 =>
        simp only at hne hla hblk
        obtain ⟨csa, ea, fra, w1, w2⟩ := hR.live_cells hla hia
        obtain ⟨csb, eb, frb, w3, w4, _⟩ := hR.at (P := E.P) hblk rfl hib
        have hnb : ba ≠ bb := fun e => by subst e; rw [Nat.beq_refl] at hne; cases hne
        have hlive : ∃ o, s.h.get ba = some o ∧ alive o = true := by
          unfold live at hla
          split at hla
          · rename_i hgg; exact ⟨_, hgg, rfl⟩
          · cases hla
        obtain ⟨oa', ha1, ha2⟩ := hlive
        have hqne : qa ≠ qb := fun e => by
          subst e
          exact hnb (hR.inj ba bb oa' _ qa ta tb ha1 hblk ha2 rfl hia hib)
        refine FSim.ext hf hname hb hn he ⟨.bool false, w, i, ?_, .bool _, hR, .refl _ _ _⟩
        exact Lib.run_overlaps_apart w t r e hu j.size (run_size hT hj) ⟨qa, pa, none⟩ ⟨qb, pb, none⟩ n ca' m cb' hqne ea eb csa.size csb.size (by unfold World.shape?; rw [w1]) (by unfold World.shape?; rw [w3]) (by omega) (notFrozen w1 w2 _ _) (notFrozen w1 w2 _ _)
    · cases h
  · cases h
end
end Go.Ax
