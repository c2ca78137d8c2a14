/- The abstract machine's code and the model's: operations one behind the other, code, calls. -/
import Derived.Test.YtmfdkldjinlmnaaGreatDoorAxSem11
set_option linter.unusedVariables false
set_option linter.unusedSimpArgs false
namespace Go.Ax
open Go

section
variable {E : Env} {i : Io} {s : AS} {w : World}

/-- What the slots hold. -/
def TmR (i : Io) (tm : Tm) (ts : Array Value) : Prop := ∀ k v, tm.get k = some v → VR i v (ts.getD k undef)

theorem TmR.mono {i j : Io} {tm : Tm} {ts : Array Value} (h : TmR i tm ts) (hle : Le i j) : TmR j tm ts := fun k v e => (h k v e).mono hle

theorem cst_sim {v u : Value} (h : cst v = some u) : VR i u v := by
  unfold cst at h
  split at h <;> first | (cases h; done) | skip
  · cases h; exact .int _ _
  · cases h; exact .bool _
  · cases h; exact .string _
  · cases h; exact .nilp
  · cases h; exact .nils rfl
  · cases h; exact .nilm
  · cases h; exact .nilFunc
  · cases h; exact .nilIface
  · cases h; exact .float _ _

theorem TmR.tr {tm : Tm} {a : Act} (hg : Gl i) (h : TmR i tm a.tmps) : TR i tm a.eval := by
  intro x v e
  cases x with
  | tmp k => exact h k v e
  | const c => exact cst_sim e
  | global g =>
    unfold ev at e
    simp only at e
    cases hb : Nat.blt g 1000 with
    | false => rw [hb] at e; cases e
    | true =>
      rw [hb] at e
      cases e
      have hlt : g < 1000 := by simpa [Nat.blt_eq] using hb
      have := VR.ptr (o := 0) (hg g hlt)
      exact this
  | func f => cases e; exact .func _ .nil .nil

theorem TmR.put {tm tm' : Tm} {a : Act} {N : Nat} {dst : Option Tmp} {v v' : Value} (h : TmR i tm a.tmps) (hN : N < a.tmps.size) (hv : VR i v v') (hp : putA N tm dst v = some tm') : TmR i tm' (a.put dst v').tmps := by
  cases dst with
  | none => cases hp; exact h
  | some d =>
    unfold putA at hp
    simp only at hp
    cases hb : Nat.ble d N with
    | false => rw [hb] at hp; cases hp
    | true =>
      rw [hb] at hp
      cases hp
      have hle : LE.le (α := Nat) d N := by simpa using hb
      have hlt : LT.lt (α := Nat) d a.tmps.size := Nat.lt_of_le_of_lt hle hN
      intro k u e
      rw [T.get_set] at e
      show VR i u ((a.tmps.setIfInBounds d v').getD k undef)
      rw [Array.getD_eq_getD_getElem?, Array.getElem?_setIfInBounds]
      by_cases hk : k = d
      · subst hk
        rw [if_pos rfl] at e
        cases e
        rw [if_pos rfl, if_pos hlt]
        exact hv
      · rw [if_neg hk] at e
        rw [if_neg (fun h => hk h.symm), ← Array.getD_eq_getD_getElem?]
        exact h k u e
theorem put_size (a : Act) (dst : Option Tmp) (v : Value) : (a.put dst v).tmps.size = a.tmps.size := by
  cases dst <;> simp [Act.put]
theorem put_defers (a : Act) (dst : Option Tmp) (v : Value) : (a.put dst v).defers = a.defers := by
  cases dst <;> rfl

/-- What a call comes to. -/
def RetR (i : Io) (s : AS) (w : World) (v : Value) (s' : AS) : Ending → World → Prop
  | .returned v', w' => ∃ i', VR i' v v' ∧ Rel i' s' w' ∧ Fr i s w i' s' w'
  | _, _ => False

def FSim (P : Program) (f : FuncId) (args' : List Value) (i : Io) (s : AS) (w : World) (v : Value) (s' : AS) : Prop :=
  (∃ v' w' i', (callFunc f ⟨args'⟩).run P w = .ok (.value v') w' ∧ VR i' v v' ∧ Rel i' s' w' ∧ Fr i s w i' s' w') ∨
  ((callFunc f ⟨args'⟩).run P w = .ok (.enter f ⟨args'⟩) w ∧ Calls P f ⟨args'⟩ w (RetR i s w v s'))

def CallOk (P : Program) (call : CallF) : Prop :=
  ∀ f args s v s', call f args s = some (v, s') → ∀ i w args', Rel i s w → Gl i → VRs i args args' → FSim P f args' i s w v s'

theorem calls_next {P : Program} {o : Oper} {a : Act} {next : Act → World → Prop} {Q : Exit → Act → World → Prop} {f : FuncId} {args : Array Value} {v : Value} {s' : AS}
    (hc : Calls P f args w (RetR i s w v s')) (hk : ∀ v' w' i', VR i' v v' → Rel i' s' w' → Fr i s w i' s' w' → next (a.put o.dst v') w') : o.upon P a next Q (.ok (.enter f args) w) := by
  refine Calls.mono hc (fun e w'' he => ?_)
  cases e with
  | returned v' =>
    obtain ⟨i', h1, h2, h3⟩ := he
    exact hk v' w'' i' h1 h2 h3
  | panicked c => exact he.elim
  | outgrown => exact he.elim

theorem SimN.wp {o : Oper} {a : Act} {v : Value} {s' : AS} {next : Act → World → Prop} {Q : Exit → Act → World → Prop} (h : SimN E i s w (execOp a.eval o) v s')
    (hk : ∀ v' w' i', VR i' v v' → Rel i' s' w' → Fr i s w i' s' w' → next (a.put o.dst v') w') : o.wp E.P a w next Q := by
  obtain ⟨w', i', h1, h2, h3⟩ := h
  unfold Oper.wp
  rcases h3 with ⟨v', hr, hv⟩ | ⟨hr, hv⟩
  · rw [hr]
    exact hk v' w' i' hv h1 h2
  · rw [hr]
    subst hv
    exact hk undef w' i' (.undef i') h1 h2

theorem execA_wp (hT : TyOk E) {call : CallF} (hC : CallOk E.P call) (o : Oper) {tm : Tm} {a : Act} (hR : Rel i s w) (hg : Gl i) (hρ : TR i tm a.eval) {v : Value} {s' : AS} (h : execA o.op E call tm s = some (v, s'))
    {next : Act → World → Prop} {Q : Exit → Act → World → Prop} (hk : ∀ v' w' i', VR i' v v' → Rel i' s' w' → Fr i s w i' s' w' → next (a.put o.dst v') w') : o.wp E.P a w next Q := by
  have hop : ∀ {v s'}, opA o.op E tm s = some (v, s') → (∀ v' w' i', VR i' v v' → Rel i' s' w' → Fr i s w i' s' w' → next (a.put o.dst v') w') → o.wp E.P a w next Q := fun h hk => (opA_sim hT o hR hρ h).wp hk
  cases ho : o.op
  case call c =>
    rw [ho] at h
    unfold execA callC at h
    simp only at h
    split at h
    · rename_i f hf
      unfold callV at h
      split at h
      · rename_i g first captured xs hfv hxs
        have h1 := hρ f _ hfv
        generalize hgf : a.eval f = f' at h1
        cases h1 with | @func _ fa fa' fc fc' h1 h2 =>
        have h3 := hρ.evs hxs
        have hargs := (h1.append h3).append h2
        have hF := hC _ _ _ _ _ h i w _ hR hg hargs
        have hrun : (execOp a.eval o).run E.P w = (callFunc g ⟨fa' ++ c.args.toList.map a.eval ++ fc'⟩).run E.P w := by
          unfold execOp
          rw [ho]
          simp only [resolve, hf, hgf, Deferred.ofValue, Sem.run_bind, Sem.run_pure, Result.andThen_ok, invoke]
          congr 2
          apply Array.ext'
          simp
        unfold Oper.wp
        rw [hrun]
        rcases hF with ⟨v', w', i', q1, q2, q3, q4⟩ | ⟨q1, q2⟩
        · rw [q1]; exact hk v' w' i' q2 q3 q4
        · rw [q1]; exact calls_next q2 hk
      · cases h
    · exact hop (by unfold opA; rw [ho]; exact h) hk
  all_goals
    refine hop ?_ hk
    rw [ho] at h ⊢
    exact h

end
end Go.Ax
