/- The abstract machine's memory and the model's: what a load reads, what a store and a new block leave. -/
import Derived.Test.YtmfdkldjinlmnaaGreatDoorAxRel
set_option linter.unusedVariables false
set_option linter.unusedSimpArgs false
namespace Go.Ax
open Go

def setB (w : World) (q : Nat) (o : Obj) : World := { w with heap := w.heap.setIfInBounds q o }
def addB (w : World) (o : Obj) : World := { w with heap := w.heap.push o }

theorem setB_same {w : World} {q : Nat} {o x : Obj} (h : w.heap[q]? = some x) : (setB w q o).heap[q]? = some o := by
  have : q < w.heap.size := by
    rcases Nat.lt_or_ge q w.heap.size with h' | h'
    · exact h'
    · rw [Array.getElem?_eq_none h'] at h; cases h
  simp [setB, Array.getElem?_setIfInBounds, this]
theorem setB_ne {w : World} {q k : Nat} {o : Obj} (h : k ≠ q) : (setB w q o).heap[k]? = w.heap[k]? := by
  simp [setB, Array.getElem?_setIfInBounds, Ne.symm h]
theorem setB_size (w : World) (q : Nat) (o : Obj) : (setB w q o).heap.size = w.heap.size := by simp [setB]
theorem addB_new (w : World) (o : Obj) : (addB w o).heap[w.heap.size]? = some o := by
  show (w.heap.push o)[w.heap.size]? = _
  simp
theorem addB_old {w : World} {k : Nat} {o : Obj} (h : k < w.heap.size) : (addB w o).heap[k]? = w.heap[k]? := by
  show (w.heap.push o)[k]? = _
  rw [Array.getElem?_push, if_neg (by omega)]
theorem addB_size (w : World) (o : Obj) : (addB w o).heap.size = w.heap.size + 1 := by
  show (w.heap.push o).size = _
  simp
theorem lt_of_some {w : World} {k : Nat} {o : Obj} (h : w.heap[k]? = some o) : k < w.heap.size := by
  rcases Nat.lt_or_ge k w.heap.size with h' | h'
  · exact h'
  · rw [Array.getElem?_eq_none h'] at h; cases h

theorem ones_spec : ∀ {l : List Value}, ones l = true → ∀ v ∈ l, v.oneCell' = true
  | [], _, v, hv => by cases hv
  | a :: l, h, v, hv => by
    simp only [ones, Bool.and_eq_true] at h
    cases hv with
    | head => cases a <;> first | rfl | simp [oneC] at h
    | tail _ hv => exact ones_spec h.2 v hv

theorem add_none (q p n : Nat) : (⟨q, p, none⟩ : Addr).add n = ⟨q, p + n, none⟩ := by
  unfold Addr.add
  split
  · rename_i h; subst h; rfl
  · rfl

theorem cell_of {w : World} {q k : Nat} {cs : Array Value} {e : TypeId} {fr : Nat × Nat} (h : w.heap[q]? = some (.cells cs e fr)) : w.cell? ⟨q, k, none⟩ = cs[k]? := by
  simp [World.cell?, h]

theorem frozen_of {w : World} {q k : Nat} {cs : Array Value} {e : TypeId} {fr : Nat × Nat} (h : w.heap[q]? = some (.cells cs e fr)) (hk : k < cs.size) (hf : fr.2 ≤ fr.1 ∨ cs.size ≤ fr.1) : w.frozen? ⟨q, k, none⟩ = false := by
  obtain ⟨lo, hi⟩ := fr
  simp only [World.frozen?, h]
  simp only at hf
  simp only [Bool.and_eq_false_iff, decide_eq_false_iff_not]
  omega

theorem setCell_eq {w : World} {q k : Nat} {cs : Array Value} {e : TypeId} {fr : Nat × Nat} {v : Value} (h : w.heap[q]? = some (.cells cs e fr)) : w.setCell ⟨q, k, none⟩ v = setB w q (.cells (cs.setIfInBounds k v) e fr) := by
  have hq := lt_of_some h
  unfold World.setCell setB
  congr 1
  apply Array.ext
  · simp
  · intro j h1 h2
    rw [Array.getElem_modify, Array.getElem_setIfInBounds]
    by_cases hj : q = j
    · subst hj
      have : w.heap[q] = .cells cs e fr := by simpa [Array.getElem?_eq_getElem hq] using h
      rw [if_pos rfl, if_pos rfl, this]
      rfl
    · rw [if_neg hj, if_neg hj]

theorem setB_setB {w : World} {q : Nat} {a b : Obj} : setB (setB w q a) q b = setB w q b := by
  simp [setB]

theorem run_storeW {P : Program} (q p : Nat) : ∀ (vs : List Value) (i : Nat) (w : World) (cs : Array Value) (e : TypeId) (fr : Nat × Nat), w.heap[q]? = some (.cells cs e fr) → p + i + vs.length ≤ cs.size →
    (fr.2 ≤ fr.1 ∨ cs.size ≤ fr.1) → ones vs = true →
    ∃ cs' : Array Value, (storeCells ⟨q, p, none⟩ vs i).run P w = .ok () (setB w q (.cells cs' e fr)) ∧ cs'.size = cs.size ∧ ∀ k : Nat, cs'[k]? = if p + i ≤ k ∧ k < p + i + vs.length then vs[k - (p + i)]? else cs[k]? := by
  intro vs
  induction vs with
  | nil =>
    intro i w cs e fr h _ _ _
    refine ⟨cs, ?_, rfl, fun k => by simp; omega⟩
    have : setB w q (.cells cs e fr) = w := by
      have hq := lt_of_some h
      unfold setB
      congr 1
      apply Array.ext
      · simp
      · intro j h1 h2
        rw [Array.getElem_setIfInBounds]
        by_cases hj : q = j
        · subst hj; rw [if_pos rfl]; simpa [Array.getElem?_eq_getElem hq] using h.symm
        · rw [if_neg hj]
    rw [this]
    rfl
  | cons v vs ih =>
    intro i w cs e fr h hl hf ho
    simp only [List.length_cons] at hl
    have ho' : ones vs = true := by simp only [ones, Bool.and_eq_true] at ho; exact ho.2
    have hv : v.oneCell' = true := ones_spec ho v (by simp)
    have hc : w.cell? ⟨q, p + i, none⟩ = some cs[p + i] := by rw [cell_of h, Array.getElem?_eq_getElem (by omega)]
    have hfz := frozen_of (k := p + i) h (by omega) hf
    have h1 : (setB w q (.cells (cs.setIfInBounds (p + i) v) e fr)).heap[q]? = some (.cells (cs.setIfInBounds (p + i) v) e fr) := setB_same h
    obtain ⟨cs', hrun, hsz, hget⟩ := ih (i + 1) _ (cs.setIfInBounds (p + i) v) e fr h1 (by simp; omega) (by simpa using hf) ho'
    refine ⟨cs', ?_, by simpa using hsz, fun k => ?_⟩
    · rw [storeCells, add_none]
      simp only [Sem.run_bind, run_store _ _ _ _ _ hv, hc, hfz, Bool.false_eq_true, if_false, Result.andThen_ok]
      rw [setCell_eq h, hrun, setB_setB]
    · rw [hget]
      simp only [List.length_cons]
      by_cases hk : k = p + i
      · subst hk
        rw [if_neg (by omega), if_pos (by omega)]
        simp [Array.getElem?_setIfInBounds]
        omega
      · by_cases hk2 : p + (i + 1) ≤ k ∧ k < p + (i + 1) + vs.length
        · rw [if_pos hk2, if_pos (by omega), show k - (p + i) = (k - (p + (i + 1))) + 1 by omega]
          simp
        · rw [if_neg hk2, if_neg (by omega)]
          simp [Ne.symm hk]

section
variable {i : Io} {s : AS} {w : World}

/-- What lies where a pointer into a live block of cells leads. -/
theorem Rel.at {P : Program} (h : Rel i s w) {b q t : Nat} {o : AObj} (ho : s.h.get b = some o) (ha : alive o = true) (hi : i b = some (q, t)) : OR i o w.heap[q]? t := by
  obtain ⟨q', t', e, hor⟩ := h.obj b o ho ha
  rw [hi] at e
  cases e
  exact hor

theorem Rel.rd {b o q t : Nat} {v : Value} (h : Rel i s w) (hr : rd s b o = some v) (hi : i b = some (q, t)) : ∃ v', w.cell? ⟨q, t + o, none⟩ = some v' ∧ VR i v v' := by
  unfold Go.Ax.rd at hr
  split at hr
  · rename_i c m z he
    obtain ⟨cs, e, fr, h1, h2, h3, h4, h5⟩ := h.at (P := default) he rfl hi
    cases hb : Nat.blt o m with
    | false => rw [hb] at hr; cases hr
    | true =>
      rw [hb] at hr
      obtain ⟨v', a, b⟩ := h4 o v (by simpa [Nat.blt_eq] using hb) hr
      exact ⟨v', by rw [cell_of h1]; exact a, b⟩
  · rename_i c m he
    obtain ⟨cs, e, fr, h1, h2, h4⟩ := h.at (P := default) he rfl hi
    cases hb : Nat.blt o m with
    | false => rw [hb] at hr; cases hr
    | true =>
      rw [hb] at hr
      obtain ⟨v', a, b⟩ := h4 o v (by simpa [Nat.blt_eq] using hb) hr
      exact ⟨v', by rw [cell_of h1]; exact a, b⟩
  · cases hr

theorem Rel.rdN {P : Program} {b o n q t : Nat} {l : List Value} (h : Rel i s w) (hr : rdN s b o n = some l) (hi : i b = some (q, t)) :
    ∃ l' : List Value, (loadCells ⟨q, t + o, none⟩ n).run P w = .ok l'.toArray w ∧ VRs i l l' ∧ l.length = n := by
  have key : ∀ (c : T Value) (m : Nat), (∃ cs e fr, w.heap[q]? = some (.cells cs e fr) ∧ t + m ≤ cs.size ∧ ∀ k v, k < m → c.get k = some v → ∃ v' : Value, cs[t + k]? = some v' ∧ VR i v v') →
      (bif Nat.ble (o + n) m then c.list n o else none) = some l → ∃ l' : List Value, (loadCells ⟨q, t + o, none⟩ n).run P w = .ok l'.toArray w ∧ VRs i l l' ∧ l.length = n := by
    intro c m ⟨cs, e, fr, h1, h2, h4⟩ hr
    cases hb : Nat.ble (o + n) m with
    | false => rw [hb] at hr; cases hr
    | true =>
      rw [hb] at hr
      have hle : o + n ≤ m := by simpa using hb
      obtain ⟨hl1, hl2⟩ := T.list_some c n o l hr
      let l' : List Value := (List.range n).map fun k => cs.getD (t + o + k) undef
      have hcs : ∀ k, k < n → cs[t + o + k]? = l'[k]? := by
        intro k hk
        simp only [l', List.getElem?_map, List.getElem?_range hk, Option.map_some]
        rw [Array.getD_eq_getD_getElem?]
        have : t + o + k < cs.size := by omega
        simp [Array.getElem?_eq_getElem this]
      refine ⟨l', ?_, ?_, hl1⟩
      · have := run_loadCells_list (P := P) (w := w) ⟨q, t + o, none⟩ l' (fun j v hj => by
          have hjn : j < n := by
            have := (List.getElem?_eq_some_iff.1 hj).1
            simpa [l'] using this
          rw [add_none, cell_of h1, hcs j hjn, hj])
        simpa [l'] using this
      · refine VRs.of_get (by simp [l', hl1]) (fun k v hk => ?_)
        have hkn : k < n := by
          have := (List.getElem?_eq_some_iff.1 hk).1
          omega
        have := hl2 k hkn
        rw [hk] at this
        obtain ⟨v', a, b⟩ := h4 (o + k) v (by omega) this
        refine ⟨v', ?_, b⟩
        rw [← hcs k hkn, Nat.add_assoc]
        exact a
  unfold Go.Ax.rdN at hr
  split at hr
  · rename_i c m z he
    obtain ⟨cs, e, fr, h1, h2, h3, h4, h5⟩ := h.at (P := default) he rfl hi
    exact key c m ⟨cs, e, fr, h1, h2, h4⟩ hr
  · rename_i c m he
    obtain ⟨cs, e, fr, h1, h2, h4⟩ := h.at (P := default) he rfl hi
    exact key c m ⟨cs, e, fr, h1, h2, h4⟩ hr
  · cases hr

end
end Go.Ax
