/- The abstract machine's operations and the model's, part 5: aggregates, conversions, new maps and slices. -/
import Derived.Test.YtmfdkldjinlmnaaGreatDoorAxSem4
import Derived.Lib.ConvBytes
set_option linter.unusedVariables false
set_option linter.unusedSimpArgs false
namespace Go.Ax
open Go

section
variable {E : Env} {i : Io} {s : AS} {w : World}

theorem partsOf_sim {tm : Tm} {ρ : Operand → Value} (hρ : TR i tm ρ) : ∀ {ps : List (Nat × Operand)} {l : List (Nat × Value)}, partsOf tm ps = some l →
    l.map (·.1) = ps.map (·.1) ∧ VRs i (l.map (·.2)) (ps.map fun p => ρ p.2)
  | [], l, h => by simp only [partsOf, Option.some.injEq] at h; subst h; exact ⟨rfl, .nil⟩
  | (k, x) :: ps, l, h => by
    simp only [partsOf] at h
    cases h1 : ev tm x with
    | none => rw [h1] at h; cases h
    | some v =>
      rw [h1] at h
      cases h2 : partsOf tm ps with
      | none => rw [h2] at h; cases h
      | some r =>
        rw [h2] at h
        cases h
        obtain ⟨g1, g2⟩ := partsOf_sim hρ h2
        exact ⟨by simp [g1], .cons (hρ x v h1) g2⟩

theorem foldl_set0 (off : Nat) : ∀ (vs : List Value) (k : Nat) (A B : List Value), A.length = off + k → vs.length ≤ B.length →
    (vs.zipIdx k).foldl (fun (cs : Array Value) (p : Value × Nat) => cs.setIfInBounds (off + p.2) p.1) (Array.mk (A ++ B)) = Array.mk (A ++ vs ++ B.drop vs.length)
  | [], k, A, B, _, _ => by simp
  | v :: vs, k, A, [], _, h => by simp at h
  | v :: vs, k, A, b :: B, hA, h => by
    simp only [List.length_cons] at h
    rw [List.zipIdx_cons, List.foldl_cons]
    have e : (Array.mk (A ++ b :: B)).setIfInBounds (off + k) v = Array.mk ((A ++ [v]) ++ B) := by
      apply Array.ext'
      simp only [Array.toList_setIfInBounds]
      rw [← hA, List.set_append_right _ _ (Nat.le_refl _)]
      simp
    show List.foldl _ ((Array.mk (A ++ b :: B)).setIfInBounds (off + k) v) _ = _
    rw [e, foldl_set0 off vs (k + 1) (A ++ [v]) B (by simp [hA]; omega) (by omega)]
    simp

theorem foldl_set (vs : List Value) (off : Nat) (cs : List Value) (h : off + vs.length ≤ cs.length) :
    vs.zipIdx.foldl (fun (cs : Array Value) (p : Value × Nat) => cs.setIfInBounds (off + p.2) p.1) (Array.mk cs) = Array.mk (cs.take off ++ vs ++ cs.drop (off + vs.length)) := by
  have := foldl_set0 off vs 0 (cs.take off) (cs.drop off) (by simp; omega) (by simp; omega)
  rw [List.take_append_drop] at this
  rw [this, List.drop_drop]

theorem fill_sim (place : Nat → Option (Nat × Nat)) : ∀ (l : List (Nat × Value)) (ks : List Nat) (us : List Value) (cells : List Value) (cells' : List Value) (r : List Value), l.map (·.1) = ks → VRs i (l.map (·.2)) us → VRs i cells cells' → fillA place cells l = some r →
    ∃ r', Instr.fill place ⟨cells'⟩ (ks.zip us) = some ⟨r'⟩ ∧ VRs i r r'
  | [], ks, us, cells, cells', r, hk, hu, hc, h => by
    simp only [List.map_nil] at hk hu
    subst hk
    simp only [fillA, Option.some.injEq] at h
    subst h
    exact ⟨cells', rfl, hc⟩
  | (k, v) :: l, ks, us, cells, cells', r, hk, hu, hc, h => by
    simp only [List.map_cons] at hk hu
    subst hk
    cases hu with
    | @cons _ v' _ us' hv hus =>
      simp only [fillA] at h
      split at h
      · cases h
      · rename_i off size hp
        cases hb : (Nat.beq v.cells.toList.length size && Nat.ble (off + v.cells.toList.length) cells.length) with
        | false => rw [hb] at h; cases h
        | true =>
          rw [hb, cond_true] at h
          simp only [Bool.and_eq_true] at hb
          have hb1 : v.cells.toList.length = size := by simpa using hb.1
          have hb2 : off + v.cells.toList.length ≤ cells.length := by simpa using hb.2
          have hvc := hv.cells
          have hlen := hvc.length
          have hcl := hc.length
          have hc2 : VRs i (cells.take off ++ v.cells.toList ++ cells.drop (off + v.cells.toList.length)) (cells'.take off ++ v'.cells.toList ++ cells'.drop (off + v'.cells.toList.length)) := by
            rw [← hlen]
            exact ((hc.take off).append hvc).append (hc.drop _)
          obtain ⟨r', h1, h2⟩ := fill_sim place l (l.map (·.1)) us' _ _ r rfl hus hc2 h
          refine ⟨r', ?_, h2⟩
          simp only [List.zip_cons_cons, Instr.fill, hp]
          have e1 : v'.cells.size = size := by rw [← Array.length_toList, ← hlen]; exact hb1
          have e2 : ¬ (off + v'.cells.size > (Array.mk cells').size) := by
            rw [← Array.length_toList, ← hlen]
            simp only [List.size_toArray]
            omega
          rw [if_neg (by
            rw [Bool.or_eq_true, decide_eq_true_eq, decide_eq_true_eq]
            rintro (hh | hh)
            · exact hh e1
            · exact e2 hh)]
          have := foldl_set v'.cells.toList off cells' (by omega)
          rw [← h1, ← this, ← Array.foldl_toList, Array.toList_zipIdx]

theorem places_sim (hT : TyOk E) : ∀ {fs : List Field} {pl : List (Nat × Nat)}, placesOf E fs = some pl → (fs.mapM (m := Sem) fun f => do Pure.pure (f.offset, ← Go.sizeOf f.type)).run E.P w = .ok pl w
  | [], pl, h => by simp only [placesOf, Option.some.injEq] at h; subst h; rfl
  | f :: fs, pl, h => by
    simp only [placesOf] at h
    split at h
    · cases h
    · rename_i tj hj
      split at h
      · cases h
      · rename_i r hr
        cases h
        have ih := places_sim hT hr
        rw [List.mapM_cons]
        simp only [Sem.run_bind, run_size hT hj, Result.andThen_ok, Sem.run_pure, ih]

theorem map_pairs (ps : Array (Nat × Operand)) (ρ : Operand → Value) : (ps.map fun (k, x) => (k, ρ x)).toList = (ps.toList.map (·.1)).zip (ps.toList.map fun p => ρ p.2) := by
  rw [Array.toList_map]
  induction ps.toList with
  | nil => rfl
  | cons p l ih => simp [ih]

theorem hBuild_sim (hT : TyOk E) (t : TypeId) (ps : Array (Nat × Operand)) {tm : Tm} {ρ : Operand → Value} (hR : Rel i s w) (hρ : TR i tm ρ) {v : Value} {s' : AS} (h : hBuild t ps E tm s = some (v, s')) :
    Sim E i s w (Instr.build t (ps.map fun (k, x) => (k, ρ x))) v s' := by
  unfold hBuild at h
  split at h
  · rename_i ti l ht hl
    obtain ⟨hl1, hl2⟩ := partsOf_sim hρ hl
    obtain ⟨zv, hz1, hz2, hz3, _⟩ := run_zero hT ht w
    have hzc : VRs i ti.zero zv.cells.toList := by rw [← hz2]; exact (hz3 i).cells
    have hd := run_und hT ht w
    split at h
    · rename_i fs hdesc
      split at h
      · cases h
      · rename_i pl hpl
        split at h
        · cases h
        · rename_i cs hcs
          cases h
          obtain ⟨r', h1, h2⟩ := fill_sim (i := i) (fun k => pl[k]?) l _ _ ti.zero zv.cells.toList cs hl1 hl2 hzc hcs
          refine Sim.ofPure hR (v' := .agg ⟨r'⟩) ?_ (.agg h2)
          unfold Instr.build
          have hp := places_sim (w := w) hT hpl
          simp only [Sem.run_bind, hz1, hd, hdesc, Result.andThen_ok]
          rw [Array.mapM_eq_mapM_toList]
          simp only [Sem.run_map, hp, Result.andThen_ok]
          rw [map_pairs]
          have : Instr.fill (fun x => pl.toArray[x]?) zv.cells ((ps.toList.map (·.1)).zip (ps.toList.map fun p => ρ p.2)) = some ⟨r'⟩ := by
            rw [show (fun x => pl.toArray[x]?) = fun k => pl[k]? by funext k; simp]
            exact h1
          rw [this]
          rfl
    · rename_i m e hdesc
      split at h
      · cases h
      · rename_i tj hj
        split at h
        · cases h
        · rename_i cs hcs
          cases h
          obtain ⟨r', h1, h2⟩ := fill_sim (i := i) (fun k => some (k * tj.size, tj.size)) l _ _ ti.zero zv.cells.toList cs hl1 hl2 hzc hcs
          refine Sim.ofPure hR (v' := .agg ⟨r'⟩) ?_ (.agg h2)
          unfold Instr.build
          simp only [Sem.run_bind, hz1, hd, hdesc, run_size hT hj, Result.andThen_ok]
          rw [map_pairs]
          have : Instr.fill (fun i => some (i * tj.size, tj.size)) zv.cells ((ps.toList.map (·.1)).zip (ps.toList.map fun p => ρ p.2)) = some ⟨r'⟩ := h1
          rw [this]
          rfl
    · cases h
  · cases h

theorem rep_length (n : Nat) (l : List Value) : (rep n l).length = n * l.length := by
  induction n with
  | zero => simp only [Nat.zero_mul]; rfl
  | succ n ih =>
    show (l ++ rep n l).length = _
    rw [List.length_append, ih, Nat.succ_mul]
    omega
theorem rep_get (n : Nat) (l : List Value) (k : Nat) (h : k < n * l.length) : (rep n l)[k]? = l[k % l.length]? := by
  induction n generalizing k with
  | zero => omega
  | succ n ih =>
    show (l ++ rep n l)[k]? = _
    rw [List.getElem?_append]
    by_cases hk : k < l.length
    · rw [if_pos hk, Nat.mod_eq_of_lt hk]
    · rw [if_neg hk, ih _ (by rw [Nat.add_mul, Nat.one_mul] at h; omega)]
      congr 1
      exact (Nat.mod_eq_sub_mod (by omega)).symm
theorem VRs.rep (n : Nat) {l l' : List Value} (h : VRs i l l') : VRs i (rep n l) (rep n l') := by
  induction n with
  | zero => exact .nil
  | succ n ih => exact h.append ih

/-- The model's zeros, so many. -/
theorem zeros_eq (n : Nat) (zc : Array Value) : ((Array.range (n * zc.size)).map (fun k => zc[k % zc.size]!)).toList = rep n zc.toList := by
  apply List.ext_getElem?
  intro k
  simp only [Array.toList_map, Array.toList_range, List.getElem?_map]
  by_cases hk : k < n * zc.size
  · rw [List.getElem?_range hk, rep_get _ _ _ (by simpa using hk)]
    have hpos : 0 < zc.size := by
      rcases Nat.eq_zero_or_pos zc.size with h | h
      · rw [h] at hk; omega
      · exact h
    have hm := Nat.mod_lt k hpos
    simp only [Option.map_some, Array.length_toList]
    rw [getElem!_pos zc _ hm, Array.getElem?_toList, Array.getElem?_eq_getElem hm]
  · rw [List.getElem?_eq_none (by simpa using hk), List.getElem?_eq_none (by rw [rep_length]; simpa using hk)]
    rfl

theorem hBuildSlice_sim (hT : TyOk E) (t : TypeId) (n : Nat) (ps : Array (Nat × Operand)) {tm : Tm} {ρ : Operand → Value} (hR : Rel i s w) (hρ : TR i tm ρ) {v : Value} {s' : AS} (h : hBuildSlice t n ps E tm s = some (v, s')) :
    Sim E i s w (Instr.buildSlice t n (ps.map fun (k, x) => (k, ρ x))) v s' := by
  unfold hBuildSlice at h
  split at h
  · rename_i ti l ht hl
    obtain ⟨hl1, hl2⟩ := partsOf_sim hρ hl
    have hd := run_und hT ht w
    split at h
    · rename_i e hdesc
      split at h
      · cases h
      · rename_i tj hj
        cases hb : Nat.ble (n * tj.size) 65536 with
        | false => rw [hb] at h; cases h
        | true =>
          rw [hb, cond_true] at h
          have hle : n * tj.size ≤ 65536 := by simpa using hb
          split at h
          · cases h
          · rename_i cs hcs
            cases h
            obtain ⟨zv, hz1, hz2, hz3, _, _, hzl⟩ := run_zero hT hj w
            have hrc : VRs i (rep n tj.zero) (rep n zv.cells.toList) := VRs.rep n (by rw [← hz2]; exact (hz3 i).cells)
            obtain ⟨r', h1, h2⟩ := fill_sim (i := i) (fun k => some (k * tj.size, tj.size)) l _ _ _ _ cs hl1 hl2 hrc hcs
            have hzs : zv.cells.size = tj.size := by rw [← Array.length_toList, hz2]; exact hzl
            have key : (Instr.buildSlice t n (ps.map fun (k, x) => (k, ρ x))).run E.P w = .ok (.slice (some ⟨w.heap.size, 0, none⟩) n n) (addB w (.cells r'.toArray e (0, 0))) := by
              unfold Instr.buildSlice
              simp only [Sem.run_bind, hd, hdesc, run_size hT hj, Result.andThen_ok]
              rw [if_neg (by omega)]
              have hf : ∀ zc : Array Value, ((Array.range (n * tj.size)).map (fun k => zc[k % zc.size]!)).toList = rep n zv.cells.toList →
                  Instr.fill (fun i => some (i * tj.size, tj.size)) ((Array.range (n * tj.size)).map (fun k => zc[k % zc.size]!)) (ps.map fun (k, x) => (k, ρ x)).toList = some ⟨r'⟩ := by
                intro zc hzc
                rw [map_pairs, ← h1]
                congr 1
                exact Array.ext' hzc
              by_cases hz0 : n * tj.size = 0
              · rw [if_pos hz0]
                have := hf #[] (by
                  rw [hz0]
                  have : (rep n zv.cells.toList).length = 0 := by rw [rep_length, Array.length_toList, hzs, hz0]
                  rw [List.eq_nil_of_length_eq_zero this]
                  simp)
                simp only [Sem.run_bind, Sem.run_pure, Result.andThen_ok, this, newRow, run_newObj]
                rfl
              · rw [if_neg hz0]
                have := hf zv.cells (by rw [← hzs]; exact zeros_eq n zv.cells)
                simp only [Sem.run_bind, Sem.run_pure, Result.andThen_ok, hz1, this, newRow, run_newObj]
                rfl
            obtain ⟨g1, g2, g3⟩ := hR.rowz h2 0 r'.toArray e (fun h => absurd rfl h) (0, 0) (.inl rfl) (by simp [h2.length]) (fun k _ => by simp) (0, 0) ⟨rfl, Nat.zero_le _⟩
            exact ⟨_, _, _, key, .slice (ext_same _ _ _) (by omega) (by omega) (by omega) (.inl rfl) (fun h0 => by omega), g1, g2⟩
    · cases h
  · cases h

end
end Go.Ax
