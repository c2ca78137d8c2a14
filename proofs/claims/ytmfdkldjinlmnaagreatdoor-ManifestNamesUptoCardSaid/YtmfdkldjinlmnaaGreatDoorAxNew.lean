/- Operations that make a block and look at nothing but their operands: at whatever number the block is to have. -/
import Derived.Test.YtmfdkldjinlmnaaGreatDoorAxFn
set_option linter.unusedVariables false
set_option linter.unusedSimpArgs false
namespace Go.Ax
open Go

section
variable {E : Env} {i : Io} {w : World}

def NewSim (P : Program) (i : Io) (w : World) (m : Sem Value) (b : Nat) (v : Value) (o : AObj) : Prop :=
  ∃ v' x w1, m.run P w = .ok v' w1 ∧ w1.heap = (addB w x).heap ∧ w1.os = w.os ∧ w1.tape = w.tape ∧ w1.output = w.output ∧
    (∀ c n z, o = .cells c n z → zs z = 0) ∧ alive o = true ∧ fixed o = false ∧ ∀ j, Le i j → j b = some (w.heap.size, 0) → VR j v v' ∧ OR j o (some x) 0

/-- A row. -/
theorem NewSim.rowz {P : Program} {m : Sem Value} {b : Nat} {l l' : List Value} (hv : VRs i l l') (e : TypeId) (z : Nat) (hze : ze z ≠ 0 → e + 1 = ze z) (hzs : zs z = 0) {w1 : World} (hw1 : w1.heap = w.heap) (ho : w1.os = w.os) (ht : w1.tape = w.tape) (hp : w1.output = w.output) {v v' : Value}
    (hr : m.run P w = .ok v' (addB w1 (.cells l'.toArray e (0, 0)))) (hvr : ∀ j : Io, Le i j → j b = some (w.heap.size, 0) → VR j v v') : NewSim P i w m b v (.cells (T.e.fill 0 l) l.length z) := by
  refine ⟨v', .cells l'.toArray e (0, 0), _, hr, ?_, ho, ht, hp, fun c n z h => by cases h; exact hzs, rfl, rfl, fun j hle hj => ⟨hvr j hle hj, ?_⟩⟩
  · show w1.heap.push _ = w.heap.push _
    rw [hw1]
  · exact OR.row (hv.mono hle) _ _ _ z hze (.inl rfl) 0 (by simp [hv.length]) (fun k _ => by simp)
theorem NewSim.row {P : Program} {m : Sem Value} {b : Nat} {l l' : List Value} (hv : VRs i l l') (e : TypeId) {w1 : World} (hw1 : w1.heap = w.heap) (ho : w1.os = w.os) (ht : w1.tape = w.tape) (hp : w1.output = w.output) {v v' : Value}
    (hr : m.run P w = .ok v' (addB w1 (.cells l'.toArray e (0, 0)))) (hvr : ∀ j : Io, Le i j → j b = some (w.heap.size, 0) → VR j v v') : NewSim P i w m b v (.cells (T.e.fill 0 l) l.length 0) :=
  NewSim.rowz hv e 0 (fun h => absurd rfl h) rfl hw1 ho ht hp hr hvr

theorem new_get (b : Nat) (o : AObj) : ((⟨.e, b⟩ : AS).new o).h.get b = some o := by
  show ((T.e : T AObj).set b o).get b = some o
  exact T.get_set_same _ _ _

theorem newA_some {op : Op} {tm : Tm} {b : Nat} {v : Value} {o : AObj} (h : newA op E tm b = some (v, o)) : ∃ s', opA op E tm ⟨.e, b⟩ = some (v, s') ∧ s'.h.get b = some o := by
  unfold newA at h
  split at h
  · cases h
  · rename_i v1 s1 h1
    split at h
    · cases h
    · rename_i o1 h2
      cases h
      exact ⟨s1, h1, h2⟩

theorem newA_sim (hT : TyOk E) {o : Oper} (hn : isNew o.op = true) {tm : Tm} {ρ : Operand → Value} (hρ : TR i tm ρ) {b : Nat} {v : Value} {ob : AObj} (h : newA o.op E tm b = some (v, ob)) :
    ∃ m : Sem Value, execOp ρ o = (do let v ← m; Pure.pure (Next.value v)) ∧ NewSim E.P i w m b v ob := by
  obtain ⟨s', h1, h2⟩ := newA_some h
  clear h
  cases ho : o.op <;> rw [ho] at hn h1 <;> first | (cases hn; done) | skip
  case alloc t =>
    refine ⟨Instr.alloc t true (.tuple #[]), by unfold execOp; rw [ho], ?_⟩
    simp only [opA, hAlloc] at h1
    split at h1
    · rename_i ti ht
      cases h1
      rw [AS.rowz, new_get] at h2
      cases h2
      obtain ⟨zv, g1, g2, g3, _⟩ := run_zero hT ht w
      refine NewSim.rowz (l' := zv.cells.toList) (by rw [← g2]; exact (g3 i).cells) t (tz 0 t) (fun _ => (tz_ze (by omega)).symm) (tz_zs (by omega)) (w1 := w) rfl rfl rfl rfl (v' := .pointer (some ⟨w.heap.size, 0, none⟩)) ?_ (fun j _ hj => ?_)
      · unfold Instr.alloc newVar newRow
        simp [g1, addB]
      · have := VR.ptr (o := 0) hj
        exact this
    · cases h1
  case box t x =>
    refine ⟨Instr.box t (ρ x), by unfold execOp; rw [ho], ?_⟩
    simp only [opA, hBox] at h1
    split at h1
    · rename_i u hu
      cases h1
      rw [AS.rowz, new_get] at h2
      cases h2
      refine NewSim.row (l' := (ρ x).cells.toList) (hρ x _ hu).cells t (w1 := w) rfl rfl rfl rfl (v' := .pointer (some ⟨w.heap.size, 0, none⟩)) ?_ (fun j _ hj => ?_)
      · unfold Instr.box newVar newRow
        simp [addB]
      · have := VR.ptr (o := 0) hj
        exact this
    · cases h1
  case buildSlice t n ps =>
    refine ⟨Instr.buildSlice t n (ps.map fun (k, x) => (k, ρ x)), by unfold execOp; rw [ho], ?_⟩
    simp only [opA, hBuildSlice] at h1
    split at h1
    · rename_i ti l ht hl
      obtain ⟨hl1, hl2⟩ := partsOf_sim hρ hl
      have hd := run_und hT ht w
      split at h1
      · rename_i e hdesc
        split at h1
        · cases h1
        · rename_i tj hj
          cases hb : Nat.ble (n * tj.size) 65536 with
          | false => rw [hb] at h1; cases h1
          | true =>
            rw [hb, cond_true] at h1
            have hle : n * tj.size ≤ 65536 := by simpa using hb
            split at h1
            · cases h1
            · rename_i cs hcs
              cases h1
              simp only [AS.row, AS.rowz, new_get] at h2
              cases h2
              obtain ⟨zv, hz1, hz2, hz3, _, _, hzl⟩ := run_zero hT hj w
              have hrc : VRs i (rep n tj.zero) (rep n zv.cells.toList) := VRs.rep n (by rw [← hz2]; exact (hz3 i).cells)
              obtain ⟨r', k1, k2⟩ := fill_sim (i := i) (fun k => some (k * tj.size, tj.size)) l _ _ _ _ cs hl1 hl2 hrc hcs
              have hzs : zv.cells.size = tj.size := by rw [← Array.length_toList, hz2]; exact hzl
              have key : (Instr.buildSlice t n (ps.map fun (k, x) => (k, ρ x))).run E.P w = .ok (.slice (some ⟨w.heap.size, 0, none⟩) n n) (addB w (.cells r'.toArray e (0, 0))) := by
                unfold Instr.buildSlice
                simp only [Sem.run_bind, hd, hdesc, run_size hT hj, Result.andThen_ok]
                rw [if_neg (by omega)]
                have hf : ∀ zc : Array Value, ((Array.range (n * tj.size)).map (fun k => zc[k % zc.size]!)).toList = rep n zv.cells.toList →
                    Instr.fill (fun i => some (i * tj.size, tj.size)) ((Array.range (n * tj.size)).map (fun k => zc[k % zc.size]!)) (ps.map fun (k, x) => (k, ρ x)).toList = some ⟨r'⟩ := by
                  intro zc hzc
                  rw [map_pairs, ← k1]
                  congr 1
                  exact Array.ext' hzc
                by_cases hz0 : n * tj.size = 0
                · rw [if_pos hz0]
                  have := hf #[] (by
                    rw [hz0]
                    have : (rep n zv.cells.toList).length = 0 := by rw [rep_length, Array.length_toList, hzs, hz0]
                    rw [List.eq_nil_of_length_eq_zero this]
                    simp)
                  simp only [Sem.run_bind, Sem.run_pure, Result.andThen_ok, this, newRow, run_newObj]
                  rfl
                · rw [if_neg hz0]
                  have := hf zv.cells (by rw [← hzs]; exact zeros_eq n zv.cells)
                  simp only [Sem.run_bind, Sem.run_pure, Result.andThen_ok, hz1, this, newRow, run_newObj]
                  rfl
              exact NewSim.row k2 e (w1 := w) rfl rfl rfl rfl key (fun j _ hj => .slice hj (by omega) (by omega) (by omega) (.inl rfl) (fun h0 => by omega))
      · cases h1
    · cases h1
  case makeMap t r =>
    refine ⟨Instr.makeMap t (r.map ρ), by unfold execOp; rw [ho], ?_⟩
    simp only [opA] at h1
    have hend : v = .map (some b) → ob = .map [] → (Instr.makeMap t (r.map ρ)).run E.P w = .ok (.map (some w.heap.size)) (addB w (.map #[] 0)) → NewSim E.P i w (Instr.makeMap t (r.map ρ)) b v ob := by
      intro e1 e2 hr
      subst e1; subst e2
      exact ⟨_, _, _, hr, rfl, rfl, rfl, rfl, fun c n z h => (by cases h), rfl, rfl, fun j _ hj => ⟨.map hj, rfl, #[], 0, [], rfl, List.Perm.refl _, .nil, List.Pairwise.nil⟩⟩
    unfold hMap at h1
    cases r with
    | none =>
      cases h1
      rw [new_get] at h2
      cases h2
      exact hend rfl rfl rfl
    | some x =>
      simp only at h1
      split at h1
      · rename_i kt et a b' c k n ht hn'
        cases h1
        rw [new_get] at h2
        cases h2
        have hc := hρ x _ hn'
        refine hend rfl rfl ?_
        generalize hg : ρ x = y at hc
        cases hc
        unfold Instr.makeMap
        simp only [Option.map_some, hg]
        have hd := run_und hT ht w
        simp only [Sem.run_bind, hd, Result.andThen_ok]
        simp [asInt, asIntOf]
        rfl
      · cases h1
  case makeSlice t l c =>
    refine ⟨Instr.makeSlice t (ρ l) (ρ c), by unfold execOp; rw [ho], ?_⟩
    simp only [opA] at h1
    unfold hMakeSlice at h1
    split at h1
    · rename_i ti k n k' m ht hn hm
      have hcn := hρ l _ hn
      generalize hgn : ρ l = yn at hcn
      cases hcn
      have hcm := hρ c _ hm
      generalize hgm : ρ c = ym at hcm
      cases hcm
      have hd := run_und hT ht w
      split at h1
      · rename_i e hdesc
        split at h1
        · cases h1
        · rename_i tj hj
          split at h1
          · rename_i hcond
            cases h1
            simp only [AS.row, AS.rowz, new_get] at h2
            cases h2
            obtain ⟨c1, c2, c3, c4⟩ := hcond
            obtain ⟨zv, hz1, hz2, hz3, _, _, hzl⟩ := run_zero hT hj w
            obtain ⟨info, hi1, hi2, hi3⟩ := run_info hT hj w
            have hzs : zv.cells.size = tj.size := by rw [← Array.length_toList, hz2]; exact hzl
            have hw1 : IntKind.i64.wrap n = n := by
              rw [← wrapA_eq]
              show wrS 18446744073709551616 9223372036854775808 n = n
              rw [wrS_eq _ _ (by decide)]
              unfold small at c4
              have : n % ((18446744073709551616 : Nat) : Int) = n := Int.emod_eq_of_lt c1 (by omega)
              rw [this, if_neg (by omega)]
            have hw2 : IntKind.i64.wrap m = m := by
              rw [← wrapA_eq]
              show wrS 18446744073709551616 9223372036854775808 m = m
              rw [wrS_eq _ _ (by decide)]
              unfold small at c4
              have : m % ((18446744073709551616 : Nat) : Int) = m := Int.emod_eq_of_lt (by omega) (by omega)
              rw [this, if_neg (by omega)]
            have key : (Instr.makeSlice t (.int k n) (.int k' m)).run E.P w = .ok (.slice (some ⟨w.heap.size, 0, none⟩) n.toNat m.toNat) (addB w (.cells (rep m.toNat zv.cells.toList).toArray e (0, 0))) := by
              unfold Instr.makeSlice
              simp only [Sem.run_bind, hd, hdesc, Result.andThen_ok, asInt, asIntOf, Sem.run_pure, hi1, hi3, hw1, hw2, run_size hT hj]
              have hbig : (tj.bytes : Int) * m ≤ small := by rw [Int.mul_comm]; exact c3
              have hneg : ¬ ((decide (m < 0) || decide ((tj.bytes : Int) * m > 2 ^ 48) || decide (n < 0) || decide (n > m)) = true) := by
                simp only [Bool.or_eq_true, decide_eq_true_eq]
                unfold small at hbig
                omega
              rw [if_neg hneg]
              simp only [Sem.run_bind, run_askRoom, Result.andThen_ok, Sem.run_pure, run_size hT hj]
              by_cases hz0 : m.toNat * tj.size = 0
              · rw [if_pos hz0]
                have hr0 : rep m.toNat zv.cells.toList = [] := by
                  apply List.eq_nil_of_length_eq_zero
                  rw [rep_length, Array.length_toList, hzs, hz0]
                have hm0 : (Array.range 0).map (fun k => (#[] : Array Value)[k % (#[] : Array Value).size]!) = #[] := by simp
                simp only [Sem.run_bind, Sem.run_pure, Result.andThen_ok, hz0, newRow, run_newObj, hr0, hm0]
                rfl
              · rw [if_neg hz0]
                have : (Array.range (m.toNat * tj.size)).map (fun k => zv.cells[k % zv.cells.size]!) = (rep m.toNat zv.cells.toList).toArray := by
                  apply Array.ext'
                  rw [← hzs, zeros_eq]
                simp only [Sem.run_bind, hz1, Result.andThen_ok, Sem.run_pure, this, newRow, run_newObj]
                rfl
            have hrc : VRs i (rep m.toNat tj.zero) (rep m.toNat zv.cells.toList) := VRs.rep _ (by rw [← hz2]; exact (hz3 i).cells)
            exact NewSim.row hrc e (w1 := w) rfl rfl rfl rfl key (fun j _ hj => .slice hj (by omega) (by omega) (by omega) (.inl rfl) (fun h0 => by omega))
          · cases h1
      · cases h1
    · cases h1

end
end Go.Ax
