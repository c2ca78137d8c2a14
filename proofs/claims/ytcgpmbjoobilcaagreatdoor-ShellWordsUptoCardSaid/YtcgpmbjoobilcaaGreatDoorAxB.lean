/- The abstract machine's operations and the model's, part 5: aggregates, conversions, new maps and slices. -/
import Derived.Test.YtcgpmbjoobilcaaGreatDoorAxA
import Derived.Lib.ConvBytes
import Derived.Lib.Builder
import Derived.Lib.UnsafeStr
set_option linter.unusedSimpArgs false
set_option linter.unusedVariables false
namespace Go.Ax
open Go
section
variable {E : Env} {i : Io} {s : AS} {w : World}
theorem partsOf_sim {tm : Tm} {ρ : Operand → Value} (hρ : TR i tm ρ) : ∀ {ps : List (Nat × Operand)} {l : List (Nat × Value)}, partsOf tm ps = some l →
  l.map (·.1) = ps.map (·.1) ∧ VRs i (l.map (·.2)) (ps.map fun p => ρ p.2)
 | [], l, h => by simp only [partsOf, Option.some.injEq] at h; subst h; exact ⟨rfl, .nil⟩
 | (k, x) :: ps, l, h => by
  simp only [partsOf] at h
  cases h1 : ev tm x with
  | none => rw [h1] at h; cases h
  | some v =>
   rw [h1] at h
   cases h2 : partsOf tm ps with
   | none => rw [h2] at h; cases h
   | some r =>
    rw [h2] at h
    cases h
    obtain ⟨g1, g2⟩ := partsOf_sim hρ h2
    exact ⟨by simp [g1], .cons (hρ x v h1) g2⟩
theorem foldl_set0 (off : Nat) : ∀ (vs : List Value) (k : Nat) (A B : List Value), A.length = off + k → vs.length ≤ B.length →
  (vs.zipIdx k).foldl (fun (cs : Array Value) (p : Value × Nat) => cs.setIfInBounds (off + p.2) p.1) (Array.mk (A ++ B)) = Array.mk (A ++ vs ++ B.drop vs.length)
 | [], k, A, B, _, _ => by simp
 | v :: vs, k, A, [], _, h => by simp at h
 | v :: vs, k, A, b :: B, hA, h => by
  simp only [List.length_cons] at h
  rw [List.zipIdx_cons, List.foldl_cons]
  have e : (Array.mk (A ++ b :: B)).setIfInBounds (off + k) v = Array.mk ((A ++ [v]) ++ B) := by
   apply Array.ext'
   simp only [Array.toList_setIfInBounds]
   rw [← hA, List.set_append_right _ _ (Nat.le_refl _)]
   simp
  show List.foldl _ ((Array.mk (A ++ b :: B)).setIfInBounds (off + k) v) _ = _
  rw [e, foldl_set0 off vs (k + 1) (A ++ [v]) B (by simp [hA]; omega) (by omega)]
  simp
theorem foldl_set (vs : List Value) (off : Nat) (cs : List Value) (h : off + vs.length ≤ cs.length) :
  vs.zipIdx.foldl (fun (cs : Array Value) (p : Value × Nat) => cs.setIfInBounds (off + p.2) p.1) (Array.mk cs) = Array.mk (cs.take off ++ vs ++ cs.drop (off + vs.length)) := by
 have := foldl_set0 off vs 0 (cs.take off) (cs.drop off) (by simp; omega) (by simp; omega)
 rw [List.take_append_drop] at this
 rw [this, List.drop_drop]
theorem fill_sim (place : Nat → Option (Nat × Nat)) : ∀ (l : List (Nat × Value)) (ks : List Nat) (us : List Value) (cells : List Value) (cells' : List Value) (r : List Value), l.map (·.1) = ks → VRs i (l.map (·.2)) us → VRs i cells cells' → fillA place cells l = some r →
  ∃ r', Instr.fill place ⟨cells'⟩ (ks.zip us) = some ⟨r'⟩ ∧ VRs i r r'
 | [], ks, us, cells, cells', r, hk, hu, hc, h => by
  simp only [List.map_nil] at hk hu
  subst hk
  simp only [fillA, Option.some.injEq] at h
  subst h
  exact ⟨cells', rfl, hc⟩
 | (k, v) :: l, ks, us, cells, cells', r, hk, hu, hc, h => by
  simp only [List.map_cons] at hk hu
  subst hk
  cases hu with
  | @cons _ v' _ us' hv hus =>
   simp only [fillA] at h
   split at h
   ·cases h
   ·rename_i off size hp
    cases hb : (Nat.beq v.cells.toList.length size && Nat.ble (off + v.cells.toList.length) cells.length) with
    | false => rw [hb] at h; cases h
    | true =>
     rw [hb, cond_true] at h
     simp only [Bool.and_eq_true] at hb
     have hb1 : v.cells.toList.length = size := by simpa using hb.1
     have hb2 : off + v.cells.toList.length ≤ cells.length := by simpa using hb.2
     have hvc := hv.cells
     have hlen := hvc.length
     have hcl := hc.length
     have hc2 : VRs i (cells.take off ++ v.cells.toList ++ cells.drop (off + v.cells.toList.length)) (cells'.take off ++ v'.cells.toList ++ cells'.drop (off + v'.cells.toList.length)) := by
      rw [← hlen]
      exact ((hc.take off).append hvc).append (hc.drop _)
     obtain ⟨r', h1, h2⟩ := fill_sim place l (l.map (·.1)) us' _ _ r rfl hus hc2 h
     refine ⟨r', ?_, h2⟩
     simp only [List.zip_cons_cons, Instr.fill, hp]
     have e1 : v'.cells.size = size := by rw [← Array.length_toList, ← hlen]; exact hb1
     have e2 : ¬ (off + v'.cells.size > (Array.mk cells').size) := by
      rw [← Array.length_toList, ← hlen]
      simp only [List.size_toArray]
      omega
     rw [if_neg (by
      rw [Bool.or_eq_true, decide_eq_true_eq, decide_eq_true_eq]
      rintro (hh | hh)
      ·exact hh e1
      ·exact e2 hh)]
     have := foldl_set v'.cells.toList off cells' (by omega)
     rw [← h1, ← this, ← Array.foldl_toList, Array.toList_zipIdx]
theorem places_sim (hT : TyOk E) : ∀ {fs : List Field} {pl : List (Nat × Nat)}, placesOf E fs = some pl → (fs.mapM (m := Sem) fun f => do Pure.pure (f.offset, ← Go.sizeOf f.type)).run E.P w = .ok pl w
 | [], pl, h => by simp only [placesOf, Option.some.injEq] at h; subst h; rfl
 | f :: fs, pl, h => by
  simp only [placesOf] at h
  split at h
  ·cases h
  ·rename_i tj hj
   split at h
   ·cases h
   ·rename_i r hr
    cases h
    have ih := places_sim hT hr
    rw [List.mapM_cons]
    simp only [Sem.run_bind, run_size hT hj, Result.andThen_ok, Sem.run_pure, ih]
theorem map_pairs (ps : Array (Nat × Operand)) (ρ : Operand → Value) : (ps.map fun (k, x) => (k, ρ x)).toList = (ps.toList.map (·.1)).zip (ps.toList.map fun p => ρ p.2) := by
 rw [Array.toList_map]
 induction ps.toList with
 | nil => rfl
 | cons p l ih => simp [ih]
theorem hBuild_sim (hT : TyOk E) (t : TypeId) (ps : Array (Nat × Operand)) {tm : Tm} {ρ : Operand → Value} (hR : Rel i s w) (hρ : TR i tm ρ) {v : Value} {s' : AS} (h : hBuild t ps E tm s = some (v, s')) :
  Sim E i s w (Instr.build t (ps.map fun (k, x) => (k, ρ x))) v s' := by
 unfold hBuild at h
 split at h
 ·rename_i ti l ht hl
  obtain ⟨hl1, hl2⟩ := partsOf_sim hρ hl
  obtain ⟨zv, hz1, hz2, hz3, _⟩ := run_zero hT ht w
  have hzc : VRs i ti.zero zv.cells.toList := by rw [← hz2]; exact (hz3 i).cells
  have hd := run_und hT ht w
  split at h
  ·rename_i fs hdesc
   split at h
   ·cases h
   ·rename_i pl hpl
    split at h
    ·cases h
    ·rename_i cs hcs
     cases h
     obtain ⟨r', h1, h2⟩ := fill_sim (i := i) (fun k => pl[k]?) l _ _ ti.zero zv.cells.toList cs hl1 hl2 hzc hcs
     refine Sim.ofPure hR (v' := .agg ⟨r'⟩) ?_ (.agg h2)
     unfold Instr.build
     have hp := places_sim (w := w) hT hpl
     simp only [Sem.run_bind, hz1, hd, hdesc, Result.andThen_ok]
     rw [Array.mapM_eq_mapM_toList]
     simp only [Sem.run_map, hp, Result.andThen_ok]
     rw [map_pairs]
     have : Instr.fill (fun x => pl.toArray[x]?) zv.cells ((ps.toList.map (·.1)).zip (ps.toList.map fun p => ρ p.2)) = some ⟨r'⟩ := by
      rw [show (fun x => pl.toArray[x]?) = fun k => pl[k]? by funext k; simp]
      exact h1
     rw [this]
     rfl
  ·rename_i m e hdesc
   split at h
   ·cases h
   ·rename_i tj hj
    split at h
    ·cases h
    ·rename_i cs hcs
     cases h
     obtain ⟨r', h1, h2⟩ := fill_sim (i := i) (fun k => some (k * tj.size, tj.size)) l _ _ ti.zero zv.cells.toList cs hl1 hl2 hzc hcs
     refine Sim.ofPure hR (v' := .agg ⟨r'⟩) ?_ (.agg h2)
     unfold Instr.build
     simp only [Sem.run_bind, hz1, hd, hdesc, run_size hT hj, Result.andThen_ok]
     rw [map_pairs]
     have : Instr.fill (fun i => some (i * tj.size, tj.size)) zv.cells ((ps.toList.map (·.1)).zip (ps.toList.map fun p => ρ p.2)) = some ⟨r'⟩ := h1
     rw [this]
     rfl
  ·cases h
 ·cases h
theorem rep_length (n : Nat) (l : List Value) : (rep n l).length = n * l.length := by
 induction n with
 | zero => simp only [Nat.zero_mul]; rfl
 | succ n ih =>
  show (l ++ rep n l).length = _
  rw [List.length_append, ih, Nat.succ_mul]
  omega
theorem rep_get (n : Nat) (l : List Value) (k : Nat) (h : k < n * l.length) : (rep n l)[k]? = l[k % l.length]? := by
 induction n generalizing k with
 | zero => omega
 | succ n ih =>
  show (l ++ rep n l)[k]? = _
  rw [List.getElem?_append]
  by_cases hk : k < l.length
  ·rw [if_pos hk, Nat.mod_eq_of_lt hk]
  ·rw [if_neg hk, ih _ (by rw [Nat.add_mul, Nat.one_mul] at h; omega)]
   congr 1
   exact (Nat.mod_eq_sub_mod (by omega)).symm
theorem VRs.rep (n : Nat) {l l' : List Value} (h : VRs i l l') : VRs i (rep n l) (rep n l') := by
 induction n with
 | zero => exact .nil
 | succ n ih => exact h.append ih
theorem zeros_eq (n : Nat) (zc : Array Value) : ((Array.range (n * zc.size)).map (fun k => zc[k % zc.size]!)).toList = rep n zc.toList := by
 apply List.ext_getElem?
 intro k
 simp only [Array.toList_map, Array.toList_range, List.getElem?_map]
 by_cases hk : k < n * zc.size
 ·rw [List.getElem?_range hk, rep_get _ _ _ (by simpa using hk)]
  have hpos : 0 < zc.size := by
   rcases Nat.eq_zero_or_pos zc.size with h | h
   ·rw [h] at hk; omega
   ·exact h
  have hm := Nat.mod_lt k hpos
  simp only [Option.map_some, Array.length_toList]
  rw [getElem!_pos zc _ hm, Array.getElem?_toList, Array.getElem?_eq_getElem hm]
 ·rw [List.getElem?_eq_none (by simpa using hk), List.getElem?_eq_none (by rw [rep_length]; simpa using hk)]
  rfl
theorem hBuildSlice_sim (hT : TyOk E) (t : TypeId) (n : Nat) (ps : Array (Nat × Operand)) {tm : Tm} {ρ : Operand → Value} (hR : Rel i s w) (hρ : TR i tm ρ) {v : Value} {s' : AS} (h : hBuildSlice t n ps E tm s = some (v, s')) :
  Sim E i s w (Instr.buildSlice t n (ps.map fun (k, x) => (k, ρ x))) v s' := by
 unfold hBuildSlice at h
 split at h
 ·rename_i ti l ht hl
  obtain ⟨hl1, hl2⟩ := partsOf_sim hρ hl
  have hd := run_und hT ht w
  split at h
  ·rename_i e hdesc
   split at h
   ·cases h
   ·rename_i tj hj
    cases hb : Nat.ble (n * tj.size) 65536 with
    | false => rw [hb] at h; cases h
    | true =>
     rw [hb, cond_true] at h
     have hle : n * tj.size ≤ 65536 := by simpa using hb
     split at h
     ·cases h
     ·rename_i cs hcs
      cases h
      obtain ⟨zv, hz1, hz2, hz3, _, _, hzl⟩ := run_zero hT hj w
      have hrc : VRs i (rep n tj.zero) (rep n zv.cells.toList) := VRs.rep n (by rw [← hz2]; exact (hz3 i).cells)
      obtain ⟨r', h1, h2⟩ := fill_sim (i := i) (fun k => some (k * tj.size, tj.size)) l _ _ _ _ cs hl1 hl2 hrc hcs
      have hzs : zv.cells.size = tj.size := by rw [← Array.length_toList, hz2]; exact hzl
      have key : (Instr.buildSlice t n (ps.map fun (k, x) => (k, ρ x))).run E.P w = .ok (.slice (some ⟨w.heap.size, 0, none⟩) n n) (addB w (.cells r'.toArray e (0, 0))) := by
       unfold Instr.buildSlice
       simp only [Sem.run_bind, hd, hdesc, run_size hT hj, Result.andThen_ok]
       rw [if_neg (by omega)]
       have hf : ∀ zc : Array Value, ((Array.range (n * tj.size)).map (fun k => zc[k % zc.size]!)).toList = rep n zv.cells.toList →
         Instr.fill (fun i => some (i * tj.size, tj.size)) ((Array.range (n * tj.size)).map (fun k => zc[k % zc.size]!)) (ps.map fun (k, x) => (k, ρ x)).toList = some ⟨r'⟩ := by
        intro zc hzc
        rw [map_pairs, ← h1]
        congr 1
        exact Array.ext' hzc
       by_cases hz0 : n * tj.size = 0
       ·rw [if_pos hz0]
        have := hf #[] (by
         rw [hz0]
         have : (rep n zv.cells.toList).length = 0 := by rw [rep_length, Array.length_toList, hzs, hz0]
         rw [List.eq_nil_of_length_eq_zero this]
         simp)
        simp only [Sem.run_bind, Sem.run_pure, Result.andThen_ok, this, newRow, run_newObj]
        rfl
       ·rw [if_neg hz0]
        have := hf zv.cells (by rw [← hzs]; exact zeros_eq n zv.cells)
        simp only [Sem.run_bind, Sem.run_pure, Result.andThen_ok, hz1, this, newRow, run_newObj]
        rfl
      obtain ⟨g1, g2, g3⟩ := hR.rowz h2 0 r'.toArray e (fun h => absurd rfl h) (0, 0) (.inl rfl) (by simp [h2.length]) (fun k _ => by simp) (0, 0) ⟨rfl, Nat.zero_le _⟩
      exact ⟨_, _, _, key, .slice (ext_same _ _ _) (by omega) (by omega) (by omega) (.inl rfl) (fun h0 => by omega), g1, g2⟩
  ·cases h
 ·cases h
end
end Go.Ax
/- The abstract machine's operations and the model's, part 6: conversions, new maps and slices, texts gone through, assertions. -/
namespace Go.Ax
open Go
section
variable {E : Env} {i : Io} {s : AS} {w : World}
theorem hMap_sim (hT : TyOk E) (t : TypeId) (r : Option Operand) {tm : Tm} {ρ : Operand → Value} (hR : Rel i s w) (hρ : TR i tm ρ) {v : Value} {s' : AS} (h : hMap t r E tm s = some (v, s')) :
  Sim E i s w (Instr.makeMap t (r.map ρ)) v s' := by
 have hnew : Sim E i s w (do Pure.pure (.map (some (← newObj (.map #[] 0))))) (.map (some s.nx)) (s.new (.map [])) := by
  obtain ⟨h1, h2⟩ := hR.new (lm := (0, 0)) (o := .map []) (x := .map #[] 0) ⟨rfl, #[], 0, [], rfl, List.Perm.refl _, .nil, List.Pairwise.nil, .nil _⟩
  exact ⟨_, _, _, rfl, .map (ext_same _ _ _), h1, h2⟩
 unfold hMap at h
 cases r with
 | none => cases h; exact hnew
 | some x =>
  simp only at h
  split at h
  ·rename_i kt et a b c k n ht hn
   cases h
   have hc := hρ x _ hn
   generalize hg : ρ x = y at hc
   cases hc
   obtain ⟨v', w', i', g1, g2, g3, g4⟩ := hnew
   refine ⟨v', w', i', ?_, g2, g3, g4⟩
   unfold Instr.makeMap
   simp only [Option.map_some, hg]
   have hd := run_und hT ht w
   simp only [Sem.run_bind, hd, Result.andThen_ok]
   simpa [asInt, asIntOf] using g1
  ·cases h
theorem hMakeSlice_sim (hT : TyOk E) (t : TypeId) (l c : Operand) {tm : Tm} {ρ : Operand → Value} (hR : Rel i s w) (hρ : TR i tm ρ) {v : Value} {s' : AS} (h : hMakeSlice t l c E tm s = some (v, s')) :
  Sim E i s w (Instr.makeSlice t (ρ l) (ρ c)) v s' := by
 unfold hMakeSlice at h
 split at h
 ·rename_i ti k n k' m ht hn hm
  have hcn := hρ l _ hn
  generalize hgn : ρ l = yn at hcn
  cases hcn
  have hcm := hρ c _ hm
  generalize hgm : ρ c = ym at hcm
  cases hcm
  have hd := run_und hT ht w
  split at h
  ·rename_i e hdesc
   split at h
   ·cases h
   ·rename_i tj hj
    split at h
    ·rename_i hcond
     cases h
     obtain ⟨c1, c2, c3, c4⟩ := hcond
     obtain ⟨zv, hz1, hz2, hz3, _, _, hzl⟩ := run_zero hT hj w
     obtain ⟨info, hi1, hi2, hi3⟩ := run_info hT hj w
     have hzs : zv.cells.size = tj.size := by rw [← Array.length_toList, hz2]; exact hzl
     have hw1 : IntKind.i64.wrap n = n := by
      rw [← wrapA_eq]
      show wrS 18446744073709551616 9223372036854775808 n = n
      rw [wrS_eq _ _ (by decide)]
      unfold small at c4
      have : n % ((18446744073709551616 : Nat) : Int) = n := Int.emod_eq_of_lt c1 (by omega)
      rw [this, if_neg (by omega)]
     have hw2 : IntKind.i64.wrap m = m := by
      rw [← wrapA_eq]
      show wrS 18446744073709551616 9223372036854775808 m = m
      rw [wrS_eq _ _ (by decide)]
      unfold small at c4
      have : m % ((18446744073709551616 : Nat) : Int) = m := Int.emod_eq_of_lt (by omega) (by omega)
      rw [this, if_neg (by omega)]
     have key : (Instr.makeSlice t (.int k n) (.int k' m)).run E.P w = .ok (.slice (some ⟨w.heap.size, 0, none⟩) n.toNat m.toNat) (addB w (.cells (rep m.toNat zv.cells.toList).toArray e (0, 0))) := by
      unfold Instr.makeSlice
      simp only [Sem.run_bind, hd, hdesc, Result.andThen_ok, asInt, asIntOf, Sem.run_pure, hi1, hi3, hw1, hw2, run_size hT hj]
      have hbig : (tj.bytes : Int) * m ≤ small := by rw [Int.mul_comm]; exact c3
      have hneg : ¬ ((decide (m < 0) || decide ((tj.bytes : Int) * m > 2 ^ 48) || decide (n < 0) || decide (n > m)) = true) := by
       simp only [Bool.or_eq_true, decide_eq_true_eq]
       unfold small at hbig
       omega
      rw [if_neg hneg]
      simp only [Sem.run_bind, run_askRoom, Result.andThen_ok, Sem.run_pure, run_size hT hj]
      by_cases hz0 : m.toNat * tj.size = 0
      ·rw [if_pos hz0]
       have hr0 : rep m.toNat zv.cells.toList = [] := by
        apply List.eq_nil_of_length_eq_zero
        rw [rep_length, Array.length_toList, hzs, hz0]
       have hm0 : (Array.range 0).map (fun k => (#[] : Array Value)[k % (#[] : Array Value).size]!) = #[] := by simp
       simp only [Sem.run_bind, Sem.run_pure, Result.andThen_ok, hz0, newRow, run_newObj, hr0, hm0]
       rfl
      ·rw [if_neg hz0]
       have : (Array.range (m.toNat * tj.size)).map (fun k => zv.cells[k % zv.cells.size]!) = (rep m.toNat zv.cells.toList).toArray := by
        apply Array.ext'
        rw [← hzs, zeros_eq]
       simp only [Sem.run_bind, hz1, Result.andThen_ok, Sem.run_pure, this, newRow, run_newObj]
       rfl
     have hrc : VRs i (rep m.toNat tj.zero) (rep m.toNat zv.cells.toList) := VRs.rep _ (by rw [← hz2]; exact (hz3 i).cells)
     obtain ⟨g1, g2, g3⟩ := hR.rowz hrc 0 (rep m.toNat zv.cells.toList).toArray e (fun h => absurd rfl h) (0, 0) (.inl rfl) (by simp [hrc.length]) (fun k _ => by simp) (0, 0) ⟨rfl, Nat.zero_le _⟩
     exact ⟨_, _, _, key, .slice (ext_same _ _ _) (by omega) (by omega) (by omega) (.inl rfl) (fun h0 => by omega), g1, g2⟩
    ·cases h
  ·cases h
 ·cases h
theorem hRange_sim (hT : TyOk E) (t : TypeId) (x : Operand) {tm : Tm} {ρ : Operand → Value} (hR : Rel i s w) (hρ : TR i tm ρ) {v : Value} {s' : AS} (h : hRange t x E tm s = some (v, s')) :
  Sim E i s w (Instr.range t (ρ x)) v s' := by
 unfold hRange at h
 split at h
 ·rename_i ti b ht hb
  have hc := hρ x _ hb
  generalize hg : ρ x = y at hc
  cases hc
  have hd := run_und hT ht w
  split at h
  ·rename_i hdesc
   cases h
   obtain ⟨h1, h2⟩ := hR.new (lm := (0, 0)) (o := .iter b 0) (x := .stringIter b 0) ⟨rfl, rfl⟩
   refine ⟨_, _, _, ?_, .ptr (q := w.heap.size) (t := 0) (ext_same _ _ _), h1, h2⟩
   unfold Instr.range
   simp [hd, hdesc, addB]
  ·cases h
 ·cases h
theorem hNext_sim (it : Operand) (str : Bool) (ty : TypeId) {tm : Tm} {ρ : Operand → Value} (hR : Rel i s w) (hρ : TR i tm ρ) {v : Value} {s' : AS} (h : hNext it str E tm s = some (v, s')) :
  Sim E i s w (Instr.next (ρ it) str ty) v s' := by
 unfold hNext at h
 split at h
 ·rename_i r hr
  have hc := hρ it _ hr
  generalize hg : ρ it = y at hc
  cases hc with
  | @ptr b o q t' hi =>
   split at h
   ·rename_i b p hb
    obtain ⟨ht0, hx⟩ := hR.at (P := default) hb rfl hi
    subst ht0
    have hgo : (getObj q).run E.P w = .ok (.stringIter b p) w := by simp [getObj, Sem.run, hx]
    have hso : ∀ o, (setObj q o).run E.P w = .ok () (setB w q o) := by intro o; simp [setObj, Sem.run, hx, setB]
    split at h
    ·rename_i hlt
     cases h
     obtain ⟨h1, h2⟩ := hR.upd (w' := setB w q (.stringIter b (p + (Utf8.decode b p).2))) (o' := .iter b (p + (Utf8.decode b p).2)) hb rfl rfl hi (fun k hk => setB_ne hk) (setB_size _ _ _) rfl rfl rfl
      (fun _ => ⟨rfl, setB_same hx⟩)
     refine ⟨_, _, i, ?_, .tuple (.cons (.bool true) (.cons (.int _ _) (.cons (.int _ _) .nil))), h1, h2⟩
     unfold Instr.next
     simp only [Nat.add_zero, Sem.run_bind, hgo, Result.andThen_ok]
     rw [if_pos hlt]
     simp only [Sem.run_bind, hso, Result.andThen_ok]
     rfl
    ·rename_i hlt
     cases h
     refine Sim.ofPure hR (v' := .tuple #[.bool false]) ?_ (.tuple (.cons (.bool false) .nil))
     unfold Instr.next
     simp only [Nat.add_zero, Sem.run_bind, hgo, Result.andThen_ok]
     rw [if_neg hlt]
     rfl
   ·cases h
 ·cases h
theorem hAssert_sim (hT : TyOk E) (x : Operand) (xt t : TypeId) (ok : Bool) {tm : Tm} {ρ : Operand → Value} (hR : Rel i s w) (hρ : TR i tm ρ) {v : Value} {s' : AS} (h : hAssert x t ok E tm s = some (v, s')) :
  Sim E i s w (Instr.typeAssert (ρ x) xt t ok) v s' := by
 unfold hAssert at h
 split at h
 ·rename_i ti u y ht hx
  have hc := hρ x _ hx
  generalize hg : ρ x = y' at hc
  cases hc with
  | @iface _ _ y'' hy =>
   have hd := run_und hT ht w
   split at h
   ·cases h
   ·rename_i hni
    cases hb : Nat.beq u t with
    | false => rw [hb] at h; cases h
    | true =>
     rw [hb, cond_true] at h
     cases h
     have hut : u = t := by simpa using hb
     subst hut
     have hrun : (Instr.typeAssert (.iface u y'') xt u ok).run E.P w = .ok (if ok then .tuple #[y'', .bool true] else y'') w := by
      unfold Instr.typeAssert
      simp only [Sem.run_bind, hd, Result.andThen_ok]
      cases hdd : ti.desc <;> first
       | exact absurd hdd (hni _)
       | simp
     refine Sim.ofPure hR hrun ?_
     cases ok with
     | true => exact .tuple (.cons hy (.cons (.bool true) .nil))
     | false => exact hy
 ·cases h
theorem hUn_sim (op : UnOp) (x : Operand) {tm : Tm} {ρ : Operand → Value} (hR : Rel i s w) (hρ : TR i tm ρ) {v : Value} {s' : AS} (h : hUn op x E tm s = some (v, s')) :
  Sim E i s w (Op.unary op (ρ x)) v s' := by
 unfold hUn at h
 split at h
 ·rename_i u hu
  have hc := hρ x _ hu
  split at h
  ·rename_i r hr
   cases h
   split at hr
   ·unfold notA at hr
    split at hr
    ·rename_i b
     cases hr
     generalize hg : ρ x = y at hc
     cases hc
     exact Sim.ofPure hR rfl (.bool _)
    ·cases hr
   ·cases hr
  ·cases hp : plain u with
   | false => rw [hp] at h; cases h
   | true =>
    rw [hp, cond_true] at h
    split at h
    ·rename_i r hr
     cases hp2 : plain r with
     | false => rw [hp2] at h; cases h
     | true =>
      rw [hp2] at h
      cases h
      rw [plain_eq hc hp]
      exact Sim.ofPure hR (pureRun_run E.P _ _ hr w) (plain_refl hp2)
    ·cases h
 ·cases h
theorem bytesV_refl (l : List UInt8) : VRs i (l.map fun c => Value.int .u8 c.toNat) (l.map fun c => Value.int .u8 c.toNat) := by
 induction l with
 | nil => exact .nil
 | cons a l ih => exact .cons (.int _ _) ih
theorem toBytes_spec : ∀ {l l' : List Value} {bs : List UInt8}, VRs i l l' → toBytes l = some bs → ∃ ns : List Int, l' = ns.map (Value.int .u8) ∧ bs = ns.map fun n => UInt8.ofNat n.toNat
 | _, _, bs, .nil, h => by simp only [toBytes, Option.some.injEq] at h; subst h; exact ⟨[], rfl, rfl⟩
 | _, _, bs, .cons hv hl, h => by
  cases hv <;> first | (simp [toBytes] at h; done) | skip
  rename_i k n
  cases k <;> first | (simp [toBytes] at h; done) | skip
  simp only [toBytes] at h
  split at h
  ·cases h
  ·rename_i r hr
   cases h
   obtain ⟨ns, h1, h2⟩ := toBytes_spec hl hr
   exact ⟨n :: ns, by rw [h1]; rfl, by rw [h2]; rfl⟩
theorem pushes (ns : List Int) : ∀ (b : ByteArray), ns.foldl (fun r n => r.push (UInt8.ofNat n.toNat)) b = ⟨⟨b.data.toList ++ ns.map fun n => UInt8.ofNat n.toNat⟩⟩ := by
 induction ns with
 | nil => intro b; simp
 | cons n ns ih =>
  intro b
  rw [List.foldl_cons, ih]
  congr 1
  apply Array.ext'
  simp [ByteArray.push]
theorem convP_sim {a b : TypeId} {u u' : Value} (hR : Rel i s w) (hc : VR i u u') {v : Value} {s' : AS} (h : convP E s a b u = some (v, s')) : Sim E i s w (convert a b u') v s' := by
 unfold convP at h
 cases hp : plain u with
 | false => rw [hp] at h; cases h
 | true =>
  rw [hp, cond_true] at h
  split at h
  ·rename_i r hr
   cases hp2 : plain r with
   | false => rw [hp2] at h; cases h
   | true =>
    rw [hp2] at h
    cases h
    rw [plain_eq hc hp]
    exact Sim.ofPure hR (pureRun_run E.P _ _ hr w) (plain_refl hp2)
  ·cases h
theorem hConv_sim (hT : TyOk E) (a b : TypeId) (x : Operand) {tm : Tm} {ρ : Operand → Value} (hR : Rel i s w) (hρ : TR i tm ρ) {v : Value} {s' : AS} (h : hConv a b x E tm s = some (v, s')) :
  Sim E i s w (convert a b (ρ x)) v s' := by
 unfold hConv at h
 split at h
 ·rename_i u hu
  have hc := hρ x _ hu
  unfold convA at h
  split at h
  ·rename_i si di hsi hdi
   have hs := run_und hT hsi w
   have hd := run_und hT hdi w
   obtain ⟨_, _, hsu, _⟩ := hT.ty a si hsi
   obtain ⟨_, _, hdu, _⟩ := hT.ty b di hdi
   split at h
   ·rename_i k k' n hdesc
    generalize hg : ρ x = y at hc
    cases hc
    simp only [intV_eq] at h
    cases h
    refine Sim.ofPure hR ?_ (.int _ _)
    simp [convert, hs, hd, hdesc, Conv.intToInt]
   ·rename_i bs hdesc
    generalize hg : ρ x = y at hc
    cases hc
    cases h
    refine Sim.ofPure hR ?_ (.string _)
    simp [convert, hs, hd, hdesc]
   ·rename_i e bs hdesc
    generalize hg : ρ x = y at hc
    cases hc
    split at h
    ·rename_i tz1 tz2 tz3 he
     cases h
     obtain ⟨_, _, heu, _⟩ := hT.ty e _ he
     rw [hdesc] at hdu
     have key := Lib.run_convert_string_bytes (P := E.P) w a b e bs hsu hdu heu
     have hnew := Lib.bytesWorld_at_new w e bs
     have hsz := Lib.bytesWorld_size w e bs
     have hcs : bs.size ≤ (Lib.bytesCells w e bs).size := by simp [Lib.bytesCells]
     have hget : ∀ k, k < (bs.data.toList.map fun c => Value.int .u8 c.toNat).length → (Lib.bytesCells w e bs)[k]? = (bs.data.toList.map fun c => Value.int .u8 c.toNat)[k]? := by
      intro k hk
      have hk' : k < bs.data.size := by simpa using hk
      unfold Lib.bytesCells
      rw [Array.getElem?_append_left (by simpa using hk')]
      rw [← Array.getElem?_toList, Array.toList_map]
     obtain ⟨g1, g2, g3⟩ := hR.rowz (bytesV_refl (i := i) bs.data.toList) 3 (Lib.bytesCells w e bs) e (fun h => absurd rfl h) ((Lib.bytesCells w e bs).size, (Lib.bytesCells w e bs).size + 1) (.inr ⟨rfl, Nat.le_refl _⟩)
      (by simpa using hcs) hget (1, (Lib.bytesCells w e bs).size) ⟨rfl, Nat.le_refl _⟩
     have hheap : (Lib.bytesWorld w e bs).heap = (addB w (.cells (Lib.bytesCells w e bs) e ((Lib.bytesCells w e bs).size, (Lib.bytesCells w e bs).size + 1))).heap := by
      apply Array.ext_getElem?
      intro j
      by_cases hj : j < w.heap.size
      ·rw [Lib.bytesWorld_at_old w e bs j hj, addB_old hj]
      ·by_cases hj2 : j = w.heap.size
       ·subst hj2; rw [hnew, addB_new]
       ·rw [Array.getElem?_eq_none (by omega), Array.getElem?_eq_none (by rw [addB_size]; omega)]
     refine ⟨_, _, _, key, ?_, g1.same hheap, g2.trans (Fr.same hheap rfl rfl rfl)⟩
     have hg := grownCap_ge w bs.size 0 e
     refine .slice (ext_same _ _ _) (by omega) (by omega) (by omega) (.inl rfl) (fun _ _ => ?_)
     rw [ext_lim]
     simp [Lib.bytesCells]
     omega
    ·cases h
   ·rename_i e aa n c hsdesc hddesc
    generalize hg : ρ x = y at hc
    split at h
    ·rename_i tz1 tz2 tz3 he
     obtain ⟨_, _, heu, _⟩ := hT.ty e _ he
     rw [hsdesc] at hsu
     rw [hddesc] at hdu
     split at h
     ·cases h
      cases hc
      refine Sim.ofPure hR (v' := .string .empty) ?_ (.string _)
      rw [run_convert_bytes_string w a b e _ _ _ hsu heu hdu]
      rfl
     ·rename_i ad
      cases hc with
      | @slice b1 o q t' _ _ p c' hi h1 h2 h3 h4 =>
       cases hz : Nat.beq n 0 with
       | true =>
        rw [hz, cond_true] at h
        cases h
        have hn0 : n = 0 := by simpa using hz
        subst hn0
        refine Sim.ofPure hR (v' := .string .empty) ?_ (.string _)
        rw [run_convert_bytes_string w a b e _ _ _ hsu heu hdu, run_bytesToString w _ 0 c' [] rfl]
        rfl
       | false =>
        rw [hz, cond_false] at h
        have hn0 : n ≠ 0 := fun e => by rw [e] at hz; cases hz
        split at h
        ·cases h
        ·rename_i l hl
         split at h
         ·cases h
         ·rename_i bs hbs
          cases h
          obtain ⟨l', g1, g2, g3⟩ := hR.rdN (P := E.P) hl hi
          obtain ⟨ns, e1, e2⟩ := toBytes_spec g2 hbs
          have hp : p = t' + o := h4.resolve_right (by omega)
          subst hp
          rw [e1] at g1
          refine Sim.ofPure hR (v' := .string ⟨⟨bs⟩⟩) ?_ (.string _)
          rw [run_convert_bytes_string w a b e _ _ _ hsu heu hdu, run_bytesToString w _ n c' ns g1, pushes, e2]
          simp
    ·cases h
   ·rename_i e0 e ad n c hsdesc hddesc
    generalize hg : ρ x = y at hc
    cases hab : Nat.beq a b with
    | false => rw [hab] at h; cases h
    | true =>
     rw [hab, cond_true] at h
     have hab' : a = b := by simpa using hab
     split at h
     ·rename_i tz1 tz2 tz3 he
      have heu := run_und hT he w
      rw [hsdesc] at hs
      rw [hddesc] at hd
      split at h
      ·rename_i ct m z hblk
       cases h
       cases hc with
       | @slice b1 o q t' _ _ p c' hi h1 h2 h3 h4 h5 =>
        obtain ⟨cs, e2, fr, g1, g2, g3, g4, g5⟩ := hR.at (P := E.P) hblk rfl hi
        obtain ⟨lo, hi2⟩ := fr
        let fr' : Nat × Nat := if lo == hi2 then (cs.size, cs.size + 1) else (min lo cs.size, max hi2 (cs.size + 1))
        have hfr' : cs.size ≤ fr'.1 := by
         simp only [fr']
         by_cases hlh : lo = hi2
         ·simp [hlh]
         ·have : (lo == hi2) = false := by simpa using hlh
          rw [this]
          simp only [Bool.false_eq_true, if_false]
          rcases g3 with g3 | g3
          ·exact absurd g3 hlh
          ·have := g3.2
           simp only at this
           omega
        have hw : w.freeze ⟨q, cs.size, none⟩ 1 = setB w q (.cells cs e2 fr') := by
         unfold World.freeze setB
         simp only [Nat.one_ne_zero, if_false]
         congr 1
         have hq := lt_of_some g1
         apply Array.ext
         ·simp
         ·intro j j1 j2
          rw [Array.getElem_modify, Array.getElem_setIfInBounds]
          by_cases hj : q = j
          ·subst hj
           have : w.heap[q] = .cells cs e2 (lo, hi2) := by simpa [Array.getElem?_eq_getElem hq] using g1
           rw [if_pos rfl, if_pos rfl, this]
          ·rw [if_neg hj, if_neg hj]
        have hsh : w.shape? q = some (e2, cs.size) := by unfold World.shape?; rw [g1]
        have hupd := hR.upd (w' := setB w q (.cells cs e2 fr')) (o' := .cells ct m (2 * (z / 2) + 1)) hblk rfl rfl hi (fun k hk => setB_ne hk) (setB_size _ _ _) rfl rfl rfl
         (fun _ => by
          rw [setB_same g1]
          exact ⟨cs, e2, fr', rfl, g2, .inr ⟨by omega, hfr'⟩, g4, fun h => by
           have e1 : ze (2 * (z / 2) + 1) = ze z := by unfold ze; omega
           have e2 : zs (2 * (z / 2) + 1) = zs z := by unfold zs; omega
           rw [e1] at h
           rw [e1, e2]
           exact g5 h⟩)
         (fun c2 n2 z2 h2' => by
          cases h2'
          obtain ⟨l1, l2⟩ := hR.lim _ _ _ _ _ _ hblk hi
          refine ⟨by rw [l1]; unfold zs; omega, fun cs3 e3 fr3 h3' => ?_⟩
          rw [setB_same g1] at h3'
          cases h3'
          exact l2 _ _ _ g1)
        refine ⟨_, _, _, ?_, .slice hi h1 h2 h3 h4 h5, hupd.1, hupd.2⟩
        subst hab'
        have hee : e0 = e := by
         have := hs.symm.trans hd
         cases this
         rfl
        subst hee
        unfold convert
        simp only [Sem.run_bind, hs, hd, heu, Result.andThen_ok, beq_self_eq_true, markStringish, run_shape, hsh, run_freeze, Sem.run_pure]
        rw [hw]
      ·cases h
     ·cases h
   ·
    rename_i t0 p hsdesc hddesc
    generalize hg : ρ x = y at hc
    rw [hsdesc] at hsu
    rw [hddesc] at hdu
    cases p with
    | none =>
     cases h
     cases hc
     refine Sim.ofPure hR (v' := .pointer none) ?_ .nilp
     have hs := run_und hT hsi w
     have hd := run_und hT hdi w
     rw [hsdesc] at hs
     rw [hddesc] at hd
     simp [convert, hs, hd, Conv.unsafePointer]
    | some ad =>
     simp only at h
     split at h
     ·rename_i j hj
      cases hz : Nat.beq j.size 0 with
      | true => rw [hz] at h; cases h
      | false =>
       rw [hz, cond_false] at h
       split at h
       ·rename_i c m z hb
        cases hlt : Nat.blt ad.off m with
        | false => rw [hlt] at h; cases h
        | true =>
         rw [hlt] at h
         cases h
         cases hc with
         | @ptr b o q t hi =>
          obtain ⟨cs, e, fr, g1, g2, g3, g4, g5⟩ := hR.at (P := E.P) hb rfl hi
          obtain ⟨info, q1, _, q3, _⟩ := hT.ty t0 j hj
          have ho : o < m := by simpa [Nat.blt_eq] using hlt
          exact Sim.ofPure hR (Lib.run_to_unsafe w ⟨q, t + o, none⟩ hsu hdu q1 (by rw [q3]; intro h0; rw [h0] at hz; cases hz) (by unfold World.shape?; rw [g1]) (by show t + o < cs.size; omega)) (.ptr hi)
       ·cases h
     ·cases h
   ·
    rename_i t0 ad hsdesc hddesc
    generalize hg : ρ x = y at hc
    rw [hsdesc] at hsu
    rw [hddesc] at hdu
    split at h
    ·rename_i j c m z hj hb
     cases hcond : (Nat.beq (ze z) (t0 + 1) && Nat.beq (zs z) 0 && Nat.beq ad.off 0 && Nat.ble j.size m && Nat.ble 1 j.size) with
     | false => rw [hcond] at h; cases h
     | true =>
      rw [hcond] at h
      cases h
      simp only [Bool.and_eq_true, Nat.beq_eq, Nat.ble_eq] at hcond
      obtain ⟨⟨⟨⟨k1, k2⟩, k3⟩, k4⟩, k5⟩ := hcond
      cases hc with
      | @ptr b o q t hi =>
       obtain ⟨cs, e, fr, g1, g2, g3, g4, g5⟩ := hR.at (P := E.P) hb rfl hi
       obtain ⟨info, q1, _, q3, _⟩ := hT.ty t0 j hj
       obtain ⟨f1, f2⟩ := g5 (by rw [k1]; exact Nat.succ_ne_zero _)
       have he : e = t0 := by rw [k1] at f1; exact Nat.succ.inj f1
       subst he
       have ht0 := f2 k2
       subst ht0
       simp only at k3
       subst k3
       have hcell : E.P.cellsOf e = j.size := by simp [Program.cellsOf, q1, q3]
       refine Sim.ofPure hR (Lib.run_from_unsafe w ⟨q, 0 + 0, none⟩ hsu hdu q1 (by unfold World.shape?; rw [g1]) ?_) (.ptr hi)
       rw [hcell]
       have hd1 : E.P.depth = (2 * (E.P.types.size + Made.depth) + 1) + 1 := rfl
       have hdiv : 1 ≤ cs.size / j.size := (Nat.one_le_div_iff (by omega)).2 (by omega)
       rw [hd1]
       simp only [liesAt, Bool.or_eq_true]
       left
       rw [hd1]
       have hne : j.size ≠ 0 := by omega
       simp [rowAt, hcell, hne, sameLayout, hdiv]
    ·cases h
   ·exact convP_sim hR hc h
  ·cases h
 ·cases h
end
end Go.Ax
/- The abstract machine's operations and the model's, part 7: maps. -/
namespace Go.Ax
open Go
section
variable {E : Env} {i : Io} {s : AS} {w : World}
instance : LawfulBEq ByteArray where
 rfl {a} := by cases a with | mk d => show (d == d) = true; simp
 eq_of_beq {a b} h := by cases a with | mk d => cases b with | mk e => have : (d == e) = true := h; simpa using this
def KK : Value → Value → Prop
 | .int k _, .int l _ => k = l
 | .string _, .string _ => True
 | .bool _, .bool _ => True
 | _, _ => False
def keq : Value → Value → Bool
 | .int k x, .int l y => k == l && x == y
 | .string x, .string y => x == y
 | .bool x, .bool y => x == y
 | _, _ => false
theorem keyEq_spec {kt : TypeId} {a b : Value} {r : Bool} (h : keyEq E kt a b = some r) : KK a b ∧ r = keq a b := by
 unfold keyEq at h
 split at h
 ·rename_i k x l y
  cases hk : kindEq k l with
  | false => rw [hk] at h; cases h
  | true =>
   rw [hk] at h
   cases h
   obtain rfl := kindEq_eq hk
   exact ⟨rfl, by simp [keq, ieq_eq]⟩
 ·cases h; exact ⟨trivial, rfl⟩
 ·cases h; exact ⟨trivial, rfl⟩
 ·cases h
theorem keq_eq {a b : Value} (h : keq a b = true) : a = b := by
 unfold keq at h
 split at h
 ·simp only [Bool.and_eq_true, beq_iff_eq] at h; rw [h.1, h.2]
 ·simp only [beq_iff_eq] at h; rw [h]
 ·simp only [beq_iff_eq] at h; rw [h]
 ·cases h
theorem keq_refl {a b : Value} (h : KK a b) : keq a a = true := by
 unfold KK at h
 split at h <;> first | cases h; done | simp [keq]
theorem KD_KK {a b : Value} (h : KD a b) : KK a b := by
 unfold KD at h
 split at h
 ·exact h.1
 ·exact trivial
 ·exact trivial
 ·cases h
theorem KD_ne {a b : Value} (h : KD a b) : keq a b = false := by
 unfold KD at h
 split at h
 ·obtain ⟨_, h2⟩ := h; simp [keq, h2]
 ·simp [keq, h]
 ·simpa [keq] using h
 ·cases h
theorem KK_symm {a b : Value} (h : KK a b) : KK b a := by
 unfold KK at h
 split at h
 ·exact h.symm
 ·exact trivial
 ·exact trivial
 ·cases h
theorem KK_trans {a b c : Value} (h : KK a b) (h' : KK b c) : KK a c := by
 cases a <;> cases b <;> simp only [KK] at h <;> cases c <;> simp only [KK] at h' ⊢
 exact h.trans h'
theorem KD_of {a b : Value} (h : KK a b) (hn : keq a b = false) : KD a b := by
 cases a <;> cases b <;> simp only [KK] at h <;> simp only [KD, keq] at hn ⊢
 ·simpa using hn
 ·subst h; simpa using hn
 ·simpa using hn
theorem KD_symm {a b : Value} (h : KD a b) : KD b a := by
 refine KD_of (KK_symm (KD_KK h)) ?_
 cases hq : keq b a with
 | false => rfl
 | true => have := keq_eq hq; subst this; rw [keq_refl (KD_KK h)] at *; have := KD_ne h; rw [keq_refl (KD_KK h)] at this; cases this
theorem sameNow_spec {d : TypeDesc} {k a : Value} {ki : TI} (hd : ki.desc = d) (hk : keyOk ki k = true) (h : KK k a) : Instr.sameNow d k a = some (keq k a) := by
 subst hd
 unfold keyOk at hk
 split at hk
 ·rename_i k' x _ hdesc
  rw [hdesc]
  cases a <;> simp only [KK] at h
  subst h
  simp [Instr.sameNow, keq]
 ·rename_i hdesc
  rw [hdesc]
  cases a <;> simp only [KK] at h
  simp [Instr.sameNow, keq]
 ·rename_i hdesc
  rw [hdesc]
  cases a <;> simp only [KK] at h
  simp [Instr.sameNow, keq]
 ·cases hk
theorem findNow_spec {d : TypeDesc} {k : Value} {ki : TI} (hd : ki.desc = d) (hk : keyOk ki k = true) : ∀ (l : List MapEntry) (j : Nat), (∀ e ∈ l, KK k e.key) →
  Instr.findNow d k l j = some ((l.findIdx? fun e => keq k e.key).map fun n => (n + j, ((l[n]?).map (·.val)).getD undef))
 | [], j, _ => rfl
 | e :: l, j, h => by
  simp only [Instr.findNow, sameNow_spec hd hk (h e (by simp))]
  cases hq : keq k e.key with
  | true => simp [List.findIdx?_cons, hq]
  | false =>
   simp only []
   rw [findNow_spec hd hk l (j + 1) (fun x hx => h x (by simp [hx]))]
   rw [List.findIdx?_cons, hq]
   simp only [Bool.false_eq_true, if_false, Option.map_map]
   cases List.findIdx? (fun e => keq k e.key) l with
   | none => rfl
   | some n => simp [Nat.add_assoc, Nat.add_comm 1 j]
theorem MR.keys : ∀ {es : List (Value × Value)} {l : List MapEntry}, MR i es l → l.map (·.key) = es.map (·.1)
 | _, _, .nil => rfl
 | _, _, .cons h _ h' => by simp [h, h'.keys]
theorem findM_spec {kt : TypeId} {k : Value} : ∀ {es : List (Value × Value)} {l : List MapEntry} {r : Option Value}, MR i es l → findM E kt k es = some r →
  (∀ p ∈ es.head?, KK k p.1) ∧ (r = none → ∀ e ∈ l, keq k e.key = false) ∧ (∀ v, r = some v → ∃ e ∈ l, keq k e.key = true ∧ VR i v e.val)
 | _, _, r, .nil, h => by
  simp only [findM, Option.some.injEq] at h
  subst h
  exact ⟨by simp, by simp, by simp⟩
 | (a, v) :: es, e :: l, r, .cons hk hv h', h => by
  simp only [findM] at h
  split at h
  ·cases h
  ·rename_i hq
   cases h
   obtain ⟨h1, h2⟩ := keyEq_spec hq
   refine ⟨by simpa using h1, by simp, fun u hu => ?_⟩
   cases hu
   exact ⟨e, by simp, by rw [hk]; exact h2.symm, hv⟩
  ·rename_i hq
   obtain ⟨h1, h2⟩ := keyEq_spec hq
   obtain ⟨g1, g2, g3⟩ := findM_spec h' h
   refine ⟨by simpa using h1, fun hr x hx => ?_, fun u hu => ?_⟩
   ·rcases List.mem_cons.1 hx with rfl | hx
    ·rw [hk]; exact h2.symm
    ·exact g2 hr x hx
   ·obtain ⟨x, hx, hx2⟩ := g3 u hu
    exact ⟨x, by simp [hx], hx2⟩
theorem allKK {es : List (Value × Value)} {k : Value} (hp : es.Pairwise (fun a b => KD a.1 b.1)) (h : ∀ p ∈ es.head?, KK k p.1) : ∀ p ∈ es, KK k p.1 := by
 cases es with
 | nil => simp
 | cons p es =>
  have h0 : KK k p.1 := h p (by simp)
  intro q hq
  rcases List.mem_cons.1 hq with rfl | hq
  ·exact h0
  ·exact KK_trans h0 (KD_KK (List.rel_of_pairwise_cons hp hq))
theorem mem_key {es : List (Value × Value)} {l : List MapEntry} (h : MR i es l) {k : Value} (hall : ∀ p ∈ es, KK k p.1) : ∀ e ∈ l, KK k e.key := by
 intro e he
 have : e.key ∈ l.map (·.key) := List.mem_map.2 ⟨e, he, rfl⟩
 rw [h.keys] at this
 obtain ⟨p, hp, hpe⟩ := List.mem_map.1 this
 rw [← hpe]
 exact hall p hp
theorem uniq {l : List MapEntry} (hp : l.Pairwise (fun a b => KD a.key b.key)) {k : Value} {a b : MapEntry} (ha : a ∈ l) (hb : b ∈ l) (hka : keq k a.key = true) (hkb : keq k b.key = true) : a = b := by
 induction l with
 | nil => cases ha
 | cons x l ih =>
  rw [List.pairwise_cons] at hp
  have ea := keq_eq hka
  have eb := keq_eq hkb
  rcases List.mem_cons.1 ha with rfl | ha' <;> rcases List.mem_cons.1 hb with rfl | hb'
  ·rfl
  ·have := KD_ne (hp.1 b hb'); rw [← ea, ← eb] at this; rw [← eb, this] at hkb; cases hkb
  ·have := KD_ne (KD_symm (hp.1 a ha')); rw [← ea, ← eb] at this; rw [← eb, this] at hkb; cases hkb
  ·exact ih hp.2 ha' hb'
theorem MR.pair {es : List (Value × Value)} {l : List MapEntry} (h : MR i es l) (hp : es.Pairwise (fun a b => KD a.1 b.1)) : l.Pairwise (fun a b => KD a.key b.key) := by
 have h1 : (es.map (·.1)).Pairwise KD := List.pairwise_map.2 hp
 rw [← h.keys] at h1
 exact List.pairwise_map.1 h1
theorem find_sim (hT : TyOk E) {kt : TypeId} {ki : TI} (hki : E.ty.get kt = some ki) {k : Value} (hk : keyOk ki k = true) {es : List (Value × Value)} {es' : Array MapEntry} {l : List MapEntry} (hl : l.Perm es'.toList) (hm : MR i es l)
  (hp : es.Pairwise (fun a b => KD a.1 b.1)) {r : Option Value} (h : findM E kt k es = some r) :
  ∃ r' : Option (Nat × Value), (Instr.findKey kt k es'.toList).run E.P w = .ok r' w ∧ (r = none → r' = none ∧ ∀ e ∈ es'.toList, keq k e.key = false) ∧
   (∀ v, r = some v → ∃ n v' e, r' = some (n, v') ∧ es'.toList[n]? = some e ∧ keq k e.key = true ∧ e.val = v' ∧ VR i v v') := by
 obtain ⟨h1, h2, h3⟩ := findM_spec hm h
 have hall := mem_key hm (allKK hp h1)
 have hall' : ∀ e ∈ es'.toList, KK k e.key := fun e he => hall e (hl.mem_iff.2 he)
 have hd := run_und hT hki w
 refine ⟨(es'.toList.findIdx? fun e => keq k e.key).map fun n => (n + 0, ((es'.toList[n]?).map (·.val)).getD undef), ?_, ?_, ?_⟩
 ·unfold Instr.findKey
  simp only [Sem.run_bind, hd, Result.andThen_ok, findNow_spec rfl hk _ 0 hall']
  rfl
 ·intro hr
  have : ∀ e ∈ es'.toList, keq k e.key = false := fun e he => h2 hr e (hl.mem_iff.2 he)
  refine ⟨?_, this⟩
  rw [List.findIdx?_eq_none_iff.2 (by simpa using this)]
  rfl
 ·intro v hv
  obtain ⟨e, he, hke, hve⟩ := h3 v hv
  have he' : e ∈ es'.toList := hl.mem_iff.1 he
  cases hf : es'.toList.findIdx? fun e => keq k e.key with
  | none =>
   have := List.findIdx?_eq_none_iff.1 hf e he'
   rw [hke] at this
   cases this
  | some n =>
   obtain ⟨hn, hkn, _⟩ := List.findIdx?_eq_some_iff_getElem.1 hf
   have hmem : es'.toList[n] ∈ l := hl.mem_iff.2 (List.getElem_mem hn)
   have hu := uniq (hm.pair hp) he hmem hke hkn
   have hn' : es'.toList[n]? = some es'.toList[n] := List.getElem?_eq_getElem hn
   refine ⟨n, es'.toList[n].val, es'.toList[n], ?_, hn', hkn, rfl, by rw [← hu]; exact hve⟩
   rw [Option.map_some, hn']
   rfl
theorem getMap {q : Nat} {es' : Array MapEntry} {clk : Nat} (h : w.heap[q]? = some (.map es' clk)) (P : Program) : (getObj q).run P w = .ok (.map es' clk) w := by simp [getObj, Sem.run, h]
theorem setMap {q : Nat} {es' : Array MapEntry} {clk : Nat} (h : w.heap[q]? = some (.map es' clk)) (P : Program) (o : Obj) : (setObj q o).run P w = .ok () (setB w q o) := by simp [setObj, Sem.run, h, setB]
theorem checkKey_ok (hT : TyOk E) {kt : TypeId} {ki : TI} (hki : E.ty.get kt = some ki) {k : Value} (hk : keyOk ki k = true) (b : Bool) (n : Nat) : (Instr.checkKey b (n + 1) kt k).run E.P w = .ok () w := by
 have hd := run_und hT hki w
 rw [Instr.checkKey]
 simp only [Sem.run_bind, hd, Result.andThen_ok]
 unfold keyOk at hk
 split at hk
 ·rename_i hdesc; rw [hdesc]; rfl
 ·rename_i hdesc; rw [hdesc]; rfl
 ·rename_i hdesc; rw [hdesc]; rfl
 ·cases hk
theorem keyOk_eq {ki : TI} {k k' : Value} (hk : keyOk ki k = true) (h : VR i k k') : k' = k := by
 unfold keyOk at hk
 split at hk <;> first | (cases hk; done) | (cases h; rfl)
theorem hLookup_sim (hT : TyOk E) (t : TypeId) (x y : Operand) (ok : Bool) {tm : Tm} {ρ : Operand → Value} (hR : Rel i s w) (hρ : TR i tm ρ) {v : Value} {s' : AS} (h : hLookup t x y ok E tm s = some (v, s')) :
  Sim E i s w (Instr.lookup t (ρ x) (ρ y) ok) v s' := by
 unfold hLookup at h
 split at h
 ·rename_i ti m k ht hm hk
  have hcm := hρ x _ hm
  generalize hgm : ρ x = m' at hcm
  have hck := hρ y _ hk
  have hd := run_und hT ht w
  split at h
  ·rename_i kt et hdesc
   split at h
   ·rename_i ki ei hki hei
    cases hko : keyOk ki k with
    | false => rw [hko] at h; cases h
    | true =>
     rw [hko, cond_true] at h
     rw [keyOk_eq hko hck]
     obtain ⟨zv, hz1, hz2, hz3, hz4, hz5, _⟩ := run_zero hT hei w
     have hzv : (bif isAggD ei.desc then Value.agg ⟨ei.zero⟩ else ei.zero.headD (.tuple #[])) = zv := by
      cases ha : isAggD ei.desc with
      | true => rw [cond_true]; exact (hz4 ha).symm
      | false => rw [cond_false, hz5 ha]; rfl
     split at h
     ·cases h
     ·rename_i o ho
      cases h
      suffices hs : ∃ v', VR i (o.getD zv) v' ∧ (Instr.lookup t m' k ok).run E.P w = .ok (if ok then .tuple #[v', .bool o.isSome] else v') w by
       obtain ⟨v', h1, h2⟩ := hs
       refine Sim.ofPure hR h2 ?_
       rw [hzv]
       cases ok with
       | true => exact .tuple (.cons h1 (.cons (.bool _) .nil))
       | false => exact h1
      cases hcm with
      | nilm =>
       cases ho
       refine ⟨zv, hz3 i, ?_⟩
       unfold Instr.lookup
       simp only [Sem.run_bind, hd, hdesc, Result.andThen_ok, Sem.run_pure, checkKey_ok hT hki hko]
       have hf : (Instr.findKey kt k (#[] : Array MapEntry).toList).run E.P w = .ok none w := by
        unfold Instr.findKey
        simp only [Sem.run_bind, run_und hT hki, Result.andThen_ok]
        rfl
       simp only [hf, Result.andThen_ok, Sem.run_bind, hz1, Sem.run_pure]
       cases ok <;> rfl
      | @map b q hib =>
       simp only at ho
       split at ho
       ·rename_i es hes
        obtain ⟨_, es', clk, l, hw1, hw2, hw3, hw4, hw5⟩ := hR.at (P := E.P) hes rfl hib
        obtain ⟨r', g1, g2, g3⟩ := find_sim (w := w) hT hki hko hw2 hw3 hw4 ho
        cases o with
        | none =>
         obtain ⟨e1, _⟩ := g2 rfl
         subst e1
         refine ⟨zv, hz3 i, ?_⟩
         unfold Instr.lookup
         simp only [Sem.run_bind, hd, hdesc, Result.andThen_ok, getMap hw1, Sem.run_pure, checkKey_ok hT hki hko, g1, hz1]
         cases ok <;> rfl
        | some u =>
         obtain ⟨n, v', e, e1, _, _, _, e5⟩ := g3 u rfl
         subst e1
         refine ⟨v', e5, ?_⟩
         unfold Instr.lookup
         simp only [Sem.run_bind, hd, hdesc, Result.andThen_ok, getMap hw1, Sem.run_pure, checkKey_ok hT hki hko, g1]
         cases ok <;> rfl
       ·cases ho
   ·cases h
  ·cases h
 ·cases h
end
end Go.Ax
/- The abstract machine's operations and the model's, part 8: a map's entries. -/
namespace Go.Ax
open Go
section
variable {E : Env} {i : Io} {s : AS} {w : World}
def putE (k v : Value) (p : Value × Value) : Value × Value := if keq k p.1 then (k, v) else p
def putN (k v : Value) (e : MapEntry) : MapEntry := if keq k e.key then { e with key := k, val := v } else e
theorem putM_spec {kt : TypeId} {k v : Value} : ∀ {es es' : List (Value × Value)}, es.Pairwise (fun a b => KD a.1 b.1) → putM E kt k v es = some es' →
  ∃ r, findM E kt k es = some r ∧ (r = none → es' = es ++ [(k, v)]) ∧ (∀ u, r = some u → es' = es.map (putE k v))
 | [], es', _, h => by
  simp only [putM, Option.some.injEq] at h
  exact ⟨none, rfl, fun _ => h.symm, by simp⟩
 | (a, u) :: es, es', hp, h => by
  rw [List.pairwise_cons] at hp
  simp only [putM] at h
  simp only [findM]
  split at h
  ·cases h
  ·rename_i hq
   cases h
   obtain ⟨h1, h2⟩ := keyEq_spec hq
   refine ⟨some u, rfl, by simp, fun _ _ => ?_⟩
   have hka := keq_eq h2.symm
   subst hka
   rw [List.map_cons, putE, if_pos h2.symm]
   congr 1
   have : ∀ p ∈ es, putE k v p = p := fun p hp' => by
    have := KD_ne (hp.1 p hp')
    unfold putE
    rw [this]
    rfl
   rw [List.map_congr_left this, List.map_id']
  ·rename_i hq
   obtain ⟨h1, h2⟩ := keyEq_spec hq
   split at h
   ·cases h
   ·rename_i r hr
    cases h
    obtain ⟨o, g1, g2, g3⟩ := putM_spec hp.2 hr
    refine ⟨o, g1, fun ho => by rw [g2 ho]; rfl, fun x hx => ?_⟩
    rw [g3 x hx, List.map_cons, putE, if_neg (by rw [← h2]; simp)]
theorem dropM_spec {kt : TypeId} {k : Value} : ∀ {es es' : List (Value × Value)}, es.Pairwise (fun a b => KD a.1 b.1) → dropM E kt k es = some es' →
  ∃ r, findM E kt k es = some r ∧ es' = es.filter (fun p => !keq k p.1)
 | [], es', _, h => by
  simp only [dropM, Option.some.injEq] at h
  exact ⟨none, rfl, h.symm⟩
 | (a, u) :: es, es', hp, h => by
  rw [List.pairwise_cons] at hp
  simp only [dropM] at h
  simp only [findM]
  split at h
  ·cases h
  ·rename_i hq
   cases h
   obtain ⟨h1, h2⟩ := keyEq_spec hq
   refine ⟨some u, rfl, ?_⟩
   have hka := keq_eq h2.symm
   subst hka
   rw [List.filter_cons, ← h2]
   simp only [Bool.not_true, Bool.false_eq_true, if_false]
   symm
   rw [List.filter_eq_self]
   intro p hp'
   rw [KD_ne (hp.1 p hp')]
   rfl
  ·rename_i hq
   obtain ⟨h1, h2⟩ := keyEq_spec hq
   split at h
   ·cases h
   ·rename_i r hr
    cases h
    obtain ⟨o, g1, g2⟩ := dropM_spec hp.2 hr
    refine ⟨o, g1, ?_⟩
    rw [g2, List.filter_cons, ← h2]
    rfl
theorem MR.put {k v v' : Value} (hv : VR i v v') : ∀ {es : List (Value × Value)} {l : List MapEntry}, MR i es l → MR i (es.map (putE k v)) (l.map (putN k v'))
 | _, _, .nil => .nil
 | (a, u) :: es, e :: l, .cons hk h1 h' => by
  rw [List.map_cons, List.map_cons]
  unfold putE putN
  rw [hk]
  cases hq : keq k a with
  | true => exact .cons rfl hv (MR.put hv h')
  | false => exact .cons hk h1 (MR.put hv h')
theorem MR.filter {k : Value} : ∀ {es : List (Value × Value)} {l : List MapEntry}, MR i es l → MR i (es.filter (fun p => !keq k p.1)) (l.filter (fun e => !keq k e.key))
 | _, _, .nil => .nil
 | (a, u) :: es, e :: l, .cons hk h1 h' => by
  rw [List.filter_cons, List.filter_cons, hk]
  cases hq : keq k a with
  | true => exact MR.filter h'
  | false => exact .cons hk h1 (MR.filter h')
theorem MR.snoc {k v v' : Value} (hv : VR i v v') (c : Nat) : ∀ {es : List (Value × Value)} {l : List MapEntry}, MR i es l → MR i (es ++ [(k, v)]) (l ++ [{ key := k, val := v', born := c }])
 | _, _, .nil => .cons rfl hv .nil
 | _, _, .cons hk h1 h' => .cons hk h1 (MR.snoc hv c h')
theorem putE_keys (k v : Value) (es : List (Value × Value)) : (es.map (putE k v)).map (·.1) = es.map (·.1) := by
 rw [List.map_map]
 apply List.map_congr_left
 intro p _
 simp only [Function.comp, putE]
 cases hq : keq k p.1 with
 | true => rw [if_pos rfl]; exact keq_eq hq
 | false => rw [if_neg (by simp)]
theorem pair_keys {es es' : List (Value × Value)} (h : es'.map (·.1) = es.map (·.1)) (hp : es.Pairwise (fun a b => KD a.1 b.1)) : es'.Pairwise (fun a b => KD a.1 b.1) := by
 have h1 : (es.map (·.1)).Pairwise KD := List.pairwise_map.2 hp
 rw [← h] at h1
 exact List.pairwise_map.1 h1
theorem modify_eq {l : List MapEntry} (hp : l.Pairwise (fun a b => KD a.key b.key)) {k v' : Value} : ∀ {n : Nat} {e : MapEntry}, l[n]? = some e → keq k e.key = true →
  l.modify n (fun e => { e with key := k, val := v' }) = l.map (putN k v') := by
 induction l with
 | nil => intro n e h; simp at h
 | cons x l ih =>
  intro n e h hk
  rw [List.pairwise_cons] at hp
  cases n with
  | zero =>
   simp only [List.getElem?_cons_zero, Option.some.injEq] at h
   subst h
   simp only [List.modify_zero_cons, List.map_cons]
   congr 1
   ·simp [putN, hk]
   ·have hka := keq_eq hk
    subst hka
    have : ∀ p ∈ l, putN x.key v' p = p := fun p hp' => by
     have := KD_ne (hp.1 p hp')
     unfold putN
     rw [this]
     rfl
    rw [List.map_congr_left this, List.map_id']
  | succ n =>
   simp only [List.getElem?_cons_succ] at h
   simp only [List.modify_succ_cons, List.map_cons]
   rw [ih hp.2 h hk]
   congr 1
   have hm : e ∈ l := List.mem_of_getElem? h
   have hka := keq_eq hk
   have := KD_ne (KD_symm (hp.1 e hm))
   rw [← hka] at this
   simp [putN, this]
theorem erase_eq {l : List MapEntry} (hp : l.Pairwise (fun a b => KD a.key b.key)) {k : Value} : ∀ {n : Nat} {e : MapEntry}, l[n]? = some e → keq k e.key = true →
  l.eraseIdx n = l.filter (fun e => !keq k e.key) := by
 induction l with
 | nil => intro n e h; simp at h
 | cons x l ih =>
  intro n e h hk
  rw [List.pairwise_cons] at hp
  cases n with
  | zero =>
   simp only [List.getElem?_cons_zero, Option.some.injEq] at h
   subst h
   rw [List.eraseIdx_cons_zero, List.filter_cons, hk]
   have hka := keq_eq hk
   subst hka
   symm
   simp only [Bool.not_true, Bool.false_eq_true, if_false]
   rw [List.filter_eq_self]
   intro p hp'
   rw [KD_ne (hp.1 p hp')]
   rfl
  | succ n =>
   simp only [List.getElem?_cons_succ] at h
   rw [List.eraseIdx_cons_succ, ih hp.2 h hk, List.filter_cons]
   have hm : e ∈ l := List.mem_of_getElem? h
   have hka := keq_eq hk
   have := KD_ne (KD_symm (hp.1 e hm))
   rw [← hka] at this
   simp [this]
theorem pair_perm {l l' : List MapEntry} (h : l.Perm l') (hp : l.Pairwise (fun a b => KD a.key b.key)) : l'.Pairwise (fun a b => KD a.key b.key) :=
 (h.pairwise_iff (fun h => KD_symm h)).1 hp
theorem same_ok {k k' : Value} (h : keq k k' = true) {ki : TI} (hk : keyOk ki k = true) (n : Nat) : Instr.sameBits n k' k = true := by
 obtain rfl := keq_eq h
 unfold keyOk at hk
 split at hk <;> first | (cases hk; done) | simp [Instr.sameBits]
theorem Bn.push {es : Array MapEntry} {clk : Nat} (h : Bn es.toList clk) (k v : Value) : Bn (es.push { key := k, val := v, born := clk }).toList (clk + 1) := by
 rw [Array.toList_push]
 refine ⟨fun x hx => ?_, ?_⟩
 ·rcases List.mem_append.1 hx with hx | hx
  ·have := h.1 x hx; omega
  ·obtain rfl := List.mem_singleton.1 hx; exact Nat.lt_succ_self _
 ·rw [List.map_append]
  refine List.nodup_append.2 ⟨h.2, by simp, fun a ha b hb => ?_⟩
  obtain ⟨x, hx, rfl⟩ := List.mem_map.1 ha
  obtain rfl : b = clk := by simpa using hb
  have := h.1 x hx
  omega
theorem Bn.modify {es : Array MapEntry} {clk : Nat} (h : Bn es.toList clk) (n : Nat) (k v : Value) : Bn (es.modify n fun e => { e with key := k, val := v }).toList clk := by
 have e : ((es.modify n fun e => { e with key := k, val := v }).toList.map (·.born)) = es.toList.map (·.born) := by
  rw [Array.toList_modify]
  apply List.ext_getElem?
  intro j
  rw [List.getElem?_map, List.getElem?_map, List.getElem?_modify]
  cases es.toList[j]? with
  | none => simp
  | some x => by_cases hj : n = j <;> simp [hj]
 refine ⟨fun x hx => ?_, by rw [e]; exact h.2⟩
 have : x.born ∈ (es.modify n fun e => { e with key := k, val := v }).toList.map (·.born) := List.mem_map.2 ⟨x, hx, rfl⟩
 rw [e] at this
 obtain ⟨y, hy, hyx⟩ := List.mem_map.1 this
 rw [← hyx]
 exact h.1 y hy
theorem Bn.filter {m : List MapEntry} {clk : Nat} (h : Bn m clk) (p : MapEntry → Bool) : Bn (m.filter p) clk :=
 ⟨fun x hx => h.1 x (List.mem_filter.1 hx).1, h.2.sublist (List.filter_sublist.map _)⟩
theorem Rel.mapNow {w' : World} (hR : Rel i s w) {b q : Nat} {es es2 : List (Value × Value)} (hes : s.h.get b = some (.map es)) (hib : i b = some (q, 0))
  {es' : Array MapEntry} {clk : Nat} (hw1 : w.heap[q]? = some (.map es' clk)) {m' : Array MapEntry} {clk' : Nat} (hw : w' = setB w q (.map m' clk')) {l : List MapEntry} (h1 : l.Perm m'.toList) (h2 : MR i es2 l) (h3 : es2.Pairwise (fun a b => KD a.1 b.1)) (h4 : Bn m'.toList clk') :
  Rel i (s.upd b (.map es2)) w' ∧ Fr i s w i (s.upd b (.map es2)) w' := by
 subst hw
 refine hR.upd hes rfl rfl hib (fun k hk => setB_ne hk) (setB_size _ _ _) rfl rfl rfl (fun _ => ?_)
 rw [setB_same hw1]
 exact ⟨rfl, m', clk', l, rfl, h1, h2, h3, h4⟩
theorem keyTwo_eq {ki : TI} {k k' : Value} (hk : keyTwo E ki k = true) (h : VR i k k') : k' = k := by
 unfold keyTwo at hk
 split at hk
 ·rename_i fs cs _
  split at hk
  ·rename_i f g _ x _ y _ hcs
   obtain ⟨l⟩ := cs
   simp only at hcs
   subst hcs
   cases h with
   | agg h =>
    cases h with
    | cons h1 h =>
    cases h with
    | cons h2 h =>
    cases h
    cases h1
    cases h2
    rfl
  ·cases hk
 ·cases hk
theorem checkKey_two (hT : TyOk E) {kt : TypeId} {ki : TI} (hki : E.ty.get kt = some ki) {k : Value} (hk : keyTwo E ki k = true) (b : Bool) (n : Nat) : (Instr.checkKey b (n + 2) kt k).run E.P w = .ok () w := by
 have hd := run_und hT hki w
 rw [Instr.checkKey]
 simp only [Sem.run_bind, hd, Result.andThen_ok]
 unfold keyTwo at hk
 split at hk
 ·rename_i fs cs hdesc
  split at hk
  ·rename_i f g k1 x k2 y hfs hcs
   obtain ⟨l⟩ := cs
   obtain ⟨m⟩ := fs
   simp only at hcs hfs
   subst hcs
   subst hfs
   split at hk
   ·rename_i fi gi hf hg
    simp only [Bool.and_eq_true, Nat.beq_eq] at hk
    obtain ⟨⟨⟨h1, h2⟩, h3⟩, h4⟩ := hk
    have key : ∀ (h : Field) (hi : TI) (o : Nat) (kk : IntKind) (z : Int), E.ty.get h.type = some hi → isIntD hi.desc = true → [Value.int k1 x, Value.int k2 y][o]? = some (.int kk z) →
      (part h.type #[.int k1 x, .int k2 y] o).run E.P w = .ok (.int kk z) w ∧ (Instr.checkKey b (n + 1) h.type (.int kk z)).run E.P w = .ok () w := fun h hi o kk z hh hint ho => by
     have hint' : ∃ q, hi.desc = .int q := by
      unfold isIntD at hint
      split at hint
      ·exact ⟨_, by assumption⟩
      ·cases hint
     obtain ⟨q, hq⟩ := hint'
     refine ⟨?_, ?_⟩
     ·obtain ⟨v', g1, g2⟩ := partA_sim (w := w) (i := ⟨fun _ => none, fun _ => (0, 0)⟩) hT (t := h.type) (l := [.int k1 x, .int k2 y]) (l' := [.int k1 x, .int k2 y]) (off := o) (.cons (.int _ _) (.cons (.int _ _) .nil)) (v := .int kk z) (by
       unfold partA
       rw [hh]
       simp only [hq]
       exact ho)
      cases g2
      exact g1
     ·rw [Instr.checkKey]
      simp only [Sem.run_bind, run_und hT hh w, Result.andThen_ok, hq]
      rfl
    rw [hdesc]
    obtain ⟨p1, p2⟩ := key f fi f.offset k1 x hf h1 (by rw [h3]; rfl)
    obtain ⟨p3, p4⟩ := key g gi g.offset k2 y hg h2 (by rw [h4]; rfl)
    simp only [List.forIn_toArray, List.forIn_cons, List.forIn_nil, Sem.run_bind]
    by_cases n1 : f.name = "_" <;> by_cases n2 : g.name = "_" <;> simp [n1, n2, Sem.run_bind, p1, p2, p3, p4]
   ·cases hk
  ·cases hk
 ·cases hk
theorem hMapUpdate_sim (hT : TyOk E) (t : TypeId) (m k x : Operand) {tm : Tm} {ρ : Operand → Value} (hR : Rel i s w) (hρ : TR i tm ρ) {v : Value} {s' : AS} (h : hMapUpdate t m k x E tm s = some (v, s')) :
  SimU E i s w (Instr.mapUpdate t (ρ m) (ρ k) (ρ x)) s' ∧ v = .tuple #[] := by
 unfold hMapUpdate at h
 split at h
 ·rename_i ti b kv xv ht hm hk hx
  have hcm := hρ m _ hm
  generalize hgm : ρ m = m' at hcm
  have hck := hρ k _ hk
  have hcx := hρ x _ hx
  have hd := run_und hT ht w
  cases hcm
  rename_i q hib
  split at h
  ·rename_i kt et hdesc
   split at h
   ·rename_i ki hki
    cases hko : keyOk ki kv with
    | false =>
     rw [hko, cond_false] at h
     cases hk2 : keyTwo E ki kv with
     | false => rw [hk2] at h; cases h
     | true =>
      rw [hk2, cond_true] at h
      rw [keyTwo_eq hk2 hck]
      split at h
      ·rename_i hes
       cases h
       refine ⟨?_, rfl⟩
       obtain ⟨_, es', clk, l, hw1, hw2, hw3, hw4, hw5⟩ := hR.at (P := E.P) hes rfl hib
       cases hw3
       have hnil : es'.toList = [] := List.nil_perm.1 hw2
       have hes0 : es' = #[] := Array.toList_inj.1 hnil
       subst hes0
       refine ⟨setB w q (.map (#[].push { key := kv, val := ρ x, born := clk }) (clk + 1)), i, ?_, ?_⟩
       ·unfold Instr.mapUpdate
        have hfk : (Instr.findKey kt kv ([] : List MapEntry)).run E.P w = .ok none w := by
         unfold Instr.findKey
         simp only [Sem.run_bind, run_und hT hki w, Result.andThen_ok]
         rfl
        simp only [Sem.run_bind, hd, hdesc, Result.andThen_ok, getMap hw1, checkKey_two hT hki hk2, hfk, setMap hw1]
       ·refine hR.mapNow hes hib hw1 rfl (l := [{ key := kv, val := ρ x, born := clk }]) (.refl _) (.cons rfl hcx .nil) (List.pairwise_singleton _ _) (hw5.push kv (ρ x))
      ·cases h
    | true =>
     rw [hko, cond_true] at h
     rw [keyOk_eq hko hck]
     split at h
     ·rename_i es hes
      split at h
      ·cases h
      ·rename_i es2 hput
       cases h
       refine ⟨?_, rfl⟩
       obtain ⟨_, es', clk, l, hw1, hw2, hw3, hw4, hw5⟩ := hR.at (P := E.P) hes rfl hib
       obtain ⟨r, hf, p1, p2⟩ := putM_spec hw4 hput
       obtain ⟨r', g1, g2, g3⟩ := find_sim (w := w) hT hki hko hw2 hw3 hw4 hf
       cases r with
       | none =>
        obtain ⟨e1, e2⟩ := g2 rfl
        subst e1
        refine ⟨setB w q (.map (es'.push { key := kv, val := ρ x, born := clk }) (clk + 1)), i, ?_, ?_⟩
        ·unfold Instr.mapUpdate
         simp only [Sem.run_bind, hd, hdesc, Result.andThen_ok, getMap hw1, checkKey_ok hT hki hko, g1, setMap hw1]
        ·refine hR.mapNow hes hib hw1 rfl (l := l ++ [{ key := kv, val := ρ x, born := clk }]) ?_ ?_ ?_ (hw5.push kv (ρ x))
         ·rw [Array.toList_push]
          exact hw2.append_right _
         ·rw [p1 rfl]
          exact hw3.snoc hcx clk
         ·rw [p1 rfl]
          rw [List.pairwise_append]
          refine ⟨hw4, List.pairwise_singleton _ _, fun a ha c hc => ?_⟩
          obtain rfl := List.mem_singleton.1 hc
          obtain ⟨h1, h2, _⟩ := findM_spec hw3 hf
          refine KD_symm (KD_of (allKK hw4 h1 a ha) ?_)
          have hmem : a.1 ∈ es.map (·.1) := List.mem_map.2 ⟨a, ha, rfl⟩
          rw [← hw3.keys] at hmem
          obtain ⟨e, he, hee⟩ := List.mem_map.1 hmem
          have := h2 rfl e he
          rw [hee] at this
          exact this
       | some u =>
        obtain ⟨n, v', e, e1, e2, e3, e4, e5⟩ := g3 u rfl
        subst e1
        have hp' := pair_perm hw2 (hw3.pair hw4)
        have hmod := modify_eq hp' (v' := ρ x) e2 e3
        refine ⟨setB w q (.map (es'.modify n fun e => { e with key := kv, val := ρ x }) clk), i, ?_, ?_⟩
        ·have hst : (Instr.keyThatStays (((es'[n]?).map (·.key)).getD kv) kv).run E.P w = .ok kv w := by
          have : es'[n]? = some e := by rw [← Array.getElem?_toList]; exact e2
          rw [this]
          unfold Instr.keyThatStays
          have hs : Instr.sameBits 10000 ((Option.map (fun x => x.key) (some e)).getD kv) kv = true := same_ok e3 hko _
          rw [if_pos hs]
          rfl
         unfold Instr.mapUpdate
         simp only [Sem.run_bind, hd, hdesc, Result.andThen_ok, getMap hw1, checkKey_ok hT hki hko, g1, hst, setMap hw1]
        ·refine hR.mapNow hes hib hw1 rfl (l := l.map (putN kv (ρ x))) ?_ ?_ ?_ (hw5.modify n kv (ρ x))
         ·rw [Array.toList_modify, hmod]
          exact hw2.map _
         ·rw [p2 u rfl]
          exact hw3.put hcx
         ·rw [p2 u rfl]
          exact pair_keys (putE_keys kv xv es) hw4
     ·cases h
   ·cases h
  ·cases h
 ·cases h
theorem delete_sim (hT : TyOk E) (t : TypeId) (ts : Array TypeId) (ty : TypeId) {x y x' y' : Value} (hR : Rel i s w) (hx : VR i x x') (hy : VR i y y') (hts : ts[0]? = some t) {v : Value} {s' : AS} (h : deleteA E s t x y = some (v, s')) :
  Sim E i s w (Builtin.delete_ ts ty #[x', y']) v s' := by
 unfold deleteA at h
 split at h
 ·cases h
 ·rename_i ti ht
  have hd := run_und hT ht w
  split at h
  ·rename_i kt et b hdesc
   split at h
   ·cases h
   ·rename_i ki hki
    cases hko : keyOk ki y with
    | false => rw [hko] at h; cases h
    | true =>
     rw [hko, cond_true] at h
     cases hx
     rename_i q hib
     rw [keyOk_eq hko hy]
     split at h
     ·rename_i es hes
      split at h
      ·cases h
      ·rename_i es2 hdrop
       cases h
       obtain ⟨_, es', clk, l, hw1, hw2, hw3, hw4, hw5⟩ := hR.at (P := E.P) hes rfl hib
       obtain ⟨r, hf, p1⟩ := dropM_spec hw4 hdrop
       obtain ⟨r', g1, g2, g3⟩ := find_sim (w := w) hT hki hko hw2 hw3 hw4 hf
       have hp' := pair_perm hw2 (hw3.pair hw4)
       have hend : ∀ m' : Array MapEntry, m'.toList = es'.toList.filter (fun e => !keq y e.key) → Rel i (s.upd b (.map es2)) (setB w q (.map m' clk)) ∧ Fr i s w i (s.upd b (.map es2)) (setB w q (.map m' clk)) := by
        intro m' hm
        refine hR.mapNow hes hib hw1 rfl (l := l.filter (fun e => !keq y e.key)) ?_ ?_ ?_ (by rw [hm]; exact hw5.filter _)
        ·rw [hm]; exact hw2.filter _
        ·rw [p1]; exact hw3.filter
        ·rw [p1]; exact hw4.filter _
       cases r with
       | none =>
        obtain ⟨e1, e2⟩ := g2 rfl
        subst e1
        refine ⟨.tuple #[], setB w q (.map es' clk), i, ?_, .tuple .nil, hend _ ?_⟩
        ·unfold Builtin.delete_
         simp [Sem.run_bind, hts, hd, hdesc, Result.andThen_ok, getMap hw1, checkKey_ok hT hki hko, g1, setMap hw1]
        ·symm
         rw [List.filter_eq_self]
         intro e he
         rw [e2 e he]
         rfl
       | some u =>
        obtain ⟨n, v', e, e1, e2, e3, e4, e5⟩ := g3 u rfl
        subst e1
        refine ⟨.tuple #[], setB w q (.map (es'.eraseIdxIfInBounds n) clk), i, ?_, .tuple .nil, hend _ ?_⟩
        ·unfold Builtin.delete_
         simp [Sem.run_bind, hts, hd, hdesc, Result.andThen_ok, getMap hw1, checkKey_ok hT hki hko, g1, setMap hw1]
        ·rw [Array.toList_eraseIdxIfInBounds]
         exact erase_eq hp' e2 e3
     ·cases h
  ·cases h
end
end Go.Ax
