/- The abstract machine's operations and the model's, part 2: addresses, parts, slices, whole numbers. -/
import Derived.Test.YtmfdkldjinlmnaaGreatDoorAxSem
set_option linter.unusedVariables false
set_option linter.unusedSimpArgs false
namespace Go.Ax
open Go

theorem natK_eq {α : Type} (n : Nat) (k : Nat → α) : natK n k = k n := by cases n <;> rfl
theorem intK_eq {α : Type} (n : Int) (k : Int → α) : intK n k = k n := by
  cases n <;> simp only [intK, natK_eq]

section
variable {E : Env} {i : Io} {s : AS} {w : World}

theorem hFieldAddr_sim (hT : TyOk E) (t : TypeId) (x : Operand) (f : Nat) {tm : Tm} {ρ : Operand → Value} (hR : Rel i s w) (hρ : TR i tm ρ) {v : Value} {s' : AS} (h : hFieldAddr t x f E tm s = some (v, s')) :
    Sim E i s w (Instr.fieldAt t (ρ x) f) v s' := by
  unfold hFieldAddr at h
  split at h
  · rename_i ti p ht hp
    have hc := hρ x _ hp
    generalize hg : ρ x = y at hc
    cases hc with
    | @ptr b o q t' hi =>
      split at h
      · rename_i fs hfs
        split at h
        · rename_i fd hfd
          split at h
          · rename_i tj hj
            cases hz : Nat.beq tj.size 0 with
            | true => rw [hz] at h; cases h
            | false =>
              rw [hz] at h
              simp only [cond_false, natK_eq] at h
              cases h
              refine Sim.ofPure hR (v' := .pointer (some ⟨q, t' + (o + fd.offset), none⟩)) ?_ (.ptr hi)
              unfold Instr.fieldAt Instr.sureAddr fieldPlace
              have hne : ¬ tj.size = 0 := fun e => by rw [e] at hz; cases hz
              have hfd' : fs[f]? = some fd := by rw [← Array.getElem?_toList]; exact hfd
              simp [run_und hT ht, run_size hT hj, hfs, hfd', hne, add_none, Nat.add_assoc]
          · cases h
        · cases h
      · cases h
  · cases h

theorem partA_sim (hT : TyOk E) {t : TypeId} {l l' : List Value} {off : Nat} (hv : VRs i l l') {v : Value} (h : partA E t l off = some v) : ∃ v', (part t l'.toArray off).run E.P w = .ok v' w ∧ VR i v v' := by
  unfold partA at h
  split at h
  · cases h
  · rename_i ti ht
    have hA := run_isAgg hT ht w
    have hS := run_size hT ht w
    cases hagg : isAggD ti.desc with
    | true =>
      rw [hagg] at h hA
      simp only [cond_true] at h
      cases hb : Nat.ble (off + ti.size) l.length with
      | false => rw [hb] at h; cases h
      | true =>
        rw [hb] at h
        cases h
        refine ⟨.agg ⟨(l'.drop off).take ti.size⟩, ?_, .agg ((hv.drop off).take ti.size)⟩
        unfold part
        simp only [Sem.run_bind, hA, hS, Result.andThen_ok, if_true, Sem.run_pure]
        congr 2
        apply Array.ext'
        simp [List.take_drop]
    | false =>
      rw [hagg] at h hA
      simp only [cond_false] at h
      obtain ⟨v', h1, h2⟩ := hv.get h
      refine ⟨v', ?_, h2⟩
      unfold part
      simp [hA, h1]

theorem hField_sim (hT : TyOk E) (t : TypeId) (x : Operand) (f : Nat) {tm : Tm} {ρ : Operand → Value} (hR : Rel i s w) (hρ : TR i tm ρ) {v : Value} {s' : AS} (h : hField t x f E tm s = some (v, s')) :
    Sim E i s w (Instr.field t (ρ x) f) v s' := by
  unfold hField at h
  split at h
  · rename_i ti cs ht hp
    have hc := hρ x _ hp
    generalize hg : ρ x = y at hc
    cases hc with
    | agg hh =>
      split at h
      · rename_i fs hfs
        split at h
        · rename_i fd hfd
          split at h
          · rename_i u hu
            cases h
            obtain ⟨v', h1, h2⟩ := partA_sim (w := w) hT hh hu
            refine Sim.ofPure hR (v' := v') ?_ h2
            unfold Instr.field
            have hfd' : fs[f]? = some fd := by rw [← Array.getElem?_toList]; exact hfd
            simp [run_und hT ht, hfs, hfd', asAgg, h1]
          · cases h
        · cases h
      · cases h
  · cases h

theorem inR_spec {n : Int} {m : Nat} (h : inR n m = true) : 0 ≤ n ∧ n < (m : Int) ∧ n.toNat < m := by
  cases n with
  | ofNat a =>
    have : a < m := by simpa [inR, Nat.blt_eq] using h
    refine ⟨Int.natCast_nonneg _, ?_, this⟩
    show (a : Int) < m
    omega
  | negSucc a => cases h

theorem hIndexAddr_sim (hT : TyOk E) (t : TypeId) (x y : Operand) {tm : Tm} {ρ : Operand → Value} (hR : Rel i s w) (hρ : TR i tm ρ) {v : Value} {s' : AS} (h : hIndexAddr t x y E tm s = some (v, s')) :
    Sim E i s w (Instr.indexAt t (ρ x) (ρ y)) v s' := by
  unfold hIndexAddr at h
  split at h
  · rename_i ti u k n ht hu hn
    have hcn := hρ y _ hn
    generalize hgn : ρ y = yn at hcn
    cases hcn
    have hc := hρ x _ hu
    generalize hg : ρ x = y at hc
    have hd := run_und hT ht w
    split at h
    · rename_i e a m c hdesc
      cases hc with
      | @slice b o q t' _ _ p c' hi h1 h2 h3 h4 =>
        split at h
        · rename_i tj hj
          cases hin : inR n m with
          | false => rw [hin] at h; cases h
          | true =>
            rw [hin] at h
            simp only [cond_true, natK_eq] at h
            cases h
            obtain ⟨g1, g2, g3⟩ := inR_spec hin
            have hp : p = t' + o := h4.resolve_right (by omega)
            refine Sim.ofPure hR (v' := .pointer (some ⟨q, t' + (o + n.toNat * tj.size), none⟩)) ?_ (.ptr hi)
            unfold Instr.indexAt
            simp [asIntOf, hd, hdesc, g1, g2, run_size hT hj, add_none, hp, Nat.add_assoc]
        · cases h
    · rename_i m e a hdesc
      cases hc with
      | @ptr b o q t' hi =>
        split at h
        · rename_i tj hj
          cases hin : inR n m with
          | false => rw [hin] at h; cases h
          | true =>
            rw [hin] at h
            simp only [cond_true, natK_eq] at h
            cases h
            obtain ⟨g1, g2, g3⟩ := inR_spec hin
            refine Sim.ofPure hR (v' := .pointer (some ⟨q, t' + (o + n.toNat * tj.size), none⟩)) ?_ (.ptr hi)
            unfold Instr.indexAt
            simp [asIntOf, hd, hdesc, g1, g2, run_size hT hj, add_none, Instr.sureAddr, Nat.add_assoc]
        · cases h
    · cases h
  · cases h

theorem hIndex_sim (hT : TyOk E) (t : TypeId) (x y : Operand) {tm : Tm} {ρ : Operand → Value} (hR : Rel i s w) (hρ : TR i tm ρ) {v : Value} {s' : AS} (h : hIndex t x y E tm s = some (v, s')) :
    Sim E i s w (Instr.index t (ρ x) (ρ y)) v s' := by
  unfold hIndex at h
  split at h
  · rename_i ti u k n ht hu hn
    have hcn := hρ y _ hn
    generalize hgn : ρ y = yn at hcn
    cases hcn
    have hc := hρ x _ hu
    generalize hg : ρ x = y at hc
    have hd := run_und hT ht w
    split at h
    · rename_i b hdesc
      cases hc
      split at h
      · rename_i hn0
        split at h
        · rename_i c hcb
          cases h
          refine Sim.ofPure hR (v' := .int .u8 c.toNat) ?_ (.int _ _)
          unfold Instr.index
          have hb : b[n.toNat]? = some c := by
            obtain ⟨hlt, he⟩ := List.getElem?_eq_some_iff.1 hcb
            have hlt' : n.toNat < b.size := by simpa using hlt
            rw [getElem?_pos b n.toNat hlt']
            exact congrArg some he
          simp [asIntOf, hd, hdesc, hn0, hb]
        · cases h
      · cases h
    · rename_i m e cs hdesc
      cases hc with
      | agg hh =>
        split at h
        · rename_i tj hj
          cases hin : inR n m with
          | false => rw [hin] at h; cases h
          | true =>
            rw [hin] at h
            simp only [cond_true] at h
            split at h
            · rename_i u hu
              cases h
              obtain ⟨g1, g2, g3⟩ := inR_spec hin
              obtain ⟨v', h1, h2⟩ := partA_sim (w := w) hT hh hu
              refine Sim.ofPure hR (v' := v') ?_ h2
              unfold Instr.index
              simp [asIntOf, hd, hdesc, g1, g2, run_size hT hj, h1]
            · cases h
        · cases h
    · cases h
  · cases h

theorem bnd_sim {tm : Tm} {ρ : Operand → Value} (hρ : TR i tm ρ) {d m : Nat} {x : Operand} {r : Nat} (h : bnd tm d m (some x) = some r) (m' : Nat) (hm : m ≤ m') (code : BoundsCode) :
    (Instr.sliceBound (ρ x) m' code).run E.P w = .ok r w ∧ r ≤ m := by
  simp only [bnd] at h
  split at h
  · rename_i k n hn
    have hc := hρ x _ hn
    generalize hg : ρ x = y at hc
    cases hc
    split at h
    · rename_i hr
      cases h
      refine ⟨?_, by omega⟩
      unfold Instr.sliceBound
      have : 0 ≤ n ∧ n ≤ (m' : Int) := by omega
      simp [asIntOf, this]
    · cases h
  · cases h

theorem bnd_le {tm : Tm} {d m : Nat} {x : Operand} {r : Nat} (h : bnd tm d m (some x) = some r) : r ≤ m := by
  simp only [bnd] at h
  split at h
  · split at h
    · cases h; omega
    · cases h
  · cases h

/-- The three ends: as the model reckons them over a slice of this length and of a capacity that is no less. -/
theorem bnds_sim {tm : Tm} {ρ : Operand → Value} (hρ : TR i tm ρ) {n c : Nat} {lo hi mx : Option Operand} {l h m : Nat} (hb : bnds tm n c lo hi mx = some (l, h, m)) (c' : Nat) (hc : c ≤ c') (isS : Bool) :
    (Instr.sliceBounds isS n c' (lo.map ρ) (hi.map ρ) (mx.map ρ)).run E.P w = .ok (l, h, if mx.isSome then m else c') w ∧ l ≤ h ∧ h ≤ m ∧ (mx.isSome = false → m = c) := by
  unfold bnds at hb
  cases hmh : (mx.isSome && hi.isNone) with
  | true => rw [hmh] at hb; cases hb
  | false =>
    rw [hmh] at hb
    simp only [cond_false] at hb
    split at hb
    · cases hb
    · rename_i m0 hm0
      split at hb
      · cases hb
      · rename_i h0 hh0
        cases hle : Nat.ble h0 m0 with
        | false => rw [hle] at hb; cases hb
        | true =>
          rw [hle] at hb
          simp only [cond_true] at hb
          split at hb
          · cases hb
          · rename_i l0 hl0
            cases hb
            have hle' : h ≤ m := by simpa using hle
            have hl : l ≤ h := by
              cases lo with
              | none => simp only [bnd, Option.some.injEq] at hl0; omega
              | some x => exact bnd_le hl0
            refine ⟨?_, hl, hle', ?_⟩
            · unfold Instr.sliceBounds
              cases mx with
              | none =>
                simp only [bnd, Option.some.injEq] at hm0
                subst hm0
                cases hi with
                | none =>
                  simp only [bnd, Option.some.injEq] at hh0
                  subst hh0
                  cases lo with
                  | none => simp only [bnd, Option.some.injEq] at hl0; subst hl0; simp
                  | some x => simp [(bnd_sim (E := E) (w := w) hρ hl0 n (Nat.le_refl _) _).1]
                | some y =>
                  have e1 := (bnd_sim (E := E) (w := w) hρ hh0 c' hc (if isS then .sliceAcap else .sliceAlen)).1
                  cases lo with
                  | none => simp only [bnd, Option.some.injEq] at hl0; subst hl0; simp [e1]
                  | some x => simp [e1, (bnd_sim (E := E) (w := w) hρ hl0 h (Nat.le_refl _) _).1]
              | some z =>
                cases hi with
                | none => simp at hmh
                | some y =>
                  have e0 := (bnd_sim (E := E) (w := w) hρ hm0 c' hc (if isS then .slice3Acap else .slice3Alen)).1
                  have e1 := (bnd_sim (E := E) (w := w) hρ hh0 m (Nat.le_refl _) .slice3B).1
                  cases lo with
                  | none => simp only [bnd, Option.some.injEq] at hl0; subst hl0; simp [e0, e1]
                  | some x => simp [e0, e1, (bnd_sim (E := E) (w := w) hρ hl0 h (Nat.le_refl _) _).1]
            · intro hmx
              cases mx with
              | none => simp only [bnd, Option.some.injEq] at hm0; exact hm0.symm
              | some z => cases hmx

theorem hSlice_sim (hT : TyOk E) (t : TypeId) (x : Operand) (lo hi mx : Option Operand) {tm : Tm} {ρ : Operand → Value} (hR : Rel i s w) (hρ : TR i tm ρ) {v : Value} {s' : AS} (h : hSlice t x lo hi mx E tm s = some (v, s')) :
    Sim E i s w (Instr.sliceAt t (ρ x) (lo.map ρ) (hi.map ρ) (mx.map ρ)) v s' := by
  unfold hSlice at h
  split at h
  · rename_i u hu
    split at h
    · rename_i r hr
      cases h
      have hc := hρ x _ hu
      generalize hg : ρ x = y at hc
      unfold sliceA at hr
      split at hr
      · cases hr
      · rename_i ti ht
        have hd := run_und hT ht w
        split at hr
        · rename_i b hdesc
          cases hc
          cases mx with
          | some z => cases hr
          | none =>
            simp only at hr
            split at hr
            · cases hr
            · rename_i l h m hb
              cases hr
              have := (bnds_sim (E := E) (w := w) hρ hb b.size (Nat.le_refl _) false).1
              refine Sim.ofPure hR (v' := .string (b.extract l h)) ?_ (.string _)
              unfold Instr.sliceAt Instr.slice
              simp only [Option.map_none] at this
              simp [hd, hdesc, this]
        · rename_i e a n c hdesc
          split at hr
          · cases hr
          · rename_i tj hj
            split at hr
            · cases hr
            · rename_i l h m hb
              cases hok : (mx.isSome || Nat.beq (c % 2) 1 || Nat.beq l 0 || unitOk s a tj.size) with
              | false => rw [hok] at hr; cases hr
              | true =>
              rw [hok] at hr
              cases hr
              cases hc with
              | nils hc0 =>
                obtain ⟨g1, g2, g3, g4⟩ := bnds_sim (E := E) (w := w) hρ hb 0 (by omega) true
                have hm : m ≤ c / 2 := by
                  cases mx with
                  | none => have := g4 rfl; omega
                  | some z =>
                    unfold bnds at hb
                    cases hi with
                    | none => simp at hb
                    | some y =>
                      simp only [Option.isSome_some, Option.isNone_some, Bool.and_false, cond_false] at hb
                      split at hb
                      · cases hb
                      · rename_i m0 hm0
                        have := bnd_le hm0
                        split at hb
                        · cases hb
                        · rename_i h0 _
                          cases hle : Nat.ble h0 m0 with
                          | false => rw [hle] at hb; cases hb
                          | true =>
                            rw [hle] at hb
                            simp only [cond_true] at hb
                            split at hb
                            · cases hb
                            · cases hb; exact this
                have hl0 : l = 0 := by omega
                have hh0 : h = 0 := by omega
                have hm0 : m = 0 := by omega
                subst hl0; subst hh0; subst hm0
                refine Sim.ofPure hR (v' := .slice none 0 0) ?_ ?_
                · unfold Instr.sliceAt Instr.slice
                  simp [hd, hdesc, g1, run_size hT hj]
                · simp only [Option.map_none, Nat.sub_zero]
                  exact .nils (by cases mx <;> simp <;> omega)
              | @slice b o q t' _ _ p c' hib h1 h2 h3 h4 h5 =>
                obtain ⟨g1, g2, g3, g4⟩ := bnds_sim (E := E) (w := w) hρ hb c' h3 true
                cases mx with
                | none =>
                  have hm := g4 rfl
                  simp only [Option.isSome_none, Bool.false_eq_true, if_false, cond_false, Option.map_some] at g1 ⊢
                  refine Sim.ofPure hR (v' := .slice (some (if c' = l then ⟨q, p, none⟩ else ⟨q, p + l * tj.size, none⟩)) (h - l) (c' - l)) ?_ ?_
                  · unfold Instr.sliceAt Instr.slice
                    simp only [Option.map_none] at g1
                    by_cases hcl : c' = l
                    · subst hcl; simp [hd, hdesc, g1, run_size hT hj]
                    · simp [hd, hdesc, g1, run_size hT hj, hcl, add_none]
                  · by_cases hcl : c' = l
                    · rw [if_pos hcl]
                      exact .slice hib (by omega) (by omega) (by omega) (.inr (by omega)) (fun _ h0 => absurd (by omega) h0)
                    · rw [if_neg hcl]
                      have hpt := h4.resolve_right (by omega)
                      refine .slice hib (by omega) (by omega) (by omega) (.inl (by omega)) (fun hev _ => ?_)
                      have hc2 : c % 2 = 0 := by omega
                      have hl5 := h5 hc2 (by omega)
                      simp only [Option.isSome_none, Bool.false_or, Bool.or_eq_true, Nat.beq_eq] at hok
                      rcases hok with (hok | hok) | hok
                      · omega
                      · subst hok; simpa using hl5
                      · unfold unitOk at hok
                        simp only at hok
                        split at hok
                        · rename_i c1 n1 z1 hbl
                          obtain ⟨k1, _⟩ := hR.lim _ _ _ _ _ _ hbl hib
                          have hz : zs z1 = tj.size := by simpa using hok
                          rw [hz] at k1
                          rw [k1] at hl5 ⊢
                          have : c' * tj.size = l * tj.size + (c' - l) * tj.size := by rw [← Nat.add_mul]; congr 1; omega
                          omega
                        · cases hok
                | some z =>
                  simp only [Option.isSome_some, if_true, cond_true, Option.map_some] at g1 ⊢
                  refine Sim.ofPure hR (v' := .slice (some (if m = l then ⟨q, p, none⟩ else ⟨q, p + l * tj.size, none⟩)) (h - l) (m - l)) ?_ ?_
                  · unfold Instr.sliceAt Instr.slice
                    by_cases hcl : m = l <;> simp [hd, hdesc, g1, run_size hT hj, hcl, add_none]
                  · by_cases hcl : m = l
                    · rw [if_pos hcl]
                      exact .slice hib (by omega) (by omega) (by omega) (.inr (by omega)) (fun h0 => by omega)
                    · rw [if_neg hcl]
                      have hmc : m ≤ c / 2 := by
                        unfold bnds at hb
                        cases hi with
                        | none => simp at hb
                        | some y =>
                          simp only [Option.isSome_some, Option.isNone_some, Bool.and_false, cond_false] at hb
                          split at hb
                          · cases hb
                          · rename_i m0 hm0
                            have := bnd_le hm0
                            split at hb
                            · cases hb
                            · rename_i h0 _
                              cases hle : Nat.ble h0 m0 with
                              | false => rw [hle] at hb; cases hb
                              | true =>
                                rw [hle] at hb
                                simp only [cond_true] at hb
                                split at hb
                                · cases hb
                                · cases hb; exact this
                      refine .slice hib (by omega) (by omega) (by omega) (.inl ?_) (fun h0 => by omega)
                      have := h4.resolve_right (by omega)
                      omega
        · rename_i k e a hdesc
          split at hr
          · cases hr
          · rename_i tj hj
            split at hr
            · cases hr
            · rename_i l h m hb
              cases hr
              cases hc with
              | @ptr b o q t' hib =>
                obtain ⟨g1, g2, g3, g4⟩ := bnds_sim (E := E) (w := w) hρ hb k (Nat.le_refl _) false
                have hmm : (if mx.isSome = true then m else k) = m := by
                  cases mx with
                  | none => simp [g4 rfl]
                  | some z => simp
                rw [hmm] at g1
                refine Sim.ofPure hR (v' := .slice (some (if m = l then ⟨q, t' + o, none⟩ else ⟨q, t' + o + l * tj.size, none⟩)) (h - l) (m - l)) ?_ ?_
                · unfold Instr.sliceAt Instr.sureAddr
                  by_cases hcl : m = l <;> simp [hd, hdesc, g1, run_size hT hj, hcl, add_none]
                · by_cases hcl : m = l
                  · rw [if_pos hcl]
                    exact .slice hib (by omega) (by omega) (by omega) (.inr (by omega)) (fun h0 => by omega)
                  · rw [if_neg hcl]
                    exact .slice hib (by omega) (by omega) (by omega) (.inl (Nat.add_assoc _ _ _)) (fun h0 => by omega)
        · cases hr
    · cases h
  · cases h

end
end Go.Ax
