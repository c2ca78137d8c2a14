/- The abstract machine's calls and the model's. -/
import Derived.Test.YtmfdkldjinlmnaaGreatDoorAxCode
set_option linter.unusedVariables false
set_option linter.unusedSimpArgs false
namespace Go.Ax
open Go Go.RowKit

structure FnOk (E : Env) : Prop where
  fn : ∀ f fn, E.fn.get f = some fn → E.P.funcs[f]? = some fn ∧ (fn.name == "runtime.NumGoroutine") = false ∧ ∀ c, fn.body = some c → codeOk E.ty c = true

def PrimOk (E : Env) : Prop :=
  ∀ f p, E.prim.get f = some p → ∀ args s v s', p args s = some (v, s') → ∀ i w args', Rel i s w → Gl i → VRs i args args' → FSim E.P f args' i s w v s'

section
variable {dl : List Deferred} {E : Env} {i : Io} {s : AS} {w : World}

/-- What one result comes to. -/
def resOf (tmps : Array Value) : ResultVar → Sem Value
  | .tmp t => pure (tmps.getD t undef)
  | .cell a t => do loadVar t (← asAddr (tmps.getD a undef))

theorem res1_sim (hT : TyOk E) {tm : Tm} {ts : Array Value} (hR : Rel i s w) (hm : TmR i tm ts) (r : ResultVar) {v : Value} (h : (match r with
      | .tmp t => tm.get t
      | .cell a t => match E.ty.get t, tm.get a with
        | some i, some (.pointer (some p)) => bif isAggD i.desc then (match rdN s p.block p.off i.size with
          | some l => some (.agg ⟨l⟩)
          | none => none) else rd s p.block p.off
        | _, _ => none) = some v) : ∃ v', (resOf ts r).run E.P w = .ok v' w ∧ VR i v v' := by
  cases r with
  | tmp t => exact ⟨_, rfl, hm t v h⟩
  | cell a t =>
    simp only at h
    split at h
    · rename_i ti p ht hp
      have hc := hm a _ hp
      unfold resOf
      generalize hg : ts.getD a undef = y at hc
      cases hc with
      | @ptr b o q t' hi =>
        have hA := run_isAgg hT ht w
        have hS := run_size hT ht w
        cases hagg : isAggD ti.desc with
        | true =>
          rw [hagg] at h hA
          simp only [cond_true] at h
          split at h
          · rename_i l hl
            cases h
            obtain ⟨l', h1, h2, _⟩ := hR.rdN (P := E.P) hl hi
            refine ⟨.agg l'.toArray, ?_, .agg h2⟩
            show (do loadVar t (← asAddr (ts.getD a undef)) : Sem Value).run E.P w = _
            rw [hg]
            unfold loadVar
            simp [hA, hS, h1, asAddr]
          · cases h
        | false =>
          rw [hagg] at h hA
          simp only [cond_false] at h
          obtain ⟨v', h1, h2⟩ := hR.rd h hi
          refine ⟨v', ?_, h2⟩
          show (do loadVar t (← asAddr (ts.getD a undef)) : Sem Value).run E.P w = _
          rw [hg]
          unfold loadVar
          simp [hA, h1, asAddr]
    · cases h

theorem resL_sim (hT : TyOk E) {tm : Tm} {ts : Array Value} (hR : Rel i s w) (hm : TmR i tm ts) : ∀ (l : List ResultVar) {vs : List Value}, resA E tm s l = some vs → ∃ vs', (l.mapM (resOf ts)).run E.P w = .ok vs' w ∧ VRs i vs vs'
  | [], vs, h => by cases h; exact ⟨[], rfl, .nil⟩
  | r :: l, vs, h => by
    have h' : (match (match r with
      | .tmp t => tm.get t
      | .cell a t => match E.ty.get t, tm.get a with
        | some i, some (.pointer (some p)) => bif isAggD i.desc then (match rdN s p.block p.off i.size with
          | some l => some (.agg ⟨l⟩)
          | none => none) else rd s p.block p.off
        | _, _ => none) with
      | none => none
      | some v => match resA E tm s l with
        | none => none
        | some vs => some (v :: vs)) = some vs := h
    clear h
    split at h'
    · cases h'
    · rename_i v hv
      obtain ⟨v', h1, h2⟩ := res1_sim hT hR hm r hv
      split at h'
      · cases h'
      · rename_i us hus
        cases h'
        obtain ⟨us', h3, h4⟩ := resL_sim hT hR hm l hus
        refine ⟨v' :: us', ?_, .cons h2 h4⟩
        rw [List.mapM_cons]
        simp only [Sem.run_bind, h1, h3, Result.andThen_ok, Sem.run_pure]

theorem res_sim (hT : TyOk E) {tm : Tm} {ts : Array Value} (hR : Rel i s w) (hm : TmR i tm ts) (fn : Func) {vs : List Value} (h : resA E tm s fn.results.toList = some vs) : ∃ v', (results fn ts).run E.P w = .ok v' w ∧ VR i (packA vs) v' := by
  obtain ⟨vs', h1, h2⟩ := resL_sim hT hR hm _ h
  have e : results fn ts = (do
      let vs ← fn.results.mapM (resOf ts)
      pure (if h : vs.size = 1 then vs[0] else .tuple vs)) := by
    unfold results
    congr 2
  rw [e, Array.mapM_eq_mapM_toList]
  simp only [map_eq_pure_bind, Sem.run_bind, h1, Result.andThen_ok, Sem.run_pure]
  refine ⟨_, rfl, ?_⟩
  cases h2 with
  | nil => exact .tuple .nil
  | cons g1 g2 =>
    cases g2 with
    | nil => exact g1
    | cons g3 g4 => exact .tuple (.cons g1 (.cons g3 g4))

theorem start_tm {args args' : List Value} (n : Nat) (h : VRs i args args') : TmR i (T.e.fill 0 args) (⟨args'⟩ ++ Array.replicate n undef : Array Value) := by
  intro k v e
  rw [T.get_fill] at e
  by_cases hk : 0 ≤ k ∧ k < 0 + args.length
  · rw [if_pos hk] at e
    obtain ⟨v', h1, h2⟩ := h.get e
    have hlen := h.length
    rw [Array.getD_eq_getD_getElem?, Array.getElem?_append_left (by simp; omega)]
    have : (⟨args'⟩ : Array Value)[k]? = args'[k]? := by simp
    rw [this]
    simp only [Nat.sub_zero] at h1
    rw [h1]
    exact h2
  · rw [if_neg hk] at e
    cases e

/-- A block that nobody knows turns. -/
theorem Rel.put {i : Io} {s : AS} {w : World} {D : Nat} (h : Rel i s w) (o : Obj) (hn : ∀ b t, i b = some (D, t) → s.h.get b = none) : Rel i s (w.putObj D o) := by
  have hd : ∀ b q t, i b = some (q, t) → s.h.get b ≠ none → (w.putObj D o).heap[q]? = w.heap[q]? := fun b q t e g => by
    show (w.heap.setIfInBounds D o)[q]? = _
    rw [Array.getElem?_setIfInBounds, if_neg (fun e' => by subst e'; exact g (hn b t e))]
  have hs : (w.putObj D o).heap.size = w.heap.size := by
    show (w.heap.setIfInBounds D o).size = _
    simp
  refine ⟨fun b x ho ha => ?_, h.inj, h.fresh, fun b c n z q t ho e => ?_, fun b q t e g => by rw [hs]; exact h.dom b q t e g⟩
  · obtain ⟨q, t, e, hor⟩ := h.obj b x ho ha
    exact ⟨q, t, e, by rw [hd b q t e (by rw [ho]; simp)]; exact hor⟩
  · obtain ⟨l1, l2⟩ := h.lim b c n z q t ho e
    exact ⟨l1, fun cs e' fr hw => l2 cs e' fr (by rw [← hd b q t e (by rw [ho]; simp)]; exact hw)⟩

theorem leaves_df {P : Program} {fn : Func} {tmps : Array Value} {R : Ending → World → Prop} {n : Nat} {i0 i : Io} {s0 s : AS} {w0 : World} : ∀ {dl : List Deferred} {w : World}, DfOk w0.heap.size i s w dl → Rel i s w → Fr i0 s0 w0 i s w →
    (∀ w', Rel i s w' → Fr i0 s0 w0 i s w' → ∃ v, (results fn tmps).run P w' = .ok v w' ∧ R (.returned v) w') → LeavesInM Fence.wide n P fn tmps R dl .returning w
  | [], w, _, hR, hF, h => h w hR hF
  | d :: dl, w, hd, hR, hF, h => by
    obtain ⟨D, rfl, h2, h3, h4⟩ := hd.2.2 d (by simp)
    refine ⟨by simp, .inl ⟨D, w.putObj D (.deferred none), rfl, run_takeDeferred h3, ?_⟩⟩
    have hs : (w.putObj D (.deferred none)).heap.size = w.heap.size := by
      show (w.heap.setIfInBounds D _).size = _
      simp
    have hne : ∀ k, k ≠ D → (w.putObj D (.deferred none)).heap[k]? = w.heap[k]? := fun k hk => by
      show (w.heap.setIfInBounds D _)[k]? = _
      rw [Array.getElem?_setIfInBounds, if_neg (fun e => hk e.symm)]
    refine leaves_df ?_ (hR.put _ h4) ⟨hF.le, hF.new, hF.os, hF.tape, hF.output, by rw [hs]; exact hF.size, fun q hq hn => ?_, hF.ro, hF.nx, hF.dom, hF.gone, hF.stay⟩ h
    · refine ⟨by rw [hs]; exact hd.1, (List.nodup_cons.1 hd.2.1).2, fun d' hd' => ?_⟩
      obtain ⟨D', rfl, g2, g3, g4⟩ := hd.2.2 d' (by simp [hd'])
      refine ⟨D', rfl, g2, ?_, g4⟩
      rw [hne D' (fun e => by subst e; exact (List.nodup_cons.1 hd.2.1).1 hd')]
      exact g3
    · rw [hne q (by omega)]
      exact hF.keep q hq hn

theorem callA_ok (hT : TyOk E) (hB : BackOk E) (hF : FnOk E) (hP : PrimOk E) (hDr : ∀ call, CallOk E.P call → DrawOk E call) (F : Nat) : ∀ D, CallOk E.P (callA E F D)
  | 0 => fun f args s v s' h => by cases h
  | D + 1 => by
    intro f args s v s' h i w args' hR hg ha
    have ih := callA_ok hT hB hF hP hDr F D
    have h' : (match E.prim.get f with
      | some p => p args s
      | none => match E.fn.get f with
        | none => none
        | some fn => match fn.body with
          | none => none
          | some c => bif Nat.beq fn.ntmps 0 then none else natK (Nat.pred fn.ntmps) fun N => match codeA E (callA E F D) N F c (T.e.fill 0 args) s with
            | some (.exit _, _, _) => none
            | none => none
            | some (_, tm, s') => match resA E tm s' fn.results.toList with
              | none => none
              | some vs => some (packA vs, s')) = some (v, s') := h
    clear h
    split at h'
    · rename_i p hp
      exact hP f p hp args s v s' h' i w args' hR hg ha
    · split at h'
      · cases h'
      · rename_i fn hfn
        obtain ⟨hf1, hf2, hf3⟩ := hF.fn f fn hfn
        split at h'
        · cases h'
        · rename_i c hc
          cases hn : Nat.beq fn.ntmps 0 with
          | true => rw [hn] at h'; cases h'
          | false =>
            rw [hn, cond_false, natK_eq] at h'
            have hne : fn.ntmps ≠ 0 := fun e => by rw [e] at hn; cases hn
            refine .inr ⟨?_, ?_⟩
            · unfold callFunc
              have hf2' : fn.name ≠ "runtime.NumGoroutine" := by simpa using hf2
              simp [hf1, hf2', hc]
            · refine (callsIn_wide (n := 1)).1 (callsIn_of_wp_marks hf1 hc trivial (wpIn_wide.2 ?_) rfl)
              have hsz : fn.ntmps.pred < ((⟨args'⟩ : Array Value) ++ Array.replicate (fn.ntmps - (⟨args'⟩ : Array Value).size) undef).size := by
                rw [Array.size_append, Array.size_replicate, Nat.pred_eq_sub_one]
                omega
              have hstart : AR [] i (T.e.fill 0 args) fn.ntmps.pred { tmps := ⟨args'⟩ ++ Array.replicate (fn.ntmps - (⟨args'⟩ : Array Value).size) undef, defers := [] } := ⟨start_tm _ ha, hsz, rfl⟩
              have hend : ∀ (x : X) (tm : Tm) (s1 : AS), (x = .nor ∨ x = .ret) → (match resA E tm s1 fn.results.toList with
                  | none => none
                  | some vs => some (packA vs, s1)) = some (v, s') → ThenC w.heap.size i s w tm s1 fn.ntmps.pred (bodyPostM Fence.wide 1 E.P fn (RetR i s w v s') (exX x)) := by
                intro x tm s1 hx hres i' w' a' dl' hR' hF' hd' ha'
                split at hres
                · cases hres
                · rename_i vs hvs
                  cases hres
                  have : LeavesInM Fence.wide 1 E.P fn a'.tmps (RetR i s w (packA vs) s') a'.defers .returning w' := by
                    rw [ha'.defers]
                    refine leaves_df hd' hR' hF' (fun w2 hR2 hF2 => ?_)
                    obtain ⟨v', g1, g2⟩ := res_sim hT hR2 ha'.tm fn hvs
                    exact ⟨v', g1, i', g2, hR2, hF2⟩
                  rcases hx with rfl | rfl <;> exact this
              split at h'
              · cases h'
              · cases h'
              · rename_i x tm s1 hnx hcode
                refine (codeA_wp hT hB ih (hDr _ ih) F).1 c hcode (hf3 c hc) hR hg ⟨Nat.le_refl _, List.nodup_nil, fun d hd => by cases hd⟩ hstart (hend x tm s1 ?_ h')
                cases x with
                | nor => exact .inl rfl
                | ret => exact .inr rfl
                | exit j => exact (hnx j rfl).elim

end
end Go.Ax
