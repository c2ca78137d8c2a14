/- The abstract machine's operations and the model's, part 10: the other builtins. -/
import Derived.Test.YtmfdkldjinlmnaaGreatDoorAxSem9
set_option linter.unusedVariables false
set_option linter.unusedSimpArgs false
namespace Go.Ax
open Go

section
variable {E : Env} {i : Io} {s : AS} {w : World}

theorem copy_sim (hT : TyOk E) (t : TypeId) (ts : Array TypeId) (ty : TypeId) {x y x' y' : Value} (hR : Rel i s w) (hx : VR i x x') (hy : VR i y y') (h0 : ts[0]? = some t) {v : Value} {s' : AS} (h : copyA E s t x y = some (v, s')) :
    Sim E i s w (Builtin.copy_ ts ty #[x', y']) v s' := by
  unfold copyA at h
  split at h
  · cases h
  · rename_i ti ht
    have hd := run_und hT ht w
    split at h
    · rename_i e hdesc
      split at h
      · cases h
      · rename_i j hj
        have hs := run_size hT hj w
        split at h
        · rename_i a n c m hm
          have hl := lenS_sim hy hm E.P w
          split at h
          · cases h
          · rename_i new hnew
            obtain ⟨new', hc, hvn, hnl⟩ := src_sim (P := E.P) hR hy (fun k hk => by rw [hm] at hk; cases hk; exact Nat.min_le_left _ _) hnew
            split at h
            · cases h
              cases hx
              refine Sim.ofPure hR (v' := .int .i64 (Nat.min m 0 : Nat)) ?_ (.int _ _)
              simp [Builtin.copy_, h0, hd, hdesc, hl, hs] at hc ⊢
              simp [hc, goInt]
            · rename_i a'
              cases hx with
              | @slice b o q t' _ _ p c' hib k1 k2 k3 k4 k5 =>
                have hrun : ∀ w', (storeCells ⟨q, p, none⟩ new').run E.P w = .ok () w' → (Builtin.copy_ ts ty #[.slice (some ⟨q, p, none⟩) n c', y']).run E.P w = .ok (.int .i64 (Nat.min m n : Nat)) w' := by
                  intro w' hst
                  simp only [Builtin.copy_, h0, List.getElem?_toArray, List.getElem?_cons_zero, List.getElem?_cons_succ, Sem.run_bind, hd, hdesc, Result.andThen_ok, hl, hs, hc, hst, Sem.run_pure, goInt]
                cases hmin : Nat.beq (Nat.min m n) 0 with
                | true =>
                  rw [hmin] at h
                  cases h
                  have h00 : Nat.min m n = 0 := by simpa using hmin
                  have : new' = [] := List.eq_nil_of_length_eq_zero (by rw [← hvn.length, hnl, h00]; simp)
                  subst this
                  exact Sim.ofPure hR (hrun w rfl) (.int _ _)
                | false =>
                  rw [hmin] at h
                  simp only [cond_false] at h
                  split at h
                  · cases h
                  · rename_i s2 hw
                    cases h
                    have hne : Nat.min m n ≠ 0 := fun e => by rw [e] at hmin; cases hmin
                    have hle : Nat.min m n ≤ n := Nat.min_le_right _ _
                    obtain rfl := k4.resolve_right (by omega)
                    obtain ⟨w', g1, g2, g3⟩ := hR.wrN (P := E.P) hw hib hvn
                    exact ⟨_, w', i, hrun w' g1, .int _ _, g2, g3⟩
        · cases h
    · cases h

theorem clear_sim (hT : TyOk E) (t : TypeId) (ts : Array TypeId) (ty : TypeId) {x x' : Value} (hR : Rel i s w) (hx : VR i x x') (h0 : ts[0]? = some t) {v : Value} {s' : AS} (h : clearA E s t x = some (v, s')) :
    Sim E i s w (Builtin.clear_ ts ty #[x']) v s' := by
  unfold clearA at h
  split at h
  · cases h
  · rename_i ti ht
    have hd := run_und hT ht w
    split at h
    · cases h
      cases hx
      exact Sim.ofPure hR (v' := .tuple #[]) (by simp [Builtin.clear_, h0, hd]) (.tuple .nil)
    · cases h
      cases hx
      exact Sim.ofPure hR (v' := .tuple #[]) (by simp [Builtin.clear_, h0, hd]) (.tuple .nil)
    · rename_i b _
      split at h
      · rename_i es hes
        cases h
        cases hx
        rename_i q hib
        obtain ⟨_, es', clk, l, hw1, hw2, hw3, hw4⟩ := hR.at (P := E.P) hes rfl hib
        obtain ⟨g1, g2⟩ := hR.mapNow (es2 := []) hes hib hw1 (m' := #[]) (clk' := clk) rfl (l := []) (.refl _) .nil .nil
        refine ⟨.tuple #[], _, i, ?_, .tuple .nil, g1, g2⟩
        simp [Builtin.clear_, h0, hd, getMap hw1, setMap hw1]
      · cases h
    · rename_i e a n c hdesc
      cases hx with
      | @slice b o q t' _ _ p c' hib k1 k2 k3 k4 k5 =>
        cases hn : Nat.beq n 0 with
        | true =>
          rw [hn] at h
          cases h
          obtain rfl : n = 0 := by simpa using hn
          exact Sim.ofPure hR (v' := .tuple #[]) (by simp [Builtin.clear_, h0, hd, hdesc]) (.tuple .nil)
        | false =>
          rw [hn] at h
          simp only [cond_false] at h
          have hne : n ≠ 0 := fun e => by subst e; cases hn
          split at h
          · cases h
          · rename_i j hj
            split at h
            · cases h
            · rename_i s2 hw
              cases h
              obtain ⟨zv, hz1, hz2, hz3, _, _, hzl⟩ := run_zero hT hj w
              obtain rfl := k4.resolve_right (by omega)
              have hv : VRs i (rep n j.zero) (Builtin.zeroCells zv.cells n).toList := by
                have := VRs.rep (i := i) n (l := j.zero) (l' := zv.cells.toList) (by rw [← hz2]; exact (hz3 i).cells)
                unfold Builtin.zeroCells
                rw [zeros_eq]
                exact this
              obtain ⟨w', g1, g2, g3⟩ := hR.wrN (P := E.P) hw hib hv
              refine ⟨.tuple #[], w', i, ?_, .tuple .nil, g2, g3⟩
              simp [Builtin.clear_, h0, hd, hdesc, hz1, g1, hne]
    · cases h

theorem MR.length {es : List (Value × Value)} {l : List MapEntry} (h : MR i es l) : l.length = es.length := by
  have := congrArg List.length h.keys
  simpa using this

theorem len_sim (hT : TyOk E) (t : TypeId) (ts : Array TypeId) (ty : TypeId) {x x' : Value} (hR : Rel i s w) (hx : VR i x x') (h0 : ts[0]? = some t) {v : Value} (h : lenA E s t x = some v) :
    Sim E i s w (Builtin.len_ ts ty #[x']) v s := by
  unfold lenA at h
  split at h
  · cases h
  · rename_i ti ht
    have hd := run_und hT ht w
    split at h
    · rename_i b hdesc
      cases h
      cases hx
      exact Sim.ofPure hR (by simp [Builtin.len_, h0, hd, hdesc, goInt]) (.int _ _)
    · rename_i n e hdesc
      cases h
      exact Sim.ofPure hR (by simp [Builtin.len_, h0, hd, hdesc, goInt]) (.int _ _)
    · rename_i e a n c hdesc
      cases h
      cases hx <;> exact Sim.ofPure hR (by simp [Builtin.len_, h0, hd, hdesc, goInt]) (.int _ _)
    · rename_i e a hdesc
      cases h
      cases hx
      exact Sim.ofPure hR (by simp [Builtin.len_, h0, hd, hdesc, goInt]) (.int _ _)
    · rename_i e a b hdesc
      split at h
      · rename_i es hes
        cases h
        cases hx
        rename_i q hib
        obtain ⟨_, es', clk, l, hw1, hw2, hw3, hw4⟩ := hR.at (P := E.P) hes rfl hib
        have hlen : es'.size = es.length := by rw [← Array.length_toList, ← hw2.length_eq, hw3.length]
        refine Sim.ofPure hR (v' := .int .i64 es.length) ?_ (.int _ _)
        rw [← hlen]
        simp [Builtin.len_, h0, hd, hdesc, goInt, getMap hw1]
      · cases h
    · cases h

theorem cap_sim (hT : TyOk E) (t : TypeId) (ts : Array TypeId) (ty : TypeId) {x x' : Value} (hR : Rel i s w) (hx : VR i x x') (h0 : ts[0]? = some t) {v : Value} (h : capA E t x = some v) :
    Sim E i s w (Builtin.cap_ ts ty #[x']) v s := by
  unfold capA at h
  split at h
  · cases h
  · rename_i ti ht
    have hd := run_und hT ht w
    split at h
    · rename_i n e hdesc
      cases h
      exact Sim.ofPure hR (by simp [Builtin.cap_, h0, hd, hdesc, goInt]) (.int _ _)
    · rename_i e n c hdesc
      cases h
      cases hx with
      | nils hc0 => exact Sim.ofPure hR (by simp [Builtin.cap_, h0, hd, hdesc, goInt]) (.int _ _)
    · rename_i e a n c hne hdesc
      cases hc : Nat.beq (c % 2) 1 with
      | false => rw [hc] at h; cases h
      | true =>
        rw [hc] at h
        cases h
        have hodd : c % 2 = 1 := by simpa using hc
        cases hx with
        | nils hc0 =>
          rw [hc0]
          exact Sim.ofPure hR (by simp [Builtin.cap_, h0, hd, hdesc, goInt]) (.int _ _)
        | slice hib k1 k2 k3 k4 k5 =>
          rw [← k2 hodd]
          exact Sim.ofPure hR (by simp [Builtin.cap_, h0, hd, hdesc, goInt]) (.int _ _)
    · cases h

theorem fold_sim {P : Program} {f : Value → Value → Option Value} {g : Value → Value → Sem Value} (hfg : ∀ x y z x' y', f x y = some z → VR i x x' → VR i y y' → ∃ z', (g x' y').run P w = .ok z' w ∧ VR i z z') :
    ∀ {l l' : List Value} {x x' z : Value}, VRs i l l' → VR i x x' → foldA f x l = some z → ∃ z', (l'.foldlM g x').run P w = .ok z' w ∧ VR i z z'
  | _, _, x, x', z, .nil, hx, h => by
    simp only [foldA, Option.some.injEq] at h
    subst h
    exact ⟨x', rfl, hx⟩
  | y :: l, y' :: l', x, x', z, .cons hy hl, hx, h => by
    simp only [foldA] at h
    split at h
    · cases h
    · rename_i u hu
      obtain ⟨u', g1, g2⟩ := hfg _ _ _ _ _ hu hx hy
      obtain ⟨z', g3, g4⟩ := fold_sim hfg hl g2 h
      refine ⟨z', ?_, g4⟩
      rw [List.foldlM_cons]
      simp only [Sem.run_bind, g1, Result.andThen_ok, g3]

theorem max2_sim (P : Program) (x y z x' y' : Value) (h : max2A x y = some z) (hx : VR i x x') (hy : VR i y y') : ∃ z', (Builtin.max2 x' y').run P w = .ok z' w ∧ VR i z z' := by
  unfold max2A at h
  split at h
  · cases h; cases hx; cases hy; exact ⟨_, rfl, .int _ _⟩
  · cases h
theorem min2_sim (P : Program) (x y z x' y' : Value) (h : min2A x y = some z) (hx : VR i x x') (hy : VR i y y') : ∃ z', (Builtin.min2 x' y').run P w = .ok z' w ∧ VR i z z' := by
  unfold min2A at h
  split at h
  · cases h; cases hx; cases hy; exact ⟨_, rfl, .int _ _⟩
  · cases h

end
end Go.Ax
