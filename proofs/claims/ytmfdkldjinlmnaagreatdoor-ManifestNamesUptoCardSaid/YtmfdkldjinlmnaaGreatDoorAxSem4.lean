/- The abstract machine's operations and the model's, part 4: comparisons, texts, conversions. -/
import Derived.Test.YtmfdkldjinlmnaaGreatDoorAxSem3
set_option linter.unusedVariables false
set_option linter.unusedSimpArgs false
namespace Go.Ax
open Go

section
variable {E : Env} {i : Io} {s : AS} {w : World}

theorem binII_sim {op : BinOp} {k k' : IntKind} {a b : Int} {v : Value} (h : binII op k a k' b = some v) (t : TypeId) (w : World) : (binOp op t (.int k a) (.int k' b)).run E.P w = .ok v w := by
  have gen : (bif kindEq k k' then intBin op k a b else none) = some v → (binOp op t (.int k a) (.int k' b)).run E.P w = .ok v w := by
    intro hq
    cases hk : kindEq k k' with
    | false => rw [hk] at hq; cases hq
    | true =>
      rw [hk, cond_true] at hq
      obtain rfl := kindEq_eq hk
      exact intBin_sim hq t w
  cases op
  case shl =>
    clear gen
    simp only [binII] at h
    cases b with
    | negSucc n => cases h
    | ofNat n =>
      simp only [shlA, intV_eq, Option.some.injEq, bitsA_eq] at h
      subst h
      have hm : (bif Nat.ble n k.bits then n else k.bits) = min n k.bits := by
        cases hb : Nat.ble n k.bits with
        | true => simp at hb; simp; omega
        | false => have : ¬ n ≤ k.bits := fun hh => by rw [show Nat.ble n k.bits = true by simpa using hh] at hb; cases hb
                   simp; omega
      rw [hm]
      have hn : ¬ ((Int.ofNat n) < 0) := Int.not_lt.2 (Int.natCast_nonneg n)
      simp only [binOp, Op.shift]
      rw [if_neg hn]
      show Result.ok _ _ = Result.ok _ _
      simp
  case shr =>
    clear gen
    simp only [binII] at h
    cases b with
    | negSucc n => cases h
    | ofNat n =>
      simp only [shrA, intK_eq, Option.some.injEq, bitsA_eq] at h
      subst h
      have hm : (bif Nat.ble n k.bits then n else k.bits) = min n k.bits := by
        cases hb : Nat.ble n k.bits with
        | true => simp at hb; simp; omega
        | false => have : ¬ n ≤ k.bits := fun hh => by rw [show Nat.ble n k.bits = true by simpa using hh] at hb; cases hb
                   simp; omega
      rw [hm]
      have hn : ¬ ((Int.ofNat n) < 0) := Int.not_lt.2 (Int.natCast_nonneg n)
      simp only [binOp, Op.shift]
      rw [if_neg hn]
      show Result.ok _ _ = Result.ok _ _
      simp
  all_goals exact gen h

theorem strBin_sim {op : BinOp} {a b : ByteArray} {v : Value} (h : strBin op a b = some v) (t : TypeId) (w : World) : (binOp op t (.string a) (.string b)).run E.P w = .ok v w := by
  cases op
  case add =>
    simp only [strBin, sAdd] at h
    split at h
    · cases h
    · rename_i hn
      cases h
      simp only [binOp, Op.stringOp]
      rw [if_neg hn]
      rfl
  all_goals first
    | (simp only [strBin, Option.some.injEq] at h; subst h; simp [binOp, Op.stringOp]; done)
    | (simp only [strBin, sNo] at h; cases h)

theorem eqGuard_other {op : BinOp} {t : TypeId} {ox oy : Operand} {a b : Value} (h1 : a ≠ .nilIface ∨ b ≠ .nilIface) (h2 : (∀ cs, a ≠ .agg cs) ∨ ∀ cs, b ≠ .agg cs) (P : Program) (w : World) :
    (eqGuard op t ox oy a b).run P w = .ok () w := by
  unfold eqGuard
  cases op <;> first
    | rfl
    | (simp only [Bool.not_true, Bool.false_eq_true, if_false]
       split
       · rcases h1 with h | h <;> exact absurd rfl h
       · rcases h2 with h | h <;> exact absurd rfl (h _)
       · rfl)

/-- Is it live? Then the world has cells there, and nothing frozen. -/
theorem Rel.live_cells {b q t : Nat} (h : Rel i s w) (hl : live s b = true) (hi : i b = some (q, t)) : ∃ cs e fr, w.heap[q]? = some (.cells cs e fr) ∧ fr.2 ≤ fr.1 := by
  unfold live at hl
  split at hl
  · rename_i c n z hb
    obtain ⟨cs, e, fr, h1, _, h3, _⟩ := h.at (P := default) hb rfl hi
    have hz : z % 2 = 0 := by simpa using hl
    exact ⟨cs, e, fr, h1, Nat.le_of_eq <| Eq.symm <| h3.resolve_right (fun h => by omega)⟩
  · cases hl

theorem Rel.live_inj {b b' q t t' : Nat} (h : Rel i s w) (hl : live s b = true) (hl' : live s b' = true) (hi : i b = some (q, t)) (hi' : i b' = some (q, t')) : b = b' := by
  unfold live at hl hl'
  split at hl
  · rename_i c n z hb
    split at hl'
    · rename_i c' n' z' hb'
      exact h.inj b b' _ _ q t t' hb hb' rfl rfl hi hi'
    · cases hl'
  · cases hl

theorem notFrozen {w : World} {q : Nat} {cs : Array Value} {e : TypeId} {fr : Nat × Nat} (h : w.heap[q]? = some (.cells cs e fr)) (hf : fr.2 ≤ fr.1) (k : Nat) (x : Option Nat) : w.frozen? ⟨q, k, x⟩ = false := by
  obtain ⟨lo, hi⟩ := fr
  simp only [World.frozen?, h]
  simp only at hf
  simp only [Bool.and_eq_false_iff, decide_eq_false_iff_not]
  omega

theorem sameAddr_ne {P : Program} {a b : Addr} {cs cs' : Array Value} {e e' : TypeId} {fr fr' : Nat × Nat} (hne : a.block ≠ b.block) (ha : w.heap[a.block]? = some (.cells cs e fr)) (hb : w.heap[b.block]? = some (.cells cs' e' fr'))
    (hf : fr.2 ≤ fr.1) (hf' : fr'.2 ≤ fr'.1) : (sameAddr a b).run P w = .ok false w := by
  have h1 : ∀ k x, w.frozen? ⟨a.block, k, x⟩ = false := notFrozen ha hf
  have h2 : ∀ k x, w.frozen? ⟨b.block, k, x⟩ = false := notFrozen hb hf'
  have s1 : w.shape? a.block = some (e, cs.size) := by simp [World.shape?, ha]
  have s2 : w.shape? b.block = some (e', cs'.size) := by simp [World.shape?, hb]
  have f1 : w.frozen? a = false := h1 a.off a.spot
  have f2 : w.frozen? b = false := h2 b.off b.spot
  have hbe : (a.block == b.block) = false := by simpa using hne
  have st : ∀ (x : Addr) (n : TypeId × Nat), w.shape? x.block = some n → (∀ k y, w.frozen? ⟨x.block, k, y⟩ = false) → (stringish x).run P w = .ok false w := by
    intro x n hs hfz
    have fx : w.frozen? x = false := hfz x.off x.spot
    unfold stringish
    simp [fx, hs, hfz]
  unfold sameAddr noView viewAt mayBeOne
  simp [hbe, f1, f2, s1, s2, st a _ s1 h1, st b _ s2 h2]

theorem eqD_sim (hT : TyOk E) {t : TypeId} {ti : TI} (ht : E.ty.get t = some ti) {x y x' y' : Value} (hR : Rel i s w) (hx : VR i x x') (hy : VR i y y') {b : Bool} (h : eqD E s ti.desc x y = some b) :
    (Op.equal t x' y').run E.P w = .ok b w := by
  have hd := run_und hT ht w
  have key : (Op.equal t x' y') = Op.equalIn (9999 + 1) t x' y' := rfl
  rw [key, Op.equalIn]
  simp only [Sem.run_bind, hd, Result.andThen_ok]
  unfold eqD at h
  split at h
  · rename_i hdesc; rw [hdesc]; cases hx; cases hy; cases h; rfl
  · rename_i hdesc; rw [hdesc]; cases hx; cases h; cases hy <;> rfl
  · rename_i hdesc; rw [hdesc]; cases hx; cases hy; cases h; rfl
  · rename_i e a b' hdesc
    rw [hdesc]
    split at h
    · cases h
    · rename_i te he
      cases hz : Nat.beq te.size 0 with
      | true => rw [hz] at h; cases h
      | false =>
        rw [hz] at h
        simp only [cond_false] at h
        have hne : te.size ≠ 0 := fun e => by rw [e] at hz; cases hz
        cases hx with
        | @ptr b1 o1 q1 t1 h1 =>
          cases hy with
          | @ptr b2 o2 q2 t2 h2 =>
            simp only [Sem.run_bind, run_size hT he, Result.andThen_ok, hne, ne_eq, not_false_eq_true, if_true]
            cases hb : Nat.beq b1 b2 with
            | true =>
              rw [hb] at h
              have hbe : b1 = b2 := by simpa using hb
              subst hbe
              rw [h1] at h2
              cases h2
              simp only [cond_true, Option.isNone_none, Bool.and_true, Option.some.injEq] at h
              subst h
              unfold sameAddr
              simp only [beq_self_eq_true, if_true, Sem.run_pure]
              congr 1
              rw [Bool.eq_iff_iff]
              simp
            | false =>
              rw [hb] at h
              simp only [cond_false] at h
              cases hl : (live s b1 && live s b2) with
              | false => rw [hl] at h; cases h
              | true =>
                rw [hl] at h
                cases h
                simp only [Bool.and_eq_true] at hl
                obtain ⟨cs, e1, fr, g1, g2⟩ := hR.live_cells hl.1 h1
                obtain ⟨cs', e1', fr', g1', g2'⟩ := hR.live_cells hl.2 h2
                have hq : q1 ≠ q2 := fun e => by
                  subst e
                  have := hR.live_inj hl.1 hl.2 h1 h2
                  subst this
                  simp at hb
                exact sameAddr_ne (a := ⟨q1, t1 + o1, none⟩) (b := ⟨q2, t2 + o2, none⟩) hq g1 g1' g2 g2'
  · rename_i hdesc; rw [hdesc]; cases hx; cases h; cases hy <;> rfl
  · rename_i hdesc; rw [hdesc]; cases hx; cases hy; cases h; rfl
  · rename_i hdesc; rw [hdesc]; cases hx; cases h; cases hy <;> rfl
  · rename_i hdesc; rw [hdesc]; cases hx; cases hy; cases h; rfl
  · rename_i hdesc; rw [hdesc]; cases hx; cases hy; cases h; rfl
  · rename_i hdesc; rw [hdesc]; cases hx; cases hy; cases h; rfl
  · rename_i hdesc; rw [hdesc]; cases hx; cases hy; cases h; rfl
  · rename_i hdesc; rw [hdesc]; cases hx; cases hy; cases h; rfl
  · rename_i hdesc; rw [hdesc]; cases hx; cases hy; cases h; rfl
  · cases h

theorem eqGuard_nil (op : BinOp) (t : TypeId) (x y : Operand) (h : (isConstO x || isConstO y) = true) (P : Program) (w : World) : (eqGuard op t x y .nilIface .nilIface).run P w = .ok () w := by
  unfold eqGuard
  cases op <;> first
    | rfl
    | (cases x <;> cases y <;> first | rfl | (simp [isConstO] at h))

theorem equal_nilI (hT : TyOk E) {t : TypeId} {ms : Array (String × TypeId)} {a b c} (ht : E.ty.get t = some ⟨.interface ms, a, b, c⟩) : (Op.equal t .nilIface .nilIface).run E.P w = .ok true w := by
  have hd := run_und hT ht w
  have key : (Op.equal t .nilIface .nilIface) = Op.equalIn (9999 + 1) t .nilIface .nilIface := rfl
  rw [key, Op.equalIn]
  simp only [Sem.run_bind, hd, Result.andThen_ok]
  rfl

theorem pureBin_sim {op : BinOp} {t : TypeId} {ox oy : Operand} {x y x' y' : Value} (hx : VR i x x') (hy : VR i y y') {v : Value} (h : pureBin E op t ox oy x y = some v) :
    (do eqGuard op t ox oy x' y'; binOp op t x' y' : Sem Value).run E.P w = .ok v w ∧ VR i v v := by
  unfold pureBin at h
  cases hp : (plain x && plain y) with
  | false => rw [hp] at h; cases h
  | true =>
    rw [hp] at h
    simp only [Bool.and_eq_true] at hp
    simp only [cond_true] at h
    obtain rfl := plain_eq hx hp.1
    obtain rfl := plain_eq hy hp.2
    split at h
    · rename_i u hu
      cases hpu : plain u with
      | false => rw [hpu] at h; cases h
      | true =>
        rw [hpu] at h
        cases h
        exact ⟨pureRun_run E.P _ _ hu w, plain_refl hpu⟩
    · cases h

theorem hBin_sim (hT : TyOk E) (op : BinOp) (t : TypeId) (x y : Operand) {tm : Tm} {ρ : Operand → Value} (hR : Rel i s w) (hρ : TR i tm ρ) {v : Value} {s' : AS} (h : hBin op t x y E tm s = some (v, s')) :
    Sim E i s w (do eqGuard op t x y (ρ x) (ρ y); binOp op t (ρ x) (ρ y)) v s' := by
  unfold hBin at h
  split at h
  · rename_i a b ha hb
    split at h
    · rename_i u hu
      cases h
      have hx := hρ x _ ha
      have hy := hρ y _ hb
      generalize hgx : ρ x = x' at hx
      generalize hgy : ρ y = y' at hy
      suffices hs : ∃ v', (do eqGuard op t x y x' y'; binOp op t x' y' : Sem Value).run E.P w = .ok v' w ∧ VR i v v' by
        obtain ⟨v', h1, h2⟩ := hs
        exact Sim.ofPure hR h1 h2
      unfold binA at hu
      split at hu
      · rename_i k n
        unfold binI at hu
        split at hu
        · rename_i k' m
          cases hx
          cases hy
          refine ⟨v, ?_, ?_⟩
          · simp only [Sem.run_bind, eqGuard_other (a := .int k n) (b := .int k' m) (.inl (by simp)) (.inl (by simp)), Result.andThen_ok]
            exact binII_sim hu t w
          · unfold binII at hu
            have plainV : ∀ (f : Option Value), f = some v → (∀ u, f = some u → ∃ k n, u = .int k n ∨ ∃ b, u = .bool b) → VR i v v := by
              intro f hf hall
              obtain ⟨k, n, h | ⟨b, h⟩⟩ := hall v hf
              · subst h; exact .int _ _
              · subst h; exact .bool _
            refine plainV _ hu ?_
            intro u hu'
            split at hu'
            · split at hu'
              · cases hu'
              · simp only [shlA, intV_eq, Option.some.injEq] at hu'; exact ⟨_, _, .inl hu'.symm⟩
            · split at hu'
              · cases hu'
              · simp only [shrA, intK_eq, Option.some.injEq] at hu'; exact ⟨_, _, .inl hu'.symm⟩
            · cases hk : kindEq k k' with
              | false => rw [hk] at hu'; cases hu'
              | true =>
                rw [hk, cond_true] at hu'
                cases op <;> simp only [intBin, iAr, iCmp, iQuo, iRem, iNo, iAndNot, bits2, intV_eq, intK_eq, Option.some.injEq, reduceCtorEq] at hu' <;> first
                  | exact ⟨_, _, .inl hu'.symm⟩
                  | exact ⟨k, 0, .inr ⟨_, hu'.symm⟩⟩
                  | (cases hz : ieq m 0 with
                     | true => rw [hz] at hu'; cases hu'
                     | false => rw [hz] at hu'; cases hu'; exact ⟨_, _, .inl rfl⟩)
        · cases hu
      · rename_i n
        unfold binS at hu
        split at hu
        · rename_i m
          cases hx
          cases hy
          refine ⟨v, ?_, ?_⟩
          · simp only [Sem.run_bind, eqGuard_other (a := .string n) (b := .string m) (.inl (by simp)) (.inl (by simp)), Result.andThen_ok]
            exact strBin_sim hu t w
          · cases op <;> simp only [strBin, sAdd, sNo, Option.some.injEq, reduceCtorEq] at hu <;> first
              | (subst hu; exact .bool _)
              | (split at hu
                 · cases hu
                 · cases hu; exact .string _)
        · cases hu
      · rename_i hni hns
        unfold binOther at hu
        cases hnil : (isNilI a && isNilI b) with
        | true =>
          rw [hnil, cond_true] at hu
          simp only [Bool.and_eq_true] at hnil
          have ea : a = .nilIface := by cases a <;> first | rfl | (simp [isNilI] at hnil)
          have eb : b = .nilIface := by cases b <;> first | rfl | (simp [isNilI] at hnil)
          subst ea; subst eb
          cases hx
          cases hy
          cases hcc : (isConstO x || isConstO y) with
          | false => rw [hcc] at hu; cases hu
          | true =>
            rw [hcc, cond_true] at hu
            have hgd : ∀ o : BinOp, (eqGuard o t x y .nilIface .nilIface).run E.P w = .ok () w := fun o => eqGuard_nil o t x y hcc E.P w
            split at hu
            · rename_i ms _ _ _ hty
              cases hu
              refine ⟨_, ?_, .bool true⟩
              have he := equal_nilI (w := w) hT hty
              simp [hgd, binOp, he]
            · rename_i ms _ _ _ hty
              cases hu
              refine ⟨_, ?_, .bool false⟩
              have he := equal_nilI (w := w) hT hty
              simp [hgd, binOp, he]
            · cases hu
        | false =>
          rw [hnil, cond_false] at hu
          have eqb : ∀ neg : Bool, (op = .eql ∧ neg = false ∨ op = .neq ∧ neg = true) → eqBin E s op t x y a b neg = some v → ∃ v', (do eqGuard op t x y x' y'; binOp op t x' y' : Sem Value).run E.P w = .ok v' w ∧ VR i v v' := by
            intro neg hop he
            unfold eqBin at he
            split at he
            · rename_i r hr
              cases he
              unfold eqA at hr
              split at hr
              · cases hr
              · rename_i ti hti
                have heq := eqD_sim hT hti hR hx hy hr
                have hsh : (x' ≠ .nilIface ∨ y' ≠ .nilIface) ∧ ((∀ cs, x' ≠ .agg cs) ∨ ∀ cs, y' ≠ .agg cs) ∧ (∀ k n, x' ≠ .int k n) ∧ (∀ k n, x' ≠ .float k n) ∧ (∀ k n m, x' ≠ .complex k n m) ∧ (∀ n, x' ≠ .string n) := by
                  unfold eqD at hr
                  split at hr <;> first
                    | (cases hr; done)
                    | (cases hx <;> cases hy <;> simp; done)
                    | (cases hx <;> simp <;> (cases hy <;> simp); done)
                refine ⟨.bool (r != neg), ?_, .bool _⟩
                obtain ⟨g1, g2, g3, g4, g5, g6⟩ := hsh
                simp only [Sem.run_bind, eqGuard_other g1 g2, Result.andThen_ok]
                rcases hop with ⟨rfl, rfl⟩ | ⟨rfl, rfl⟩
                · cases x' <;> first
                    | exact absurd rfl (g3 _ _)
                    | exact absurd rfl (g4 _ _)
                    | exact absurd rfl (g5 _ _ _)
                    | exact absurd rfl (g6 _)
                    | simp [binOp, heq]
                · cases x' <;> first
                    | exact absurd rfl (g3 _ _)
                    | exact absurd rfl (g4 _ _)
                    | exact absurd rfl (g5 _ _ _)
                    | exact absurd rfl (g6 _)
                    | simp [binOp, heq]
            · exact ⟨v, pureBin_sim hx hy he⟩
          split at hu
          · exact eqb false (.inl ⟨rfl, rfl⟩) hu
          · exact eqb true (.inr ⟨rfl, rfl⟩) hu
          · exact ⟨v, pureBin_sim hx hy hu⟩
    · cases h
  · cases h

end
end Go.Ax
