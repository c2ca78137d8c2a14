/- The abstract machine's code and the model's, and its calls. -/
import Derived.Test.YtmfdkldjinlmnaaGreatDoorAxCall
import Derived.Below
import Derived.RangeFuncIn
import Derived.RangeFuncRecord
import Derived.RangeFuncLeaves
set_option linter.unusedVariables false
set_option linter.unusedSimpArgs false
namespace Go.Ax
open Go Go.RowKit

/-- The slots and what is deferred, as the machine's slots say. -/
structure AR (dl : List Deferred) (i : Io) (tm : Tm) (N : Nat) (a : Act) : Prop where
  tm : TmR i tm a.tmps
  size : N < a.tmps.size
  defers : a.defers = dl

variable {dl : List Deferred}
theorem AR.mono {i j : Io} {tm : Tm} {N : Nat} {a : Act} (h : AR dl i tm N a) (hle : Le i j) : AR dl j tm N a := ⟨h.tm.mono hle, h.size, h.defers⟩
theorem AR.put {i : Io} {tm tm' : Tm} {N : Nat} {a : Act} {dst : Option Tmp} {v v' : Value} (h : AR dl i tm N a) (hv : VR i v v') (hp : putA N tm dst v = some tm') : AR dl i tm' N (a.put dst v') :=
  ⟨h.tm.put h.size hv hp, by rw [put_size]; exact h.size, by rw [put_defers]; exact h.defers⟩

/-- What is to hold behind: of every world that the machine's state says. -/
def Then (dl : List Deferred) (i : Io) (s : AS) (w : World) (tm' : Tm) (s' : AS) (N : Nat) (K : Act → World → Prop) : Prop :=
  ∀ i' w' a', Rel i' s' w' → Fr i s w i' s' w' → AR dl i' tm' N a' → K a' w'

section
variable {E : Env} {i : Io} {s : AS} {w : World}

theorem Then.head {s1 s' : AS} {tm' : Tm} {N : Nat} {K : Act → World → Prop} {i1 : Io} {w1 : World} (h : Then dl i s w tm' s' N K) (hf : Fr i s w i1 s1 w1) : Then dl i1 s1 w1 tm' s' N K :=
  fun i' w' a' hr hf' ha => h i' w' a' hr (hf.trans hf') ha

theorem wanted_eq {ops : Array Oper} {o : Oper} {tm : Tm} {ts : Array Value} {b : Bool} (hm : TmR i tm ts) (h : wantedA ops.toList tm o = some b) : Region.wanted o (yielded ops ts) = b := by
  unfold wantedA at h
  unfold Region.wanted
  split at h
  · rename_i hg; cases h; rw [hg]
  · rename_i j want hg
    rw [hg]
    simp only
    split at h
    · rename_i o' ho'
      split at h
      · rename_i d hd
        have ho2 : ops[j]? = some o' := by rw [← Array.getElem?_toList]; exact ho'
        have hy : yielded ops ts j = match ts[d]? with
          | some (.bool b) => some b
          | _ => none := by
          unfold yielded
          rw [ho2]
          simp only [Option.bind_some, hd]
          rfl
        rw [hy]
        split at h
        · rename_i c hc
          cases h
          have := hm d _ hc
          rw [Array.getD_eq_getD_getElem?] at this
          cases hts : ts[d]? with
          | none => rw [hts] at this; cases this
          | some v =>
            rw [hts] at this
            simp only [Option.getD_some] at this
            cases this
            simp only
            cases c <;> cases want <;> rfl
        · rename_i v hnb hv
          cases h
          have := hm d _ hv
          rw [Array.getD_eq_getD_getElem?] at this
          cases hts : ts[d]? with
          | none => rfl
          | some u =>
            rw [hts] at this
            simp only [Option.getD_some] at this
            cases u <;> first | rfl | (cases this; exact absurd rfl (hnb _))
        · cases h
      · cases h
    · cases h

theorem runL_wp (hT : TyOk E) {call : CallF} (hC : CallOk E.P call) {N : Nat} {ops : Array Oper} {Q : Exit → Act → World → Prop} : ∀ (l : List Oper) {tm tm' : Tm} {i : Io} {s s' : AS} {w : World} {a : Act},
    runL E call N ops.toList l tm s = some (tm', s') → Rel i s w → Gl i → AR dl i tm N a → Then dl i s w tm' s' N (Q .normal) → wpList E.P ops Q l a w
  | [], tm, tm', i, s, s', w, a, h, hR, hg, ha, hK => by
    cases h
    exact hK i w a hR (.refl _ _ _) ha
  | o :: l, tm, tm', i, s, s', w, a, h, hR, hg, ha, hK => by
    have h' : (match wantedA ops.toList tm o with
      | none => none
      | some false => match putA N tm o.dst undef with
        | none => none
        | some tm' => runL E call N ops.toList l tm' s
      | some true => match execA o.op E call tm s with
        | none => none
        | some (v, s') => match putA N tm o.dst v with
          | none => none
          | some tm' => runL E call N ops.toList l tm' s') = some (tm', s') := h
    clear h
    unfold wpList
    split at h'
    · cases h'
    · rename_i hw
      rw [if_neg (by rw [wanted_eq ha.tm hw]; simp)]
      split at h'
      · cases h'
      · rename_i tm1 hp
        exact runL_wp hT hC l h' hR hg (ha.put (.undef i) hp) hK
    · rename_i hw
      rw [if_pos (wanted_eq ha.tm hw)]
      left
      split at h'
      · cases h'
      · rename_i v s1 hx
        split at h'
        · cases h'
        · rename_i tm1 hp
          refine execA_wp hT hC o hR hg (ha.tm.tr hg) hx (fun v' w' i' hv hR' hF => ?_)
          exact runL_wp hT hC l h' hR' (hg.mono hF.le) ((ha.mono hF.le).put hv hp) (hK.head hF)

/-- Drawn regions. -/
def DrawOk (E : Env) (call : CallF) : Prop :=
  ∀ (N : Nat) (ops : Array Oper) (tm tm' : Tm) (s s' : AS), drawnA E call N ops.toList tm s = some (tm', s') → regOk E.ty ops.toList = true →
    ∀ (dl : List Deferred) (i : Io) (w : World) (a : Act) (Q : Exit → Act → World → Prop) (id : Nat), Rel i s w → Gl i → AR dl i tm N a → Then dl i s w tm' s' N (Q .normal) → (Code.region id ops true).wp E.P Q a w

/-- All drawn regions of a code are in order. -/
noncomputable def codeOk (ty : T TI) : Code → Bool
  | .region _ ops true => regOk ty ops.toList
  | .seq a b => codeOk ty a && codeOk ty b
  | .cond _ a b => codeOk ty a && codeOk ty b
  | .block _ b => codeOk ty b
  | .loop b => codeOk ty b
  | _ => true

def exX : X → Exit
  | .nor => .normal
  | .exit j => .exit j
  | .ret => .ret

/-- Behind a round of a loop. -/
def LoopWp (P : Program) (c : Code) (Q : Exit → Act → World → Prop) (a : Act) (w : World) : Prop :=
  ∀ (b : Frame) (k : List Item) (cs : List Frame), ∃ e a' w', Q e a' w' ∧ Arrives P (lone (b.at a (.inLoop c :: k)) cs w) b k cs e a' w'

theorem loop_both {P : Program} {c : Code} {Q : Exit → Act → World → Prop} {a : Act} {w : World} (h : c.wp P (Exit.then (LoopWp P c Q) Q) a w) : (Code.loop c).wp P Q a w ∧ LoopWp P c Q a w := by
  have key : ∀ (b : Frame) (k : List Item) (cs : List Frame), ∃ e a' w', Q e a' w' ∧ Arrives P (lone (b.at a (.code c :: .inLoop c :: k)) cs w) b k cs e a' w' := by
    intro b k cs
    obtain ⟨e, a1, w1, hq, harr⟩ := h b (.inLoop c :: k) cs
    cases e with
    | normal =>
      obtain ⟨e2, a2, w2, hq2, harr2⟩ := hq b k cs
      exact ⟨e2, a2, w2, hq2, .of_steps harr harr2⟩
    | exit id => exact ⟨_, a1, w1, hq, .pass (x := .inLoop c) rfl (fun _ _ => .inl (by simp)) harr⟩
    | goto l => exact ⟨_, a1, w1, hq, .pass (x := .inLoop c) rfl (fun _ _ => .inl (by simp)) harr⟩
    | ret => exact ⟨_, a1, w1, hq, .pass (x := .inLoop c) rfl (fun _ _ => .inl (by simp)) harr⟩
    | panic ch => exact ⟨_, a1, w1, hq, .pass (x := .inLoop c) rfl (fun _ _ => .inl (by simp)) harr⟩
    | outgrown => exact ⟨_, a1, w1, hq, .pass (x := .inLoop c) rfl (fun _ _ => .inl (by simp)) harr⟩
  constructor
  · intro b k cs
    obtain ⟨e, a', w', hq, harr⟩ := key b k cs
    exact ⟨e, a', w', hq, .of_steps (.one step_loop) harr⟩
  · intro b k cs
    obtain ⟨e, a', w', hq, harr⟩ := key b k cs
    exact ⟨e, a', w', hq, .of_steps (.one step_inLoop) harr⟩

/-! ### Ranges over an iterator that has nothing to give -/
/-- What is deferred: blocks of the loops' own, with no call in them; n0: where the function began. -/
def DfOk (n0 : Nat) (i : Io) (s : AS) (w : World) (l : List Deferred) : Prop :=
  n0 ≤ w.heap.size ∧ l.Nodup ∧ ∀ d ∈ l, ∃ D, d = { target := .collected D, args := #[] } ∧ n0 ≤ D ∧ w.heap[D]? = some (.deferred (some [])) ∧ ∀ b t, i b = some (D, t) → s.h.get b = none

theorem DfOk.fr {n0 : Nat} {i i' : Io} {s s' : AS} {w w' : World} {l : List Deferred} (h : DfOk n0 i s w l) (hF : Fr i s w i' s' w') : DfOk n0 i' s' w' l := by
  refine ⟨Nat.le_trans h.1 hF.size, h.2.1, fun d hd => ?_⟩
  obtain ⟨D, h1, h2, h3, h4⟩ := h.2.2 d hd
  have hlt : D < w.heap.size := lt_of_some h3
  have hfx : ∀ b t, i b = some (D, t) → fixed (obA s b) = true := fun b t e => by
    unfold obA
    rw [h4 b t e]
    rfl
  refine ⟨D, h1, h2, ?_, fun b t e => ?_⟩
  · rw [hF.keep D hlt hfx]
    exact h3
  · rcases hF.new b D t e with e1 | e1 | ⟨b0, t0, e1, e2⟩
    · rw [hF.ro b _ e1 (hfx b t e1)]
      exact h4 b t e1
    · omega
    · rw [hfx b0 t0 e1] at e2; cases e2

/-- The world has grown, or blocks that nobody knows have turned. -/
theorem Rel.below {i : Io} {s : AS} {w w' : World} (h : Rel i s w) (hb : Below w.heap.size w w') : Rel i s w' ∧ Fr i s w i s w' := by
  have hd : ∀ b q t, i b = some (q, t) → s.h.get b ≠ none ∨ 1000 ≤ b → w'.heap[q]? = w.heap[q]? := fun b q t e g => hb.block q (h.dom b q t e g)
  refine ⟨⟨fun b o ho ha => ?_, h.inj, h.fresh, fun b c n z q t ho e => ?_, fun b q t e g => Nat.lt_of_lt_of_le (h.dom b q t e g) hb.size⟩,
    ⟨.refl i, fun _ _ _ e => .inl e, hb.os, hb.tape, hb.output, hb.size, fun q hq _ => hb.block q hq, fun _ _ _ _ => rfl, Nat.le_refl _, fun _ _ e => e, fun _ _ _ e => e, fun _ e => e⟩⟩
  · obtain ⟨q, t, e, hor⟩ := h.obj b o ho ha
    exact ⟨q, t, e, by rw [hd b q t e (.inl (by rw [ho]; simp))]; exact hor⟩
  · obtain ⟨l1, l2⟩ := h.lim b c n z q t ho e
    exact ⟨l1, fun cs e' fr hw => l2 cs e' fr (by rw [← hd b q t e (.inl (by rw [ho]; simp))]; exact hw)⟩

/-- Iterators that are known to come to nothing at an empty slice. -/
def BackOk (E : Env) : Prop :=
  ∀ g, E.back g = true → (∀ args w, (callFunc g args).run E.P w = .ok (.enter g args) w) ∧
    ∀ (l : Nat) (ad : Addr) (a : Option Addr) (c : Nat) (W : World), W.cell? ad = some (.slice a 0 c) →
      Calls E.P g #[.func (.yield l) #[] #[], .pointer (some ad)] W fun e W' => (∃ v, e = .returned v) ∧ Below W.heap.size W W'

theorem range_wp {E : Env} (hB : BackOk E) {f : Operand} {ps : Array Tmp} {assign body : Code} {Q : Exit → Act → World → Prop} {a : Act} {w : World} {g : FuncId} {ad : Addr} {a0 : Option Addr} {c : Nat}
    (hf : a.eval f = .func (.func g) #[] #[.pointer (some ad)]) (hb : E.back g = true) (hc : w.cell? ad = some (.slice a0 0 c))
    (hK : ∀ (w' : World) (D : Nat), Below w.heap.size w w' → w.heap.size ≤ D → w'.heap[D]? = some (.deferred (some [])) → Q .normal { a with defers := { target := .collected D, args := #[] } :: a.defers } w') :
    (Code.rangeFunc f ps assign body).wp E.P Q a w := by
  obtain ⟨hent, hcall⟩ := hB g hb
  refine (wpIn_wide (n := 1)).1 (wpIn_rangeFunc (F := Fence.wide) (fun fn _ => ?_))
  obtain ⟨rec, hrec⟩ : ∃ rec : Loop, rec = { state := .ready, pending := none, fn, tmps := a.tmps, params := ps, assign, body, defers := w.heap.size } := ⟨_, rfl⟩
  obtain ⟨W1, hW1⟩ : ∃ W1, (w.alloc (.deferred (some []))).alloc (.loop rec) = W1 := ⟨_, rfl⟩
  have hsz : W1.heap.size = w.heap.size + 2 := by rw [← hW1]; simp
  have hb1 : Below w.heap.size w W1 := by
    rw [← hW1]
    exact ((Below.refl _ w).alloc (Nat.le_refl _) _).alloc (by simp) _
  have hL1 : W1.heap[w.heap.size + 1]? = some (.loop rec) := by
    rw [← hW1]; have := World.alloc_heap_new (w.alloc (.deferred (some []))) (.loop rec); rwa [World.size_alloc] at this
  have hK1 : W1.heap[w.heap.size]? = some (.deferred (some [])) := by
    rw [← hW1]; exact (Below.heap_alloc _ _ _ (by simp)).trans (World.alloc_heap_new w _)
  have hc1 : W1.cell? ad = some (.slice a0 0 c) := by
    rw [← hc]
    exact hb1.cell (p := ad) (by
      rcases Nat.lt_or_ge ad.block w.heap.size with h | h
      · exact h
      · have h0 : w.heap[ad.block]? = none := Array.getElem?_eq_none h
        simp [World.cell?, h0] at hc)
  refine ⟨w.heap.size + 1, [{ target := .collected w.heap.size, args := #[] }], W1, { target := .fn (.func g) #[.pointer (some ad)], args := #[.func (.yield (w.heap.size + 1)) #[] #[]] }, W1, g,
    #[.func (.yield (w.heap.size + 1)) #[] #[]] ++ #[.pointer (some ad)], W1, ?_, ?_, fun _ _ => trivial, ?_, fun _ => Nat.le_refl _, ?_⟩
  · rw [← hW1, hrec]; exact run_enterLoop_outer _ _ _ _ _
  · simp only [resolve, hf]
    simp [go_sem]
  · simp [invoke, go_sem, hent]
  · refine callsIn_wide.2 (Calls.mono (hcall (w.heap.size + 1) ad a0 c W1 hc1) (fun e W2 he => ?_))
    obtain ⟨⟨v, rfl⟩, hb2⟩ := he
    have hL2 : W2.heap[w.heap.size + 1]? = some (.loop rec) := (hb2.block _ (by omega)).trans hL1
    have hK2 : W2.heap[w.heap.size]? = some (.deferred (some [])) := (hb2.block _ (by omega)).trans hK1
    refine ⟨none, W2.putObj (w.heap.size + 1) (.loop { rec with state := .exhausted }), ?_, ?_⟩
    · rw [run_endLoop hL2 (by rw [hrec]; simp), hrec]
    · refine hK _ w.heap.size ?_ (Nat.le_refl _) ?_
      · have h2 : Below w.heap.size w W2 := hb1.trans (hb2.mono (by omega))
        refine ⟨h2.os, h2.tape, h2.output, ?_, fun k hk => ?_⟩
        · show _ ≤ (W2.heap.setIfInBounds _ _).size
          simpa using h2.size
        · show (W2.heap.setIfInBounds _ _)[k]? = _
          rw [Array.getElem?_setIfInBounds, if_neg (by omega)]
          exact h2.block k hk
      · show (W2.heap.setIfInBounds _ _)[w.heap.size]? = _
        rw [Array.getElem?_setIfInBounds, if_neg (by omega)]
        exact hK2

/-- What is to hold behind a code: the deferred blocks may be more. -/
def ThenC (n0 : Nat) (i : Io) (s : AS) (w : World) (tm' : Tm) (s' : AS) (N : Nat) (K : Act → World → Prop) : Prop :=
  ∀ i' w' a' dl', Rel i' s' w' → Fr i s w i' s' w' → DfOk n0 i' s' w' dl' → AR dl' i' tm' N a' → K a' w'
theorem ThenC.plain {n0 : Nat} {i : Io} {s s' : AS} {w : World} {tm' : Tm} {N : Nat} {K : Act → World → Prop} (h : ThenC n0 i s w tm' s' N K) (hd : DfOk n0 i s w dl) : Then dl i s w tm' s' N K :=
  fun i' w' a' hR hF ha => h i' w' a' dl hR hF (hd.fr hF) ha
theorem ThenC.head {n0 : Nat} {i i1 : Io} {s s1 s' : AS} {w w1 : World} {tm' : Tm} {N : Nat} {K : Act → World → Prop} (h : ThenC n0 i s w tm' s' N K) (hF : Fr i s w i1 s1 w1) : ThenC n0 i1 s1 w1 tm' s' N K :=
  fun i' w' a' dl' hR hF' hd ha => h i' w' a' dl' hR (hF.trans hF') hd ha

theorem codeA_wp (hT : TyOk E) (hB : BackOk E) {call : CallF} (hC : CallOk E.P call) (hD : DrawOk E call) {N n0 : Nat} : ∀ (F : Nat),
    (∀ (c : Code) {tm tm' : Tm} {i : Io} {s s' : AS} {w : World} {a : Act} {dl : List Deferred} {x : X} {Q : Exit → Act → World → Prop}, codeA E call N F c tm s = some (x, tm', s') → codeOk E.ty c = true → Rel i s w → Gl i → DfOk n0 i s w dl → AR dl i tm N a →
      ThenC n0 i s w tm' s' N (Q (exX x)) → c.wp E.P Q a w) ∧
    (∀ (c : Code) {tm tm' : Tm} {i : Io} {s s' : AS} {w : World} {a : Act} {dl : List Deferred} {x : X} {Q : Exit → Act → World → Prop}, codeA E call N F (.loop c) tm s = some (x, tm', s') → codeOk E.ty c = true → Rel i s w → Gl i → DfOk n0 i s w dl → AR dl i tm N a →
      ThenC n0 i s w tm' s' N (Q (exX x)) → LoopWp E.P c Q a w)
  | 0 => ⟨fun c _ _ _ _ _ _ _ _ _ _ h => (by cases h), fun c _ _ _ _ _ _ _ _ _ _ h => (by cases h)⟩
  | F + 1 => by
    obtain ⟨ih1, ih2⟩ := codeA_wp hT hB hC hD (N := N) (n0 := n0) F
    have hloop : ∀ (c : Code) {tm tm' : Tm} {i : Io} {s s' : AS} {w : World} {a : Act} {dl : List Deferred} {x : X} {Q : Exit → Act → World → Prop}, codeA E call N (F + 1) (.loop c) tm s = some (x, tm', s') → codeOk E.ty c = true → Rel i s w → Gl i → DfOk n0 i s w dl → AR dl i tm N a →
        ThenC n0 i s w tm' s' N (Q (exX x)) → (Code.loop c).wp E.P Q a w ∧ LoopWp E.P c Q a w := by
      intro c tm tm' i s s' w a dl x Q h hok hR hg hd ha hK
      refine loop_both ?_
      have h' : cLoop c E call N (codeA E call N F) tm s = some (x, tm', s') := h
      unfold cLoop at h'
      split at h'
      · cases h'
      · rename_i y tm1 s1 hb
        refine ih1 c hb hok hR hg hd ha (fun i1 w1 a1 dl1 hR1 hF1 hd1 ha1 => ?_)
        cases y with
        | nor => exact ih2 c h' hok hR1 (hg.mono hF1.le) hd1 ha1 (hK.head hF1)
        | exit j => cases h'; exact hK i1 w1 a1 dl1 hR1 hF1 hd1 ha1
        | ret => cases h'; exact hK i1 w1 a1 dl1 hR1 hF1 hd1 ha1
    refine ⟨?_, fun c _ _ _ _ _ _ _ _ _ _ h hok hR hg hd ha hK => (hloop c h hok hR hg hd ha hK).2⟩
    intro c tm tm' i s s' w a dl x Q h hok hR hg hd ha hK
    have h' : stepC c E call N (codeA E call N F) tm s = some (x, tm', s') := h
    cases c with
    | skip => cases h'; exact wp_skip (hK i w a dl hR (.refl _ _ _) hd ha)
    | ret => cases h'; exact wp_ret (hK i w a dl hR (.refl _ _ _) hd ha)
    | exit id => cases h'; exact wp_exit (hK i w a dl hR (.refl _ _ _) hd ha)
    | loop c => exact (hloop c h hok hR hg hd ha hK).1
    | region id ops draw =>
      have h2 : cRegion ops draw E call N (codeA E call N F) tm s = some (x, tm', s') := h'
      unfold cRegion at h2
      cases draw with
      | false =>
        simp only [cond_false] at h2
        split at h2
        · cases h2
        · rename_i tm1 s1 hr
          cases h2
          exact wp_region_list (runL_wp hT hC _ hr hR hg ha (hK.plain hd))
      | true =>
        simp only [cond_true] at h2
        split at h2
        · cases h2
        · rename_i tm1 s1 hr
          cases h2
          exact hD N ops tm _ s _ hr hok dl i w a Q id hR hg ha (hK.plain hd)
    | seq c1 c2 =>
      have h2 : cSeq c1 c2 E call N (codeA E call N F) tm s = some (x, tm', s') := h'
      unfold cSeq at h2
      simp only [codeOk, Bool.and_eq_true] at hok
      split at h2
      · cases h2
      · rename_i y tm1 s1 hb
        refine wp_seq (ih1 c1 hb hok.1 hR hg hd ha (fun i1 w1 a1 dl1 hR1 hF1 hd1 ha1 => ?_))
        cases y with
        | nor => exact ih1 c2 h2 hok.2 hR1 (hg.mono hF1.le) hd1 ha1 (hK.head hF1)
        | exit j => cases h2; exact hK i1 w1 a1 dl1 hR1 hF1 hd1 ha1
        | ret => cases h2; exact hK i1 w1 a1 dl1 hR1 hF1 hd1 ha1
    | cond y c1 c2 =>
      have h2 : cCond y c1 c2 E call N (codeA E call N F) tm s = some (x, tm', s') := h'
      unfold cCond at h2
      simp only [codeOk, Bool.and_eq_true] at hok
      split at h2
      · rename_i t ht
        have hv := (ha.tm.tr hg) y _ ht
        generalize hgy : a.eval y = y' at hv
        cases hv
        refine wp_cond hgy ?_
        cases t with
        | true => exact ih1 c1 h2 hok.1 hR hg hd ha hK
        | false => exact ih1 c2 h2 hok.2 hR hg hd ha hK
      · cases h2
    | block id c =>
      have h2 : cBlock id c E call N (codeA E call N F) tm s = some (x, tm', s') := h'
      unfold cBlock at h2
      split at h2
      · cases h2
      · rename_i y tm1 s1 hb
        refine wp_block (ih1 c hb hok hR hg hd ha (fun i1 w1 a1 dl1 hR1 hF1 hd1 ha1 => ?_))
        cases y with
        | nor => cases h2; exact hK i1 w1 a1 dl1 hR1 hF1 hd1 ha1
        | ret => cases h2; exact hK i1 w1 a1 dl1 hR1 hF1 hd1 ha1
        | exit j =>
          simp only at h2
          show Exit.inBlock id Q (.exit j) a1 w1
          unfold Exit.inBlock
          simp only
          cases hj : Nat.beq j id with
          | true =>
            rw [hj] at h2
            cases h2
            rw [if_pos (by simpa using hj)]
            exact hK i1 w1 a1 dl1 hR1 hF1 hd1 ha1
          | false =>
            rw [hj] at h2
            cases h2
            rw [if_neg (fun e => by subst e; rw [Nat.beq_refl] at hj; cases hj)]
            exact hK i1 w1 a1 dl1 hR1 hF1 hd1 ha1
    | rangeFunc f ps assign body =>
      have h2 : cRange f E call N (codeA E call N F) tm s = some (x, tm', s') := h'
      unfold cRange at h2
      split at h2
      · rename_i g p hf
        cases hbk : E.back g with
        | false => rw [hbk] at h2; cases h2
        | true =>
          rw [hbk, cond_true] at h2
          split at h2
          · rename_i a0 c0 hrd
            cases h2
            have hv := (ha.tm.tr hg) f _ hf
            generalize hgf : a.eval f = f' at hv
            cases hv with | @func _ fa fa' fc fc' v1 v2 =>
            cases v1
            cases v2 with | @cons _ u _ l v3 v4 =>
            cases v4
            cases v3 with | @ptr b o q t hi =>
            obtain ⟨v', g1, g2⟩ := hR.rd hrd hi
            have hc : ∃ a1 c1, v' = .slice a1 0 c1 := by cases g2 <;> exact ⟨_, _, rfl⟩
            obtain ⟨a1, c1, rfl⟩ := hc
            refine range_wp hB hgf hbk g1 (fun w' D hb hD hw => ?_)
            obtain ⟨hR', hF'⟩ := hR.below hb
            have hno : ∀ b t, i b = some (D, t) → s.h.get b = none := fun b t e => by
              cases hg : s.h.get b with
              | none => rfl
              | some o =>
                have := hR.dom b D t e (.inl (by rw [hg]; simp))
                omega
            refine hK i w' _ ({ target := .collected D, args := #[] } :: dl) hR' hF' ⟨Nat.le_trans hd.1 hb.size, ?_, fun d hm => ?_⟩ ⟨ha.tm, ha.size, by rw [← ha.defers]⟩
            · refine List.nodup_cons.2 ⟨fun hm => ?_, hd.2.1⟩
              obtain ⟨D', e1, _, e3, _⟩ := hd.2.2 _ hm
              have : D = D' := by injection e1 with e1; injection e1
              subst this
              have := lt_of_some e3
              omega
            · rcases List.mem_cons.1 hm with rfl | hm
              · exact ⟨D, rfl, Nat.le_trans hd.1 hD, hw, hno⟩
              · exact (hd.fr hF').2.2 d hm
          · cases h2
      · cases h2
    | _ => cases h'

end
end Go.Ax
