/- The abstract machine's code and the model's, and its calls. -/
import Derived.Test.YtcgpmbjoobilcaaGreatDoorAxC
import Derived.Below
import Derived.RangeFuncIn
import Derived.RangeFuncRecord
import Derived.RangeFuncLeaves
set_option linter.unusedSimpArgs false
set_option linter.unusedVariables false
namespace Go.Ax
open Go Go.RowKit
structure AR (dl : List Deferred) (i : Io) (tm : Tm) (N : Nat) (a : Act) : Prop where
 tm : TmR i tm a.tmps
 size : N < a.tmps.size
 defers : a.defers = dl
variable {dl : List Deferred}
theorem AR.mono {i j : Io} {tm : Tm} {N : Nat} {a : Act} (h : AR dl i tm N a) (hle : Le i j) : AR dl j tm N a := ⟨h.tm.mono hle, h.size, h.defers⟩
theorem AR.put {i : Io} {tm tm' : Tm} {N : Nat} {a : Act} {dst : Option Tmp} {v v' : Value} (h : AR dl i tm N a) (hv : VR i v v') (hp : putA N tm dst v = some tm') : AR dl i tm' N (a.put dst v') :=
 ⟨h.tm.put h.size hv hp, by rw [put_size]; exact h.size, by rw [put_defers]; exact h.defers⟩
def Then (dl : List Deferred) (i : Io) (s : AS) (w : World) (tm' : Tm) (s' : AS) (N : Nat) (K : Act → World → Prop) : Prop :=
 ∀ i' w' a', Rel i' s' w' → Fr i s w i' s' w' → AR dl i' tm' N a' → K a' w'
section
variable {E : Env} {i : Io} {s : AS} {w : World}
theorem Then.head {s1 s' : AS} {tm' : Tm} {N : Nat} {K : Act → World → Prop} {i1 : Io} {w1 : World} (h : Then dl i s w tm' s' N K) (hf : Fr i s w i1 s1 w1) : Then dl i1 s1 w1 tm' s' N K :=
 fun i' w' a' hr hf' ha => h i' w' a' hr (hf.trans hf') ha
theorem wanted_eq {ops : Array Oper} {o : Oper} {tm : Tm} {ts : Array Value} {b : Bool} (hm : TmR i tm ts) (h : wantedA ops.toList tm o = some b) : Region.wanted o (yielded ops ts) = b := by
 unfold wantedA at h
 unfold Region.wanted
 split at h
 ·rename_i hg; cases h; rw [hg]
 ·rename_i j want hg
  rw [hg]
  simp only
  split at h
  ·rename_i o' ho'
   split at h
   ·rename_i d hd
    have ho2 : ops[j]? = some o' := by rw [← Array.getElem?_toList]; exact ho'
    have hy : yielded ops ts j = match ts[d]? with
     | some (.bool b) => some b
     | _ => none := by
     unfold yielded
     rw [ho2]
     simp only [Option.bind_some, hd]
     rfl
    rw [hy]
    split at h
    ·rename_i c hc
     cases h
     have := hm d _ hc
     rw [Array.getD_eq_getD_getElem?] at this
     cases hts : ts[d]? with
     | none => rw [hts] at this; cases this
     | some v =>
      rw [hts] at this
      simp only [Option.getD_some] at this
      cases this
      simp only
      cases c <;> cases want <;> rfl
    ·rename_i v hnb hv
     cases h
     have := hm d _ hv
     rw [Array.getD_eq_getD_getElem?] at this
     cases hts : ts[d]? with
     | none => rfl
     | some u =>
      rw [hts] at this
      simp only [Option.getD_some] at this
      cases u <;> first | rfl | (cases this; exact absurd rfl (hnb _))
    ·cases h
   ·cases h
  ·cases h
theorem runL_wp (hT : TyOk E) {call : CallF} (hC : CallOk E.P call) {N : Nat} {ops : Array Oper} {Q : Exit → Act → World → Prop} : ∀ (l : List Oper) {tm tm' : Tm} {i : Io} {s s' : AS} {w : World} {a : Act},
  runL E call N ops.toList l tm s = some (tm', s') → Rel i s w → Gl i → AR dl i tm N a → Then dl i s w tm' s' N (Q .normal) → wpList E.P ops Q l a w
 | [], tm, tm', i, s, s', w, a, h, hR, hg, ha, hK => by
  cases h
  exact hK i w a hR (.refl _ _ _) ha
 | o :: l, tm, tm', i, s, s', w, a, h, hR, hg, ha, hK => by
  have h' : (match wantedA ops.toList tm o with
   | none => none
   | some false => match putA N tm o.dst undef with
    | none => none
    | some tm' => runL E call N ops.toList l tm' s
   | some true => match execA o.op E call tm s with
    | none => none
    | some (v, s') => match putA N tm o.dst v with
     | none => none
     | some tm' => runL E call N ops.toList l tm' s') = some (tm', s') := h
  clear h
  unfold wpList
  split at h'
  ·cases h'
  ·rename_i hw
   rw [if_neg (by rw [wanted_eq ha.tm hw]; simp)]
   split at h'
   ·cases h'
   ·rename_i tm1 hp
    exact runL_wp hT hC l h' hR hg (ha.put (.undef i) hp) hK
  ·rename_i hw
   rw [if_pos (wanted_eq ha.tm hw)]
   left
   split at h'
   ·cases h'
   ·rename_i v s1 hx
    split at h'
    ·cases h'
    ·rename_i tm1 hp
     refine execA_wp hT hC o hR hg (ha.tm.tr hg) hx (fun v' w' i' hv hR' hF => ?_)
     exact runL_wp hT hC l h' hR' (hg.mono hF.le) ((ha.mono hF.le).put hv hp) (hK.head hF)
def DrawOk (E : Env) (call : CallF) : Prop :=
 ∀ (N : Nat) (ops : Array Oper) (tm tm' : Tm) (s s' : AS), drawnA E call N ops.toList tm s = some (tm', s') → regOk E.ty ops.toList = true →
  ∀ (dl : List Deferred) (i : Io) (w : World) (a : Act) (Q : Exit → Act → World → Prop) (id : Nat), Rel i s w → Gl i → AR dl i tm N a → Then dl i s w tm' s' N (Q .normal) → (Code.region id ops true).wp E.P Q a w
noncomputable def codeOk (ty : T TI) : Code → Bool
 | .region _ ops true => regOk ty ops.toList
 | .seq a b => codeOk ty a && codeOk ty b
 | .cond _ a b => codeOk ty a && codeOk ty b
 | .block _ b => codeOk ty b
 | .loop b => codeOk ty b
 | _ => true
def exX : X → Exit
 | .nor => .normal
 | .exit j => .exit j
 | .ret => .ret
def LoopWp (P : Program) (c : Code) (Q : Exit → Act → World → Prop) (a : Act) (w : World) : Prop :=
 ∀ (b : Frame) (k : List Item) (cs : List Frame), ∃ e a' w', Q e a' w' ∧ Arrives P (lone (b.at a (.inLoop c :: k)) cs w) b k cs e a' w'
theorem loop_both {P : Program} {c : Code} {Q : Exit → Act → World → Prop} {a : Act} {w : World} (h : c.wp P (Exit.then (LoopWp P c Q) Q) a w) : (Code.loop c).wp P Q a w ∧ LoopWp P c Q a w := by
 have key : ∀ (b : Frame) (k : List Item) (cs : List Frame), ∃ e a' w', Q e a' w' ∧ Arrives P (lone (b.at a (.code c :: .inLoop c :: k)) cs w) b k cs e a' w' := by
  intro b k cs
  obtain ⟨e, a1, w1, hq, harr⟩ := h b (.inLoop c :: k) cs
  cases e with
  | normal =>
   obtain ⟨e2, a2, w2, hq2, harr2⟩ := hq b k cs
   exact ⟨e2, a2, w2, hq2, .of_steps harr harr2⟩
  | exit id => exact ⟨_, a1, w1, hq, .pass (x := .inLoop c) rfl (fun _ _ => .inl (by simp)) harr⟩
  | goto l => exact ⟨_, a1, w1, hq, .pass (x := .inLoop c) rfl (fun _ _ => .inl (by simp)) harr⟩
  | ret => exact ⟨_, a1, w1, hq, .pass (x := .inLoop c) rfl (fun _ _ => .inl (by simp)) harr⟩
  | panic ch => exact ⟨_, a1, w1, hq, .pass (x := .inLoop c) rfl (fun _ _ => .inl (by simp)) harr⟩
  | outgrown => exact ⟨_, a1, w1, hq, .pass (x := .inLoop c) rfl (fun _ _ => .inl (by simp)) harr⟩
 constructor
 ·intro b k cs
  obtain ⟨e, a', w', hq, harr⟩ := key b k cs
  exact ⟨e, a', w', hq, .of_steps (.one step_loop) harr⟩
 ·intro b k cs
  obtain ⟨e, a', w', hq, harr⟩ := key b k cs
  exact ⟨e, a', w', hq, .of_steps (.one step_inLoop) harr⟩
def DfOk (n0 : Nat) (i : Io) (s : AS) (w : World) (l : List Deferred) : Prop :=
 n0 ≤ w.heap.size ∧ l.Nodup ∧ ∀ d ∈ l, ∃ D, d = { target := .collected D, args := #[] } ∧ n0 ≤ D ∧ w.heap[D]? = some (.deferred (some [])) ∧ ∀ b t, i b = some (D, t) → s.h.get b = none
theorem DfOk.fr {n0 : Nat} {i i' : Io} {s s' : AS} {w w' : World} {l : List Deferred} (h : DfOk n0 i s w l) (hF : Fr i s w i' s' w') : DfOk n0 i' s' w' l := by
 refine ⟨Nat.le_trans h.1 hF.size, h.2.1, fun d hd => ?_⟩
 obtain ⟨D, h1, h2, h3, h4⟩ := h.2.2 d hd
 have hlt : D < w.heap.size := lt_of_some h3
 have hfx : ∀ b t, i b = some (D, t) → fixed (obA s b) = true := fun b t e => by
  unfold obA
  rw [h4 b t e]
  rfl
 refine ⟨D, h1, h2, ?_, fun b t e => ?_⟩
 ·rw [hF.keep D hlt hfx]
  exact h3
 ·rcases hF.new b D t e with e1 | e1 | ⟨b0, t0, e1, e2⟩
  ·rw [hF.ro b _ e1 (hfx b t e1)]
   exact h4 b t e1
  ·omega
  ·rw [hfx b0 t0 e1] at e2; cases e2
theorem Rel.below {i : Io} {s : AS} {w w' : World} (h : Rel i s w) (hb : Below w.heap.size w w') : Rel i s w' ∧ Fr i s w i s w' := by
 have hd : ∀ b q t, i b = some (q, t) → s.h.get b ≠ none ∨ 1000 ≤ b → w'.heap[q]? = w.heap[q]? := fun b q t e g => hb.block q (h.dom b q t e g)
 refine ⟨⟨fun b o ho ha => ?_, h.inj, h.fresh, fun b c n z q t ho e => ?_, fun b q t e g => Nat.lt_of_lt_of_le (h.dom b q t e g) hb.size⟩,
  ⟨.refl i, fun _ _ _ e => .inl e, hb.os, hb.tape, hb.output, hb.size, fun q hq _ => hb.block q hq, fun _ _ _ _ => rfl, Nat.le_refl _, fun _ _ e => e, fun _ _ _ e => e, fun _ e => e⟩⟩
 ·obtain ⟨q, t, e, hor⟩ := h.obj b o ho ha
  exact ⟨q, t, e, by rw [hd b q t e (.inl (by rw [ho]; simp))]; exact hor⟩
 ·obtain ⟨l1, l2⟩ := h.lim b c n z q t ho e
  exact ⟨l1, fun cs e' fr hw => l2 cs e' fr (by rw [← hd b q t e (.inl (by rw [ho]; simp))]; exact hw)⟩
def BackOk (E : Env) : Prop :=
 ∀ g, E.back g = true → (∀ args w, (callFunc g args).run E.P w = .ok (.enter g args) w) ∧
  ∀ (l : Nat) (ad : Addr) (a : Option Addr) (c : Nat) (W : World), W.cell? ad = some (.slice a 0 c) →
   Calls E.P g #[.func (.yield l) #[] #[], .pointer (some ad)] W fun e W' => (∃ v, e = .returned v) ∧ Below W.heap.size W W'
theorem range_wp {E : Env} (hB : BackOk E) {f : Operand} {ps : Array Tmp} {assign body : Code} {Q : Exit → Act → World → Prop} {a : Act} {w : World} {g : FuncId} {ad : Addr} {a0 : Option Addr} {c : Nat}
  (hf : a.eval f = .func (.func g) #[] #[.pointer (some ad)]) (hb : E.back g = true) (hc : w.cell? ad = some (.slice a0 0 c))
  (hK : ∀ (w' : World) (D : Nat), Below w.heap.size w w' → w.heap.size ≤ D → w'.heap[D]? = some (.deferred (some [])) → Q .normal { a with defers := { target := .collected D, args := #[] } :: a.defers } w') :
  (Code.rangeFunc f ps assign body).wp E.P Q a w := by
 obtain ⟨hent, hcall⟩ := hB g hb
 refine (wpIn_wide (n := 1)).1 (wpIn_rangeFunc (F := Fence.wide) (fun fn _ => ?_))
 obtain ⟨rec, hrec⟩ : ∃ rec : Loop, rec = { state := .ready, pending := none, fn, tmps := a.tmps, params := ps, assign, body, defers := w.heap.size } := ⟨_, rfl⟩
 obtain ⟨W1, hW1⟩ : ∃ W1, (w.alloc (.deferred (some []))).alloc (.loop rec) = W1 := ⟨_, rfl⟩
 have hsz : W1.heap.size = w.heap.size + 2 := by rw [← hW1]; simp
 have hb1 : Below w.heap.size w W1 := by
  rw [← hW1]
  exact ((Below.refl _ w).alloc (Nat.le_refl _) _).alloc (by simp) _
 have hL1 : W1.heap[w.heap.size + 1]? = some (.loop rec) := by
  rw [← hW1]; have := World.alloc_heap_new (w.alloc (.deferred (some []))) (.loop rec); rwa [World.size_alloc] at this
 have hK1 : W1.heap[w.heap.size]? = some (.deferred (some [])) := by
  rw [← hW1]; exact (Below.heap_alloc _ _ _ (by simp)).trans (World.alloc_heap_new w _)
 have hc1 : W1.cell? ad = some (.slice a0 0 c) := by
  rw [← hc]
  exact hb1.cell (p := ad) (by
   rcases Nat.lt_or_ge ad.block w.heap.size with h | h
   ·exact h
   ·have h0 : w.heap[ad.block]? = none := Array.getElem?_eq_none h
    simp [World.cell?, h0] at hc)
 refine ⟨w.heap.size + 1, [{ target := .collected w.heap.size, args := #[] }], W1, { target := .fn (.func g) #[.pointer (some ad)], args := #[.func (.yield (w.heap.size + 1)) #[] #[]] }, W1, g,
  #[.func (.yield (w.heap.size + 1)) #[] #[]] ++ #[.pointer (some ad)], W1, ?_, ?_, fun _ _ => trivial, ?_, fun _ => Nat.le_refl _, ?_⟩
 ·rw [← hW1, hrec]; exact run_enterLoop_outer _ _ _ _ _
 ·simp only [resolve, hf]
  simp [go_sem]
 ·simp [invoke, go_sem, hent]
 ·refine callsIn_wide.2 (Calls.mono (hcall (w.heap.size + 1) ad a0 c W1 hc1) (fun e W2 he => ?_))
  obtain ⟨⟨v, rfl⟩, hb2⟩ := he
  have hL2 : W2.heap[w.heap.size + 1]? = some (.loop rec) := (hb2.block _ (by omega)).trans hL1
  have hK2 : W2.heap[w.heap.size]? = some (.deferred (some [])) := (hb2.block _ (by omega)).trans hK1
  refine ⟨none, W2.putObj (w.heap.size + 1) (.loop { rec with state := .exhausted }), ?_, ?_⟩
  ·rw [run_endLoop hL2 (by rw [hrec]; simp), hrec]
  ·refine hK _ w.heap.size ?_ (Nat.le_refl _) ?_
   ·have h2 : Below w.heap.size w W2 := hb1.trans (hb2.mono (by omega))
    refine ⟨h2.os, h2.tape, h2.output, ?_, fun k hk => ?_⟩
    ·show _ ≤ (W2.heap.setIfInBounds _ _).size
     simpa using h2.size
    ·show (W2.heap.setIfInBounds _ _)[k]? = _
     rw [Array.getElem?_setIfInBounds, if_neg (by omega)]
     exact h2.block k hk
   ·show (W2.heap.setIfInBounds _ _)[w.heap.size]? = _
    rw [Array.getElem?_setIfInBounds, if_neg (by omega)]
    exact hK2
def ThenC (n0 : Nat) (i : Io) (s : AS) (w : World) (tm' : Tm) (s' : AS) (N : Nat) (K : Act → World → Prop) : Prop :=
 ∀ i' w' a' dl', Rel i' s' w' → Fr i s w i' s' w' → DfOk n0 i' s' w' dl' → AR dl' i' tm' N a' → K a' w'
theorem ThenC.plain {n0 : Nat} {i : Io} {s s' : AS} {w : World} {tm' : Tm} {N : Nat} {K : Act → World → Prop} (h : ThenC n0 i s w tm' s' N K) (hd : DfOk n0 i s w dl) : Then dl i s w tm' s' N K :=
 fun i' w' a' hR hF ha => h i' w' a' dl hR hF (hd.fr hF) ha
theorem ThenC.head {n0 : Nat} {i i1 : Io} {s s1 s' : AS} {w w1 : World} {tm' : Tm} {N : Nat} {K : Act → World → Prop} (h : ThenC n0 i s w tm' s' N K) (hF : Fr i s w i1 s1 w1) : ThenC n0 i1 s1 w1 tm' s' N K :=
 fun i' w' a' dl' hR hF' hd ha => h i' w' a' dl' hR (hF.trans hF') hd ha
theorem codeA_wp (hT : TyOk E) (hB : BackOk E) {call : CallF} (hC : CallOk E.P call) (hD : DrawOk E call) {N n0 : Nat} : ∀ (F : Nat),
  (∀ (c : Code) {tm tm' : Tm} {i : Io} {s s' : AS} {w : World} {a : Act} {dl : List Deferred} {x : X} {Q : Exit → Act → World → Prop}, codeA E call N F c tm s = some (x, tm', s') → codeOk E.ty c = true → Rel i s w → Gl i → DfOk n0 i s w dl → AR dl i tm N a →
   ThenC n0 i s w tm' s' N (Q (exX x)) → c.wp E.P Q a w) ∧
  (∀ (c : Code) {tm tm' : Tm} {i : Io} {s s' : AS} {w : World} {a : Act} {dl : List Deferred} {x : X} {Q : Exit → Act → World → Prop}, codeA E call N F (.loop c) tm s = some (x, tm', s') → codeOk E.ty c = true → Rel i s w → Gl i → DfOk n0 i s w dl → AR dl i tm N a →
   ThenC n0 i s w tm' s' N (Q (exX x)) → LoopWp E.P c Q a w)
 | 0 => ⟨fun c _ _ _ _ _ _ _ _ _ _ h => (by cases h), fun c _ _ _ _ _ _ _ _ _ _ h => (by cases h)⟩
 | F + 1 => by
  obtain ⟨ih1, ih2⟩ := codeA_wp hT hB hC hD (N := N) (n0 := n0) F
  have hloop : ∀ (c : Code) {tm tm' : Tm} {i : Io} {s s' : AS} {w : World} {a : Act} {dl : List Deferred} {x : X} {Q : Exit → Act → World → Prop}, codeA E call N (F + 1) (.loop c) tm s = some (x, tm', s') → codeOk E.ty c = true → Rel i s w → Gl i → DfOk n0 i s w dl → AR dl i tm N a →
    ThenC n0 i s w tm' s' N (Q (exX x)) → (Code.loop c).wp E.P Q a w ∧ LoopWp E.P c Q a w := by
   intro c tm tm' i s s' w a dl x Q h hok hR hg hd ha hK
   refine loop_both ?_
   have h' : cLoop c E call N (codeA E call N F) tm s = some (x, tm', s') := h
   unfold cLoop at h'
   split at h'
   ·cases h'
   ·rename_i y tm1 s1 hb
    refine ih1 c hb hok hR hg hd ha (fun i1 w1 a1 dl1 hR1 hF1 hd1 ha1 => ?_)
    cases y with
    | nor => exact ih2 c h' hok hR1 (hg.mono hF1.le) hd1 ha1 (hK.head hF1)
    | exit j => cases h'; exact hK i1 w1 a1 dl1 hR1 hF1 hd1 ha1
    | ret => cases h'; exact hK i1 w1 a1 dl1 hR1 hF1 hd1 ha1
  refine ⟨?_, fun c _ _ _ _ _ _ _ _ _ _ h hok hR hg hd ha hK => (hloop c h hok hR hg hd ha hK).2⟩
  intro c tm tm' i s s' w a dl x Q h hok hR hg hd ha hK
  have h' : stepC c E call N (codeA E call N F) tm s = some (x, tm', s') := h
  cases c with
  | skip => cases h'; exact wp_skip (hK i w a dl hR (.refl _ _ _) hd ha)
  | ret => cases h'; exact wp_ret (hK i w a dl hR (.refl _ _ _) hd ha)
  | exit id => cases h'; exact wp_exit (hK i w a dl hR (.refl _ _ _) hd ha)
  | loop c => exact (hloop c h hok hR hg hd ha hK).1
  | region id ops draw =>
   have h2 : cRegion ops draw E call N (codeA E call N F) tm s = some (x, tm', s') := h'
   unfold cRegion at h2
   cases draw with
   | false =>
    simp only [cond_false] at h2
    split at h2
    ·cases h2
    ·rename_i tm1 s1 hr
     cases h2
     exact wp_region_list (runL_wp hT hC _ hr hR hg ha (hK.plain hd))
   | true =>
    simp only [cond_true] at h2
    split at h2
    ·cases h2
    ·rename_i tm1 s1 hr
     cases h2
     exact hD N ops tm _ s _ hr hok dl i w a Q id hR hg ha (hK.plain hd)
  | seq c1 c2 =>
   have h2 : cSeq c1 c2 E call N (codeA E call N F) tm s = some (x, tm', s') := h'
   unfold cSeq at h2
   simp only [codeOk, Bool.and_eq_true] at hok
   split at h2
   ·cases h2
   ·rename_i y tm1 s1 hb
    refine wp_seq (ih1 c1 hb hok.1 hR hg hd ha (fun i1 w1 a1 dl1 hR1 hF1 hd1 ha1 => ?_))
    cases y with
    | nor => exact ih1 c2 h2 hok.2 hR1 (hg.mono hF1.le) hd1 ha1 (hK.head hF1)
    | exit j => cases h2; exact hK i1 w1 a1 dl1 hR1 hF1 hd1 ha1
    | ret => cases h2; exact hK i1 w1 a1 dl1 hR1 hF1 hd1 ha1
  | cond y c1 c2 =>
   have h2 : cCond y c1 c2 E call N (codeA E call N F) tm s = some (x, tm', s') := h'
   unfold cCond at h2
   simp only [codeOk, Bool.and_eq_true] at hok
   split at h2
   ·rename_i t ht
    have hv := (ha.tm.tr hg) y _ ht
    generalize hgy : a.eval y = y' at hv
    cases hv
    refine wp_cond hgy ?_
    cases t with
    | true => exact ih1 c1 h2 hok.1 hR hg hd ha hK
    | false => exact ih1 c2 h2 hok.2 hR hg hd ha hK
   ·cases h2
  | block id c =>
   have h2 : cBlock id c E call N (codeA E call N F) tm s = some (x, tm', s') := h'
   unfold cBlock at h2
   split at h2
   ·cases h2
   ·rename_i y tm1 s1 hb
    refine wp_block (ih1 c hb hok hR hg hd ha (fun i1 w1 a1 dl1 hR1 hF1 hd1 ha1 => ?_))
    cases y with
    | nor => cases h2; exact hK i1 w1 a1 dl1 hR1 hF1 hd1 ha1
    | ret => cases h2; exact hK i1 w1 a1 dl1 hR1 hF1 hd1 ha1
    | exit j =>
     simp only at h2
     show Exit.inBlock id Q (.exit j) a1 w1
     unfold Exit.inBlock
     simp only
     cases hj : Nat.beq j id with
     | true =>
      rw [hj] at h2
      cases h2
      rw [if_pos (by simpa using hj)]
      exact hK i1 w1 a1 dl1 hR1 hF1 hd1 ha1
     | false =>
      rw [hj] at h2
      cases h2
      rw [if_neg (fun e => by subst e; rw [Nat.beq_refl] at hj; cases hj)]
      exact hK i1 w1 a1 dl1 hR1 hF1 hd1 ha1
  | rangeFunc f ps assign body =>
   have h2 : cRange f E call N (codeA E call N F) tm s = some (x, tm', s') := h'
   unfold cRange at h2
   split at h2
   ·rename_i g p hf
    cases hbk : E.back g with
    | false => rw [hbk] at h2; cases h2
    | true =>
     rw [hbk, cond_true] at h2
     split at h2
     ·rename_i a0 c0 hrd
      cases h2
      have hv := (ha.tm.tr hg) f _ hf
      generalize hgf : a.eval f = f' at hv
      cases hv with | @func _ fa fa' fc fc' v1 v2 =>
      cases v1
      cases v2 with | @cons _ u _ l v3 v4 =>
      cases v4
      cases v3 with | @ptr b o q t hi =>
      obtain ⟨v', g1, g2⟩ := hR.rd hrd hi
      have hc : ∃ a1 c1, v' = .slice a1 0 c1 := by cases g2 <;> exact ⟨_, _, rfl⟩
      obtain ⟨a1, c1, rfl⟩ := hc
      refine range_wp hB hgf hbk g1 (fun w' D hb hD hw => ?_)
      obtain ⟨hR', hF'⟩ := hR.below hb
      have hno : ∀ b t, i b = some (D, t) → s.h.get b = none := fun b t e => by
       cases hg : s.h.get b with
       | none => rfl
       | some o =>
        have := hR.dom b D t e (.inl (by rw [hg]; simp))
        omega
      refine hK i w' _ ({ target := .collected D, args := #[] } :: dl) hR' hF' ⟨Nat.le_trans hd.1 hb.size, ?_, fun d hm => ?_⟩ ⟨ha.tm, ha.size, by rw [← ha.defers]⟩
      ·refine List.nodup_cons.2 ⟨fun hm => ?_, hd.2.1⟩
       obtain ⟨D', e1, _, e3, _⟩ := hd.2.2 _ hm
       have : D = D' := by injection e1 with e1; injection e1
       subst this
       have := lt_of_some e3
       omega
      ·rcases List.mem_cons.1 hm with rfl | hm
       ·exact ⟨D, rfl, Nat.le_trans hd.1 hD, hw, hno⟩
       ·exact (hd.fr hF').2.2 d hm
     ·cases h2
   ·cases h2
  | _ => cases h'
end
end Go.Ax
/- The abstract machine's calls and the model's. -/
namespace Go.Ax
open Go Go.RowKit
structure FnOk (E : Env) : Prop where
 fn : ∀ f fn, E.fn.get f = some fn → E.P.funcs[f]? = some fn ∧ (fn.name == "runtime.NumGoroutine") = false ∧ ∀ c, fn.body = some c → codeOk E.ty c = true
def PrimOk (E : Env) : Prop :=
 ∀ f p, E.prim.get f = some p → ∀ args s v s', p args s = some (v, s') → ∀ i w args', Rel i s w → Gl i → VRs i args args' → FSim E.P f args' i s w v s'
section
variable {dl : List Deferred} {E : Env} {i : Io} {s : AS} {w : World}
def resOf (tmps : Array Value) : ResultVar → Sem Value
 | .tmp t => pure (tmps.getD t undef)
 | .cell a t => do loadVar t (← asAddr (tmps.getD a undef))
theorem res1_sim (hT : TyOk E) {tm : Tm} {ts : Array Value} (hR : Rel i s w) (hm : TmR i tm ts) (r : ResultVar) {v : Value} (h : (match r with
   | .tmp t => tm.get t
   | .cell a t => match E.ty.get t, tm.get a with
    | some i, some (.pointer (some p)) => bif isAggD i.desc then (match rdN s p.block p.off i.size with
     | some l => some (.agg ⟨l⟩)
     | none => none) else rd s p.block p.off
    | _, _ => none) = some v) : ∃ v', (resOf ts r).run E.P w = .ok v' w ∧ VR i v v' := by
 cases r with
 | tmp t => exact ⟨_, rfl, hm t v h⟩
 | cell a t =>
  simp only at h
  split at h
  ·rename_i ti p ht hp
   have hc := hm a _ hp
   unfold resOf
   generalize hg : ts.getD a undef = y at hc
   cases hc with
   | @ptr b o q t' hi =>
    have hA := run_isAgg hT ht w
    have hS := run_size hT ht w
    cases hagg : isAggD ti.desc with
    | true =>
     rw [hagg] at h hA
     simp only [cond_true] at h
     split at h
     ·rename_i l hl
      cases h
      obtain ⟨l', h1, h2, _⟩ := hR.rdN (P := E.P) hl hi
      refine ⟨.agg l'.toArray, ?_, .agg h2⟩
      show (do loadVar t (← asAddr (ts.getD a undef)) : Sem Value).run E.P w = _
      rw [hg]
      unfold loadVar
      simp [hA, hS, h1, asAddr]
     ·cases h
    | false =>
     rw [hagg] at h hA
     simp only [cond_false] at h
     obtain ⟨v', h1, h2⟩ := hR.rd h hi
     refine ⟨v', ?_, h2⟩
     show (do loadVar t (← asAddr (ts.getD a undef)) : Sem Value).run E.P w = _
     rw [hg]
     unfold loadVar
     simp [hA, h1, asAddr]
  ·cases h
theorem resL_sim (hT : TyOk E) {tm : Tm} {ts : Array Value} (hR : Rel i s w) (hm : TmR i tm ts) : ∀ (l : List ResultVar) {vs : List Value}, resA E tm s l = some vs → ∃ vs', (l.mapM (resOf ts)).run E.P w = .ok vs' w ∧ VRs i vs vs'
 | [], vs, h => by cases h; exact ⟨[], rfl, .nil⟩
 | r :: l, vs, h => by
  have h' : (match (match r with
   | .tmp t => tm.get t
   | .cell a t => match E.ty.get t, tm.get a with
    | some i, some (.pointer (some p)) => bif isAggD i.desc then (match rdN s p.block p.off i.size with
     | some l => some (.agg ⟨l⟩)
     | none => none) else rd s p.block p.off
    | _, _ => none) with
   | none => none
   | some v => match resA E tm s l with
    | none => none
    | some vs => some (v :: vs)) = some vs := h
  clear h
  split at h'
  ·cases h'
  ·rename_i v hv
   obtain ⟨v', h1, h2⟩ := res1_sim hT hR hm r hv
   split at h'
   ·cases h'
   ·rename_i us hus
    cases h'
    obtain ⟨us', h3, h4⟩ := resL_sim hT hR hm l hus
    refine ⟨v' :: us', ?_, .cons h2 h4⟩
    rw [List.mapM_cons]
    simp only [Sem.run_bind, h1, h3, Result.andThen_ok, Sem.run_pure]
theorem res_sim (hT : TyOk E) {tm : Tm} {ts : Array Value} (hR : Rel i s w) (hm : TmR i tm ts) (fn : Func) {vs : List Value} (h : resA E tm s fn.results.toList = some vs) : ∃ v', (results fn ts).run E.P w = .ok v' w ∧ VR i (packA vs) v' := by
 obtain ⟨vs', h1, h2⟩ := resL_sim hT hR hm _ h
 have e : results fn ts = (do
   let vs ← fn.results.mapM (resOf ts)
   pure (if h : vs.size = 1 then vs[0] else .tuple vs)) := by
  unfold results
  congr 2
 rw [e, Array.mapM_eq_mapM_toList]
 simp only [map_eq_pure_bind, Sem.run_bind, h1, Result.andThen_ok, Sem.run_pure]
 refine ⟨_, rfl, ?_⟩
 cases h2 with
 | nil => exact .tuple .nil
 | cons g1 g2 =>
  cases g2 with
  | nil => exact g1
  | cons g3 g4 => exact .tuple (.cons g1 (.cons g3 g4))
theorem start_tm {args args' : List Value} (n : Nat) (h : VRs i args args') : TmR i (T.e.fill 0 args) (⟨args'⟩ ++ Array.replicate n undef : Array Value) := by
 intro k v e
 rw [T.get_fill] at e
 by_cases hk : 0 ≤ k ∧ k < 0 + args.length
 ·rw [if_pos hk] at e
  obtain ⟨v', h1, h2⟩ := h.get e
  have hlen := h.length
  rw [Array.getD_eq_getD_getElem?, Array.getElem?_append_left (by simp; omega)]
  have : (⟨args'⟩ : Array Value)[k]? = args'[k]? := by simp
  rw [this]
  simp only [Nat.sub_zero] at h1
  rw [h1]
  exact h2
 ·rw [if_neg hk] at e
  cases e
theorem Rel.put {i : Io} {s : AS} {w : World} {D : Nat} (h : Rel i s w) (o : Obj) (hn : ∀ b t, i b = some (D, t) → s.h.get b = none) : Rel i s (w.putObj D o) := by
 have hd : ∀ b q t, i b = some (q, t) → s.h.get b ≠ none → (w.putObj D o).heap[q]? = w.heap[q]? := fun b q t e g => by
  show (w.heap.setIfInBounds D o)[q]? = _
  rw [Array.getElem?_setIfInBounds, if_neg (fun e' => by subst e'; exact g (hn b t e))]
 have hs : (w.putObj D o).heap.size = w.heap.size := by
  show (w.heap.setIfInBounds D o).size = _
  simp
 refine ⟨fun b x ho ha => ?_, h.inj, h.fresh, fun b c n z q t ho e => ?_, fun b q t e g => by rw [hs]; exact h.dom b q t e g⟩
 ·obtain ⟨q, t, e, hor⟩ := h.obj b x ho ha
  exact ⟨q, t, e, by rw [hd b q t e (by rw [ho]; simp)]; exact hor⟩
 ·obtain ⟨l1, l2⟩ := h.lim b c n z q t ho e
  exact ⟨l1, fun cs e' fr hw => l2 cs e' fr (by rw [← hd b q t e (by rw [ho]; simp)]; exact hw)⟩
theorem leaves_df {P : Program} {fn : Func} {tmps : Array Value} {R : Ending → World → Prop} {n : Nat} {i0 i : Io} {s0 s : AS} {w0 : World} : ∀ {dl : List Deferred} {w : World}, DfOk w0.heap.size i s w dl → Rel i s w → Fr i0 s0 w0 i s w →
  (∀ w', Rel i s w' → Fr i0 s0 w0 i s w' → ∃ v, (results fn tmps).run P w' = .ok v w' ∧ R (.returned v) w') → LeavesInM Fence.wide n P fn tmps R dl .returning w
 | [], w, _, hR, hF, h => h w hR hF
 | d :: dl, w, hd, hR, hF, h => by
  obtain ⟨D, rfl, h2, h3, h4⟩ := hd.2.2 d (by simp)
  refine ⟨by simp, .inl ⟨D, w.putObj D (.deferred none), rfl, run_takeDeferred h3, ?_⟩⟩
  have hs : (w.putObj D (.deferred none)).heap.size = w.heap.size := by
   show (w.heap.setIfInBounds D _).size = _
   simp
  have hne : ∀ k, k ≠ D → (w.putObj D (.deferred none)).heap[k]? = w.heap[k]? := fun k hk => by
   show (w.heap.setIfInBounds D _)[k]? = _
   rw [Array.getElem?_setIfInBounds, if_neg (fun e => hk e.symm)]
  refine leaves_df ?_ (hR.put _ h4) ⟨hF.le, hF.new, hF.os, hF.tape, hF.output, by rw [hs]; exact hF.size, fun q hq hn => ?_, hF.ro, hF.nx, hF.dom, hF.gone, hF.stay⟩ h
  ·refine ⟨by rw [hs]; exact hd.1, (List.nodup_cons.1 hd.2.1).2, fun d' hd' => ?_⟩
   obtain ⟨D', rfl, g2, g3, g4⟩ := hd.2.2 d' (by simp [hd'])
   refine ⟨D', rfl, g2, ?_, g4⟩
   rw [hne D' (fun e => by subst e; exact (List.nodup_cons.1 hd.2.1).1 hd')]
   exact g3
  ·rw [hne q (by omega)]
   exact hF.keep q hq hn
theorem callA_ok (hT : TyOk E) (hB : BackOk E) (hF : FnOk E) (hP : PrimOk E) (hDr : ∀ call, CallOk E.P call → DrawOk E call) (F : Nat) : ∀ D, CallOk E.P (callA E F D)
 | 0 => fun f args s v s' h => by cases h
 | D + 1 => by
  intro f args s v s' h i w args' hR hg ha
  have ih := callA_ok hT hB hF hP hDr F D
  have h' : (match E.prim.get f with
   | some p => p args s
   | none => match E.fn.get f with
    | none => none
    | some fn => match fn.body with
     | none => none
     | some c => bif Nat.beq fn.ntmps 0 then none else natK (Nat.pred fn.ntmps) fun N => match codeA E (callA E F D) N F c (T.e.fill 0 args) s with
      | some (.exit _, _, _) => none
      | none => none
      | some (_, tm, s') => match resA E tm s' fn.results.toList with
       | none => none
       | some vs => some (packA vs, s')) = some (v, s') := h
  clear h
  split at h'
  ·rename_i p hp
   exact hP f p hp args s v s' h' i w args' hR hg ha
  ·split at h'
   ·cases h'
   ·rename_i fn hfn
    obtain ⟨hf1, hf2, hf3⟩ := hF.fn f fn hfn
    split at h'
    ·cases h'
    ·rename_i c hc
     cases hn : Nat.beq fn.ntmps 0 with
     | true => rw [hn] at h'; cases h'
     | false =>
      rw [hn, cond_false, natK_eq] at h'
      have hne : fn.ntmps ≠ 0 := fun e => by rw [e] at hn; cases hn
      refine .inr ⟨?_, ?_⟩
      ·unfold callFunc
       have hf2' : fn.name ≠ "runtime.NumGoroutine" := by simpa using hf2
       simp [hf1, hf2', hc]
      ·refine (callsIn_wide (n := 1)).1 (callsIn_of_wp_marks hf1 hc trivial (wpIn_wide.2 ?_) rfl)
       have hsz : fn.ntmps.pred < ((⟨args'⟩ : Array Value) ++ Array.replicate (fn.ntmps - (⟨args'⟩ : Array Value).size) undef).size := by
        rw [Array.size_append, Array.size_replicate, Nat.pred_eq_sub_one]
        omega
       have hstart : AR [] i (T.e.fill 0 args) fn.ntmps.pred { tmps := ⟨args'⟩ ++ Array.replicate (fn.ntmps - (⟨args'⟩ : Array Value).size) undef, defers := [] } := ⟨start_tm _ ha, hsz, rfl⟩
       have hend : ∀ (x : X) (tm : Tm) (s1 : AS), (x = .nor ∨ x = .ret) → (match resA E tm s1 fn.results.toList with
         | none => none
         | some vs => some (packA vs, s1)) = some (v, s') → ThenC w.heap.size i s w tm s1 fn.ntmps.pred (bodyPostM Fence.wide 1 E.P fn (RetR i s w v s') (exX x)) := by
        intro x tm s1 hx hres i' w' a' dl' hR' hF' hd' ha'
        split at hres
        ·cases hres
        ·rename_i vs hvs
         cases hres
         have : LeavesInM Fence.wide 1 E.P fn a'.tmps (RetR i s w (packA vs) s') a'.defers .returning w' := by
          rw [ha'.defers]
          refine leaves_df hd' hR' hF' (fun w2 hR2 hF2 => ?_)
          obtain ⟨v', g1, g2⟩ := res_sim hT hR2 ha'.tm fn hvs
          exact ⟨v', g1, i', g2, hR2, hF2⟩
         rcases hx with rfl | rfl <;> exact this
       split at h'
       ·cases h'
       ·cases h'
       ·rename_i x tm s1 hnx hcode
        refine (codeA_wp hT hB ih (hDr _ ih) F).1 c hcode (hf3 c hc) hR hg ⟨Nat.le_refl _, List.nodup_nil, fun d hd => by cases hd⟩ hstart (hend x tm s1 ?_ h')
        cases x with
        | nor => exact .inl rfl
        | ret => exact .inr rfl
        | exit j => exact (hnx j rfl).elim
end
end Go.Ax
/- Operations that make a block and look at nothing but their operands: at whatever number the block is to have. -/
namespace Go.Ax
open Go
section
variable {E : Env} {i : Io} {w : World}
def NewSim (P : Program) (i : Io) (w : World) (m : Sem Value) (b : Nat) (v : Value) (o : AObj) : Prop :=
 ∃ v' x w1, m.run P w = .ok v' w1 ∧ w1.heap = (addB w x).heap ∧ w1.os = w.os ∧ w1.tape = w.tape ∧ w1.output = w.output ∧
  (∀ c n z, o = .cells c n z → zs z = 0) ∧ alive o = true ∧ fixed o = false ∧ ∀ j, Le i j → j b = some (w.heap.size, 0) → VR j v v' ∧ OR j o (some x) 0
theorem NewSim.rowz {P : Program} {m : Sem Value} {b : Nat} {l l' : List Value} (hv : VRs i l l') (e : TypeId) (z : Nat) (hze : ze z ≠ 0 → e + 1 = ze z) (hzs : zs z = 0) {w1 : World} (hw1 : w1.heap = w.heap) (ho : w1.os = w.os) (ht : w1.tape = w.tape) (hp : w1.output = w.output) {v v' : Value}
  (hr : m.run P w = .ok v' (addB w1 (.cells l'.toArray e (0, 0)))) (hvr : ∀ j : Io, Le i j → j b = some (w.heap.size, 0) → VR j v v') : NewSim P i w m b v (.cells (T.e.fill 0 l) l.length z) := by
 refine ⟨v', .cells l'.toArray e (0, 0), _, hr, ?_, ho, ht, hp, fun c n z h => by cases h; exact hzs, rfl, rfl, fun j hle hj => ⟨hvr j hle hj, ?_⟩⟩
 ·show w1.heap.push _ = w.heap.push _
  rw [hw1]
 ·exact OR.row (hv.mono hle) _ _ _ z hze (.inl rfl) 0 (by simp [hv.length]) (fun k _ => by simp)
theorem NewSim.row {P : Program} {m : Sem Value} {b : Nat} {l l' : List Value} (hv : VRs i l l') (e : TypeId) {w1 : World} (hw1 : w1.heap = w.heap) (ho : w1.os = w.os) (ht : w1.tape = w.tape) (hp : w1.output = w.output) {v v' : Value}
  (hr : m.run P w = .ok v' (addB w1 (.cells l'.toArray e (0, 0)))) (hvr : ∀ j : Io, Le i j → j b = some (w.heap.size, 0) → VR j v v') : NewSim P i w m b v (.cells (T.e.fill 0 l) l.length 0) :=
 NewSim.rowz hv e 0 (fun h => absurd rfl h) rfl hw1 ho ht hp hr hvr
theorem new_get (b : Nat) (o : AObj) : ((⟨.e, b⟩ : AS).new o).h.get b = some o := by
 show ((T.e : T AObj).set b o).get b = some o
 exact T.get_set_same _ _ _
theorem newA_some {op : Op} {tm : Tm} {b : Nat} {v : Value} {o : AObj} (h : newA op E tm b = some (v, o)) : ∃ s', opA op E tm ⟨.e, b⟩ = some (v, s') ∧ s'.h.get b = some o := by
 unfold newA at h
 split at h
 ·cases h
 ·rename_i v1 s1 h1
  split at h
  ·cases h
  ·rename_i o1 h2
   cases h
   exact ⟨s1, h1, h2⟩
theorem newA_sim (hT : TyOk E) {o : Oper} (hn : isNew o.op = true) {tm : Tm} {ρ : Operand → Value} (hρ : TR i tm ρ) {b : Nat} {v : Value} {ob : AObj} (h : newA o.op E tm b = some (v, ob)) :
  ∃ m : Sem Value, execOp ρ o = (do let v ← m; Pure.pure (Next.value v)) ∧ NewSim E.P i w m b v ob := by
 obtain ⟨s', h1, h2⟩ := newA_some h
 clear h
 cases ho : o.op <;> rw [ho] at hn h1 <;> first | (cases hn; done) | skip
 case alloc t =>
  refine ⟨Instr.alloc t true (.tuple #[]), by unfold execOp; rw [ho], ?_⟩
  simp only [opA, hAlloc] at h1
  split at h1
  ·rename_i ti ht
   cases h1
   rw [AS.rowz, new_get] at h2
   cases h2
   obtain ⟨zv, g1, g2, g3, _⟩ := run_zero hT ht w
   refine NewSim.rowz (l' := zv.cells.toList) (by rw [← g2]; exact (g3 i).cells) t (tz 0 t) (fun _ => (tz_ze (by omega)).symm) (tz_zs (by omega)) (w1 := w) rfl rfl rfl rfl (v' := .pointer (some ⟨w.heap.size, 0, none⟩)) ?_ (fun j _ hj => ?_)
   ·unfold Instr.alloc newVar newRow
    simp [g1, addB]
   ·have := VR.ptr (o := 0) hj
    exact this
  ·cases h1
 case box t x =>
  refine ⟨Instr.box t (ρ x), by unfold execOp; rw [ho], ?_⟩
  simp only [opA, hBox] at h1
  split at h1
  ·rename_i u hu
   cases h1
   rw [AS.rowz, new_get] at h2
   cases h2
   refine NewSim.rowz (l' := (ρ x).cells.toList) (hρ x _ hu).cells t (tz 0 t) (fun _ => (tz_ze (by omega)).symm) (tz_zs (by omega)) (w1 := w) rfl rfl rfl rfl (v' := .pointer (some ⟨w.heap.size, 0, none⟩)) ?_ (fun j _ hj => ?_)
   ·unfold Instr.box newVar newRow
    simp [addB]
   ·have := VR.ptr (o := 0) hj
    exact this
  ·cases h1
 case buildSlice t n ps =>
  refine ⟨Instr.buildSlice t n (ps.map fun (k, x) => (k, ρ x)), by unfold execOp; rw [ho], ?_⟩
  simp only [opA, hBuildSlice] at h1
  split at h1
  ·rename_i ti l ht hl
   obtain ⟨hl1, hl2⟩ := partsOf_sim hρ hl
   have hd := run_und hT ht w
   split at h1
   ·rename_i e hdesc
    split at h1
    ·cases h1
    ·rename_i tj hj
     cases hb : Nat.ble (n * tj.size) 65536 with
     | false => rw [hb] at h1; cases h1
     | true =>
      rw [hb, cond_true] at h1
      have hle : n * tj.size ≤ 65536 := by simpa using hb
      split at h1
      ·cases h1
      ·rename_i cs hcs
       cases h1
       simp only [AS.row, AS.rowz, new_get] at h2
       cases h2
       obtain ⟨zv, hz1, hz2, hz3, _, _, hzl⟩ := run_zero hT hj w
       have hrc : VRs i (rep n tj.zero) (rep n zv.cells.toList) := VRs.rep n (by rw [← hz2]; exact (hz3 i).cells)
       obtain ⟨r', k1, k2⟩ := fill_sim (i := i) (fun k => some (k * tj.size, tj.size)) l _ _ _ _ cs hl1 hl2 hrc hcs
       have hzs : zv.cells.size = tj.size := by rw [← Array.length_toList, hz2]; exact hzl
       have key : (Instr.buildSlice t n (ps.map fun (k, x) => (k, ρ x))).run E.P w = .ok (.slice (some ⟨w.heap.size, 0, none⟩) n n) (addB w (.cells r'.toArray e (0, 0))) := by
        unfold Instr.buildSlice
        simp only [Sem.run_bind, hd, hdesc, run_size hT hj, Result.andThen_ok]
        rw [if_neg (by omega)]
        have hf : ∀ zc : Array Value, ((Array.range (n * tj.size)).map (fun k => zc[k % zc.size]!)).toList = rep n zv.cells.toList →
          Instr.fill (fun i => some (i * tj.size, tj.size)) ((Array.range (n * tj.size)).map (fun k => zc[k % zc.size]!)) (ps.map fun (k, x) => (k, ρ x)).toList = some ⟨r'⟩ := by
         intro zc hzc
         rw [map_pairs, ← k1]
         congr 1
         exact Array.ext' hzc
        by_cases hz0 : n * tj.size = 0
        ·rw [if_pos hz0]
         have := hf #[] (by
          rw [hz0]
          have : (rep n zv.cells.toList).length = 0 := by rw [rep_length, Array.length_toList, hzs, hz0]
          rw [List.eq_nil_of_length_eq_zero this]
          simp)
         simp only [Sem.run_bind, Sem.run_pure, Result.andThen_ok, this, newRow, run_newObj]
         rfl
        ·rw [if_neg hz0]
         have := hf zv.cells (by rw [← hzs]; exact zeros_eq n zv.cells)
         simp only [Sem.run_bind, Sem.run_pure, Result.andThen_ok, hz1, this, newRow, run_newObj]
         rfl
       exact NewSim.row k2 e (w1 := w) rfl rfl rfl rfl key (fun j _ hj => .slice hj (by omega) (by omega) (by omega) (.inl rfl) (fun h0 => by omega))
   ·cases h1
  ·cases h1
 case makeMap t r =>
  refine ⟨Instr.makeMap t (r.map ρ), by unfold execOp; rw [ho], ?_⟩
  simp only [opA] at h1
  have hend : v = .map (some b) → ob = .map [] → (Instr.makeMap t (r.map ρ)).run E.P w = .ok (.map (some w.heap.size)) (addB w (.map #[] 0)) → NewSim E.P i w (Instr.makeMap t (r.map ρ)) b v ob := by
   intro e1 e2 hr
   subst e1; subst e2
   exact ⟨_, _, _, hr, rfl, rfl, rfl, rfl, fun c n z h => (by cases h), rfl, rfl, fun j _ hj => ⟨.map hj, rfl, #[], 0, [], rfl, List.Perm.refl _, .nil, List.Pairwise.nil, .nil _⟩⟩
  unfold hMap at h1
  cases r with
  | none =>
   cases h1
   rw [new_get] at h2
   cases h2
   exact hend rfl rfl rfl
  | some x =>
   simp only at h1
   split at h1
   ·rename_i kt et a b' c k n ht hn'
    cases h1
    rw [new_get] at h2
    cases h2
    have hc := hρ x _ hn'
    refine hend rfl rfl ?_
    generalize hg : ρ x = y at hc
    cases hc
    unfold Instr.makeMap
    simp only [Option.map_some, hg]
    have hd := run_und hT ht w
    simp only [Sem.run_bind, hd, Result.andThen_ok]
    simp [asInt, asIntOf]
    rfl
   ·cases h1
 case makeSlice t l c =>
  refine ⟨Instr.makeSlice t (ρ l) (ρ c), by unfold execOp; rw [ho], ?_⟩
  simp only [opA] at h1
  unfold hMakeSlice at h1
  split at h1
  ·rename_i ti k n k' m ht hn hm
   have hcn := hρ l _ hn
   generalize hgn : ρ l = yn at hcn
   cases hcn
   have hcm := hρ c _ hm
   generalize hgm : ρ c = ym at hcm
   cases hcm
   have hd := run_und hT ht w
   split at h1
   ·rename_i e hdesc
    split at h1
    ·cases h1
    ·rename_i tj hj
     split at h1
     ·rename_i hcond
      cases h1
      simp only [AS.row, AS.rowz, new_get] at h2
      cases h2
      obtain ⟨c1, c2, c3, c4⟩ := hcond
      obtain ⟨zv, hz1, hz2, hz3, _, _, hzl⟩ := run_zero hT hj w
      obtain ⟨info, hi1, hi2, hi3⟩ := run_info hT hj w
      have hzs : zv.cells.size = tj.size := by rw [← Array.length_toList, hz2]; exact hzl
      have hw1 : IntKind.i64.wrap n = n := by
       rw [← wrapA_eq]
       show wrS 18446744073709551616 9223372036854775808 n = n
       rw [wrS_eq _ _ (by decide)]
       unfold small at c4
       have : n % ((18446744073709551616 : Nat) : Int) = n := Int.emod_eq_of_lt c1 (by omega)
       rw [this, if_neg (by omega)]
      have hw2 : IntKind.i64.wrap m = m := by
       rw [← wrapA_eq]
       show wrS 18446744073709551616 9223372036854775808 m = m
       rw [wrS_eq _ _ (by decide)]
       unfold small at c4
       have : m % ((18446744073709551616 : Nat) : Int) = m := Int.emod_eq_of_lt (by omega) (by omega)
       rw [this, if_neg (by omega)]
      have key : (Instr.makeSlice t (.int k n) (.int k' m)).run E.P w = .ok (.slice (some ⟨w.heap.size, 0, none⟩) n.toNat m.toNat) (addB w (.cells (rep m.toNat zv.cells.toList).toArray e (0, 0))) := by
       unfold Instr.makeSlice
       simp only [Sem.run_bind, hd, hdesc, Result.andThen_ok, asInt, asIntOf, Sem.run_pure, hi1, hi3, hw1, hw2, run_size hT hj]
       have hbig : (tj.bytes : Int) * m ≤ small := by rw [Int.mul_comm]; exact c3
       have hneg : ¬ ((decide (m < 0) || decide ((tj.bytes : Int) * m > 2 ^ 48) || decide (n < 0) || decide (n > m)) = true) := by
        simp only [Bool.or_eq_true, decide_eq_true_eq]
        unfold small at hbig
        omega
       rw [if_neg hneg]
       simp only [Sem.run_bind, run_askRoom, Result.andThen_ok, Sem.run_pure, run_size hT hj]
       by_cases hz0 : m.toNat * tj.size = 0
       ·rw [if_pos hz0]
        have hr0 : rep m.toNat zv.cells.toList = [] := by
         apply List.eq_nil_of_length_eq_zero
         rw [rep_length, Array.length_toList, hzs, hz0]
        have hm0 : (Array.range 0).map (fun k => (#[] : Array Value)[k % (#[] : Array Value).size]!) = #[] := by simp
        simp only [Sem.run_bind, Sem.run_pure, Result.andThen_ok, hz0, newRow, run_newObj, hr0, hm0]
        rfl
       ·rw [if_neg hz0]
        have : (Array.range (m.toNat * tj.size)).map (fun k => zv.cells[k % zv.cells.size]!) = (rep m.toNat zv.cells.toList).toArray := by
         apply Array.ext'
         rw [← hzs, zeros_eq]
        simp only [Sem.run_bind, hz1, Result.andThen_ok, Sem.run_pure, this, newRow, run_newObj]
        rfl
      have hrc : VRs i (rep m.toNat tj.zero) (rep m.toNat zv.cells.toList) := VRs.rep _ (by rw [← hz2]; exact (hz3 i).cells)
      exact NewSim.row hrc e (w1 := w) rfl rfl rfl rfl key (fun j _ hj => .slice hj (by omega) (by omega) (by omega) (.inl rfl) (fun h0 => by omega))
     ·cases h1
   ·cases h1
  ·cases h1
end
end Go.Ax
/- Regions that draw their order: what an operation looks at. -/
namespace Go.Ax
open Go
section
variable {E : Env} {s : AS} {tm tm' : Tm}
theorem evs_congr : ∀ {l : List Operand}, (∀ x ∈ l, ev tm' x = ev tm x) → evs tm' l = evs tm l
 | [], _ => rfl
 | x :: l, h => by
  simp only [evs]
  rw [h x (by simp), evs_congr (fun y hy => h y (by simp [hy]))]
theorem partsOf_congr : ∀ {l : List (Nat × Operand)}, (∀ x ∈ l.map (·.2), ev tm' x = ev tm x) → partsOf tm' l = partsOf tm l
 | [], _ => rfl
 | (k, x) :: l, h => by
  simp only [partsOf]
  rw [h x (by simp), partsOf_congr (fun y hy => h y (by simp only [List.map_cons, List.mem_cons]; exact .inr hy))]
theorem bnd_congr {d m : Nat} {x : Option Operand} (h : ∀ y ∈ x.toList, ev tm' y = ev tm y) : bnd tm' d m x = bnd tm d m x := by
 cases x with
 | none => rfl
 | some y => simp only [bnd, h y (by simp)]
theorem bnds_congr {n c : Nat} {lo hi mx : Option Operand} (h1 : ∀ y ∈ lo.toList, ev tm' y = ev tm y) (h2 : ∀ y ∈ hi.toList, ev tm' y = ev tm y) (h3 : ∀ y ∈ mx.toList, ev tm' y = ev tm y) :
  bnds tm' n c lo hi mx = bnds tm n c lo hi mx := by
 unfold bnds
 rw [bnd_congr h3]
 simp only [bnd_congr h1, bnd_congr h2]
theorem sliceA_congr {t : TypeId} {v : Value} {lo hi mx : Option Operand} (h1 : ∀ y ∈ lo.toList, ev tm' y = ev tm y) (h2 : ∀ y ∈ hi.toList, ev tm' y = ev tm y) (h3 : ∀ y ∈ mx.toList, ev tm' y = ev tm y) :
  sliceA E s tm' t v lo hi mx = sliceA E s tm t v lo hi mx := by
 unfold sliceA
 simp only [bnds_congr h1 h2 h3, bnds_congr (mx := none) h1 h2 (fun y hy => by simp at hy)]
theorem opA_congr (op : Op) (h : ∀ x ∈ op.operands, ev tm' x = ev tm x) : opA op E tm' s = opA op E tm s := by
 cases op <;> simp only [Op.operands] at h <;> simp only [opA] <;> try rfl
 case build t ps => simp only [hBuild]; rw [partsOf_congr (fun x hx => h x (by simpa using hx))]
 case buildSlice t n ps => simp only [hBuildSlice]; rw [partsOf_congr (fun x hx => h x (by simpa using hx))]
 case makeFunc f a b =>
  simp only [hFunc]
  rw [evs_congr (fun x hx => h x (by simp [Array.mem_toList_iff.1 hx])), evs_congr (l := b.toList) (fun x hx => h x (by simp [Array.mem_toList_iff.1 hx]))]
 case makeMap t r =>
  cases r with
  | none => rfl
  | some x => simp only [hMap]; rw [h x (by simp)]
 case slice t x lo hi mx =>
  simp only [hSlice]
  rw [h x (by simp)]
  simp only [sliceA_congr (tm := tm) (tm' := tm') (E := E) (s := s) (t := t) (lo := lo) (hi := hi) (mx := mx) (fun y hy => h y (by simp_all)) (fun y hy => h y (by simp_all)) (fun y hy => h y (by simp_all))]
 case call c =>
  simp only [hCall]
  split
  ·rw [evs_congr (fun x hx => h x (by simp [Call.operands, Array.mem_toList_iff.1 hx]))]
  ·rfl
 case pick c a b =>
  simp only [hPick]
  rw [h c (by simp)]
  split
  ·rename_i t _
   cases t with
   | true => simp only [cond_true]; rw [h a (by simp)]
   | false => simp only [cond_false]; rw [h b (by simp)]
  ·rfl
 all_goals
  simp only [hMove, hBox, hLoad, hStore, hNilCheck, hBin, hUn, hConv, hIface, hMakeSlice, hFieldAddr, hField, hIndexAddr, hIndex, hLookup, hMapUpdate, hRange, hNext, hAssert, hExtract]
  simp (disch := simp) only [h]
theorem toNum_spec {t : TypeId} {di : TI} (h : toNum E.ty t = true) (hd : E.ty.get t = some di) : (∃ k, di.desc = .int k) ∨ ∃ k, di.desc = .float k := by
 unfold toNum at h
 rw [hd] at h
 simp only at h
 split at h
 ·rename_i k hk; exact .inl ⟨k, hk⟩
 ·rename_i k hk; exact .inr ⟨k, hk⟩
 ·cases h
theorem convA_num {a b : TypeId} {x v : Value} {s' : AS} (hn : toNum E.ty b = true) (h : convA E s a b x = some (v, s')) : s' = s ∧ ∀ s2, convA E s2 a b x = some (v, s2) := by
 unfold convA at h ⊢
 split at h
 ·rename_i si di hsi hdi
  have hd := toNum_spec hn hdi
  have key : ∀ {r : Option (Value × AS)} , (convP E s a b x = some (v, s')) → s' = s ∧ ∀ s2, convP E s2 a b x = some (v, s2) := by
   intro _ h
   unfold convP at h ⊢
   cases hp : plain x with
   | false => rw [hp] at h; cases h
   | true =>
    rw [hp, cond_true] at h
    split at h
    ·rename_i u hu
     cases hpu : plain u with
     | false => rw [hpu] at h; cases h
     | true =>
      rw [hpu, cond_true] at h
      cases h
      exact ⟨rfl, fun s2 => by simp [hu, hpu]⟩
    ·cases h
  split at h
  ·rename_i k k' n hk
   split at h
   ·rename_i u hu
    cases h
    exact ⟨rfl, fun s2 => by simp [hk, hu]⟩
   ·cases h
  ·rename_i bs hk
   rcases hd with ⟨k, hk'⟩ | ⟨k, hk'⟩ <;> rw [hk'] at hk <;> cases hk
  ·rename_i e bs hk
   rcases hd with ⟨k, hk'⟩ | ⟨k, hk'⟩ <;> rw [hk'] at hk <;> cases hk
  ·rename_i e aa n c hk1 hk
   rcases hd with ⟨k, hk'⟩ | ⟨k, hk'⟩ <;> rw [hk'] at hk <;> cases hk
  ·rename_i e0 e aa n c hk1 hk
   rcases hd with ⟨k, hk'⟩ | ⟨k, hk'⟩ <;> rw [hk'] at hk <;> cases hk
  ·rename_i t0 p hk1 hk
   rcases hd with ⟨k, hk'⟩ | ⟨k, hk'⟩ <;> rw [hk'] at hk <;> cases hk
  ·rename_i t0 p hk1 hk
   rcases hd with ⟨k, hk'⟩ | ⟨k, hk'⟩ <;> rw [hk'] at hk <;> cases hk
  ·rename_i h1 h2 h3 h4
   exact key (r := none) h
 ·cases h
theorem opA_still {op : Op} (he : eff E.ty op = false) (hn : isNew op = false) {v : Value} {s' : AS} (h : opA op E tm s = some (v, s')) : s' = s := by
 cases op <;> simp only [opA] at h <;> first
  | (simp [eff] at he; done)
  | (simp [isNew] at hn; done)
  | (cases h; done)
  | skip
 case convert a b x =>
  simp only [hConv] at h
  split at h
  ·exact (convA_num (by simpa [eff] using he) h).1
  ·cases h
 case call c =>
  obtain ⟨callee, args, ats⟩ := c
  cases callee with
  | value f => simp [eff] at he
  | invoke r m => simp [eff] at he
  | builtin b =>
   simp only [hCall] at h
   split at h
   ·unfold builtinA at h
    split at h <;> first
     | (simp [eff] at he; done)
     | (split at h <;> cases h; rfl)
     | (cases h; done)
   ·cases h
 all_goals
  simp only [hMove, hPick, hLoad, hBuild, hNilCheck, hBin, hUn, hIface, hFunc, hFieldAddr, hField, hIndexAddr, hIndex, hLookup, hAssert, hExtract, hSlice, natK_eq, Bool.cond_eq_ite] at h
  repeat' (split at h)
  all_goals first
   | (cases h; done)
   | (cases h; rfl)
   | skip
theorem opA_blind {op : Op} (he : eff E.ty op = false) (hn : isNew op = false) (hs : sees op = false) {v : Value} {s' : AS} (h : opA op E tm s = some (v, s')) (s2 : AS) : opA op E tm s2 = some (v, s2) := by
 cases op <;> simp only [opA] at h ⊢ <;> first
  | (simp [eff] at he; done)
  | (simp [isNew] at hn; done)
  | (simp [sees] at hs; done)
  | (cases h; done)
  | skip
 case convert a b x =>
  simp only [hConv] at h ⊢
  split at h
  ·exact (convA_num (by simpa [eff] using he) h).2 s2
  ·cases h
 all_goals
  simp only [hMove, hPick, hBuild, hUn, hIface, hFunc, hFieldAddr, hField, hIndexAddr, hIndex, hExtract, natK_eq, Bool.cond_eq_ite] at h ⊢
  repeat' (split at h)
  all_goals first
   | (cases h; done)
   | (cases h; simp_all; done)
   | skip
end
end Go.Ax
/- Regions that draw their order: the lexical run, and what any other order leaves. -/
namespace Go.Ax
open Go
structure Ent where
 tm : Tm
 s : AS
 run : Bool
 v : Value
 s' : AS
 x : AObj
section
variable {E : Env} {call : CallF} {N : Nat} {ops : List Oper} {an : List Nat} {base : Nat}
inductive Lex (E : Env) (call : CallF) (N : Nat) (ops : List Oper) (an : List Nat) (base : Nat) : Nat → List Oper → Tm → AS → News → List Ent → Tm → AS → News → Prop
 | nil (i : Nat) (tm : Tm) (s : AS) (nw : News) : Lex E call N ops an base i [] tm s nw [] tm s nw
 | skip {i : Nat} {o : Oper} {l : List Oper} {tm tm1 tm' : Tm} {s s' : AS} {nw nw' : News} {tr : List Ent} (h1 : wantedA ops tm o = some false) (h2 : putA N tm o.dst undef = some tm1) (h3 : Lex E call N ops an base (i + 1) l tm1 s nw tr tm' s' nw') :
   Lex E call N ops an base i (o :: l) tm s nw (⟨tm, s, false, undef, s, .dead⟩ :: tr) tm' s' nw'
 | fresh {i : Nat} {o : Oper} {l : List Oper} {tm tm1 tm' : Tm} {s s' : AS} {nw nw' : News} {v : Value} {x : AObj} {tr : List Ent} (h1 : wantedA ops tm o = some true) (hn : isNew o.op = true) (h2 : newA o.op E tm (base + i) = some (v, x)) (h3 : putA N tm o.dst v = some tm1)
   (h4 : Lex E call N ops an base (i + 1) l tm1 s (nw ++ [(i, x)]) tr tm' s' nw') : Lex E call N ops an base i (o :: l) tm s nw (⟨tm, s, true, v, s, x⟩ :: tr) tm' s' nw'
 | act {i : Nat} {o : Oper} {l : List Oper} {tm tm1 tm' : Tm} {s s1 s' : AS} {nw nw' : News} {v : Value} {tr : List Ent} (h1 : wantedA ops tm o = some true) (hn : isNew o.op = false) (he : eff E.ty o.op = true) (h2 : execA o.op E call tm (laid base (an.getD i 0) nw s) = some (v, s1)) (h3 : putA N tm o.dst v = some tm1)
   (h4 : Lex E call N ops an base (i + 1) l tm1 s1 nw tr tm' s' nw') : Lex E call N ops an base i (o :: l) tm s nw (⟨tm, s, true, v, s1, .dead⟩ :: tr) tm' s' nw'
 | look {i : Nat} {o : Oper} {l : List Oper} {tm tm1 tm' : Tm} {s s1 s' : AS} {nw nw' : News} {v : Value} {tr : List Ent} (h1 : wantedA ops tm o = some true) (hn : isNew o.op = false) (he : eff E.ty o.op = false) (h2 : execA o.op E call tm (laid base (an.getD i 0) nw s) = some (v, s1)) (h3 : putA N tm o.dst v = some tm1)
   (h4 : Lex E call N ops an base (i + 1) l tm1 s nw tr tm' s' nw') : Lex E call N ops an base i (o :: l) tm s nw (⟨tm, s, true, v, s, .dead⟩ :: tr) tm' s' nw'
theorem execA_op {op : Op} {tm : Tm} {s : AS} (he : eff E.ty op = false) : execA op E call tm s = opA op E tm s := by
 cases op <;> try rfl
 case call c =>
  obtain ⟨callee, args, ats⟩ := c
  cases callee with
  | value f => simp [eff] at he
  | invoke r m => rfl
  | builtin b => rfl
theorem Lex.news_ge {i : Nat} {l : List Oper} {tm tm' : Tm} {s s' : AS} {nw nw' : News} {tr : List Ent} (h : Lex E call N ops an base i l tm s nw tr tm' s' nw') : ∃ r, nw' = nw ++ r ∧ ∀ x ∈ r, i ≤ x.1 := by
 induction h with
 | nil => exact ⟨[], by simp, by simp⟩
 | skip _ _ _ ih => obtain ⟨r, e, h⟩ := ih; exact ⟨r, e, fun x hx => by have := h x hx; omega⟩
 | fresh _ _ _ _ _ ih =>
  obtain ⟨r, e, h⟩ := ih
  refine ⟨_ :: r, by rw [e, List.append_assoc]; rfl, fun x hx => ?_⟩
  rcases List.mem_cons.1 hx with rfl | hx
  ·exact Nat.le_refl _
  ·have := h x hx; omega
 | act _ _ _ _ _ _ ih => obtain ⟨r, e, h⟩ := ih; exact ⟨r, e, fun x hx => by have := h x hx; omega⟩
 | look _ _ _ _ _ _ ih => obtain ⟨r, e, h⟩ := ih; exact ⟨r, e, fun x hx => by have := h x hx; omega⟩
theorem laid_nil (bits : Nat) (s : AS) : laid base bits [] s = s := rfl
theorem lex_of_runL : ∀ {l : List Oper} {i : Nat} {tm tm' : Tm} {s s' : AS}, (∀ o ∈ l, eff E.ty o.op = false ∧ isNew o.op = false) → runL E call N ops l tm s = some (tm', s') → ∃ tr, Lex E call N ops an base i l tm s [] tr tm' s' []
 | [], i, tm, tm', s, s', _, h => by cases h; exact ⟨[], .nil _ _ _ _⟩
 | o :: l, i, tm, tm', s, s', hq, h => by
  have h' : (match wantedA ops tm o with
   | none => none
   | some false => match putA N tm o.dst undef with
    | none => none
    | some tm' => runL E call N ops l tm' s
   | some true => match execA o.op E call tm s with
    | none => none
    | some (v, s') => match putA N tm o.dst v with
     | none => none
     | some tm' => runL E call N ops l tm' s') = some (tm', s') := h
  clear h
  have hq' := fun x hx => hq x (List.mem_cons_of_mem _ hx)
  obtain ⟨q1, q2⟩ := hq o (by simp)
  split at h'
  ·cases h'
  ·rename_i hw
   split at h'
   ·cases h'
   ·rename_i tm1 hp
    obtain ⟨tr, ht⟩ := lex_of_runL hq' h'
    exact ⟨_, .skip hw hp ht⟩
  ·rename_i hw
   split at h'
   ·cases h'
   ·rename_i v s1 hx
    split at h'
    ·cases h'
    ·rename_i tm1 hp
     have hst : s1 = s := by
      rw [execA_op q1] at hx
      exact opA_still q1 q2 hx
     subst hst
     obtain ⟨tr, ht⟩ := lex_of_runL hq' h'
     exact ⟨_, .look hw q2 q1 hx hp ht⟩
noncomputable def effS (ty : T TI) : List Oper → List Ent → List AS
 | o :: l, e :: tr => if eff ty o.op then e.s' :: effS ty l tr else effS ty l tr
 | _, _ => []
theorem new_noeff {ty : T TI} {op : Op} (h : isNew op = true) : eff ty op = false := by
 cases op <;> first | (cases h; done) | rfl
theorem lex_of_runD : ∀ {l : List Oper} {i : Nat} {tm tm' : Tm} {s s' : AS} {ss ss' : List AS} {rs rs' : List Rec} {nw nw' : News}, runD E call N ops an base l i tm s ss rs nw = some (tm', s', ss', rs', nw') →
  ∃ tr, Lex E call N ops an base i l tm s nw tr tm' s' nw' ∧ ss' = ss ++ effS E.ty l tr ∧ (∀ r ∈ rs, r ∈ rs') ∧
   ∀ (k : Nat) (o : Oper) (e : Ent), l[k]? = some o → tr[k]? = some e → eff E.ty o.op = false → isNew o.op = false → e.run = true → ∃ nw1, (⟨i + k, o, e.tm, e.v, nw1⟩ : Rec) ∈ rs' ∧ ∃ r, nw' = nw1 ++ r ∧ ∀ x ∈ r, i + k ≤ x.1
 | [], i, tm, tm', s, s', ss, ss', rs, rs', nw, nw', h => by
  cases h
  exact ⟨[], .nil _ _ _ _, by simp [effS], fun r hr => hr, fun k o e h => by simp at h⟩
 | o :: l, i, tm, tm', s, s', ss, ss', rs, rs', nw, nw', h => by
  have h' : (match wantedA ops tm o with
   | none => none
   | some false => match putA N tm o.dst undef with
    | none => none
    | some tm' => runD E call N ops an base l (i + 1) tm' s (bif eff E.ty o.op then ss ++ [s] else ss) rs nw
   | some true => bif isNew o.op then (natK (base + i) fun b => match newA o.op E tm b with
     | none => none
     | some (v, x) => match putA N tm o.dst v with
      | none => none
      | some tm' => runD E call N ops an base l (i + 1) tm' s ss rs (nw ++ [(i, x)]))
    else match execA o.op E call tm (laid base (an.getD i 0) nw s) with
    | none => none
    | some (v, s') => match putA N tm o.dst v with
     | none => none
     | some tm' => bif eff E.ty o.op then runD E call N ops an base l (i + 1) tm' s' (ss ++ [s']) rs nw else runD E call N ops an base l (i + 1) tm' s ss (⟨i, o, tm, v, nw⟩ :: rs) nw) = some (tm', s', ss', rs', nw') := h
  clear h
  have tail : ∀ {e0 : Ent} {tr : List Ent}, (∀ (k : Nat) (o : Oper) (e : Ent), l[k]? = some o → tr[k]? = some e → eff E.ty o.op = false → isNew o.op = false → e.run = true → ∃ nw1, (⟨i + 1 + k, o, e.tm, e.v, nw1⟩ : Rec) ∈ rs' ∧ ∃ r, nw' = nw1 ++ r ∧ ∀ x ∈ r, i + 1 + k ≤ x.1) →
    (eff E.ty o.op = false → isNew o.op = false → e0.run = true → ∃ nw1, (⟨i, o, e0.tm, e0.v, nw1⟩ : Rec) ∈ rs' ∧ ∃ r, nw' = nw1 ++ r ∧ ∀ x ∈ r, i ≤ x.1) →
    ∀ (k : Nat) (o' : Oper) (e : Ent), (o :: l)[k]? = some o' → (e0 :: tr)[k]? = some e → eff E.ty o'.op = false → isNew o'.op = false → e.run = true → ∃ nw1, (⟨i + k, o', e.tm, e.v, nw1⟩ : Rec) ∈ rs' ∧ ∃ r, nw' = nw1 ++ r ∧ ∀ x ∈ r, i + k ≤ x.1 := by
   intro e0 tr h2 h3 k o' e hk he hf hn hr
   cases k with
   | zero =>
    simp only [List.getElem?_cons_zero, Option.some.injEq] at hk he
    subst hk; subst he
    exact h3 hf hn hr
   | succ k =>
    simp only [List.getElem?_cons_succ] at hk he
    have := h2 k o' e hk he hf hn hr
    rwa [show i + 1 + k = i + (k + 1) by omega] at this
  split at h'
  ·cases h'
  ·rename_i hw
   split at h'
   ·cases h'
   ·rename_i tm1 hp
    obtain ⟨tr, ht, hs, hr, hk⟩ := lex_of_runD h'
    refine ⟨_, .skip hw hp ht, ?_, hr, tail hk (fun _ _ h => by cases h)⟩
    rw [hs]
    cases he : eff E.ty o.op <;> simp [effS, he]
  ·rename_i hw
   cases hnew : isNew o.op with
   | true =>
    rw [hnew, cond_true, natK_eq] at h'
    split at h'
    ·cases h'
    ·rename_i v x hx
     split at h'
     ·cases h'
     ·rename_i tm1 hp
      obtain ⟨tr, ht, hs, hr, hk⟩ := lex_of_runD h'
      refine ⟨_, .fresh hw hnew hx hp ht, ?_, hr, tail hk (fun _ h => by rw [hnew] at h; cases h)⟩
      rw [hs]
      simp [effS, new_noeff hnew]
   | false =>
    rw [hnew, cond_false] at h'
    split at h'
    ·cases h'
    ·rename_i v s1 hx
     split at h'
     ·cases h'
     ·rename_i tm1 hp
      cases he : eff E.ty o.op with
      | true =>
       rw [he] at h'
       obtain ⟨tr, ht, hs, hr, hk⟩ := lex_of_runD h'
       refine ⟨_, .act hw hnew he hx hp ht, ?_, hr, tail hk (fun h => by rw [he] at h; cases h)⟩
       rw [hs]
       simp [effS, he]
      | false =>
       rw [he] at h'
       obtain ⟨tr, ht, hs, hr, hk⟩ := lex_of_runD h'
       refine ⟨_, .look hw hnew he hx hp ht, ?_, fun r h => hr r (by simp [h]), tail hk (fun _ _ _ => ⟨nw, hr _ (by simp), ?_⟩)⟩
       ·rw [hs]
        simp [effS, he]
       ·obtain ⟨r, e, hr⟩ := ht.news_ge
        exact ⟨r, e, fun x hx => by have := hr x hx; omega⟩
def curT (L : Nat → Bool) (d : Tmp) : Nat → List Oper → List Ent → Option Value → Option Value
 | j, o :: l, e :: tr, acc => curT L d (j + 1) l tr (if L j = true ∧ o.dst = some d then some e.v else acc)
 | _, _, _, acc => acc
noncomputable def curS (ty : T TI) (L : Nat → Bool) : Nat → List Oper → List Ent → AS → AS
 | j, o :: l, e :: tr, acc => curS ty L (j + 1) l tr (if L j = true ∧ eff ty o.op = true then e.s' else acc)
 | _, _, _, acc => acc
theorem curT_congr {L L' : Nat → Bool} {d : Tmp} : ∀ {l : List Oper} {tr : List Ent} {j : Nat} {acc : Option Value}, (∀ (k : Nat) (o : Oper), l[k]? = some o → o.dst = some d → L (j + k) = L' (j + k)) → curT L d j l tr acc = curT L' d j l tr acc
 | [], _, _, _, _ => by simp [curT]
 | _ :: _, [], _, _, _ => by simp [curT]
 | o :: l, e :: tr, j, acc, h => by
  simp only [curT]
  have h0 : (L j = true ∧ o.dst = some d) ↔ (L' j = true ∧ o.dst = some d) := by
   constructor
   ·rintro ⟨a, b⟩; exact ⟨by have := h 0 o rfl b; simp only [Nat.add_zero] at this; rw [← this]; exact a, b⟩
   ·rintro ⟨a, b⟩; exact ⟨by have := h 0 o rfl b; simp only [Nat.add_zero] at this; rw [this]; exact a, b⟩
  simp only [h0]
  exact curT_congr (fun k o' hk ho => by have := h (k + 1) o' (by simpa using hk) ho; rwa [show j + (k + 1) = j + 1 + k by omega] at this)
theorem curS_congr {ty : T TI} {L L' : Nat → Bool} : ∀ {l : List Oper} {tr : List Ent} {j : Nat} {acc : AS}, (∀ (k : Nat) (o : Oper), l[k]? = some o → eff ty o.op = true → L (j + k) = L' (j + k)) → curS ty L j l tr acc = curS ty L' j l tr acc
 | [], _, _, _, _ => by simp [curS]
 | _ :: _, [], _, _, _ => by simp [curS]
 | o :: l, e :: tr, j, acc, h => by
  simp only [curS]
  have h0 : (L j = true ∧ eff ty o.op = true) ↔ (L' j = true ∧ eff ty o.op = true) := by
   constructor
   ·rintro ⟨a, b⟩; exact ⟨by have := h 0 o rfl b; simp only [Nat.add_zero] at this; rw [← this]; exact a, b⟩
   ·rintro ⟨a, b⟩; exact ⟨by have := h 0 o rfl b; simp only [Nat.add_zero] at this; rw [this]; exact a, b⟩
  simp only [h0]
  exact curS_congr (fun k o' hk ho => by have := h (k + 1) o' (by simpa using hk) ho; rwa [show j + (k + 1) = j + 1 + k by omega] at this)
theorem curT_none {L : Nat → Bool} {d : Tmp} : ∀ {l : List Oper} {tr : List Ent} {j : Nat} {acc : Option Value}, (∀ (k : Nat) (o : Oper), l[k]? = some o → o.dst = some d → L (j + k) = false) → curT L d j l tr acc = acc
 | [], _, _, _, _ => by simp [curT]
 | _ :: _, [], _, _, _ => by simp [curT]
 | o :: l, e :: tr, j, acc, h => by
  simp only [curT]
  rw [if_neg (fun hh => by have := h 0 o rfl hh.2; simp only [Nat.add_zero] at this; rw [this] at hh; cases hh.1)]
  exact curT_none (fun k o' hk ho => by have := h (k + 1) o' (by simpa using hk) ho; rwa [show j + (k + 1) = j + 1 + k by omega] at this)
theorem curS_none {ty : T TI} {L : Nat → Bool} : ∀ {l : List Oper} {tr : List Ent} {j : Nat} {acc : AS}, (∀ (k : Nat) (o : Oper), l[k]? = some o → eff ty o.op = true → L (j + k) = false) → curS ty L j l tr acc = acc
 | [], _, _, _, _ => by simp [curS]
 | _ :: _, [], _, _, _ => by simp [curS]
 | o :: l, e :: tr, j, acc, h => by
  simp only [curS]
  rw [if_neg (fun hh => by have := h 0 o rfl hh.2; simp only [Nat.add_zero] at this; rw [this] at hh; cases hh.1)]
  exact curS_none (fun k o' hk ho => by have := h (k + 1) o' (by simpa using hk) ho; rwa [show j + (k + 1) = j + 1 + k by omega] at this)
theorem curT_last {L : Nat → Bool} {d : Tmp} : ∀ {l : List Oper} {tr : List Ent} {j k : Nat} {acc : Option Value} {o : Oper} {e : Ent}, l[k]? = some o → tr[k]? = some e → o.dst = some d → L (j + k) = true →
  (∀ (m : Nat) (o : Oper), k < m → l[m]? = some o → o.dst = some d → L (j + m) = false) → curT L d j l tr acc = some e.v
 | [], _, _, _, _, _, _, h, _, _, _, _ => by simp at h
 | _ :: _, [], _, _, _, _, _, _, h, _, _, _ => by simp at h
 | o :: l, e :: tr, j, k, acc, o', e', h1, h2, h3, h4, h5 => by
  simp only [curT]
  cases k with
  | zero =>
   simp only [List.getElem?_cons_zero, Option.some.injEq] at h1 h2
   subst h1; subst h2
   rw [if_pos ⟨h4, h3⟩]
   exact curT_none (fun k o' hk ho => by have := h5 (k + 1) o' (by omega) (by simpa using hk) ho; rwa [show j + (k + 1) = j + 1 + k by omega] at this)
  | succ k =>
   simp only [List.getElem?_cons_succ] at h1 h2
   exact curT_last h1 h2 h3 (by rwa [show j + 1 + k = j + (k + 1) by omega]) (fun m o' hm hk ho => by
    have := h5 (m + 1) o' (by omega) (by simpa using hk) ho; rwa [show j + (m + 1) = j + 1 + m by omega] at this)
theorem curS_last {ty : T TI} {L : Nat → Bool} : ∀ {l : List Oper} {tr : List Ent} {j k : Nat} {acc : AS} {o : Oper} {e : Ent}, l[k]? = some o → tr[k]? = some e → eff ty o.op = true → L (j + k) = true →
  (∀ (m : Nat) (o : Oper), k < m → l[m]? = some o → eff ty o.op = true → L (j + m) = false) → curS ty L j l tr acc = e.s'
 | [], _, _, _, _, _, _, h, _, _, _, _ => by simp at h
 | _ :: _, [], _, _, _, _, _, _, h, _, _, _ => by simp at h
 | o :: l, e :: tr, j, k, acc, o', e', h1, h2, h3, h4, h5 => by
  simp only [curS]
  cases k with
  | zero =>
   simp only [List.getElem?_cons_zero, Option.some.injEq] at h1 h2
   subst h1; subst h2
   rw [if_pos ⟨h4, h3⟩]
   exact curS_none (fun k o' hk ho => by have := h5 (k + 1) o' (by omega) (by simpa using hk) ho; rwa [show j + (k + 1) = j + 1 + k by omega] at this)
  | succ k =>
   simp only [List.getElem?_cons_succ] at h1 h2
   exact curS_last h1 h2 h3 (by rwa [show j + 1 + k = j + (k + 1) by omega]) (fun m o' hm hk ho => by
    have := h5 (m + 1) o' (by omega) (by simpa using hk) ho; rwa [show j + (m + 1) = j + 1 + m by omega] at this)
theorem putA_get {tm tm1 : Tm} {dst : Option Tmp} {v : Value} (h : putA N tm dst v = some tm1) (d : Tmp) : tm1.get d = if dst = some d then some v else tm.get d := by
 cases dst with
 | none => cases h; simp
 | some k =>
  unfold putA at h
  simp only at h
  cases hb : Nat.ble k N with
  | false => rw [hb] at h; cases h
  | true =>
   rw [hb] at h
   cases h
   rw [T.get_set]
   by_cases e : d = k
   ·subst e; simp
   ·rw [if_neg e, if_neg (fun h => e (Option.some.inj h).symm)]
theorem execA_congr {op : Op} {tm tm' : Tm} {s : AS} (h : ∀ x ∈ op.operands, ev tm' x = ev tm x) : execA op E call tm' s = execA op E call tm s := by
 cases op with
 | call c =>
  show callC c E call tm' s = callC c E call tm s
  unfold callC
  split
  ·rename_i f hf
   unfold callV
   rw [h f (by simp [Op.operands, Call.operands, hf]), evs_congr (fun x hx => h x (by simp [Op.operands, Call.operands, Array.mem_toList_iff.1 hx]))]
  ·exact opA_congr (.call c) h
 | _ => exact opA_congr (E := E) (s := s) _ h
theorem Lex.ent {i : Nat} {l : List Oper} {tm tm' : Tm} {s s' : AS} {nw nw' : News} {tr : List Ent} (h : Lex E call N ops an base i l tm s nw tr tm' s' nw') : ∀ {k : Nat} {o : Oper} (_ : l[k]? = some o), ∃ e, tr[k]? = some e ∧ wantedA ops e.tm o = some e.run ∧
  (e.run = false → e.v = undef ∧ e.s' = e.s) ∧ (e.run = true → isNew o.op = true → newA o.op E e.tm (base + (i + k)) = some (e.v, e.x) ∧ (i + k, e.x) ∈ nw') ∧
  (e.run = true → isNew o.op = false → ∃ nw1 s1, execA o.op E call e.tm (laid base (an.getD (i + k) 0) nw1 e.s) = some (e.v, s1) ∧ (eff E.ty o.op = true → e.s' = s1) ∧ ∃ r, nw' = nw1 ++ r ∧ ∀ x ∈ r, i + k ≤ x.1) ∧
  (∃ tm1, putA N e.tm o.dst e.v = some tm1) ∧ (eff E.ty o.op = false → e.s' = e.s) := by
 induction h with
 | nil => intro k o h; simp at h
 | skip h1 h2 h3 ih =>
  intro k o h
  cases k with
  | zero =>
   simp only [List.getElem?_cons_zero, Option.some.injEq] at h
   subst h
   exact ⟨_, rfl, h1, fun _ => ⟨rfl, rfl⟩, (fun h => by cases h), (fun h => by cases h), ⟨_, h2⟩, fun _ => rfl⟩
  | succ k =>
   have := ih (k := k) (by simpa using h)
   simpa [Nat.add_assoc, Nat.add_comm 1 k] using this
 | fresh h1 hn h2 h3 h4 ih =>
  intro k o h
  cases k with
  | zero =>
   simp only [List.getElem?_cons_zero, Option.some.injEq] at h
   subst h
   refine ⟨_, rfl, h1, (fun h => by cases h), fun _ _ => ⟨h2, ?_⟩, (fun _ h => by rw [hn] at h; cases h), ⟨_, h3⟩, fun _ => rfl⟩
   obtain ⟨r, e, _⟩ := h4.news_ge
   rw [e]
   simp
  | succ k =>
   have := ih (k := k) (by simpa using h)
   simpa [Nat.add_assoc, Nat.add_comm 1 k] using this
 | act h1 hn he h2 h3 h4 ih =>
  intro k o h
  cases k with
  | zero =>
   simp only [List.getElem?_cons_zero, Option.some.injEq] at h
   subst h
   refine ⟨_, rfl, h1, (fun h => by cases h), (fun _ h => by rw [hn] at h; cases h), fun _ _ => ⟨_, _, h2, fun _ => rfl, ?_⟩, ⟨_, h3⟩, (fun h => by rw [he] at h; cases h)⟩
   obtain ⟨r, e, hr⟩ := h4.news_ge
   exact ⟨r, e, fun x hx => by have := hr x hx; omega⟩
  | succ k =>
   have := ih (k := k) (by simpa using h)
   simpa [Nat.add_assoc, Nat.add_comm 1 k] using this
 | look h1 hn he h2 h3 h4 ih =>
  intro k o h
  cases k with
  | zero =>
   simp only [List.getElem?_cons_zero, Option.some.injEq] at h
   subst h
   refine ⟨_, rfl, h1, (fun h => by cases h), (fun _ h => by rw [hn] at h; cases h), fun _ _ => ⟨_, _, h2, (fun h => by rw [he] at h; cases h), ?_⟩, ⟨_, h3⟩, fun _ => rfl⟩
   obtain ⟨r, e, hr⟩ := h4.news_ge
   exact ⟨r, e, fun x hx => by have := hr x hx; omega⟩
  | succ k =>
   have := ih (k := k) (by simpa using h)
   simpa [Nat.add_assoc, Nat.add_comm 1 k] using this
theorem Lex.tmAt {i : Nat} {l : List Oper} {tm tm' : Tm} {s s' : AS} {nw nw' : News} {tr : List Ent} (h : Lex E call N ops an base i l tm s nw tr tm' s' nw') (d : Tmp) : ∀ {j k : Nat} {e : Ent}, tr[k]? = some e → e.tm.get d = curT (fun x => decide (x < j + k)) d j l tr (tm.get d) := by
 have step : ∀ {o : Oper} {l : List Oper} {tm tm1 tm' : Tm} {v : Value} {e0 : Ent} {tr : List Ent}, e0.tm = tm → e0.v = v → putA N tm o.dst v = some tm1 → (∀ {j k : Nat} {e : Ent}, tr[k]? = some e → e.tm.get d = curT (fun x => decide (x < j + k)) d j l tr (tm1.get d)) →
   ∀ {j k : Nat} {e : Ent}, (e0 :: tr)[k]? = some e → e.tm.get d = curT (fun x => decide (x < j + k)) d j (o :: l) (e0 :: tr) (tm.get d) := by
  intro o l tm tm1 tm' v e0 tr h1 h1' h2 ih j k e h
  cases k with
  | zero =>
   simp only [List.getElem?_cons_zero, Option.some.injEq] at h
   subst h
   rw [curT_none (fun k o _ _ => by simp), h1]
  | succ k =>
   rw [ih (j := j + 1) (by simpa using h)]
   simp only [curT]
   rw [putA_get h2, h1']
   simp only [show (j < j + (k + 1)) by omega, decide_true, true_and, show j + 1 + k = j + (k + 1) by omega]
 induction h with
 | nil => intro j k e h; simp at h
 | skip h1 h2 h3 ih => exact step (tm' := tm') rfl rfl h2 ih
 | fresh h1 hn h2 h3 h4 ih => exact step (tm' := tm') rfl rfl h3 ih
 | act h1 hn he h2 h3 h4 ih => exact step (tm' := tm') rfl rfl h3 ih
 | look h1 hn he h2 h3 h4 ih => exact step (tm' := tm') rfl rfl h3 ih
theorem Lex.tmEnd {i : Nat} {l : List Oper} {tm tm' : Tm} {s s' : AS} {nw nw' : News} {tr : List Ent} (h : Lex E call N ops an base i l tm s nw tr tm' s' nw') (d : Tmp) : ∀ {j : Nat} {L : Nat → Bool}, (∀ k, k < l.length → L (j + k) = true) → tm'.get d = curT L d j l tr (tm.get d) := by
 have step : ∀ {o : Oper} {l : List Oper} {tm tm1 tm' : Tm} {v : Value} {e0 : Ent} {tr : List Ent}, e0.v = v → putA N tm o.dst v = some tm1 → (∀ {j : Nat} {L : Nat → Bool}, (∀ k, k < l.length → L (j + k) = true) → tm'.get d = curT L d j l tr (tm1.get d)) →
   ∀ {j : Nat} {L : Nat → Bool}, (∀ k, k < (o :: l).length → L (j + k) = true) → tm'.get d = curT L d j (o :: l) (e0 :: tr) (tm.get d) := by
  intro o l tm tm1 tm' v e0 tr h1 h2 ih j L hL
  rw [ih (j := j + 1) (L := L) (fun k hk => by rw [show j + 1 + k = j + (k + 1) by omega]; exact hL _ (by simpa using hk))]
  simp only [curT]
  rw [putA_get h2, h1]
  have := hL 0 (by simp)
  simp only [Nat.add_zero] at this
  simp only [this, true_and]
 induction h with
 | nil => intro j L _; rfl
 | skip h1 h2 h3 ih => exact step rfl h2 ih
 | fresh h1 hn h2 h3 h4 ih => exact step rfl h3 ih
 | act h1 hn he h2 h3 h4 ih => exact step rfl h3 ih
 | look h1 hn he h2 h3 h4 ih => exact step rfl h3 ih
theorem Lex.sAt {i : Nat} {l : List Oper} {tm tm' : Tm} {s s' : AS} {nw nw' : News} {tr : List Ent} (h : Lex E call N ops an base i l tm s nw tr tm' s' nw') : ∀ {j k : Nat} {e : Ent}, tr[k]? = some e → e.s = curS E.ty (fun x => decide (x < j + k)) j l tr s := by
 have step : ∀ {o : Oper} {l : List Oper} {s s1 : AS} {e0 : Ent} {tr : List Ent}, e0.s = s → (eff E.ty o.op = true → e0.s' = s1) → (eff E.ty o.op = false → s1 = s) → (∀ {j k : Nat} {e : Ent}, tr[k]? = some e → e.s = curS E.ty (fun x => decide (x < j + k)) j l tr s1) →
   ∀ {j k : Nat} {e : Ent}, (e0 :: tr)[k]? = some e → e.s = curS E.ty (fun x => decide (x < j + k)) j (o :: l) (e0 :: tr) s := by
  intro o l s s1 e0 tr h1 h2 h3 ih j k e h
  cases k with
  | zero =>
   simp only [List.getElem?_cons_zero, Option.some.injEq] at h
   subst h
   rw [curS_none (fun k o _ _ => by simp), h1]
  | succ k =>
   rw [ih (j := j + 1) (by simpa using h)]
   simp only [curS]
   simp only [show (j < j + (k + 1)) by omega, decide_true, true_and, show j + 1 + k = j + (k + 1) by omega]
   cases he : eff E.ty o.op with
   | true => simp [h2 he]
   | false => simp [h3 he]
 induction h with
 | nil => intro j k e h; simp at h
 | skip h1 h2 h3 ih => exact step rfl (fun _ => rfl) (fun _ => rfl) ih
 | fresh h1 hn h2 h3 h4 ih => exact step rfl (fun _ => rfl) (fun _ => rfl) ih
 | act h1 hn he h2 h3 h4 ih => exact step rfl (fun _ => rfl) (fun h => by rw [he] at h; cases h) ih
 | look h1 hn he h2 h3 h4 ih => exact step rfl (fun _ => rfl) (fun _ => rfl) ih
theorem Lex.sEnd {i : Nat} {l : List Oper} {tm tm' : Tm} {s s' : AS} {nw nw' : News} {tr : List Ent} (h : Lex E call N ops an base i l tm s nw tr tm' s' nw') : ∀ {j : Nat} {L : Nat → Bool}, (∀ k, k < l.length → L (j + k) = true) → s' = curS E.ty L j l tr s := by
 have step : ∀ {o : Oper} {l : List Oper} {s s1 s' : AS} {e0 : Ent} {tr : List Ent}, (eff E.ty o.op = true → e0.s' = s1) → (eff E.ty o.op = false → s1 = s) → (∀ {j : Nat} {L : Nat → Bool}, (∀ k, k < l.length → L (j + k) = true) → s' = curS E.ty L j l tr s1) →
   ∀ {j : Nat} {L : Nat → Bool}, (∀ k, k < (o :: l).length → L (j + k) = true) → s' = curS E.ty L j (o :: l) (e0 :: tr) s := by
  intro o l s s1 s' e0 tr h2 h3 ih j L hL
  rw [ih (j := j + 1) (L := L) (fun k hk => by rw [show j + 1 + k = j + (k + 1) by omega]; exact hL _ (by simpa using hk))]
  simp only [curS]
  have := hL 0 (by simp)
  simp only [Nat.add_zero] at this
  simp only [this, true_and]
  cases he : eff E.ty o.op with
  | true => simp [h2 he]
  | false => simp [h3 he]
 induction h with
 | nil => intro j L _; rfl
 | skip h1 h2 h3 ih => exact step (fun _ => rfl) (fun _ => rfl) ih
 | fresh h1 hn h2 h3 h4 ih => exact step (fun _ => rfl) (fun _ => rfl) ih
 | act h1 hn he h2 h3 h4 ih => exact step (fun _ => rfl) (fun h => by rw [he] at h; cases h) ih
 | look h1 hn he h2 h3 h4 ih => exact step (fun _ => rfl) (fun _ => rfl) ih
theorem Lex.length {i : Nat} {l : List Oper} {tm tm' : Tm} {s s' : AS} {nw nw' : News} {tr : List Ent} (h : Lex E call N ops an base i l tm s nw tr tm' s' nw') : tr.length = l.length := by
 induction h with
 | nil => rfl
 | skip _ _ _ ih => simp [ih]
 | fresh _ _ _ _ _ ih => simp [ih]
 | act _ _ _ _ _ _ ih => simp [ih]
 | look _ _ _ _ _ _ ih => simp [ih]
theorem Lex.news {i : Nat} {l : List Oper} {tm tm' : Tm} {s s' : AS} {nw nw' : News} {tr : List Ent} (h : Lex E call N ops an base i l tm s nw tr tm' s' nw') : ∃ r, nw' = nw ++ r ∧ r.Pairwise (fun a b => a.1 ≠ b.1) ∧ ∀ x ∈ r, i ≤ x.1 ∧
  ∃ o e, l[x.1 - i]? = some o ∧ tr[x.1 - i]? = some e ∧ isNew o.op = true ∧ e.run = true ∧ e.x = x.2 := by
 have shift : ∀ {i : Nat} {o0 : Oper} {e0 : Ent} {l : List Oper} {tr : List Ent} {x : Nat × AObj}, (i + 1 ≤ x.1 ∧ ∃ o e, l[x.1 - (i + 1)]? = some o ∧ tr[x.1 - (i + 1)]? = some e ∧ isNew o.op = true ∧ e.run = true ∧ e.x = x.2) →
   i ≤ x.1 ∧ ∃ o e, (o0 :: l)[x.1 - i]? = some o ∧ (e0 :: tr)[x.1 - i]? = some e ∧ isNew o.op = true ∧ e.run = true ∧ e.x = x.2 := by
  intro i o0 e0 l tr x ⟨h1, o, e, h2, h3, h4⟩
  refine ⟨by omega, o, e, ?_, ?_, h4⟩
  ·rw [show x.1 - i = (x.1 - (i + 1)) + 1 by omega, List.getElem?_cons_succ]; exact h2
  ·rw [show x.1 - i = (x.1 - (i + 1)) + 1 by omega, List.getElem?_cons_succ]; exact h3
 induction h with
 | nil => exact ⟨[], by simp, .nil, by simp⟩
 | skip _ _ _ ih => obtain ⟨r, e, hp, h⟩ := ih; exact ⟨r, e, hp, fun x hx => shift (h x hx)⟩
 | fresh h1 hn h2 h3 h4 ih =>
  obtain ⟨r, e, hp, h⟩ := ih
  refine ⟨_ :: r, by rw [e, List.append_assoc]; rfl, List.pairwise_cons.2 ⟨fun x hx => ?_, hp⟩, fun x hx => ?_⟩
  ·have := (h x hx).1
   simp only
   omega
  ·rcases List.mem_cons.1 hx with rfl | hx
   ·exact ⟨Nat.le_refl _, _, _, by rw [Nat.sub_self]; rfl, by rw [Nat.sub_self]; rfl, hn, rfl, rfl⟩
   ·exact shift (h x hx)
 | act _ _ _ _ _ _ ih => obtain ⟨r, e, hp, h⟩ := ih; exact ⟨r, e, hp, fun x hx => shift (h x hx)⟩
 | look _ _ _ _ _ _ ih => obtain ⟨r, e, hp, h⟩ := ih; exact ⟨r, e, hp, fun x hx => shift (h x hx)⟩
end
end Go.Ax
/- Regions that draw their order: any order comes to what the lexical one comes to. -/
namespace Go.Ax
open Go
theorem foldl_bits (f : Edge → Nat) (i : Nat) : ∀ (l : List Edge) (b : Nat), (l.foldl (fun b e => b ||| 2 ^ e.on ||| f e) b).testBit i = true → b.testBit i = true ∨ ∃ e ∈ l, e.on = i ∨ (f e).testBit i = true
 | [], b, h => .inl h
 | e :: l, b, h => by
  rcases foldl_bits f i l _ h with h | ⟨x, hx, h⟩
  ·rw [Nat.testBit_or, Nat.testBit_or, Nat.testBit_two_pow] at h
   simp only [Bool.or_eq_true, decide_eq_true_eq] at h
   rcases h with (h | h) | h
   ·exact .inl h
   ·exact .inr ⟨e, by simp, .inl h⟩
   ·exact .inr ⟨e, by simp, .inr h⟩
  ·exact .inr ⟨x, by simp [hx], h⟩
theorem ancs_ext : ∀ (l : List Oper) (acc : List Nat), ∃ r, ancs l acc = acc ++ r
 | [], acc => ⟨[], by simp [ancs]⟩
 | o :: l, acc => by
  obtain ⟨r, h⟩ := ancs_ext l (acc ++ [(o.after.toList.filter bindsE).foldl (fun b e => b ||| 2 ^ e.on ||| acc.getD e.on 0) 0])
  refine ⟨[(o.after.toList.filter bindsE).foldl (fun b e => b ||| 2 ^ e.on ||| acc.getD e.on 0) 0] ++ r, ?_⟩
  rw [ancs, h, List.append_assoc]
theorem ancs_at : ∀ (l : List Oper) (acc : List Nat) (k : Nat) (o : Oper), l[k]? = some o → (∀ e ∈ o.after.toList.filter bindsE, e.on < acc.length + k) →
  (ancs l acc).getD (acc.length + k) 0 = (o.after.toList.filter bindsE).foldl (fun b e => b ||| 2 ^ e.on ||| (ancs l acc).getD e.on 0) 0
 | [], _, _, _, h, _ => by simp at h
 | o' :: l, acc, k, o, h, hlt => by
  rw [ancs]
  cases k with
  | zero =>
   simp only [List.getElem?_cons_zero, Option.some.injEq] at h
   subst h
   obtain ⟨r, hr⟩ := ancs_ext l (acc ++ [(o'.after.toList.filter bindsE).foldl (fun b e => b ||| 2 ^ e.on ||| acc.getD e.on 0) 0])
   rw [hr]
   have h1 : ∀ (xs : List Edge) (b : Nat), (∀ e ∈ xs, e.on < acc.length) → xs.foldl (fun b e => b ||| 2 ^ e.on ||| acc.getD e.on 0) b =
     xs.foldl (fun b e => b ||| 2 ^ e.on ||| (acc ++ [(o'.after.toList.filter bindsE).foldl (fun b e => b ||| 2 ^ e.on ||| acc.getD e.on 0) 0] ++ r).getD e.on 0) b := by
    intro xs
    induction xs with
    | nil => intro b _; rfl
    | cons x xs ih =>
     intro b hx
     simp only [List.foldl_cons]
     have : (acc ++ [(o'.after.toList.filter bindsE).foldl (fun b e => b ||| 2 ^ e.on ||| acc.getD e.on 0) 0] ++ r).getD x.on 0 = acc.getD x.on 0 := by
      have hxl := hx x (by simp)
      rw [List.getD_eq_getElem?_getD, List.getD_eq_getElem?_getD, List.append_assoc, List.getElem?_append_left hxl]
     rw [this]
     exact ih _ (fun e he => hx e (by simp [he]))
   rw [← h1 _ _ (by simpa using hlt)]
   rw [List.getD_eq_getElem?_getD, List.append_assoc, List.getElem?_append_right (by omega)]
   simp
  | succ k =>
   simp only [List.getElem?_cons_succ] at h
   have := ancs_at l (acc ++ [(o'.after.toList.filter bindsE).foldl (fun b e => b ||| 2 ^ e.on ||| acc.getD e.on 0) 0]) k o h (by intro e he; have := hlt e he; simp only [List.length_append, List.length_singleton]; omega)
   simp only [List.length_append, List.length_singleton] at this
   rw [show acc.length + (k + 1) = acc.length + 1 + k by omega]
   exact this
theorem anc_step {ops : List Oper} {j i : Nat} {o : Oper} (h : ops[j]? = some o) (hlt : ∀ e ∈ o.after.toList.filter bindsE, e.on < j) (hb : ((ancs ops []).getD j 0).testBit i = true) :
  ∃ e ∈ o.after.toList.filter bindsE, e.on = i ∨ ((ancs ops []).getD e.on 0).testBit i = true := by
 have := ancs_at ops [] j o h (by simpa using hlt)
 simp only [List.length_nil, Nat.zero_add] at this
 rw [this] at hb
 rcases foldl_bits _ i _ _ hb with h | h
 ·simp at h
 ·exact h
def Closed (ops : List Oper) (L : Nat → Bool) : Prop := ∀ (j : Nat) (o : Oper), ops[j]? = some o → L j = true → ∀ e ∈ o.after.toList.filter bindsE, L e.on = true
def EdgesOk (ops : List Oper) : Prop := ∀ (j : Nat) (o : Oper), ops[j]? = some o → ∀ e ∈ o.after.toList.filter bindsE, e.on < j
theorem closed_anc {ops : List Oper} (hE : EdgesOk ops) {L : Nat → Bool} (hC : Closed ops L) {i : Nat} : ∀ (j : Nat) (o : Oper), ops[j]? = some o → L j = true → ((ancs ops []).getD j 0).testBit i = true → L i = true := by
 intro j
 induction j using Nat.strongRecOn with
 | _ j ih =>
  intro o ho hL hb
  obtain ⟨e, he, h⟩ := anc_step ho (hE j o ho) hb
  have hLe := hC j o ho hL e he
  rcases h with h | h
  ·rw [← h]; exact hLe
  ·have hlt := hE j o ho e he
   have hj : j < ops.length := by
    rcases Nat.lt_or_ge j ops.length with h | h
    ·exact h
    ·rw [List.getElem?_eq_none h] at ho; cases ho
   exact ih e.on hlt _ (List.getElem?_eq_getElem (by omega)) hLe h
theorem ready_anc {ops : List Oper} (hE : EdgesOk ops) {L : Nat → Bool} (hC : Closed ops L) {i p : Nat} {o : Oper} (ho : ops[p]? = some o) (hr : ∀ e ∈ o.after.toList.filter bindsE, L e.on = true) (hb : ((ancs ops []).getD p 0).testBit i = true) : L i = true := by
 obtain ⟨e, he, h⟩ := anc_step ho (hE p o ho) hb
 have hLe := hr e he
 rcases h with h | h
 ·rw [← h]; exact hLe
 ·have hlt := hE p o ho e he
  have hj : p < ops.length := by
   rcases Nat.lt_or_ge p ops.length with h | h
   ·exact h
   ·rw [List.getElem?_eq_none h] at ho; cases ho
  exact closed_anc hE hC e.on _ (List.getElem?_eq_getElem (by omega)) hLe h
theorem mem_zipIdx {l : List Oper} {j : Nat} {o : Oper} (h : l[j]? = some o) : (o, j) ∈ l.zipIdx := by
 rw [List.mem_zipIdx_iff_getElem?]
 simpa using h
theorem binds_any (e : Edge) : Region.binds .any e = bindsE e := by
 obtain ⟨on, g⟩ := e
 cases g <;> rfl
theorem regOk_edges {ty : T TI} {ops : List Oper} (h : regOk ty ops = true) : EdgesOk ops := by
 intro j o ho e he
 rw [List.mem_filter] at he
 simp only [regOk, Bool.and_eq_true, List.all_eq_true] at h
 have := (h.1 (o, j) (mem_zipIdx ho)).1 e he.1
 simp only [plainEdge, he.2, Bool.not_true, Bool.false_or] at this
 simpa [Nat.blt_eq] using this
theorem regOk_pair {ty : T TI} {ops : List Oper} (h : regOk ty ops = true) {i j : Nat} {o p : Oper} (ho : ops[i]? = some o) (hp : ops[j]? = some p) (hij : i < j) :
  (eff ty o.op = true → eff ty p.op = true → ((ancs ops []).getD j 0).testBit i = true) ∧
  (∀ d, o.dst = some d → (d ∈ looks ops p ∨ p.dst = some d) → ((ancs ops []).getD j 0).testBit i = true) ∧
  (∀ d, p.dst = some d → d ∈ looks ops o → ((ancs ops []).getD j 0).testBit i = true) := by
 simp only [regOk, Bool.and_eq_true, List.all_eq_true] at h
 have := h.2 (o, i) (mem_zipIdx ho) (p, j) (mem_zipIdx hp)
 unfold pairOk at this
 rw [show Nat.blt i j = true by simpa [Nat.blt_eq] using hij, cond_true] at this
 simp only [Bool.and_eq_true] at this
 obtain ⟨⟨h1, h2⟩, h3⟩ := this
 refine ⟨fun a b => ?_, fun d hd hx => ?_, fun d hd hx => ?_⟩
 ·rw [a, b] at h1; simpa using h1
 ·rw [hd] at h2
  have hc : ((looks ops p).contains d || p.dst == some d) = true := by
   rcases hx with hx | hx
   ·simp [hx]
   ·simp [hx]
  simp only [hc, cond_true] at h2
  exact h2
 ·rw [hd] at h3
  have hc : (looks ops o).contains d = true := by simp [hx]
  simp only [hc, cond_true] at h3
  exact h3
end Go.Ax
/- New blocks of a region that draws its order: they stand in the world before they stand in the machine. -/
namespace Go.Ax
open Go
structure Pend (i : Io) (s : AS) (w : World) (b : Nat) (o : AObj) : Prop where
 none : s.h.get b = none
 at_ : ∃ q, i b = some (q, 0) ∧ q < w.heap.size ∧ OR i o w.heap[q]? 0 ∧ ∀ b' t, i b' = some (q, t) → b' = b ∨ (b' < 1000 ∧ obA s b' = .far)
 lim : i.lim b = (0, 0)
 alive : alive o = true
 free : fixed o = false
 unit : ∀ c n z, o = .cells c n z → zs z = 0
section
variable {i : Io} {s : AS} {w : World}
theorem obA_none {s : AS} {b : Nat} (h : s.h.get b = none) : obA s b = .far := by simp [obA, h]
theorem Pend.step {i' : Io} {s' : AS} {w' : World} {b : Nat} {o : AObj} (h : Pend i s w b o) (hf : Fr i s w i' s' w') : Pend i' s' w' b o := by
 obtain ⟨q, h1, h2, h3, h4⟩ := h.at_
 have hfar : fixed (obA s b) = true := by rw [obA_none h.none]; rfl
 have hfx : ∀ b' t, i b' = some (q, t) → fixed (obA s b') = true := by
  intro b' t e
  rcases h4 b' t e with rfl | ⟨_, e2⟩
  ·exact hfar
  ·rw [e2]; rfl
 refine ⟨by rw [hf.ro b _ h1 hfar]; exact h.none, ⟨q, hf.le _ _ h1, Nat.lt_of_lt_of_le h2 hf.size, ?_, ?_⟩, by rw [hf.le.lim _ _ h1]; exact h.lim, h.alive, h.free, h.unit⟩
 ·rw [hf.keep q h2 hfx]
  exact h3.mono hf.le
 ·intro b' t e
  rcases hf.new b' q t e with e1 | e1 | ⟨b0, t0, e1, e2⟩
  ·rcases h4 b' t e1 with rfl | ⟨e4, e3⟩
   ·exact .inl rfl
   ·refine .inr ⟨e4, ?_⟩
    rw [obA_same (hf.ro b' _ e1 (by rw [e3]; rfl))]
    exact e3
  ·omega
  ·rw [hfx b0 t0 e1] at e2; cases e2
theorem Rel.lay {b : Nat} {o : AObj} (h : Rel i s w) (hp : Pend i s w b o) : Rel i (s.upd b o) w := by
 obtain ⟨q, h1, h2, h3, h4⟩ := hp.at_
 have get : ∀ k, (s.upd b o).h.get k = if k = b then some o else s.h.get k := fun k => T.get_set _ _ _ _
 have hother : ∀ k y t, s.h.get k = some y → Go.Ax.alive y = true → i k = some (q, t) → k = b := by
  intro k y t hk ha e
  rcases h4 k t e with e1 | ⟨_, e1⟩
  ·exact e1
  ·rw [obA_some hk] at e1; subst e1; cases ha
 refine ⟨?_, ?_, ?_, ?_, ?_⟩
 ·intro k y hk ha
  rw [get] at hk
  by_cases e : k = b
  ·subst e; rw [if_pos rfl] at hk; cases hk; exact ⟨q, 0, h1, h3⟩
  ·rw [if_neg e] at hk; exact h.obj k y hk ha
 ·intro k k' y y' q1 t t' hk hk' ha ha' e e'
  rw [get] at hk hk'
  by_cases f : k = b <;> by_cases f' : k' = b
  ·rw [f, f']
  ·rw [if_neg f'] at hk'
   rw [f, h1] at e
   cases e
   exact absurd (hother k' y' t' hk' ha' e') f'
  ·rw [if_neg f] at hk
   rw [f', h1] at e'
   cases e'
   exact absurd (hother k y t hk ha e) f
  ·rw [if_neg f] at hk
   rw [if_neg f'] at hk'
   exact h.inj k k' y y' q1 t t' hk hk' ha ha' e e'
 ·intro k hk
  have := h.fresh k hk
  refine ⟨this.1, ?_⟩
  rw [get, if_neg (fun e => by subst e; rw [this.1] at h1; cases h1)]
  exact this.2
 ·intro k c n z q1 t hk e
  rw [get] at hk
  by_cases f : k = b
  ·subst f
   rw [if_pos rfl] at hk
   cases hk
   rw [hp.lim]
   exact ⟨(hp.unit c n z rfl).symm, fun _ _ _ _ => Nat.zero_le _⟩
  ·rw [if_neg f] at hk
   exact h.lim k c n z q1 t hk e
 ·intro k q1 t e hk
  rw [get] at hk
  by_cases f : k = b
  ·subst f; rw [h1] at e; cases e; exact h2
  ·rw [if_neg f] at hk
   exact h.dom k q1 t e hk
theorem Rel.reserve {b : Nat} {o : AObj} {x : Obj} {w1 : World} (h : Rel i s w) (hb : b < s.nx) (hi : i b = none) (hg : s.h.get b = none) (hw : w1.heap = (addB w x).heap)
  (hor : OR (ext i b (w.heap.size, 0)) o (some x) 0) (ha : Go.Ax.alive o = true) (hf : fixed o = false) (hu : ∀ c n z, o = .cells c n z → zs z = 0) :
  Rel (ext i b (w.heap.size, 0)) s w1 ∧ Pend (ext i b (w.heap.size, 0)) s w1 b o := by
 have hle : Le i (ext i b (w.heap.size, 0)) := ext_le hi
 have hnb : ∀ k y, s.h.get k = some y → k ≠ b := fun k y hk e => by subst e; rw [hg] at hk; cases hk
 have hsz : w1.heap.size = w.heap.size + 1 := by rw [hw, addB_size]
 refine ⟨⟨?_, ?_, ?_, ?_, ?_⟩, ⟨hg, ⟨w.heap.size, ext_same _ _ _, by omega, ?_, ?_⟩, ext_lim _ _ _, ha, hf, hu⟩⟩
 ·intro k y hk hal
  obtain ⟨q, t, e, hr⟩ := h.obj k y hk hal
  refine ⟨q, t, hle _ _ e, ?_⟩
  rw [hw, addB_old (h.dom k q t e (.inl (by rw [hk]; simp)))]
  exact hr.mono hle
 ·intro k k' y y' q t t' hk hk' hal hal' e e'
  rw [ext_ne (hnb k y hk)] at e
  rw [ext_ne (hnb k' y' hk')] at e'
  exact h.inj k k' y y' q t t' hk hk' hal hal' e e'
 ·intro k hk
  rw [ext_ne (by omega)]
  exact h.fresh k hk
 ·intro k c n z q t hk e
  rw [ext_ne (hnb k _ hk)] at e
  rw [ext_lim_ne (hnb k _ hk), hw, addB_old (h.dom k q t e (.inl (by rw [hk]; simp)))]
  exact h.lim k c n z q t hk e
 ·intro k q t e hk
  by_cases f : k = b
  ·rw [f, ext_same] at e; cases e; omega
  ·rw [ext_ne f] at e
   have := h.dom k q t e hk
   omega
 ·rw [hw, addB_new]
  exact hor
 ·intro b' t e
  by_cases f : b' = b
  ·exact .inl f
  ·rw [ext_ne f] at e
   right
   have hn : ¬ (s.h.get b' ≠ none ∨ 1000 ≤ b') := fun hh => by
    have := h.dom b' _ t e hh
    omega
   have hg' : s.h.get b' = none := Classical.byContradiction fun h => hn (.inl h)
   exact ⟨by omega, obA_none hg'⟩
theorem Rel.less {s1 : AS} (h : Rel i s1 w) (hn : s.nx = s1.nx) (hs : ∀ b o, s.h.get b = some o → s1.h.get b = some o) : Rel i s w := by
 refine ⟨fun b o hb ha => h.obj b o (hs b o hb) ha, fun b b' o o' q t t' hb hb' ha ha' e e' => h.inj b b' o o' q t t' (hs b o hb) (hs b' o' hb') ha ha' e e', fun b hb => ?_, fun b c n z q t hb e => h.lim b c n z q t (hs b _ hb) e, fun b q t e hb => h.dom b q t e (hb.imp (fun hb h1 => by
  cases hg : s.h.get b with
  | none => exact hb hg
  | some o => rw [hs b o hg] at h1; cases h1) id)⟩
 have := h.fresh b (by omega)
 refine ⟨this.1, ?_⟩
 cases hg : s.h.get b with
 | none => rfl
 | some o => rw [hs b o hg] at this; cases this.2
theorem Fr.reserve {i0 : Io} {s0 : AS} {w0 w1 : World} {b : Nat} {x : Obj} (h : Fr i0 s0 w0 i s w) (hb : s0.nx ≤ b) (hi : i b = none) (hw : w1.heap = (addB w x).heap) (h1 : w1.os = w.os) (h2 : w1.tape = w.tape) (h3 : w1.output = w.output) :
  Fr i0 s0 w0 (ext i b (w.heap.size, 0)) s w1 := by
 have hsz : w1.heap.size = w.heap.size + 1 := by rw [hw, addB_size]
 refine ⟨h.le.trans (ext_le hi), ?_, h1.trans h.os, h2.trans h.tape, h3.trans h.output, by have := h.size; omega, ?_, h.ro, h.nx, ?_, h.gone, h.stay⟩
 ·intro k q t e
  by_cases f : k = b
  ·rw [f, ext_same] at e; cases e; exact .inr (.inl h.size)
  ·rw [ext_ne f] at e; exact h.new k q t e
 ·intro q hq hn
  rw [hw, addB_old (Nat.lt_of_lt_of_le hq h.size)]
  exact h.keep q hq hn
 ·intro k hk e
  rw [ext_ne (by omega)]
  exact h.dom k hk e
theorem Fr.swap {i0 : Io} {s0 s1 : AS} {w0 : World} (h : Fr i0 s0 w0 i s w) (hn : s.nx = s1.nx) (hs : ∀ b, b < s0.nx → s1.h.get b = s.h.get b) (hf : ∀ b x, i0 b = some x → b < s0.nx) (hst : ∀ b, s0.h.get b ≠ none → s1.h.get b ≠ none) : Fr i0 s0 w0 i s1 w :=
 ⟨h.le, h.new, h.os, h.tape, h.output, h.size, h.keep, fun b x e hfx => by rw [hs b (hf b x e)]; exact h.ro b x e hfx, by rw [← hn]; exact h.nx, h.dom, fun b hb e g => by rw [hs b hb]; exact h.gone b hb e g, hst⟩
theorem laid_nx (base bits : Nat) : ∀ (nw : News) (s : AS), (laid base bits nw s).nx = s.nx
 | [], s => rfl
 | x :: nw, s => by
  have : laid base bits (x :: nw) s = laid base bits nw (bif bits.testBit x.1 then (match s.h.get (base + x.1) with
   | none => s.upd (base + x.1) x.2
   | some _ => s) else s) := rfl
  rw [this, laid_nx base bits nw]
  cases bits.testBit x.1 with
  | false => rfl
  | true =>
   simp only [cond_true]
   split <;> rfl
theorem laid_cons (base bits : Nat) (x : Nat × AObj) (nw : News) (s : AS) : laid base bits (x :: nw) s = laid base bits nw (bif bits.testBit x.1 then (match s.h.get (base + x.1) with
   | none => s.upd (base + x.1) x.2
   | some _ => s) else s) := rfl
theorem laid_keeps (base bits : Nat) : ∀ (nw : News) (s : AS) (k : Nat) (o : AObj), s.h.get k = some o → (laid base bits nw s).h.get k = some o
 | [], s, k, o, h => h
 | x :: nw, s, k, o, h => by
  rw [laid_cons]
  refine laid_keeps base bits nw _ k o ?_
  cases bits.testBit x.1 with
  | false => exact h
  | true =>
   simp only [cond_true]
   split
   ·rename_i hg
    show (s.h.set (base + x.1) x.2).get k = some o
    rw [T.get_set, if_neg (fun e => by rw [e, hg] at h; cases h)]
    exact h
   ·exact h
theorem laid_other (base bits : Nat) : ∀ (nw : News) (s : AS) (k : Nat), (∀ x ∈ nw, bits.testBit x.1 = true → k ≠ base + x.1) → (laid base bits nw s).h.get k = s.h.get k
 | [], s, k, h => rfl
 | x :: nw, s, k, h => by
  rw [laid_cons, laid_other base bits nw _ k (fun y hy => h y (by simp [hy]))]
  cases hb : bits.testBit x.1 with
  | false => rfl
  | true =>
   simp only [cond_true]
   split
   ·show (s.h.set (base + x.1) x.2).get k = _
    rw [T.get_set, if_neg (h x (by simp) hb)]
   ·rfl
theorem laid_append (base bits : Nat) (r : News) : ∀ (nw : News) (s : AS), (∀ x ∈ r, bits.testBit x.1 = false) → laid base bits (nw ++ r) s = laid base bits nw s := by
 have h0 : ∀ (r : News) (s : AS), (∀ x ∈ r, bits.testBit x.1 = false) → laid base bits r s = s := by
  intro r
  induction r with
  | nil => intro s _; rfl
  | cons x r ih =>
   intro s h
   rw [laid_cons, h x (by simp), cond_false]
   exact ih s (fun y hy => h y (by simp [hy]))
 intro nw
 induction nw with
 | nil => intro s h; exact h0 r s h
 | cons x nw ih =>
  intro s h
  rw [List.cons_append, laid_cons, laid_cons]
  exact ih _ h
theorem Pend.other {b b0 : Nat} {o o0 : AObj} (h : Pend i s w b o) (hne : b ≠ b0) (hb0 : 1000 ≤ b0) : Pend i (s.upd b0 o0) w b o := by
 obtain ⟨q, h1, h2, h3, h4⟩ := h.at_
 have get : ∀ k, (s.upd b0 o0).h.get k = if k = b0 then some o0 else s.h.get k := fun k => T.get_set _ _ _ _
 refine ⟨by rw [get, if_neg hne]; exact h.none, ⟨q, h1, h2, h3, fun b' t e => ?_⟩, h.lim, h.alive, h.free, h.unit⟩
 rcases h4 b' t e with e1 | ⟨e1, e2⟩
 ·exact .inl e1
 ·refine .inr ⟨e1, ?_⟩
  have : obA (s.upd b0 o0) b' = obA s b' := obA_same (by rw [get, if_neg (by omega)])
  rw [this]
  exact e2
theorem Rel.laid {base bits : Nat} (hbase : 1000 ≤ base) : ∀ {nw : News} {s : AS}, Rel i s w → nw.Pairwise (fun a b => a.1 ≠ b.1) → (∀ x ∈ nw, bits.testBit x.1 = true → s.h.get (base + x.1) = none → Pend i s w (base + x.1) x.2) → Rel i (Go.Ax.laid base bits nw s) w
 | [], s, h, _, _ => h
 | x :: nw, s, h, hp, hq => by
  rw [List.pairwise_cons] at hp
  rw [laid_cons]
  cases hb : bits.testBit x.1 with
  | false =>
   simp only [cond_false]
   exact Rel.laid hbase h hp.2 (fun y hy => hq y (by simp [hy]))
  | true =>
   simp only [cond_true]
   split
   ·rename_i hg
    refine Rel.laid hbase (h.lay (hq x (by simp) hb hg)) hp.2 (fun y hy hyb hyg => ?_)
    have hne : base + y.1 ≠ base + x.1 := fun e => hp.1 y hy (by omega)
    refine (hq y (by simp [hy]) hyb ?_).other hne (by omega)
    have : (s.upd (base + x.1) x.2).h.get (base + y.1) = if base + y.1 = base + x.1 then some x.2 else s.h.get (base + y.1) := T.get_set _ _ _ _
    rw [this, if_neg hne] at hyg
    exact hyg
   ·exact Rel.laid hbase h hp.2 (fun y hy => hq y (by simp [hy]))
theorem Pend.laid {base bits : Nat} (hbase : 1000 ≤ base) {b : Nat} {o : AObj} : ∀ {nw : News} {s : AS}, Pend i s w b o → (∀ x ∈ nw, bits.testBit x.1 = true → b ≠ base + x.1) → Pend i (Go.Ax.laid base bits nw s) w b o
 | [], s, h, _ => h
 | x :: nw, s, h, hq => by
  rw [laid_cons]
  refine Pend.laid hbase ?_ (fun y hy => hq y (by simp [hy]))
  cases hb : bits.testBit x.1 with
  | false => exact h
  | true =>
   simp only [cond_true]
   split
   ·exact h.other (hq x (by simp) hb) (by omega)
   ·exact h
theorem Pend.reserve {b b1 : Nat} {o : AObj} {x : Obj} {w1 : World} (h : Pend i s w b o) (hi : i b1 = Option.none) (hw : w1.heap = (addB w x).heap) : Pend (ext i b1 (w.heap.size, 0)) s w1 b o := by
 obtain ⟨q, h1, h2, h3, h4⟩ := h.at_
 have hne : b ≠ b1 := fun e => by subst e; rw [hi] at h1; cases h1
 refine ⟨h.none, ⟨q, by rw [ext_ne hne]; exact h1, by rw [hw, addB_size]; omega, ?_, fun b' t e => ?_⟩, by rw [ext_lim_ne hne]; exact h.lim, h.alive, h.free, h.unit⟩
 ·rw [hw, addB_old h2]
  exact h3.mono (ext_le hi)
 ·by_cases f : b' = b1
  ·rw [f, ext_same] at e; cases e; omega
  ·rw [ext_ne f] at e; exact h4 b' t e
theorem laid_val (base bits : Nat) : ∀ (nw : News) (s : AS), nw.Pairwise (fun a b => a.1 ≠ b.1) → ∀ x ∈ nw, bits.testBit x.1 = true → s.h.get (base + x.1) = none → (Go.Ax.laid base bits nw s).h.get (base + x.1) = some x.2
 | [], s, _, x, hx, _, _ => by cases hx
 | y :: nw, s, hp, x, hx, hb, hg => by
  rw [List.pairwise_cons] at hp
  rw [laid_cons]
  rcases List.mem_cons.1 hx with rfl | hx
  ·rw [hb, cond_true, hg]
   exact laid_keeps base bits nw _ _ _ (T.get_set_same _ _ _)
  ·have hne : base + x.1 ≠ base + y.1 := fun e => hp.1 x hx (by omega)
   refine laid_val base bits nw _ hp.2 x hx hb ?_
   cases hby : bits.testBit y.1 with
   | false => exact hg
   | true =>
    simp only [cond_true]
    split
    ·show (s.h.set (base + y.1) y.2).get _ = none
     rw [T.get_set, if_neg hne]
     exact hg
    ·exact hg
end
end Go.Ax
/- Regions that draw their order: the walk through any order. -/
namespace Go.Ax
open Go
section
variable {dl : List Deferred} {E : Env} {call : CallF} {N : Nat}
theorem slots_mem : ∀ {l : List Operand} {d : Tmp}, Operand.tmp d ∈ l → d ∈ slotsOf l
 | x :: l, d, h => by
  rcases List.mem_cons.1 h with h | h
  ·subst h; simp [slotsOf]
  ·have := slots_mem h
   cases x <;> simp [slotsOf, this]
def Lof (a : Array Bool) : Nat → Bool := fun j => a.getD j false
def ReadsOk (E : Env) (call : CallF) (ops : List Oper) (base : Nat) (nw : News) (tr : List Ent) (s : AS) : Prop :=
 ∀ (L : Nat → Bool) (p : Nat) (o : Oper) (e : Ent), Closed ops L → L p = false → (∀ x ∈ o.after.toList.filter bindsE, L x.on = true) → ops[p]? = some o → tr[p]? = some e → eff E.ty o.op = false → isNew o.op = false → e.run = true →
  execA o.op E call e.tm (laid base ((ancs ops []).getD p 0) nw (curS E.ty L 0 ops tr s)) = some (e.v, laid base ((ancs ops []).getD p 0) nw (curS E.ty L 0 ops tr s))
structure Inv (dl : List Deferred) (E : Env) (N : Nat) (ops : List Oper) (tr : List Ent) (base : Nat) (nw : News) (tm : Tm) (s : AS) (i0 : Io) (s0 : AS) (w0 : World) (L : Nat → Bool) (a : Act) (w : World) : Prop where
 ex : ∃ (i : Io) (t : Tm), (∀ d, t.get d = curT L d 0 ops tr (tm.get d)) ∧ AR dl i t N a ∧ Rel i (curS E.ty L 0 ops tr s) w ∧ Fr i0 s0 w0 i (curS E.ty L 0 ops tr s) w ∧ Gl i ∧
  (∀ x ∈ nw, L x.1 = true → (curS E.ty L 0 ops tr s).h.get (base + x.1) = none → Pend i (curS E.ty L 0 ops tr s) w (base + x.1) x.2) ∧
  (∀ (p : Nat) (o : Oper), ops[p]? = some o → isNew o.op = true → L p = false → i (base + p) = none ∧ (curS E.ty L 0 ops tr s).h.get (base + p) = none) ∧ (∀ (p : Nat) (o : Oper), ops[p]? = some o → isNew o.op = true → base + p < (curS E.ty L 0 ops tr s).nx)
 closed : Closed ops L
def rest (n : Nat) (L : Nat → Bool) : Nat := (List.range n).countP fun j => !L j
theorem rest_lt {n p : Nat} {L : Nat → Bool} (hp : p < n) (h : L p = false) : rest n (fun j => L j || j == p) < rest n L := by
 unfold rest
 induction n with
 | zero => omega
 | succ n ih =>
  rw [List.range_succ, List.countP_append, List.countP_append]
  by_cases e : p = n
  ·subst e
   have h1 : (List.range p).countP (fun j => !(L j || j == p)) = (List.range p).countP (fun j => !L j) := by
    apply List.countP_congr
    intro x hx
    have : x ≠ p := by have := List.mem_range.1 hx; omega
    simp [this]
   rw [h1]
   simp [h]
  ·have h0 : (List.range n).countP (fun j => !(L j || j == p)) < (List.range n).countP (fun j => !L j) := ih (by omega)
   have h2 : List.countP (fun j => !(L j || j == p)) [n] ≤ List.countP (fun j => !L j) [n] := by
    have : (n == p) = false := by simpa using fun h => e h.symm
    simp [this]
   exact Nat.add_lt_add_of_lt_of_le h0 h2
theorem draw_any (hT : TyOk E) (hC : CallOk E.P call) {ops : Array Oper} {tm tm' : Tm} {s s' : AS} {tr : List Ent} {base : Nat} {nw : News}
    (hl : Lex E call N ops.toList (ancs ops.toList []) base 0 ops.toList tm s [] tr tm' s' nw) (hok : regOk E.ty ops.toList = true) (hrd : ReadsOk E call ops.toList base nw tr s)
    {i0 : Io} {s0 : AS} {w0 : World} (hb0 : s0.nx = base) (hbase : 1000 ≤ base) (hdom : ∀ b x, i0 b = some x → b < s0.nx) (hget0 : ∀ b, s0.nx ≤ b → s0.h.get b = none) {Q : Exit → Act → World → Prop} (hK : Then dl i0 s0 w0 tm' (laid base (allBits ops.toList.length) nw s') N (Q .normal)) :
    ∀ (fuel : Nat) (listed : Array Bool) (a : Act) (w : World), listed.size = ops.size → rest ops.size (Lof listed) ≤ fuel → Inv dl E N ops.toList tr base nw tm s i0 s0 w0 (Lof listed) a w → wpAny E.P .any ops Q fuel listed a w := by
  have hE := regOk_edges hok
  obtain ⟨nr, hnr, hnp, hnf⟩ := hl.news
  rw [List.nil_append] at hnr
  subst hnr
  have hlt : ∀ {j : Nat} {o : Oper}, ops.toList[j]? = some o → j < ops.size := by
    intro j o h
    rcases Nat.lt_or_ge j ops.toList.length with h' | h'
    · simpa using h'
    · rw [List.getElem?_eq_none h'] at h; cases h
  have hnwlt : ∀ x ∈ nw, x.1 < ops.toList.length := by
    intro x hx
    obtain ⟨_, o, e, h1, _⟩ := hnf x hx
    have := hlt h1
    simpa using this
  have hs0 : ∀ b, s0.h.get b ≠ none → b < base := fun b h => by
    rcases Nat.lt_or_ge b base with h' | h'
    · exact h'
    · exact absurd (hget0 b (by omega)) h
  have hend : ∀ (listed : Array Bool) (a : Act) (w : World), listed.size = ops.size → Region.ready .any ops listed = [] → Inv dl E N ops.toList tr base nw tm s i0 s0 w0 (Lof listed) a w → Q .normal a w := by
    intro listed a w hsz hr hI
    have hall : ∀ j, j < ops.size → Lof listed j = true := by
      intro j
      induction j using Nat.strongRecOn with
      | _ j ih =>
        intro hj
        cases hL : Lof listed j with
        | true => rfl
        | false =>
          exfalso
          have ho : ops[j]? = some ops[j] := Array.getElem?_eq_getElem hj
          have : j ∈ Region.ready .any ops listed := by
            unfold Region.ready
            rw [List.mem_filter]
            refine ⟨List.mem_range.2 hj, ?_⟩
            have h1 : listed.getD j true = false := by
              have : listed.getD j false = false := hL
              rw [Array.getD_eq_getD_getElem?, Array.getElem?_eq_getElem (by omega)] at this ⊢
              exact this
            rw [h1, ho]
            simp only [Bool.not_false, Bool.true_and, Option.map_some, Option.getD_some]
            rw [← Array.all_toList, List.all_eq_true]
            intro e he
            rw [binds_any]
            cases hbe : bindsE e with
            | false => rfl
            | true =>
              have g1 := hE j ops[j] (by rw [Array.getElem?_toList]; exact ho) e (List.mem_filter.2 ⟨he, hbe⟩)
              have := ih e.on g1 (by omega)
              unfold Lof at this
              rw [this]
              simp
          rw [hr] at this
          cases this
    obtain ⟨i, t, h1, h2, h3, h4, h5, h6, h7, h8⟩ := hI.ex
    have hs := hl.sEnd (j := 0) (L := Lof listed) (fun k hk => by simpa using hall k (by simpa using hk))
    rw [← hs] at h3 h4 h6
    have hlaid := h3.laid hbase (bits := allBits ops.toList.length) hnp (fun x hx _ hg => h6 x hx (hall _ (by simpa using hnwlt x hx)) hg)
    refine hK i w a hlaid (h4.swap (laid_nx _ _ _ _).symm (fun b hb => laid_other _ _ _ _ _ (fun x _ _ => by omega)) hdom (fun b hb => ?_)) ⟨?_, h2.size, h2.defers⟩
    · have := h4.stay b hb
      cases hg : s'.h.get b with
      | none => exact absurd hg this
      | some o => rw [laid_keeps _ _ _ _ _ _ hg]; simp
    · intro k v e
      have ht := hl.tmEnd k (j := 0) (L := Lof listed) (fun k hk => by simpa using hall k (by simpa using hk))
      refine h2.tm k v ?_
      rw [h1 k, ← ht]
      exact e
  intro fuel
  induction fuel with
  | zero =>
    intro listed a w hsz hrest hI
    have hnil : Region.ready .any ops listed = [] := by
      rw [List.eq_nil_iff_forall_not_mem]
      intro j hj
      unfold Region.ready at hj
      rw [List.mem_filter] at hj
      obtain ⟨hj1, hj2⟩ := hj
      have hj1 := List.mem_range.1 hj1
      simp only [Bool.and_eq_true, Bool.not_eq_true'] at hj2
      have h0 : (List.range ops.size).countP (fun j => !Lof listed j) = 0 := Nat.le_zero.1 hrest
      rw [List.countP_eq_zero] at h0
      have := h0 j (List.mem_range.2 hj1)
      have h2 : Lof listed j = false := by
        have := hj2.1
        unfold Lof
        rw [Array.getD_eq_getD_getElem?, Array.getElem?_eq_getElem (by omega)] at this ⊢
        exact this
      rw [h2] at this
      simp at this
    exact ⟨hnil, hend listed a w hsz hnil hI⟩
  | succ fuel ih =>
    intro listed a w hsz hrest hI
    refine ⟨fun hr => hend listed a w hsz hr hI, fun p hp => ?_⟩
    unfold Region.ready at hp
    rw [List.mem_filter] at hp
    obtain ⟨hp1, hp2⟩ := hp
    have hpn := List.mem_range.1 hp1
    have ho : ops[p]? = some ops[p] := Array.getElem?_eq_getElem hpn
    generalize ops[p] = o at ho
    have hoL : ops.toList[p]? = some o := by rw [Array.getElem?_toList]; exact ho
    simp only [Bool.and_eq_true, Bool.not_eq_true', ho, Option.map_some, Option.getD_some] at hp2
    have hLp : Lof listed p = false := by
      have := hp2.1
      unfold Lof
      rw [Array.getD_eq_getD_getElem?, Array.getElem?_eq_getElem (by omega)] at this ⊢
      exact this
    have hready : ∀ e ∈ o.after.toList.filter bindsE, Lof listed e.on = true := by
      have := hp2.2
      rw [← Array.all_toList, List.all_eq_true] at this
      intro e he
      rw [List.mem_filter] at he
      have h1 := this e he.1
      rw [binds_any, he.2] at h1
      simpa [Lof] using h1
    have hcl := hI.closed
    have hL' : Lof (listed.setIfInBounds p true) = fun j => Lof listed j || j == p := by
      funext j
      unfold Lof
      rw [Array.getD_eq_getD_getElem?, Array.getElem?_setIfInBounds]
      by_cases e : p = j
      · subst e
        rw [if_pos rfl, if_pos (by omega)]
        simp
      · rw [if_neg e, ← Array.getD_eq_getD_getElem?]
        have : (j == p) = false := by simpa using fun h => e h.symm
        simp [this]
    have hcl' : Closed ops.toList (fun j => Lof listed j || j == p) := by
      intro j o' ho' hj e he
      simp only [Bool.or_eq_true, beq_iff_eq] at hj ⊢
      rcases hj with hj | hj
      · exact .inl (hcl j o' ho' hj e he)
      · subst hj
        rw [hoL] at ho'
        cases ho'
        exact .inl (hready e he)
    obtain ⟨e, hte, hwant, hskip, hnew, hrun, ⟨tm1, hput⟩, hstill⟩ := hl.ent hoL
    rw [Nat.zero_add] at hnew hrun
    have hslot : ∀ d, (d ∈ looks ops.toList o) → ∀ (k : Nat) (o' : Oper), ops.toList[k]? = some o' → o'.dst = some d → Lof listed k = decide (k < p) := by
      intro d hd k o' hk hdk
      rcases Nat.lt_trichotomy k p with h | h | h
      · have := (regOk_pair hok hk hoL h).2.1 d hdk (.inl hd)
        rw [ready_anc hE hcl hoL hready this]
        simp [h]
      · subst h
        rw [hLp]
        simp
      · have := (regOk_pair hok hoL hk h).2.2 d hdk hd
        cases hLk : Lof listed k with
        | true => rw [closed_anc hE hcl k o' hk hLk this] at hLp; cases hLp
        | false => simp; omega
    have hlater : ∀ d, o.dst = some d → ∀ (k : Nat) (o' : Oper), p < k → ops.toList[k]? = some o' → o'.dst = some d → Lof listed k = false := by
      intro d hd k o' hpk hk hdk
      have := (regOk_pair hok hoL hk hpk).2.1 d hd (.inr hdk)
      cases hLk : Lof listed k with
      | true => rw [closed_anc hE hcl k o' hk hLk this] at hLp; cases hLp
      | false => rfl
    have heff : eff E.ty o.op = true → ∀ (k : Nat) (o' : Oper), ops.toList[k]? = some o' → eff E.ty o'.op = true → Lof listed k = decide (k < p) := by
      intro he k o' hk hek
      rcases Nat.lt_trichotomy k p with h | h | h
      · have := (regOk_pair hok hk hoL h).1 hek he
        rw [ready_anc hE hcl hoL hready this]
        simp [h]
      · subst h
        rw [hLp]
        simp
      · have := (regOk_pair hok hoL hk h).1 he hek
        cases hLk : Lof listed k with
        | true => rw [closed_anc hE hcl k o' hk hLk this] at hLp; cases hLp
        | false => simp; omega
    obtain ⟨i, t, h1, h2, h3, h4, h5, h6, h7, h8⟩ := hI.ex
    have hget : ∀ d, d ∈ looks ops.toList o → t.get d = e.tm.get d := by
      intro d hd
      rw [h1 d, hl.tmAt d (j := 0) hte]
      exact curT_congr (fun k o' hk hdk => by simpa using hslot d hd k o' hk hdk)
    have hev : ∀ x ∈ o.op.operands, ev t x = ev e.tm x := by
      intro x hx
      cases x with
      | tmp d => exact hget d (by unfold looks; exact List.mem_append_left _ (slots_mem (Array.mem_toList_iff.2 hx)))
      | _ => rfl
    have hwant' : wantedA ops.toList t o = some e.run := by
      rw [← hwant]
      unfold wantedA
      split
      · rfl
      · rename_i j want hg
        split
        · rename_i o' ho'
          split
          · rename_i d hd
            rw [hget d (by unfold looks; rw [hg]; simp only [ho']; exact List.mem_append_right _ (by simp [hd]))]
          · rfl
        · rfl
    have hput' : ∃ t1, putA N t o.dst e.v = some t1 ∧ ∀ d, t1.get d = curT (fun j => Lof listed j || j == p) d 0 ops.toList tr (tm.get d) := by
      have hp1 : ∃ t1, putA N t o.dst e.v = some t1 := by
        cases hd : o.dst with
        | none => exact ⟨t, rfl⟩
        | some d =>
          rw [hd] at hput
          unfold putA at hput ⊢
          simp only at hput ⊢
          cases hb : Nat.ble d N with
          | true => exact ⟨_, rfl⟩
          | false => rw [hb] at hput; cases hput
      obtain ⟨t1, ht1⟩ := hp1
      refine ⟨t1, ht1, fun d => ?_⟩
      rw [putA_get ht1]
      by_cases hd : o.dst = some d
      · rw [if_pos hd]
        symm
        refine curT_last hoL hte hd (by simp) (fun k o' hk hko hdk => ?_)
        have := hlater d hd k o' hk hko hdk
        simp only [Nat.zero_add, this, Bool.false_or]
        simp
        omega
      · rw [if_neg hd, h1 d]
        refine curT_congr (fun k o' hk hdk => ?_)
        have : k ≠ p := fun h => by subst h; rw [hoL] at hk; cases hk; exact hd hdk
        simp [this]
    have hsE : eff E.ty o.op = true → curS E.ty (Lof listed) 0 ops.toList tr s = e.s := by
      intro he
      rw [hl.sAt (j := 0) hte]
      exact curS_congr (fun k o' hk hek => by simpa using heff he k o' hk hek)
    have hsN : curS E.ty (fun j => Lof listed j || j == p) 0 ops.toList tr s = if eff E.ty o.op = true then e.s' else curS E.ty (Lof listed) 0 ops.toList tr s := by
      cases he : eff E.ty o.op with
      | true =>
        rw [if_pos rfl]
        refine curS_last hoL hte he (by simp) (fun k o' hk hko hek => ?_)
        have := heff he k o' hko hek
        simp only [Nat.zero_add, this]
        simp
        omega
      | false =>
        rw [if_neg (by simp)]
        refine curS_congr (fun k o' hk hek => ?_)
        have : k ≠ p := fun h => by subst h; rw [hoL] at hk; cases hk; rw [he] at hek; cases hek
        simp [this]
    obtain ⟨t1, ht1, hcur⟩ := hput'
    generalize hS : curS E.ty (Lof listed) 0 ops.toList tr s = S at h3 h4 h6 h7 h8 hsE hsN
    generalize hS' : curS E.ty (fun j => Lof listed j || j == p) 0 ops.toList tr s = S' at hsN
    have hnext : ∀ (i1 : Io) (w1 : World) (v' : Value), Le i i1 → VR i1 e.v v' → Rel i1 S' w1 → Fr i0 s0 w0 i1 S' w1 →
        (∀ x ∈ nw, (Lof listed x.1 || x.1 == p) = true → S'.h.get (base + x.1) = none → Pend i1 S' w1 (base + x.1) x.2) →
        (∀ (q : Nat) (o' : Oper), ops.toList[q]? = some o' → isNew o'.op = true → Lof listed q = false → q ≠ p → i1 (base + q) = none ∧ S'.h.get (base + q) = none) → (∀ (q : Nat) (o' : Oper), ops.toList[q]? = some o' → isNew o'.op = true → base + q < S'.nx) →
        wpAny E.P .any ops Q fuel (listed.setIfInBounds p true) (a.put o.dst v') w1 := by
      intro i1 w1 v' hle hv hR hF hpd hun hnx
      refine ih _ _ _ (by simp [hsz]) ?_ ?_
      · rw [hL']
        have := rest_lt hpn hLp
        omega
      · rw [hL']
        refine ⟨⟨i1, t1, hcur, (h2.mono hle).put hv ht1, by rw [hS']; exact hR, by rw [hS']; exact hF, h5.mono hle, by rw [hS']; exact hpd, ?_, by rw [hS']; exact hnx⟩, hcl'⟩
        intro q o' hq hnq hLq
        rw [hS']
        have : Lof listed q = false ∧ q ≠ p := by
          constructor
          · cases hh : Lof listed q with
            | false => rfl
            | true => rw [hh] at hLq; cases hLq
          · intro e1; subst e1; simp at hLq
        exact hun q o' hq hnq this.1 this.2
    have hnotnew : (isNew o.op = true → e.run = false) → ∀ x ∈ nw, (Lof listed x.1 || x.1 == p) = true → Lof listed x.1 = true := by
      intro hnn x hx hLx
      rcases Bool.or_eq_true _ _ ▸ hLx with h | h
      · exact h
      · exfalso
        have hxp : x.1 = p := by simpa using h
        obtain ⟨_, o', e', k1, k2, k3, k4, _⟩ := hnf x hx
        rw [Nat.sub_zero, hxp] at k1 k2
        rw [hoL] at k1
        cases k1
        rw [hte] at k2
        cases k2
        rw [hnn k3] at k4
        cases k4
    unfold wpOp
    rw [ho]
    simp only
    cases hrn : e.run with
    | false =>
      rw [hrn] at hwant'
      rw [if_neg (by rw [wanted_eq h2.tm hwant']; simp)]
      obtain ⟨k1, k2⟩ := hskip hrn
      have hsame : S' = S := by
        rw [hsN]
        cases he : eff E.ty o.op with
        | true => rw [if_pos rfl, k2, hsE he]
        | false => rw [if_neg (by simp)]
      rw [hsame] at hnext
      exact hnext i w undef (.refl i) (by rw [k1]; exact .undef i) h3 h4 (fun x hx hLx hg => h6 x hx (hnotnew (fun _ => hrn) x hx hLx) hg) (fun q o' hq hnq hLq _ => h7 q o' hq hnq hLq) h8
    | true =>
      rw [hrn] at hwant'
      rw [if_pos (wanted_eq h2.tm hwant')]
      left
      cases hisn : isNew o.op with
      | true =>
        have hne := new_noeff (ty := E.ty) hisn
        rw [hne, if_neg (by simp)] at hsN
        obtain ⟨hnA, hmem⟩ := hnew hrn hisn
        have hnA' : newA o.op E t (base + p) = some (e.v, e.x) := by
          unfold newA at hnA ⊢
          rw [opA_congr _ hev]
          exact hnA
        obtain ⟨m, hm, v', x, w1, g1, g2, g3, g4, g5, g6, g7, g8, g9⟩ := newA_sim (w := w) hT hisn (h2.tm.tr h5) hnA'
        obtain ⟨u1, u2⟩ := h7 p o hoL hisn hLp
        have hpl := h8 p o hoL hisn
        have hle : Le i (ext i (base + p) (w.heap.size, 0)) := ext_le u1
        obtain ⟨g10, g11⟩ := g9 _ hle (ext_same _ _ _)
        obtain ⟨R1, R2⟩ := h3.reserve (o := e.x) (w1 := w1) (x := x) hpl u1 u2 g2 g11 g7 g8 g6
        unfold Oper.wp
        rw [hm]
        simp only [Sem.run_bind, g1, Result.andThen_ok, Sem.run_pure]
        show wpAny E.P .any ops Q fuel (listed.setIfInBounds p true) (a.put o.dst v') w1
        rw [hsN] at hnext
        refine hnext _ w1 v' hle g10 R1 (h4.reserve (by omega) u1 g2 g3 g4 g5) (fun y hy hLy hg => ?_) (fun q o' hq hnq hLq hqp => ?_) h8
        · by_cases hyp : y.1 = p
          · obtain ⟨_, o', e', k1, k2, k3, k4, k5⟩ := hnf y hy
            rw [Nat.sub_zero, hyp] at k1 k2
            rw [hte] at k2
            cases k2
            rw [hyp, ← k5]
            exact R2
          · have hLy' : Lof listed y.1 = true := by
              rcases Bool.or_eq_true _ _ ▸ hLy with h | h
              · exact h
              · exact absurd (by simpa using h) hyp
            exact (h6 y hy hLy' hg).reserve u1 g2
        · obtain ⟨v1, v2⟩ := h7 q o' hq hnq hLq
          exact ⟨by rw [ext_ne (by omega)]; exact v1, v2⟩
      | false =>
        obtain ⟨nw1, s1', hx1, hx2, r, hr1, hr2⟩ := hrun hrn hisn
        have hanc : ∀ k, ((ancs ops.toList []).getD p 0).testBit k = true → Lof listed k = true := fun k hk => ready_anc hE hcl hoL hready hk
        have hS1R : Rel i (laid base ((ancs ops.toList []).getD p 0) nw S) w := h3.laid hbase hnp (fun x hx hb hg => h6 x hx (hanc _ hb) hg)
        have hS1F : Fr i0 s0 w0 i (laid base ((ancs ops.toList []).getD p 0) nw S) w := h4.swap (laid_nx _ _ _ _).symm (fun b hb => laid_other _ _ _ _ _ (fun x _ _ => by omega)) hdom (fun b hb => by
          have := h4.stay b hb
          cases hg : S.h.get b with
          | none => exact absurd hg this
          | some o => rw [laid_keeps _ _ _ _ _ _ hg]; simp)
        have hunex : ∀ (q : Nat) (o' : Oper), ops.toList[q]? = some o' → isNew o'.op = true → Lof listed q = false → (laid base ((ancs ops.toList []).getD p 0) nw S).h.get (base + q) = none := fun q o' hq hnq hLq => by
          rw [laid_other _ _ _ _ _ (fun x hx hb e1 => by
            have : q = x.1 := by omega
            subst this
            rw [hanc _ hb] at hLq
            cases hLq)]
          exact (h7 q o' hq hnq hLq).2
        have hnn : ∀ x ∈ nw, (Lof listed x.1 || x.1 == p) = true → Lof listed x.1 = true := hnotnew (fun h => by rw [hisn] at h; cases h)
        have hbnx : ∀ (q : Nat) (o' : Oper), ops.toList[q]? = some o' → isNew o'.op = true → base + q < (laid base ((ancs ops.toList []).getD p 0) nw S).nx := fun q o' hq hnq => by rw [laid_nx]; exact h8 q o' hq hnq
        cases he : eff E.ty o.op with
        | true =>
          rw [he, if_pos rfl] at hsN
          have hx : execA o.op E call t (laid base ((ancs ops.toList []).getD p 0) nw S) = some (e.v, S') := by
            rw [execA_congr hev, hsE he, hsN, hx2 he]
            rw [hr1, laid_append _ _ _ _ _ (fun x hx => ?_)]
            · exact hx1
            · cases hb : ((ancs ops.toList []).getD p 0).testBit x.1 with
              | false => rfl
              | true =>
                obtain ⟨e1, he1, h'⟩ := anc_step hoL (hE p o hoL) hb
                have l1 := hE p o hoL e1 he1
                have l2 := hr2 x hx
                have hlow : ∀ j : Nat, j ≤ p → ((ancs ops.toList []).getD j 0).testBit x.1 = true → x.1 < p := by
                  intro j
                  induction j using Nat.strongRecOn with
                  | _ j ihj =>
                    intro hjp hbj
                    have hjl : j < ops.toList.length := by have : p < ops.toList.length := by simpa using hpn
                                                           omega
                    obtain ⟨e2, he2, h2'⟩ := anc_step (List.getElem?_eq_getElem hjl) (hE j _ (List.getElem?_eq_getElem hjl)) hbj
                    have l3 := hE j _ (List.getElem?_eq_getElem hjl) e2 he2
                    rcases h2' with h2' | h2'
                    · omega
                    · exact ihj e2.on l3 (by omega) h2'
                have := hlow p (Nat.le_refl _) hb
                omega
          refine execA_wp hT hC o hS1R h5 (h2.tm.tr h5) hx (fun v' w' i' hv hR hF => ?_)
          refine hnext i' w' v' hF.le hv hR (hS1F.trans hF) (fun x hx hLx hg => ?_) (fun q o' hq hnq hLq hqp => ?_) (fun q o' hq hnq => ?_)
          · have hLx' := hnn x hx hLx
            have hg1 : (laid base ((ancs ops.toList []).getD p 0) nw S).h.get (base + x.1) = none := Classical.byContradiction fun h => hF.stay _ h hg
            have hg0 : S.h.get (base + x.1) = none := by
              cases hh : S.h.get (base + x.1) with
              | none => rfl
              | some y => rw [laid_keeps _ _ _ _ _ _ hh] at hg1; cases hg1
            refine (Pend.laid hbase (h6 x hx hLx' hg0) (fun y hy hb e1 => ?_)).step hF
            have hyx : y.1 = x.1 := by omega
            rw [hyx] at hb
            rw [laid_val _ _ _ _ hnp x hx hb hg0] at hg1
            cases hg1
          · exact ⟨hF.dom _ (hbnx q o' hq hnq) (h7 q o' hq hnq hLq).1, hF.gone _ (hbnx q o' hq hnq) (h7 q o' hq hnq hLq).1 (hunex q o' hq hnq hLq)⟩
          · exact Nat.lt_of_lt_of_le (hbnx q o' hq hnq) hF.nx
        | false =>
          rw [he, if_neg (by simp)] at hsN
          have hx : execA o.op E call t (laid base ((ancs ops.toList []).getD p 0) nw S) = some (e.v, laid base ((ancs ops.toList []).getD p 0) nw S) := by
            have := hrd (Lof listed) p o e hcl hLp hready hoL hte he hisn hrn
            rw [hS] at this
            rw [execA_congr hev]
            exact this
          refine execA_wp hT hC o hS1R h5 (h2.tm.tr h5) hx (fun v' w' i' hv hR hF => ?_)
          have hkeepS : ∀ b o, S.h.get b = some o → (laid base ((ancs ops.toList []).getD p 0) nw S).h.get b = some o := fun b o h => laid_keeps _ _ _ _ _ _ h
          rw [hsN] at hnext
          have hdomEq : ∀ b' x, i' b' = some x → i b' = some x := by
            intro b' x hx'
            have hb' : b' < (laid base ((ancs ops.toList []).getD p 0) nw S).nx := by
              rcases Nat.lt_or_ge b' (laid base ((ancs ops.toList []).getD p 0) nw S).nx with h | h
              · exact h
              · rw [(hR.fresh b' h).1] at hx'; cases hx'
            cases hi : i b' with
            | none => rw [hF.dom b' hb' hi] at hx'; cases hx'
            | some y => rw [← hx']; exact (hF.le _ _ hi).symm
          refine hnext i' w' v' hF.le hv (hR.less (laid_nx _ _ _ _).symm hkeepS) ((hS1F.trans hF).swap (laid_nx _ _ _ _) (fun b hb => (laid_other _ _ _ _ _ (fun x _ _ => by omega)).symm) hdom h4.stay) (fun x hx hLx hg => ?_) (fun q o' hq hnq hLq hqp => ⟨?_, (h7 q o' hq hnq hLq).2⟩) h8
          · have hP := h6 x hx (hnn x hx hLx) hg
            obtain ⟨q, q1, q2, q3, q4⟩ := hP.at_
            have hOR : OR i' x.2 w'.heap[q]? 0 := by
              cases hb : ((ancs ops.toList []).getD p 0).testBit x.1 with
              | true =>
                have hv1 := laid_val base _ nw S hnp x hx hb hg
                exact hR.at (P := E.P) hv1 hP.alive (hF.le _ _ q1)
              | false =>
                have hP1 := (Pend.laid (bits := (ancs ops.toList []).getD p 0) hbase hP (fun y hy hb' e1 => by
                  have hyx : y.1 = x.1 := by omega
                  rw [hyx, hb] at hb'
                  cases hb')).step hF
                obtain ⟨q', r1, r2, r3, r4⟩ := hP1.at_
                rw [hF.le _ _ q1] at r1
                cases r1
                exact r3
            exact ⟨hg, ⟨q, hF.le _ _ q1, Nat.lt_of_lt_of_le q2 hF.size, hOR, fun b' t e1 => q4 b' t (hdomEq b' _ e1)⟩, by rw [hF.le.lim _ _ q1]; exact hP.lim, hP.alive, hP.free, hP.unit⟩
          · exact hF.dom _ (hbnx q o' hq hnq) (h7 q o' hq hnq hLq).1
end
end Go.Ax
/- Regions that draw their order: reads, and the whole. -/
namespace Go.Ax
open Go
theorem veq1_eq {a b : Value} (h : veq1 a b = true) : a = b := by
 unfold veq1 at h
 split at h <;> first
  | (cases h; done)
  | rfl
  | (simp only [Bool.and_eq_true, beq_iff_eq] at h; obtain ⟨⟨h1, h2⟩, h3⟩ := h; subst h1; subst h2; subst h3; rfl)
  | (simp only [Bool.and_eq_true, beq_iff_eq] at h; obtain ⟨h1, h2⟩ := h; subst h1; subst h2; rfl)
  | (simp only [beq_iff_eq] at h; subst h; rfl)
theorem veqs_eq {e : Value → Value → Bool} (he : ∀ {a b}, e a b = true → a = b) : ∀ {a b : List Value}, veqs e a b = true → a = b
 | [], [], _ => rfl
 | [], _ :: _, h => by cases h
 | _ :: _, [], h => by cases h
 | a :: l, b :: m, h => by
  simp only [veqs, Bool.and_eq_true] at h
  rw [he h.1, veqs_eq he h.2]
theorem veqF_eq {e : Value → Value → Bool} (he : ∀ {a b}, e a b = true → a = b) {a b : Value} (h : veqF e a b = true) : a = b := by
 unfold veqF at h
 split at h
 ·simp only [Bool.and_eq_true, beq_iff_eq] at h
  obtain ⟨⟨h1, h2⟩, h3⟩ := h
  have e2 := Array.toList_inj.1 (veqs_eq he h2)
  have e3 := Array.toList_inj.1 (veqs_eq he h3)
  subst h1; subst e2; subst e3; rfl
 ·simp only [Bool.and_eq_true, beq_iff_eq] at h
  rw [h.1, he h.2]
 ·rw [Array.toList_inj.1 (veqs_eq he h)]
 ·exact veq1_eq h
theorem veq_eq {a b : Value} (h : veq a b = true) : a = b := veqF_eq (fun h => veqF_eq (fun h => veqF_eq (fun h => veq1_eq h) h) h) h
noncomputable def cnt (ty : T TI) (L : Nat → Bool) : Nat → List Oper → Nat
 | _, [] => 0
 | j, o :: l => (if (eff ty o.op && L j) = true then 1 else 0) + cnt ty L (j + 1) l
theorem cnt_filter (ty : T TI) (L : Nat → Bool) : ∀ (l : List Oper) (j : Nat), ((l.zipIdx j).filter fun (x : Oper × Nat) => eff ty x.1.op && L x.2).length = cnt ty L j l
 | [], j => rfl
 | o :: l, j => by
  rw [List.zipIdx_cons, List.filter_cons, cnt, ← cnt_filter ty L l (j + 1)]
  simp only
  cases eff ty o.op && L j with
  | true => simp; omega
  | false => simp
theorem cnt_mono {ty : T TI} {L L' : Nat → Bool} : ∀ {l : List Oper} {j : Nat}, (∀ (k : Nat) (o : Oper), l[k]? = some o → eff ty o.op = true → L (j + k) = true → L' (j + k) = true) → cnt ty L j l ≤ cnt ty L' j l
 | [], _, _ => Nat.le_refl _
 | o :: l, j, h => by
  simp only [cnt]
  have h1 := cnt_mono (ty := ty) (L := L) (L' := L') (l := l) (j := j + 1) (fun k o' hk he hL => by
   have := h (k + 1) o' (by simpa using hk) he (by rwa [show j + (k + 1) = j + 1 + k by omega])
   rwa [show j + (k + 1) = j + 1 + k by omega] at this)
  have h0 := h 0 o rfl
  simp only [Nat.add_zero] at h0
  cases he : eff ty o.op with
  | false => simp; exact h1
  | true =>
   cases hL : L j with
   | false => simp; omega
   | true => rw [h0 he hL]; simp; exact h1
theorem curS_nth {ty : T TI} {L : Nat → Bool} : ∀ {l : List Oper} {tr : List Ent} {j : Nat} {acc : AS}, l.length ≤ tr.length → (∀ (a b : Nat) (o p : Oper), a < b → l[a]? = some o → l[b]? = some p → eff ty o.op = true → eff ty p.op = true → L (j + b) = true → L (j + a) = true) →
  (acc :: effS ty l tr)[cnt ty L j l]? = some (curS ty L j l tr acc)
 | [], tr, j, acc, _, _ => by simp [cnt, curS]
 | _ :: _, [], _, _, h, _ => by simp at h
 | o :: l, e :: tr, j, acc, hlen, h => by
  have hlen' : l.length ≤ tr.length := by simpa using hlen
  have h' : ∀ (a b : Nat) (o p : Oper), a < b → l[a]? = some o → l[b]? = some p → eff ty o.op = true → eff ty p.op = true → L (j + 1 + b) = true → L (j + 1 + a) = true := by
   intro a b o1 p1 hab ha hb he1 he2 hL
   have := h (a + 1) (b + 1) o1 p1 (by omega) (by simpa using ha) (by simpa using hb) he1 he2 (by rwa [show j + (b + 1) = j + 1 + b by omega])
   rwa [show j + (a + 1) = j + 1 + a by omega] at this
  simp only [cnt, curS, effS]
  cases he : eff ty o.op with
  | false =>
   simp only [Bool.false_and, Bool.false_eq_true, if_false, and_false, Nat.zero_add]
   exact curS_nth hlen' h'
  | true =>
   cases hL : L j with
   | true =>
    simp only [Bool.true_and, if_true, and_self]
    rw [Nat.add_comm, List.getElem?_cons_succ]
    exact curS_nth hlen' h'
   | false =>
    have hno : ∀ (k : Nat) (o' : Oper), l[k]? = some o' → eff ty o'.op = true → L (j + 1 + k) = false := by
     intro k o' hk hek
     cases hLk : L (j + 1 + k) with
     | false => rfl
     | true =>
      have := h 0 (k + 1) o o' (by omega) rfl (by simpa using hk) he hek (by rwa [show j + (k + 1) = j + 1 + k by omega])
      simp only [Nat.add_zero] at this
      rw [hL] at this
      cases this
    have hc0 : cnt ty L (j + 1) l = 0 := by
     have := cnt_mono (ty := ty) (L := L) (L' := fun _ => false) (l := l) (j := j + 1) (fun k o' hk hek hLk => by rw [hno k o' hk hek] at hLk; cases hLk)
     have h2 : ∀ (l : List Oper) (j : Nat), cnt ty (fun _ => false) j l = 0 := by
      intro l
      induction l with
      | nil => intro j; rfl
      | cons x l ih => intro j; simp [cnt, ih]
     rw [h2] at this
     omega
    simp only [Bool.and_false, Bool.false_eq_true, if_false, false_and, hc0, Nat.add_zero, List.getElem?_cons_zero]
    rw [curS_none hno]
section
variable {dl : List Deferred} {E : Env} {call : CallF} {N : Nat}
theorem anc_lt {ops : List Oper} (hE : EdgesOk ops) {k : Nat} : ∀ (j : Nat), j < ops.length → ((ancs ops []).getD j 0).testBit k = true → k < j := by
 intro j
 induction j using Nat.strongRecOn with
 | _ j ih =>
  intro hj hb
  obtain ⟨e, he, h⟩ := anc_step (List.getElem?_eq_getElem hj) (hE j _ (List.getElem?_eq_getElem hj)) hb
  have hlt := hE j _ (List.getElem?_eq_getElem hj) e he
  rcases h with h | h
  ·omega
  ·have := ih e.on hlt (by omega) h
   omega
theorem drawOk (hm : E.P.follows .mixedOrders = true) (hT : TyOk E) (hC : CallOk E.P call) : DrawOk E call := by
 intro N ops tm tm' s s' h hok dl i w a Q id hR hg ha hK
 have hE := regOk_edges hok
 have hbase : 1000 ≤ s.nx := by
  rcases Nat.lt_or_ge s.nx 1000 with h | h
  ·have := hg s.nx h
   rw [(hR.fresh _ (Nat.le_refl _)).1] at this
   cases this
  ·exact h
 have hstart : ∀ k, Rel i ⟨s.h, s.nx + k⟩ w ∧ Fr i s w i ⟨s.h, s.nx + k⟩ w := fun k =>
  ⟨⟨hR.obj, hR.inj, fun b hb => hR.fresh b (by have : s.nx + k ≤ b := hb; omega), hR.lim, hR.dom⟩,
   ⟨.refl i, fun _ _ _ h => .inl h, rfl, rfl, rfl, Nat.le_refl _, fun _ _ _ => rfl, fun _ _ _ _ => rfl, Nat.le_add_right _ _, fun _ _ h => h, fun _ _ _ h => h, fun _ h => h⟩⟩
 have hdom : ∀ b x, i b = some x → b < s.nx := by
  intro b x e
  rcases Nat.lt_or_ge b s.nx with h | h
  ·exact h
  ·rw [(hR.fresh b h).1] at e; cases e
 suffices hs : ∃ k tr nw s2, (∀ (p : Nat) (o : Oper), ops.toList[p]? = some o → isNew o.op = true → p < k) ∧ Lex E call N ops.toList (ancs ops.toList []) s.nx 0 ops.toList tm ⟨s.h, s.nx + k⟩ [] tr tm' s2 nw ∧ ReadsOk E call ops.toList s.nx nw tr ⟨s.h, s.nx + k⟩ ∧ (Then dl i s w tm' (laid s.nx (allBits ops.toList.length) nw s2) N (Q .normal)) by
  obtain ⟨k, tr, nw, s2, hkn, hl, hrd, hK2⟩ := hs
  obtain ⟨hR1, hF1⟩ := hstart k
  have hL0 : ∀ j, Lof (Array.replicate ops.size false) j = false := by
   intro j
   unfold Lof
   rw [Array.getD_eq_getD_getElem?, Array.getElem?_replicate]
   split <;> rfl
  refine wp_region_any hm (draw_any hT hC hl hok hrd (w0 := { w with drawn := w.drawn + 1 }) (i0 := i) (s0 := s) rfl hbase hdom (fun b hb => (hR.fresh b hb).2) (hK2.head (Fr.same rfl rfl rfl rfl)) _ _ _ _ (by simp) ?_ ⟨⟨i, tm, ?_, ha, ?_, ?_, hg, ?_, ?_, ?_⟩, ?_⟩)
  ·unfold rest
   exact Nat.le_trans List.countP_le_length (by simp)
  ·intro d
   rw [curT_none (fun k o _ _ => hL0 _)]
  ·rw [curS_none (fun k o _ _ => hL0 _)]
   exact hR1.same rfl
  ·rw [curS_none (fun k o _ _ => hL0 _)]
   exact ⟨hF1.le, hF1.new, rfl, rfl, rfl, Nat.le_refl _, fun _ _ _ => rfl, hF1.ro, hF1.nx, hF1.dom, hF1.gone, hF1.stay⟩
  ·intro x _ hx
   rw [hL0] at hx
   cases hx
  ·intro p o hp hn _
   rw [curS_none (fun k o _ _ => hL0 _)]
   exact hR.fresh (s.nx + p) (by omega)
  ·intro p o hp hn
   rw [curS_none (fun k o _ _ => hL0 _)]
   have := hkn p o hp hn
   show s.nx + p < s.nx + k
   omega
  ·intro j o _ hj
   rw [hL0] at hj
   cases hj
 unfold drawnA at h
 cases hany : (ops.toList.any fun o => eff E.ty o.op || isNew o.op) with
 | false =>
  rw [hany, cond_false] at h
  have hno : ∀ o ∈ ops.toList, eff E.ty o.op = false ∧ isNew o.op = false := by
   intro o ho
   have := List.any_eq_false.1 hany o ho
   simp only [Bool.not_eq_true, Bool.or_eq_false_iff] at this
   exact this
  obtain ⟨tr, hl⟩ := lex_of_runL (an := ancs ops.toList []) (base := s.nx) (i := 0) hno h
  refine ⟨0, tr, [], s', (fun p o hp hn => by rw [(hno o (List.mem_of_getElem? hp)).2] at hn; cases hn), hl, ?_, hK⟩
  intro L p o e hcl hLp hready ho hte he hn hrun
  have hs0 : ∀ (L : Nat → Bool), curS E.ty L 0 ops.toList tr s = s := fun L => curS_none (fun k o hk hek => by rw [(hno o (List.mem_of_getElem? hk)).1] at hek; cases hek)
  obtain ⟨e', hte', _, _, _, hx, _, _⟩ := hl.ent ho
  rw [hte] at hte'
  cases hte'
  obtain ⟨nw1, sx, hx1, _, r, hr1, hr2⟩ := hx hrun hn
  have hn1 : nw1 = [] := by
   cases nw1 with
   | nil => rfl
   | cons a l => cases hr1
  have hes : e.s = s := by rw [hl.sAt (j := 0) hte]; exact hs0 _
  subst hn1
  rw [laid_nil, hes] at hx1
  show execA o.op E call e.tm (laid s.nx _ [] (curS E.ty L 0 ops.toList tr s)) = some (e.v, laid s.nx _ [] (curS E.ty L 0 ops.toList tr s))
  rw [laid_nil, hs0]
  rw [execA_op he] at hx1 ⊢
  rw [opA_still he hn hx1] at hx1
  exact hx1
 | true =>
  rw [hany, cond_true, natK_eq] at h
  split at h
  ·cases h
  ·rename_i tm1 s2 ss rs nw hrunD
   cases hall : rs.all (readOk E ops.toList (ancs ops.toList []) s.nx ss) with
   | false => rw [hall] at h; cases h
   | true =>
    rw [hall, cond_true] at h
    cases h
    obtain ⟨tr, hl, hss, _, hrs⟩ := lex_of_runD hrunD
    refine ⟨ops.toList.length, tr, nw, s2, fun p o hp _ => (List.getElem?_eq_some_iff.1 hp).1, hl, ?_, hK⟩
    intro L p o e hcl hLp hready ho hte he hn hrun
    have hpn : p < ops.toList.length := by
     rcases Nat.lt_or_ge p ops.toList.length with h | h
     ·exact h
     ·rw [List.getElem?_eq_none h] at ho; cases ho
    obtain ⟨e', hte', _, _, _, hx, _, _⟩ := hl.ent ho
    rw [hte] at hte'
    cases hte'
    obtain ⟨nw1, sx, hx1, _, r, hr1, hr2⟩ := hx hrun hn
    rw [Nat.zero_add] at hx1 hr2
    rw [execA_op he] at hx1 ⊢
    cases hse : sees o.op with
    | false =>
     have := opA_blind he hn hse hx1 (laid s.nx ((ancs ops.toList []).getD p 0) nw (curS E.ty L 0 ops.toList tr ⟨s.h, s.nx + ops.toList.length⟩))
     exact this
    | true =>
     obtain ⟨nw2, hmem, r2, hr3, hr4⟩ := hrs p o e ho hte he hn hrun
     have hrd := List.all_eq_true.1 hall _ hmem
     unfold readOk at hrd
     simp only [hse, Bool.not_true, cond_false, List.all_eq_true, Nat.zero_add] at hrd hr4
     have hnth := curS_nth (ty := E.ty) (L := L) (l := ops.toList) (tr := tr) (j := 0) (acc := ⟨s.h, s.nx + ops.toList.length⟩) (by rw [hl.length]; exact Nat.le_refl _) (fun a b o1 p1 hab ha hb e1 e2 hLb => by
      simp only [Nat.zero_add] at hLb ⊢
      exact closed_anc hE hcl b p1 hb hLb ((regOk_pair hok ha hb hab).1 e1 e2))
     have hin : (curS E.ty L 0 ops.toList tr ⟨s.h, s.nx + ops.toList.length⟩, cnt E.ty L 0 ops.toList) ∈ ss.zipIdx := by
      rw [List.mem_zipIdx_iff_getElem?, hss]
      exact hnth
     have := hrd _ hin
     simp only at this
     have hlo : effIn E.ty ops.toList ((ancs ops.toList []).getD p 0) ≤ cnt E.ty L 0 ops.toList := by
      unfold effIn
      refine Nat.le_trans (Nat.le_of_eq (cnt_filter E.ty (fun j => ((ancs ops.toList []).getD p 0).testBit j) ops.toList 0)) ?_
      refine cnt_mono (fun k o' hk hek hb => ?_)
      simp only [Nat.zero_add] at hb ⊢
      exact ready_anc hE hcl ho hready hb
     have hhi : cnt E.ty L 0 ops.toList ≤ effNot E.ty ops.toList (ancs ops.toList []) p := by
      unfold effNot
      refine Nat.le_trans ?_ (Nat.le_of_eq (cnt_filter E.ty (fun j => !((ancs ops.toList []).getD j 0).testBit p) ops.toList 0).symm)
      refine cnt_mono (fun k o' hk hek hLk => ?_)
      simp only [Nat.zero_add] at hLk ⊢
      cases hb : ((ancs ops.toList []).getD k 0).testBit p with
      | false => rfl
      | true => rw [closed_anc hE hcl k o' hk hLk hb] at hLp; cases hLp
     rw [show (Nat.ble (effIn E.ty ops.toList ((ancs ops.toList []).getD p 0)) (cnt E.ty L 0 ops.toList) && Nat.ble (cnt E.ty L 0 ops.toList) (effNot E.ty ops.toList (ancs ops.toList []) p)) = true by
      rw [Bool.and_eq_true]; exact ⟨by simpa using hlo, by simpa using hhi⟩, cond_true] at this
     have hnw : laid s.nx ((ancs ops.toList []).getD p 0) nw2 (curS E.ty L 0 ops.toList tr ⟨s.h, s.nx + ops.toList.length⟩) = laid s.nx ((ancs ops.toList []).getD p 0) nw (curS E.ty L 0 ops.toList tr ⟨s.h, s.nx + ops.toList.length⟩) := by
      rw [hr3, laid_append _ _ _ _ _ (fun x hx => ?_)]
      cases hb : ((ancs ops.toList []).getD p 0).testBit x.1 with
      | false => rfl
      | true =>
       have := anc_lt hE p hpn hb
       have := hr4 x hx
       omega
     rw [hnw] at this
     split at this
     ·rename_i v s3 hop
      rw [opA_still he hn hop] at hop
      rw [veq_eq this] at hop
      exact hop
     ·cases this
theorem callA_sound (hm : E.P.follows .mixedOrders = true) (hT : TyOk E) (hB : BackOk E) (hF : FnOk E) (hP : PrimOk E) (F D : Nat) : CallOk E.P (callA E F D) :=
 callA_ok hT hB hF hP (fun _ hC => drawOk hm hT hC) F D
end
end Go.Ax
/- The abstract machine's tables of a program: types and functions. -/
namespace Go.Ax
open Go
def zok1 : Value → Bool
 | .bool _ | .int _ _ | .float _ _ | .string _ | .pointer none | .slice none 0 0 | .map none | .nilFunc | .nilIface => true
 | _ => false
def zok : Value → Bool
 | .agg cs => cs.toList.all zok1
 | v => zok1 v
theorem zok1_vr {v : Value} (h : zok1 v = true) (i : Io) : VR i v v := by
 unfold zok1 at h
 split at h <;> first
  | (cases h; done)
  | exact .bool _
  | exact .int _ _
  | exact .float _ _
  | exact .string _
  | exact .nilp
  | exact .nils rfl
  | exact .nilm
  | exact .nilFunc
  | exact .nilIface
theorem zok1_vrs (i : Io) : ∀ {l : List Value}, l.all zok1 = true → VRs i l l
 | [], _ => .nil
 | v :: l, h => by
  simp only [List.all_cons, Bool.and_eq_true] at h
  exact .cons (zok1_vr h.1 i) (zok1_vrs i h.2)
theorem zok_vr {v : Value} (h : zok v = true) (i : Io) : VR i v v := by
 unfold zok at h
 split at h
 ·exact .agg (zok1_vrs i h)
 ·exact zok1_vr h i
def zeroL (info : TypeInfo) : List Value :=
 match info.zero with
 | some v => v.cells.toList
 | none => []
def isAggV : Value → Bool
 | .agg _ => true
 | _ => false
def tyGood (info : TypeInfo) (d : TypeDesc) : Bool :=
 match info.zero with
 | some v => zok v && (isAggV v == isAggD d) && Nat.beq (zeroL info).length info.size
 | none => false
theorem tyOk_of {E : Env} (h : ∀ t ti, E.ty.get t = some ti → ∃ info, E.P.info? t = some info ∧ E.P.underlying t = some ti.desc ∧ info.size = ti.size ∧ info.bytes = ti.bytes ∧ zeroL info = ti.zero ∧ tyGood info ti.desc = true) : TyOk E := by
 refine ⟨fun t ti ht => ?_⟩
 obtain ⟨info, h1, h2, h3, h4, h5, h6⟩ := h t ti ht
 refine ⟨info, h1, h2, h3, h4, ?_⟩
 unfold tyGood at h6
 unfold zeroL at h5 h6
 cases hz : info.zero with
 | none => rw [hz] at h6; cases h6
 | some zv =>
  rw [hz] at h5 h6
  simp only [Bool.and_eq_true, beq_iff_eq, Nat.beq_eq] at h5 h6
  obtain ⟨⟨g1, g2⟩, g3⟩ := h6
  refine ⟨zv, rfl, h5, fun i => zok_vr g1 i, fun ha => ?_, fun ha => ?_, by rw [← h5, g3, h3]⟩
  ·rw [ha] at g2
   cases zv <;> first | (cases g2; done) | skip
   rename_i cs
   rw [← h5]
   rfl
  ·rw [ha] at g2
   cases zv <;> first | (cases g2; done) | (rw [← h5]; rfl)
noncomputable def T.fillO {α : Type} (t : T α) (i : Nat) (l : List (Option α)) : T α :=
 List.rec (motive := fun _ => Nat → T α → T α) (fun _ t => t) (fun x _ ih i t => ih (i + 1) (t.put i x)) l i t
theorem T.fillO_nil {α : Type} (t : T α) (i : Nat) : t.fillO i [] = t := rfl
theorem T.fillO_cons {α : Type} (t : T α) (i : Nat) (x : Option α) (l : List (Option α)) : t.fillO i (x :: l) = (t.put i x).fillO (i + 1) l := rfl
theorem T.get_fillO {α : Type} (l : List (Option α)) : ∀ (t : T α) (i j : Nat), (t.fillO i l).get j = if i ≤ j ∧ j < i + l.length then (l[j - i]?).join else t.get j := by
 induction l with
 | nil => intro t i j; rw [T.fillO_nil]; simp; omega
 | cons x l ih =>
  intro t i j
  rw [T.fillO_cons, ih, T.get_put]
  simp only [List.length_cons]
  by_cases h1 : j = i
  ·subst h1; rw [if_neg (by omega), if_pos rfl, if_pos (by omega)]; simp
  ·by_cases h2 : i + 1 ≤ j ∧ j < i + 1 + l.length
   ·rw [if_pos h2, if_pos (by omega), List.getElem?_cons, if_neg (by omega)]
    congr 2
   ·rw [if_neg h2, if_neg h1, if_neg (by omega)]
def undOf (P : Program) (info : TypeInfo) : TypeDesc :=
 match info.desc with
 | .named _ u => ((P.types[u]?).map (·.desc)).getD .invalid
 | d => d
def tiOf (P : Program) (info : TypeInfo) : TI := ⟨undOf P info, info.size, zeroL info, info.bytes⟩
def namedOk (P : Program) (info : TypeInfo) : Bool :=
 match info.desc with
 | .named _ u => Nat.blt u P.types.size
 | _ => true
def tyL (P : Program) : List (Option TI) := P.types.toList.map fun info => bif namedOk P info && tyGood info (undOf P info) then some (tiOf P info) else none
theorem info_lt {P : Program} {t : TypeId} (h : t < P.types.size) : P.info? t = P.types[t]? := by
 unfold Tables.info?
 rw [if_pos h]
theorem tyOk_tab {E : Env} (h : E.ty = T.e.fillO 0 (tyL E.P)) : TyOk E := by
 refine tyOk_of (fun t ti ht => ?_)
 rw [h, T.get_fillO] at ht
 split at ht
 ·rename_i hr
  simp only [Nat.sub_zero, tyL, List.getElem?_map] at ht
  cases hi : E.P.types.toList[t]? with
  | none => rw [hi] at ht; cases ht
  | some info =>
   rw [hi] at ht
   simp only [Option.map_some, Option.join_some] at ht
   cases hg : (namedOk E.P info && tyGood info (undOf E.P info)) with
   | false => rw [hg] at ht; cases ht
   | true =>
    rw [hg] at ht
    cases ht
    simp only [Bool.and_eq_true] at hg
    have hi' : E.P.info? t = some info := by
     have hlt : t < E.P.types.size := by
      have := (List.getElem?_eq_some_iff.1 hi).1
      simpa using this
     rw [info_lt hlt, ← Array.getElem?_toList]
     exact hi
    refine ⟨info, hi', ?_, rfl, rfl, rfl, hg.2⟩
    have hn := hg.1
    unfold Program.underlying
    rw [hi']
    simp only [tiOf, undOf]
    unfold namedOk at hn
    cases hd : info.desc with
    | named s u =>
     rw [hd] at hn
     have hlt : u < E.P.types.size := by simpa [Nat.blt_eq] using hn
     obtain ⟨desc, str, size, bytes, hp, al, fa, zero, comp, ms⟩ := info
     simp only at hd
     subst hd
     simp only
     rw [info_lt hlt, Array.getElem?_eq_getElem hlt]
     rfl
    | _ =>
     obtain ⟨desc, str, size, bytes, hp, al, fa, zero, comp, ms⟩ := info
     simp only at hd
     subst hd
     rfl
 ·cases ht
noncomputable def fnGood (ty : T TI) (fn : Func) : Bool := !(fn.name == "runtime.NumGoroutine") && (match fn.body with
 | some c => codeOk ty c
 | none => true)
noncomputable def fnL (ty : T TI) (P : Program) : List (Option Func) := P.funcs.toList.map fun fn => bif fnGood ty fn then some fn else none
theorem fnOk_tab {E : Env} (h : E.fn = T.e.fillO 0 (fnL E.ty E.P)) : FnOk E := by
 refine ⟨fun f fn hf => ?_⟩
 rw [h, T.get_fillO] at hf
 split at hf
 ·simp only [Nat.sub_zero, fnL, List.getElem?_map] at hf
  cases hi : E.P.funcs.toList[f]? with
  | none => rw [hi] at hf; cases hf
  | some fn' =>
   rw [hi] at hf
   simp only [Option.map_some, Option.join_some] at hf
   cases hg : fnGood E.ty fn' with
   | false => rw [hg] at hf; cases hf
   | true =>
    rw [hg] at hf
    cases hf
    unfold fnGood at hg
    simp only [Bool.and_eq_true, Bool.not_eq_true'] at hg
    refine ⟨by rw [← Array.getElem?_toList]; exact hi, hg.1, fun c hc => ?_⟩
    have := hg.2
    rw [hc] at this
    exact this
 ·cases hf
end Go.Ax
/- The abstract machine's start: the program's variables that are laid are there to be read, nothing else; and what a call from there leaves alone. -/
namespace Go.Ax
open Go Go.RowKit
end Go.Ax
