/- The machine with more fuel answers the same. -/
import Derived.Test.YtcgpmbjoobilcaaGreatDoorAxD
set_option linter.unusedSimpArgs false
set_option linter.unusedVariables false
namespace Go.Lx
open Go Go.Ax
def Sub (c c' : CallF) : Prop := ∀ f a s r, c f a s = some r → c' f a s = some r
theorem callV_mono {c c' : CallF} (h : Sub c c') {f : Operand} {args : List Operand} {tm : Tm} {s : AS} {r : Value × AS} (e : callV f args c tm s = some r) : callV f args c' tm s = some r := by
 unfold callV at e ⊢
 split at e
 ·exact h _ _ _ _ e
 ·cases e
theorem execA_mono {c c' : CallF} (h : Sub c c') {op : Op} {E : Env} {tm : Tm} {s : AS} {r : Value × AS} (e : execA op E c tm s = some r) : execA op E c' tm s = some r := by
 unfold execA at e ⊢
 split at e
 ·unfold callC at e ⊢
  split at e
  ·exact callV_mono h e
  ·exact e
 ·exact e
theorem runL_cons {E : Env} {call : CallF} {N : Nat} {ops l : List Oper} {o : Oper} {tm : Tm} {s : AS} : runL E call N ops (o :: l) tm s = match wantedA ops tm o with
  | none => none
  | some false => match putA N tm o.dst undef with
   | none => none
   | some tm' => runL E call N ops l tm' s
  | some true => match execA o.op E call tm s with
   | none => none
   | some (v, s') => match putA N tm o.dst v with
    | none => none
    | some tm' => runL E call N ops l tm' s' := rfl
theorem runL_mono {c c' : CallF} (h : Sub c c') {E : Env} {N : Nat} {ops : List Oper} : ∀ (l : List Oper) {tm : Tm} {s : AS} {r : Tm × AS}, runL E c N ops l tm s = some r → runL E c' N ops l tm s = some r
 | [], _, _, _, e => e
 | o :: l, tm, s, r, e => by
  rw [runL_cons] at e ⊢
  cases hw : wantedA ops tm o with
  | none => rw [hw] at e; cases e
  | some b =>
   rw [hw] at e
   cases b with
   | false =>
    simp only at e ⊢
    cases hp : putA N tm o.dst undef with
    | none => rw [hp] at e; cases e
    | some tm' => rw [hp] at e; exact runL_mono h l e
   | true =>
    simp only at e ⊢
    cases hx : execA o.op E c tm s with
    | none => rw [hx] at e; cases e
    | some p =>
     obtain ⟨v, s'⟩ := p
     rw [hx] at e
     rw [execA_mono h hx]
     simp only at e ⊢
     cases hp : putA N tm o.dst v with
     | none => rw [hp] at e; cases e
     | some tm' => rw [hp] at e; exact runL_mono h l e
theorem runD_cons {E : Env} {call : CallF} {N : Nat} {ops : List Oper} {an : List Nat} {base : Nat} {o : Oper} {l : List Oper} {i : Nat} {tm : Tm} {s : AS} {ss : List AS} {rs : List Rec} {nw : News} :
  runD E call N ops an base (o :: l) i tm s ss rs nw = match wantedA ops tm o with
  | none => none
  | some false => match putA N tm o.dst undef with
   | none => none
   | some tm' => runD E call N ops an base l (i + 1) tm' s (bif eff E.ty o.op then ss ++ [s] else ss) rs nw
  | some true => bif isNew o.op then (natK (base + i) fun b => match newA o.op E tm b with
    | none => none
    | some (v, x) => match putA N tm o.dst v with
     | none => none
     | some tm' => runD E call N ops an base l (i + 1) tm' s ss rs (nw ++ [(i, x)]))
   else match execA o.op E call tm (laid base (an.getD i 0) nw s) with
   | none => none
   | some (v, s') => match putA N tm o.dst v with
    | none => none
    | some tm' => bif eff E.ty o.op then runD E call N ops an base l (i + 1) tm' s' (ss ++ [s']) rs nw else runD E call N ops an base l (i + 1) tm' s ss (⟨i, o, tm, v, nw⟩ :: rs) nw := rfl
theorem natK_eq {α : Type} (n : Nat) (k : Nat → α) : natK n k = k n := by cases n <;> rfl
theorem runD_mono {c c' : CallF} (h : Sub c c') {E : Env} {N : Nat} {ops : List Oper} {an : List Nat} {base : Nat} : ∀ (l : List Oper) {i : Nat} {tm : Tm} {s : AS} {ss : List AS} {rs : List Rec} {nw : News} {r}, runD E c N ops an base l i tm s ss rs nw = some r → runD E c' N ops an base l i tm s ss rs nw = some r
 | [], _, _, _, _, _, _, _, e => e
 | o :: l, i, tm, s, ss, rs, nw, r, e => by
  rw [runD_cons] at e ⊢
  cases hw : wantedA ops tm o with
  | none => rw [hw] at e; cases e
  | some b =>
   rw [hw] at e
   cases b with
   | false =>
    simp only at e ⊢
    cases hp : putA N tm o.dst undef with
    | none => rw [hp] at e; cases e
    | some tm' => rw [hp] at e; exact runD_mono h l e
   | true =>
    simp only at e ⊢
    cases hn : isNew o.op with
    | true =>
     rw [hn] at e
     simp only [cond_true, natK_eq] at e ⊢
     cases hx : newA o.op E tm (base + i) with
     | none => rw [hx] at e; cases e
     | some p =>
      obtain ⟨v, x⟩ := p
      rw [hx] at e
      simp only at e ⊢
      cases hp : putA N tm o.dst v with
      | none => rw [hp] at e; cases e
      | some tm' => rw [hp] at e; exact runD_mono h l e
    | false =>
     rw [hn] at e
     simp only [cond_false] at e ⊢
     cases hx : execA o.op E c tm (laid base (an.getD i 0) nw s) with
     | none => rw [hx] at e; cases e
     | some p =>
      obtain ⟨v, s'⟩ := p
      rw [hx] at e
      rw [execA_mono h hx]
      simp only at e ⊢
      cases hp : putA N tm o.dst v with
      | none => rw [hp] at e; cases e
      | some tm' =>
       rw [hp] at e
       simp only at e ⊢
       cases hf : eff E.ty o.op with
       | true => rw [hf] at e; exact runD_mono h l e
       | false => rw [hf] at e; exact runD_mono h l e
theorem drawnA_mono {c c' : CallF} (h : Sub c c') {E : Env} {N : Nat} {ops : List Oper} {tm : Tm} {s : AS} {r : Tm × AS} (e : drawnA E c N ops tm s = some r) : drawnA E c' N ops tm s = some r := by
 unfold drawnA at e ⊢
 cases hb : (ops.any fun o => eff E.ty o.op || isNew o.op) with
 | false => rw [hb] at e; exact runL_mono h _ e
 | true =>
  rw [hb] at e
  simp only [cond_true, natK_eq] at e ⊢
  cases hx : runD E c N ops (ancs ops []) s.nx ops 0 tm ⟨s.h, s.nx + ops.length⟩ [⟨s.h, s.nx + ops.length⟩] [] [] with
  | none => rw [hx] at e; cases e
  | some p => rw [hx] at e; rw [runD_mono h _ hx]; exact e
def SubR (r r' : Run) : Prop := ∀ c tm s x, r c tm s = some x → r' c tm s = some x
theorem stepC_mono {c c' : CallF} (h : Sub c c') {E : Env} {N : Nat} {r r' : Run} (hr : SubR r r') : ∀ (k : Code) {tm : Tm} {s : AS} {x}, stepC k E c N r tm s = some x → stepC k E c' N r' tm s = some x := by
 intro k tm s x e
 cases k with
 | skip => exact e
 | region id ops d =>
  show cRegion ops d E c' N r' tm s = _
  have e : cRegion ops d E c N r tm s = _ := e
  unfold cRegion at e ⊢
  cases d with
  | true =>
   simp only [cond_true] at e ⊢
   cases hx : drawnA E c N ops.toList tm s with
   | none => rw [hx] at e; cases e
   | some p => rw [hx] at e; rw [drawnA_mono h hx]; exact e
  | false =>
   simp only [cond_false] at e ⊢
   cases hx : runL E c N ops.toList ops.toList tm s with
   | none => rw [hx] at e; cases e
   | some p => rw [hx] at e; rw [runL_mono h _ hx]; exact e
 | seq a b =>
  show cSeq a b E c' N r' tm s = _
  have e : cSeq a b E c N r tm s = _ := e
  unfold cSeq at e ⊢
  cases hx : r a tm s with
  | none => rw [hx] at e; cases e
  | some p =>
   obtain ⟨y, tm', s'⟩ := p
   rw [hx] at e
   rw [hr _ _ _ _ hx]
   cases y with
   | nor => exact hr _ _ _ _ e
   | exit i => exact e
   | ret => exact e
 | cond y a b =>
  show cCond y a b E c' N r' tm s = _
  have e : cCond y a b E c N r tm s = _ := e
  unfold cCond at e ⊢
  split at e
  ·exact hr _ _ _ _ e
  ·cases e
 | block i b =>
  show cBlock i b E c' N r' tm s = _
  have e : cBlock i b E c N r tm s = _ := e
  unfold cBlock at e ⊢
  cases hx : r b tm s with
  | none => rw [hx] at e; cases e
  | some p =>
   obtain ⟨y, tm', s'⟩ := p
   rw [hx] at e
   rw [hr _ _ _ _ hx]
   exact e
 | loop b =>
  show cLoop b E c' N r' tm s = _
  have e : cLoop b E c N r tm s = _ := e
  unfold cLoop at e ⊢
  cases hx : r b tm s with
  | none => rw [hx] at e; cases e
  | some p =>
   obtain ⟨y, tm', s'⟩ := p
   rw [hx] at e
   rw [hr _ _ _ _ hx]
   cases y with
   | nor => exact hr _ _ _ _ e
   | exit i => exact e
   | ret => exact e
 | exit i => exact e
 | ret => exact e
 | rangeFunc f ps a b => exact e
 | scope b => exact e
 | label l => exact e
 | goto l => exact e
 | refuse w => exact e
theorem codeA_mono {c c' : CallF} (h : Sub c c') {E : Env} {N : Nat} : ∀ (F F' : Nat), F ≤ F' → SubR (codeA E c N F) (codeA E c' N F')
 | 0, _, _, _, _, _, _, e => by cases e
 | F + 1, 0, hle, _, _, _, _, _ => by omega
 | F + 1, F' + 1, hle, k, tm, s, x, e => stepC_mono h (codeA_mono h F F' (by omega)) k e
theorem callA_mono {E : Env} : ∀ (D D' F F' : Nat), D ≤ D' → F ≤ F' → Sub (callA E F D) (callA E F' D')
 | 0, _, _, _, _, _, _, _, _, _, e => by cases e
 | D + 1, 0, _, _, hle, _, _, _, _, _, _ => by omega
 | D + 1, D' + 1, F, F', hle, hF, f, a, s, r, e => by
  have ih := callA_mono (E := E) D D' F F' (by omega) hF
  show (match E.prim.get f with
   | some p => p a s
   | none => match E.fn.get f with
    | none => none
    | some fn => match fn.body with
     | none => none
     | some c => bif Nat.beq fn.ntmps 0 then none else natK (Nat.pred fn.ntmps) fun N => match codeA E (callA E F' D') N F' c (T.e.fill 0 a) s with
      | some (.exit _, _, _) => none
      | none => none
      | some (_, tm, s') => match resA E tm s' fn.results.toList with
       | none => none
       | some vs => some (packA vs, s')) = some r
  have e : (match E.prim.get f with
   | some p => p a s
   | none => match E.fn.get f with
    | none => none
    | some fn => match fn.body with
     | none => none
     | some c => bif Nat.beq fn.ntmps 0 then none else natK (Nat.pred fn.ntmps) fun N => match codeA E (callA E F D) N F c (T.e.fill 0 a) s with
      | some (.exit _, _, _) => none
      | none => none
      | some (_, tm, s') => match resA E tm s' fn.results.toList with
       | none => none
       | some vs => some (packA vs, s')) = some r := e
  cases hp : E.prim.get f with
  | some p => rw [hp] at e; exact e
  | none =>
   rw [hp] at e
   simp only at e ⊢
   cases hf : E.fn.get f with
   | none => rw [hf] at e; cases e
   | some fn =>
    rw [hf] at e
    simp only at e ⊢
    cases hb : fn.body with
    | none => rw [hb] at e; cases e
    | some c =>
     rw [hb] at e
     simp only at e ⊢
     cases hn : Nat.beq fn.ntmps 0 with
     | true => rw [hn] at e; cases e
     | false =>
      rw [hn] at e
      simp only [cond_false, natK_eq] at e ⊢
      cases hx : codeA E (callA E F D) (Nat.pred fn.ntmps) F c (T.e.fill 0 a) s with
      | none => rw [hx] at e; cases e
      | some p => rw [hx] at e; rw [codeA_mono ih F F' hF _ _ _ _ hx]; exact e
end Go.Lx
/- Judgements about the machine: what lies in memory (owned, one behind the other, or lasting), and what code, operations and calls come to. -/
namespace Go.Lx
open Go Go.Ax
structure Asn where
 p : (Nat → Prop) → T AObj → Prop
 loc : ∀ S h h', (∀ b, S b → h'.get b = h.get b) → p S h → p S h'
def Own : List Asn → (Nat → Prop) → T AObj → Prop
 | [], _, _ => True
 | A :: L, S, h => ∃ S1 S2, (∀ b, S1 b → S b) ∧ (∀ b, S2 b → S b) ∧ (∀ b, S1 b → S2 b → False) ∧ A.p S1 h ∧ Own L S2 h
theorem Own.loc : ∀ {L : List Asn} {S : Nat → Prop} {h h' : T AObj}, (∀ b, S b → h'.get b = h.get b) → Own L S h → Own L S h'
 | [], _, _, _, _, _ => trivial
 | A :: L, S, h, h', e, ⟨S1, S2, h1, h2, hd, ha, hl⟩ => ⟨S1, S2, h1, h2, hd, A.loc _ _ _ (fun b hb => e b (h1 b hb)) ha, Own.loc (fun b hb => e b (h2 b hb)) hl⟩
theorem Own.sub : ∀ {L : List Asn} {S S' : Nat → Prop} {h : T AObj}, (∀ b, S b → S' b) → Own L S h → Own L S' h
 | [], _, _, _, _, _ => trivial
 | A :: L, S, S', h, e, ⟨S1, S2, h1, h2, hd, ha, hl⟩ => ⟨S1, S2, fun b hb => e b (h1 b hb), fun b hb => e b (h2 b hb), hd, ha, hl⟩
theorem Own.swap {A B : Asn} {L : List Asn} {S : Nat → Prop} {h : T AObj} (H : Own (A :: B :: L) S h) : Own (B :: A :: L) S h := by
 obtain ⟨S1, S2, h1, h2, hd, ha, T1, T2, k1, k2, kd, hb, hl⟩ := H
 exact ⟨T1, fun b => S1 b ∨ T2 b, fun b hb => h2 b (k1 b hb), fun b hb => hb.elim (h1 b) (fun hb => h2 b (k2 b hb)), fun b x y => y.elim (fun y => hd b y (k1 b x)) (fun y => kd b x y), hb,
  S1, T2, fun b hb => .inl hb, fun b hb => .inr hb, fun b x y => hd b x (k2 b y), ha, hl⟩
theorem Own.tail {A : Asn} {L L' : List Asn} {S : Nat → Prop} {h : T AObj} (H : Own (A :: L) S h) (f : ∀ S, Own L S h → Own L' S h) : Own (A :: L') S h := by
 obtain ⟨S1, S2, h1, h2, hd, ha, hl⟩ := H
 exact ⟨S1, S2, h1, h2, hd, ha, f _ hl⟩
theorem Own.perm {L L' : List Asn} (hp : L.Perm L') : ∀ {S : Nat → Prop} {h : T AObj}, Own L S h → Own L' S h := by
 induction hp with
 | nil => exact fun H => H
 | cons x _ ih => exact fun H => H.tail (fun _ => ih)
 | swap x y l => exact fun H => H.swap
 | trans _ _ ih1 ih2 => exact fun H => ih2 (ih1 H)
theorem Own.drop {A : Asn} {L : List Asn} {S : Nat → Prop} {h : T AObj} (H : Own (A :: L) S h) : Own L S h := by
 obtain ⟨S1, S2, h1, h2, hd, ha, hl⟩ := H
 exact hl.sub h2
structure Sat (L P : List Asn) (S : Nat → Prop) (s : AS) : Prop where
 own : Own L S s.h
 per : ∀ A ∈ P, ∃ U, A.p U s.h ∧ ∀ b, U b → ¬ S b ∧ s.h.get b ≠ none
 ex : ∀ b, S b → s.h.get b ≠ none
 fresh : ∀ b, s.nx ≤ b → s.h.get b = none
theorem Sat.low {L P : List Asn} {S : Nat → Prop} {s : AS} (h : Sat L P S s) {b : Nat} (hb : s.h.get b ≠ none) : b < s.nx := by
 rcases Nat.lt_or_ge b s.nx with e | e
 ·exact e
 ·exact absurd (h.fresh b e) hb
theorem Sat.lt {L P : List Asn} {S : Nat → Prop} {s : AS} (h : Sat L P S s) (b : Nat) (hb : S b) : b < s.nx := h.low (h.ex b hb)
structure Tr (S : Nat → Prop) (s : AS) (S' : Nat → Prop) (s' : AS) : Prop where
 nx : s.nx ≤ s'.nx
 keep : ∀ b, b < s.nx → ¬ S b → s'.h.get b = s.h.get b
 sub : ∀ b, S' b → S b ∨ s.nx ≤ b
 stay : ∀ b, s.h.get b ≠ none → s'.h.get b ≠ none
theorem Tr.refl (S : Nat → Prop) (s : AS) : Tr S s S s := ⟨Nat.le_refl _, fun _ _ _ => rfl, fun _ h => .inl h, fun _ h => h⟩
theorem Tr.trans {S S1 S2 : Nat → Prop} {s s1 s2 : AS} (h : Tr S s S1 s1) (h' : Tr S1 s1 S2 s2) : Tr S s S2 s2 :=
 ⟨Nat.le_trans h.nx h'.nx, fun b hb hn => by
  rw [h'.keep b (Nat.lt_of_lt_of_le hb h.nx) (fun e => (h.sub b e).elim hn (fun h => by omega)), h.keep b hb hn],
  fun b hb => (h'.sub b hb).elim (h.sub b) (fun e => .inr (Nat.le_trans h.nx e)), fun b hb => h'.stay b (h.stay b hb)⟩
theorem Tr.per {S S' : Nat → Prop} {s s' : AS} (h : Tr S s S' s') (hf : ∀ b, s.nx ≤ b → s.h.get b = none) {A : Asn} (H : ∃ U, A.p U s.h ∧ ∀ b, U b → ¬ S b ∧ s.h.get b ≠ none) : ∃ U, A.p U s'.h ∧ ∀ b, U b → ¬ S' b ∧ s'.h.get b ≠ none := by
 obtain ⟨U, hu, hk⟩ := H
 have hlt : ∀ b, U b → b < s.nx := fun b hb => by
  rcases Nat.lt_or_ge b s.nx with e | e
  ·exact e
  ·exact absurd (hf b e) (hk b hb).2
 have he : ∀ b, U b → s'.h.get b = s.h.get b := fun b hb => h.keep b (hlt b hb) (hk b hb).1
 exact ⟨U, A.loc _ _ _ he hu, fun b hb => ⟨fun e => (h.sub b e).elim (hk b hb).1 (fun e => by have := hlt b hb; omega), by rw [he b hb]; exact (hk b hb).2⟩⟩
abbrev Al := List (Nat × Value)
def lk : Al → Nat → Option Value
 | [], _ => none
 | (k, v) :: l, i => bif Nat.beq k i then some v else lk l i
def Has (al : Al) (tm : Tm) : Prop := ∀ k v, lk al k = some v → tm.get k = some v
theorem Has.set {al : Al} {tm : Tm} (h : Has al tm) (d : Nat) (v : Value) : Has ((d, v) :: al) (tm.set d v) := fun k u e => by
 rw [T.get_set]
 show (if k = d then some v else tm.get k) = some u
 have e : (bif Nat.beq d k then some v else lk al k) = some u := e
 by_cases hk : k = d
 ·subst hk
  rw [Nat.beq_refl] at e
  rw [if_pos rfl]
  exact e
 ·have hb : Nat.beq d k = false := by
   cases hb : Nat.beq d k with
   | false => rfl
   | true => exact absurd (Nat.eq_of_beq_eq_true hb).symm hk
  rw [hb] at e
  rw [if_neg hk]
  exact h k u e
def evl (al : Al) : Operand → Option Value
 | .tmp i => lk al i
 | .const v => cst v
 | .global g => bif Nat.blt g 1000 then some (.pointer (some ⟨g, 0, none⟩)) else none
 | .func f => some (.func (.func f) #[] #[])
theorem evl_ev {al : Al} {tm : Tm} (h : Has al tm) {x : Operand} {v : Value} (e : evl al x = some v) : ev tm x = some v := by
 cases x with
 | tmp i => exact h _ _ e
 | const v => exact e
 | global g => exact e
 | func f => exact e
def evls (al : Al) : List Operand → Option (List Value)
 | [] => some []
 | x :: l => match evl al x with
  | none => none
  | some v => match evls al l with
   | none => none
   | some vs => some (v :: vs)
theorem evls_evs {al : Al} {tm : Tm} (h : Has al tm) : ∀ {l : List Operand} {vs : List Value}, evls al l = some vs → evs tm l = some vs
 | [], _, e => e
 | x :: l, vs, e => by
  unfold evls at e
  unfold evs
  cases hx : evl al x with
  | none => rw [hx] at e; cases e
  | some v =>
   rw [hx] at e
   rw [evl_ev h hx]
   cases hl : evls al l with
   | none => rw [hl] at e; cases e
   | some ws => rw [hl] at e; rw [evls_evs h hl]; exact e
def SubA : Al → Al → Prop
 | [], _ => True
 | (k, v) :: l, al => lk al k = some v ∧ SubA l al
theorem SubA.lk : ∀ {l al : Al}, SubA l al → ∀ k v, lk l k = some v → Go.Lx.lk al k = some v
 | [], _, _, _, _, e => by cases e
 | (j, u) :: l, al, ⟨h1, h2⟩, k, v, e => by
  have e : (bif Nat.beq j k then some u else Go.Lx.lk l k) = some v := e
  cases hb : Nat.beq j k with
  | true =>
   rw [hb] at e
   obtain rfl := Nat.eq_of_beq_eq_true hb
   rw [h1]; exact e
  | false => rw [hb] at e; exact SubA.lk h2 k v e
theorem SubA.has {l al : Al} (h : SubA l al) {tm : Tm} (hs : Has al tm) : Has l tm := fun k v e => hs k v (h.lk k v e)
variable {E : Env} {N : Nat}
def Runs (E : Env) (f : FuncId) (args : List Value) (s : AS) (v : Value) (s' : AS) : Prop := ∃ F D, callA E F D f args s = some (v, s')
def CR (E : Env) (N : Nat) (c : Code) (tm : Tm) (s : AS) (x : X) (tm' : Tm) (s' : AS) : Prop := ∃ F D F', codeA E (callA E F D) N F' c tm s = some (x, tm', s')
def RR (E : Env) (N : Nat) (ops l : List Oper) (tm : Tm) (s : AS) (tm' : Tm) (s' : AS) : Prop := ∃ F D, runL E (callA E F D) N ops l tm s = some (tm', s')
def Sp (E : Env) (f : FuncId) (args : List Value) (L P : List Asn) (Q : Value → List Asn → List Asn → Prop) : Prop :=
 ∀ S s, Sat L P S s → ∃ v s' S' L' P', Runs E f args s v s' ∧ Tr S s S' s' ∧ Sat L' P' S' s' ∧ Q v L' P'
def W (E : Env) (N : Nat) (c : Code) (al : Al) (L P : List Asn) (Q : X → Al → List Asn → List Asn → Prop) : Prop :=
 ∀ S s tm, Sat L P S s → Has al tm → ∃ x tm' s' S' al' L' P', CR E N c tm s x tm' s' ∧ Tr S s S' s' ∧ Has al' tm' ∧ Sat L' P' S' s' ∧ Q x al' L' P'
def WR (E : Env) (N : Nat) (ops l : List Oper) (al : Al) (L P : List Asn) (Q : Al → List Asn → List Asn → Prop) : Prop :=
 ∀ S s tm, Sat L P S s → Has al tm → ∃ tm' s' S' al' L' P', RR E N ops l tm s tm' s' ∧ Tr S s S' s' ∧ Has al' tm' ∧ Sat L' P' S' s' ∧ Q al' L' P'
theorem codeA_seq (call : CallF) (F : Nat) (a b : Code) (tm : Tm) (s : AS) : codeA E call N (F + 1) (.seq a b) tm s = cSeq a b E call N (codeA E call N F) tm s := rfl
theorem codeA_cond (call : CallF) (F : Nat) (x : Operand) (a b : Code) (tm : Tm) (s : AS) : codeA E call N (F + 1) (.cond x a b) tm s = cCond x a b E call N (codeA E call N F) tm s := rfl
theorem codeA_region (call : CallF) (F id : Nat) (ops : Array Oper) (d : Bool) (tm : Tm) (s : AS) : codeA E call N (F + 1) (.region id ops d) tm s = cRegion ops d E call N (codeA E call N F) tm s := rfl
theorem W.skip {al : Al} {L P : List Asn} {Q : X → Al → List Asn → List Asn → Prop} (h : Q .nor al L P) : W E N .skip al L P Q :=
 fun S s tm hs ha => ⟨.nor, tm, s, S, al, L, P, ⟨0, 0, 1, rfl⟩, .refl _ _, ha, hs, h⟩
theorem W.exit {i : Nat} {al : Al} {L P : List Asn} {Q : X → Al → List Asn → List Asn → Prop} (h : Q (.exit i) al L P) : W E N (.exit i) al L P Q :=
 fun S s tm hs ha => ⟨.exit i, tm, s, S, al, L, P, ⟨0, 0, 1, rfl⟩, .refl _ _, ha, hs, h⟩
theorem W.ret {al : Al} {L P : List Asn} {Q : X → Al → List Asn → List Asn → Prop} (h : Q .ret al L P) : W E N .ret al L P Q :=
 fun S s tm hs ha => ⟨.ret, tm, s, S, al, L, P, ⟨0, 0, 1, rfl⟩, .refl _ _, ha, hs, h⟩
def thenQ (E : Env) (N : Nat) (b : Code) (Q : X → Al → List Asn → List Asn → Prop) : X → Al → List Asn → List Asn → Prop
 | .nor, al, L, P => W E N b al L P Q
 | .exit i, al, L, P => Q (.exit i) al L P
 | .ret, al, L, P => Q .ret al L P
theorem W.seq {a b : Code} {al : Al} {L P : List Asn} {Q : X → Al → List Asn → List Asn → Prop} (h : W E N a al L P (thenQ E N b Q)) : W E N (.seq a b) al L P Q := by
 intro S s tm hs ha
 obtain ⟨x, tm1, s1, S1, al1, L1, P1, ⟨F, D, F', e⟩, ht, ha1, hs1, hq⟩ := h S s tm hs ha
 cases x with
 | nor =>
  obtain ⟨y, tm2, s2, S2, al2, L2, P2, ⟨G, H, G', e2⟩, ht2, ha2, hs2, hq2⟩ := hq S1 s1 tm1 hs1 ha1
  refine ⟨y, tm2, s2, S2, al2, L2, P2, ⟨max F G, max D H, max F' G' + 1, ?_⟩, ht.trans ht2, ha2, hs2, hq2⟩
  rw [codeA_seq]
  unfold cSeq
  rw [codeA_mono (callA_mono D (max D H) F (max F G) (by omega) (by omega)) F' (max F' G') (by omega) _ _ _ _ e]
  exact codeA_mono (callA_mono H (max D H) G (max F G) (by omega) (by omega)) G' (max F' G') (by omega) _ _ _ _ e2
 | exit i =>
  refine ⟨_, tm1, s1, S1, al1, L1, P1, ⟨F, D, F' + 1, ?_⟩, ht, ha1, hs1, hq⟩
  rw [codeA_seq]
  unfold cSeq
  rw [e]
 | ret =>
  refine ⟨_, tm1, s1, S1, al1, L1, P1, ⟨F, D, F' + 1, ?_⟩, ht, ha1, hs1, hq⟩
  rw [codeA_seq]
  unfold cSeq
  rw [e]
theorem W.cond {x : Operand} {a b : Code} {t : Bool} {al : Al} {L P : List Asn} {Q : X → Al → List Asn → List Asn → Prop} (hx : evl al x = some (.bool t)) (h : W E N (bif t then a else b) al L P Q) : W E N (.cond x a b) al L P Q := by
 intro S s tm hs ha
 obtain ⟨y, tm1, s1, S1, al1, L1, P1, ⟨F, D, F', e⟩, hr⟩ := h S s tm hs ha
 refine ⟨y, tm1, s1, S1, al1, L1, P1, ⟨F, D, F' + 1, ?_⟩, hr⟩
 rw [codeA_cond]
 unfold cCond
 rw [evl_ev ha hx]
 exact e
theorem W.yes {x : Operand} {a b : Code} {al : Al} {L P : List Asn} {Q : X → Al → List Asn → List Asn → Prop} (hx : evl al x = some (.bool true)) (h : W E N a al L P Q) : W E N (.cond x a b) al L P Q := W.cond hx h
theorem W.no {x : Operand} {a b : Code} {al : Al} {L P : List Asn} {Q : X → Al → List Asn → List Asn → Prop} (hx : evl al x = some (.bool false)) (h : W E N b al L P Q) : W E N (.cond x a b) al L P Q := W.cond hx h
theorem W.ite {x : Operand} {a b : Code} {t : Bool} {al : Al} {L P : List Asn} {Q : X → Al → List Asn → List Asn → Prop} (hx : evl al x = some (.bool t)) (h1 : t = true → W E N a al L P Q) (h2 : t = false → W E N b al L P Q) : W E N (.cond x a b) al L P Q := by
 refine W.cond hx ?_
 cases t with
 | true => exact h1 rfl
 | false => exact h2 rfl
def blockQ (i : Nat) (Q : X → Al → List Asn → List Asn → Prop) : X → Al → List Asn → List Asn → Prop
 | .nor, al, L, P => Q .nor al L P
 | .exit j, al, L, P => Q (bif Nat.beq j i then .nor else .exit j) al L P
 | .ret, al, L, P => Q .ret al L P
theorem W.block {i : Nat} {b : Code} {al : Al} {L P : List Asn} {Q : X → Al → List Asn → List Asn → Prop} (h : W E N b al L P (blockQ i Q)) : W E N (.block i b) al L P Q := by
 intro S s tm hs ha
 obtain ⟨x, tm1, s1, S1, al1, L1, P1, ⟨F, D, F', e⟩, ht, ha1, hs1, hq⟩ := h S s tm hs ha
 have hb : cBlock i b E (callA E F D) N (codeA E (callA E F D) N F') tm s = match (some (x, tm1, s1) : CRes) with
   | none => none
   | some (x, tm', s') => match x with
    | .exit j => bif Nat.beq j i then some (.nor, tm', s') else some (.exit j, tm', s')
    | x => some (x, tm', s') := by
  unfold cBlock
  rw [e]
  cases x <;> rfl
 cases x with
 | nor => exact ⟨.nor, tm1, s1, S1, al1, L1, P1, ⟨F, D, F' + 1, hb⟩, ht, ha1, hs1, hq⟩
 | ret => exact ⟨.ret, tm1, s1, S1, al1, L1, P1, ⟨F, D, F' + 1, hb⟩, ht, ha1, hs1, hq⟩
 | exit j =>
  refine ⟨_, tm1, s1, S1, al1, L1, P1, ⟨F, D, F' + 1, ?_⟩, ht, ha1, hs1, hq⟩
  refine Eq.trans hb ?_
  show (bif Nat.beq j i then some (X.nor, tm1, s1) else some (.exit j, tm1, s1)) = some (bif Nat.beq j i then X.nor else .exit j, tm1, s1)
  cases Nat.beq j i <;> rfl
theorem W.keep {c : Code} {al al' : Al} {L P : List Asn} {Q : X → Al → List Asn → List Asn → Prop} (h : SubA al' al) (hk : W E N c al' L P Q) : W E N c al L P Q :=
 fun S s tm hs ha => hk S s tm hs (h.has ha)
def Ent (L P L' P' : List Asn) : Prop := ∀ S s, Sat L P S s → ∃ S', (∀ b, S' b → S b) ∧ Sat L' P' S' s
theorem tr_sub {S S' : Nat → Prop} {s : AS} (h : ∀ b, S' b → S b) : Tr S s S' s := ⟨Nat.le_refl _, fun _ _ _ => rfl, fun b e => .inl (h b e), fun _ h => h⟩
theorem W.ent {c : Code} {al : Al} {L P L' P' : List Asn} {Q : X → Al → List Asn → List Asn → Prop} (h : Ent L P L' P') (hk : W E N c al L' P' Q) : W E N c al L P Q := by
 intro S s tm hs ha
 obtain ⟨S', h1, h2⟩ := h S s hs
 obtain ⟨x, tm1, s1, S1, al1, L1, P1, e, ht, hr⟩ := hk S' s tm h2 ha
 exact ⟨x, tm1, s1, S1, al1, L1, P1, e, (tr_sub h1).trans ht, hr⟩
def loopQ {α : Type} (J : α → Prop) (μ : α → Nat) (al : α → Al) (L P : α → List Asn) (n : Nat) (Q : X → Al → List Asn → List Asn → Prop) : X → Al → List Asn → List Asn → Prop
 | .nor, al', L', P' => ∃ a, J a ∧ μ a < n ∧ SubA (al a) al' ∧ Ent L' P' (L a) (P a)
 | .exit i, al', L', P' => Q (.exit i) al' L' P'
 | .ret, al', L', P' => Q .ret al' L' P'
theorem W.loop_at {α : Type} (J : α → Prop) (μ : α → Nat) (al : α → Al) (L P : α → List Asn) {b : Code} {Q : X → Al → List Asn → List Asn → Prop} (h : ∀ a, J a → W E N b (al a) (L a) (P a) (loopQ J μ al L P (μ a) Q)) : ∀ (n : Nat) (a : α), μ a ≤ n → J a → W E N (.loop b) (al a) (L a) (P a) Q := by
 intro n
 induction n with
 | zero =>
  intro a hn hj S s tm hs ha
  obtain ⟨x, tm1, s1, S1, al1, L1, P1, ⟨F, D, F', e⟩, ht, ha1, hs1, hq⟩ := h a hj S s tm hs ha
  have hl : cLoop b E (callA E F D) N (codeA E (callA E F D) N F') tm s = match (some (x, tm1, s1) : CRes) with
   | none => none
   | some (x, tm', s') => match x with
    | .nor => codeA E (callA E F D) N F' (.loop b) tm' s'
    | x => some (x, tm', s') := by
   unfold cLoop
   rw [e]
   cases x <;> rfl
  cases x with
  | nor => obtain ⟨a', _, h2, _⟩ := hq; omega
  | exit i => exact ⟨_, tm1, s1, S1, al1, L1, P1, ⟨F, D, F' + 1, hl⟩, ht, ha1, hs1, hq⟩
  | ret => exact ⟨_, tm1, s1, S1, al1, L1, P1, ⟨F, D, F' + 1, hl⟩, ht, ha1, hs1, hq⟩
 | succ n ih =>
  intro a hn hj S s tm hs ha
  obtain ⟨x, tm1, s1, S1, al1, L1, P1, ⟨F, D, F', e⟩, ht, ha1, hs1, hq⟩ := h a hj S s tm hs ha
  have hl : ∀ G H, F ≤ G → D ≤ H → ∀ G', F' ≤ G' → cLoop b E (callA E G H) N (codeA E (callA E G H) N G') tm s = match (some (x, tm1, s1) : CRes) with
   | none => none
   | some (x, tm', s') => match x with
    | .nor => codeA E (callA E G H) N G' (.loop b) tm' s'
    | x => some (x, tm', s') := fun G H h1 h2 G' h3 => by
   unfold cLoop
   rw [codeA_mono (callA_mono D H F G h2 h1) F' G' h3 _ _ _ _ e]
   cases x <;> rfl
  cases x with
  | nor =>
   obtain ⟨a', h1, h2, h3, h4⟩ := hq
   obtain ⟨S2, h5, h6⟩ := h4 S1 s1 hs1
   obtain ⟨y, tm2, s2, S3, al2, L2, P2, ⟨G, H, G', e2⟩, ht2, hr⟩ := ih a' (by omega) h1 S2 s1 tm1 h6 (h3.has ha1)
   refine ⟨y, tm2, s2, S3, al2, L2, P2, ⟨max F G, max D H, max F' G' + 1, ?_⟩, ht.trans ((tr_sub h5).trans ht2), hr⟩
   refine Eq.trans (hl (max F G) (max D H) (by omega) (by omega) (max F' G') (by omega)) ?_
   exact codeA_mono (callA_mono H (max D H) G (max F G) (by omega) (by omega)) G' (max F' G') (by omega) _ _ _ _ e2
  | exit i => exact ⟨_, tm1, s1, S1, al1, L1, P1, ⟨F, D, F' + 1, hl F D (Nat.le_refl _) (Nat.le_refl _) F' (Nat.le_refl _)⟩, ht, ha1, hs1, hq⟩
  | ret => exact ⟨_, tm1, s1, S1, al1, L1, P1, ⟨F, D, F' + 1, hl F D (Nat.le_refl _) (Nat.le_refl _) F' (Nat.le_refl _)⟩, ht, ha1, hs1, hq⟩
theorem W.loop {α : Type} (J : α → Prop) (μ : α → Nat) (al : α → Al) (L P : α → List Asn) {b : Code} {al0 : Al} {L0 P0 : List Asn} {Q : X → Al → List Asn → List Asn → Prop} (a0 : α) (h0 : J a0) (hs : SubA (al a0) al0) (he : Ent L0 P0 (L a0) (P a0))
  (h : ∀ a, J a → W E N b (al a) (L a) (P a) (loopQ J μ al L P (μ a) Q)) : W E N (.loop b) al0 L0 P0 Q :=
 W.keep hs (W.ent he (W.loop_at J μ al L P h (μ a0) a0 (Nat.le_refl _) h0))
theorem Ent.refl (L P : List Asn) : Ent L P L P := fun S s h => ⟨S, fun _ e => e, h⟩
theorem W.region {id : Nat} {ops : Array Oper} {al : Al} {L P : List Asn} {Q : X → Al → List Asn → List Asn → Prop} (h : WR E N ops.toList ops.toList al L P (Q .nor)) : W E N (.region id ops false) al L P Q := by
 intro S s tm hs ha
 obtain ⟨tm1, s1, S1, al1, L1, P1, ⟨F, D, e⟩, hr⟩ := h S s tm hs ha
 refine ⟨.nor, tm1, s1, S1, al1, L1, P1, ⟨F, D, 1, ?_⟩, hr⟩
 rw [codeA_region]
 unfold cRegion
 simp only [cond_false]
 rw [e]
theorem WR.nil {ops : List Oper} {al : Al} {L P : List Asn} {Q : Al → List Asn → List Asn → Prop} (h : Q al L P) : WR E N ops [] al L P Q :=
 fun S s tm hs ha => ⟨tm, s, S, al, L, P, ⟨0, 0, rfl⟩, .refl _ _, ha, hs, h⟩
def WO (E : Env) (op : Op) (al : Al) (L P : List Asn) (Q : Value → List Asn → List Asn → Prop) : Prop :=
 ∀ S s tm, Sat L P S s → Has al tm → ∃ v s' S' L' P', (∃ F D, execA op E (callA E F D) tm s = some (v, s')) ∧ Tr S s S' s' ∧ Sat L' P' S' s' ∧ Q v L' P'
theorem WR.op {ops l : List Oper} {o : Oper} {d : Nat} {al : Al} {L P : List Asn} {Q : Al → List Asn → List Asn → Prop} (hg : o.guard = none) (hd : o.dst = some d) (hN : Nat.ble d N = true) (h : WO E o.op al L P (fun v L' P' => WR E N ops l ((d, v) :: al) L' P' Q)) : WR E N ops (o :: l) al L P Q := by
 intro S s tm hs ha
 obtain ⟨v, s1, S1, L1, P1, ⟨F, D, e⟩, ht, hs1, hq⟩ := h S s tm hs ha
 obtain ⟨tm2, s2, S2, al2, L2, P2, ⟨G, H, e2⟩, ht2, hr⟩ := hq S1 s1 (tm.set d v) hs1 (ha.set d v)
 refine ⟨tm2, s2, S2, al2, L2, P2, ⟨max F G, max D H, ?_⟩, ht.trans ht2, hr⟩
 have hw : wantedA ops tm o = some true := by unfold wantedA; rw [hg]
 rw [runL_cons, hw]
 simp only
 rw [execA_mono (callA_mono D (max D H) F (max F G) (by omega) (by omega)) e]
 simp only
 have hp : putA N tm o.dst v = some (tm.set d v) := by unfold putA; rw [hd]; simp only [hN, cond_true]
 rw [hp]
 exact runL_mono (callA_mono H (max D H) G (max F G) (by omega) (by omega)) _ e2
theorem WR.op0 {ops l : List Oper} {o : Oper} {al : Al} {L P : List Asn} {Q : Al → List Asn → List Asn → Prop} (hg : o.guard = none) (hd : o.dst = none) (h : WO E o.op al L P (fun _ L' P' => WR E N ops l al L' P' Q)) : WR E N ops (o :: l) al L P Q := by
 intro S s tm hs ha
 obtain ⟨v, s1, S1, L1, P1, ⟨F, D, e⟩, ht, hs1, hq⟩ := h S s tm hs ha
 obtain ⟨tm2, s2, S2, al2, L2, P2, ⟨G, H, e2⟩, ht2, hr⟩ := hq S1 s1 tm hs1 ha
 refine ⟨tm2, s2, S2, al2, L2, P2, ⟨max F G, max D H, ?_⟩, ht.trans ht2, hr⟩
 have hw : wantedA ops tm o = some true := by unfold wantedA; rw [hg]
 rw [runL_cons, hw]
 simp only
 rw [execA_mono (callA_mono D (max D H) F (max F G) (by omega) (by omega)) e]
 simp only
 have hp : putA N tm o.dst v = some tm := by unfold putA; rw [hd]
 rw [hp]
 exact runL_mono (callA_mono H (max D H) G (max F G) (by omega) (by omega)) _ e2
end Go.Lx
/- Operations, one by one. -/
namespace Go.Lx
open Go Go.Ax
variable {E : Env} {N : Nat} {ops l : List Oper} {al : Al} {L P : List Asn} {Q : Al → List Asn → List Asn → Prop}
def Pt (b : Nat) (cs : List Value) (z : Nat) : Asn where
 p := fun S h => S b ∧ ∃ c, h.get b = some (.cells c cs.length z) ∧ ∀ k, k < cs.length → c.get k = cs[k]?
 loc := fun S h h' e ⟨h1, c, h2, h3⟩ => ⟨h1, c, by rw [e b h1, h2], h3⟩
theorem Own.mem {A : Asn} : ∀ {L : List Asn} {S : Nat → Prop} {h : T AObj}, A ∈ L → Own L S h → ∃ U, (∀ b, U b → S b) ∧ A.p U h
 | [], _, _, hm, _ => by cases hm
 | B :: L, S, h, hm, ⟨S1, S2, h1, h2, _, ha, hl⟩ => by
  cases hm with
  | head => exact ⟨S1, h1, ha⟩
  | tail _ hm =>
   obtain ⟨U, hu, hp⟩ := Own.mem hm hl
   exact ⟨U, fun b hb => h2 b (hu b hb), hp⟩
inductive In (A : Asn) : List Asn → List Asn → Prop
 | l {L P : List Asn} (h : A ∈ L) : In A L P
 | p {L P : List Asn} (h : A ∈ P) : In A L P
theorem In.l0 {A : Asn} {L P : List Asn} : In A (A :: L) P := .l (.head _)
theorem In.l1 {A B : Asn} {L P : List Asn} : In A (B :: A :: L) P := .l (.tail _ (.head _))
theorem In.l2 {A B C : Asn} {L P : List Asn} : In A (B :: C :: A :: L) P := .l (.tail _ (.tail _ (.head _)))
theorem In.l3 {A B C D : Asn} {L P : List Asn} : In A (B :: C :: D :: A :: L) P := .l (.tail _ (.tail _ (.tail _ (.head _))))
theorem In.l4 {A B C D F : Asn} {L P : List Asn} : In A (B :: C :: D :: F :: A :: L) P := .l (.tail _ (.tail _ (.tail _ (.tail _ (.head _)))))
theorem In.l5 {A B C D F G : Asn} {L P : List Asn} : In A (B :: C :: D :: F :: G :: A :: L) P := .l (.tail _ (.tail _ (.tail _ (.tail _ (.tail _ (.head _))))))
theorem In.p0 {A : Asn} {L P : List Asn} : In A L (A :: P) := .p (.head _)
theorem In.h1 {A B : Asn} {L P : List Asn} (h : A ∈ P) : In A L (B :: P) := .p (.tail _ h)
theorem In.holds {A : Asn} {L P : List Asn} (h : In A L P) {S : Nat → Prop} {s : AS} (hs : Sat L P S s) : ∃ U, A.p U s.h ∧ ∀ b, U b → s.h.get b ≠ none := by
 cases h with
 | l h =>
  obtain ⟨U, h1, h2⟩ := hs.own.mem h
  exact ⟨U, h2, fun b hb => hs.ex b (h1 b hb)⟩
 | p h =>
  obtain ⟨U, h1, h2⟩ := hs.per A h
  exact ⟨U, h1, fun b hb => (h2 b hb).2⟩
theorem nblt {a b : Nat} : Nat.blt a b = true ↔ a < b := by rw [Nat.blt_eq]
theorem rd_pt {b : Nat} {cs : List Value} {z : Nat} (h : In (Pt b cs z) L P) {S : Nat → Prop} {s : AS} (hs : Sat L P S s) {o : Nat} {v : Value} (hv : cs[o]? = some v) : rd s b o = some v := by
 obtain ⟨U, ⟨_, c, h1, h2⟩, _⟩ := h.holds hs
 have hlt : o < cs.length := (List.getElem?_eq_some_iff.1 hv).1
 unfold rd
 rw [h1]
 have : Nat.blt o cs.length = true := by rw [Nat.blt_eq]; exact hlt
 simp only [this, cond_true]
 rw [h2 o hlt, hv]
theorem T.list_of {α : Type} (t : T α) : ∀ (n i : Nat) (l : List α), l.length = n → (∀ k, k < n → t.get (i + k) = l[k]?) → t.list n i = some l
 | 0, i, l, h, _ => by
  rw [T.list_zero]
  cases l with
  | nil => rfl
  | cons x l => cases h
 | n + 1, i, l, h, hk => by
  cases l with
  | nil => cases h
  | cons x l =>
   have h0 := hk 0 (by omega)
   have ih := T.list_of t n (i + 1) l (by simpa using h) (fun k hk' => by
    have := hk (k + 1) (by omega)
    rw [show i + 1 + k = i + (k + 1) by omega]
    simpa using this)
   rw [T.list_succ]
   simp only [Nat.add_zero, List.getElem?_cons_zero] at h0
   rw [h0, ih]
theorem rdN_pt {b : Nat} {cs : List Value} {z : Nat} (h : In (Pt b cs z) L P) {S : Nat → Prop} {s : AS} (hs : Sat L P S s) {o n : Nat} (hv : o + n ≤ cs.length) : rdN s b o n = some ((cs.drop o).take n) := by
 obtain ⟨U, ⟨_, c, h1, h2⟩, _⟩ := h.holds hs
 unfold rdN
 rw [h1]
 have : Nat.ble (o + n) cs.length = true := Nat.ble_eq_true_of_le hv
 simp only [this, cond_true]
 refine T.list_of _ _ _ _ (by rw [List.length_take, List.length_drop]; omega) (fun k hk => ?_)
 rw [h2 (o + k) (by omega), List.getElem?_take, if_pos hk, List.getElem?_drop]
theorem WO.pure {op : Op} {v : Value} {Q : Value → List Asn → List Asn → Prop} (hc : ∀ call tm s, Has al tm → execA op E call tm s = some (v, s)) (h : Q v L P) : WO E op al L P Q :=
 fun S s tm hs ha => ⟨v, s, S, L, P, ⟨0, 0, hc _ tm s ha⟩, .refl _ _, hs, h⟩
theorem WO.see {op : Op} {v : Value} {Q : Value → List Asn → List Asn → Prop} (hc : ∀ call tm S s, Sat L P S s → Has al tm → execA op E call tm s = some (v, s)) (h : Q v L P) : WO E op al L P Q :=
 fun S s tm hs ha => ⟨v, s, S, L, P, ⟨0, 0, hc _ tm S s hs ha⟩, .refl _ _, hs, h⟩
def Pu (E : Env) (al : Al) (op : Op) (v : Value) : Prop := (∀ call tm s, execA op E call tm s = opA op E tm s) ∧ ∀ tm s, Has al tm → opA op E tm s = some (v, s)
theorem WR.pu {d t : Nat} {op : Op} {pos : String} {af : Array Edge} {v : Value} (hp : Pu E al op v) (h : WR E N ops l ((d, v) :: al) L P Q) (hN : Nat.ble d N = true := by rfl) : WR E N ops (⟨some d, op, t, pos, af, none⟩ :: l) al L P Q :=
 WR.op rfl rfl hN (WO.pure (fun call tm s ha => by rw [hp.1]; exact hp.2 tm s ha) h)
theorem Pu.mv {x : Operand} {v : Value} (hx : evl al x = some v := by rfl) : Pu E al (.move x) v := ⟨fun _ _ _ => rfl, fun tm s ha => by show hMove x E tm s = _; unfold hMove; rw [evl_ev ha hx]⟩
theorem Pu.as {x : Operand} {v : Value} (hx : evl al x = some v := by rfl) : Pu E al (.assign x) v := ⟨fun _ _ _ => rfl, fun tm s ha => by show hMove x E tm s = _; unfold hMove; rw [evl_ev ha hx]⟩
theorem Pu.pk {c x y : Operand} {b : Bool} {v : Value} (hc : evl al c = some (.bool b) := by rfl) (hx : evl al (bif b then x else y) = some v := by rfl) : Pu E al (.pick c x y) v :=
 ⟨fun _ _ _ => rfl, fun tm s ha => by show hPick c x y E tm s = _; unfold hPick; rw [evl_ev ha hc]; simp only; rw [evl_ev ha hx]⟩
theorem Pu.nc {x : Operand} {p : Addr} (hx : evl al x = some (.pointer (some p)) := by rfl) : Pu E al (.nilCheck x) (.pointer (some p)) := ⟨fun _ _ _ => rfl, fun tm s ha => by show hNilCheck x E tm s = _; unfold hNilCheck; rw [evl_ev ha hx]⟩
theorem Pu.ex {x : Operand} {i : Nat} {vs : Array Value} {v : Value} (hx : evl al x = some (.tuple vs) := by rfl) (hv : vs.toList[i]? = some v := by rfl) : Pu E al (.extract x i) v :=
 ⟨fun _ _ _ => rfl, fun tm s ha => by show hExtract x i E tm s = _; unfold hExtract; rw [evl_ev ha hx]; simp only; rw [hv]⟩
theorem Pu.nt {x : Operand} {u : Nat} {b : Bool} (hx : evl al x = some (.bool b) := by rfl) : Pu E al (.unOp .not u x) (.bool (!b)) := ⟨fun _ _ _ => rfl, fun tm s ha => by show hUn .not x E tm s = _; unfold hUn; rw [evl_ev ha hx]; rfl⟩
theorem Pu.mf {f : Fn} {a b : Array Operand} {as bs : List Value} (hx : evls al a.toList = some as := by rfl) (hy : evls al b.toList = some bs := by rfl) : Pu E al (.makeFunc f a b) (.func f ⟨as⟩ ⟨bs⟩) :=
 ⟨fun _ _ _ => rfl, fun tm s ha => by show hFunc f a b E tm s = _; unfold hFunc; rw [evls_evs ha hx, evls_evs ha hy]⟩
noncomputable def fo (E : Env) (t : TypeId) (f : Nat) : Option Nat :=
 match E.ty.get t with
 | some i => match i.desc with
  | .struct fs => match fs.toList[f]? with
   | some fd => match E.ty.get fd.type with
    | some j => bif Nat.beq j.size 0 then none else some fd.offset
    | none => none
   | none => none
  | _ => none
 | none => none
theorem Pu.fa {x : Operand} {u f : Nat} {b o n o' : Nat} (hx : evl al x = some (.pointer (some ⟨b, o, none⟩)) := by rfl) (hf : fo E u f = some n := by rfl) (ho : o + n = o' := by first | (simp only [Nat.reduceAdd, Nat.add_zero, Nat.zero_add]; exact rfl) | exact rfl) : Pu E al (.fieldAddr u x f) (.pointer (some ⟨b, o', none⟩)) :=
 ⟨fun _ _ _ => rfl, fun tm s ha => by
  subst ho
  show hFieldAddr u x f E tm s = _
  unfold hFieldAddr
  unfold fo at hf
  cases hi : E.ty.get u with
  | none => rw [hi] at hf; cases hf
  | some i =>
   rw [hi] at hf
   rw [evl_ev ha hx]
   simp only at hf ⊢
   cases hd : i.desc with
   | struct fs =>
    rw [hd] at hf
    simp only at hf ⊢
    cases hfd : fs.toList[f]? with
    | none => rw [hfd] at hf; cases hf
    | some fd =>
     rw [hfd] at hf
     simp only at hf ⊢
     cases hj : E.ty.get fd.type with
     | none => rw [hj] at hf; cases hf
     | some j =>
      rw [hj] at hf
      simp only at hf ⊢
      cases hz : Nat.beq j.size 0 with
      | true => rw [hz] at hf; cases hf
      | false =>
       rw [hz] at hf
       simp only [cond_false, Option.some.injEq] at hf ⊢
       rw [natK_eq, hf]
   | _ => rw [hd] at hf; cases hf⟩
noncomputable def ldv (E : Env) (t : TypeId) (cs : List Value) (o : Nat) : Option Value :=
 match E.ty.get t with
 | none => none
 | some i => bif isAggD i.desc then (bif Nat.ble (o + i.size) cs.length then some (.agg ⟨(cs.drop o).take i.size⟩) else none) else cs[o]?
def Exts (s s' : AS) : Prop := ∀ b o, s.h.get b = some o → s'.h.get b = some o
theorem Exts.refl (s : AS) : Exts s s := fun _ _ h => h
def Lk (E : Env) (al : Al) (L P : List Asn) (op : Op) (v : Value) : Prop := (∀ call tm s, execA op E call tm s = opA op E tm s) ∧ ∀ tm S s, Has al tm → Sat L P S s → ∀ s', opA op E tm s' = some (v, s')
def Ld (E : Env) (al : Al) (op : Op) (v : Value) (ok : List Asn → List Asn → Prop) : Prop := (∀ call tm s, execA op E call tm s = opA op E tm s) ∧ ∀ tm, Has al tm → ∀ L P S s s', Sat L P S s → Exts s s' → ok L P → opA op E tm s' = some (v, s')
theorem WR.lk {d t : Nat} {op : Op} {pos : String} {af : Array Edge} {v : Value} (hp : Lk E al L P op v) (h : WR E N ops l ((d, v) :: al) L P Q) (hN : Nat.ble d N = true := by rfl) : WR E N ops (⟨some d, op, t, pos, af, none⟩ :: l) al L P Q :=
 WR.op rfl rfl hN (WO.see (fun call tm S s hs ha => by rw [hp.1]; exact hp.2 tm S s ha hs s) h)
theorem WR.lo {d t : Nat} {op : Op} {pos : String} {af : Array Edge} {v : Value} {ok : List Asn → List Asn → Prop} (hp : Ld E al op v ok) (hk : ok L P) (h : WR E N ops l ((d, v) :: al) L P Q) (hN : Nat.ble d N = true := by rfl) : WR E N ops (⟨some d, op, t, pos, af, none⟩ :: l) al L P Q :=
 WR.op rfl rfl hN (WO.see (fun call tm S s hs ha => by rw [hp.1]; exact hp.2 tm ha L P S s s hs (Exts.refl s) hk) h)
theorem rd_exts {s s' : AS} (he : Exts s s') {b o : Nat} {v : Value} (h : rd s b o = some v) : rd s' b o = some v := by
 unfold rd at h ⊢
 cases hg : s.h.get b with
 | none => rw [hg] at h; cases h
 | some x => rw [hg] at h; rw [he b x hg]; exact h
theorem rdN_exts {s s' : AS} (he : Exts s s') {b o n : Nat} {v : List Value} (h : rdN s b o n = some v) : rdN s' b o n = some v := by
 unfold rdN at h ⊢
 cases hg : s.h.get b with
 | none => rw [hg] at h; cases h
 | some x => rw [hg] at h; rw [he b x hg]; exact h
theorem hLoad_of {x : Operand} {u b o : Nat} {cs : List Value} {v : Value} {tm : Tm} {s : AS} (ha : Has al tm) (hx : evl al x = some (.pointer (some ⟨b, o, none⟩))) (hv : ldv E u cs o = some v) (h1 : ∀ w, cs[o]? = some w → rd s b o = some w) (h2 : ∀ n, o + n ≤ cs.length → rdN s b o n = some ((cs.drop o).take n)) : hLoad u x E tm s = some (v, s) := by
 unfold hLoad
 unfold ldv at hv
 cases hi : E.ty.get u with
 | none => rw [hi] at hv; cases hv
 | some i =>
  rw [hi] at hv
  rw [evl_ev ha hx]
  simp only at hv ⊢
  cases hd : isAggD i.desc with
  | true =>
   rw [hd] at hv
   simp only [cond_true] at hv ⊢
   cases hb : Nat.ble (o + i.size) cs.length with
   | false => rw [hb] at hv; cases hv
   | true =>
    rw [hb] at hv
    simp only [cond_true, Option.some.injEq] at hv
    rw [h2 _ (Nat.le_of_ble_eq_true hb)]
    simp only [hv]
  | false =>
   rw [hd] at hv
   simp only [cond_false] at hv ⊢
   rw [h1 _ hv]
def OkPt (E : Env) (u b o : Nat) (v : Value) (L P : List Asn) : Prop := ∃ cs z, In (Pt b cs z) L P ∧ ldv E u cs o = some v
theorem Ld.ld {x : Operand} {u b o : Nat} {v : Value} (hx : evl al x = some (.pointer (some ⟨b, o, none⟩)) := by rfl) : Ld E al (.load u x) v (OkPt E u b o v) :=
 ⟨fun _ _ _ => rfl, fun tm ha L P S s s' hs he ⟨cs, z, hm, hv⟩ => hLoad_of ha hx hv (fun w hw => rd_exts he (rd_pt hm hs hw)) (fun n hn => rdN_exts he (rdN_pt hm hs hn))⟩
theorem OkPt.mk {u b o z : Nat} {cs : List Value} {v : Value} (hm : In (Pt b cs z) L P := by first | exact .l0 | exact .l1 | exact .l2 | exact .l3 | exact .l4 | exact .l5 | exact .p0 | exact .p1 | exact .p2 | exact .p3 | exact .p (by assumption) | exact .h1 (by assumption) | exact .h2 (by assumption) | exact .h3 (by assumption) | exact .g0 (by assumption) | exact .g1 (by assumption)) (hv : ldv E u cs o = some v := by rfl) : OkPt E u b o v L P := ⟨cs, z, hm, hv⟩
theorem WR.ld {x : Operand} {d t u : Nat} {pos : String} {af : Array Edge} {b o : Nat} {cs : List Value} {z : Nat} {v : Value} (h : WR E N ops l ((d, v) :: al) L P Q) (hx : evl al x = some (.pointer (some ⟨b, o, none⟩)) := by rfl)
  (hm : In (Pt b cs z) L P := by first | exact .l0 | exact .l1 | exact .l2 | exact .l3 | exact .l4 | exact .l5 | exact .p0 | exact .p1 | exact .p2 | exact .p3 | exact .p (by assumption) | exact .h1 (by assumption) | exact .h2 (by assumption) | exact .h3 (by assumption) | exact .g0 (by assumption) | exact .g1 (by assumption))
  (hv : ldv E u cs o = some v := by rfl) (hN : Nat.ble d N = true := by rfl) : WR E N ops (⟨some d, .load u x, t, pos, af, none⟩ :: l) al L P Q := WR.lo (Ld.ld hx) ⟨cs, z, hm, hv⟩ h hN
theorem WR.lda {x : Operand} {d t u : Nat} {pos : String} {af : Array Edge} {b o : Nat} {cs vs : List Value} {z : Nat} (h : WR E N ops l ((d, .agg ⟨vs⟩) :: al) L P Q) (hx : evl al x = some (.pointer (some ⟨b, o, none⟩)) := by rfl)
  (hm : In (Pt b cs z) L P := by first | exact .l0 | exact .l1 | exact .l2 | exact .l3 | exact .l4 | exact .l5 | exact .p0 | exact .p1 | exact .p2 | exact .p3 | exact .p (by assumption) | exact .h1 (by assumption) | exact .h2 (by assumption) | exact .h3 (by assumption) | exact .g0 (by assumption) | exact .g1 (by assumption))
  (hv : ldv E u cs o = some (.agg ⟨vs⟩) := by rfl) (hN : Nat.ble d N = true := by rfl) : WR E N ops (⟨some d, .load u x, t, pos, af, none⟩ :: l) al L P Q := WR.lo (Ld.ld hx) ⟨cs, z, hm, hv⟩ h hN
theorem intV_i64 {n : Int} (h : -9223372036854775808 ≤ n ∧ n < 9223372036854775808) : intV .i64 n = some (.int .i64 n) := by
 have e : wrapA .i64 n = n := by
  show wrS 18446744073709551616 9223372036854775808 n = n
  unfold wrS
  rw [natK_eq]
  cases n with
  | ofNat a =>
   have h2 : a < 9223372036854775808 := by have := h.2; simp only [Int.ofNat_eq_natCast] at this; omega
   have e1 : imod (.ofNat a) 18446744073709551616 = a := by show a % _ = a; omega
   rw [e1]
   have : Nat.blt a 9223372036854775808 = true := by rw [Nat.blt_eq]; exact h2
   simp [this]
  | negSucc a =>
   have h1 : a < 9223372036854775808 := by have := h.1; rw [Int.negSucc_eq] at this; omega
   have e1 : imod (.negSucc a) 18446744073709551616 = 18446744073709551615 - a := by show 18446744073709551616 - 1 - a % _ = _; omega
   rw [e1]
   have : Nat.blt (18446744073709551615 - a) 9223372036854775808 = false := by
    cases hb : Nat.blt (18446744073709551615 - a) 9223372036854775808 with
    | false => rfl
    | true => rw [Nat.blt_eq] at hb; omega
   rw [this]
   simp only [cond_false]
   congr 1
   omega
 unfold intV
 rw [e]
 unfold intK
 cases n <;> simp only [natK_eq]
theorem hBin_int {op : BinOp} {u : TypeId} {x y : Operand} {k k' : IntKind} {a b : Int} {v : Value} (hx : evl al x = some (.int k a)) (hy : evl al y = some (.int k' b)) (h : binII op k a k' b = some v) (tm : Tm) (s : AS) (ha : Has al tm) : hBin op u x y E tm s = some (v, s) := by
 unfold hBin
 rw [evl_ev ha hx, evl_ev ha hy]
 simp only
 have : binA E s op u x y (.int k a) (.int k' b) = some v := h
 rw [this]
theorem Pu.add {x y : Operand} {u r : Nat} {a b : Int} (hx : evl al x = some (.int .i64 a) := by rfl) (hy : evl al y = some (.int .i64 b) := by rfl) (hr : -9223372036854775808 ≤ a + b ∧ a + b < 9223372036854775808 := by omega) : Pu E al (.binOp .add u x y r) (.int .i64 (a + b)) :=
 ⟨fun _ _ _ => rfl, fun tm s ha => hBin_int hx hy (by exact intV_i64 hr) tm s ha⟩
theorem Pu.sub {x y : Operand} {u r : Nat} {a b : Int} (hx : evl al x = some (.int .i64 a) := by rfl) (hy : evl al y = some (.int .i64 b) := by rfl) (hr : -9223372036854775808 ≤ a - b ∧ a - b < 9223372036854775808 := by omega) : Pu E al (.binOp .sub u x y r) (.int .i64 (a - b)) :=
 ⟨fun _ _ _ => rfl, fun tm s ha => hBin_int hx hy (by exact intV_i64 hr) tm s ha⟩
theorem Pu.mul {x y : Operand} {u r : Nat} {a b : Int} (hx : evl al x = some (.int .i64 a) := by rfl) (hy : evl al y = some (.int .i64 b) := by rfl) (hr : -9223372036854775808 ≤ a * b ∧ a * b < 9223372036854775808 := by omega) : Pu E al (.binOp .mul u x y r) (.int .i64 (a * b)) :=
 ⟨fun _ _ _ => rfl, fun tm s ha => hBin_int hx hy (by exact intV_i64 hr) tm s ha⟩
theorem ilt_eq (a b : Int) : ilt a b = decide (a < b) := by
 cases a <;> cases b <;> simp only [ilt]
 ·rename_i a b
  by_cases h : a < b
  ·rw [decide_eq_true (by simp only [Int.ofNat_eq_natCast]; omega), nblt.2 h]
  ·rw [decide_eq_false (by simp only [Int.ofNat_eq_natCast]; omega)]
   cases hb : Nat.blt a b with
   | false => rfl
   | true => exact absurd (nblt.1 hb) h
 ·rename_i a b
  rw [decide_eq_false (by rw [Int.negSucc_eq]; simp only [Int.ofNat_eq_natCast]; omega)]
 ·rename_i a b
  rw [decide_eq_true (by rw [Int.negSucc_eq]; simp only [Int.ofNat_eq_natCast]; omega)]
 ·rename_i a b
  by_cases h : b < a
  ·rw [decide_eq_true (by rw [Int.negSucc_eq, Int.negSucc_eq]; omega), nblt.2 h]
  ·rw [decide_eq_false (by rw [Int.negSucc_eq, Int.negSucc_eq]; omega)]
   cases hb : Nat.blt b a with
   | false => rfl
   | true => exact absurd (nblt.1 hb) h
theorem ieq_eq (a b : Int) : ieq a b = decide (a = b) := by
 cases a <;> cases b <;> simp only [ieq]
 ·rename_i a b
  by_cases h : a = b
  ·subst h; simp
  ·rw [decide_eq_false (by simp only [Int.ofNat_eq_natCast, Int.negSucc_eq]; omega)]
   cases hb : Nat.beq a b with
   | false => rfl
   | true => exact absurd (Nat.eq_of_beq_eq_true hb) h
 ·rw [decide_eq_false (by simp)]
 ·rw [decide_eq_false (by simp)]
 ·rename_i a b
  by_cases h : a = b
  ·subst h; simp
  ·rw [decide_eq_false (by simp only [Int.ofNat_eq_natCast, Int.negSucc_eq]; omega)]
   cases hb : Nat.beq a b with
   | false => rfl
   | true => exact absurd (Nat.eq_of_beq_eq_true hb) h
theorem kindEq_refl (k : IntKind) : kindEq k k = true := by cases k <;> rfl
def cmpB : BinOp → Int → Int → Option Bool
 | .lss, a, b => some (decide (a < b))
 | .leq, a, b => some (decide (a ≤ b))
 | .gtr, a, b => some (decide (b < a))
 | .geq, a, b => some (decide (b ≤ a))
 | .eql, a, b => some (decide (a = b))
 | .neq, a, b => some (decide (a ≠ b))
 | _, _, _ => none
theorem cmpB_bin {op : BinOp} {k : IntKind} {a b : Int} {t : Bool} (h : cmpB op a b = some t) : binII op k a k b = some (.bool t) := by
 cases op <;> simp only [cmpB, Option.some.injEq, reduceCtorEq] at h
 ·show (bif kindEq k k then intBin .eql k a b else none) = _
  rw [kindEq_refl]
  show some (Value.bool (ieq a b)) = _
  rw [ieq_eq, h]
 ·show (bif kindEq k k then intBin .neq k a b else none) = _
  rw [kindEq_refl]
  show some (Value.bool (!ieq a b)) = _
  rw [ieq_eq, ← h]
  by_cases e : a = b <;> simp [e]
 ·show (bif kindEq k k then intBin .lss k a b else none) = _
  rw [kindEq_refl]
  show some (Value.bool (ilt a b)) = _
  rw [ilt_eq, h]
 ·show (bif kindEq k k then intBin .leq k a b else none) = _
  rw [kindEq_refl]
  show some (Value.bool (!ilt b a)) = _
  rw [ilt_eq, ← h]
  by_cases e : b < a
  ·rw [decide_eq_true e, decide_eq_false (by omega)]; rfl
  ·rw [decide_eq_false e, decide_eq_true (by omega)]; rfl
 ·show (bif kindEq k k then intBin .gtr k a b else none) = _
  rw [kindEq_refl]
  show some (Value.bool (ilt b a)) = _
  rw [ilt_eq, h]
 ·show (bif kindEq k k then intBin .geq k a b else none) = _
  rw [kindEq_refl]
  show some (Value.bool (!ilt a b)) = _
  rw [ilt_eq, ← h]
  by_cases e : a < b
  ·rw [decide_eq_true e, decide_eq_false (by omega)]; rfl
  ·rw [decide_eq_false e, decide_eq_true (by omega)]; rfl
theorem Pu.cmp {op : BinOp} {x y : Operand} {u r : Nat} {k : IntKind} {a b : Int} {q : Bool} (hx : evl al x = some (.int k a) := by rfl) (hy : evl al y = some (.int k b) := by rfl) (hq : cmpB op a b = some q := by rfl) : Pu E al (.binOp op u x y r) (.bool q) :=
 ⟨fun _ _ _ => rfl, fun tm s ha => hBin_int hx hy (cmpB_bin hq) tm s ha⟩
def cmpP : BinOp → Int → Int → Bool → Prop
 | .lss, a, b, true => a < b
 | .leq, a, b, true => a ≤ b
 | .gtr, a, b, true => b < a
 | .geq, a, b, true => b ≤ a
 | .eql, a, b, true => a = b
 | .neq, a, b, true => a ≠ b
 | .lss, a, b, false => b ≤ a
 | .leq, a, b, false => b < a
 | .gtr, a, b, false => a ≤ b
 | .geq, a, b, false => a < b
 | .eql, a, b, false => a ≠ b
 | .neq, a, b, false => a = b
 | _, _, _, _ => False
theorem cmpP_B {op : BinOp} {a b : Int} {q : Bool} (h : cmpP op a b q) : cmpB op a b = some q := by
 cases op <;> cases q <;> simp only [cmpP] at h <;> simp only [cmpB, Option.some.injEq] <;> first | exact decide_eq_true h | exact decide_eq_false (by omega) | exact absurd h id
theorem Pu.cy {op : BinOp} {x y : Operand} {u r : Nat} {k : IntKind} {a b : Int} (hx : evl al x = some (.int k a) := by rfl) (hy : evl al y = some (.int k b) := by rfl) (hq : cmpP op a b true := by simp only [Go.Lx.cmpP]; omega) : Pu E al (.binOp op u x y r) (.bool true) := Pu.cmp hx hy (cmpP_B hq)
theorem Pu.cn {op : BinOp} {x y : Operand} {u r : Nat} {k : IntKind} {a b : Int} (hx : evl al x = some (.int k a) := by rfl) (hy : evl al y = some (.int k b) := by rfl) (hq : cmpP op a b false := by simp only [Go.Lx.cmpP]; omega) : Pu E al (.binOp op u x y r) (.bool false) := Pu.cmp hx hy (cmpP_B hq)
end Go.Lx
/- Bodies of functions; stores, new blocks, calls. -/
namespace Go.Lx
open Go Go.Ax
variable {E : Env} {N : Nat} {ops l : List Oper} {al : Al} {L P : List Asn} {Q : Al → List Asn → List Asn → Prop}
def argl : Nat → List Value → Al
 | _, [] => []
 | i, v :: l => (i, v) :: argl (i + 1) l
theorem argl_lk : ∀ (l : List Value) (i k : Nat) (v : Value), lk (argl i l) k = some v → i ≤ k ∧ l[k - i]? = some v
 | [], _, _, _, e => by cases e
 | u :: l, i, k, v, e => by
  have e : (bif Nat.beq i k then some u else lk (argl (i + 1) l) k) = some v := e
  cases hb : Nat.beq i k with
  | true =>
   obtain rfl := Nat.eq_of_beq_eq_true hb
   rw [hb] at e
   exact ⟨Nat.le_refl _, by rw [Nat.sub_self]; exact e⟩
  | false =>
   rw [hb] at e
   obtain ⟨h1, h2⟩ := argl_lk l (i + 1) k v e
   refine ⟨by omega, ?_⟩
   rw [show k - i = (k - (i + 1)) + 1 by omega]
   simpa using h2
theorem argl_has (args : List Value) : Has (argl 0 args) (T.e.fill 0 args) := fun k v e => by
 obtain ⟨_, h⟩ := argl_lk args 0 k v e
 rw [Nat.sub_zero] at h
 rw [T.get_fill, if_pos ⟨Nat.zero_le _, by rw [Nat.zero_add]; exact (List.getElem?_eq_some_iff.1 h).1⟩, Nat.sub_zero, h]
inductive Res (E : Env) (al : Al) (L P : List Asn) : List ResultVar → List Value → Prop
 | nil : Res E al L P [] []
 | tmp {t : Nat} {v : Value} {rs : List ResultVar} {vs : List Value} (h : lk al t = some v) (hr : Res E al L P rs vs) : Res E al L P (.tmp t :: rs) (v :: vs)
 | cell {a t b o z : Nat} {cs : List Value} {v : Value} {rs : List ResultVar} {vs : List Value} (h : lk al a = some (.pointer (some ⟨b, o, none⟩))) (hm : In (Pt b cs z) L P) (hv : ldv E t cs o = some v) (hr : Res E al L P rs vs) : Res E al L P (.cell a t :: rs) (v :: vs)
theorem Res.sound {rs : List ResultVar} {vs : List Value} (h : Res E al L P rs vs) {S : Nat → Prop} {s : AS} {tm : Tm} (hs : Sat L P S s) (ha : Has al tm) : resA E tm s rs = some vs := by
 induction h with
 | nil => rfl
 | tmp h hr ih =>
  unfold resA
  simp only
  rw [ha _ _ h, ih]
 | @cell a t b o z cs v rs vs h hm hv hr ih =>
  unfold resA
  simp only
  rw [ha _ _ h, ih]
  unfold ldv at hv
  cases hi : E.ty.get t with
  | none => rw [hi] at hv; cases hv
  | some i =>
   rw [hi] at hv
   simp only at hv ⊢
   cases hd : isAggD i.desc with
   | true =>
    rw [hd] at hv
    simp only [cond_true] at hv ⊢
    cases hb : Nat.ble (o + i.size) cs.length with
    | false => rw [hb] at hv; cases hv
    | true =>
     rw [hb] at hv
     simp only [cond_true, Option.some.injEq] at hv
     rw [rdN_pt hm hs (Nat.le_of_ble_eq_true hb)]
     simp only [hv]
   | false =>
    rw [hd] at hv
    simp only [cond_false] at hv ⊢
    rw [rd_pt hm hs hv]
def bodyQ (E : Env) (rs : List ResultVar) (Q : Value → List Asn → List Asn → Prop) : X → Al → List Asn → List Asn → Prop
 | .exit _, _, _, _ => False
 | .nor, al, L, P => ∃ vs, Res E al L P rs vs ∧ ∃ L' P', Ent L P L' P' ∧ Q (packA vs) L' P'
 | .ret, al, L, P => ∃ vs, Res E al L P rs vs ∧ ∃ L' P', Ent L P L' P' ∧ Q (packA vs) L' P'
theorem Sp.body {f : FuncId} {fn : Func} {c : Code} {rs : List ResultVar} {args : List Value} {Q : Value → List Asn → List Asn → Prop} (hp : E.prim.get f = none) (hf : E.fn.get f = some fn) (hb : fn.body = some c) (hn : fn.ntmps = N + 1) (hr : fn.results.toList = rs) (h : W E N c (argl 0 args) L P (bodyQ E rs Q)) : Sp E f args L P Q := by
 intro S s hs
 obtain ⟨x, tm1, s1, S1, al1, L1, P1, ⟨F, D, F', e⟩, ht, ha1, hs1, hq⟩ := h S s _ hs (argl_has args)
 have hq' : (∀ i, x ≠ .exit i) ∧ ∃ vs, Res E al1 L1 P1 rs vs ∧ ∃ L' P', Ent L1 P1 L' P' ∧ Q (packA vs) L' P' := by
  cases x with
  | exit i => exact hq.elim
  | nor => exact ⟨fun i e => (by cases e), hq⟩
  | ret => exact ⟨fun i e => (by cases e), hq⟩
 obtain ⟨hx, vs, h1, L2, P2, hE, h2⟩ := hq'
 obtain ⟨S2, hS, hs2⟩ := hE S1 s1 hs1
 refine ⟨packA vs, s1, S2, L2, P2, ⟨max F F', D + 1, ?_⟩, ht.trans (tr_sub hS), hs2, h2⟩
 show (match E.prim.get f with
   | some p => p args s
   | none => match E.fn.get f with
    | none => none
    | some fn => match fn.body with
     | none => none
     | some c => bif Nat.beq fn.ntmps 0 then none else natK (Nat.pred fn.ntmps) fun N => match codeA E (callA E (max F F') D) N (max F F') c (T.e.fill 0 args) s with
      | some (.exit _, _, _) => none
      | none => none
      | some (_, tm, s') => match resA E tm s' fn.results.toList with
       | none => none
       | some vs => some (packA vs, s')) = _
 rw [hp]
 simp only
 rw [hf]
 simp only
 rw [hb]
 simp only
 rw [hn, hr]
 have hz : Nat.beq (N + 1) 0 = false := rfl
 rw [hz]
 simp only [cond_false, natK_eq]
 have he := codeA_mono (callA_mono D D F (max F F') (Nat.le_refl _) (by omega)) F' (max F F') (by omega) _ _ _ _ e
 have hN : Nat.pred (N + 1) = N := rfl
 rw [hN, he]
 cases x with
 | exit i => exact absurd rfl (hx i)
 | nor => simp only; rw [h1.sound hs1 ha1]
 | ret => simp only; rw [h1.sound hs1 ha1]
theorem Sp.prim {f : FuncId} {p : List Value → AS → Option (Value × AS)} {args : List Value} {Q : Value → List Asn → List Asn → Prop} (hp : E.prim.get f = some p) (h : ∀ S s, Sat L P S s → ∃ v s' S' L' P', p args s = some (v, s') ∧ Tr S s S' s' ∧ Sat L' P' S' s' ∧ Q v L' P') : Sp E f args L P Q := by
 intro S s hs
 obtain ⟨v, s1, S1, L1, P1, e, hr⟩ := h S s hs
 refine ⟨v, s1, S1, L1, P1, ⟨0, 1, ?_⟩, hr⟩
 show (match E.prim.get f with
   | some p => p args s
   | none => _) = _
 rw [hp]
 exact e
theorem Sp.mono {f : FuncId} {args : List Value} {Q Q' : Value → List Asn → List Asn → Prop} (h : Sp E f args L P Q) (hq : ∀ v L P, Q v L P → Q' v L P) : Sp E f args L P Q' := by
 intro S s hs
 obtain ⟨v, s1, S1, L1, P1, e, h1, h2, h3⟩ := h S s hs
 exact ⟨v, s1, S1, L1, P1, e, h1, h2, hq _ _ _ h3⟩
theorem WO.call {x : Operand} {xs : Array Operand} {ts : Array TypeId} {f : FuncId} {fs cs : Array Value} {vs : List Value} {Q : Value → List Asn → List Asn → Prop} (hf : evl al x = some (.func (.func f) fs cs)) (hx : evls al xs.toList = some vs) (h : Sp E f (fs.toList ++ vs ++ cs.toList) L P Q) : WO E (.call ⟨.value x, xs, ts⟩) al L P Q := by
 intro S s tm hs ha
 obtain ⟨v, s1, S1, L1, P1, ⟨F, D, e⟩, hr⟩ := h S s hs
 refine ⟨v, s1, S1, L1, P1, ⟨F, D, ?_⟩, hr⟩
 show callV x xs.toList (callA E F D) tm s = _
 unfold callV
 rw [evl_ev ha hf, evls_evs ha hx]
 exact e
theorem WR.call {x : Operand} {xs : Array Operand} {ts : Array TypeId} {f : FuncId} {fs cs : Array Value} {vs : List Value} {d t : Nat} {pos : String} {af : Array Edge} {Qs : Value → List Asn → List Asn → Prop} (h : Sp E f (fs.toList ++ vs ++ cs.toList) L P Qs) (hk : ∀ v L' P', Qs v L' P' → WR E N ops l ((d, v) :: al) L' P' Q)
  (hf : evl al x = some (.func (.func f) fs cs) := by rfl) (hx : evls al xs.toList = some vs := by rfl) (hN : Nat.ble d N = true := by rfl) : WR E N ops (⟨some d, .call ⟨.value x, xs, ts⟩, t, pos, af, none⟩ :: l) al L P Q :=
 WR.op rfl rfl hN (WO.call hf hx (h.mono hk))
inductive Upd (A B : Asn) : List Asn → List Asn → Prop
 | z {L : List Asn} : Upd A B (A :: L) (B :: L)
 | s {C : Asn} {L L' : List Asn} (h : Upd A B L L') : Upd A B (C :: L) (C :: L')
theorem Own.upd {A B : Asn} {b : Nat} (hA : ∀ U h, A.p U h → U b) {h h' : T AObj} (he : ∀ k, k ≠ b → h'.get k = h.get k) (hB : B.p (fun k => k = b) h') : ∀ {L L' : List Asn}, Upd A B L L' → ∀ {S : Nat → Prop}, Own L S h → Own L' S h' := by
 intro L L' hu
 induction hu with
 | z =>
  intro S ⟨S1, S2, h1, h2, hd, ha, hl⟩
  have hb := hA _ _ ha
  exact ⟨fun k => k = b, S2, fun k hk => by cases hk; exact h1 _ hb, h2, fun k hk hk2 => by cases hk; exact hd _ hb hk2, hB, hl.loc (fun k hk => he k (fun e => by subst e; exact hd _ hb hk))⟩
 | @s C L1 L2 hu ih =>
  intro S ⟨S1, S2, h1, h2, hd, ha, hl⟩
  have hm : A ∈ L1 := by
   clear ih hl
   induction hu with
   | z => exact .head _
   | s _ ih => exact .tail _ ih
  obtain ⟨U, hU, hpU⟩ := hl.mem hm
  have hb := hU _ (hA _ _ hpU)
  exact ⟨S1, S2, h1, h2, hd, C.loc _ _ _ (fun k hk => he k (fun e => by subst e; exact hd _ hk hb)) ha, ih hl⟩
theorem Upd.mem {A B : Asn} {L L' : List Asn} (h : Upd A B L L') : A ∈ L := by
 induction h with
 | z => exact .head _
 | s _ ih => exact .tail _ ih
theorem Sat.upd {A B : Asn} {b : Nat} {L' : List Asn} (hu : Upd A B L L') (hA : ∀ U h, A.p U h → U b) {S : Nat → Prop} {s : AS} (hs : Sat L P S s) {o : AObj} (hB : ∀ h : T AObj, h.get b = some o → B.p (fun k => k = b) h) : Sat L' P S (s.upd b o) ∧ Tr S s S (s.upd b o) := by
 have hb : S b := by
  obtain ⟨U, hU, hp⟩ := hs.own.mem hu.mem
  exact hU _ (hA _ _ hp)
 have he : ∀ k, k ≠ b → (s.upd b o).h.get k = s.h.get k := fun k hk => T.get_set_ne _ _ hk
 have ht : Tr S s S (s.upd b o) := ⟨Nat.le_refl _, fun k hk hn => he k (fun e => by subst e; exact hn hb), fun k hk => .inl hk, fun k hk => by
  by_cases e : k = b
  ·subst e
   show (s.h.set k o).get k ≠ none
   rw [T.get_set_same]
   simp
  ·rw [he k e]; exact hk⟩
 exact ⟨⟨hs.own.upd hA he (hB _ (T.get_set_same _ _ _)) hu, fun A ha => ht.per hs.fresh (hs.per A ha), fun k hk => by
  by_cases e : k = b
  ·subst e
   show (s.h.set k o).get k ≠ none
   rw [T.get_set_same]
   simp
  ·rw [he k e]
   exact hs.ex k hk, fun k hk => by
  rw [he k (fun e => by subst e; have := hs.lt _ hb; have hk : s.nx ≤ k := hk; omega)]
  exact hs.fresh k hk⟩, ht⟩
theorem Sat.new {A : Asn} {S : Nat → Prop} {s : AS} (hs : Sat L P S s) {o : AObj} (hA : ∀ h : T AObj, h.get s.nx = some o → A.p (fun k => k = s.nx) h) : Sat (A :: L) P (fun k => S k ∨ k = s.nx) (s.new o) ∧ Tr S s (fun k => S k ∨ k = s.nx) (s.new o) := by
 have he : ∀ k, k ≠ s.nx → (s.new o).h.get k = s.h.get k := fun k hk => T.get_set_ne _ _ hk
 have ht : Tr S s (fun k => S k ∨ k = s.nx) (s.new o) := ⟨Nat.le_succ _, fun k hk hn => he k (by omega), fun k hk => hk.imp id (fun e => by omega), fun k hk => by
  rw [he k (fun e => by subst e; exact hk (hs.fresh _ (Nat.le_refl _)))]
  exact hk⟩
 refine ⟨⟨⟨fun k => k = s.nx, S, fun k hk => .inr hk, fun k hk => .inl hk, fun k hk hk2 => by cases hk; exact absurd (hs.lt _ hk2) (Nat.lt_irrefl _), hA _ (T.get_set_same _ _ _), hs.own.loc (fun k hk => he k (fun e => by subst e; exact absurd (hs.lt _ hk) (Nat.lt_irrefl _)))⟩,
  fun A ha => ht.per hs.fresh (hs.per A ha), fun k hk => ?_, fun k hk => ?_⟩, ht⟩
 ·rcases hk with hk | hk
  ·rw [he k (fun e => by subst e; exact absurd (hs.lt _ hk) (Nat.lt_irrefl _))]
   exact hs.ex k hk
  ·subst hk
   show (s.h.set s.nx o).get s.nx ≠ none
   rw [T.get_set_same]
   simp
 ·have hk : s.nx + 1 ≤ k := hk
  rw [he k (by omega)]
  exact hs.fresh k (by omega)
theorem pt_new {b z : Nat} {cs : List Value} (h : T AObj) (hg : h.get b = some (.cells (T.e.fill 0 cs) cs.length z)) : (Pt b cs z).p (fun k => k = b) h :=
 ⟨rfl, _, hg, fun k hk => by rw [T.get_fill, if_pos ⟨Nat.zero_le _, by omega⟩, Nat.sub_zero]⟩
inductive SetN : List Value → Nat → List Value → List Value → Prop
 | nil {cs : List Value} : SetN cs 0 [] cs
 | here {x v : Value} {cs vs cs' : List Value} (h : SetN cs 0 vs cs') : SetN (x :: cs) 0 (v :: vs) (v :: cs')
 | skip {x : Value} {o : Nat} {cs vs cs' : List Value} (h : SetN cs o vs cs') : SetN (x :: cs) (o + 1) vs (x :: cs')
theorem SetN.spec {cs vs cs' : List Value} {o : Nat} (h : SetN cs o vs cs') : o + vs.length ≤ cs.length ∧ cs'.length = cs.length ∧ ∀ k, cs'[k]? = if o ≤ k ∧ k < o + vs.length then vs[k - o]? else cs[k]? := by
 induction h with
 | nil => exact ⟨by simp, rfl, fun k => by rw [if_neg (by simp)]⟩
 | @here x v cs vs cs' h ih =>
  obtain ⟨h1, h2, h3⟩ := ih
  refine ⟨by simp only [List.length_cons]; omega, by simp [h2], fun k => ?_⟩
  cases k with
  | zero => simp
  | succ k =>
   have := h3 k
   simp only [Nat.zero_le, true_and, Nat.zero_add, Nat.sub_zero, List.length_cons, List.getElem?_cons_succ, Nat.add_lt_add_iff_right] at this ⊢
   exact this
 | @skip x o cs vs cs' h ih =>
  obtain ⟨h1, h2, h3⟩ := ih
  refine ⟨by simp only [List.length_cons]; omega, by simp [h2], fun k => ?_⟩
  cases k with
  | zero => rw [if_neg (by omega)]; rfl
  | succ k =>
   have := h3 k
   rw [List.getElem?_cons_succ, List.getElem?_cons_succ, this]
   by_cases hc : o ≤ k ∧ k < o + vs.length
   ·rw [if_pos hc, if_pos (by omega)]; congr 1; omega
   ·rw [if_neg hc, if_neg (by omega)]
theorem WO.store {x y : Operand} {u b o z : Nat} {cs cs' : List Value} {v : Value} {i : TI} {L' : List Asn} {Q : Value → List Asn → List Asn → Prop} (hx : evl al x = some (.pointer (some ⟨b, o, none⟩))) (hy : evl al y = some v) (hi : E.ty.get u = some i) (hsz : v.cells.toList.length = i.size) (ho : ones v.cells.toList = true)
  (hset : SetN cs o v.cells.toList cs') (hu : Upd (Pt b cs z) (Pt b cs' z) L L') (h : Q (.tuple #[]) L' P) : WO E (.store u x y) al L P Q := by
 intro S s tm hs ha
 obtain ⟨U, ⟨_, c, h1, h2⟩, _⟩ := (In.l hu.mem : In _ L P).holds hs
 obtain ⟨k1, k2, k3⟩ := hset.spec
 obtain ⟨h3, h4⟩ := hs.upd hu (b := b) (fun U h hp => hp.1) (o := .cells (c.fill o v.cells.toList) cs.length z) (fun h hg => ⟨rfl, _, by rw [k2]; exact hg, fun k hk => by
  rw [T.get_fill, k3 k]
  rw [k2] at hk
  by_cases hc : o ≤ k ∧ k < o + v.cells.toList.length
  ·rw [if_pos hc, if_pos hc]
  ·rw [if_neg hc, if_neg hc, h2 k hk]⟩)
 refine ⟨_, _, S, L', P, ⟨0, 0, ?_⟩, h4, h3, h⟩
 show hStore u x y E tm s = _
 unfold hStore
 rw [hi, evl_ev ha hx, evl_ev ha hy]
 simp only
 have e1 : Nat.beq v.cells.toList.length i.size = true := by rw [hsz]; exact Nat.beq_refl _
 rw [e1]
 simp only [cond_true]
 unfold wrN
 rw [h1]
 simp only
 have e2 : Nat.ble (o + v.cells.toList.length) cs.length = true := Nat.ble_eq_true_of_le k1
 rw [e2, ho]
 rfl
theorem WR.st {x y : Operand} {u b o z t : Nat} {cs cs' vs : List Value} {pos : String} {af : Array Edge} {v : Value} {i : TI} {L' : List Asn} (h : WR E N ops l al L' P Q) (hx : evl al x = some (.pointer (some ⟨b, o, none⟩)) := by rfl) (hy : evl al y = some v := by rfl) (hc : v.cells.toList = vs := by rfl) (hi : E.ty.get u = some i := by rfl)
  (hu : Upd (Pt b cs z) (Pt b cs' z) L L' := by first | exact .z | exact .s .z | exact .s (.s .z) | exact .s (.s (.s .z)) | exact .s (.s (.s (.s .z))) | exact .s (.s (.s (.s (.s .z)))))
  (hset : SetN cs o vs cs' := by (repeat (first | exact SetN.nil | apply SetN.here | apply SetN.skip))) (hsz : vs.length = i.size := by rfl) (ho : ones vs = true := by rfl) : WR E N ops (⟨none, .store u x y, t, pos, af, none⟩ :: l) al L P Q := by
 subst hc
 exact WR.op0 rfl rfl (WO.store hx hy hi hsz ho hset hu h)
theorem WO.new {op : Op} {z : Nat} {cs : List Value} {val : Nat → Value} {Q : Value → List Asn → List Asn → Prop} (hc : ∀ call tm s, Has al tm → execA op E call tm s = some (val s.nx, s.rowz z cs)) (h : ∀ b, Q (val b) (Pt b cs z :: L) P) : WO E op al L P Q := by
 intro S s tm hs ha
 obtain ⟨h1, h2⟩ := hs.new (A := Pt s.nx cs z) (o := .cells (T.e.fill 0 cs) cs.length z) (fun h hg => pt_new h hg)
 exact ⟨_, _, _, _, _, ⟨0, 0, hc _ tm s ha⟩, h2, h1, h s.nx⟩
theorem WR.nw {u d t : Nat} {pos : String} {af : Array Edge} {i : TI} {cs : List Value} (h : ∀ b, WR E N ops l ((d, .pointer (some ⟨b, 0, none⟩)) :: al) (Pt b cs (tz 0 u) :: L) P Q) (hi : E.ty.get u = some i := by rfl) (hz : i.zero = cs := by rfl) (hN : Nat.ble d N = true := by rfl) : WR E N ops (⟨some d, .alloc u, t, pos, af, none⟩ :: l) al L P Q :=
 WR.op rfl rfl hN (WO.new (val := fun b => .pointer (some ⟨b, 0, none⟩)) (fun call tm s ha => by
  show hAlloc u E tm s = _
  unfold hAlloc
  rw [hi, ← hz]) h)
theorem WR.bx {x : Operand} {u d t : Nat} {pos : String} {af : Array Edge} {v : Value} {cs : List Value} (h : ∀ b, WR E N ops l ((d, .pointer (some ⟨b, 0, none⟩)) :: al) (Pt b cs (tz 0 u) :: L) P Q) (hx : evl al x = some v := by rfl) (hz : v.cells.toList = cs := by rfl) (hN : Nat.ble d N = true := by rfl) : WR E N ops (⟨some d, .box u x, t, pos, af, none⟩ :: l) al L P Q :=
 WR.op rfl rfl hN (WO.new (val := fun b => .pointer (some ⟨b, 0, none⟩)) (fun call tm s ha => by
  show hBox u x E tm s = _
  unfold hBox
  rw [evl_ev ha hx, ← hz]) h)
def gd (ops : List Oper) (al : Al) (j : Nat) : Option Value :=
 match ops[j]? with
 | some o => match o.dst with
  | some d => lk al d
  | none => none
 | none => none
theorem wanted_of {o : Oper} {j : Nat} {w b : Bool} (hg : o.guard = some (j, w)) (h : gd ops al j = some (.bool b)) {tm : Tm} (ha : Has al tm) : wantedA ops tm o = some (b == w) := by
 unfold wantedA
 rw [hg]
 simp only
 unfold gd at h
 cases ho : ops[j]? with
 | none => rw [ho] at h; cases h
 | some o' =>
  rw [ho] at h
  simp only at h ⊢
  cases hd : o'.dst with
  | none => rw [hd] at h; cases h
  | some d =>
   rw [hd] at h
   simp only at h ⊢
   rw [ha _ _ h]
theorem WR.on {d : Option Tmp} {op : Op} {t : Nat} {pos : String} {af : Array Edge} {j : Nat} {w : Bool} (h : WR E N ops (⟨d, op, t, pos, af, none⟩ :: l) al L P Q) (hg : gd ops al j = some (.bool w) := by rfl) : WR E N ops (⟨d, op, t, pos, af, some (j, w)⟩ :: l) al L P Q := by
 intro S s tm hs ha
 obtain ⟨tm1, s1, S1, al1, L1, P1, ⟨F, D, e⟩, hr⟩ := h S s tm hs ha
 refine ⟨tm1, s1, S1, al1, L1, P1, ⟨F, D, ?_⟩, hr⟩
 rw [runL_cons] at e ⊢
 rw [wanted_of rfl hg ha]
 have : (w == w) = true := by cases w <;> rfl
 rw [this]
 exact e
theorem WR.off {d : Tmp} {op : Op} {t : Nat} {pos : String} {af : Array Edge} {j : Nat} {w : Bool} (h : WR E N ops l ((d, undef) :: al) L P Q) (hg : gd ops al j = some (.bool (!w)) := by rfl) (hN : Nat.ble d N = true := by rfl) : WR E N ops (⟨some d, op, t, pos, af, some (j, w)⟩ :: l) al L P Q := by
 intro S s tm hs ha
 obtain ⟨tm1, s1, S1, al1, L1, P1, ⟨F, D, e⟩, hr⟩ := h S s (tm.set d undef) hs (ha.set d undef)
 refine ⟨tm1, s1, S1, al1, L1, P1, ⟨F, D, ?_⟩, hr⟩
 rw [runL_cons, wanted_of rfl hg ha]
 have : ((!w) == w) = false := by cases w <;> rfl
 rw [this]
 simp only
 have hp : putA N tm (some d) undef = some (tm.set d undef) := by unfold putA; simp only [hN, cond_true]
 rw [hp]
 exact e
end Go.Lx
/- Slices: their elements, one by one. -/
namespace Go.Lx
open Go Go.Ax
variable {E : Env} {N : Nat} {ops l : List Oper} {al : Al} {L P : List Asn} {Q : Al → List Asn → List Asn → Prop}
def bs : Value → Nat × Nat
 | .slice (some a) _ _ => (a.block, a.off)
 | _ => (0, 0)
def Elems (k o : Nat) (c : T Value) (es : List (List Value)) : Prop := ∀ i e, es[i]? = some e → e.length = k ∧ ∀ j, j < k → c.get (o + i * k + j) = e[j]?
def Sl (k : Nat) (v : Value) (es : List (List Value)) : Asn where
 p := fun S h => ∃ a c, v = .slice a es.length c ∧ es.length ≤ c / 2 ∧ (es = [] ∨ ∃ b o m z t, a = some ⟨b, o, none⟩ ∧ S b ∧ h.get b = some (.cells t m z) ∧ (c % 2 = 1 ∨ zs z = k) ∧ o + es.length * k ≤ m ∧ Elems k o t es)
 loc := fun S h h' e ⟨a, c, h1, h0, h2⟩ => ⟨a, c, h1, h0, h2.imp id fun ⟨b, o, m, z, t, g1, g2, g3, g4⟩ => ⟨b, o, m, z, t, g1, g2, by rw [e b g2]; exact g3, g4⟩⟩
def SlR (k : Nat) (v : Value) (es : List (List Value)) : Asn where
 p := fun S h => ∃ a c, v = .slice a es.length c ∧ es.length ≤ c / 2 ∧ (es = [] ∨ ∃ b o m t, a = some ⟨b, o, none⟩ ∧ S b ∧ h.get b = some (.ro t m) ∧ c % 2 = 1 ∧ o + es.length * k ≤ m ∧ Elems k o t es)
 loc := fun S h h' e ⟨a, c, h1, h0, h2⟩ => ⟨a, c, h1, h0, h2.imp id fun ⟨b, o, m, t, g1, g2, g3, g4⟩ => ⟨b, o, m, t, g1, g2, by rw [e b g2]; exact g3, g4⟩⟩
def Ow (k : Nat) (v : Value) (es : List (List Value)) : Asn where
 p := fun S h => (es = [] ∧ ∃ a c, v = .slice a 0 c ∧ c ≤ 1 ∧ (a = none ∨ c = 1)) ∨ ∃ b c m z t, v = .slice (some ⟨b, 0, none⟩) es.length c ∧ S b ∧ h.get b = some (.cells t m z) ∧ es.length ≤ c / 2 ∧ c / 2 * k ≤ m ∧ (c % 2 = 1 ∨ zs z = k) ∧ Elems k 0 t es
 loc := fun S h h' e H => H.imp id fun ⟨b, c, m, z, t, g1, g2, g3, g4⟩ => ⟨b, c, m, z, t, g1, g2, by rw [e b g2]; exact g3, g4⟩
theorem Ow.sl {k : Nat} {v : Value} {es : List (List Value)} {S : Nat → Prop} {h : T AObj} (H : (Ow k v es).p S h) : (Sl k v es).p S h := by
 rcases H with ⟨rfl, a, c, rfl, _⟩ | ⟨b, c, m, z, t, rfl, h2, h3, h4, h5, h6, h7⟩
 ·exact ⟨a, c, rfl, Nat.zero_le _, .inl rfl⟩
 ·refine ⟨_, c, rfl, h4, .inr ⟨b, 0, _, z, t, rfl, h2, h3, h6, ?_, h7⟩⟩
  have := Nat.mul_le_mul_right k h4
  omega
def SlP (k : Nat) (v : Value) (es : List (List Value)) (h : T AObj) : Prop := ∃ a c, v = .slice a es.length c ∧ (es = [] ∨ ∃ b o m z t, a = some ⟨b, o, none⟩ ∧ (h.get b = some (.cells t m z) ∨ h.get b = some (.ro t m)) ∧ o + es.length * k ≤ m ∧ Elems k o t es)
theorem Sl.pl {k : Nat} {v : Value} {es : List (List Value)} {S : Nat → Prop} {h : T AObj} (H : (Sl k v es).p S h) : SlP k v es h := by
 obtain ⟨a, c, h1, _, h2⟩ := H
 exact ⟨a, c, h1, h2.imp id fun ⟨b, o, m, z, t, g1, g2, g3, g4, g5, g6⟩ => ⟨b, o, m, z, t, g1, .inl g3, g5, g6⟩⟩
theorem SlR.pl {k : Nat} {v : Value} {es : List (List Value)} {S : Nat → Prop} {h : T AObj} (H : (SlR k v es).p S h) : SlP k v es h := by
 obtain ⟨a, c, h1, _, h2⟩ := H
 exact ⟨a, c, h1, h2.imp id fun ⟨b, o, m, t, g1, g2, g3, g0, g4, g5⟩ => ⟨b, o, m, 0, t, g1, .inr g3, g4, g5⟩⟩
inductive IsSl (k : Nat) (v : Value) (es : List (List Value)) (L P : List Asn) : Prop
 | s (h : In (Sl k v es) L P)
 | o (h : In (Ow k v es) L P)
 | r (h : In (SlR k v es) L P)
theorem IsSl.holds {k : Nat} {v : Value} {es : List (List Value)} (h : IsSl k v es L P) {S : Nat → Prop} {s : AS} (hs : Sat L P S s) : SlP k v es s.h := by
 cases h with
 | s h => obtain ⟨U, h1, _⟩ := h.holds hs; exact Sl.pl h1
 | o h => obtain ⟨U, h1, _⟩ := h.holds hs; exact Sl.pl (Ow.sl h1)
 | r h => obtain ⟨U, h1, _⟩ := h.holds hs; exact SlR.pl h1
noncomputable def slT (E : Env) (t : TypeId) : Option (TypeId × TI) :=
 match E.ty.get t with
 | some i => match i.desc with
  | .slice e => match E.ty.get e with
   | some j => some (e, j)
   | none => none
  | _ => none
 | none => none
theorem slT_spec {t e : TypeId} {j : TI} (h : slT E t = some (e, j)) : ∃ i, E.ty.get t = some i ∧ i.desc = .slice e ∧ E.ty.get e = some j := by
 unfold slT at h
 cases hi : E.ty.get t with
 | none => rw [hi] at h; cases h
 | some i =>
  rw [hi] at h
  simp only at h
  cases hd : i.desc with
  | slice u =>
   rw [hd] at h
   simp only at h
   cases hj : E.ty.get u with
   | none => rw [hj] at h; cases h
   | some j' =>
    rw [hj] at h
    cases h
    exact ⟨i, rfl, hd, hj⟩
  | _ => rw [hd] at h; cases h
theorem len_sl {k : Nat} {v : Value} {es : List (List Value)} {s : AS} {h : T AObj} (H : SlP k v es h) {t e : TypeId} {j : TI} (ht : slT E t = some (e, j)) : lenA E s t v = some (.int .i64 es.length) := by
 obtain ⟨a, c, rfl, _⟩ := H
 obtain ⟨i, h1, h2, h3⟩ := slT_spec ht
 unfold lenA
 rw [h1]
 simp only
 rw [h2]
theorem hCall_len {x : Operand} {ts : Array TypeId} {t : TypeId} {v w : Value} {tm : Tm} {s : AS} (ha : Has al tm) (hx : evl al x = some v) (ht : ts.toList.head? = some t) (h : lenA E s t v = some w) : hCall ⟨.builtin .len, #[x], ts⟩ E tm s = some (w, s) := by
 unfold hCall
 simp only
 have : evs tm #[x].toList = some [v] := by
  show evs tm [x] = _
  unfold evs
  rw [evl_ev ha hx]
  rfl
 rw [this]
 simp only
 cases hts : ts.toList with
 | nil => rw [hts] at ht; cases ht
 | cons u us =>
  rw [hts] at ht
  cases ht
  show (match lenA E s t v with
   | none => none
   | some v => some (v, s)) = _
  rw [h]
theorem Lk.ln {x : Operand} {ts : Array TypeId} {k : Nat} {u e : TypeId} {j : TI} {v : Value} {es : List (List Value)} (hx : evl al x = some v := by rfl) (ht : ts.toList.head? = some u := by rfl) (hu : slT E u = some (e, j) := by rfl)
  (hm : IsSl k v es L P := by first | assumption | exact .s .p0 | exact .s .p1 | exact .s .p2 | exact .s .p3 | exact .s (.p (by assumption)) | exact .s (.h1 (by assumption)) | exact .s (.h2 (by assumption)) | exact .s (.h3 (by assumption)) | exact .r (.p (by assumption)) | exact .r (.h1 (by assumption)) | exact .r (.h2 (by assumption)) | exact .o .l0 | exact .o .l1 | exact .o .l2 | exact .o .l3 | exact .s .l0 | exact .s .l1 | exact .s .l2 | exact .s .l3 | exact .r .p0 | exact .r .p1 | exact .r .l0 | exact .r .l1) : Lk E al L P (.call ⟨.builtin .len, #[x], ts⟩) (.int .i64 es.length) :=
 ⟨fun _ _ _ => rfl, fun tm S s ha hs s' => by
  have hU := hm.holds hs
  exact hCall_len ha hx ht (len_sl hU hu)⟩
theorem inR_of {n : Int} {m : Nat} (h : 0 ≤ n ∧ n < m) : inR n m = true := by
 cases n with
 | ofNat a => exact nblt.2 (by have := h.2; simp only [Int.ofNat_eq_natCast] at this; omega)
 | negSucc a => have := h.1; rw [Int.negSucc_eq] at this; omega
theorem ia_sl {k : Nat} {v : Value} {es : List (List Value)} {h : T AObj} (H : SlP k v es h) {x y : Operand} {K : IntKind} {n : Int} {tm : Tm} {s : AS} (ha : Has al tm) (hx : evl al x = some v) (hy : evl al y = some (.int K n)) {t e : TypeId} {j : TI} (ht : slT E t = some (e, j)) (hk : j.size = k) (hn : 0 ≤ n ∧ n < es.length) :
  hIndexAddr t x y E tm s = some (.pointer (some ⟨(bs v).1, (bs v).2 + n.toNat * k, none⟩), s) := by
 obtain ⟨a, c, rfl, hor⟩ := H
 obtain ⟨i, h1, h2, h3⟩ := slT_spec ht
 have hne : es ≠ [] := fun e => by subst e; simp at hn; omega
 rcases hor with hor | ⟨b, o, m, z, t', rfl, _⟩
 ·exact absurd hor hne
 unfold hIndexAddr
 rw [h1, evl_ev ha hx, evl_ev ha hy]
 simp only
 rw [h2]
 simp only
 rw [h3]
 simp only
 rw [inR_of hn]
 simp only [cond_true, natK_eq]
 rw [hk]
 rfl
theorem Lk.ia {x y : Operand} {u k : Nat} {e : TypeId} {j : TI} {v : Value} {K : IntKind} {n : Int} {es : List (List Value)} (hx : evl al x = some v := by rfl) (hy : evl al y = some (.int K n) := by rfl) (hu : slT E u = some (e, j) := by rfl)
  (hm : IsSl k v es L P := by first | assumption | exact .s .p0 | exact .s .p1 | exact .s .p2 | exact .s .p3 | exact .s (.p (by assumption)) | exact .s (.h1 (by assumption)) | exact .s (.h2 (by assumption)) | exact .s (.h3 (by assumption)) | exact .r (.p (by assumption)) | exact .r (.h1 (by assumption)) | exact .r (.h2 (by assumption)) | exact .o .l0 | exact .o .l1 | exact .o .l2 | exact .o .l3 | exact .s .l0 | exact .s .l1 | exact .s .l2 | exact .s .l3 | exact .r .p0 | exact .r .p1 | exact .r .l0 | exact .r .l1) (hk : j.size = k := by rfl) (hn : 0 ≤ n ∧ n < es.length := by omega) : Lk E al L P (.indexAddr u x y) (.pointer (some ⟨(bs v).1, (bs v).2 + n.toNat * k, none⟩)) :=
 ⟨fun _ _ _ => rfl, fun tm S s ha hs s' => by
  have hU := hm.holds hs
  exact ia_sl hU ha hx hy hu hk hn⟩
theorem rd_sl {k : Nat} {v : Value} {es : List (List Value)} {s : AS} (H : SlP k v es s.h) {i j : Nat} {e : List Value} {w : Value} (he : es[i]? = some e) (hw : e[j]? = some w) (hj : j < k) : rd s (bs v).1 ((bs v).2 + i * k + j) = some w := by
 obtain ⟨a, c, rfl, hor⟩ := H
 have hlt : i < es.length := (List.getElem?_eq_some_iff.1 he).1
 rcases hor with hor | ⟨b, o, m, z, t, rfl, h1, h2, h3⟩
 ·subst hor; simp at hlt
 obtain ⟨h4, h5⟩ := h3 i e he
 have hlt2 : o + i * k + j < m := by
  have : (i + 1) * k ≤ es.length * k := Nat.mul_le_mul_right _ hlt
  rw [Nat.add_mul] at this
  omega
 have hb : Nat.blt (o + i * k + j) m = true := nblt.2 hlt2
 unfold rd
 show (match s.h.get b with
  | some (.cells c m _) => bif Nat.blt (o + i * k + j) m then c.get (o + i * k + j) else none
  | some (.ro c m) => bif Nat.blt (o + i * k + j) m then c.get (o + i * k + j) else none
  | _ => none) = _
 rcases h1 with h1 | h1
 ·rw [h1]
  simp only [hb, cond_true]
  rw [h5 j hj, hw]
 ·rw [h1]
  simp only [hb, cond_true]
  rw [h5 j hj, hw]
theorem rdN_sl {k : Nat} {v : Value} {es : List (List Value)} {s : AS} (H : SlP k v es s.h) {i : Nat} {e : List Value} (he : es[i]? = some e) : rdN s (bs v).1 ((bs v).2 + i * k) k = some e := by
 obtain ⟨a, c, rfl, hor⟩ := H
 have hlt : i < es.length := (List.getElem?_eq_some_iff.1 he).1
 rcases hor with hor | ⟨b, o, m, z, t, rfl, h1, h2, h3⟩
 ·subst hor; simp at hlt
 obtain ⟨h4, h5⟩ := h3 i e he
 have hlt2 : o + i * k + k ≤ m := by
  have : (i + 1) * k ≤ es.length * k := Nat.mul_le_mul_right _ hlt
  rw [Nat.add_mul] at this
  omega
 have hb : Nat.ble (o + i * k + k) m = true := Nat.ble_eq_true_of_le hlt2
 have hl : t.list k (o + i * k) = some e := T.list_of _ _ _ _ h4 (fun j hj => h5 j hj)
 unfold rdN
 show (match s.h.get b with
  | some (.cells c m _) => bif Nat.ble (o + i * k + k) m then c.list k (o + i * k) else none
  | some (.ro c m) => bif Nat.ble (o + i * k + k) m then c.list k (o + i * k) else none
  | _ => none) = _
 rcases h1 with h1 | h1
 ·rw [h1]
  simp only [hb, cond_true]
  exact hl
 ·rw [h1]
  simp only [hb, cond_true]
  exact hl
noncomputable def sc (E : Env) (u : TypeId) : Option Bool := (E.ty.get u).map fun i => isAggD i.desc
theorem hLoad_rd {x : Operand} {u b o : Nat} {w : Value} {tm : Tm} {s : AS} (ha : Has al tm) (hx : evl al x = some (.pointer (some ⟨b, o, none⟩))) (hu : sc E u = some false) (h : rd s b o = some w) : hLoad u x E tm s = some (w, s) := by
 unfold hLoad
 unfold sc at hu
 cases hi : E.ty.get u with
 | none => rw [hi] at hu; cases hu
 | some i =>
  rw [hi] at hu
  rw [evl_ev ha hx]
  simp only [Option.map_some, Option.some.injEq] at hu ⊢
  rw [hu]
  simp only [cond_false]
  rw [h]
theorem hLoad_rdN {x : Operand} {u b o : Nat} {i : TI} {e : List Value} {tm : Tm} {s : AS} (ha : Has al tm) (hx : evl al x = some (.pointer (some ⟨b, o, none⟩))) (hi : E.ty.get u = some i) (hd : isAggD i.desc = true) (h : rdN s b o i.size = some e) : hLoad u x E tm s = some (.agg ⟨e⟩, s) := by
 unfold hLoad
 rw [hi, evl_ev ha hx]
 simp only
 rw [hd]
 simp only [cond_true]
 rw [h]
def OkE (k i j : Nat) (v w : Value) (L P : List Asn) : Prop := ∃ es e, IsSl k v es L P ∧ es[i]? = some e ∧ e[j]? = some w ∧ j < k
def OkA (k i : Nat) (v : Value) (e : List Value) (L P : List Asn) : Prop := ∃ es, IsSl k v es L P ∧ es[i]? = some e
theorem OkE.mk {k i j : Nat} {v w : Value} {es : List (List Value)} {e : List Value} (he : es[i]? = some e) (hw : e[j]? = some w := by rfl) (hj : j < k := by decide) (hm : IsSl k v es L P := by first | assumption | exact .s .p0 | exact .s .p1 | exact .s .p2 | exact .s .p3 | exact .s (.p (by assumption)) | exact .s (.h1 (by assumption)) | exact .s (.h2 (by assumption)) | exact .s (.h3 (by assumption)) | exact .r (.p (by assumption)) | exact .r (.h1 (by assumption)) | exact .r (.h2 (by assumption)) | exact .o .l0 | exact .o .l1 | exact .o .l2 | exact .o .l3 | exact .s .l0 | exact .s .l1 | exact .s .l2 | exact .s .l3 | exact .r .p0 | exact .r .p1 | exact .r .l0 | exact .r .l1) : OkE k i j v w L P := ⟨es, e, hm, he, hw, hj⟩
theorem Ld.le {x : Operand} {u i : Nat} {v w : Value} (hx : evl al x = some (.pointer (some ⟨(bs v).1, (bs v).2 + i * 1, none⟩)) := by rfl) (hu : sc E u = some false := by rfl) : Ld E al (.load u x) w (OkE 1 i 0 v w) :=
 ⟨fun _ _ _ => rfl, fun tm ha L P S s s' hs hex ⟨es, e, hm, he, hw, hj⟩ => by
  have hU := hm.holds hs
  exact hLoad_rd ha hx hu (rd_exts hex (rd_sl hU he hw hj))⟩
theorem Ld.lf {x : Operand} {u i j k : Nat} {v w : Value} (hx : evl al x = some (.pointer (some ⟨(bs v).1, (bs v).2 + i * k + j, none⟩)) := by rfl) (hu : sc E u = some false := by rfl) : Ld E al (.load u x) w (OkE k i j v w) :=
 ⟨fun _ _ _ => rfl, fun tm ha L P S s s' hs hex ⟨es, e, hm, he, hw, hj⟩ => by
  have hU := hm.holds hs
  exact hLoad_rd ha hx hu (rd_exts hex (rd_sl hU he hw hj))⟩
theorem Ld.la {x : Operand} {u i k : Nat} {v : Value} {e : List Value} {ti : TI} (hx : evl al x = some (.pointer (some ⟨(bs v).1, (bs v).2 + i * k, none⟩)) := by rfl) (hu : E.ty.get u = some ti := by rfl) (hd : isAggD ti.desc = true := by rfl) (hk : ti.size = k := by rfl) : Ld E al (.load u x) (.agg ⟨e⟩) (OkA k i v e) :=
 ⟨fun _ _ _ => rfl, fun tm ha L P S s s' hs hex ⟨es, hm, he⟩ => by
  have hU := hm.holds hs
  subst hk
  exact hLoad_rdN ha hx hu hd (rdN_exts hex (rdN_sl hU he))⟩
theorem WR.le {x : Operand} {d t u i : Nat} {pos : String} {af : Array Edge} {v w : Value} {es : List (List Value)} (he : es[i]? = some [w]) (h : WR E N ops l ((d, w) :: al) L P Q) (hx : evl al x = some (.pointer (some ⟨(bs v).1, (bs v).2 + i * 1, none⟩)) := by rfl) (hu : sc E u = some false := by rfl)
  (hm : IsSl 1 v es L P := by first | assumption | exact .s .p0 | exact .s .p1 | exact .s .p2 | exact .s .p3 | exact .s (.p (by assumption)) | exact .s (.h1 (by assumption)) | exact .s (.h2 (by assumption)) | exact .s (.h3 (by assumption)) | exact .r (.p (by assumption)) | exact .r (.h1 (by assumption)) | exact .r (.h2 (by assumption)) | exact .o .l0 | exact .o .l1 | exact .o .l2 | exact .o .l3 | exact .s .l0 | exact .s .l1 | exact .s .l2 | exact .s .l3 | exact .r .p0 | exact .r .p1 | exact .r .l0 | exact .r .l1) (hN : Nat.ble d N = true := by rfl) : WR E N ops (⟨some d, .load u x, t, pos, af, none⟩ :: l) al L P Q := WR.lo (Ld.le hx hu) ⟨es, _, hm, he, rfl, Nat.one_pos⟩ h hN
theorem WR.la {x : Operand} {d t u i k : Nat} {pos : String} {af : Array Edge} {v : Value} {e : List Value} {es : List (List Value)} {ti : TI} (he : es[i]? = some e) (h : WR E N ops l ((d, .agg ⟨e⟩) :: al) L P Q) (hx : evl al x = some (.pointer (some ⟨(bs v).1, (bs v).2 + i * k, none⟩)) := by rfl) (hu : E.ty.get u = some ti := by rfl) (hd : isAggD ti.desc = true := by rfl) (hk : ti.size = k := by rfl)
  (hm : IsSl k v es L P := by first | assumption | exact .s .p0 | exact .s .p1 | exact .s .p2 | exact .s .p3 | exact .s (.p (by assumption)) | exact .s (.h1 (by assumption)) | exact .s (.h2 (by assumption)) | exact .s (.h3 (by assumption)) | exact .r (.p (by assumption)) | exact .r (.h1 (by assumption)) | exact .r (.h2 (by assumption)) | exact .o .l0 | exact .o .l1 | exact .o .l2 | exact .o .l3 | exact .s .l0 | exact .s .l1 | exact .s .l2 | exact .s .l3 | exact .r .p0 | exact .r .p1 | exact .r .l0 | exact .r .l1) (hN : Nat.ble d N = true := by rfl) : WR E N ops (⟨some d, .load u x, t, pos, af, none⟩ :: l) al L P Q := WR.lo (Ld.la hx hu hd hk) ⟨es, hm, he⟩ h hN
theorem WR.lf {x : Operand} {d t u i j k : Nat} {pos : String} {af : Array Edge} {v w : Value} {e : List Value} {es : List (List Value)} (he : es[i]? = some e) (h : WR E N ops l ((d, w) :: al) L P Q) (hw : e[j]? = some w := by rfl) (hx : evl al x = some (.pointer (some ⟨(bs v).1, (bs v).2 + i * k + j, none⟩)) := by rfl) (hu : sc E u = some false := by rfl)
  (hm : IsSl k v es L P := by first | assumption | exact .s .p0 | exact .s .p1 | exact .s .p2 | exact .s .p3 | exact .s (.p (by assumption)) | exact .s (.h1 (by assumption)) | exact .s (.h2 (by assumption)) | exact .s (.h3 (by assumption)) | exact .r (.p (by assumption)) | exact .r (.h1 (by assumption)) | exact .r (.h2 (by assumption)) | exact .o .l0 | exact .o .l1 | exact .o .l2 | exact .o .l3 | exact .s .l0 | exact .s .l1 | exact .s .l2 | exact .s .l3 | exact .r .p0 | exact .r .p1 | exact .r .l0 | exact .r .l1) (hj : j < k := by decide) (hN : Nat.ble d N = true := by rfl) : WR E N ops (⟨some d, .load u x, t, pos, af, none⟩ :: l) al L P Q := WR.lo (Ld.lf hx hu) ⟨es, e, hm, he, hw, hj⟩ h hN
theorem Sat.last {A B : Asn} (hAB : ∀ S h, A.p S h → B.p S h) {S : Nat → Prop} {s : AS} (hs : Sat (A :: L) P S s) : ∃ S', (∀ b, S' b → S b) ∧ Sat L (B :: P) S' s := by
 obtain ⟨S1, S2, h1, h2, hd, ha, hl⟩ := hs.own
 refine ⟨S2, h2, hl, fun C hc => ?_, fun b hb => hs.ex b (h2 b hb), hs.fresh⟩
 cases hc with
 | head => exact ⟨S1, hAB _ _ ha, fun b hb => ⟨fun e => hd b hb e, hs.ex b (h1 b hb)⟩⟩
 | tail _ hc =>
  obtain ⟨U, hu, hk⟩ := hs.per C hc
  exact ⟨U, hu, fun b hb => ⟨fun e => (hk b hb).1 (h2 b e), (hk b hb).2⟩⟩
theorem Ent.last {A B : Asn} (hAB : ∀ S h, A.p S h → B.p S h) : Ent (A :: L) P L (B :: P) := fun S s hs => hs.last hAB
theorem Ent.sl {k : Nat} {v : Value} {es : List (List Value)} : Ent (Ow k v es :: L) P L (Sl k v es :: P) := Ent.last (fun _ _ => Ow.sl)
theorem Ent.drop {A : Asn} : Ent (A :: L) P L P := fun S s hs => ⟨S, fun _ h => h, ⟨hs.own.drop, hs.per, hs.ex, hs.fresh⟩⟩
theorem Ent.forget {A : Asn} : Ent L (A :: P) L P := fun S s hs => ⟨S, fun _ h => h, ⟨hs.own, fun B hb => hs.per B (.tail _ hb), hs.ex, hs.fresh⟩⟩
theorem Ent.d1 {A : Asn} : Ent (A :: L) P L P := Ent.drop
theorem Ent.trans {L' P' L'' P'' : List Asn} (h : Ent L P L' P') (h' : Ent L' P' L'' P'') : Ent L P L'' P'' := fun S s hs => by
 obtain ⟨S1, h1, h2⟩ := h S s hs
 obtain ⟨S2, h3, h4⟩ := h' S1 s h2
 exact ⟨S2, fun b hb => h1 b (h3 b hb), h4⟩
theorem Ent.d2 {A B : Asn} : Ent (A :: B :: L) P L P := Ent.drop.trans Ent.drop
theorem Ent.d3 {A B C : Asn} : Ent (A :: B :: C :: L) P L P := Ent.drop.trans Ent.d2
theorem Ent.d4 {A B C D : Asn} : Ent (A :: B :: C :: D :: L) P L P := Ent.drop.trans Ent.d3
theorem Ent.d5 {A B C D F : Asn} : Ent (A :: B :: C :: D :: F :: L) P L P := Ent.drop.trans Ent.d4
theorem Ent.d6 {A B C D F G : Asn} : Ent (A :: B :: C :: D :: F :: G :: L) P L P := Ent.drop.trans Ent.d5
theorem Ent.under {A : Asn} {L' P' : List Asn} (h : ∀ S s, Sat L P S s → ∃ S', (∀ b, S' b → S b) ∧ Sat L' P' S' s) (hp : P' = P) : Ent (A :: L) P (A :: L') P := fun S s hs => by
 subst hp
 obtain ⟨S1, S2, h1, h2, hd, ha, hl⟩ := hs.own
 obtain ⟨S', g1, g2⟩ := h S2 s ⟨hl, fun B hb => by
  obtain ⟨U, hu, hk⟩ := hs.per B hb
  exact ⟨U, hu, fun b hb => ⟨fun e => (hk b hb).1 (h2 b e), (hk b hb).2⟩⟩, fun b hb => hs.ex b (h2 b hb), hs.fresh⟩
 refine ⟨fun b => S1 b ∨ S' b, fun b hb => hb.elim (h1 b) (fun e => h2 b (g1 b e)), ⟨S1, S', fun b hb => .inl hb, fun b hb => .inr hb, fun b x y => hd b x (g1 b y), ha, g2.own⟩, fun B hb => ?_, fun b hb => hb.elim (fun e => hs.ex b (h1 b e)) (fun e => g2.ex b e), hs.fresh⟩
 obtain ⟨U, hu, hk⟩ := hs.per B hb
 exact ⟨U, hu, fun b hb => ⟨fun e => (hk b hb).1 (e.elim (h1 b) (fun e => h2 b (g1 b e))), (hk b hb).2⟩⟩
theorem Ent.perm {L' : List Asn} (h : L.Perm L') : Ent L P L' P := fun S s hs => ⟨S, fun _ h => h, ⟨hs.own.perm h, hs.per, hs.ex, hs.fresh⟩⟩
theorem Ent.swap {A B : Asn} : Ent (A :: B :: L) P (B :: A :: L) P := Ent.perm (.swap B A L)
end Go.Lx
/- Texts, structs, pointers. -/
namespace Go.Lx
open Go Go.Ax
variable {E : Env} {N : Nat} {ops l : List Oper} {al : Al} {L P : List Asn} {Q : Al → List Asn → List Asn → Prop}
abbrev Bs := List UInt8
abbrev S (l : Bs) : Value := .string ⟨⟨l⟩⟩
noncomputable def isS (E : Env) (u : TypeId) : Bool := match E.ty.get u with
 | some i => match i.desc with
  | .string => true
  | _ => false
 | none => false
theorem isS_spec {u : TypeId} (h : isS E u = true) : ∃ i, E.ty.get u = some i ∧ i.desc = .string := by
 unfold isS at h
 cases hi : E.ty.get u with
 | none => rw [hi] at h; cases h
 | some i =>
  rw [hi] at h
  simp only at h
  cases hd : i.desc with
  | string => exact ⟨i, rfl, hd⟩
  | _ => rw [hd] at h; cases h
theorem Pu.ls {x : Operand} {ts : Array TypeId} {u : TypeId} {b : Bs} (hx : evl al x = some (S b) := by rfl) (ht : ts.toList.head? = some u := by rfl) (hu : isS E u = true := by rfl) : Pu E al (.call ⟨.builtin .len, #[x], ts⟩) (.int .i64 b.length) :=
 ⟨fun _ _ _ => rfl, fun tm s ha => by
  obtain ⟨i, h1, h2⟩ := isS_spec hu
  refine hCall_len ha hx ht ?_
  unfold lenA
  rw [h1]
  simp only
  rw [h2]
  rfl⟩
theorem toL (a : Bs) : (⟨⟨a⟩⟩ : ByteArray).toList = a := ByteArray.toList_eq _
theorem hBin_str {op : BinOp} {u : TypeId} {x y : Operand} {a b : ByteArray} {v : Value} (hx : evl al x = some (.string a)) (hy : evl al y = some (.string b)) (h : strBin op a b = some v) (tm : Tm) (s : AS) (ha : Has al tm) : hBin op u x y E tm s = some (v, s) := by
 unfold hBin
 rw [evl_ev ha hx, evl_ev ha hy]
 simp only
 have : binA E s op u x y (.string a) (.string b) = some v := h
 rw [this]
theorem beqB (a b : Bs) : (a == b) = decide (a = b) := by
 by_cases h : a = b
 ·subst h; simp
 ·rw [decide_eq_false h]; simpa using h
theorem Pu.seq {x y : Operand} {u r : Nat} {a b : Bs} {q : Bool} (hx : evl al x = some (S a) := by rfl) (hy : evl al y = some (S b) := by rfl) (hq : (decide (a = b)) = q := by rfl) : Pu E al (.binOp .eql u x y r) (.bool q) := by
 subst hq
 exact
 ⟨fun _ _ _ => rfl, fun tm s ha => hBin_str hx hy (by
  show some (Value.bool ((⟨⟨a⟩⟩ : ByteArray).toList == (⟨⟨b⟩⟩ : ByteArray).toList)) = _
  rw [toL, toL, beqB]) tm s ha⟩
theorem Pu.sne {x y : Operand} {u r : Nat} {a b : Bs} {q : Bool} (hx : evl al x = some (S a) := by rfl) (hy : evl al y = some (S b) := by rfl) (hq : (decide (a ≠ b)) = q := by rfl) : Pu E al (.binOp .neq u x y r) (.bool q) := by
 subst hq
 exact
 ⟨fun _ _ _ => rfl, fun tm s ha => hBin_str hx hy (by
  show some (Value.bool (!((⟨⟨a⟩⟩ : ByteArray).toList == (⟨⟨b⟩⟩ : ByteArray).toList))) = _
  rw [toL, toL]
  by_cases h : a = b
  ·simp [h]
  ·simp [h]) tm s ha⟩
theorem Pu.ix {x y : Operand} {u : Nat} {a : Bs} {K : IntKind} {n : Int} {c : UInt8} (hc : a[n.toNat]? = some c) (hx : evl al x = some (S a) := by rfl) (hy : evl al y = some (.int K n) := by rfl) (hu : isS E u = true := by rfl) (hn : 0 ≤ n := by omega) : Pu E al (.index u x y) (.int .u8 c.toNat) :=
 ⟨fun _ _ _ => rfl, fun tm s ha => by
  obtain ⟨i, h1, h2⟩ := isS_spec hu
  show hIndex u x y E tm s = _
  unfold hIndex
  rw [h1, evl_ev ha hx, evl_ev ha hy]
  simp only
  rw [h2]
  simp only
  rw [if_pos hn, hc]⟩
def bdl (al : Al) (d m : Nat) : Option Operand → Nat → Prop
 | none, r => r = d
 | some x, r => ∃ k i, evl al x = some (.int k i) ∧ 0 ≤ i ∧ i ≤ m ∧ i.toNat = r
theorem bdl_bnd {d m r : Nat} {x : Option Operand} (h : bdl al d m x r) {tm : Tm} (ha : Has al tm) : bnd tm d m x = some r := by
 cases x with
 | none => show some d = _; rw [show r = d from h]
 | some x =>
  obtain ⟨k, i, h1, h2, h3, h4⟩ := h
  unfold bnd
  simp only
  rw [evl_ev ha h1]
  simp only
  rw [if_pos ⟨h2, h3⟩, h4]
theorem Pu.sls {x : Operand} {lo hi : Option Operand} {u : Nat} {a : Bs} {p q : Nat} (hp : bdl al 0 q lo p) (hq : bdl al a.length a.length hi q) (hx : evl al x = some (S a) := by rfl) (hu : isS E u = true := by rfl) (hqa : q ≤ a.length := by omega) : Pu E al (.slice u x lo hi none) (S ((a.drop p).take (q - p))) :=
 ⟨fun _ _ _ => rfl, fun tm s ha => by
  obtain ⟨i, h1, h2⟩ := isS_spec hu
  show hSlice u x lo hi none E tm s = _
  unfold hSlice
  rw [evl_ev ha hx]
  simp only
  have : sliceA E s tm u (S a) lo hi none = some (S ((a.drop p).take (q - p))) := by
   unfold sliceA
   rw [h1]
   simp only
   rw [h2]
   simp only [natK_eq]
   have hl : lenU (⟨⟨a⟩⟩ : ByteArray).data.toList = a.length := lenU_eq a
   rw [hl]
   have hb : bnds tm a.length a.length lo hi none = some (p, q, a.length) := by
    unfold bnds
    simp only [Option.isSome_none, Bool.false_and, cond_false]
    rw [show bnd tm a.length a.length none = some a.length from rfl]
    simp only
    rw [bdl_bnd hq ha]
    simp only
    rw [Nat.ble_eq_true_of_le hqa]
    simp only [cond_true]
    rw [bdl_bnd hp ha]
   rw [hb]
   simp only
   rw [subU_eq]
   congr 2
   apply ByteArray.ext
   apply Array.ext'
   exact extract_toList _ _ _
  rw [this]⟩
end Go.Lx
