/- Regions that draw their order: the lexical run, and what any other order leaves. -/
import Derived.Test.YtmfdkldjinlmnaaGreatDoorAxDraw
set_option linter.unusedVariables false
set_option linter.unusedSimpArgs false
namespace Go.Ax
open Go

/-- An operation of the lexical run: the slots and the state ahead of it, whether it was run, its value, the state behind it (of what acts), the block that it made. -/
structure Ent where
  tm : Tm
  s : AS
  run : Bool
  v : Value
  s' : AS
  x : AObj

section
variable {E : Env} {call : CallF} {N : Nat} {ops : List Oper} {an : List Nat} {base : Nat}

inductive Lex (E : Env) (call : CallF) (N : Nat) (ops : List Oper) (an : List Nat) (base : Nat) : Nat → List Oper → Tm → AS → News → List Ent → Tm → AS → News → Prop
  | nil (i : Nat) (tm : Tm) (s : AS) (nw : News) : Lex E call N ops an base i [] tm s nw [] tm s nw
  | skip {i : Nat} {o : Oper} {l : List Oper} {tm tm1 tm' : Tm} {s s' : AS} {nw nw' : News} {tr : List Ent} (h1 : wantedA ops tm o = some false) (h2 : putA N tm o.dst undef = some tm1) (h3 : Lex E call N ops an base (i + 1) l tm1 s nw tr tm' s' nw') :
      Lex E call N ops an base i (o :: l) tm s nw (⟨tm, s, false, undef, s, .dead⟩ :: tr) tm' s' nw'
  | fresh {i : Nat} {o : Oper} {l : List Oper} {tm tm1 tm' : Tm} {s s' : AS} {nw nw' : News} {v : Value} {x : AObj} {tr : List Ent} (h1 : wantedA ops tm o = some true) (hn : isNew o.op = true) (h2 : newA o.op E tm (base + i) = some (v, x)) (h3 : putA N tm o.dst v = some tm1)
      (h4 : Lex E call N ops an base (i + 1) l tm1 s (nw ++ [(i, x)]) tr tm' s' nw') : Lex E call N ops an base i (o :: l) tm s nw (⟨tm, s, true, v, s, x⟩ :: tr) tm' s' nw'
  | act {i : Nat} {o : Oper} {l : List Oper} {tm tm1 tm' : Tm} {s s1 s' : AS} {nw nw' : News} {v : Value} {tr : List Ent} (h1 : wantedA ops tm o = some true) (hn : isNew o.op = false) (he : eff E.ty o.op = true) (h2 : execA o.op E call tm (laid base (an.getD i 0) nw s) = some (v, s1)) (h3 : putA N tm o.dst v = some tm1)
      (h4 : Lex E call N ops an base (i + 1) l tm1 s1 nw tr tm' s' nw') : Lex E call N ops an base i (o :: l) tm s nw (⟨tm, s, true, v, s1, .dead⟩ :: tr) tm' s' nw'
  | look {i : Nat} {o : Oper} {l : List Oper} {tm tm1 tm' : Tm} {s s1 s' : AS} {nw nw' : News} {v : Value} {tr : List Ent} (h1 : wantedA ops tm o = some true) (hn : isNew o.op = false) (he : eff E.ty o.op = false) (h2 : execA o.op E call tm (laid base (an.getD i 0) nw s) = some (v, s1)) (h3 : putA N tm o.dst v = some tm1)
      (h4 : Lex E call N ops an base (i + 1) l tm1 s nw tr tm' s' nw') : Lex E call N ops an base i (o :: l) tm s nw (⟨tm, s, true, v, s, .dead⟩ :: tr) tm' s' nw'

theorem execA_op {op : Op} {tm : Tm} {s : AS} (he : eff E.ty op = false) : execA op E call tm s = opA op E tm s := by
  cases op <;> try rfl
  case call c =>
    obtain ⟨callee, args, ats⟩ := c
    cases callee with
    | value f => simp [eff] at he
    | invoke r m => rfl
    | builtin b => rfl

theorem Lex.news_ge {i : Nat} {l : List Oper} {tm tm' : Tm} {s s' : AS} {nw nw' : News} {tr : List Ent} (h : Lex E call N ops an base i l tm s nw tr tm' s' nw') : ∃ r, nw' = nw ++ r ∧ ∀ x ∈ r, i ≤ x.1 := by
  induction h with
  | nil => exact ⟨[], by simp, by simp⟩
  | skip _ _ _ ih => obtain ⟨r, e, h⟩ := ih; exact ⟨r, e, fun x hx => by have := h x hx; omega⟩
  | fresh _ _ _ _ _ ih =>
    obtain ⟨r, e, h⟩ := ih
    refine ⟨_ :: r, by rw [e, List.append_assoc]; rfl, fun x hx => ?_⟩
    rcases List.mem_cons.1 hx with rfl | hx
    · exact Nat.le_refl _
    · have := h x hx; omega
  | act _ _ _ _ _ _ ih => obtain ⟨r, e, h⟩ := ih; exact ⟨r, e, fun x hx => by have := h x hx; omega⟩
  | look _ _ _ _ _ _ ih => obtain ⟨r, e, h⟩ := ih; exact ⟨r, e, fun x hx => by have := h x hx; omega⟩

theorem laid_nil (bits : Nat) (s : AS) : laid base bits [] s = s := rfl

/-- Where nothing acts and no block is made. -/
theorem lex_of_runL : ∀ {l : List Oper} {i : Nat} {tm tm' : Tm} {s s' : AS}, (∀ o ∈ l, eff E.ty o.op = false ∧ isNew o.op = false) → runL E call N ops l tm s = some (tm', s') → ∃ tr, Lex E call N ops an base i l tm s [] tr tm' s' []
  | [], i, tm, tm', s, s', _, h => by cases h; exact ⟨[], .nil _ _ _ _⟩
  | o :: l, i, tm, tm', s, s', hq, h => by
    have h' : (match wantedA ops tm o with
      | none => none
      | some false => match putA N tm o.dst undef with
        | none => none
        | some tm' => runL E call N ops l tm' s
      | some true => match execA o.op E call tm s with
        | none => none
        | some (v, s') => match putA N tm o.dst v with
          | none => none
          | some tm' => runL E call N ops l tm' s') = some (tm', s') := h
    clear h
    have hq' := fun x hx => hq x (List.mem_cons_of_mem _ hx)
    obtain ⟨q1, q2⟩ := hq o (by simp)
    split at h'
    · cases h'
    · rename_i hw
      split at h'
      · cases h'
      · rename_i tm1 hp
        obtain ⟨tr, ht⟩ := lex_of_runL hq' h'
        exact ⟨_, .skip hw hp ht⟩
    · rename_i hw
      split at h'
      · cases h'
      · rename_i v s1 hx
        split at h'
        · cases h'
        · rename_i tm1 hp
          have hst : s1 = s := by
            rw [execA_op q1] at hx
            exact opA_still q1 q2 hx
          subst hst
          obtain ⟨tr, ht⟩ := lex_of_runL hq' h'
          exact ⟨_, .look hw q2 q1 hx hp ht⟩

/-- The states behind those that act. -/
noncomputable def effS (ty : T TI) : List Oper → List Ent → List AS
  | o :: l, e :: tr => if eff ty o.op then e.s' :: effS ty l tr else effS ty l tr
  | _, _ => []

theorem new_noeff {ty : T TI} {op : Op} (h : isNew op = true) : eff ty op = false := by
  cases op <;> first | (cases h; done) | rfl

theorem lex_of_runD : ∀ {l : List Oper} {i : Nat} {tm tm' : Tm} {s s' : AS} {ss ss' : List AS} {rs rs' : List Rec} {nw nw' : News}, runD E call N ops an base l i tm s ss rs nw = some (tm', s', ss', rs', nw') →
    ∃ tr, Lex E call N ops an base i l tm s nw tr tm' s' nw' ∧ ss' = ss ++ effS E.ty l tr ∧ (∀ r ∈ rs, r ∈ rs') ∧
      ∀ (k : Nat) (o : Oper) (e : Ent), l[k]? = some o → tr[k]? = some e → eff E.ty o.op = false → isNew o.op = false → e.run = true → ∃ nw1, (⟨i + k, o, e.tm, e.v, nw1⟩ : Rec) ∈ rs' ∧ ∃ r, nw' = nw1 ++ r ∧ ∀ x ∈ r, i + k ≤ x.1
  | [], i, tm, tm', s, s', ss, ss', rs, rs', nw, nw', h => by
    cases h
    exact ⟨[], .nil _ _ _ _, by simp [effS], fun r hr => hr, fun k o e h => by simp at h⟩
  | o :: l, i, tm, tm', s, s', ss, ss', rs, rs', nw, nw', h => by
    have h' : (match wantedA ops tm o with
      | none => none
      | some false => match putA N tm o.dst undef with
        | none => none
        | some tm' => runD E call N ops an base l (i + 1) tm' s (bif eff E.ty o.op then ss ++ [s] else ss) rs nw
      | some true => bif isNew o.op then (natK (base + i) fun b => match newA o.op E tm b with
          | none => none
          | some (v, x) => match putA N tm o.dst v with
            | none => none
            | some tm' => runD E call N ops an base l (i + 1) tm' s ss rs (nw ++ [(i, x)]))
        else match execA o.op E call tm (laid base (an.getD i 0) nw s) with
        | none => none
        | some (v, s') => match putA N tm o.dst v with
          | none => none
          | some tm' => bif eff E.ty o.op then runD E call N ops an base l (i + 1) tm' s' (ss ++ [s']) rs nw else runD E call N ops an base l (i + 1) tm' s ss (⟨i, o, tm, v, nw⟩ :: rs) nw) = some (tm', s', ss', rs', nw') := h
    clear h
    have tail : ∀ {e0 : Ent} {tr : List Ent}, (∀ (k : Nat) (o : Oper) (e : Ent), l[k]? = some o → tr[k]? = some e → eff E.ty o.op = false → isNew o.op = false → e.run = true → ∃ nw1, (⟨i + 1 + k, o, e.tm, e.v, nw1⟩ : Rec) ∈ rs' ∧ ∃ r, nw' = nw1 ++ r ∧ ∀ x ∈ r, i + 1 + k ≤ x.1) →
        (eff E.ty o.op = false → isNew o.op = false → e0.run = true → ∃ nw1, (⟨i, o, e0.tm, e0.v, nw1⟩ : Rec) ∈ rs' ∧ ∃ r, nw' = nw1 ++ r ∧ ∀ x ∈ r, i ≤ x.1) →
        ∀ (k : Nat) (o' : Oper) (e : Ent), (o :: l)[k]? = some o' → (e0 :: tr)[k]? = some e → eff E.ty o'.op = false → isNew o'.op = false → e.run = true → ∃ nw1, (⟨i + k, o', e.tm, e.v, nw1⟩ : Rec) ∈ rs' ∧ ∃ r, nw' = nw1 ++ r ∧ ∀ x ∈ r, i + k ≤ x.1 := by
      intro e0 tr h2 h3 k o' e hk he hf hn hr
      cases k with
      | zero =>
        simp only [List.getElem?_cons_zero, Option.some.injEq] at hk he
        subst hk; subst he
        exact h3 hf hn hr
      | succ k =>
        simp only [List.getElem?_cons_succ] at hk he
        have := h2 k o' e hk he hf hn hr
        rwa [show i + 1 + k = i + (k + 1) by omega] at this
    split at h'
    · cases h'
    · rename_i hw
      split at h'
      · cases h'
      · rename_i tm1 hp
        obtain ⟨tr, ht, hs, hr, hk⟩ := lex_of_runD h'
        refine ⟨_, .skip hw hp ht, ?_, hr, tail hk (fun _ _ h => by cases h)⟩
        rw [hs]
        cases he : eff E.ty o.op <;> simp [effS, he]
    · rename_i hw
      cases hnew : isNew o.op with
      | true =>
        rw [hnew, cond_true, natK_eq] at h'
        split at h'
        · cases h'
        · rename_i v x hx
          split at h'
          · cases h'
          · rename_i tm1 hp
            obtain ⟨tr, ht, hs, hr, hk⟩ := lex_of_runD h'
            refine ⟨_, .fresh hw hnew hx hp ht, ?_, hr, tail hk (fun _ h => by rw [hnew] at h; cases h)⟩
            rw [hs]
            simp [effS, new_noeff hnew]
      | false =>
        rw [hnew, cond_false] at h'
        split at h'
        · cases h'
        · rename_i v s1 hx
          split at h'
          · cases h'
          · rename_i tm1 hp
            cases he : eff E.ty o.op with
            | true =>
              rw [he] at h'
              obtain ⟨tr, ht, hs, hr, hk⟩ := lex_of_runD h'
              refine ⟨_, .act hw hnew he hx hp ht, ?_, hr, tail hk (fun h => by rw [he] at h; cases h)⟩
              rw [hs]
              simp [effS, he]
            | false =>
              rw [he] at h'
              obtain ⟨tr, ht, hs, hr, hk⟩ := lex_of_runD h'
              refine ⟨_, .look hw hnew he hx hp ht, ?_, fun r h => hr r (by simp [h]), tail hk (fun _ _ _ => ⟨nw, hr _ (by simp), ?_⟩)⟩
              · rw [hs]
                simp [effS, he]
              · obtain ⟨r, e, hr⟩ := ht.news_ge
                exact ⟨r, e, fun x hx => by have := hr x hx; omega⟩

/-- A slot's value, those of L having been. -/
def curT (L : Nat → Bool) (d : Tmp) : Nat → List Oper → List Ent → Option Value → Option Value
  | j, o :: l, e :: tr, acc => curT L d (j + 1) l tr (if L j = true ∧ o.dst = some d then some e.v else acc)
  | _, _, _, acc => acc
noncomputable def curS (ty : T TI) (L : Nat → Bool) : Nat → List Oper → List Ent → AS → AS
  | j, o :: l, e :: tr, acc => curS ty L (j + 1) l tr (if L j = true ∧ eff ty o.op = true then e.s' else acc)
  | _, _, _, acc => acc

theorem curT_congr {L L' : Nat → Bool} {d : Tmp} : ∀ {l : List Oper} {tr : List Ent} {j : Nat} {acc : Option Value}, (∀ (k : Nat) (o : Oper), l[k]? = some o → o.dst = some d → L (j + k) = L' (j + k)) → curT L d j l tr acc = curT L' d j l tr acc
  | [], _, _, _, _ => by simp [curT]
  | _ :: _, [], _, _, _ => by simp [curT]
  | o :: l, e :: tr, j, acc, h => by
    simp only [curT]
    have h0 : (L j = true ∧ o.dst = some d) ↔ (L' j = true ∧ o.dst = some d) := by
      constructor
      · rintro ⟨a, b⟩; exact ⟨by have := h 0 o rfl b; simp only [Nat.add_zero] at this; rw [← this]; exact a, b⟩
      · rintro ⟨a, b⟩; exact ⟨by have := h 0 o rfl b; simp only [Nat.add_zero] at this; rw [this]; exact a, b⟩
    simp only [h0]
    exact curT_congr (fun k o' hk ho => by have := h (k + 1) o' (by simpa using hk) ho; rwa [show j + (k + 1) = j + 1 + k by omega] at this)

theorem curS_congr {ty : T TI} {L L' : Nat → Bool} : ∀ {l : List Oper} {tr : List Ent} {j : Nat} {acc : AS}, (∀ (k : Nat) (o : Oper), l[k]? = some o → eff ty o.op = true → L (j + k) = L' (j + k)) → curS ty L j l tr acc = curS ty L' j l tr acc
  | [], _, _, _, _ => by simp [curS]
  | _ :: _, [], _, _, _ => by simp [curS]
  | o :: l, e :: tr, j, acc, h => by
    simp only [curS]
    have h0 : (L j = true ∧ eff ty o.op = true) ↔ (L' j = true ∧ eff ty o.op = true) := by
      constructor
      · rintro ⟨a, b⟩; exact ⟨by have := h 0 o rfl b; simp only [Nat.add_zero] at this; rw [← this]; exact a, b⟩
      · rintro ⟨a, b⟩; exact ⟨by have := h 0 o rfl b; simp only [Nat.add_zero] at this; rw [this]; exact a, b⟩
    simp only [h0]
    exact curS_congr (fun k o' hk ho => by have := h (k + 1) o' (by simpa using hk) ho; rwa [show j + (k + 1) = j + 1 + k by omega] at this)

theorem curT_none {L : Nat → Bool} {d : Tmp} : ∀ {l : List Oper} {tr : List Ent} {j : Nat} {acc : Option Value}, (∀ (k : Nat) (o : Oper), l[k]? = some o → o.dst = some d → L (j + k) = false) → curT L d j l tr acc = acc
  | [], _, _, _, _ => by simp [curT]
  | _ :: _, [], _, _, _ => by simp [curT]
  | o :: l, e :: tr, j, acc, h => by
    simp only [curT]
    rw [if_neg (fun hh => by have := h 0 o rfl hh.2; simp only [Nat.add_zero] at this; rw [this] at hh; cases hh.1)]
    exact curT_none (fun k o' hk ho => by have := h (k + 1) o' (by simpa using hk) ho; rwa [show j + (k + 1) = j + 1 + k by omega] at this)
theorem curS_none {ty : T TI} {L : Nat → Bool} : ∀ {l : List Oper} {tr : List Ent} {j : Nat} {acc : AS}, (∀ (k : Nat) (o : Oper), l[k]? = some o → eff ty o.op = true → L (j + k) = false) → curS ty L j l tr acc = acc
  | [], _, _, _, _ => by simp [curS]
  | _ :: _, [], _, _, _ => by simp [curS]
  | o :: l, e :: tr, j, acc, h => by
    simp only [curS]
    rw [if_neg (fun hh => by have := h 0 o rfl hh.2; simp only [Nat.add_zero] at this; rw [this] at hh; cases hh.1)]
    exact curS_none (fun k o' hk ho => by have := h (k + 1) o' (by simpa using hk) ho; rwa [show j + (k + 1) = j + 1 + k by omega] at this)

theorem curT_last {L : Nat → Bool} {d : Tmp} : ∀ {l : List Oper} {tr : List Ent} {j k : Nat} {acc : Option Value} {o : Oper} {e : Ent}, l[k]? = some o → tr[k]? = some e → o.dst = some d → L (j + k) = true →
    (∀ (m : Nat) (o : Oper), k < m → l[m]? = some o → o.dst = some d → L (j + m) = false) → curT L d j l tr acc = some e.v
  | [], _, _, _, _, _, _, h, _, _, _, _ => by simp at h
  | _ :: _, [], _, _, _, _, _, _, h, _, _, _ => by simp at h
  | o :: l, e :: tr, j, k, acc, o', e', h1, h2, h3, h4, h5 => by
    simp only [curT]
    cases k with
    | zero =>
      simp only [List.getElem?_cons_zero, Option.some.injEq] at h1 h2
      subst h1; subst h2
      rw [if_pos ⟨h4, h3⟩]
      exact curT_none (fun k o' hk ho => by have := h5 (k + 1) o' (by omega) (by simpa using hk) ho; rwa [show j + (k + 1) = j + 1 + k by omega] at this)
    | succ k =>
      simp only [List.getElem?_cons_succ] at h1 h2
      exact curT_last h1 h2 h3 (by rwa [show j + 1 + k = j + (k + 1) by omega]) (fun m o' hm hk ho => by
        have := h5 (m + 1) o' (by omega) (by simpa using hk) ho; rwa [show j + (m + 1) = j + 1 + m by omega] at this)
theorem curS_last {ty : T TI} {L : Nat → Bool} : ∀ {l : List Oper} {tr : List Ent} {j k : Nat} {acc : AS} {o : Oper} {e : Ent}, l[k]? = some o → tr[k]? = some e → eff ty o.op = true → L (j + k) = true →
    (∀ (m : Nat) (o : Oper), k < m → l[m]? = some o → eff ty o.op = true → L (j + m) = false) → curS ty L j l tr acc = e.s'
  | [], _, _, _, _, _, _, h, _, _, _, _ => by simp at h
  | _ :: _, [], _, _, _, _, _, _, h, _, _, _ => by simp at h
  | o :: l, e :: tr, j, k, acc, o', e', h1, h2, h3, h4, h5 => by
    simp only [curS]
    cases k with
    | zero =>
      simp only [List.getElem?_cons_zero, Option.some.injEq] at h1 h2
      subst h1; subst h2
      rw [if_pos ⟨h4, h3⟩]
      exact curS_none (fun k o' hk ho => by have := h5 (k + 1) o' (by omega) (by simpa using hk) ho; rwa [show j + (k + 1) = j + 1 + k by omega] at this)
    | succ k =>
      simp only [List.getElem?_cons_succ] at h1 h2
      exact curS_last h1 h2 h3 (by rwa [show j + 1 + k = j + (k + 1) by omega]) (fun m o' hm hk ho => by
        have := h5 (m + 1) o' (by omega) (by simpa using hk) ho; rwa [show j + (m + 1) = j + 1 + m by omega] at this)

theorem putA_get {tm tm1 : Tm} {dst : Option Tmp} {v : Value} (h : putA N tm dst v = some tm1) (d : Tmp) : tm1.get d = if dst = some d then some v else tm.get d := by
  cases dst with
  | none => cases h; simp
  | some k =>
    unfold putA at h
    simp only at h
    cases hb : Nat.ble k N with
    | false => rw [hb] at h; cases h
    | true =>
      rw [hb] at h
      cases h
      rw [T.get_set]
      by_cases e : d = k
      · subst e; simp
      · rw [if_neg e, if_neg (fun h => e (Option.some.inj h).symm)]

theorem execA_congr {op : Op} {tm tm' : Tm} {s : AS} (h : ∀ x ∈ op.operands, ev tm' x = ev tm x) : execA op E call tm' s = execA op E call tm s := by
  cases op with
  | call c =>
    show callC c E call tm' s = callC c E call tm s
    unfold callC
    split
    · rename_i f hf
      unfold callV
      rw [h f (by simp [Op.operands, Call.operands, hf]), evs_congr (fun x hx => h x (by simp [Op.operands, Call.operands, Array.mem_toList_iff.1 hx]))]
    · exact opA_congr (.call c) h
  | _ => exact opA_congr (E := E) (s := s) _ h

/-- What the lexical run's entries are. -/
theorem Lex.ent {i : Nat} {l : List Oper} {tm tm' : Tm} {s s' : AS} {nw nw' : News} {tr : List Ent} (h : Lex E call N ops an base i l tm s nw tr tm' s' nw') : ∀ {k : Nat} {o : Oper} (_ : l[k]? = some o), ∃ e, tr[k]? = some e ∧ wantedA ops e.tm o = some e.run ∧
    (e.run = false → e.v = undef ∧ e.s' = e.s) ∧ (e.run = true → isNew o.op = true → newA o.op E e.tm (base + (i + k)) = some (e.v, e.x) ∧ (i + k, e.x) ∈ nw') ∧
    (e.run = true → isNew o.op = false → ∃ nw1 s1, execA o.op E call e.tm (laid base (an.getD (i + k) 0) nw1 e.s) = some (e.v, s1) ∧ (eff E.ty o.op = true → e.s' = s1) ∧ ∃ r, nw' = nw1 ++ r ∧ ∀ x ∈ r, i + k ≤ x.1) ∧
    (∃ tm1, putA N e.tm o.dst e.v = some tm1) ∧ (eff E.ty o.op = false → e.s' = e.s) := by
  induction h with
  | nil => intro k o h; simp at h
  | skip h1 h2 h3 ih =>
    intro k o h
    cases k with
    | zero =>
      simp only [List.getElem?_cons_zero, Option.some.injEq] at h
      subst h
      exact ⟨_, rfl, h1, fun _ => ⟨rfl, rfl⟩, (fun h => by cases h), (fun h => by cases h), ⟨_, h2⟩, fun _ => rfl⟩
    | succ k =>
      have := ih (k := k) (by simpa using h)
      simpa [Nat.add_assoc, Nat.add_comm 1 k] using this
  | fresh h1 hn h2 h3 h4 ih =>
    intro k o h
    cases k with
    | zero =>
      simp only [List.getElem?_cons_zero, Option.some.injEq] at h
      subst h
      refine ⟨_, rfl, h1, (fun h => by cases h), fun _ _ => ⟨h2, ?_⟩, (fun _ h => by rw [hn] at h; cases h), ⟨_, h3⟩, fun _ => rfl⟩
      obtain ⟨r, e, _⟩ := h4.news_ge
      rw [e]
      simp
    | succ k =>
      have := ih (k := k) (by simpa using h)
      simpa [Nat.add_assoc, Nat.add_comm 1 k] using this
  | act h1 hn he h2 h3 h4 ih =>
    intro k o h
    cases k with
    | zero =>
      simp only [List.getElem?_cons_zero, Option.some.injEq] at h
      subst h
      refine ⟨_, rfl, h1, (fun h => by cases h), (fun _ h => by rw [hn] at h; cases h), fun _ _ => ⟨_, _, h2, fun _ => rfl, ?_⟩, ⟨_, h3⟩, (fun h => by rw [he] at h; cases h)⟩
      obtain ⟨r, e, hr⟩ := h4.news_ge
      exact ⟨r, e, fun x hx => by have := hr x hx; omega⟩
    | succ k =>
      have := ih (k := k) (by simpa using h)
      simpa [Nat.add_assoc, Nat.add_comm 1 k] using this
  | look h1 hn he h2 h3 h4 ih =>
    intro k o h
    cases k with
    | zero =>
      simp only [List.getElem?_cons_zero, Option.some.injEq] at h
      subst h
      refine ⟨_, rfl, h1, (fun h => by cases h), (fun _ h => by rw [hn] at h; cases h), fun _ _ => ⟨_, _, h2, (fun h => by rw [he] at h; cases h), ?_⟩, ⟨_, h3⟩, fun _ => rfl⟩
      obtain ⟨r, e, hr⟩ := h4.news_ge
      exact ⟨r, e, fun x hx => by have := hr x hx; omega⟩
    | succ k =>
      have := ih (k := k) (by simpa using h)
      simpa [Nat.add_assoc, Nat.add_comm 1 k] using this

theorem Lex.tmAt {i : Nat} {l : List Oper} {tm tm' : Tm} {s s' : AS} {nw nw' : News} {tr : List Ent} (h : Lex E call N ops an base i l tm s nw tr tm' s' nw') (d : Tmp) : ∀ {j k : Nat} {e : Ent}, tr[k]? = some e → e.tm.get d = curT (fun x => decide (x < j + k)) d j l tr (tm.get d) := by
  have step : ∀ {o : Oper} {l : List Oper} {tm tm1 tm' : Tm} {v : Value} {e0 : Ent} {tr : List Ent}, e0.tm = tm → e0.v = v → putA N tm o.dst v = some tm1 → (∀ {j k : Nat} {e : Ent}, tr[k]? = some e → e.tm.get d = curT (fun x => decide (x < j + k)) d j l tr (tm1.get d)) →
      ∀ {j k : Nat} {e : Ent}, (e0 :: tr)[k]? = some e → e.tm.get d = curT (fun x => decide (x < j + k)) d j (o :: l) (e0 :: tr) (tm.get d) := by
    intro o l tm tm1 tm' v e0 tr h1 h1' h2 ih j k e h
    cases k with
    | zero =>
      simp only [List.getElem?_cons_zero, Option.some.injEq] at h
      subst h
      rw [curT_none (fun k o _ _ => by simp), h1]
    | succ k =>
      rw [ih (j := j + 1) (by simpa using h)]
      simp only [curT]
      rw [putA_get h2, h1']
      simp only [show (j < j + (k + 1)) by omega, decide_true, true_and, show j + 1 + k = j + (k + 1) by omega]
  induction h with
  | nil => intro j k e h; simp at h
  | skip h1 h2 h3 ih => exact step (tm' := tm') rfl rfl h2 ih
  | fresh h1 hn h2 h3 h4 ih => exact step (tm' := tm') rfl rfl h3 ih
  | act h1 hn he h2 h3 h4 ih => exact step (tm' := tm') rfl rfl h3 ih
  | look h1 hn he h2 h3 h4 ih => exact step (tm' := tm') rfl rfl h3 ih

theorem Lex.tmEnd {i : Nat} {l : List Oper} {tm tm' : Tm} {s s' : AS} {nw nw' : News} {tr : List Ent} (h : Lex E call N ops an base i l tm s nw tr tm' s' nw') (d : Tmp) : ∀ {j : Nat} {L : Nat → Bool}, (∀ k, k < l.length → L (j + k) = true) → tm'.get d = curT L d j l tr (tm.get d) := by
  have step : ∀ {o : Oper} {l : List Oper} {tm tm1 tm' : Tm} {v : Value} {e0 : Ent} {tr : List Ent}, e0.v = v → putA N tm o.dst v = some tm1 → (∀ {j : Nat} {L : Nat → Bool}, (∀ k, k < l.length → L (j + k) = true) → tm'.get d = curT L d j l tr (tm1.get d)) →
      ∀ {j : Nat} {L : Nat → Bool}, (∀ k, k < (o :: l).length → L (j + k) = true) → tm'.get d = curT L d j (o :: l) (e0 :: tr) (tm.get d) := by
    intro o l tm tm1 tm' v e0 tr h1 h2 ih j L hL
    rw [ih (j := j + 1) (L := L) (fun k hk => by rw [show j + 1 + k = j + (k + 1) by omega]; exact hL _ (by simpa using hk))]
    simp only [curT]
    rw [putA_get h2, h1]
    have := hL 0 (by simp)
    simp only [Nat.add_zero] at this
    simp only [this, true_and]
  induction h with
  | nil => intro j L _; rfl
  | skip h1 h2 h3 ih => exact step rfl h2 ih
  | fresh h1 hn h2 h3 h4 ih => exact step rfl h3 ih
  | act h1 hn he h2 h3 h4 ih => exact step rfl h3 ih
  | look h1 hn he h2 h3 h4 ih => exact step rfl h3 ih

theorem Lex.sAt {i : Nat} {l : List Oper} {tm tm' : Tm} {s s' : AS} {nw nw' : News} {tr : List Ent} (h : Lex E call N ops an base i l tm s nw tr tm' s' nw') : ∀ {j k : Nat} {e : Ent}, tr[k]? = some e → e.s = curS E.ty (fun x => decide (x < j + k)) j l tr s := by
  have step : ∀ {o : Oper} {l : List Oper} {s s1 : AS} {e0 : Ent} {tr : List Ent}, e0.s = s → (eff E.ty o.op = true → e0.s' = s1) → (eff E.ty o.op = false → s1 = s) → (∀ {j k : Nat} {e : Ent}, tr[k]? = some e → e.s = curS E.ty (fun x => decide (x < j + k)) j l tr s1) →
      ∀ {j k : Nat} {e : Ent}, (e0 :: tr)[k]? = some e → e.s = curS E.ty (fun x => decide (x < j + k)) j (o :: l) (e0 :: tr) s := by
    intro o l s s1 e0 tr h1 h2 h3 ih j k e h
    cases k with
    | zero =>
      simp only [List.getElem?_cons_zero, Option.some.injEq] at h
      subst h
      rw [curS_none (fun k o _ _ => by simp), h1]
    | succ k =>
      rw [ih (j := j + 1) (by simpa using h)]
      simp only [curS]
      simp only [show (j < j + (k + 1)) by omega, decide_true, true_and, show j + 1 + k = j + (k + 1) by omega]
      cases he : eff E.ty o.op with
      | true => simp [h2 he]
      | false => simp [h3 he]
  induction h with
  | nil => intro j k e h; simp at h
  | skip h1 h2 h3 ih => exact step rfl (fun _ => rfl) (fun _ => rfl) ih
  | fresh h1 hn h2 h3 h4 ih => exact step rfl (fun _ => rfl) (fun _ => rfl) ih
  | act h1 hn he h2 h3 h4 ih => exact step rfl (fun _ => rfl) (fun h => by rw [he] at h; cases h) ih
  | look h1 hn he h2 h3 h4 ih => exact step rfl (fun _ => rfl) (fun _ => rfl) ih

theorem Lex.sEnd {i : Nat} {l : List Oper} {tm tm' : Tm} {s s' : AS} {nw nw' : News} {tr : List Ent} (h : Lex E call N ops an base i l tm s nw tr tm' s' nw') : ∀ {j : Nat} {L : Nat → Bool}, (∀ k, k < l.length → L (j + k) = true) → s' = curS E.ty L j l tr s := by
  have step : ∀ {o : Oper} {l : List Oper} {s s1 s' : AS} {e0 : Ent} {tr : List Ent}, (eff E.ty o.op = true → e0.s' = s1) → (eff E.ty o.op = false → s1 = s) → (∀ {j : Nat} {L : Nat → Bool}, (∀ k, k < l.length → L (j + k) = true) → s' = curS E.ty L j l tr s1) →
      ∀ {j : Nat} {L : Nat → Bool}, (∀ k, k < (o :: l).length → L (j + k) = true) → s' = curS E.ty L j (o :: l) (e0 :: tr) s := by
    intro o l s s1 s' e0 tr h2 h3 ih j L hL
    rw [ih (j := j + 1) (L := L) (fun k hk => by rw [show j + 1 + k = j + (k + 1) by omega]; exact hL _ (by simpa using hk))]
    simp only [curS]
    have := hL 0 (by simp)
    simp only [Nat.add_zero] at this
    simp only [this, true_and]
    cases he : eff E.ty o.op with
    | true => simp [h2 he]
    | false => simp [h3 he]
  induction h with
  | nil => intro j L _; rfl
  | skip h1 h2 h3 ih => exact step (fun _ => rfl) (fun _ => rfl) ih
  | fresh h1 hn h2 h3 h4 ih => exact step (fun _ => rfl) (fun _ => rfl) ih
  | act h1 hn he h2 h3 h4 ih => exact step (fun _ => rfl) (fun h => by rw [he] at h; cases h) ih
  | look h1 hn he h2 h3 h4 ih => exact step (fun _ => rfl) (fun _ => rfl) ih

theorem Lex.length {i : Nat} {l : List Oper} {tm tm' : Tm} {s s' : AS} {nw nw' : News} {tr : List Ent} (h : Lex E call N ops an base i l tm s nw tr tm' s' nw') : tr.length = l.length := by
  induction h with
  | nil => rfl
  | skip _ _ _ ih => simp [ih]
  | fresh _ _ _ _ _ ih => simp [ih]
  | act _ _ _ _ _ _ ih => simp [ih]
  | look _ _ _ _ _ _ ih => simp [ih]

/-- The new blocks are those of the run's entries, each once. -/
theorem Lex.news {i : Nat} {l : List Oper} {tm tm' : Tm} {s s' : AS} {nw nw' : News} {tr : List Ent} (h : Lex E call N ops an base i l tm s nw tr tm' s' nw') : ∃ r, nw' = nw ++ r ∧ r.Pairwise (fun a b => a.1 ≠ b.1) ∧ ∀ x ∈ r, i ≤ x.1 ∧
    ∃ o e, l[x.1 - i]? = some o ∧ tr[x.1 - i]? = some e ∧ isNew o.op = true ∧ e.run = true ∧ e.x = x.2 := by
  have shift : ∀ {i : Nat} {o0 : Oper} {e0 : Ent} {l : List Oper} {tr : List Ent} {x : Nat × AObj}, (i + 1 ≤ x.1 ∧ ∃ o e, l[x.1 - (i + 1)]? = some o ∧ tr[x.1 - (i + 1)]? = some e ∧ isNew o.op = true ∧ e.run = true ∧ e.x = x.2) →
      i ≤ x.1 ∧ ∃ o e, (o0 :: l)[x.1 - i]? = some o ∧ (e0 :: tr)[x.1 - i]? = some e ∧ isNew o.op = true ∧ e.run = true ∧ e.x = x.2 := by
    intro i o0 e0 l tr x ⟨h1, o, e, h2, h3, h4⟩
    refine ⟨by omega, o, e, ?_, ?_, h4⟩
    · rw [show x.1 - i = (x.1 - (i + 1)) + 1 by omega, List.getElem?_cons_succ]; exact h2
    · rw [show x.1 - i = (x.1 - (i + 1)) + 1 by omega, List.getElem?_cons_succ]; exact h3
  induction h with
  | nil => exact ⟨[], by simp, .nil, by simp⟩
  | skip _ _ _ ih => obtain ⟨r, e, hp, h⟩ := ih; exact ⟨r, e, hp, fun x hx => shift (h x hx)⟩
  | fresh h1 hn h2 h3 h4 ih =>
    obtain ⟨r, e, hp, h⟩ := ih
    refine ⟨_ :: r, by rw [e, List.append_assoc]; rfl, List.pairwise_cons.2 ⟨fun x hx => ?_, hp⟩, fun x hx => ?_⟩
    · have := (h x hx).1
      simp only
      omega
    · rcases List.mem_cons.1 hx with rfl | hx
      · exact ⟨Nat.le_refl _, _, _, by rw [Nat.sub_self]; rfl, by rw [Nat.sub_self]; rfl, hn, rfl, rfl⟩
      · exact shift (h x hx)
  | act _ _ _ _ _ _ ih => obtain ⟨r, e, hp, h⟩ := ih; exact ⟨r, e, hp, fun x hx => shift (h x hx)⟩
  | look _ _ _ _ _ _ ih => obtain ⟨r, e, hp, h⟩ := ih; exact ⟨r, e, hp, fun x hx => shift (h x hx)⟩

end
end Go.Ax
