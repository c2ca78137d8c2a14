/- The abstract machine's operations and the model's, part 8: a map's entries. -/
import Derived.Test.YtmfdkldjinlmnaaGreatDoorAxSem7
set_option linter.unusedVariables false
set_option linter.unusedSimpArgs false
namespace Go.Ax
open Go

section
variable {E : Env} {i : Io} {s : AS} {w : World}

def putE (k v : Value) (p : Value × Value) : Value × Value := if keq k p.1 then (k, v) else p
def putN (k v : Value) (e : MapEntry) : MapEntry := if keq k e.key then { e with key := k, val := v } else e

theorem putM_spec {kt : TypeId} {k v : Value} : ∀ {es es' : List (Value × Value)}, es.Pairwise (fun a b => KD a.1 b.1) → putM E kt k v es = some es' →
    ∃ r, findM E kt k es = some r ∧ (r = none → es' = es ++ [(k, v)]) ∧ (∀ u, r = some u → es' = es.map (putE k v))
  | [], es', _, h => by
    simp only [putM, Option.some.injEq] at h
    exact ⟨none, rfl, fun _ => h.symm, by simp⟩
  | (a, u) :: es, es', hp, h => by
    rw [List.pairwise_cons] at hp
    simp only [putM] at h
    simp only [findM]
    split at h
    · cases h
    · rename_i hq
      cases h
      obtain ⟨h1, h2⟩ := keyEq_spec hq
      refine ⟨some u, rfl, by simp, fun _ _ => ?_⟩
      have hka := keq_eq h2.symm
      subst hka
      rw [List.map_cons, putE, if_pos h2.symm]
      congr 1
      have : ∀ p ∈ es, putE k v p = p := fun p hp' => by
        have := KD_ne (hp.1 p hp')
        unfold putE
        rw [this]
        rfl
      rw [List.map_congr_left this, List.map_id']
    · rename_i hq
      obtain ⟨h1, h2⟩ := keyEq_spec hq
      split at h
      · cases h
      · rename_i r hr
        cases h
        obtain ⟨o, g1, g2, g3⟩ := putM_spec hp.2 hr
        refine ⟨o, g1, fun ho => by rw [g2 ho]; rfl, fun x hx => ?_⟩
        rw [g3 x hx, List.map_cons, putE, if_neg (by rw [← h2]; simp)]

theorem dropM_spec {kt : TypeId} {k : Value} : ∀ {es es' : List (Value × Value)}, es.Pairwise (fun a b => KD a.1 b.1) → dropM E kt k es = some es' →
    ∃ r, findM E kt k es = some r ∧ es' = es.filter (fun p => !keq k p.1)
  | [], es', _, h => by
    simp only [dropM, Option.some.injEq] at h
    exact ⟨none, rfl, h.symm⟩
  | (a, u) :: es, es', hp, h => by
    rw [List.pairwise_cons] at hp
    simp only [dropM] at h
    simp only [findM]
    split at h
    · cases h
    · rename_i hq
      cases h
      obtain ⟨h1, h2⟩ := keyEq_spec hq
      refine ⟨some u, rfl, ?_⟩
      have hka := keq_eq h2.symm
      subst hka
      rw [List.filter_cons, ← h2]
      simp only [Bool.not_true, Bool.false_eq_true, if_false]
      symm
      rw [List.filter_eq_self]
      intro p hp'
      rw [KD_ne (hp.1 p hp')]
      rfl
    · rename_i hq
      obtain ⟨h1, h2⟩ := keyEq_spec hq
      split at h
      · cases h
      · rename_i r hr
        cases h
        obtain ⟨o, g1, g2⟩ := dropM_spec hp.2 hr
        refine ⟨o, g1, ?_⟩
        rw [g2, List.filter_cons, ← h2]
        rfl

theorem MR.put {k v v' : Value} (hv : VR i v v') : ∀ {es : List (Value × Value)} {l : List MapEntry}, MR i es l → MR i (es.map (putE k v)) (l.map (putN k v'))
  | _, _, .nil => .nil
  | (a, u) :: es, e :: l, .cons hk h1 h' => by
    rw [List.map_cons, List.map_cons]
    unfold putE putN
    rw [hk]
    cases hq : keq k a with
    | true => exact .cons rfl hv (MR.put hv h')
    | false => exact .cons hk h1 (MR.put hv h')
theorem MR.filter {k : Value} : ∀ {es : List (Value × Value)} {l : List MapEntry}, MR i es l → MR i (es.filter (fun p => !keq k p.1)) (l.filter (fun e => !keq k e.key))
  | _, _, .nil => .nil
  | (a, u) :: es, e :: l, .cons hk h1 h' => by
    rw [List.filter_cons, List.filter_cons, hk]
    cases hq : keq k a with
    | true => exact MR.filter h'
    | false => exact .cons hk h1 (MR.filter h')
theorem MR.snoc {k v v' : Value} (hv : VR i v v') (c : Nat) : ∀ {es : List (Value × Value)} {l : List MapEntry}, MR i es l → MR i (es ++ [(k, v)]) (l ++ [{ key := k, val := v', born := c }])
  | _, _, .nil => .cons rfl hv .nil
  | _, _, .cons hk h1 h' => .cons hk h1 (MR.snoc hv c h')

theorem putE_keys (k v : Value) (es : List (Value × Value)) : (es.map (putE k v)).map (·.1) = es.map (·.1) := by
  rw [List.map_map]
  apply List.map_congr_left
  intro p _
  simp only [Function.comp, putE]
  cases hq : keq k p.1 with
  | true => rw [if_pos rfl]; exact keq_eq hq
  | false => rw [if_neg (by simp)]

theorem pair_keys {es es' : List (Value × Value)} (h : es'.map (·.1) = es.map (·.1)) (hp : es.Pairwise (fun a b => KD a.1 b.1)) : es'.Pairwise (fun a b => KD a.1 b.1) := by
  have h1 : (es.map (·.1)).Pairwise KD := List.pairwise_map.2 hp
  rw [← h] at h1
  exact List.pairwise_map.1 h1

theorem modify_eq {l : List MapEntry} (hp : l.Pairwise (fun a b => KD a.key b.key)) {k v' : Value} : ∀ {n : Nat} {e : MapEntry}, l[n]? = some e → keq k e.key = true →
    l.modify n (fun e => { e with key := k, val := v' }) = l.map (putN k v') := by
  induction l with
  | nil => intro n e h; simp at h
  | cons x l ih =>
    intro n e h hk
    rw [List.pairwise_cons] at hp
    cases n with
    | zero =>
      simp only [List.getElem?_cons_zero, Option.some.injEq] at h
      subst h
      simp only [List.modify_zero_cons, List.map_cons]
      congr 1
      · simp [putN, hk]
      · have hka := keq_eq hk
        subst hka
        have : ∀ p ∈ l, putN x.key v' p = p := fun p hp' => by
          have := KD_ne (hp.1 p hp')
          unfold putN
          rw [this]
          rfl
        rw [List.map_congr_left this, List.map_id']
    | succ n =>
      simp only [List.getElem?_cons_succ] at h
      simp only [List.modify_succ_cons, List.map_cons]
      rw [ih hp.2 h hk]
      congr 1
      have hm : e ∈ l := List.mem_of_getElem? h
      have hka := keq_eq hk
      have := KD_ne (KD_symm (hp.1 e hm))
      rw [← hka] at this
      simp [putN, this]

theorem erase_eq {l : List MapEntry} (hp : l.Pairwise (fun a b => KD a.key b.key)) {k : Value} : ∀ {n : Nat} {e : MapEntry}, l[n]? = some e → keq k e.key = true →
    l.eraseIdx n = l.filter (fun e => !keq k e.key) := by
  induction l with
  | nil => intro n e h; simp at h
  | cons x l ih =>
    intro n e h hk
    rw [List.pairwise_cons] at hp
    cases n with
    | zero =>
      simp only [List.getElem?_cons_zero, Option.some.injEq] at h
      subst h
      rw [List.eraseIdx_cons_zero, List.filter_cons, hk]
      have hka := keq_eq hk
      subst hka
      symm
      simp only [Bool.not_true, Bool.false_eq_true, if_false]
      rw [List.filter_eq_self]
      intro p hp'
      rw [KD_ne (hp.1 p hp')]
      rfl
    | succ n =>
      simp only [List.getElem?_cons_succ] at h
      rw [List.eraseIdx_cons_succ, ih hp.2 h hk, List.filter_cons]
      have hm : e ∈ l := List.mem_of_getElem? h
      have hka := keq_eq hk
      have := KD_ne (KD_symm (hp.1 e hm))
      rw [← hka] at this
      simp [this]

theorem pair_perm {l l' : List MapEntry} (h : l.Perm l') (hp : l.Pairwise (fun a b => KD a.key b.key)) : l'.Pairwise (fun a b => KD a.key b.key) :=
  (h.pairwise_iff (fun h => KD_symm h)).1 hp

theorem same_ok {k k' : Value} (h : keq k k' = true) {ki : TI} (hk : keyOk ki k = true) (n : Nat) : Instr.sameBits n k' k = true := by
  obtain rfl := keq_eq h
  unfold keyOk at hk
  split at hk <;> first | (cases hk; done) | simp [Instr.sameBits]

theorem Rel.mapNow {w' : World} (hR : Rel i s w) {b q : Nat} {es es2 : List (Value × Value)} (hes : s.h.get b = some (.map es)) (hib : i b = some (q, 0))
    {es' : Array MapEntry} {clk : Nat} (hw1 : w.heap[q]? = some (.map es' clk)) {m' : Array MapEntry} {clk' : Nat} (hw : w' = setB w q (.map m' clk')) {l : List MapEntry} (h1 : l.Perm m'.toList) (h2 : MR i es2 l) (h3 : es2.Pairwise (fun a b => KD a.1 b.1)) :
    Rel i (s.upd b (.map es2)) w' ∧ Fr i s w i (s.upd b (.map es2)) w' := by
  subst hw
  refine hR.upd hes rfl rfl hib (fun k hk => setB_ne hk) (setB_size _ _ _) rfl rfl rfl (fun _ => ?_)
  rw [setB_same hw1]
  exact ⟨rfl, m', clk', l, rfl, h1, h2, h3⟩

theorem hMapUpdate_sim (hT : TyOk E) (t : TypeId) (m k x : Operand) {tm : Tm} {ρ : Operand → Value} (hR : Rel i s w) (hρ : TR i tm ρ) {v : Value} {s' : AS} (h : hMapUpdate t m k x E tm s = some (v, s')) :
    SimU E i s w (Instr.mapUpdate t (ρ m) (ρ k) (ρ x)) s' ∧ v = .tuple #[] := by
  unfold hMapUpdate at h
  split at h
  · rename_i ti b kv xv ht hm hk hx
    have hcm := hρ m _ hm
    generalize hgm : ρ m = m' at hcm
    have hck := hρ k _ hk
    have hcx := hρ x _ hx
    have hd := run_und hT ht w
    cases hcm
    rename_i q hib
    split at h
    · rename_i kt et hdesc
      split at h
      · rename_i ki hki
        cases hko : keyOk ki kv with
        | false => rw [hko] at h; cases h
        | true =>
          rw [hko, cond_true] at h
          rw [keyOk_eq hko hck]
          split at h
          · rename_i es hes
            split at h
            · cases h
            · rename_i es2 hput
              cases h
              refine ⟨?_, rfl⟩
              obtain ⟨_, es', clk, l, hw1, hw2, hw3, hw4⟩ := hR.at (P := E.P) hes rfl hib
              obtain ⟨r, hf, p1, p2⟩ := putM_spec hw4 hput
              obtain ⟨r', g1, g2, g3⟩ := find_sim (w := w) hT hki hko hw2 hw3 hw4 hf
              cases r with
              | none =>
                obtain ⟨e1, e2⟩ := g2 rfl
                subst e1
                refine ⟨setB w q (.map (es'.push { key := kv, val := ρ x, born := clk }) (clk + 1)), i, ?_, ?_⟩
                · unfold Instr.mapUpdate
                  simp only [Sem.run_bind, hd, hdesc, Result.andThen_ok, getMap hw1, checkKey_ok hT hki hko, g1, setMap hw1]
                · refine hR.mapNow hes hib hw1 rfl (l := l ++ [{ key := kv, val := ρ x, born := clk }]) ?_ ?_ ?_
                  · rw [Array.toList_push]
                    exact hw2.append_right _
                  · rw [p1 rfl]
                    exact hw3.snoc hcx clk
                  · rw [p1 rfl]
                    rw [List.pairwise_append]
                    refine ⟨hw4, List.pairwise_singleton _ _, fun a ha c hc => ?_⟩
                    obtain rfl := List.mem_singleton.1 hc
                    obtain ⟨h1, h2, _⟩ := findM_spec hw3 hf
                    refine KD_symm (KD_of (allKK hw4 h1 a ha) ?_)
                    have hmem : a.1 ∈ es.map (·.1) := List.mem_map.2 ⟨a, ha, rfl⟩
                    rw [← hw3.keys] at hmem
                    obtain ⟨e, he, hee⟩ := List.mem_map.1 hmem
                    have := h2 rfl e he
                    rw [hee] at this
                    exact this
              | some u =>
                obtain ⟨n, v', e, e1, e2, e3, e4, e5⟩ := g3 u rfl
                subst e1
                have hp' := pair_perm hw2 (hw3.pair hw4)
                have hmod := modify_eq hp' (v' := ρ x) e2 e3
                refine ⟨setB w q (.map (es'.modify n fun e => { e with key := kv, val := ρ x }) clk), i, ?_, ?_⟩
                · have hst : (Instr.keyThatStays (((es'[n]?).map (·.key)).getD kv) kv).run E.P w = .ok kv w := by
                    have : es'[n]? = some e := by rw [← Array.getElem?_toList]; exact e2
                    rw [this]
                    unfold Instr.keyThatStays
                    have hs : Instr.sameBits 10000 ((Option.map (fun x => x.key) (some e)).getD kv) kv = true := same_ok e3 hko _
                    rw [if_pos hs]
                    rfl
                  unfold Instr.mapUpdate
                  simp only [Sem.run_bind, hd, hdesc, Result.andThen_ok, getMap hw1, checkKey_ok hT hki hko, g1, hst, setMap hw1]
                · refine hR.mapNow hes hib hw1 rfl (l := l.map (putN kv (ρ x))) ?_ ?_ ?_
                  · rw [Array.toList_modify, hmod]
                    exact hw2.map _
                  · rw [p2 u rfl]
                    exact hw3.put hcx
                  · rw [p2 u rfl]
                    exact pair_keys (putE_keys kv xv es) hw4
          · cases h
      · cases h
    · cases h
  · cases h

/-- delete -/
theorem delete_sim (hT : TyOk E) (t : TypeId) (ts : Array TypeId) (ty : TypeId) {x y x' y' : Value} (hR : Rel i s w) (hx : VR i x x') (hy : VR i y y') (hts : ts[0]? = some t) {v : Value} {s' : AS} (h : deleteA E s t x y = some (v, s')) :
    Sim E i s w (Builtin.delete_ ts ty #[x', y']) v s' := by
  unfold deleteA at h
  split at h
  · cases h
  · rename_i ti ht
    have hd := run_und hT ht w
    split at h
    · rename_i kt et b hdesc
      split at h
      · cases h
      · rename_i ki hki
        cases hko : keyOk ki y with
        | false => rw [hko] at h; cases h
        | true =>
          rw [hko, cond_true] at h
          cases hx
          rename_i q hib
          rw [keyOk_eq hko hy]
          split at h
          · rename_i es hes
            split at h
            · cases h
            · rename_i es2 hdrop
              cases h
              obtain ⟨_, es', clk, l, hw1, hw2, hw3, hw4⟩ := hR.at (P := E.P) hes rfl hib
              obtain ⟨r, hf, p1⟩ := dropM_spec hw4 hdrop
              obtain ⟨r', g1, g2, g3⟩ := find_sim (w := w) hT hki hko hw2 hw3 hw4 hf
              have hp' := pair_perm hw2 (hw3.pair hw4)
              have hend : ∀ m' : Array MapEntry, m'.toList = es'.toList.filter (fun e => !keq y e.key) → Rel i (s.upd b (.map es2)) (setB w q (.map m' clk)) ∧ Fr i s w i (s.upd b (.map es2)) (setB w q (.map m' clk)) := by
                intro m' hm
                refine hR.mapNow hes hib hw1 rfl (l := l.filter (fun e => !keq y e.key)) ?_ ?_ ?_
                · rw [hm]; exact hw2.filter _
                · rw [p1]; exact hw3.filter
                · rw [p1]; exact hw4.filter _
              cases r with
              | none =>
                obtain ⟨e1, e2⟩ := g2 rfl
                subst e1
                refine ⟨.tuple #[], setB w q (.map es' clk), i, ?_, .tuple .nil, hend _ ?_⟩
                · unfold Builtin.delete_
                  simp [Sem.run_bind, hts, hd, hdesc, Result.andThen_ok, getMap hw1, checkKey_ok hT hki hko, g1, setMap hw1]
                · symm
                  rw [List.filter_eq_self]
                  intro e he
                  rw [e2 e he]
                  rfl
              | some u =>
                obtain ⟨n, v', e, e1, e2, e3, e4, e5⟩ := g3 u rfl
                subst e1
                refine ⟨.tuple #[], setB w q (.map (es'.eraseIdxIfInBounds n) clk), i, ?_, .tuple .nil, hend _ ?_⟩
                · unfold Builtin.delete_
                  simp [Sem.run_bind, hts, hd, hdesc, Result.andThen_ok, getMap hw1, checkKey_ok hT hki hko, g1, setMap hw1]
                · rw [Array.toList_eraseIdxIfInBounds]
                  exact erase_eq hp' e2 e3
          · cases h
    · cases h

end
end Go.Ax
