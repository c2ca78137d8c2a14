/- The abstract machine's operations and the model's, part 7: maps. -/
import Derived.Test.YtmfdkldjinlmnaaGreatDoorAxSem6
set_option linter.unusedVariables false
set_option linter.unusedSimpArgs false
namespace Go.Ax
open Go

section
variable {E : Env} {i : Io} {s : AS} {w : World}

instance : LawfulBEq ByteArray where
  rfl {a} := by cases a with | mk d => show (d == d) = true; simp
  eq_of_beq {a b} h := by cases a with | mk d => cases b with | mk e => have : (d == e) = true := h; simpa using this

/-- Keys of one kind. -/
def KK : Value → Value → Prop
  | .int k _, .int l _ => k = l
  | .string _, .string _ => True
  | .bool _, .bool _ => True
  | _, _ => False

/-- The same key? -/
def keq : Value → Value → Bool
  | .int k x, .int l y => k == l && x == y
  | .string x, .string y => x == y
  | .bool x, .bool y => x == y
  | _, _ => false

theorem keyEq_spec {kt : TypeId} {a b : Value} {r : Bool} (h : keyEq E kt a b = some r) : KK a b ∧ r = keq a b := by
  unfold keyEq at h
  split at h
  · rename_i k x l y
    cases hk : kindEq k l with
    | false => rw [hk] at h; cases h
    | true =>
      rw [hk] at h
      cases h
      obtain rfl := kindEq_eq hk
      exact ⟨rfl, by simp [keq, ieq_eq]⟩
  · cases h; exact ⟨trivial, rfl⟩
  · cases h; exact ⟨trivial, rfl⟩
  · cases h

theorem keq_eq {a b : Value} (h : keq a b = true) : a = b := by
  unfold keq at h
  split at h
  · simp only [Bool.and_eq_true, beq_iff_eq] at h; rw [h.1, h.2]
  · simp only [beq_iff_eq] at h; rw [h]
  · simp only [beq_iff_eq] at h; rw [h]
  · cases h
theorem keq_refl {a b : Value} (h : KK a b) : keq a a = true := by
  unfold KK at h
  split at h <;> first | cases h; done | simp [keq]
theorem KD_KK {a b : Value} (h : KD a b) : KK a b := by
  unfold KD at h
  split at h
  · exact h.1
  · exact trivial
  · exact trivial
  · cases h
theorem KD_ne {a b : Value} (h : KD a b) : keq a b = false := by
  unfold KD at h
  split at h
  · obtain ⟨_, h2⟩ := h; simp [keq, h2]
  · simp [keq, h]
  · simpa [keq] using h
  · cases h
theorem KK_symm {a b : Value} (h : KK a b) : KK b a := by
  unfold KK at h
  split at h
  · exact h.symm
  · exact trivial
  · exact trivial
  · cases h
theorem KK_trans {a b c : Value} (h : KK a b) (h' : KK b c) : KK a c := by
  cases a <;> cases b <;> simp only [KK] at h <;> cases c <;> simp only [KK] at h' ⊢
  exact h.trans h'
theorem KD_of {a b : Value} (h : KK a b) (hn : keq a b = false) : KD a b := by
  cases a <;> cases b <;> simp only [KK] at h <;> simp only [KD, keq] at hn ⊢
  · simpa using hn
  · subst h; simpa using hn
  · simpa using hn
theorem KD_symm {a b : Value} (h : KD a b) : KD b a := by
  refine KD_of (KK_symm (KD_KK h)) ?_
  cases hq : keq b a with
  | false => rfl
  | true => have := keq_eq hq; subst this; rw [keq_refl (KD_KK h)] at *; have := KD_ne h; rw [keq_refl (KD_KK h)] at this; cases this

theorem sameNow_spec {d : TypeDesc} {k a : Value} {ki : TI} (hd : ki.desc = d) (hk : keyOk ki k = true) (h : KK k a) : Instr.sameNow d k a = some (keq k a) := by
  subst hd
  unfold keyOk at hk
  split at hk
  · rename_i k' x _ hdesc
    rw [hdesc]
    cases a <;> simp only [KK] at h
    subst h
    simp [Instr.sameNow, keq]
  · rename_i hdesc
    rw [hdesc]
    cases a <;> simp only [KK] at h
    simp [Instr.sameNow, keq]
  · rename_i hdesc
    rw [hdesc]
    cases a <;> simp only [KK] at h
    simp [Instr.sameNow, keq]
  · cases hk

/-- The model's look-up in a list all of whose keys are of the key's kind. -/
theorem findNow_spec {d : TypeDesc} {k : Value} {ki : TI} (hd : ki.desc = d) (hk : keyOk ki k = true) : ∀ (l : List MapEntry) (j : Nat), (∀ e ∈ l, KK k e.key) →
    Instr.findNow d k l j = some ((l.findIdx? fun e => keq k e.key).map fun n => (n + j, ((l[n]?).map (·.val)).getD undef))
  | [], j, _ => rfl
  | e :: l, j, h => by
    simp only [Instr.findNow, sameNow_spec hd hk (h e (by simp))]
    cases hq : keq k e.key with
    | true => simp [List.findIdx?_cons, hq]
    | false =>
      simp only []
      rw [findNow_spec hd hk l (j + 1) (fun x hx => h x (by simp [hx]))]
      rw [List.findIdx?_cons, hq]
      simp only [Bool.false_eq_true, if_false, Option.map_map]
      cases List.findIdx? (fun e => keq k e.key) l with
      | none => rfl
      | some n => simp [Nat.add_assoc, Nat.add_comm 1 j]

theorem MR.keys : ∀ {es : List (Value × Value)} {l : List MapEntry}, MR i es l → l.map (·.key) = es.map (·.1)
  | _, _, .nil => rfl
  | _, _, .cons h _ h' => by simp [h, h'.keys]

theorem findM_spec {kt : TypeId} {k : Value} : ∀ {es : List (Value × Value)} {l : List MapEntry} {r : Option Value}, MR i es l → findM E kt k es = some r →
    (∀ p ∈ es.head?, KK k p.1) ∧ (r = none → ∀ e ∈ l, keq k e.key = false) ∧ (∀ v, r = some v → ∃ e ∈ l, keq k e.key = true ∧ VR i v e.val)
  | _, _, r, .nil, h => by
    simp only [findM, Option.some.injEq] at h
    subst h
    exact ⟨by simp, by simp, by simp⟩
  | (a, v) :: es, e :: l, r, .cons hk hv h', h => by
    simp only [findM] at h
    split at h
    · cases h
    · rename_i hq
      cases h
      obtain ⟨h1, h2⟩ := keyEq_spec hq
      refine ⟨by simpa using h1, by simp, fun u hu => ?_⟩
      cases hu
      exact ⟨e, by simp, by rw [hk]; exact h2.symm, hv⟩
    · rename_i hq
      obtain ⟨h1, h2⟩ := keyEq_spec hq
      obtain ⟨g1, g2, g3⟩ := findM_spec h' h
      refine ⟨by simpa using h1, fun hr x hx => ?_, fun u hu => ?_⟩
      · rcases List.mem_cons.1 hx with rfl | hx
        · rw [hk]; exact h2.symm
        · exact g2 hr x hx
      · obtain ⟨x, hx, hx2⟩ := g3 u hu
        exact ⟨x, by simp [hx], hx2⟩

/-- All keys of a list that are unlike each other, pairwise, are of one kind. -/
theorem allKK {es : List (Value × Value)} {k : Value} (hp : es.Pairwise (fun a b => KD a.1 b.1)) (h : ∀ p ∈ es.head?, KK k p.1) : ∀ p ∈ es, KK k p.1 := by
  cases es with
  | nil => simp
  | cons p es =>
    have h0 : KK k p.1 := h p (by simp)
    intro q hq
    rcases List.mem_cons.1 hq with rfl | hq
    · exact h0
    · exact KK_trans h0 (KD_KK (List.rel_of_pairwise_cons hp hq))

theorem mem_key {es : List (Value × Value)} {l : List MapEntry} (h : MR i es l) {k : Value} (hall : ∀ p ∈ es, KK k p.1) : ∀ e ∈ l, KK k e.key := by
  intro e he
  have : e.key ∈ l.map (·.key) := List.mem_map.2 ⟨e, he, rfl⟩
  rw [h.keys] at this
  obtain ⟨p, hp, hpe⟩ := List.mem_map.1 this
  rw [← hpe]
  exact hall p hp

/-- In a list whose keys are unlike, one entry alone has a key. -/
theorem uniq {l : List MapEntry} (hp : l.Pairwise (fun a b => KD a.key b.key)) {k : Value} {a b : MapEntry} (ha : a ∈ l) (hb : b ∈ l) (hka : keq k a.key = true) (hkb : keq k b.key = true) : a = b := by
  induction l with
  | nil => cases ha
  | cons x l ih =>
    rw [List.pairwise_cons] at hp
    have ea := keq_eq hka
    have eb := keq_eq hkb
    rcases List.mem_cons.1 ha with rfl | ha' <;> rcases List.mem_cons.1 hb with rfl | hb'
    · rfl
    · have := KD_ne (hp.1 b hb'); rw [← ea, ← eb] at this; rw [← eb, this] at hkb; cases hkb
    · have := KD_ne (KD_symm (hp.1 a ha')); rw [← ea, ← eb] at this; rw [← eb, this] at hkb; cases hkb
    · exact ih hp.2 ha' hb'

theorem MR.pair {es : List (Value × Value)} {l : List MapEntry} (h : MR i es l) (hp : es.Pairwise (fun a b => KD a.1 b.1)) : l.Pairwise (fun a b => KD a.key b.key) := by
  have h1 : (es.map (·.1)).Pairwise KD := List.pairwise_map.2 hp
  rw [← h.keys] at h1
  exact List.pairwise_map.1 h1

/-- A map's look-up, told by what the machine's map says. -/
theorem find_sim (hT : TyOk E) {kt : TypeId} {ki : TI} (hki : E.ty.get kt = some ki) {k : Value} (hk : keyOk ki k = true) {es : List (Value × Value)} {es' : Array MapEntry} {l : List MapEntry} (hl : l.Perm es'.toList) (hm : MR i es l)
    (hp : es.Pairwise (fun a b => KD a.1 b.1)) {r : Option Value} (h : findM E kt k es = some r) :
    ∃ r' : Option (Nat × Value), (Instr.findKey kt k es'.toList).run E.P w = .ok r' w ∧ (r = none → r' = none ∧ ∀ e ∈ es'.toList, keq k e.key = false) ∧
      (∀ v, r = some v → ∃ n v' e, r' = some (n, v') ∧ es'.toList[n]? = some e ∧ keq k e.key = true ∧ e.val = v' ∧ VR i v v') := by
  obtain ⟨h1, h2, h3⟩ := findM_spec hm h
  have hall := mem_key hm (allKK hp h1)
  have hall' : ∀ e ∈ es'.toList, KK k e.key := fun e he => hall e (hl.mem_iff.2 he)
  have hd := run_und hT hki w
  refine ⟨(es'.toList.findIdx? fun e => keq k e.key).map fun n => (n + 0, ((es'.toList[n]?).map (·.val)).getD undef), ?_, ?_, ?_⟩
  · unfold Instr.findKey
    simp only [Sem.run_bind, hd, Result.andThen_ok, findNow_spec rfl hk _ 0 hall']
    rfl
  · intro hr
    have : ∀ e ∈ es'.toList, keq k e.key = false := fun e he => h2 hr e (hl.mem_iff.2 he)
    refine ⟨?_, this⟩
    rw [List.findIdx?_eq_none_iff.2 (by simpa using this)]
    rfl
  · intro v hv
    obtain ⟨e, he, hke, hve⟩ := h3 v hv
    have he' : e ∈ es'.toList := hl.mem_iff.1 he
    cases hf : es'.toList.findIdx? fun e => keq k e.key with
    | none =>
      have := List.findIdx?_eq_none_iff.1 hf e he'
      rw [hke] at this
      cases this
    | some n =>
      obtain ⟨hn, hkn, _⟩ := List.findIdx?_eq_some_iff_getElem.1 hf
      have hmem : es'.toList[n] ∈ l := hl.mem_iff.2 (List.getElem_mem hn)
      have hu := uniq (hm.pair hp) he hmem hke hkn
      have hn' : es'.toList[n]? = some es'.toList[n] := List.getElem?_eq_getElem hn
      refine ⟨n, es'.toList[n].val, es'.toList[n], ?_, hn', hkn, rfl, by rw [← hu]; exact hve⟩
      rw [Option.map_some, hn']
      rfl

theorem getMap {q : Nat} {es' : Array MapEntry} {clk : Nat} (h : w.heap[q]? = some (.map es' clk)) (P : Program) : (getObj q).run P w = .ok (.map es' clk) w := by simp [getObj, Sem.run, h]
theorem setMap {q : Nat} {es' : Array MapEntry} {clk : Nat} (h : w.heap[q]? = some (.map es' clk)) (P : Program) (o : Obj) : (setObj q o).run P w = .ok () (setB w q o) := by simp [setObj, Sem.run, h, setB]

theorem checkKey_ok (hT : TyOk E) {kt : TypeId} {ki : TI} (hki : E.ty.get kt = some ki) {k : Value} (hk : keyOk ki k = true) (b : Bool) (n : Nat) : (Instr.checkKey b (n + 1) kt k).run E.P w = .ok () w := by
  have hd := run_und hT hki w
  rw [Instr.checkKey]
  simp only [Sem.run_bind, hd, Result.andThen_ok]
  unfold keyOk at hk
  split at hk
  · rename_i hdesc; rw [hdesc]; rfl
  · rename_i hdesc; rw [hdesc]; rfl
  · rename_i hdesc; rw [hdesc]; rfl
  · cases hk

theorem keyOk_eq {ki : TI} {k k' : Value} (hk : keyOk ki k = true) (h : VR i k k') : k' = k := by
  unfold keyOk at hk
  split at hk <;> first | (cases hk; done) | (cases h; rfl)

theorem hLookup_sim (hT : TyOk E) (t : TypeId) (x y : Operand) (ok : Bool) {tm : Tm} {ρ : Operand → Value} (hR : Rel i s w) (hρ : TR i tm ρ) {v : Value} {s' : AS} (h : hLookup t x y ok E tm s = some (v, s')) :
    Sim E i s w (Instr.lookup t (ρ x) (ρ y) ok) v s' := by
  unfold hLookup at h
  split at h
  · rename_i ti m k ht hm hk
    have hcm := hρ x _ hm
    generalize hgm : ρ x = m' at hcm
    have hck := hρ y _ hk
    have hd := run_und hT ht w
    split at h
    · rename_i kt et hdesc
      split at h
      · rename_i ki ei hki hei
        cases hko : keyOk ki k with
        | false => rw [hko] at h; cases h
        | true =>
          rw [hko, cond_true] at h
          rw [keyOk_eq hko hck]
          obtain ⟨zv, hz1, hz2, hz3, hz4, hz5, _⟩ := run_zero hT hei w
          have hzv : (bif isAggD ei.desc then Value.agg ⟨ei.zero⟩ else ei.zero.headD (.tuple #[])) = zv := by
            cases ha : isAggD ei.desc with
            | true => rw [cond_true]; exact (hz4 ha).symm
            | false => rw [cond_false, hz5 ha]; rfl
          split at h
          · cases h
          · rename_i o ho
            cases h
            suffices hs : ∃ v', VR i (o.getD zv) v' ∧ (Instr.lookup t m' k ok).run E.P w = .ok (if ok then .tuple #[v', .bool o.isSome] else v') w by
              obtain ⟨v', h1, h2⟩ := hs
              refine Sim.ofPure hR h2 ?_
              rw [hzv]
              cases ok with
              | true => exact .tuple (.cons h1 (.cons (.bool _) .nil))
              | false => exact h1
            cases hcm with
            | nilm =>
              cases ho
              refine ⟨zv, hz3 i, ?_⟩
              unfold Instr.lookup
              simp only [Sem.run_bind, hd, hdesc, Result.andThen_ok, Sem.run_pure, checkKey_ok hT hki hko]
              have hf : (Instr.findKey kt k (#[] : Array MapEntry).toList).run E.P w = .ok none w := by
                unfold Instr.findKey
                simp only [Sem.run_bind, run_und hT hki, Result.andThen_ok]
                rfl
              simp only [hf, Result.andThen_ok, Sem.run_bind, hz1, Sem.run_pure]
              cases ok <;> rfl
            | @map b q hib =>
              simp only at ho
              split at ho
              · rename_i es hes
                obtain ⟨_, es', clk, l, hw1, hw2, hw3, hw4⟩ := hR.at (P := E.P) hes rfl hib
                obtain ⟨r', g1, g2, g3⟩ := find_sim (w := w) hT hki hko hw2 hw3 hw4 ho
                cases o with
                | none =>
                  obtain ⟨e1, _⟩ := g2 rfl
                  subst e1
                  refine ⟨zv, hz3 i, ?_⟩
                  unfold Instr.lookup
                  simp only [Sem.run_bind, hd, hdesc, Result.andThen_ok, getMap hw1, Sem.run_pure, checkKey_ok hT hki hko, g1, hz1]
                  cases ok <;> rfl
                | some u =>
                  obtain ⟨n, v', e, e1, _, _, _, e5⟩ := g3 u rfl
                  subst e1
                  refine ⟨v', e5, ?_⟩
                  unfold Instr.lookup
                  simp only [Sem.run_bind, hd, hdesc, Result.andThen_ok, getMap hw1, Sem.run_pure, checkKey_ok hT hki hko, g1]
                  cases ok <;> rfl
              · cases ho
      · cases h
    · cases h
  · cases h

end
end Go.Ax
