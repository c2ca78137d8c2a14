/- Regions that draw their order: the walk through any order. -/
import Derived.Test.YtmfdkldjinlmnaaGreatDoorAxPend
set_option linter.unusedVariables false
set_option linter.unusedSimpArgs false
namespace Go.Ax
open Go

section
variable {dl : List Deferred} {E : Env} {call : CallF} {N : Nat}

theorem slots_mem : ∀ {l : List Operand} {d : Tmp}, Operand.tmp d ∈ l → d ∈ slotsOf l
  | x :: l, d, h => by
    rcases List.mem_cons.1 h with h | h
    · subst h; simp [slotsOf]
    · have := slots_mem h
      cases x <;> simp [slotsOf, this]

def Lof (a : Array Bool) : Nat → Bool := fun j => a.getD j false

/-- What a read comes to at any time that the order may let it come. -/
def ReadsOk (E : Env) (call : CallF) (ops : List Oper) (base : Nat) (nw : News) (tr : List Ent) (s : AS) : Prop :=
  ∀ (L : Nat → Bool) (p : Nat) (o : Oper) (e : Ent), Closed ops L → L p = false → (∀ x ∈ o.after.toList.filter bindsE, L x.on = true) → ops[p]? = some o → tr[p]? = some e → eff E.ty o.op = false → isNew o.op = false → e.run = true →
    execA o.op E call e.tm (laid base ((ancs ops []).getD p 0) nw (curS E.ty L 0 ops tr s)) = some (e.v, laid base ((ancs ops []).getD p 0) nw (curS E.ty L 0 ops tr s))

structure Inv (dl : List Deferred) (E : Env) (N : Nat) (ops : List Oper) (tr : List Ent) (base : Nat) (nw : News) (tm : Tm) (s : AS) (i0 : Io) (s0 : AS) (w0 : World) (L : Nat → Bool) (a : Act) (w : World) : Prop where
  ex : ∃ (i : Io) (t : Tm), (∀ d, t.get d = curT L d 0 ops tr (tm.get d)) ∧ AR dl i t N a ∧ Rel i (curS E.ty L 0 ops tr s) w ∧ Fr i0 s0 w0 i (curS E.ty L 0 ops tr s) w ∧ Gl i ∧
    (∀ x ∈ nw, L x.1 = true → (curS E.ty L 0 ops tr s).h.get (base + x.1) = none → Pend i (curS E.ty L 0 ops tr s) w (base + x.1) x.2) ∧
    (∀ (p : Nat) (o : Oper), ops[p]? = some o → isNew o.op = true → L p = false → i (base + p) = none ∧ (curS E.ty L 0 ops tr s).h.get (base + p) = none) ∧ (∀ (p : Nat) (o : Oper), ops[p]? = some o → isNew o.op = true → base + p < (curS E.ty L 0 ops tr s).nx)
  closed : Closed ops L

/-- How many are not yet listed. -/
def rest (n : Nat) (L : Nat → Bool) : Nat := (List.range n).countP fun j => !L j

theorem rest_lt {n p : Nat} {L : Nat → Bool} (hp : p < n) (h : L p = false) : rest n (fun j => L j || j == p) < rest n L := by
  unfold rest
  induction n with
  | zero => omega
  | succ n ih =>
    rw [List.range_succ, List.countP_append, List.countP_append]
    by_cases e : p = n
    · subst e
      have h1 : (List.range p).countP (fun j => !(L j || j == p)) = (List.range p).countP (fun j => !L j) := by
        apply List.countP_congr
        intro x hx
        have : x ≠ p := by have := List.mem_range.1 hx; omega
        simp [this]
      rw [h1]
      simp [h]
    · have h0 : (List.range n).countP (fun j => !(L j || j == p)) < (List.range n).countP (fun j => !L j) := ih (by omega)
      have h2 : List.countP (fun j => !(L j || j == p)) [n] ≤ List.countP (fun j => !L j) [n] := by
        have : (n == p) = false := by simpa using fun h => e h.symm
        simp [this]
      exact Nat.add_lt_add_of_lt_of_le h0 h2

theorem testBit_all {n k : Nat} (h : k < n) : (allBits n).testBit k = true := by
  unfold allBits
  rw [Nat.testBit_two_pow_sub_one]
  simpa using h

theorem draw_any (hT : TyOk E) (hC : CallOk E.P call) {ops : Array Oper} {tm tm' : Tm} {s s' : AS} {tr : List Ent} {base : Nat} {nw : News}
    (hl : Lex E call N ops.toList (ancs ops.toList []) base 0 ops.toList tm s [] tr tm' s' nw) (hok : regOk E.ty ops.toList = true) (hrd : ReadsOk E call ops.toList base nw tr s)
    {i0 : Io} {s0 : AS} {w0 : World} (hb0 : s0.nx = base) (hbase : 1000 ≤ base) (hdom : ∀ b x, i0 b = some x → b < s0.nx) (hget0 : ∀ b, s0.nx ≤ b → s0.h.get b = none) {Q : Exit → Act → World → Prop} (hK : Then dl i0 s0 w0 tm' (laid base (allBits ops.toList.length) nw s') N (Q .normal)) :
    ∀ (fuel : Nat) (listed : Array Bool) (a : Act) (w : World), listed.size = ops.size → rest ops.size (Lof listed) ≤ fuel → Inv dl E N ops.toList tr base nw tm s i0 s0 w0 (Lof listed) a w → wpAny E.P .any ops Q fuel listed a w := by
  have hE := regOk_edges hok
  obtain ⟨nr, hnr, hnp, hnf⟩ := hl.news
  rw [List.nil_append] at hnr
  subst hnr
  have hlt : ∀ {j : Nat} {o : Oper}, ops.toList[j]? = some o → j < ops.size := by
    intro j o h
    rcases Nat.lt_or_ge j ops.toList.length with h' | h'
    · simpa using h'
    · rw [List.getElem?_eq_none h'] at h; cases h
  have hnwlt : ∀ x ∈ nw, x.1 < ops.toList.length := by
    intro x hx
    obtain ⟨_, o, e, h1, _⟩ := hnf x hx
    have := hlt h1
    simpa using this
  have hs0 : ∀ b, s0.h.get b ≠ none → b < base := fun b h => by
    rcases Nat.lt_or_ge b base with h' | h'
    · exact h'
    · exact absurd (hget0 b (by omega)) h
  -- all listed: the end
  have hend : ∀ (listed : Array Bool) (a : Act) (w : World), listed.size = ops.size → Region.ready .any ops listed = [] → Inv dl E N ops.toList tr base nw tm s i0 s0 w0 (Lof listed) a w → Q .normal a w := by
    intro listed a w hsz hr hI
    have hall : ∀ j, j < ops.size → Lof listed j = true := by
      intro j
      induction j using Nat.strongRecOn with
      | _ j ih =>
        intro hj
        cases hL : Lof listed j with
        | true => rfl
        | false =>
          exfalso
          have ho : ops[j]? = some ops[j] := Array.getElem?_eq_getElem hj
          have : j ∈ Region.ready .any ops listed := by
            unfold Region.ready
            rw [List.mem_filter]
            refine ⟨List.mem_range.2 hj, ?_⟩
            have h1 : listed.getD j true = false := by
              have : listed.getD j false = false := hL
              rw [Array.getD_eq_getD_getElem?, Array.getElem?_eq_getElem (by omega)] at this ⊢
              exact this
            rw [h1, ho]
            simp only [Bool.not_false, Bool.true_and, Option.map_some, Option.getD_some]
            rw [← Array.all_toList, List.all_eq_true]
            intro e he
            rw [binds_any]
            cases hbe : bindsE e with
            | false => rfl
            | true =>
              have g1 := hE j ops[j] (by rw [Array.getElem?_toList]; exact ho) e (List.mem_filter.2 ⟨he, hbe⟩)
              have := ih e.on g1 (by omega)
              unfold Lof at this
              rw [this]
              simp
          rw [hr] at this
          cases this
    obtain ⟨i, t, h1, h2, h3, h4, h5, h6, h7, h8⟩ := hI.ex
    have hs := hl.sEnd (j := 0) (L := Lof listed) (fun k hk => by simpa using hall k (by simpa using hk))
    rw [← hs] at h3 h4 h6
    have hlaid := h3.laid hbase (bits := allBits ops.toList.length) hnp (fun x hx _ hg => h6 x hx (hall _ (by simpa using hnwlt x hx)) hg)
    refine hK i w a hlaid (h4.swap (laid_nx _ _ _ _).symm (fun b hb => laid_other _ _ _ _ _ (fun x _ _ => by omega)) hdom (fun b hb => ?_)) ⟨?_, h2.size, h2.defers⟩
    · have := h4.stay b hb
      cases hg : s'.h.get b with
      | none => exact absurd hg this
      | some o => rw [laid_keeps _ _ _ _ _ _ hg]; simp
    · intro k v e
      have ht := hl.tmEnd k (j := 0) (L := Lof listed) (fun k hk => by simpa using hall k (by simpa using hk))
      refine h2.tm k v ?_
      rw [h1 k, ← ht]
      exact e
  intro fuel
  induction fuel with
  | zero =>
    intro listed a w hsz hrest hI
    have hnil : Region.ready .any ops listed = [] := by
      rw [List.eq_nil_iff_forall_not_mem]
      intro j hj
      unfold Region.ready at hj
      rw [List.mem_filter] at hj
      obtain ⟨hj1, hj2⟩ := hj
      have hj1 := List.mem_range.1 hj1
      simp only [Bool.and_eq_true, Bool.not_eq_true'] at hj2
      have h0 : (List.range ops.size).countP (fun j => !Lof listed j) = 0 := Nat.le_zero.1 hrest
      rw [List.countP_eq_zero] at h0
      have := h0 j (List.mem_range.2 hj1)
      have h2 : Lof listed j = false := by
        have := hj2.1
        unfold Lof
        rw [Array.getD_eq_getD_getElem?, Array.getElem?_eq_getElem (by omega)] at this ⊢
        exact this
      rw [h2] at this
      simp at this
    exact ⟨hnil, hend listed a w hsz hnil hI⟩
  | succ fuel ih =>
    intro listed a w hsz hrest hI
    refine ⟨fun hr => hend listed a w hsz hr hI, fun p hp => ?_⟩
    unfold Region.ready at hp
    rw [List.mem_filter] at hp
    obtain ⟨hp1, hp2⟩ := hp
    have hpn := List.mem_range.1 hp1
    have ho : ops[p]? = some ops[p] := Array.getElem?_eq_getElem hpn
    generalize ops[p] = o at ho
    have hoL : ops.toList[p]? = some o := by rw [Array.getElem?_toList]; exact ho
    simp only [Bool.and_eq_true, Bool.not_eq_true', ho, Option.map_some, Option.getD_some] at hp2
    have hLp : Lof listed p = false := by
      have := hp2.1
      unfold Lof
      rw [Array.getD_eq_getD_getElem?, Array.getElem?_eq_getElem (by omega)] at this ⊢
      exact this
    have hready : ∀ e ∈ o.after.toList.filter bindsE, Lof listed e.on = true := by
      have := hp2.2
      rw [← Array.all_toList, List.all_eq_true] at this
      intro e he
      rw [List.mem_filter] at he
      have h1 := this e he.1
      rw [binds_any, he.2] at h1
      simpa [Lof] using h1
    have hcl := hI.closed
    -- the next set
    have hL' : Lof (listed.setIfInBounds p true) = fun j => Lof listed j || j == p := by
      funext j
      unfold Lof
      rw [Array.getD_eq_getD_getElem?, Array.getElem?_setIfInBounds]
      by_cases e : p = j
      · subst e
        rw [if_pos rfl, if_pos (by omega)]
        simp
      · rw [if_neg e, ← Array.getD_eq_getD_getElem?]
        have : (j == p) = false := by simpa using fun h => e h.symm
        simp [this]
    have hcl' : Closed ops.toList (fun j => Lof listed j || j == p) := by
      intro j o' ho' hj e he
      simp only [Bool.or_eq_true, beq_iff_eq] at hj ⊢
      rcases hj with hj | hj
      · exact .inl (hcl j o' ho' hj e he)
      · subst hj
        rw [hoL] at ho'
        cases ho'
        exact .inl (hready e he)
    obtain ⟨e, hte, hwant, hskip, hnew, hrun, ⟨tm1, hput⟩, hstill⟩ := hl.ent hoL
    rw [Nat.zero_add] at hnew hrun
    -- what the slots say
    have hslot : ∀ d, (d ∈ looks ops.toList o) → ∀ (k : Nat) (o' : Oper), ops.toList[k]? = some o' → o'.dst = some d → Lof listed k = decide (k < p) := by
      intro d hd k o' hk hdk
      rcases Nat.lt_trichotomy k p with h | h | h
      · have := (regOk_pair hok hk hoL h).2.1 d hdk (.inl hd)
        rw [ready_anc hE hcl hoL hready this]
        simp [h]
      · subst h
        rw [hLp]
        simp
      · have := (regOk_pair hok hoL hk h).2.2 d hdk hd
        cases hLk : Lof listed k with
        | true => rw [closed_anc hE hcl k o' hk hLk this] at hLp; cases hLp
        | false => simp; omega
    have hlater : ∀ d, o.dst = some d → ∀ (k : Nat) (o' : Oper), p < k → ops.toList[k]? = some o' → o'.dst = some d → Lof listed k = false := by
      intro d hd k o' hpk hk hdk
      have := (regOk_pair hok hoL hk hpk).2.1 d hd (.inr hdk)
      cases hLk : Lof listed k with
      | true => rw [closed_anc hE hcl k o' hk hLk this] at hLp; cases hLp
      | false => rfl
    have heff : eff E.ty o.op = true → ∀ (k : Nat) (o' : Oper), ops.toList[k]? = some o' → eff E.ty o'.op = true → Lof listed k = decide (k < p) := by
      intro he k o' hk hek
      rcases Nat.lt_trichotomy k p with h | h | h
      · have := (regOk_pair hok hk hoL h).1 hek he
        rw [ready_anc hE hcl hoL hready this]
        simp [h]
      · subst h
        rw [hLp]
        simp
      · have := (regOk_pair hok hoL hk h).1 he hek
        cases hLk : Lof listed k with
        | true => rw [closed_anc hE hcl k o' hk hLk this] at hLp; cases hLp
        | false => simp; omega
    obtain ⟨i, t, h1, h2, h3, h4, h5, h6, h7, h8⟩ := hI.ex
    have hget : ∀ d, d ∈ looks ops.toList o → t.get d = e.tm.get d := by
      intro d hd
      rw [h1 d, hl.tmAt d (j := 0) hte]
      exact curT_congr (fun k o' hk hdk => by simpa using hslot d hd k o' hk hdk)
    have hev : ∀ x ∈ o.op.operands, ev t x = ev e.tm x := by
      intro x hx
      cases x with
      | tmp d => exact hget d (by unfold looks; exact List.mem_append_left _ (slots_mem (Array.mem_toList_iff.2 hx)))
      | _ => rfl
    have hwant' : wantedA ops.toList t o = some e.run := by
      rw [← hwant]
      unfold wantedA
      split
      · rfl
      · rename_i j want hg
        split
        · rename_i o' ho'
          split
          · rename_i d hd
            rw [hget d (by unfold looks; rw [hg]; simp only [ho']; exact List.mem_append_right _ (by simp [hd]))]
          · rfl
        · rfl
    -- the slots and the state of the next set
    have hput' : ∃ t1, putA N t o.dst e.v = some t1 ∧ ∀ d, t1.get d = curT (fun j => Lof listed j || j == p) d 0 ops.toList tr (tm.get d) := by
      have hp1 : ∃ t1, putA N t o.dst e.v = some t1 := by
        cases hd : o.dst with
        | none => exact ⟨t, rfl⟩
        | some d =>
          rw [hd] at hput
          unfold putA at hput ⊢
          simp only at hput ⊢
          cases hb : Nat.ble d N with
          | true => exact ⟨_, rfl⟩
          | false => rw [hb] at hput; cases hput
      obtain ⟨t1, ht1⟩ := hp1
      refine ⟨t1, ht1, fun d => ?_⟩
      rw [putA_get ht1]
      by_cases hd : o.dst = some d
      · rw [if_pos hd]
        symm
        refine curT_last hoL hte hd (by simp) (fun k o' hk hko hdk => ?_)
        have := hlater d hd k o' hk hko hdk
        simp only [Nat.zero_add, this, Bool.false_or]
        simp
        omega
      · rw [if_neg hd, h1 d]
        refine curT_congr (fun k o' hk hdk => ?_)
        have : k ≠ p := fun h => by subst h; rw [hoL] at hk; cases hk; exact hd hdk
        simp [this]
    have hsE : eff E.ty o.op = true → curS E.ty (Lof listed) 0 ops.toList tr s = e.s := by
      intro he
      rw [hl.sAt (j := 0) hte]
      exact curS_congr (fun k o' hk hek => by simpa using heff he k o' hk hek)
    have hsN : curS E.ty (fun j => Lof listed j || j == p) 0 ops.toList tr s = if eff E.ty o.op = true then e.s' else curS E.ty (Lof listed) 0 ops.toList tr s := by
      cases he : eff E.ty o.op with
      | true =>
        rw [if_pos rfl]
        refine curS_last hoL hte he (by simp) (fun k o' hk hko hek => ?_)
        have := heff he k o' hko hek
        simp only [Nat.zero_add, this]
        simp
        omega
      | false =>
        rw [if_neg (by simp)]
        refine curS_congr (fun k o' hk hek => ?_)
        have : k ≠ p := fun h => by subst h; rw [hoL] at hk; cases hk; rw [he] at hek; cases hek
        simp [this]
    obtain ⟨t1, ht1, hcur⟩ := hput'
    -- the state as it is, and as it will be
    generalize hS : curS E.ty (Lof listed) 0 ops.toList tr s = S at h3 h4 h6 h7 h8 hsE hsN
    generalize hS' : curS E.ty (fun j => Lof listed j || j == p) 0 ops.toList tr s = S' at hsN
    have hnext : ∀ (i1 : Io) (w1 : World) (v' : Value), Le i i1 → VR i1 e.v v' → Rel i1 S' w1 → Fr i0 s0 w0 i1 S' w1 →
        (∀ x ∈ nw, (Lof listed x.1 || x.1 == p) = true → S'.h.get (base + x.1) = none → Pend i1 S' w1 (base + x.1) x.2) →
        (∀ (q : Nat) (o' : Oper), ops.toList[q]? = some o' → isNew o'.op = true → Lof listed q = false → q ≠ p → i1 (base + q) = none ∧ S'.h.get (base + q) = none) → (∀ (q : Nat) (o' : Oper), ops.toList[q]? = some o' → isNew o'.op = true → base + q < S'.nx) →
        wpAny E.P .any ops Q fuel (listed.setIfInBounds p true) (a.put o.dst v') w1 := by
      intro i1 w1 v' hle hv hR hF hpd hun hnx
      refine ih _ _ _ (by simp [hsz]) ?_ ?_
      · rw [hL']
        have := rest_lt hpn hLp
        omega
      · rw [hL']
        refine ⟨⟨i1, t1, hcur, (h2.mono hle).put hv ht1, by rw [hS']; exact hR, by rw [hS']; exact hF, h5.mono hle, by rw [hS']; exact hpd, ?_, by rw [hS']; exact hnx⟩, hcl'⟩
        intro q o' hq hnq hLq
        rw [hS']
        have : Lof listed q = false ∧ q ≠ p := by
          constructor
          · cases hh : Lof listed q with
            | false => rfl
            | true => rw [hh] at hLq; cases hLq
          · intro e1; subst e1; simp at hLq
        exact hun q o' hq hnq this.1 this.2
    have hnotnew : (isNew o.op = true → e.run = false) → ∀ x ∈ nw, (Lof listed x.1 || x.1 == p) = true → Lof listed x.1 = true := by
      intro hnn x hx hLx
      rcases Bool.or_eq_true _ _ ▸ hLx with h | h
      · exact h
      · exfalso
        have hxp : x.1 = p := by simpa using h
        obtain ⟨_, o', e', k1, k2, k3, k4, _⟩ := hnf x hx
        rw [Nat.sub_zero, hxp] at k1 k2
        rw [hoL] at k1
        cases k1
        rw [hte] at k2
        cases k2
        rw [hnn k3] at k4
        cases k4
    unfold wpOp
    rw [ho]
    simp only
    cases hrn : e.run with
    | false =>
      rw [hrn] at hwant'
      rw [if_neg (by rw [wanted_eq h2.tm hwant']; simp)]
      obtain ⟨k1, k2⟩ := hskip hrn
      have hsame : S' = S := by
        rw [hsN]
        cases he : eff E.ty o.op with
        | true => rw [if_pos rfl, k2, hsE he]
        | false => rw [if_neg (by simp)]
      rw [hsame] at hnext
      exact hnext i w undef (.refl i) (by rw [k1]; exact .undef i) h3 h4 (fun x hx hLx hg => h6 x hx (hnotnew (fun _ => hrn) x hx hLx) hg) (fun q o' hq hnq hLq _ => h7 q o' hq hnq hLq) h8
    | true =>
      rw [hrn] at hwant'
      rw [if_pos (wanted_eq h2.tm hwant')]
      left
      cases hisn : isNew o.op with
      | true =>
        -- a new block
        have hne := new_noeff (ty := E.ty) hisn
        rw [hne, if_neg (by simp)] at hsN
        obtain ⟨hnA, hmem⟩ := hnew hrn hisn
        have hnA' : newA o.op E t (base + p) = some (e.v, e.x) := by
          unfold newA at hnA ⊢
          rw [opA_congr _ hev]
          exact hnA
        obtain ⟨m, hm, v', x, w1, g1, g2, g3, g4, g5, g6, g7, g8, g9⟩ := newA_sim (w := w) hT hisn (h2.tm.tr h5) hnA'
        obtain ⟨u1, u2⟩ := h7 p o hoL hisn hLp
        have hpl := h8 p o hoL hisn
        have hle : Le i (ext i (base + p) (w.heap.size, 0)) := ext_le u1
        obtain ⟨g10, g11⟩ := g9 _ hle (ext_same _ _ _)
        obtain ⟨R1, R2⟩ := h3.reserve (o := e.x) (w1 := w1) (x := x) hpl u1 u2 g2 g11 g7 g8 g6
        unfold Oper.wp
        rw [hm]
        simp only [Sem.run_bind, g1, Result.andThen_ok, Sem.run_pure]
        show wpAny E.P .any ops Q fuel (listed.setIfInBounds p true) (a.put o.dst v') w1
        rw [hsN] at hnext
        refine hnext _ w1 v' hle g10 R1 (h4.reserve (by omega) u1 g2 g3 g4 g5) (fun y hy hLy hg => ?_) (fun q o' hq hnq hLq hqp => ?_) h8
        · by_cases hyp : y.1 = p
          · obtain ⟨_, o', e', k1, k2, k3, k4, k5⟩ := hnf y hy
            rw [Nat.sub_zero, hyp] at k1 k2
            rw [hte] at k2
            cases k2
            rw [hyp, ← k5]
            exact R2
          · have hLy' : Lof listed y.1 = true := by
              rcases Bool.or_eq_true _ _ ▸ hLy with h | h
              · exact h
              · exact absurd (by simpa using h) hyp
            exact (h6 y hy hLy' hg).reserve u1 g2
        · obtain ⟨v1, v2⟩ := h7 q o' hq hnq hLq
          exact ⟨by rw [ext_ne (by omega)]; exact v1, v2⟩
      | false =>
        obtain ⟨nw1, s1', hx1, hx2, r, hr1, hr2⟩ := hrun hrn hisn
        have hanc : ∀ k, ((ancs ops.toList []).getD p 0).testBit k = true → Lof listed k = true := fun k hk => ready_anc hE hcl hoL hready hk
        have hS1R : Rel i (laid base ((ancs ops.toList []).getD p 0) nw S) w := h3.laid hbase hnp (fun x hx hb hg => h6 x hx (hanc _ hb) hg)
        have hS1F : Fr i0 s0 w0 i (laid base ((ancs ops.toList []).getD p 0) nw S) w := h4.swap (laid_nx _ _ _ _).symm (fun b hb => laid_other _ _ _ _ _ (fun x _ _ => by omega)) hdom (fun b hb => by
          have := h4.stay b hb
          cases hg : S.h.get b with
          | none => exact absurd hg this
          | some o => rw [laid_keeps _ _ _ _ _ _ hg]; simp)
        have hunex : ∀ (q : Nat) (o' : Oper), ops.toList[q]? = some o' → isNew o'.op = true → Lof listed q = false → (laid base ((ancs ops.toList []).getD p 0) nw S).h.get (base + q) = none := fun q o' hq hnq hLq => by
          rw [laid_other _ _ _ _ _ (fun x hx hb e1 => by
            have : q = x.1 := by omega
            subst this
            rw [hanc _ hb] at hLq
            cases hLq)]
          exact (h7 q o' hq hnq hLq).2
        have hnn : ∀ x ∈ nw, (Lof listed x.1 || x.1 == p) = true → Lof listed x.1 = true := hnotnew (fun h => by rw [hisn] at h; cases h)
        have hbnx : ∀ (q : Nat) (o' : Oper), ops.toList[q]? = some o' → isNew o'.op = true → base + q < (laid base ((ancs ops.toList []).getD p 0) nw S).nx := fun q o' hq hnq => by rw [laid_nx]; exact h8 q o' hq hnq
        cases he : eff E.ty o.op with
        | true =>
          rw [he, if_pos rfl] at hsN
          have hx : execA o.op E call t (laid base ((ancs ops.toList []).getD p 0) nw S) = some (e.v, S') := by
            rw [execA_congr hev, hsE he, hsN, hx2 he]
            rw [hr1, laid_append _ _ _ _ _ (fun x hx => ?_)]
            · exact hx1
            · cases hb : ((ancs ops.toList []).getD p 0).testBit x.1 with
              | false => rfl
              | true =>
                obtain ⟨e1, he1, h'⟩ := anc_step hoL (hE p o hoL) hb
                have l1 := hE p o hoL e1 he1
                have l2 := hr2 x hx
                have hlow : ∀ j : Nat, j ≤ p → ((ancs ops.toList []).getD j 0).testBit x.1 = true → x.1 < p := by
                  intro j
                  induction j using Nat.strongRecOn with
                  | _ j ihj =>
                    intro hjp hbj
                    have hjl : j < ops.toList.length := by have : p < ops.toList.length := by simpa using hpn
                                                           omega
                    obtain ⟨e2, he2, h2'⟩ := anc_step (List.getElem?_eq_getElem hjl) (hE j _ (List.getElem?_eq_getElem hjl)) hbj
                    have l3 := hE j _ (List.getElem?_eq_getElem hjl) e2 he2
                    rcases h2' with h2' | h2'
                    · omega
                    · exact ihj e2.on l3 (by omega) h2'
                have := hlow p (Nat.le_refl _) hb
                omega
          refine execA_wp hT hC o hS1R h5 (h2.tm.tr h5) hx (fun v' w' i' hv hR hF => ?_)
          refine hnext i' w' v' hF.le hv hR (hS1F.trans hF) (fun x hx hLx hg => ?_) (fun q o' hq hnq hLq hqp => ?_) (fun q o' hq hnq => ?_)
          · have hLx' := hnn x hx hLx
            have hg1 : (laid base ((ancs ops.toList []).getD p 0) nw S).h.get (base + x.1) = none := Classical.byContradiction fun h => hF.stay _ h hg
            have hg0 : S.h.get (base + x.1) = none := by
              cases hh : S.h.get (base + x.1) with
              | none => rfl
              | some y => rw [laid_keeps _ _ _ _ _ _ hh] at hg1; cases hg1
            refine (Pend.laid hbase (h6 x hx hLx' hg0) (fun y hy hb e1 => ?_)).step hF
            have hyx : y.1 = x.1 := by omega
            rw [hyx] at hb
            rw [laid_val _ _ _ _ hnp x hx hb hg0] at hg1
            cases hg1
          · exact ⟨hF.dom _ (hbnx q o' hq hnq) (h7 q o' hq hnq hLq).1, hF.gone _ (hbnx q o' hq hnq) (h7 q o' hq hnq hLq).1 (hunex q o' hq hnq hLq)⟩
          · exact Nat.lt_of_lt_of_le (hbnx q o' hq hnq) hF.nx
        | false =>
          rw [he, if_neg (by simp)] at hsN
          have hx : execA o.op E call t (laid base ((ancs ops.toList []).getD p 0) nw S) = some (e.v, laid base ((ancs ops.toList []).getD p 0) nw S) := by
            have := hrd (Lof listed) p o e hcl hLp hready hoL hte he hisn hrn
            rw [hS] at this
            rw [execA_congr hev]
            exact this
          refine execA_wp hT hC o hS1R h5 (h2.tm.tr h5) hx (fun v' w' i' hv hR hF => ?_)
          have hkeepS : ∀ b o, S.h.get b = some o → (laid base ((ancs ops.toList []).getD p 0) nw S).h.get b = some o := fun b o h => laid_keeps _ _ _ _ _ _ h
          rw [hsN] at hnext
          have hdomEq : ∀ b' x, i' b' = some x → i b' = some x := by
            intro b' x hx'
            have hb' : b' < (laid base ((ancs ops.toList []).getD p 0) nw S).nx := by
              rcases Nat.lt_or_ge b' (laid base ((ancs ops.toList []).getD p 0) nw S).nx with h | h
              · exact h
              · rw [(hR.fresh b' h).1] at hx'; cases hx'
            cases hi : i b' with
            | none => rw [hF.dom b' hb' hi] at hx'; cases hx'
            | some y => rw [← hx']; exact (hF.le _ _ hi).symm
          refine hnext i' w' v' hF.le hv (hR.less (laid_nx _ _ _ _).symm hkeepS) ((hS1F.trans hF).swap (laid_nx _ _ _ _) (fun b hb => (laid_other _ _ _ _ _ (fun x _ _ => by omega)).symm) hdom h4.stay) (fun x hx hLx hg => ?_) (fun q o' hq hnq hLq hqp => ⟨?_, (h7 q o' hq hnq hLq).2⟩) h8
          · have hP := h6 x hx (hnn x hx hLx) hg
            obtain ⟨q, q1, q2, q3, q4⟩ := hP.at_
            have hOR : OR i' x.2 w'.heap[q]? 0 := by
              cases hb : ((ancs ops.toList []).getD p 0).testBit x.1 with
              | true =>
                have hv1 := laid_val base _ nw S hnp x hx hb hg
                exact hR.at (P := E.P) hv1 hP.alive (hF.le _ _ q1)
              | false =>
                have hP1 := (Pend.laid (bits := (ancs ops.toList []).getD p 0) hbase hP (fun y hy hb' e1 => by
                  have hyx : y.1 = x.1 := by omega
                  rw [hyx, hb] at hb'
                  cases hb')).step hF
                obtain ⟨q', r1, r2, r3, r4⟩ := hP1.at_
                rw [hF.le _ _ q1] at r1
                cases r1
                exact r3
            exact ⟨hg, ⟨q, hF.le _ _ q1, Nat.lt_of_lt_of_le q2 hF.size, hOR, fun b' t e1 => q4 b' t (hdomEq b' _ e1)⟩, by rw [hF.le.lim _ _ q1]; exact hP.lim, hP.alive, hP.free, hP.unit⟩
          · exact hF.dom _ (hbnx q o' hq hnq) (h7 q o' hq hnq hLq).1

end
end Go.Ax
