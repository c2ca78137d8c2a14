/- Regions that draw their order: reads, and the whole. -/
import Derived.Test.YtmfdkldjinlmnaaGreatDoorAxDraw4
set_option linter.unusedVariables false
set_option linter.unusedSimpArgs false
namespace Go.Ax
open Go

theorem veq1_eq {a b : Value} (h : veq1 a b = true) : a = b := by
  unfold veq1 at h
  split at h <;> first
    | (cases h; done)
    | rfl
    | (simp only [Bool.and_eq_true, beq_iff_eq] at h; obtain ⟨⟨h1, h2⟩, h3⟩ := h; subst h1; subst h2; subst h3; rfl)
    | (simp only [Bool.and_eq_true, beq_iff_eq] at h; obtain ⟨h1, h2⟩ := h; subst h1; subst h2; rfl)
    | (simp only [beq_iff_eq] at h; subst h; rfl)
theorem veqs_eq : ∀ {a b : List Value}, veqs a b = true → a = b
  | [], [], _ => rfl
  | [], _ :: _, h => by cases h
  | _ :: _, [], h => by cases h
  | a :: l, b :: m, h => by
    simp only [veqs, Bool.and_eq_true] at h
    rw [veq1_eq h.1, veqs_eq h.2]
theorem veq_eq {a b : Value} (h : veq a b = true) : a = b := by
  unfold veq at h
  split at h
  · rename_i x y
    have := veqs_eq h
    rw [Array.toList_inj.1 this]
  · exact veq1_eq h

/-- How many of those that act are in L. -/
noncomputable def cnt (ty : T TI) (L : Nat → Bool) : Nat → List Oper → Nat
  | _, [] => 0
  | j, o :: l => (if (eff ty o.op && L j) = true then 1 else 0) + cnt ty L (j + 1) l

theorem cnt_filter (ty : T TI) (L : Nat → Bool) : ∀ (l : List Oper) (j : Nat), ((l.zipIdx j).filter fun (x : Oper × Nat) => eff ty x.1.op && L x.2).length = cnt ty L j l
  | [], j => rfl
  | o :: l, j => by
    rw [List.zipIdx_cons, List.filter_cons, cnt, ← cnt_filter ty L l (j + 1)]
    simp only
    cases eff ty o.op && L j with
    | true => simp; omega
    | false => simp

theorem cnt_mono {ty : T TI} {L L' : Nat → Bool} : ∀ {l : List Oper} {j : Nat}, (∀ (k : Nat) (o : Oper), l[k]? = some o → eff ty o.op = true → L (j + k) = true → L' (j + k) = true) → cnt ty L j l ≤ cnt ty L' j l
  | [], _, _ => Nat.le_refl _
  | o :: l, j, h => by
    simp only [cnt]
    have h1 := cnt_mono (ty := ty) (L := L) (L' := L') (l := l) (j := j + 1) (fun k o' hk he hL => by
      have := h (k + 1) o' (by simpa using hk) he (by rwa [show j + (k + 1) = j + 1 + k by omega])
      rwa [show j + (k + 1) = j + 1 + k by omega] at this)
    have h0 := h 0 o rfl
    simp only [Nat.add_zero] at h0
    cases he : eff ty o.op with
    | false => simp; exact h1
    | true =>
      cases hL : L j with
      | false => simp; omega
      | true => rw [h0 he hL]; simp; exact h1

theorem curS_nth {ty : T TI} {L : Nat → Bool} : ∀ {l : List Oper} {tr : List Ent} {j : Nat} {acc : AS}, l.length ≤ tr.length → (∀ (a b : Nat) (o p : Oper), a < b → l[a]? = some o → l[b]? = some p → eff ty o.op = true → eff ty p.op = true → L (j + b) = true → L (j + a) = true) →
    (acc :: effS ty l tr)[cnt ty L j l]? = some (curS ty L j l tr acc)
  | [], tr, j, acc, _, _ => by simp [cnt, curS]
  | _ :: _, [], _, _, h, _ => by simp at h
  | o :: l, e :: tr, j, acc, hlen, h => by
    have hlen' : l.length ≤ tr.length := by simpa using hlen
    have h' : ∀ (a b : Nat) (o p : Oper), a < b → l[a]? = some o → l[b]? = some p → eff ty o.op = true → eff ty p.op = true → L (j + 1 + b) = true → L (j + 1 + a) = true := by
      intro a b o1 p1 hab ha hb he1 he2 hL
      have := h (a + 1) (b + 1) o1 p1 (by omega) (by simpa using ha) (by simpa using hb) he1 he2 (by rwa [show j + (b + 1) = j + 1 + b by omega])
      rwa [show j + (a + 1) = j + 1 + a by omega] at this
    simp only [cnt, curS, effS]
    cases he : eff ty o.op with
    | false =>
      simp only [Bool.false_and, Bool.false_eq_true, if_false, and_false, Nat.zero_add]
      exact curS_nth hlen' h'
    | true =>
      cases hL : L j with
      | true =>
        simp only [Bool.true_and, if_true, and_self]
        rw [Nat.add_comm, List.getElem?_cons_succ]
        exact curS_nth hlen' h'
      | false =>
        have hno : ∀ (k : Nat) (o' : Oper), l[k]? = some o' → eff ty o'.op = true → L (j + 1 + k) = false := by
          intro k o' hk hek
          cases hLk : L (j + 1 + k) with
          | false => rfl
          | true =>
            have := h 0 (k + 1) o o' (by omega) rfl (by simpa using hk) he hek (by rwa [show j + (k + 1) = j + 1 + k by omega])
            simp only [Nat.add_zero] at this
            rw [hL] at this
            cases this
        have hc0 : cnt ty L (j + 1) l = 0 := by
          have := cnt_mono (ty := ty) (L := L) (L' := fun _ => false) (l := l) (j := j + 1) (fun k o' hk hek hLk => by rw [hno k o' hk hek] at hLk; cases hLk)
          have h2 : ∀ (l : List Oper) (j : Nat), cnt ty (fun _ => false) j l = 0 := by
            intro l
            induction l with
            | nil => intro j; rfl
            | cons x l ih => intro j; simp [cnt, ih]
          rw [h2] at this
          omega
        simp only [Bool.and_false, Bool.false_eq_true, if_false, false_and, hc0, Nat.add_zero, List.getElem?_cons_zero]
        rw [curS_none hno]

section
variable {dl : List Deferred} {E : Env} {call : CallF} {N : Nat}

theorem anc_lt {ops : List Oper} (hE : EdgesOk ops) {k : Nat} : ∀ (j : Nat), j < ops.length → ((ancs ops []).getD j 0).testBit k = true → k < j := by
  intro j
  induction j using Nat.strongRecOn with
  | _ j ih =>
    intro hj hb
    obtain ⟨e, he, h⟩ := anc_step (List.getElem?_eq_getElem hj) (hE j _ (List.getElem?_eq_getElem hj)) hb
    have hlt := hE j _ (List.getElem?_eq_getElem hj) e he
    rcases h with h | h
    · omega
    · have := ih e.on hlt (by omega) h
      omega

theorem drawOk (hm : E.P.follows .mixedOrders = true) (hT : TyOk E) (hC : CallOk E.P call) : DrawOk E call := by
  intro N ops tm tm' s s' h hok dl i w a Q id hR hg ha hK
  have hE := regOk_edges hok
  have hbase : 1000 ≤ s.nx := by
    rcases Nat.lt_or_ge s.nx 1000 with h | h
    · have := hg s.nx h
      rw [(hR.fresh _ (Nat.le_refl _)).1] at this
      cases this
    · exact h
  -- the start: numbers are kept
  have hstart : ∀ k, Rel i ⟨s.h, s.nx + k⟩ w ∧ Fr i s w i ⟨s.h, s.nx + k⟩ w := fun k =>
    ⟨⟨hR.obj, hR.inj, fun b hb => hR.fresh b (by have : s.nx + k ≤ b := hb; omega), hR.lim, hR.dom⟩,
      ⟨.refl i, fun _ _ _ h => .inl h, rfl, rfl, rfl, Nat.le_refl _, fun _ _ _ => rfl, fun _ _ _ _ => rfl, Nat.le_add_right _ _, fun _ _ h => h, fun _ _ _ h => h, fun _ h => h⟩⟩
  have hdom : ∀ b x, i b = some x → b < s.nx := by
    intro b x e
    rcases Nat.lt_or_ge b s.nx with h | h
    · exact h
    · rw [(hR.fresh b h).1] at e; cases e
  suffices hs : ∃ k tr nw s2, (∀ (p : Nat) (o : Oper), ops.toList[p]? = some o → isNew o.op = true → p < k) ∧ Lex E call N ops.toList (ancs ops.toList []) s.nx 0 ops.toList tm ⟨s.h, s.nx + k⟩ [] tr tm' s2 nw ∧ ReadsOk E call ops.toList s.nx nw tr ⟨s.h, s.nx + k⟩ ∧ (Then dl i s w tm' (laid s.nx (allBits ops.toList.length) nw s2) N (Q .normal)) by
    obtain ⟨k, tr, nw, s2, hkn, hl, hrd, hK2⟩ := hs
    obtain ⟨hR1, hF1⟩ := hstart k
    have hL0 : ∀ j, Lof (Array.replicate ops.size false) j = false := by
      intro j
      unfold Lof
      rw [Array.getD_eq_getD_getElem?, Array.getElem?_replicate]
      split <;> rfl
    refine wp_region_any hm (draw_any hT hC hl hok hrd (w0 := { w with drawn := w.drawn + 1 }) (i0 := i) (s0 := s) rfl hbase hdom (fun b hb => (hR.fresh b hb).2) (hK2.head (Fr.same rfl rfl rfl rfl)) _ _ _ _ (by simp) ?_ ⟨⟨i, tm, ?_, ha, ?_, ?_, hg, ?_, ?_, ?_⟩, ?_⟩)
    · unfold rest
      exact Nat.le_trans List.countP_le_length (by simp)
    · intro d
      rw [curT_none (fun k o _ _ => hL0 _)]
    · rw [curS_none (fun k o _ _ => hL0 _)]
      exact hR1.same rfl
    · rw [curS_none (fun k o _ _ => hL0 _)]
      exact ⟨hF1.le, hF1.new, rfl, rfl, rfl, Nat.le_refl _, fun _ _ _ => rfl, hF1.ro, hF1.nx, hF1.dom, hF1.gone, hF1.stay⟩
    · intro x _ hx
      rw [hL0] at hx
      cases hx
    · intro p o hp hn _
      rw [curS_none (fun k o _ _ => hL0 _)]
      exact hR.fresh (s.nx + p) (by omega)
    · intro p o hp hn
      rw [curS_none (fun k o _ _ => hL0 _)]
      have := hkn p o hp hn
      show s.nx + p < s.nx + k
      omega
    · intro j o _ hj
      rw [hL0] at hj
      cases hj
  unfold drawnA at h
  cases hany : (ops.toList.any fun o => eff E.ty o.op || isNew o.op) with
  | false =>
    rw [hany, cond_false] at h
    have hno : ∀ o ∈ ops.toList, eff E.ty o.op = false ∧ isNew o.op = false := by
      intro o ho
      have := List.any_eq_false.1 hany o ho
      simp only [Bool.not_eq_true, Bool.or_eq_false_iff] at this
      exact this
    obtain ⟨tr, hl⟩ := lex_of_runL (an := ancs ops.toList []) (base := s.nx) (i := 0) hno h
    refine ⟨0, tr, [], s', (fun p o hp hn => by rw [(hno o (List.mem_of_getElem? hp)).2] at hn; cases hn), hl, ?_, hK⟩
    intro L p o e hcl hLp hready ho hte he hn hrun
    have hs0 : ∀ (L : Nat → Bool), curS E.ty L 0 ops.toList tr s = s := fun L => curS_none (fun k o hk hek => by rw [(hno o (List.mem_of_getElem? hk)).1] at hek; cases hek)
    obtain ⟨e', hte', _, _, _, hx, _, _⟩ := hl.ent ho
    rw [hte] at hte'
    cases hte'
    obtain ⟨nw1, sx, hx1, _, r, hr1, hr2⟩ := hx hrun hn
    have hn1 : nw1 = [] := by
      cases nw1 with
      | nil => rfl
      | cons a l => cases hr1
    have hes : e.s = s := by rw [hl.sAt (j := 0) hte]; exact hs0 _
    subst hn1
    rw [laid_nil, hes] at hx1
    show execA o.op E call e.tm (laid s.nx _ [] (curS E.ty L 0 ops.toList tr s)) = some (e.v, laid s.nx _ [] (curS E.ty L 0 ops.toList tr s))
    rw [laid_nil, hs0]
    rw [execA_op he] at hx1 ⊢
    rw [opA_still he hn hx1] at hx1
    exact hx1
  | true =>
    rw [hany, cond_true, natK_eq] at h
    split at h
    · cases h
    · rename_i tm1 s2 ss rs nw hrunD
      cases hall : rs.all (readOk E ops.toList (ancs ops.toList []) s.nx ss) with
      | false => rw [hall] at h; cases h
      | true =>
        rw [hall, cond_true] at h
        cases h
        obtain ⟨tr, hl, hss, _, hrs⟩ := lex_of_runD hrunD
        refine ⟨ops.toList.length, tr, nw, s2, fun p o hp _ => (List.getElem?_eq_some_iff.1 hp).1, hl, ?_, hK⟩
        intro L p o e hcl hLp hready ho hte he hn hrun
        have hpn : p < ops.toList.length := by
          rcases Nat.lt_or_ge p ops.toList.length with h | h
          · exact h
          · rw [List.getElem?_eq_none h] at ho; cases ho
        obtain ⟨e', hte', _, _, _, hx, _, _⟩ := hl.ent ho
        rw [hte] at hte'
        cases hte'
        obtain ⟨nw1, sx, hx1, _, r, hr1, hr2⟩ := hx hrun hn
        rw [Nat.zero_add] at hx1 hr2
        rw [execA_op he] at hx1 ⊢
        cases hse : sees o.op with
        | false =>
          have := opA_blind he hn hse hx1 (laid s.nx ((ancs ops.toList []).getD p 0) nw (curS E.ty L 0 ops.toList tr ⟨s.h, s.nx + ops.toList.length⟩))
          exact this
        | true =>
          obtain ⟨nw2, hmem, r2, hr3, hr4⟩ := hrs p o e ho hte he hn hrun
          have hrd := List.all_eq_true.1 hall _ hmem
          unfold readOk at hrd
          simp only [hse, Bool.not_true, cond_false, List.all_eq_true, Nat.zero_add] at hrd hr4
          have hnth := curS_nth (ty := E.ty) (L := L) (l := ops.toList) (tr := tr) (j := 0) (acc := ⟨s.h, s.nx + ops.toList.length⟩) (by rw [hl.length]; exact Nat.le_refl _) (fun a b o1 p1 hab ha hb e1 e2 hLb => by
            simp only [Nat.zero_add] at hLb ⊢
            exact closed_anc hE hcl b p1 hb hLb ((regOk_pair hok ha hb hab).1 e1 e2))
          have hin : (curS E.ty L 0 ops.toList tr ⟨s.h, s.nx + ops.toList.length⟩, cnt E.ty L 0 ops.toList) ∈ ss.zipIdx := by
            rw [List.mem_zipIdx_iff_getElem?, hss]
            exact hnth
          have := hrd _ hin
          simp only at this
          have hlo : effIn E.ty ops.toList ((ancs ops.toList []).getD p 0) ≤ cnt E.ty L 0 ops.toList := by
            unfold effIn
            refine Nat.le_trans (Nat.le_of_eq (cnt_filter E.ty (fun j => ((ancs ops.toList []).getD p 0).testBit j) ops.toList 0)) ?_
            refine cnt_mono (fun k o' hk hek hb => ?_)
            simp only [Nat.zero_add] at hb ⊢
            exact ready_anc hE hcl ho hready hb
          have hhi : cnt E.ty L 0 ops.toList ≤ effNot E.ty ops.toList (ancs ops.toList []) p := by
            unfold effNot
            refine Nat.le_trans ?_ (Nat.le_of_eq (cnt_filter E.ty (fun j => !((ancs ops.toList []).getD j 0).testBit p) ops.toList 0).symm)
            refine cnt_mono (fun k o' hk hek hLk => ?_)
            simp only [Nat.zero_add] at hLk ⊢
            cases hb : ((ancs ops.toList []).getD k 0).testBit p with
            | false => rfl
            | true => rw [closed_anc hE hcl k o' hk hLk hb] at hLp; cases hLp
          rw [show (Nat.ble (effIn E.ty ops.toList ((ancs ops.toList []).getD p 0)) (cnt E.ty L 0 ops.toList) && Nat.ble (cnt E.ty L 0 ops.toList) (effNot E.ty ops.toList (ancs ops.toList []) p)) = true by
            rw [Bool.and_eq_true]; exact ⟨by simpa using hlo, by simpa using hhi⟩, cond_true] at this
          have hnw : laid s.nx ((ancs ops.toList []).getD p 0) nw2 (curS E.ty L 0 ops.toList tr ⟨s.h, s.nx + ops.toList.length⟩) = laid s.nx ((ancs ops.toList []).getD p 0) nw (curS E.ty L 0 ops.toList tr ⟨s.h, s.nx + ops.toList.length⟩) := by
            rw [hr3, laid_append _ _ _ _ _ (fun x hx => ?_)]
            cases hb : ((ancs ops.toList []).getD p 0).testBit x.1 with
            | false => rfl
            | true =>
              have := anc_lt hE p hpn hb
              have := hr4 x hx
              omega
          rw [hnw] at this
          split at this
          · rename_i v s3 hop
            rw [opA_still he hn hop] at hop
            rw [veq_eq this] at hop
            exact hop
          · cases this

/-- Calls of the machine are calls of the model. -/
theorem callA_sound (hm : E.P.follows .mixedOrders = true) (hT : TyOk E) (hB : BackOk E) (hF : FnOk E) (hP : PrimOk E) (F D : Nat) : CallOk E.P (callA E F D) :=
  callA_ok hT hB hF hP (fun _ hC => drawOk hm hT hC) F D

end
end Go.Ax
