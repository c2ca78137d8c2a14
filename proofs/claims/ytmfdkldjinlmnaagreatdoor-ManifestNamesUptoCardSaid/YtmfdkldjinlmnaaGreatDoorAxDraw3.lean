/- Regions that draw their order: any order comes to what the lexical one comes to. -/
import Derived.Test.YtmfdkldjinlmnaaGreatDoorAxDraw2
set_option linter.unusedVariables false
set_option linter.unusedSimpArgs false
namespace Go.Ax
open Go

/-! ### What must come ahead of what -/
theorem foldl_bits (f : Edge → Nat) (i : Nat) : ∀ (l : List Edge) (b : Nat), (l.foldl (fun b e => b ||| 2 ^ e.on ||| f e) b).testBit i = true → b.testBit i = true ∨ ∃ e ∈ l, e.on = i ∨ (f e).testBit i = true
  | [], b, h => .inl h
  | e :: l, b, h => by
    rcases foldl_bits f i l _ h with h | ⟨x, hx, h⟩
    · rw [Nat.testBit_or, Nat.testBit_or, Nat.testBit_two_pow] at h
      simp only [Bool.or_eq_true, decide_eq_true_eq] at h
      rcases h with (h | h) | h
      · exact .inl h
      · exact .inr ⟨e, by simp, .inl h⟩
      · exact .inr ⟨e, by simp, .inr h⟩
    · exact .inr ⟨x, by simp [hx], h⟩

theorem ancs_ext : ∀ (l : List Oper) (acc : List Nat), ∃ r, ancs l acc = acc ++ r
  | [], acc => ⟨[], by simp [ancs]⟩
  | o :: l, acc => by
    obtain ⟨r, h⟩ := ancs_ext l (acc ++ [(o.after.toList.filter bindsE).foldl (fun b e => b ||| 2 ^ e.on ||| acc.getD e.on 0) 0])
    refine ⟨[(o.after.toList.filter bindsE).foldl (fun b e => b ||| 2 ^ e.on ||| acc.getD e.on 0) 0] ++ r, ?_⟩
    rw [ancs, h, List.append_assoc]

theorem ancs_at : ∀ (l : List Oper) (acc : List Nat) (k : Nat) (o : Oper), l[k]? = some o → (∀ e ∈ o.after.toList.filter bindsE, e.on < acc.length + k) →
    (ancs l acc).getD (acc.length + k) 0 = (o.after.toList.filter bindsE).foldl (fun b e => b ||| 2 ^ e.on ||| (ancs l acc).getD e.on 0) 0
  | [], _, _, _, h, _ => by simp at h
  | o' :: l, acc, k, o, h, hlt => by
    rw [ancs]
    cases k with
    | zero =>
      simp only [List.getElem?_cons_zero, Option.some.injEq] at h
      subst h
      obtain ⟨r, hr⟩ := ancs_ext l (acc ++ [(o'.after.toList.filter bindsE).foldl (fun b e => b ||| 2 ^ e.on ||| acc.getD e.on 0) 0])
      rw [hr]
      have h1 : ∀ (xs : List Edge) (b : Nat), (∀ e ∈ xs, e.on < acc.length) → xs.foldl (fun b e => b ||| 2 ^ e.on ||| acc.getD e.on 0) b =
          xs.foldl (fun b e => b ||| 2 ^ e.on ||| (acc ++ [(o'.after.toList.filter bindsE).foldl (fun b e => b ||| 2 ^ e.on ||| acc.getD e.on 0) 0] ++ r).getD e.on 0) b := by
        intro xs
        induction xs with
        | nil => intro b _; rfl
        | cons x xs ih =>
          intro b hx
          simp only [List.foldl_cons]
          have : (acc ++ [(o'.after.toList.filter bindsE).foldl (fun b e => b ||| 2 ^ e.on ||| acc.getD e.on 0) 0] ++ r).getD x.on 0 = acc.getD x.on 0 := by
            have hxl := hx x (by simp)
            rw [List.getD_eq_getElem?_getD, List.getD_eq_getElem?_getD, List.append_assoc, List.getElem?_append_left hxl]
          rw [this]
          exact ih _ (fun e he => hx e (by simp [he]))
      rw [← h1 _ _ (by simpa using hlt)]
      rw [List.getD_eq_getElem?_getD, List.append_assoc, List.getElem?_append_right (by omega)]
      simp
    | succ k =>
      simp only [List.getElem?_cons_succ] at h
      have := ancs_at l (acc ++ [(o'.after.toList.filter bindsE).foldl (fun b e => b ||| 2 ^ e.on ||| acc.getD e.on 0) 0]) k o h (by intro e he; have := hlt e he; simp only [List.length_append, List.length_singleton]; omega)
      simp only [List.length_append, List.length_singleton] at this
      rw [show acc.length + (k + 1) = acc.length + 1 + k by omega]
      exact this

theorem anc_step {ops : List Oper} {j i : Nat} {o : Oper} (h : ops[j]? = some o) (hlt : ∀ e ∈ o.after.toList.filter bindsE, e.on < j) (hb : ((ancs ops []).getD j 0).testBit i = true) :
    ∃ e ∈ o.after.toList.filter bindsE, e.on = i ∨ ((ancs ops []).getD e.on 0).testBit i = true := by
  have := ancs_at ops [] j o h (by simpa using hlt)
  simp only [List.length_nil, Nat.zero_add] at this
  rw [this] at hb
  rcases foldl_bits _ i _ _ hb with h | h
  · simp at h
  · exact h

/-- Closed: with an operation all that must come ahead of it. -/
def Closed (ops : List Oper) (L : Nat → Bool) : Prop := ∀ (j : Nat) (o : Oper), ops[j]? = some o → L j = true → ∀ e ∈ o.after.toList.filter bindsE, L e.on = true

def EdgesOk (ops : List Oper) : Prop := ∀ (j : Nat) (o : Oper), ops[j]? = some o → ∀ e ∈ o.after.toList.filter bindsE, e.on < j

theorem closed_anc {ops : List Oper} (hE : EdgesOk ops) {L : Nat → Bool} (hC : Closed ops L) {i : Nat} : ∀ (j : Nat) (o : Oper), ops[j]? = some o → L j = true → ((ancs ops []).getD j 0).testBit i = true → L i = true := by
  intro j
  induction j using Nat.strongRecOn with
  | _ j ih =>
    intro o ho hL hb
    obtain ⟨e, he, h⟩ := anc_step ho (hE j o ho) hb
    have hLe := hC j o ho hL e he
    rcases h with h | h
    · rw [← h]; exact hLe
    · have hlt := hE j o ho e he
      have hj : j < ops.length := by
        rcases Nat.lt_or_ge j ops.length with h | h
        · exact h
        · rw [List.getElem?_eq_none h] at ho; cases ho
      exact ih e.on hlt _ (List.getElem?_eq_getElem (by omega)) hLe h

theorem ready_anc {ops : List Oper} (hE : EdgesOk ops) {L : Nat → Bool} (hC : Closed ops L) {i p : Nat} {o : Oper} (ho : ops[p]? = some o) (hr : ∀ e ∈ o.after.toList.filter bindsE, L e.on = true) (hb : ((ancs ops []).getD p 0).testBit i = true) : L i = true := by
  obtain ⟨e, he, h⟩ := anc_step ho (hE p o ho) hb
  have hLe := hr e he
  rcases h with h | h
  · rw [← h]; exact hLe
  · have hlt := hE p o ho e he
    have hj : p < ops.length := by
      rcases Nat.lt_or_ge p ops.length with h | h
      · exact h
      · rw [List.getElem?_eq_none h] at ho; cases ho
    exact closed_anc hE hC e.on _ (List.getElem?_eq_getElem (by omega)) hLe h

/-! ### What regOk says -/
theorem mem_zipIdx {l : List Oper} {j : Nat} {o : Oper} (h : l[j]? = some o) : (o, j) ∈ l.zipIdx := by
  rw [List.mem_zipIdx_iff_getElem?]
  simpa using h

theorem binds_any (e : Edge) : Region.binds .any e = bindsE e := by
  obtain ⟨on, g⟩ := e
  cases g <;> rfl

theorem regOk_edges {ty : T TI} {ops : List Oper} (h : regOk ty ops = true) : EdgesOk ops := by
  intro j o ho e he
  rw [List.mem_filter] at he
  simp only [regOk, Bool.and_eq_true, List.all_eq_true] at h
  have := (h.1 (o, j) (mem_zipIdx ho)).1 e he.1
  simp only [plainEdge, he.2, Bool.not_true, Bool.false_or] at this
  simpa [Nat.blt_eq] using this

theorem regOk_pair {ty : T TI} {ops : List Oper} (h : regOk ty ops = true) {i j : Nat} {o p : Oper} (ho : ops[i]? = some o) (hp : ops[j]? = some p) (hij : i < j) :
    (eff ty o.op = true → eff ty p.op = true → ((ancs ops []).getD j 0).testBit i = true) ∧
    (∀ d, o.dst = some d → (d ∈ looks ops p ∨ p.dst = some d) → ((ancs ops []).getD j 0).testBit i = true) ∧
    (∀ d, p.dst = some d → d ∈ looks ops o → ((ancs ops []).getD j 0).testBit i = true) := by
  simp only [regOk, Bool.and_eq_true, List.all_eq_true] at h
  have := h.2 (o, i) (mem_zipIdx ho) (p, j) (mem_zipIdx hp)
  unfold pairOk at this
  rw [show Nat.blt i j = true by simpa [Nat.blt_eq] using hij, cond_true] at this
  simp only [Bool.and_eq_true] at this
  obtain ⟨⟨h1, h2⟩, h3⟩ := this
  refine ⟨fun a b => ?_, fun d hd hx => ?_, fun d hd hx => ?_⟩
  · rw [a, b] at h1; simpa using h1
  · rw [hd] at h2
    have hc : ((looks ops p).contains d || p.dst == some d) = true := by
      rcases hx with hx | hx
      · simp [hx]
      · simp [hx]
    simp only [hc, cond_true] at h2
    exact h2
  · rw [hd] at h3
    have hc : (looks ops o).contains d = true := by simp [hx]
    simp only [hc, cond_true] at h3
    exact h3

end Go.Ax
