/- The abstract machine's memory and the model's: steps that write, make or give up a block. -/
import Derived.Test.YtmfdkldjinlmnaaGreatDoorAxMem
set_option linter.unusedVariables false
set_option linter.unusedSimpArgs false
namespace Go.Ax
open Go

def ext (i : Io) (n : Nat) (x : Nat × Nat) (lm : Nat × Nat := (0, 0)) : Io := ⟨fun b => if b = n then some x else i b, fun b => if b = n then lm else i.lim b⟩
theorem ext_same (i : Io) (n : Nat) (x : Nat × Nat) {lm : Nat × Nat} : ext i n x lm n = some x := if_pos rfl
theorem ext_ne {i : Io} {n b : Nat} {x lm : Nat × Nat} (h : b ≠ n) : ext i n x lm b = i b := if_neg h
theorem ext_lim (i : Io) (n : Nat) (x : Nat × Nat) {lm : Nat × Nat} : (ext i n x lm).lim n = lm := if_pos rfl
theorem ext_lim_ne {i : Io} {n b : Nat} {x lm : Nat × Nat} (h : b ≠ n) : (ext i n x lm).lim b = i.lim b := if_neg h
theorem ext_le {i : Io} {n : Nat} {x lm : Nat × Nat} (h : i n = none) : Le i (ext i n x lm) :=
  ⟨fun b y e => by rw [ext_ne (fun hb => by subst hb; rw [h] at e; cases e)]; exact e, fun b y e => by rw [ext_lim_ne (fun hb => by subst hb; rw [h] at e; cases e)]⟩

section
variable {i : Io} {s : AS} {w : World}

theorem Rel.same {w' : World} (h : Rel i s w) (e : w'.heap = w.heap) : Rel i s w' :=
  ⟨fun b o hb ha => by rw [e]; exact h.obj b o hb ha, h.inj, h.fresh, by rw [e]; exact h.lim, by rw [e]; exact h.dom⟩
theorem Fr.same {w' : World} (e : w'.heap = w.heap) (h1 : w'.os = w.os) (h2 : w'.tape = w.tape) (h3 : w'.output = w.output) : Fr i s w i s w' :=
  ⟨.refl i, fun _ _ _ h => .inl h, h1, h2, h3, by rw [e]; exact Nat.le_refl _, fun q _ _ => by rw [e], fun _ _ _ _ => rfl, Nat.le_refl _, fun _ _ h => h, fun _ _ _ h => h, fun _ h => h⟩

/-- A block is written, or given up. -/
theorem Rel.upd {w' : World} {b q t : Nat} {o o' : AObj} (h : Rel i s w) (hb : s.h.get b = some o) (ha : alive o = true) (hro : fixed o = false) (hi : i b = some (q, t))
    (hk : ∀ k, k ≠ q → w'.heap[k]? = w.heap[k]?) (hsz : w'.heap.size = w.heap.size) (h1 : w'.os = w.os) (h2 : w'.tape = w.tape) (h3 : w'.output = w.output)
    (hor : alive o' = true → OR i o' w'.heap[q]? t)
    (hlim : ∀ c n z, o' = .cells c n z → (i.lim b).1 = zs z ∧ ∀ cs e fr, w'.heap[q]? = some (.cells cs e fr) → (i.lim b).2 ≤ cs.size := by intro _ _ _ h; cases h) : Rel i (s.upd b o') w' ∧ Fr i s w i (s.upd b o') w' := by
  have get : ∀ k, (s.upd b o').h.get k = if k = b then some o' else s.h.get k := fun k => T.get_set _ _ _ _
  refine ⟨⟨?_, ?_, ?_, ?_, ?_⟩, ⟨.refl i, fun _ _ _ e => .inl e, h1, h2, h3, Nat.le_of_eq hsz.symm, ?_, ?_, Nat.le_refl _, fun _ _ h => h, ?_, fun k g => by rw [get]; split <;> first | (simp; done) | exact g⟩⟩
  · intro k x hx hax
    rw [get] at hx
    by_cases hkb : k = b
    · subst hkb
      rw [if_pos rfl] at hx
      cases hx
      exact ⟨q, t, hi, hor hax⟩
    · rw [if_neg hkb] at hx
      obtain ⟨q', t', e, hr⟩ := h.obj k x hx hax
      refine ⟨q', t', e, ?_⟩
      have hq : q' ≠ q := fun he => hkb (h.inj k b x o q t' t hx hb hax ha (by rw [e, he]) hi)
      rw [hk q' hq]
      exact hr
  · intro k k' x x' q1 t1 t2 hx hx' hax hax' e e'
    rw [get] at hx hx'
    by_cases hkb : k = b <;> by_cases hkb' : k' = b
    · rw [hkb, hkb']
    · rw [if_neg hkb'] at hx'
      rw [hkb] at e ⊢
      exact h.inj b k' o x' q1 t1 t2 hb hx' ha hax' e e'
    · rw [if_neg hkb] at hx
      rw [hkb'] at e' ⊢
      exact h.inj k b x o q1 t1 t2 hx hb hax ha e e'
    · rw [if_neg hkb] at hx
      rw [if_neg hkb'] at hx'
      exact h.inj k k' x x' q1 t1 t2 hx hx' hax hax' e e'
  · intro k hk'
    have := h.fresh k hk'
    refine ⟨this.1, ?_⟩
    rw [get, if_neg (fun e => by subst e; rw [this.1] at hi; cases hi)]
    exact this.2
  · intro k c n z q' t' hx e
    rw [get] at hx
    by_cases hkb : k = b
    · subst hkb
      rw [if_pos rfl] at hx
      cases hx
      rw [hi] at e
      cases e
      exact hlim c n z rfl
    · rw [if_neg hkb] at hx
      obtain ⟨g1, g2⟩ := h.lim k c n z q' t' hx e
      refine ⟨g1, fun cs e' fr hw => g2 cs e' fr ?_⟩
      have hq : q' ≠ q := fun he => hkb (h.inj k b _ o q t' t hx hb rfl ha (by rw [e, he]) hi)
      rw [← hk q' hq]
      exact hw
  · intro k q' t' e hx
    rw [get] at hx
    rw [hsz]
    by_cases hkb : k = b
    · subst hkb; exact h.dom k q' t' e (.inl (by rw [hb]; simp))
    · rw [if_neg hkb] at hx; exact h.dom k q' t' e hx
  · intro k hk1 hn
    refine hk k (fun e => ?_)
    subst e
    have := hn b t hi
    rw [obA_some hb, hro] at this
    cases this
  · intro k x e hf
    unfold obA at hf
    rw [get, if_neg (fun hkb => by subst hkb; rw [hb] at hf; simp only [Option.getD_some, hro] at hf; cases hf)]
  · intro k _ e g
    rw [get, if_neg (fun hkb => by subst hkb; rw [hb] at g; cases g)]
    exact g

theorem Rel.kill {b : Nat} {c : T Value} {n : Nat} {z : Nat} (h : Rel i s w) (hb : s.h.get b = some (.cells c n z)) : Rel i (s.upd b .dead) w ∧ Fr i s w i (s.upd b .dead) w := by
  obtain ⟨q, t, hi, _⟩ := h.obj b _ hb rfl
  exact h.upd hb rfl rfl hi (fun _ _ => rfl) rfl rfl rfl rfl (fun h => by cases h)

/-- A new block of the world for a new block of the machine. -/
theorem Rel.new {o : AObj} {x : Obj} {lm : Nat × Nat} (h : Rel i s w) (hor : OR (ext i s.nx (w.heap.size, 0) lm) o (some x) 0)
    (hlim : ∀ c n z, o = .cells c n z → lm.1 = zs z ∧ ∀ cs e fr, x = .cells cs e fr → lm.2 ≤ cs.size := by intro _ _ _ h; cases h) :
    Rel (ext i s.nx (w.heap.size, 0) lm) (s.new o) (addB w x) ∧ Fr i s w (ext i s.nx (w.heap.size, 0) lm) (s.new o) (addB w x) := by
  have hnx := h.fresh s.nx (Nat.le_refl _)
  have hle : Le i (ext i s.nx (w.heap.size, 0) lm) := ext_le hnx.1
  have get : ∀ k, (s.new o).h.get k = if k = s.nx then some o else s.h.get k := fun k => T.get_set _ _ _ _
  have hlt : ∀ k y q t, s.h.get k = some y → alive y = true → i k = some (q, t) → q < w.heap.size := by
    intro k y q t hk ha e
    obtain ⟨q', t', e', hr⟩ := h.obj k y hk ha
    rw [e] at e'
    cases e'
    cases y with
    | cells c n z => obtain ⟨cs, e, fr, h1, _⟩ := hr; exact lt_of_some h1
    | ro c n => obtain ⟨cs, e, fr, h1, _⟩ := hr; exact lt_of_some h1
    | map es => obtain ⟨_, es', clk, l, h1, _⟩ := hr; exact lt_of_some h1
    | iter a p => obtain ⟨_, h1⟩ := hr; exact lt_of_some h1
    | dead => cases ha
    | far => cases ha
  refine ⟨⟨?_, ?_, ?_, ?_, ?_⟩, ⟨hle, ?_, rfl, rfl, rfl, by rw [addB_size]; omega, ?_, ?_, Nat.le_succ _, fun k hk e => by rw [ext_ne (by omega)]; exact e, fun k hk _ e => by rw [get, if_neg (by omega)]; exact e, fun k g => by rw [get]; split <;> first | (simp; done) | exact g⟩⟩
  · intro k y hk ha
    rw [get] at hk
    by_cases e : k = s.nx
    · rw [if_pos e] at hk
      cases hk
      subst e
      exact ⟨w.heap.size, 0, ext_same _ _ _, by rw [addB_new]; exact hor⟩
    · rw [if_neg e] at hk
      obtain ⟨q, t, e', hr⟩ := h.obj k y hk ha
      refine ⟨q, t, by rw [ext_ne e]; exact e', ?_⟩
      rw [addB_old (hlt k y q t hk ha e')]
      exact hr.mono hle
  · intro k k' y y' q t t' hk hk' ha ha' e e'
    rw [get] at hk hk'
    by_cases f : k = s.nx <;> by_cases f' : k' = s.nx
    · rw [f, f']
    · rw [if_neg f'] at hk'
      rw [ext_ne f'] at e'
      rw [f, ext_same] at e
      cases e
      exact absurd (hlt k' y' _ _ hk' ha' e') (Nat.lt_irrefl _)
    · rw [if_neg f] at hk
      rw [ext_ne f] at e
      rw [f', ext_same] at e'
      cases e'
      exact absurd (hlt k y _ _ hk ha e) (Nat.lt_irrefl _)
    · rw [if_neg f] at hk
      rw [if_neg f'] at hk'
      rw [ext_ne f] at e
      rw [ext_ne f'] at e'
      exact h.inj k k' y y' q t t' hk hk' ha ha' e e'
  · intro k hk
    have hk' : s.nx + 1 ≤ k := hk
    have hne : k ≠ s.nx := by omega
    rw [ext_ne hne, get, if_neg hne]
    exact h.fresh k (by omega)
  · intro k c n z q t hk e
    rw [get] at hk
    by_cases f : k = s.nx
    · rw [if_pos f] at hk
      cases hk
      rw [f, ext_same] at e
      cases e
      rw [f, ext_lim, addB_new]
      obtain ⟨g1, g2⟩ := hlim c n z rfl
      exact ⟨g1, fun cs e fr hw => g2 cs e fr (Option.some.inj hw)⟩
    · rw [if_neg f] at hk
      rw [ext_ne f] at e
      rw [ext_lim_ne f, addB_old (hlt k _ q t hk rfl e)]
      exact h.lim k c n z q t hk e
  · intro k q t e hk
    rw [get] at hk
    rw [addB_size]
    by_cases f : k = s.nx
    · rw [f, ext_same] at e; cases e; omega
    · rw [if_neg f] at hk
      rw [ext_ne f] at e
      have := h.dom k q t e hk
      omega
  · intro k q t e
    by_cases f : k = s.nx
    · rw [f, ext_same] at e; cases e; exact .inr (.inl (Nat.le_refl _))
    · rw [ext_ne f] at e; exact .inl e
  · intro q hq _
    exact addB_old hq
  · intro k y e _
    rw [get, if_neg (fun f => by rw [f, hnx.1] at e; cases e)]

/-- A block of the machine goes on in a new one that lies in the same block of the world. -/
theorem Rel.grow {w' : World} {b q t p : Nat} {c : T Value} {n : Nat} {z : Nat} {o : AObj} {lm : Nat × Nat} (h : Rel i s w) (hb : s.h.get b = some (.cells c n z)) (hi : i b = some (q, t))
    (hk : ∀ k, k ≠ q → w'.heap[k]? = w.heap[k]?) (hsz : w'.heap.size = w.heap.size) (h1 : w'.os = w.os) (h2 : w'.tape = w.tape) (h3 : w'.output = w.output)
    (hor : OR (ext i s.nx (q, p) lm) o w'.heap[q]? p)
    (hlim : ∀ c n z, o = .cells c n z → lm.1 = zs z ∧ ∀ cs e fr, w'.heap[q]? = some (.cells cs e fr) → lm.2 ≤ cs.size) :
    Rel (ext i s.nx (q, p) lm) ((s.upd b .dead).new o) w' ∧ Fr i s w (ext i s.nx (q, p) lm) ((s.upd b .dead).new o) w' := by
  have hnx := h.fresh s.nx (Nat.le_refl _)
  have hle : Le i (ext i s.nx (q, p) lm) := ext_le hnx.1
  have hbn : b ≠ s.nx := fun e => by rw [e, hnx.2] at hb; cases hb
  have get : ∀ k, ((s.upd b .dead).new o).h.get k = if k = s.nx then some o else if k = b then some .dead else s.h.get k := fun k => by
    show ((s.h.set b .dead).set s.nx o).get k = _
    rw [T.get_set, T.get_set]
  refine ⟨⟨?_, ?_, ?_, ?_, ?_⟩, ⟨hle, ?_, h1, h2, h3, Nat.le_of_eq hsz.symm, ?_, ?_, Nat.le_succ _, fun k hk e => by rw [ext_ne (by omega)]; exact e, ?_, fun k g => by rw [get]; split <;> first | (simp; done) | (split <;> first | (simp; done) | exact g)⟩⟩
  · intro k y hk' ha
    rw [get] at hk'
    by_cases e : k = s.nx
    · rw [if_pos e] at hk'
      cases hk'
      subst e
      exact ⟨q, p, ext_same _ _ _, hor⟩
    · rw [if_neg e] at hk'
      by_cases f : k = b
      · rw [if_pos f] at hk'; cases hk'; cases ha
      · rw [if_neg f] at hk'
        obtain ⟨q', t', e', hr⟩ := h.obj k y hk' ha
        have hq : q' ≠ q := fun he => f (h.inj k b y _ q t' t hk' hb ha rfl (by rw [e', he]) hi)
        refine ⟨q', t', by rw [ext_ne e]; exact e', ?_⟩
        rw [hk q' hq]
        exact hr.mono hle
  · intro k k' y y' q1 t1 t2 hx hx' ha ha' e e'
    rw [get] at hx hx'
    by_cases f : k = s.nx
    · by_cases f' : k' = s.nx
      · rw [f, f']
      · rw [if_neg f'] at hx'
        by_cases g : k' = b
        · rw [if_pos g] at hx'; cases hx'; cases ha'
        · rw [if_neg g] at hx'
          rw [ext_ne f'] at e'
          rw [f, ext_same] at e
          cases e
          exact absurd (h.inj k' b y' _ q t2 t hx' hb ha' rfl e' hi) g
    · rw [if_neg f] at hx
      by_cases g : k = b
      · rw [if_pos g] at hx; cases hx; cases ha
      · rw [if_neg g] at hx
        rw [ext_ne f] at e
        by_cases f' : k' = s.nx
        · rw [f', ext_same] at e'
          cases e'
          exact absurd (h.inj k b y _ q t1 t hx hb ha rfl e hi) g
        · rw [if_neg f'] at hx'
          by_cases g' : k' = b
          · rw [if_pos g'] at hx'; cases hx'; cases ha'
          · rw [if_neg g'] at hx'
            rw [ext_ne f'] at e'
            exact h.inj k k' y y' q1 t1 t2 hx hx' ha ha' e e'
  · intro k hk'
    have hk2 : s.nx + 1 ≤ k := hk'
    have hne : k ≠ s.nx := by omega
    have hf := h.fresh k (by omega)
    have hkb : k ≠ b := fun e => by rw [e, hi] at hf; cases hf.1
    rw [ext_ne hne, get, if_neg hne, if_neg hkb]
    exact hf
  · intro k c' n' z' q1 t1 hx e
    rw [get] at hx
    by_cases f : k = s.nx
    · rw [if_pos f] at hx
      cases hx
      rw [f, ext_same] at e
      cases e
      rw [f, ext_lim]
      exact hlim c' n' z' rfl
    · rw [if_neg f] at hx
      by_cases g : k = b
      · rw [if_pos g] at hx; cases hx
      · rw [if_neg g] at hx
        rw [ext_ne f] at e
        rw [ext_lim_ne f]
        have hq : q1 ≠ q := fun he => g (h.inj k b _ _ q t1 t hx hb rfl rfl (by rw [e, he]) hi)
        rw [hk q1 hq]
        exact h.lim k c' n' z' q1 t1 hx e
  · intro k q1 t1 e hx
    rw [get] at hx
    rw [hsz]
    by_cases f : k = s.nx
    · rw [f, ext_same] at e; cases e; exact h.dom b q t hi (.inl (by rw [hb]; simp))
    · rw [if_neg f] at hx
      rw [ext_ne f] at e
      by_cases g : k = b
      · subst g; exact h.dom k q1 t1 e (.inl (by rw [hb]; simp))
      · rw [if_neg g] at hx; exact h.dom k q1 t1 e hx
  · intro k q1 t1 e
    by_cases f : k = s.nx
    · rw [f, ext_same] at e; cases e; exact .inr (.inr ⟨b, t, hi, by rw [obA_some hb]; rfl⟩)
    · rw [ext_ne f] at e; exact .inl e
  · intro k hk' hn
    refine hk k (fun e => ?_)
    subst e
    have := hn b t hi
    rw [obA_some hb] at this
    cases this
  · intro k x e hf
    have hkb : k ≠ b := fun f => by rw [f, obA_some hb] at hf; cases hf
    rw [get, if_neg (fun f => by rw [f, hnx.1] at e; cases e), if_neg hkb]
  · intro k hk' _ g
    have hkb : k ≠ b := fun f => by rw [f, hb] at g; cases g
    rw [get, if_neg (by omega), if_neg hkb]
    exact g

/-- Cells of a list, at the head of a new block. -/
theorem get_fill0 (l : List Value) (k : Nat) (h : k < l.length) : ((T.e : T Value).fill 0 l).get k = l[k]? := by
  rw [T.get_fill, if_pos (by omega)]; rfl

theorem OR.row {j : Io} {l l' : List Value} (hv : VRs j l l') (cs : Array Value) (e : TypeId) (fr : Nat × Nat) (z : Nat) (hze : ze z ≠ 0 → e + 1 = ze z) (hfr : fr.1 = fr.2 ∨ (z % 2 = 1 ∧ cs.size ≤ fr.1)) (p : Nat) (hp : p + l.length ≤ cs.size)
    (hcs : ∀ k, k < l.length → cs[p + k]? = l'[k]?) (hp0 : p = 0 ∨ zs z ≠ 0 := by exact .inl rfl) : OR j (.cells (T.e.fill 0 l) l.length z) (some (.cells cs e fr)) p := by
  refine ⟨cs, e, fr, rfl, hp, hfr, fun k v hk hg => ?_, fun h => ⟨hze h, fun h0 => hp0.resolve_right (fun h1 => h1 h0)⟩⟩
  rw [get_fill0 l k hk] at hg
  obtain ⟨v', a, b⟩ := hv.get hg
  exact ⟨v', by rw [hcs k hk]; exact a, b⟩

/-- A store. -/
theorem Rel.wrN {P : Program} {s' : AS} {b o q t : Nat} {l l' : List Value} (h : Rel i s w) (hw : wrN s b o l = some s') (hi : i b = some (q, t)) (hv : VRs i l l') :
    ∃ w', (storeCells ⟨q, t + o, none⟩ l').run P w = .ok () w' ∧ Rel i s' w' ∧ Fr i s w i s' w' := by
  unfold Go.Ax.wrN at hw
  split at hw
  · rename_i c m z hb
    cases hc : (Nat.ble (o + l.length) m && ones l) with
    | false => rw [hc] at hw; cases hw
    | true =>
      rw [hc] at hw
      cases hw
      simp only [Bool.and_eq_true] at hc
      have hle : o + l.length ≤ m := by simpa using hc.1
      obtain ⟨cs, e, fr, h1, h2, h3, h4, h5⟩ := h.at (P := P) hb rfl hi
      have hlen := hv.length
      obtain ⟨cs', hrun, hsz, hget⟩ := run_storeW (P := P) q (t + o) l' 0 w cs e fr h1 (by omega) (h3.imp (fun e => Nat.le_of_eq e.symm) (·.2)) (by rw [hv.ones]; exact hc.2)
      refine ⟨_, hrun, ?_⟩
      refine h.upd hb rfl rfl hi (fun k hk => setB_ne hk) (setB_size _ _ _) rfl rfl rfl (fun _ => ?_) (fun c' n' z' hz => ?_)
      case refine_2 =>
        cases hz
        obtain ⟨g1, g2⟩ := h.lim b _ _ _ _ _ hb hi
        refine ⟨g1, fun cs2 e2 fr2 hw => ?_⟩
        rw [setB_same h1] at hw
        cases hw
        rw [hsz]
        exact g2 cs e fr h1
      rw [setB_same h1]
      refine ⟨cs', e, fr, rfl, by omega, by rw [hsz]; exact h3, fun k v hk hg => ?_, h5⟩
      rw [T.get_fill] at hg
      rw [hget]
      by_cases hr : o ≤ k ∧ k < o + l.length
      · rw [if_pos hr] at hg
        obtain ⟨v', a, b⟩ := hv.get hg
        refine ⟨v', ?_, b⟩
        rw [if_pos (by omega), show t + k - (t + o + 0) = k - o by omega]
        exact a
      · rw [if_neg hr] at hg
        rw [if_neg (by omega)]
        exact h4 k v hk hg
  · cases hw

end
end Go.Ax
