/- New blocks of a region that draws its order: they stand in the world before they stand in the machine. -/
import Derived.Test.YtmfdkldjinlmnaaGreatDoorAxDraw3
set_option linter.unusedVariables false
set_option linter.unusedSimpArgs false
namespace Go.Ax
open Go

/-- A new block that stands in the world, and not yet in the machine. -/
structure Pend (i : Io) (s : AS) (w : World) (b : Nat) (o : AObj) : Prop where
  none : s.h.get b = none
  at_ : ∃ q, i b = some (q, 0) ∧ q < w.heap.size ∧ OR i o w.heap[q]? 0 ∧ ∀ b' t, i b' = some (q, t) → b' = b ∨ (b' < 1000 ∧ obA s b' = .far)
  lim : i.lim b = (0, 0)
  alive : alive o = true
  free : fixed o = false
  unit : ∀ c n z, o = .cells c n z → zs z = 0

section
variable {i : Io} {s : AS} {w : World}

theorem obA_none {s : AS} {b : Nat} (h : s.h.get b = none) : obA s b = .far := by simp [obA, h]

theorem Pend.step {i' : Io} {s' : AS} {w' : World} {b : Nat} {o : AObj} (h : Pend i s w b o) (hf : Fr i s w i' s' w') : Pend i' s' w' b o := by
  obtain ⟨q, h1, h2, h3, h4⟩ := h.at_
  have hfar : fixed (obA s b) = true := by rw [obA_none h.none]; rfl
  have hfx : ∀ b' t, i b' = some (q, t) → fixed (obA s b') = true := by
    intro b' t e
    rcases h4 b' t e with rfl | ⟨_, e2⟩
    · exact hfar
    · rw [e2]; rfl
  refine ⟨by rw [hf.ro b _ h1 hfar]; exact h.none, ⟨q, hf.le _ _ h1, Nat.lt_of_lt_of_le h2 hf.size, ?_, ?_⟩, by rw [hf.le.lim _ _ h1]; exact h.lim, h.alive, h.free, h.unit⟩
  · rw [hf.keep q h2 hfx]
    exact h3.mono hf.le
  · intro b' t e
    rcases hf.new b' q t e with e1 | e1 | ⟨b0, t0, e1, e2⟩
    · rcases h4 b' t e1 with rfl | ⟨e4, e3⟩
      · exact .inl rfl
      · refine .inr ⟨e4, ?_⟩
        rw [obA_same (hf.ro b' _ e1 (by rw [e3]; rfl))]
        exact e3
    · omega
    · rw [hfx b0 t0 e1] at e2; cases e2

/-- The block is laid. -/
theorem Rel.lay {b : Nat} {o : AObj} (h : Rel i s w) (hp : Pend i s w b o) : Rel i (s.upd b o) w := by
  obtain ⟨q, h1, h2, h3, h4⟩ := hp.at_
  have get : ∀ k, (s.upd b o).h.get k = if k = b then some o else s.h.get k := fun k => T.get_set _ _ _ _
  have hother : ∀ k y t, s.h.get k = some y → Go.Ax.alive y = true → i k = some (q, t) → k = b := by
    intro k y t hk ha e
    rcases h4 k t e with e1 | ⟨_, e1⟩
    · exact e1
    · rw [obA_some hk] at e1; subst e1; cases ha
  refine ⟨?_, ?_, ?_, ?_, ?_⟩
  · intro k y hk ha
    rw [get] at hk
    by_cases e : k = b
    · subst e; rw [if_pos rfl] at hk; cases hk; exact ⟨q, 0, h1, h3⟩
    · rw [if_neg e] at hk; exact h.obj k y hk ha
  · intro k k' y y' q1 t t' hk hk' ha ha' e e'
    rw [get] at hk hk'
    by_cases f : k = b <;> by_cases f' : k' = b
    · rw [f, f']
    · rw [if_neg f'] at hk'
      rw [f, h1] at e
      cases e
      exact absurd (hother k' y' t' hk' ha' e') f'
    · rw [if_neg f] at hk
      rw [f', h1] at e'
      cases e'
      exact absurd (hother k y t hk ha e) f
    · rw [if_neg f] at hk
      rw [if_neg f'] at hk'
      exact h.inj k k' y y' q1 t t' hk hk' ha ha' e e'
  · intro k hk
    have := h.fresh k hk
    refine ⟨this.1, ?_⟩
    rw [get, if_neg (fun e => by subst e; rw [this.1] at h1; cases h1)]
    exact this.2
  · intro k c n z q1 t hk e
    rw [get] at hk
    by_cases f : k = b
    · subst f
      rw [if_pos rfl] at hk
      cases hk
      rw [hp.lim]
      exact ⟨(hp.unit c n z rfl).symm, fun _ _ _ _ => Nat.zero_le _⟩
    · rw [if_neg f] at hk
      exact h.lim k c n z q1 t hk e
  · intro k q1 t e hk
    rw [get] at hk
    by_cases f : k = b
    · subst f; rw [h1] at e; cases e; exact h2
    · rw [if_neg f] at hk
      exact h.dom k q1 t e hk

/-- A block is made in the world for a number that was kept for it. -/
theorem Rel.reserve {b : Nat} {o : AObj} {x : Obj} {w1 : World} (h : Rel i s w) (hb : b < s.nx) (hi : i b = none) (hg : s.h.get b = none) (hw : w1.heap = (addB w x).heap)
    (hor : OR (ext i b (w.heap.size, 0)) o (some x) 0) (ha : Go.Ax.alive o = true) (hf : fixed o = false) (hu : ∀ c n z, o = .cells c n z → zs z = 0) :
    Rel (ext i b (w.heap.size, 0)) s w1 ∧ Pend (ext i b (w.heap.size, 0)) s w1 b o := by
  have hle : Le i (ext i b (w.heap.size, 0)) := ext_le hi
  have hnb : ∀ k y, s.h.get k = some y → k ≠ b := fun k y hk e => by subst e; rw [hg] at hk; cases hk
  have hsz : w1.heap.size = w.heap.size + 1 := by rw [hw, addB_size]
  refine ⟨⟨?_, ?_, ?_, ?_, ?_⟩, ⟨hg, ⟨w.heap.size, ext_same _ _ _, by omega, ?_, ?_⟩, ext_lim _ _ _, ha, hf, hu⟩⟩
  · intro k y hk hal
    obtain ⟨q, t, e, hr⟩ := h.obj k y hk hal
    refine ⟨q, t, hle _ _ e, ?_⟩
    rw [hw, addB_old (h.dom k q t e (.inl (by rw [hk]; simp)))]
    exact hr.mono hle
  · intro k k' y y' q t t' hk hk' hal hal' e e'
    rw [ext_ne (hnb k y hk)] at e
    rw [ext_ne (hnb k' y' hk')] at e'
    exact h.inj k k' y y' q t t' hk hk' hal hal' e e'
  · intro k hk
    rw [ext_ne (by omega)]
    exact h.fresh k hk
  · intro k c n z q t hk e
    rw [ext_ne (hnb k _ hk)] at e
    rw [ext_lim_ne (hnb k _ hk), hw, addB_old (h.dom k q t e (.inl (by rw [hk]; simp)))]
    exact h.lim k c n z q t hk e
  · intro k q t e hk
    by_cases f : k = b
    · rw [f, ext_same] at e; cases e; omega
    · rw [ext_ne f] at e
      have := h.dom k q t e hk
      omega
  · rw [hw, addB_new]
    exact hor
  · intro b' t e
    by_cases f : b' = b
    · exact .inl f
    · rw [ext_ne f] at e
      right
      have hn : ¬ (s.h.get b' ≠ none ∨ 1000 ≤ b') := fun hh => by
        have := h.dom b' _ t e hh
        omega
      have hg' : s.h.get b' = none := Classical.byContradiction fun h => hn (.inl h)
      exact ⟨by omega, obA_none hg'⟩

/-- A smaller memory of the machine says the same of the world. -/
theorem Rel.less {s1 : AS} (h : Rel i s1 w) (hn : s.nx = s1.nx) (hs : ∀ b o, s.h.get b = some o → s1.h.get b = some o) : Rel i s w := by
  refine ⟨fun b o hb ha => h.obj b o (hs b o hb) ha, fun b b' o o' q t t' hb hb' ha ha' e e' => h.inj b b' o o' q t t' (hs b o hb) (hs b' o' hb') ha ha' e e', fun b hb => ?_, fun b c n z q t hb e => h.lim b c n z q t (hs b _ hb) e, fun b q t e hb => h.dom b q t e (hb.imp (fun hb h1 => by
    cases hg : s.h.get b with
    | none => exact hb hg
    | some o => rw [hs b o hg] at h1; cases h1) id)⟩
  have := h.fresh b (by omega)
  refine ⟨this.1, ?_⟩
  cases hg : s.h.get b with
  | none => rfl
  | some o => rw [hs b o hg] at this; cases this.2

/-- What a region has left alone, seen from its beginning: a block that was kept for it is made, or laid. -/
theorem Fr.reserve {i0 : Io} {s0 : AS} {w0 w1 : World} {b : Nat} {x : Obj} (h : Fr i0 s0 w0 i s w) (hb : s0.nx ≤ b) (hi : i b = none) (hw : w1.heap = (addB w x).heap) (h1 : w1.os = w.os) (h2 : w1.tape = w.tape) (h3 : w1.output = w.output) :
    Fr i0 s0 w0 (ext i b (w.heap.size, 0)) s w1 := by
  have hsz : w1.heap.size = w.heap.size + 1 := by rw [hw, addB_size]
  refine ⟨h.le.trans (ext_le hi), ?_, h1.trans h.os, h2.trans h.tape, h3.trans h.output, by have := h.size; omega, ?_, h.ro, h.nx, ?_, h.gone, h.stay⟩
  · intro k q t e
    by_cases f : k = b
    · rw [f, ext_same] at e; cases e; exact .inr (.inl h.size)
    · rw [ext_ne f] at e; exact h.new k q t e
  · intro q hq hn
    rw [hw, addB_old (Nat.lt_of_lt_of_le hq h.size)]
    exact h.keep q hq hn
  · intro k hk e
    rw [ext_ne (by omega)]
    exact h.dom k hk e

theorem Fr.swap {i0 : Io} {s0 s1 : AS} {w0 : World} (h : Fr i0 s0 w0 i s w) (hn : s.nx = s1.nx) (hs : ∀ b, b < s0.nx → s1.h.get b = s.h.get b) (hf : ∀ b x, i0 b = some x → b < s0.nx) (hst : ∀ b, s0.h.get b ≠ none → s1.h.get b ≠ none) : Fr i0 s0 w0 i s1 w :=
  ⟨h.le, h.new, h.os, h.tape, h.output, h.size, h.keep, fun b x e hfx => by rw [hs b (hf b x e)]; exact h.ro b x e hfx, by rw [← hn]; exact h.nx, h.dom, fun b hb e g => by rw [hs b hb]; exact h.gone b hb e g, hst⟩

theorem laid_nx (base bits : Nat) : ∀ (nw : News) (s : AS), (laid base bits nw s).nx = s.nx
  | [], s => rfl
  | x :: nw, s => by
    have : laid base bits (x :: nw) s = laid base bits nw (bif bits.testBit x.1 then (match s.h.get (base + x.1) with
      | none => s.upd (base + x.1) x.2
      | some _ => s) else s) := rfl
    rw [this, laid_nx base bits nw]
    cases bits.testBit x.1 with
    | false => rfl
    | true =>
      simp only [cond_true]
      split <;> rfl

theorem laid_cons (base bits : Nat) (x : Nat × AObj) (nw : News) (s : AS) : laid base bits (x :: nw) s = laid base bits nw (bif bits.testBit x.1 then (match s.h.get (base + x.1) with
      | none => s.upd (base + x.1) x.2
      | some _ => s) else s) := rfl

theorem laid_keeps (base bits : Nat) : ∀ (nw : News) (s : AS) (k : Nat) (o : AObj), s.h.get k = some o → (laid base bits nw s).h.get k = some o
  | [], s, k, o, h => h
  | x :: nw, s, k, o, h => by
    rw [laid_cons]
    refine laid_keeps base bits nw _ k o ?_
    cases bits.testBit x.1 with
    | false => exact h
    | true =>
      simp only [cond_true]
      split
      · rename_i hg
        show (s.h.set (base + x.1) x.2).get k = some o
        rw [T.get_set, if_neg (fun e => by rw [e, hg] at h; cases h)]
        exact h
      · exact h

theorem laid_other (base bits : Nat) : ∀ (nw : News) (s : AS) (k : Nat), (∀ x ∈ nw, bits.testBit x.1 = true → k ≠ base + x.1) → (laid base bits nw s).h.get k = s.h.get k
  | [], s, k, h => rfl
  | x :: nw, s, k, h => by
    rw [laid_cons, laid_other base bits nw _ k (fun y hy => h y (by simp [hy]))]
    cases hb : bits.testBit x.1 with
    | false => rfl
    | true =>
      simp only [cond_true]
      split
      · show (s.h.set (base + x.1) x.2).get k = _
        rw [T.get_set, if_neg (h x (by simp) hb)]
      · rfl

theorem laid_append (base bits : Nat) (r : News) : ∀ (nw : News) (s : AS), (∀ x ∈ r, bits.testBit x.1 = false) → laid base bits (nw ++ r) s = laid base bits nw s := by
  have h0 : ∀ (r : News) (s : AS), (∀ x ∈ r, bits.testBit x.1 = false) → laid base bits r s = s := by
    intro r
    induction r with
    | nil => intro s _; rfl
    | cons x r ih =>
      intro s h
      rw [laid_cons, h x (by simp), cond_false]
      exact ih s (fun y hy => h y (by simp [hy]))
  intro nw
  induction nw with
  | nil => intro s h; exact h0 r s h
  | cons x nw ih =>
    intro s h
    rw [List.cons_append, laid_cons, laid_cons]
    exact ih _ h

/-- Another block is laid. -/
theorem Pend.other {b b0 : Nat} {o o0 : AObj} (h : Pend i s w b o) (hne : b ≠ b0) (hb0 : 1000 ≤ b0) : Pend i (s.upd b0 o0) w b o := by
  obtain ⟨q, h1, h2, h3, h4⟩ := h.at_
  have get : ∀ k, (s.upd b0 o0).h.get k = if k = b0 then some o0 else s.h.get k := fun k => T.get_set _ _ _ _
  refine ⟨by rw [get, if_neg hne]; exact h.none, ⟨q, h1, h2, h3, fun b' t e => ?_⟩, h.lim, h.alive, h.free, h.unit⟩
  rcases h4 b' t e with e1 | ⟨e1, e2⟩
  · exact .inl e1
  · refine .inr ⟨e1, ?_⟩
    have : obA (s.upd b0 o0) b' = obA s b' := obA_same (by rw [get, if_neg (by omega)])
    rw [this]
    exact e2

theorem Rel.laid {base bits : Nat} (hbase : 1000 ≤ base) : ∀ {nw : News} {s : AS}, Rel i s w → nw.Pairwise (fun a b => a.1 ≠ b.1) → (∀ x ∈ nw, bits.testBit x.1 = true → s.h.get (base + x.1) = none → Pend i s w (base + x.1) x.2) → Rel i (Go.Ax.laid base bits nw s) w
  | [], s, h, _, _ => h
  | x :: nw, s, h, hp, hq => by
    rw [List.pairwise_cons] at hp
    rw [laid_cons]
    cases hb : bits.testBit x.1 with
    | false =>
      simp only [cond_false]
      exact Rel.laid hbase h hp.2 (fun y hy => hq y (by simp [hy]))
    | true =>
      simp only [cond_true]
      split
      · rename_i hg
        refine Rel.laid hbase (h.lay (hq x (by simp) hb hg)) hp.2 (fun y hy hyb hyg => ?_)
        have hne : base + y.1 ≠ base + x.1 := fun e => hp.1 y hy (by omega)
        refine (hq y (by simp [hy]) hyb ?_).other hne (by omega)
        have : (s.upd (base + x.1) x.2).h.get (base + y.1) = if base + y.1 = base + x.1 then some x.2 else s.h.get (base + y.1) := T.get_set _ _ _ _
        rw [this, if_neg hne] at hyg
        exact hyg
      · exact Rel.laid hbase h hp.2 (fun y hy => hq y (by simp [hy]))

/-- One that isn't among these stays as it is. -/
theorem Pend.laid {base bits : Nat} (hbase : 1000 ≤ base) {b : Nat} {o : AObj} : ∀ {nw : News} {s : AS}, Pend i s w b o → (∀ x ∈ nw, bits.testBit x.1 = true → b ≠ base + x.1) → Pend i (Go.Ax.laid base bits nw s) w b o
  | [], s, h, _ => h
  | x :: nw, s, h, hq => by
    rw [laid_cons]
    refine Pend.laid hbase ?_ (fun y hy => hq y (by simp [hy]))
    cases hb : bits.testBit x.1 with
    | false => exact h
    | true =>
      simp only [cond_true]
      split
      · exact h.other (hq x (by simp) hb) (by omega)
      · exact h

theorem Pend.reserve {b b1 : Nat} {o : AObj} {x : Obj} {w1 : World} (h : Pend i s w b o) (hi : i b1 = Option.none) (hw : w1.heap = (addB w x).heap) : Pend (ext i b1 (w.heap.size, 0)) s w1 b o := by
  obtain ⟨q, h1, h2, h3, h4⟩ := h.at_
  have hne : b ≠ b1 := fun e => by subst e; rw [hi] at h1; cases h1
  refine ⟨h.none, ⟨q, by rw [ext_ne hne]; exact h1, by rw [hw, addB_size]; omega, ?_, fun b' t e => ?_⟩, by rw [ext_lim_ne hne]; exact h.lim, h.alive, h.free, h.unit⟩
  · rw [hw, addB_old h2]
    exact h3.mono (ext_le hi)
  · by_cases f : b' = b1
    · rw [f, ext_same] at e; cases e; omega
    · rw [ext_ne f] at e; exact h4 b' t e

theorem laid_val (base bits : Nat) : ∀ (nw : News) (s : AS), nw.Pairwise (fun a b => a.1 ≠ b.1) → ∀ x ∈ nw, bits.testBit x.1 = true → s.h.get (base + x.1) = none → (Go.Ax.laid base bits nw s).h.get (base + x.1) = some x.2
  | [], s, _, x, hx, _, _ => by cases hx
  | y :: nw, s, hp, x, hx, hb, hg => by
    rw [List.pairwise_cons] at hp
    rw [laid_cons]
    rcases List.mem_cons.1 hx with rfl | hx
    · rw [hb, cond_true, hg]
      exact laid_keeps base bits nw _ _ _ (T.get_set_same _ _ _)
    · have hne : base + x.1 ≠ base + y.1 := fun e => hp.1 x hx (by omega)
      refine laid_val base bits nw _ hp.2 x hx hb ?_
      cases hby : bits.testBit y.1 with
      | false => exact hg
      | true =>
        simp only [cond_true]
        split
        · show (s.h.set (base + y.1) y.2).get _ = none
          rw [T.get_set, if_neg hne]
          exact hg
        · exact hg

end
end Go.Ax
