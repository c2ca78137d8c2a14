/- A call that was run once, kept: what it looked at, what it answered and what it left; and why the answer is the model's wherever these blocks are the same. -/
import Derived.Test.YtcgpmbjoobilcaaGreatDoorAxD
import Derived.Test.YtcgpmbjoobilcaaGreatDoorAxE
set_option linter.unusedSimpArgs false
set_option linter.unusedVariables false
namespace Go.Ax
open Go
noncomputable section
def Wk (o o' : AObj) : Prop :=
 match o, o' with
 | .cells c n z, .cells c' n' z' => n = n' ∧ z = z' ∧ ∀ k v, k < n → c.get k = some v → c'.get k = some v
 | .ro c n, .ro c' n' => n = n' ∧ ∀ k v, k < n → c.get k = some v → c'.get k = some v
 | .map es, .map es' => es = es'
 | .iter s p, .iter s' p' => s = s' ∧ p = p'
 | .dead, _ => True
 | _, _ => False
theorem Wk.live {o o' : AObj} (h : Wk o o') (ha : alive o = true) : alive o' = true := by
 cases o <;> cases o' <;> first | rfl | exact h.elim | cases ha
theorem Wk.fix {o o' : AObj} (h : Wk o o') (ha : alive o = true) : fixed o' = fixed o := by
 cases o <;> cases o' <;> first | rfl | exact h.elim | cases ha
theorem Wk.or {i : Io} {o o' : AObj} {x : Option Obj} {t : Nat} (h : Wk o o') (ha : alive o = true) (hr : OR i o' x t) : OR i o x t := by
 cases o with
 | cells c n z =>
  cases o' with
  | cells c' n' z' =>
   obtain ⟨rfl, rfl, h3⟩ := h
   obtain ⟨cs, e, fr, h1, h2, h4, h5, h6⟩ := hr
   exact ⟨cs, e, fr, h1, h2, h4, fun k v hk hv => h5 k v hk (h3 k v hk hv), h6⟩
  | _ => exact h.elim
 | ro c n =>
  cases o' with
  | ro c' n' =>
   obtain ⟨rfl, h3⟩ := h
   obtain ⟨cs, e, fr, h1, h2, h5⟩ := hr
   exact ⟨cs, e, fr, h1, h2, fun k v hk hv => h5 k v hk (h3 k v hk hv)⟩
  | _ => exact h.elim
 | map es =>
  cases o' with
  | map es' => obtain rfl : es = es' := h; exact hr
  | _ => exact h.elim
 | iter s p =>
  cases o' with
  | iter s' p' => obtain ⟨rfl, rfl⟩ := h; exact hr
  | _ => exact h.elim
 | dead => cases ha
 | far => cases ha
def T.lay (t : T AObj) (l : List (Nat × AObj)) : T AObj :=
 @List.rec (Nat × AObj) (fun _ => T AObj) t (fun x _ ih => T.pk ih x.1 (some x.2)) l
theorem T.lay_get (t : T AObj) : ∀ (l : List (Nat × AObj)) (b : Nat), (∃ o, (b, o) ∈ l ∧ (t.lay l).get b = some o) ∨ ((∀ o, (b, o) ∉ l) ∧ (t.lay l).get b = t.get b)
 | [], b => .inr ⟨by simp, rfl⟩
 | (a, x) :: l, b => by
  have e : (t.lay ((a, x) :: l)).get b = if b = a then some x else (t.lay l).get b := by
   show ((t.lay l).pk a (some x)).get b = _
   rw [T.pk_eq]
   exact T.get_set _ _ _ _
  by_cases h : b = a
  ·subst h
   exact .inl ⟨x, by simp, by rw [e, if_pos rfl]⟩
  ·rw [if_neg h] at e
   rcases T.lay_get t l b with ⟨o, h1, h2⟩ | ⟨h1, h2⟩
   ·exact .inl ⟨o, List.mem_cons_of_mem _ h1, e.trans h2⟩
   ·refine .inr ⟨fun o ho => ?_, e.trans h2⟩
    rcases List.mem_cons.1 ho with h3 | h3
    ·cases h3; exact h rfl
    ·exact h1 o h3
structure Memo where
 args : List Value
 nx : Nat
 pre : List (Nat × AObj)
 ans : Value
 nx' : Nat
 post : List (Nat × AObj)
def Memo.st (m : Memo) : AS := ⟨T.e.lay m.pre, m.nx⟩
structure Memo.Ok (m : Memo) (call : CallF) (f : FuncId) : Prop where
 run : ∃ t', call f m.args m.st = some (m.ans, t') ∧ t'.nx = m.nx' ∧ ∀ b o, (b, o) ∈ m.post → ∃ o', t'.h.get b = some o' ∧ Wk o o'
 live : ∀ b o, (b, o) ∈ m.pre → alive o = true
 pre : ∀ b o, (b, o) ∈ m.pre → fixed o = false → ∃ o', (b, o') ∈ m.post
 post : ∀ b o, (b, o) ∈ m.post → m.nx ≤ b ∨ ∃ o', (b, o') ∈ m.pre ∧ fixed o' = false
structure Memo.Fits (m : Memo) (args : List Value) (s : AS) : Prop where
 args : args = m.args
 nx : s.nx = m.nx
 pre : ∀ b o, (b, o) ∈ m.pre → ∃ o', s.h.get b = some o' ∧ Wk o o'
def Memo.left (m : Memo) (s : AS) : AS := ⟨s.h.lay m.post, m.nx'⟩
theorem Memo.st_get {m : Memo} {b : Nat} {o : AObj} (h : m.st.h.get b = some o) : (b, o) ∈ m.pre := by
 rcases T.lay_get T.e m.pre b with ⟨o', h1, h2⟩ | ⟨_, h2⟩
 ·have : some o = some o' := h.symm.trans h2
  cases this
  exact h1
 ·have : some o = none := h.symm.trans h2
  cases this
theorem Memo.rel {m : Memo} {call : CallF} {f : FuncId} (hm : m.Ok call f) {args : List Value} {s : AS} (hf : m.Fits args s) {i : Io} {w : World} (hR : Rel i s w) : Rel i m.st w := by
 refine ⟨fun b o hb ha => ?_, fun b b' o o' q t t' hb hb' ha ha' e e' => ?_, fun b hb => ?_, fun b c n z q t hb hi => ?_, fun b q t e hb => ?_⟩
 ·obtain ⟨o', h1, h2⟩ := hf.pre b o (m.st_get hb)
  obtain ⟨q, t, h3, h4⟩ := hR.obj b o' h1 (h2.live ha)
  exact ⟨q, t, h3, h2.or ha h4⟩
 ·obtain ⟨p, h1, h2⟩ := hf.pre b o (m.st_get hb)
  obtain ⟨p', h1', h2'⟩ := hf.pre b' o' (m.st_get hb')
  exact hR.inj b b' p p' q t t' h1 h1' (h2.live ha) (h2'.live ha') e e'
 ·have hb' : s.nx ≤ b := by rw [hf.nx]; exact hb
  obtain ⟨h1, h2⟩ := hR.fresh b hb'
  refine ⟨h1, ?_⟩
  cases hg : m.st.h.get b with
  | none => rfl
  | some o =>
   obtain ⟨o', h3, _⟩ := hf.pre b o (m.st_get hg)
   rw [h2] at h3
   cases h3
 ·obtain ⟨o', h1, h2⟩ := hf.pre b _ (m.st_get hb)
  cases o' with
  | cells c' n' z' =>
   obtain ⟨rfl, rfl, _⟩ := h2
   exact hR.lim b c' n z q t h1 hi
  | _ => exact h2.elim
 ·refine hR.dom b q t e (hb.imp (fun h => ?_) id)
  cases hg : m.st.h.get b with
  | none => exact absurd hg h
  | some o =>
   obtain ⟨o', h3, _⟩ := hf.pre b o (m.st_get hg)
   rw [h3]
   exact fun h => by cases h
theorem Memo.after {m : Memo} {call : CallF} {f : FuncId} (hm : m.Ok call f) {args : List Value} {s : AS} (hf : m.Fits args s) {i i' : Io} {w w' : World} {t' : AS} (hG : Gl i) (hR : Rel i s w)
  (hnx : t'.nx = m.nx') (hpost : ∀ b o, (b, o) ∈ m.post → ∃ o', t'.h.get b = some o' ∧ Wk o o') (hR' : Rel i' t' w') (hF : Fr i m.st w i' t' w') : Rel i' (m.left s) w' ∧ Fr i s w i' (m.left s) w' := by
 have preS : ∀ b o, m.st.h.get b = some o → ∃ o', s.h.get b = some o' ∧ Wk o o' ∧ alive o = true := fun b o h => by
  have := m.st_get h
  obtain ⟨o', h1, h2⟩ := hf.pre b o this
  exact ⟨o', h1, h2, hm.live b o this⟩
 have obEq : ∀ b o, m.st.h.get b = some o → fixed (obA s b) = fixed (obA m.st b) := fun b o h => by
  obtain ⟨o', h1, h2, h3⟩ := preS b o h
  rw [obA_some h, obA_some h1]
  exact h2.fix h3
 have obFar : ∀ b, m.st.h.get b = none → fixed (obA m.st b) = true := fun b h => by
  unfold obA
  rw [h]
  rfl
 have obS : ∀ b, fixed (obA s b) = true → fixed (obA m.st b) = true := fun b h => by
  cases hg : m.st.h.get b with
  | none => exact obFar b hg
  | some o => rw [← obEq b o hg]; exact h
 have obT : ∀ b, fixed (obA m.st b) = false → ∃ o, (b, o) ∈ m.pre ∧ fixed o = false ∧ ∃ o', s.h.get b = some o' ∧ alive o' = true := fun b h => by
  cases hg : m.st.h.get b with
  | none => rw [obFar b hg] at h; cases h
  | some o =>
   obtain ⟨o', h1, h2, h3⟩ := preS b o hg
   rw [obA_some hg] at h
   exact ⟨o, m.st_get hg, h, o', h1, h2.live h3⟩
 have leftC : ∀ b, (∃ o, (b, o) ∈ m.post ∧ (m.left s).h.get b = some o) ∨ ((∀ o, (b, o) ∉ m.post) ∧ (m.left s).h.get b = s.h.get b) := fun b => T.lay_get s.h m.post b
 have kept : ∀ b o q t, (∀ o, (b, o) ∉ m.post) → s.h.get b = some o → alive o = true → i b = some (q, t) → w'.heap[q]? = w.heap[q]? := by
  intro b o q t hno hg ha hi
  refine hF.keep q (hR.dom b q t hi (.inl (by rw [hg]; exact fun h => by cases h))) (fun b2 t2 h2 => ?_)
  cases hfx : fixed (obA m.st b2) with
  | true => rfl
  | false =>
   obtain ⟨o2, g1, g2, o3, g3, g4⟩ := obT b2 hfx
   have := hR.inj b b2 o o3 q t t2 hg g3 ha g4 hi h2
   subst this
   obtain ⟨o4, g5⟩ := hm.pre b o2 g1 g2
   exact absurd g5 (hno o4)
 have oldI : ∀ b o, s.h.get b = some o → alive o = true → ∃ q t, i b = some (q, t) ∧ i' b = some (q, t) ∧ OR i o w.heap[q]? t := fun b o hg ha => by
  obtain ⟨q, t, h1, h2⟩ := hR.obj b o hg ha
  exact ⟨q, t, h1, hF.le _ _ h1, h2⟩
 have apart : ∀ b b' o o' o1 q t, (b, o) ∈ m.post → t'.h.get b = some o1 → (∀ o, (b', o) ∉ m.post) → s.h.get b' = some o' → alive o' = true → i' b = some (q, t) → ∀ u, i' b' = some (q, u) → False := by
  intro b b' o o' o1 q t hp _ hno hg' ha' e u e'
  obtain ⟨q', u', h1, h2, _⟩ := oldI b' o' hg' ha'
  have := h2.symm.trans e'
  cases this
  rcases hF.new b q t e with g | g | ⟨b0, t0, g, g2⟩
  ·rcases hm.post b o hp with h | ⟨o2, h3, h4⟩
   ·have := (hR.fresh b (by rw [hf.nx]; exact h)).1
    rw [this] at g
    cases g
   ·obtain ⟨o3, h5, h6⟩ := hf.pre b o2 h3
    have := hR.inj b b' o3 o' q t u h5 hg' (h6.live (hm.live b o2 h3)) ha' g h1
    subst this
    exact hno o hp
  ·have := hR.dom b' q u h1 (.inl (by rw [hg']; exact fun h => by cases h))
   omega
  ·obtain ⟨o2, h3, h4, o3, h5, h6⟩ := obT b0 g2
   have := hR.inj b0 b' o3 o' q t0 u h5 hg' h6 ha' g h1
   subst this
   obtain ⟨o4, h7⟩ := hm.pre b0 o2 h3 h4
   exact hno o4 h7
 refine ⟨⟨fun b o hb ha => ?_, fun b b' o o' q t u hb hb' ha ha' e e' => ?_, fun b hb => ?_, fun b c n z q t hb hi => ?_, fun b q t e hb => ?_⟩, ?_⟩
 ·rcases leftC b with ⟨o1, h1, h2⟩ | ⟨h1, h2⟩
  ·have : some o = some o1 := hb.symm.trans h2
   cases this
   obtain ⟨o', h3, h4⟩ := hpost b o h1
   obtain ⟨q, t, h5, h6⟩ := hR'.obj b o' h3 (h4.live ha)
   exact ⟨q, t, h5, h4.or ha h6⟩
  ·have hg : s.h.get b = some o := h2.symm.trans hb
   obtain ⟨q, t, h3, h4, h5⟩ := oldI b o hg ha
   refine ⟨q, t, h4, ?_⟩
   rw [kept b o q t h1 hg ha h3]
   exact h5.mono hF.le
 ·rcases leftC b with ⟨o1, h1, h2⟩ | ⟨h1, h2⟩
  ·have : some o = some o1 := hb.symm.trans h2
   cases this
   obtain ⟨o3, h3, h4⟩ := hpost b o h1
   rcases leftC b' with ⟨o1', h1', h2'⟩ | ⟨h1', h2'⟩
   ·have : some o' = some o1' := hb'.symm.trans h2'
    cases this
    obtain ⟨o3', h3', h4'⟩ := hpost b' o' h1'
    exact hR'.inj b b' o3 o3' q t u h3 h3' (h4.live ha) (h4'.live ha') e e'
   ·exact (apart b b' o o' o3 q t h1 h3 h1' (h2'.symm.trans hb') ha' e u e').elim
  ·have hg : s.h.get b = some o := h2.symm.trans hb
   rcases leftC b' with ⟨o1', h1', h2'⟩ | ⟨h1', h2'⟩
   ·have : some o' = some o1' := hb'.symm.trans h2'
    cases this
    obtain ⟨o3', h3', h4'⟩ := hpost b' o' h1'
    exact (apart b' b o' o o3' q u h1' h3' h1 hg ha e' t e).elim
   ·have hg' : s.h.get b' = some o' := h2'.symm.trans hb'
    obtain ⟨q1, t1, g1, g2, _⟩ := oldI b o hg ha
    obtain ⟨q2, t2, g3, g4, _⟩ := oldI b' o' hg' ha'
    have := g2.symm.trans e
    cases this
    have := g4.symm.trans e'
    cases this
    exact hR.inj b b' o o' q t u hg hg' ha ha' g1 g3
 ·have hb2 : t'.nx ≤ b := by rw [hnx]; exact hb
  have hn : m.nx ≤ t'.nx := hF.nx
  obtain ⟨h1, h2⟩ := hR'.fresh b hb2
  refine ⟨h1, ?_⟩
  rcases leftC b with ⟨o1, h3, h4⟩ | ⟨_, h4⟩
  ·obtain ⟨o', h5, _⟩ := hpost b o1 h3
   rw [h2] at h5
   cases h5
  ·rw [h4]
   exact (hR.fresh b (by rw [hf.nx]; omega)).2
 ·rcases leftC b with ⟨o1, h1, h2⟩ | ⟨h1, h2⟩
  ·have : some (AObj.cells c n z) = some o1 := hb.symm.trans h2
   cases this
   obtain ⟨o', h3, h4⟩ := hpost b _ h1
   cases o' with
   | cells c' n' z' =>
    obtain ⟨rfl, rfl, _⟩ := h4
    exact hR'.lim b c' n z q t h3 hi
   | _ => exact h4.elim
  ·have hg : s.h.get b = some (.cells c n z) := h2.symm.trans hb
   obtain ⟨q1, t1, g1, g2, _⟩ := oldI b _ hg rfl
   have := g2.symm.trans hi
   cases this
   have hl := hR.lim b c n z q t hg g1
   rw [hF.le.lim b _ g1, kept b _ q t h1 hg rfl g1]
   exact hl
 ·by_cases h1000 : 1000 ≤ b
  ·exact hR'.dom b q t e (.inr h1000)
  ·have hg : i b = some (b, 0) := hG b (by omega)
   have := (hF.le _ _ hg).symm.trans e
   cases this
   rcases leftC b with ⟨o1, h1, h2⟩ | ⟨h1, h2⟩
   ·obtain ⟨o', h3, _⟩ := hpost b o1 h1
    exact hR'.dom b b 0 e (.inl (by rw [h3]; exact fun h => by cases h))
   ·rcases hb with hb | hb
    ·rw [h2] at hb
     exact Nat.lt_of_lt_of_le (hR.dom b b 0 hg (.inl hb)) hF.size
    ·omega
 ·have hnew : ∀ b q t, i' b = some (q, t) → i b = some (q, t) ∨ w.heap.size ≤ q ∨ ∃ b0 t0, i b0 = some (q, t0) ∧ fixed (obA s b0) = false := by
   intro b q t e
   rcases hF.new b q t e with g | g | ⟨b0, t0, g1, g2⟩
   ·exact .inl g
   ·exact .inr (.inl g)
   ·refine .inr (.inr ⟨b0, t0, g1, ?_⟩)
    cases hfx : fixed (obA s b0) with
    | false => rfl
    | true => rw [obS b0 hfx] at g2; cases g2
  refine ⟨hF.le, hnew, hF.os, hF.tape, hF.output, hF.size, fun q hq hn => hF.keep q hq (fun b t e => obS b (hn b t e)), fun b x e hfx => ?_, ?_, fun b hb e => ?_, fun b hb e g => ?_, fun b hb => ?_⟩
  ·rcases leftC b with ⟨o1, h1, h2⟩ | ⟨_, h2⟩
   ·rcases hm.post b o1 h1 with h | ⟨o2, h3, h4⟩
    ·have := (hR.fresh b (by rw [hf.nx]; exact h)).1
     rw [this] at e
     cases e
    ·obtain ⟨o3, h5, h6⟩ := hf.pre b o2 h3
     rw [obA_some h5, h6.fix (hm.live b o2 h3), h4] at hfx
     cases hfx
   ·exact h2
  ·rw [hf.nx]
   show m.nx ≤ m.nx'
   rw [← hnx]
   exact hF.nx
  ·exact hF.dom b (by rw [hf.nx] at hb; exact hb) e
  ·rcases leftC b with ⟨o1, h1, _⟩ | ⟨_, h2⟩
   ·rcases hm.post b o1 h1 with h | ⟨o2, h3, _⟩
    ·rw [hf.nx] at hb; omega
    ·obtain ⟨o3, h5, _⟩ := hf.pre b o2 h3
     rw [g] at h5
     cases h5
   ·rw [h2]; exact g
  ·rcases leftC b with ⟨o1, _, h2⟩ | ⟨_, h2⟩
   ·rw [h2]; exact fun h => by cases h
   ·rw [h2]; exact hb
theorem Memo.fsim {P : Program} {m : Memo} {call : CallF} {f : FuncId} (hC : CallOk P call) (hm : m.Ok call f) {args : List Value} {s : AS} (hf : m.Fits args s) {i : Io} {w : World} {args' : List Value}
  (hR : Rel i s w) (hG : Gl i) (hv : VRs i args args') : FSim P f args' i s w m.ans (m.left s) := by
 obtain ⟨t', h1, h2, h3⟩ := hm.run
 have hv' : VRs i m.args args' := by rw [← hf.args]; exact hv
 rcases hC f m.args m.st m.ans t' h1 i w args' (Memo.rel hm hf hR) hG hv' with ⟨v', w', i', g1, g2, g3, g4⟩ | ⟨g1, g2⟩
 ·obtain ⟨a, b⟩ := Memo.after hm hf hG hR h2 h3 g3 g4
  exact .inl ⟨v', w', i', g1, g2, a, b⟩
 ·refine .inr ⟨g1, Calls.mono g2 fun e w' he => ?_⟩
  cases e with
  | returned v' =>
   obtain ⟨i', k1, k2, k3⟩ := he
   obtain ⟨a, b⟩ := Memo.after hm hf hG hR h2 h3 k2 k3
   exact ⟨i', k1, a, b⟩
  | panicked c => exact he.elim
  | outgrown => exact he.elim
end
end Go.Ax
/- Calls that are kept, part 2: the checks that the kernel makes. -/
namespace Go.Ax
open Go
noncomputable section
def bAnd (a b : Bool) : Bool := @Bool.rec (fun _ => Bool) false b a
theorem bAnd_eq {a b : Bool} (h : bAnd a b = true) : a = true ∧ b = true := by
 cases a with
 | true => exact ⟨rfl, h⟩
 | false => cases h
def iBool (v : Value) : (Bool → Bool) → Bool :=
 @Value.rec (fun _ => (Bool → Bool) → Bool) (fun _ => Unit) (fun _ => Unit)
  (fun x0  f => f x0)
  (fun _ _ _ => false)
  (fun _ _ _ => false)
  (fun _ _ _ _ => false)
  (fun _ _ => false)
  (fun _ _ => false)
  (fun _ _ _ _ => false)
  (fun _ _ => false)
  (fun _ _ => false)
  (fun _ _ _ _ _ _ => false)
  (fun _ => false)
  (fun _ _ _ _ => false)
  (fun _ => false)
  (fun _ _ _ => false)
  (fun _ _ _ => false)
  (fun _ _ => ()) () (fun _ _ _ _ => ()) v
def iInt (v : Value) : (IntKind → Int → Bool) → Bool :=
 @Value.rec (fun _ => (IntKind → Int → Bool) → Bool) (fun _ => Unit) (fun _ => Unit)
  (fun _ _ => false)
  (fun x0 x1  f => f x0 x1)
  (fun _ _ _ => false)
  (fun _ _ _ _ => false)
  (fun _ _ => false)
  (fun _ _ => false)
  (fun _ _ _ _ => false)
  (fun _ _ => false)
  (fun _ _ => false)
  (fun _ _ _ _ _ _ => false)
  (fun _ => false)
  (fun _ _ _ _ => false)
  (fun _ => false)
  (fun _ _ _ => false)
  (fun _ _ _ => false)
  (fun _ _ => ()) () (fun _ _ _ _ => ()) v
def iFlt (v : Value) : (FloatKind → Nat → Bool) → Bool :=
 @Value.rec (fun _ => (FloatKind → Nat → Bool) → Bool) (fun _ => Unit) (fun _ => Unit)
  (fun _ _ => false)
  (fun _ _ _ => false)
  (fun x0 x1  f => f x0 x1)
  (fun _ _ _ _ => false)
  (fun _ _ => false)
  (fun _ _ => false)
  (fun _ _ _ _ => false)
  (fun _ _ => false)
  (fun _ _ => false)
  (fun _ _ _ _ _ _ => false)
  (fun _ => false)
  (fun _ _ _ _ => false)
  (fun _ => false)
  (fun _ _ _ => false)
  (fun _ _ _ => false)
  (fun _ _ => ()) () (fun _ _ _ _ => ()) v
def iStr (v : Value) : (ByteArray → Bool) → Bool :=
 @Value.rec (fun _ => (ByteArray → Bool) → Bool) (fun _ => Unit) (fun _ => Unit)
  (fun _ _ => false)
  (fun _ _ _ => false)
  (fun _ _ _ => false)
  (fun _ _ _ _ => false)
  (fun x0  f => f x0)
  (fun _ _ => false)
  (fun _ _ _ _ => false)
  (fun _ _ => false)
  (fun _ _ => false)
  (fun _ _ _ _ _ _ => false)
  (fun _ => false)
  (fun _ _ _ _ => false)
  (fun _ => false)
  (fun _ _ _ => false)
  (fun _ _ _ => false)
  (fun _ _ => ()) () (fun _ _ _ _ => ()) v
def iPtr (v : Value) : (Option Addr → Bool) → Bool :=
 @Value.rec (fun _ => (Option Addr → Bool) → Bool) (fun _ => Unit) (fun _ => Unit)
  (fun _ _ => false)
  (fun _ _ _ => false)
  (fun _ _ _ => false)
  (fun _ _ _ _ => false)
  (fun _ _ => false)
  (fun x0  f => f x0)
  (fun _ _ _ _ => false)
  (fun _ _ => false)
  (fun _ _ => false)
  (fun _ _ _ _ _ _ => false)
  (fun _ => false)
  (fun _ _ _ _ => false)
  (fun _ => false)
  (fun _ _ _ => false)
  (fun _ _ _ => false)
  (fun _ _ => ()) () (fun _ _ _ _ => ()) v
def iSlc (v : Value) : (Option Addr → Nat → Nat → Bool) → Bool :=
 @Value.rec (fun _ => (Option Addr → Nat → Nat → Bool) → Bool) (fun _ => Unit) (fun _ => Unit)
  (fun _ _ => false)
  (fun _ _ _ => false)
  (fun _ _ _ => false)
  (fun _ _ _ _ => false)
  (fun _ _ => false)
  (fun _ _ => false)
  (fun x0 x1 x2  f => f x0 x1 x2)
  (fun _ _ => false)
  (fun _ _ => false)
  (fun _ _ _ _ _ _ => false)
  (fun _ => false)
  (fun _ _ _ _ => false)
  (fun _ => false)
  (fun _ _ _ => false)
  (fun _ _ _ => false)
  (fun _ _ => ()) () (fun _ _ _ _ => ()) v
def iMap (v : Value) : (Option Nat → Bool) → Bool :=
 @Value.rec (fun _ => (Option Nat → Bool) → Bool) (fun _ => Unit) (fun _ => Unit)
  (fun _ _ => false)
  (fun _ _ _ => false)
  (fun _ _ _ => false)
  (fun _ _ _ _ => false)
  (fun _ _ => false)
  (fun _ _ => false)
  (fun _ _ _ _ => false)
  (fun x0  f => f x0)
  (fun _ _ => false)
  (fun _ _ _ _ _ _ => false)
  (fun _ => false)
  (fun _ _ _ _ => false)
  (fun _ => false)
  (fun _ _ _ => false)
  (fun _ _ _ => false)
  (fun _ _ => ()) () (fun _ _ _ _ => ()) v
def iFunc (v : Value) : (Fn → Array Value → Array Value → Bool) → Bool :=
 @Value.rec (fun _ => (Fn → Array Value → Array Value → Bool) → Bool) (fun _ => Unit) (fun _ => Unit)
  (fun _ _ => false)
  (fun _ _ _ => false)
  (fun _ _ _ => false)
  (fun _ _ _ _ => false)
  (fun _ _ => false)
  (fun _ _ => false)
  (fun _ _ _ _ => false)
  (fun _ _ => false)
  (fun _ _ => false)
  (fun x0 x1 x2 _ _ f => f x0 x1 x2)
  (fun _ => false)
  (fun _ _ _ _ => false)
  (fun _ => false)
  (fun _ _ _ => false)
  (fun _ _ _ => false)
  (fun _ _ => ()) () (fun _ _ _ _ => ()) v
def iNilF (v : Value) : (Bool) → Bool :=
 @Value.rec (fun _ => (Bool) → Bool) (fun _ => Unit) (fun _ => Unit)
  (fun _ _ => false)
  (fun _ _ _ => false)
  (fun _ _ _ => false)
  (fun _ _ _ _ => false)
  (fun _ _ => false)
  (fun _ _ => false)
  (fun _ _ _ _ => false)
  (fun _ _ => false)
  (fun _ _ => false)
  (fun _ _ _ _ _ _ => false)
  (fun f => f)
  (fun _ _ _ _ => false)
  (fun _ => false)
  (fun _ _ _ => false)
  (fun _ _ _ => false)
  (fun _ _ => ()) () (fun _ _ _ _ => ()) v
def iIfc (v : Value) : (TypeId → Value → Bool) → Bool :=
 @Value.rec (fun _ => (TypeId → Value → Bool) → Bool) (fun _ => Unit) (fun _ => Unit)
  (fun _ _ => false)
  (fun _ _ _ => false)
  (fun _ _ _ => false)
  (fun _ _ _ _ => false)
  (fun _ _ => false)
  (fun _ _ => false)
  (fun _ _ _ _ => false)
  (fun _ _ => false)
  (fun _ _ => false)
  (fun _ _ _ _ _ _ => false)
  (fun _ => false)
  (fun x0 x1 _ f => f x0 x1)
  (fun _ => false)
  (fun _ _ _ => false)
  (fun _ _ _ => false)
  (fun _ _ => ()) () (fun _ _ _ _ => ()) v
def iNilI (v : Value) : (Bool) → Bool :=
 @Value.rec (fun _ => (Bool) → Bool) (fun _ => Unit) (fun _ => Unit)
  (fun _ _ => false)
  (fun _ _ _ => false)
  (fun _ _ _ => false)
  (fun _ _ _ _ => false)
  (fun _ _ => false)
  (fun _ _ => false)
  (fun _ _ _ _ => false)
  (fun _ _ => false)
  (fun _ _ => false)
  (fun _ _ _ _ _ _ => false)
  (fun _ => false)
  (fun _ _ _ _ => false)
  (fun f => f)
  (fun _ _ _ => false)
  (fun _ _ _ => false)
  (fun _ _ => ()) () (fun _ _ _ _ => ()) v
def iAgg (v : Value) : (Array Value → Bool) → Bool :=
 @Value.rec (fun _ => (Array Value → Bool) → Bool) (fun _ => Unit) (fun _ => Unit)
  (fun _ _ => false)
  (fun _ _ _ => false)
  (fun _ _ _ => false)
  (fun _ _ _ _ => false)
  (fun _ _ => false)
  (fun _ _ => false)
  (fun _ _ _ _ => false)
  (fun _ _ => false)
  (fun _ _ => false)
  (fun _ _ _ _ _ _ => false)
  (fun _ => false)
  (fun _ _ _ _ => false)
  (fun _ => false)
  (fun x0 _ f => f x0)
  (fun _ _ _ => false)
  (fun _ _ => ()) () (fun _ _ _ _ => ()) v
def iTup (v : Value) : (Array Value → Bool) → Bool :=
 @Value.rec (fun _ => (Array Value → Bool) → Bool) (fun _ => Unit) (fun _ => Unit)
  (fun _ _ => false)
  (fun _ _ _ => false)
  (fun _ _ _ => false)
  (fun _ _ _ _ => false)
  (fun _ _ => false)
  (fun _ _ => false)
  (fun _ _ _ _ => false)
  (fun _ _ => false)
  (fun _ _ => false)
  (fun _ _ _ _ _ _ => false)
  (fun _ => false)
  (fun _ _ _ _ => false)
  (fun _ => false)
  (fun _ _ _ => false)
  (fun x0 _ f => f x0)
  (fun _ _ => ()) () (fun _ _ _ _ => ()) v
theorem iBool_eq {v : Value} {f : Bool → Bool} (h : iBool v f = true) : ∃ x0, v = .bool x0 ∧ f x0 = true := by
 cases v <;> first | exact ⟨_, rfl, h⟩ | cases h
theorem iInt_eq {v : Value} {f : IntKind → Int → Bool} (h : iInt v f = true) : ∃ x0 x1, v = .int x0 x1 ∧ f x0 x1 = true := by
 cases v <;> first | exact ⟨_, _, rfl, h⟩ | cases h
theorem iFlt_eq {v : Value} {f : FloatKind → Nat → Bool} (h : iFlt v f = true) : ∃ x0 x1, v = .float x0 x1 ∧ f x0 x1 = true := by
 cases v <;> first | exact ⟨_, _, rfl, h⟩ | cases h
theorem iStr_eq {v : Value} {f : ByteArray → Bool} (h : iStr v f = true) : ∃ x0, v = .string x0 ∧ f x0 = true := by
 cases v <;> first | exact ⟨_, rfl, h⟩ | cases h
theorem iPtr_eq {v : Value} {f : Option Addr → Bool} (h : iPtr v f = true) : ∃ x0, v = .pointer x0 ∧ f x0 = true := by
 cases v <;> first | exact ⟨_, rfl, h⟩ | cases h
theorem iSlc_eq {v : Value} {f : Option Addr → Nat → Nat → Bool} (h : iSlc v f = true) : ∃ x0 x1 x2, v = .slice x0 x1 x2 ∧ f x0 x1 x2 = true := by
 cases v <;> first | exact ⟨_, _, _, rfl, h⟩ | cases h
theorem iMap_eq {v : Value} {f : Option Nat → Bool} (h : iMap v f = true) : ∃ x0, v = .map x0 ∧ f x0 = true := by
 cases v <;> first | exact ⟨_, rfl, h⟩ | cases h
theorem iFunc_eq {v : Value} {f : Fn → Array Value → Array Value → Bool} (h : iFunc v f = true) : ∃ x0 x1 x2, v = .func x0 x1 x2 ∧ f x0 x1 x2 = true := by
 cases v <;> first | exact ⟨_, _, _, rfl, h⟩ | cases h
theorem iNilF_eq {v : Value} {f : Bool} (h : iNilF v f = true) : v = .nilFunc  ∧ f  = true := by
 cases v <;> first | exact ⟨rfl, h⟩ | cases h
theorem iIfc_eq {v : Value} {f : TypeId → Value → Bool} (h : iIfc v f = true) : ∃ x0 x1, v = .iface x0 x1 ∧ f x0 x1 = true := by
 cases v <;> first | exact ⟨_, _, rfl, h⟩ | cases h
theorem iNilI_eq {v : Value} {f : Bool} (h : iNilI v f = true) : v = .nilIface  ∧ f  = true := by
 cases v <;> first | exact ⟨rfl, h⟩ | cases h
theorem iAgg_eq {v : Value} {f : Array Value → Bool} (h : iAgg v f = true) : ∃ x0, v = .agg x0 ∧ f x0 = true := by
 cases v <;> first | exact ⟨_, rfl, h⟩ | cases h
theorem iTup_eq {v : Value} {f : Array Value → Bool} (h : iTup v f = true) : ∃ x0, v = .tuple x0 ∧ f x0 = true := by
 cases v <;> first | exact ⟨_, rfl, h⟩ | cases h
def eqBl (a b : Bool) : Bool := @Bool.rec (fun _ => Bool) (@Bool.rec (fun _ => Bool) true false b) b a
def knd (k : IntKind) : Nat := @IntKind.rec (fun _ => Nat) 0 1 2 3 4 5 6 7 k
def kndF (k : FloatKind) : Nat := @FloatKind.rec (fun _ => Nat) 0 1 k
theorem kndF_eq {a b : FloatKind} (h : Nat.beq (kndF a) (kndF b) = true) : a = b := by
 cases a <;> cases b <;> first | rfl | cases h
def eqI (a : Int) : Int → Bool := @Int.rec (fun _ => Int → Bool) (fun x b => @Int.rec (fun _ => Bool) (Nat.beq x) (fun _ => false) b) (fun x b => @Int.rec (fun _ => Bool) (fun _ => false) (Nat.beq x) b) a
def eqS (a b : ByteArray) : Bool := Nat.beq (cmpq a b) 1
def eqAd (a b : Addr) : Bool := bAnd (Nat.beq a.block b.block) (bAnd (Nat.beq a.off b.off) (@Option.rec _ (fun _ => Bool) (@Option.rec _ (fun _ => Bool) true (fun _ => false) b.spot) (fun _ => false) a.spot))
def eqOA (a b : Option Addr) : Bool := @Option.rec _ (fun _ => Bool) (@Option.rec _ (fun _ => Bool) true (fun _ => false) b) (fun x => @Option.rec _ (fun _ => Bool) false (fun y => eqAd x y) b) a
def eqN (a b : Option Nat) : Bool := @Option.rec _ (fun _ => Bool) (@Option.rec _ (fun _ => Bool) true (fun _ => false) b) (fun x => @Option.rec _ (fun _ => Bool) false (fun y => Nat.beq x y) b) a
def eqFn (a b : Fn) : Bool := @Fn.rec (fun _ => Bool) (fun x => @Fn.rec (fun _ => Bool) (fun y => Nat.beq x y) (fun _ => false) (fun _ _ => false) (fun _ _ _ _ => false) (fun _ => false) b) (fun _ => false) (fun _ _ => false) (fun _ _ _ _ => false) (fun _ => false) a
def eqV (a : Value) : Value → Bool :=
 @Value.rec (fun _ => Value → Bool) (fun _ => List Value → Bool) (fun _ => List Value → Bool)
  (fun b v => iBool v (eqBl b))
  (fun k n v => iInt v (fun k' n' => bAnd (Nat.beq (knd k) (knd k')) (eqI n n')))
  (fun k n v => iFlt v (fun k' n' => bAnd (Nat.beq (kndF k) (kndF k')) (Nat.beq n n')))
  (fun _ _ _ _ => false)
  (fun s v => iStr v (eqS s))
  (fun a v => iPtr v (eqOA a))
  (fun a n c v => iSlc v (fun a' n' c' => bAnd (eqOA a a') (bAnd (Nat.beq n n') (Nat.beq c c'))))
  (fun r v => iMap v (eqN r))
  (fun _ _ => false)
  (fun fn x y ihx ihy v => iFunc v (fun fn' x' y' => bAnd (eqFn fn fn') (bAnd (ihx x'.toList) (ihy y'.toList))))
  (fun v => iNilF v true)
  (fun t x ih v => iIfc v (fun t' x' => bAnd (Nat.beq t t') (ih x')))
  (fun v => iNilI v true)
  (fun a ih v => iAgg v (fun a' => ih a'.toList))
  (fun a ih v => iTup v (fun a' => ih a'.toList))
  (fun l ih => ih)
  (fun m => @List.rec Value (fun _ => Bool) true (fun _ _ _ => false) m)
  (fun x l ihx ihl m => @List.rec Value (fun _ => Bool) false (fun y m' _ => bAnd (ihx y) (ihl m')) m)
  a
def eqVA (a : Array Value) : List Value → Bool :=
 @Value.rec_1 (fun _ => Value → Bool) (fun _ => List Value → Bool) (fun _ => List Value → Bool)
  (fun b v => iBool v (eqBl b))
  (fun k n v => iInt v (fun k' n' => bAnd (Nat.beq (knd k) (knd k')) (eqI n n')))
  (fun k n v => iFlt v (fun k' n' => bAnd (Nat.beq (kndF k) (kndF k')) (Nat.beq n n')))
  (fun _ _ _ _ => false)
  (fun s v => iStr v (eqS s))
  (fun a v => iPtr v (eqOA a))
  (fun a n c v => iSlc v (fun a' n' c' => bAnd (eqOA a a') (bAnd (Nat.beq n n') (Nat.beq c c'))))
  (fun r v => iMap v (eqN r))
  (fun _ _ => false)
  (fun fn x y ihx ihy v => iFunc v (fun fn' x' y' => bAnd (eqFn fn fn') (bAnd (ihx x'.toList) (ihy y'.toList))))
  (fun v => iNilF v true)
  (fun t x ih v => iIfc v (fun t' x' => bAnd (Nat.beq t t') (ih x')))
  (fun v => iNilI v true)
  (fun a ih v => iAgg v (fun a' => ih a'.toList))
  (fun a ih v => iTup v (fun a' => ih a'.toList))
  (fun l ih => ih)
  (fun m => @List.rec Value (fun _ => Bool) true (fun _ _ _ => false) m)
  (fun x l ihx ihl m => @List.rec Value (fun _ => Bool) false (fun y m' _ => bAnd (ihx y) (ihl m')) m)
  a
def eqVL (a : List Value) : List Value → Bool :=
 @Value.rec_2 (fun _ => Value → Bool) (fun _ => List Value → Bool) (fun _ => List Value → Bool)
  (fun b v => iBool v (eqBl b))
  (fun k n v => iInt v (fun k' n' => bAnd (Nat.beq (knd k) (knd k')) (eqI n n')))
  (fun k n v => iFlt v (fun k' n' => bAnd (Nat.beq (kndF k) (kndF k')) (Nat.beq n n')))
  (fun _ _ _ _ => false)
  (fun s v => iStr v (eqS s))
  (fun a v => iPtr v (eqOA a))
  (fun a n c v => iSlc v (fun a' n' c' => bAnd (eqOA a a') (bAnd (Nat.beq n n') (Nat.beq c c'))))
  (fun r v => iMap v (eqN r))
  (fun _ _ => false)
  (fun fn x y ihx ihy v => iFunc v (fun fn' x' y' => bAnd (eqFn fn fn') (bAnd (ihx x'.toList) (ihy y'.toList))))
  (fun v => iNilF v true)
  (fun t x ih v => iIfc v (fun t' x' => bAnd (Nat.beq t t') (ih x')))
  (fun v => iNilI v true)
  (fun a ih v => iAgg v (fun a' => ih a'.toList))
  (fun a ih v => iTup v (fun a' => ih a'.toList))
  (fun l ih => ih)
  (fun m => @List.rec Value (fun _ => Bool) true (fun _ _ _ => false) m)
  (fun x l ihx ihl m => @List.rec Value (fun _ => Bool) false (fun y m' _ => bAnd (ihx y) (ihl m')) m)
  a
def eqL (l : List Value) : List Value → Bool :=
 @List.rec Value (fun _ => List Value → Bool) (fun m => @List.rec Value (fun _ => Bool) true (fun _ _ _ => false) m)
  (fun x l ihl m => @List.rec Value (fun _ => Bool) false (fun y m' _ => bAnd (eqV x y) (ihl m')) m) l
theorem eqBl_eq {a b : Bool} (h : eqBl a b = true) : a = b := by cases a <;> cases b <;> first | rfl | cases h
theorem knd_eq {a b : IntKind} (h : Nat.beq (knd a) (knd b) = true) : a = b := by cases a <;> cases b <;> first | rfl | cases h
theorem eqI_eq {a b : Int} (h : eqI a b = true) : a = b := by
 cases a <;> cases b <;> first | exact congrArg _ (Nat.eq_of_beq_eq_true h) | cases h
theorem eqS_eq {a b : ByteArray} (h : eqS a b = true) : a = b := by
 have := (cmpL_spec a.data.toList b.data.toList).2.1.1 (Nat.eq_of_beq_eq_true h)
 exact ByteArray.ext (Array.ext' this)
theorem eqAd_eq {a b : Addr} (h : eqAd a b = true) : a = b := by
 obtain ⟨a1, a2, a3⟩ := a
 obtain ⟨b1, b2, b3⟩ := b
 obtain ⟨h1, h⟩ := bAnd_eq h
 obtain ⟨h2, h3⟩ := bAnd_eq h
 obtain rfl : a1 = b1 := Nat.eq_of_beq_eq_true h1
 obtain rfl : a2 = b2 := Nat.eq_of_beq_eq_true h2
 cases a3 <;> cases b3 <;> first | rfl | cases h3
theorem eqOA_eq {a b : Option Addr} (h : eqOA a b = true) : a = b := by
 cases a <;> cases b <;> first | rfl | exact congrArg _ (eqAd_eq h) | cases h
theorem eqN_eq {a b : Option Nat} (h : eqN a b = true) : a = b := by
 cases a <;> cases b <;> first | rfl | exact congrArg _ (Nat.eq_of_beq_eq_true h) | cases h
theorem eqFn_eq {a b : Fn} (h : eqFn a b = true) : a = b := by
 cases a <;> cases b <;> first | exact congrArg _ (Nat.eq_of_beq_eq_true h) | cases h
theorem eqV_eq (a : Value) : ∀ b, eqV a b = true → a = b := by
 refine @Value.rec (fun a => ∀ b, eqV a b = true → a = b) (fun a => ∀ l, eqVA a l = true → a.toList = l) (fun a => ∀ l, eqVL a l = true → a = l) ?_ ?_ ?_ ?_ ?_ ?_ ?_ ?_ ?_ ?_ ?_ ?_ ?_ ?_ ?_ ?_ ?_ ?_ a
 ·intro b v h
  obtain ⟨x, rfl, h1⟩ := iBool_eq h
  rw [eqBl_eq h1]
 ·intro k n v h
  obtain ⟨x, y, rfl, h1⟩ := iInt_eq h
  obtain ⟨h1, h2⟩ := bAnd_eq h1
  rw [knd_eq h1, eqI_eq h2]
 ·intro k n v h
  obtain ⟨x, y, rfl, h1⟩ := iFlt_eq h
  obtain ⟨h1, h2⟩ := bAnd_eq h1
  rw [kndF_eq h1, Nat.eq_of_beq_eq_true h2]
 ·intro k n m v h; cases h
 ·intro s v h
  obtain ⟨x, rfl, h1⟩ := iStr_eq h
  rw [eqS_eq h1]
 ·intro s v h
  obtain ⟨x, rfl, h1⟩ := iPtr_eq h
  rw [eqOA_eq h1]
 ·intro a n c v h
  obtain ⟨x, y, z, rfl, h1⟩ := iSlc_eq h
  obtain ⟨h1, h2⟩ := bAnd_eq h1
  obtain ⟨h2, h3⟩ := bAnd_eq h2
  rw [eqOA_eq h1, Nat.eq_of_beq_eq_true h2, Nat.eq_of_beq_eq_true h3]
 ·intro s v h
  obtain ⟨x, rfl, h1⟩ := iMap_eq h
  rw [eqN_eq h1]
 ·intro s v h; cases h
 ·intro fn x y ihx ihy v h
  obtain ⟨fn', x', y', rfl, h1⟩ := iFunc_eq h
  obtain ⟨h1, h2⟩ := bAnd_eq h1
  obtain ⟨h2, h3⟩ := bAnd_eq h2
  rw [eqFn_eq h1, Array.ext' (ihx _ h2), Array.ext' (ihy _ h3)]
 ·intro v h
  obtain ⟨rfl, _⟩ := iNilF_eq h
  rfl
 ·intro t x ih v h
  obtain ⟨t', x', rfl, h1⟩ := iIfc_eq h
  obtain ⟨h1, h2⟩ := bAnd_eq h1
  rw [Nat.eq_of_beq_eq_true h1, ih _ h2]
 ·intro v h
  obtain ⟨rfl, _⟩ := iNilI_eq h
  rfl
 ·intro a ih v h
  obtain ⟨x, rfl, h1⟩ := iAgg_eq h
  rw [Array.ext' (ih _ h1)]
 ·intro a ih v h
  obtain ⟨x, rfl, h1⟩ := iTup_eq h
  rw [Array.ext' (ih _ h1)]
 ·intro l ih
  exact ih
 ·intro m h
  cases m with
  | nil => rfl
  | cons _ _ => cases h
 ·intro x l ihx ihl m h
  cases m with
  | nil => cases h
  | cons y m =>
   obtain ⟨h1, h2⟩ := bAnd_eq h
   rw [ihx _ h1, ihl _ h2]
theorem eqL_eq : ∀ (l m : List Value), eqL l m = true → l = m
 | [], [], _ => rfl
 | [], _ :: _, h => by cases h
 | _ :: _, [], h => by cases h
 | x :: l, y :: m, h => by
  obtain ⟨h1, h2⟩ := bAnd_eq h
  rw [eqV_eq _ _ h1, eqL_eq l m h2]
def eqE (l : List (Value × Value)) : List (Value × Value) → Bool :=
 @List.rec (Value × Value) (fun _ => List (Value × Value) → Bool) (fun m => @List.rec (Value × Value) (fun _ => Bool) true (fun _ _ _ => false) m)
  (fun x l ihl m => @List.rec (Value × Value) (fun _ => Bool) false (fun y m' _ => bAnd (eqV x.1 y.1) (bAnd (eqV x.2 y.2) (ihl m'))) m) l
theorem eqE_eq : ∀ (l m : List (Value × Value)), eqE l m = true → l = m
 | [], [], _ => rfl
 | [], _ :: _, h => by cases h
 | _ :: _, [], h => by cases h
 | x :: l, y :: m, h => by
  obtain ⟨h1, h2⟩ := bAnd_eq h
  obtain ⟨h2, h3⟩ := bAnd_eq h2
  rw [Prod.ext (eqV_eq _ _ h1) (eqV_eq _ _ h2), eqE_eq l m h3]
inductive OS where
 | cells (l : List Value) (n z : Nat)
 | ro (l : List Value) (n : Nat)
 | map (es : List (Value × Value))
 | iter (s : ByteArray) (p : Nat)
 | dead
def OS.mk (x : OS) : AObj := @OS.rec (fun _ => AObj) (fun l n z => .cells (T.e.fill 0 l) n z) (fun l n => .ro (T.e.fill 0 l) n) (fun es => .map es) (fun s p => .iter s p) .dead x
def rowSub (c : T Value) (l : List Value) : Nat → Bool :=
 @List.rec Value (fun _ => Nat → Bool) (fun _ => true) (fun v _ ih k => bAnd (@Option.rec _ (fun _ => Bool) false (eqV v) (c.gk k)) (ih (Nat.succ k))) l
def iCells (o : AObj) : (T Value → Nat → Nat → Bool) → Bool := @AObj.rec (fun _ => (T Value → Nat → Nat → Bool) → Bool) (fun c n z f => f c n z) (fun _ _ _ => false) (fun _ _ => false) (fun _ _ _ => false) (fun _ => false) (fun _ => false) o
def iRo (o : AObj) : (T Value → Nat → Bool) → Bool := @AObj.rec (fun _ => (T Value → Nat → Bool) → Bool) (fun _ _ _ _ => false) (fun c n f => f c n) (fun _ _ => false) (fun _ _ _ => false) (fun _ => false) (fun _ => false) o
def iMp (o : AObj) : (List (Value × Value) → Bool) → Bool := @AObj.rec (fun _ => (List (Value × Value) → Bool) → Bool) (fun _ _ _ _ => false) (fun _ _ _ => false) (fun es f => f es) (fun _ _ _ => false) (fun _ => false) (fun _ => false) o
def iIt (o : AObj) : (ByteArray → Nat → Bool) → Bool := @AObj.rec (fun _ => (ByteArray → Nat → Bool) → Bool) (fun _ _ _ _ => false) (fun _ _ _ => false) (fun _ _ => false) (fun s p f => f s p) (fun _ => false) (fun _ => false) o
def subO (x : OS) : AObj → Bool :=
 @OS.rec (fun _ => AObj → Bool) (fun l n z o => iCells o (fun c n' z' => bAnd (Nat.beq n n') (bAnd (Nat.beq z z') (rowSub c l 0))))
  (fun l n o => iRo o (fun c n' => bAnd (Nat.beq n n') (rowSub c l 0))) (fun es o => iMp o (eqE es)) (fun s p o => iIt o (fun s' p' => bAnd (eqS s s') (Nat.beq p p'))) (fun _ => true) x
theorem rowSub_eq (c : T Value) : ∀ (l : List Value) (k : Nat), rowSub c l k = true → ∀ j v, l[j]? = some v → c.get (k + j) = some v
 | [], k, _, j, v, h => by simp at h
 | x :: l, k, h, j, v, hv => by
  obtain ⟨h1, h2⟩ := bAnd_eq h
  cases j with
  | zero =>
   simp at hv
   subst hv
   rw [T.gk_eq] at h1
   cases hc : c.get k with
   | none => rw [hc] at h1; cases h1
   | some y =>
    rw [hc] at h1
    rw [eqV_eq _ _ h1]
  | succ j =>
   have := rowSub_eq c l (k + 1) h2 j v (by simpa using hv)
   rw [show k + (j + 1) = k + 1 + j by omega]
   exact this
theorem rowSub_wk {c : T Value} {l : List Value} (h : rowSub c l 0 = true) (k : Nat) (v : Value) (hv : ((T.e : T Value).fill 0 l).get k = some v) : c.get k = some v := by
 by_cases hk : k < l.length
 ·rw [get_fill0 l k hk] at hv
  have := rowSub_eq c l 0 h k v hv
  rw [Nat.zero_add] at this
  exact this
 ·rw [T.get_fill, if_neg (by omega)] at hv
  cases hv
theorem subO_wk {x : OS} {o : AObj} (h : subO x o = true) : Wk x.mk o := by
 cases x with
 | cells l n z =>
  cases o with
  | cells c n' z' =>
   obtain ⟨h1, h2⟩ := bAnd_eq h
   obtain ⟨h2, h3⟩ := bAnd_eq h2
   exact ⟨Nat.eq_of_beq_eq_true h1, Nat.eq_of_beq_eq_true h2, fun k v _ hv => rowSub_wk h3 k v hv⟩
  | _ => cases h
 | ro l n =>
  cases o with
  | ro c n' =>
   obtain ⟨h1, h3⟩ := bAnd_eq h
   exact ⟨Nat.eq_of_beq_eq_true h1, fun k v _ hv => rowSub_wk h3 k v hv⟩
  | _ => cases h
 | map es =>
  cases o with
  | map es' => exact eqE_eq _ _ h
  | _ => cases h
 | iter s p =>
  cases o with
  | iter s' p' =>
   obtain ⟨h1, h2⟩ := bAnd_eq h
   exact ⟨eqS_eq h1, Nat.eq_of_beq_eq_true h2⟩
  | _ => cases h
 | dead => trivial
structure MS where
 args : List Value
 nx : Nat
 pre : List (Nat × OS)
 ans : Value
 nx' : Nat
 post : List (Nat × OS)
def mkL (l : List (Nat × OS)) : List (Nat × AObj) := @List.rec (Nat × OS) (fun _ => List (Nat × AObj)) [] (fun x _ ih => (x.1, x.2.mk) :: ih) l
theorem mkL_mem : ∀ {l : List (Nat × OS)} {b : Nat} {o : AObj}, (b, o) ∈ mkL l → ∃ x, (b, x) ∈ l ∧ o = x.mk
 | [], _, _, h => by cases h
 | x :: l, b, o, h => by
  rcases List.mem_cons.1 h with h | h
  ·cases h
   exact ⟨x.2, by simp, rfl⟩
  ·obtain ⟨y, h1, h2⟩ := mkL_mem h
   exact ⟨y, List.mem_cons_of_mem _ h1, h2⟩
theorem mem_mkL : ∀ {l : List (Nat × OS)} {b : Nat} {x : OS}, (b, x) ∈ l → (b, x.mk) ∈ mkL l
 | y :: l, b, x, h => by
  rcases List.mem_cons.1 h with h | h
  ·cases h
   exact List.mem_cons_self
  ·exact List.mem_cons_of_mem _ (mem_mkL h)
def MS.memo (m : MS) : Memo := ⟨m.args, m.nx, mkL m.pre, m.ans, m.nx', mkL m.post⟩
def lookB (h : T AObj) (l : List (Nat × OS)) : Bool :=
 @List.rec (Nat × OS) (fun _ => Bool) true (fun x _ ih => bAnd (@Option.rec _ (fun _ => Bool) false (subO x.2) (h.gk x.1)) ih) l
theorem lookB_eq (h : T AObj) : ∀ (l : List (Nat × OS)), lookB h l = true → ∀ b x, (b, x) ∈ l → ∃ o, h.get b = some o ∧ Wk x.mk o
 | y :: l, hl, b, x, hx => by
  obtain ⟨h1, h2⟩ := bAnd_eq hl
  rcases List.mem_cons.1 hx with hx | hx
  ·subst hx
   rw [T.gk_eq] at h1
   cases hc : h.get b with
   | none => simp only [hc] at h1; cases h1
   | some o => simp only [hc] at h1; exact ⟨o, rfl, subO_wk h1⟩
  ·exact lookB_eq h l h2 b x hx
def fitsB (m : MS) (args : List Value) (s : AS) : Bool := bAnd (Nat.beq s.nx m.nx) (bAnd (eqL m.args args) (lookB s.h m.pre))
theorem fitsB_eq {m : MS} {args : List Value} {s : AS} (h : fitsB m args s = true) : m.memo.Fits args s := by
 obtain ⟨h1, h2⟩ := bAnd_eq h
 obtain ⟨h2, h3⟩ := bAnd_eq h2
 refine ⟨(eqL_eq _ _ h2).symm, Nat.eq_of_beq_eq_true h1, fun b o hb => ?_⟩
 obtain ⟨x, hx, rfl⟩ := mkL_mem hb
 exact lookB_eq s.h m.pre h3 b x hx
def ranB (m : MS) (r : R) : Bool := @Option.rec _ (fun _ => Bool) false (fun p => bAnd (eqV m.ans p.1) (bAnd (Nat.beq p.2.nx m.nx') (lookB p.2.h m.post))) r
def fixS (x : OS) : Bool := match x with
 | .ro _ _ => true
 | _ => false
def deadS (x : OS) : Bool := match x with
 | .dead => true
 | _ => false
def listsB (m : MS) : Bool :=
 m.pre.all (fun x => !deadS x.2 && (fixS x.2 || m.post.any fun y => y.1 == x.1)) && m.post.all (fun y => Nat.ble m.nx y.1 || m.pre.any fun x => x.1 == y.1 && !fixS x.2)
theorem fixS_eq (x : OS) : fixed x.mk = fixS x := by cases x <;> rfl
theorem ms_ok {E : Env} {F D : Nat} {f : FuncId} {m : MS} (h1 : ranB m (callq E F D f m.args m.memo.st pairK) = true) (h2 : listsB m = true) : m.memo.Ok (callA E F D) f := by
 obtain ⟨r, hr⟩ : ∃ r, r = callq E F D f m.args m.memo.st pairK := ⟨_, rfl⟩
 rw [← hr] at h1
 have hrun := callA_of_q hr.symm
 match r, h1 with
 | some (v, t'), h1 =>
  obtain ⟨e1, h1⟩ := bAnd_eq h1
  obtain ⟨e2, e3⟩ := bAnd_eq h1
  unfold listsB at h2
  simp only [Bool.and_eq_true, List.all_eq_true, Bool.or_eq_true, List.any_eq_true, Bool.not_eq_true', beq_iff_eq, Nat.ble_eq] at h2
  obtain ⟨k1, k2⟩ := h2
  refine ⟨⟨t', ?_, Nat.eq_of_beq_eq_true e2, fun b o hb => ?_⟩, fun b o hb => ?_, fun b o hb hf => ?_, fun b o hb => ?_⟩
  ·have := eqV_eq _ _ e1
   show _ = some (m.ans, t')
   rw [this]
   exact hrun
  ·obtain ⟨x, hx, rfl⟩ := mkL_mem hb
   exact lookB_eq t'.h m.post e3 b x hx
  ·obtain ⟨x, hx, rfl⟩ := mkL_mem hb
   have := (k1 _ hx).1
   cases x <;> first | rfl | cases this
  ·obtain ⟨x, hx, rfl⟩ := mkL_mem hb
   rw [fixS_eq] at hf
   rcases (k1 _ hx).2 with h | ⟨y, h3, h4⟩
   ·rw [hf] at h; cases h
   ·obtain ⟨yb, yx⟩ := y
    have h4 : yb = b := h4
    subst h4
    exact ⟨_, mem_mkL h3⟩
  ·obtain ⟨x, hx, rfl⟩ := mkL_mem hb
   rcases k2 _ hx with h | ⟨y, h3, h4, h5⟩
   ·exact .inl h
   ·obtain ⟨yb, yx⟩ := y
    have h4 : yb = b := h4
    subst h4
    exact .inr ⟨_, mem_mkL h3, by rw [fixS_eq]; exact h5⟩
def memoP (ms : List MS) (els : List Value → AS → R) : List Value → AS → R :=
 @List.rec MS (fun _ => List Value → AS → R) els (fun m _ ih args s => @Bool.rec (fun _ => R) (ih args s) (some (m.ans, m.memo.left s)) (fitsB m args s)) ms
theorem memoP_ok {P : Program} {call : CallF} {f : FuncId} (hC : CallOk P call) {els : List Value → AS → R}
  (hE : ∀ args s v s', els args s = some (v, s') → ∀ i w args', Rel i s w → Gl i → VRs i args args' → FSim P f args' i s w v s') :
  ∀ (ms : List MS), (∀ m ∈ ms, m.memo.Ok call f) → ∀ args s v s', memoP ms els args s = some (v, s') → ∀ i w args', Rel i s w → Gl i → VRs i args args' → FSim P f args' i s w v s'
 | [], _, args, s, v, s', h => hE args s v s' h
 | m :: ms, hm, args, s, v, s', h => by
  intro i w args' hR hG hv
  have e : memoP (m :: ms) els args s = @Bool.rec (fun _ => R) (memoP ms els args s) (some (m.ans, m.memo.left s)) (fitsB m args s) := rfl
  rw [e] at h
  cases hf : fitsB m args s with
  | true =>
   rw [hf] at h
   have h : some (m.ans, m.memo.left s) = some (v, s') := h
   cases h
   exact Memo.fsim hC (hm m List.mem_cons_self) (fitsB_eq hf) hR hG hv
  | false =>
   rw [hf] at h
   exact memoP_ok hC hE ms (fun m' h' => hm m' (List.mem_cons_of_mem _ h')) args s v s' h i w args' hR hG hv
end
end Go.Ax
/- Bytes, written as one number. -/
namespace Go.Ax
open Go
noncomputable section
def nbV (n x : Nat) : List Value := Nat.rec (motive := fun _ => Nat → List Value) (fun _ => []) (fun _ ih x => natK x fun x => .int .u8 (.ofNat (Nat.mod x 256)) :: ih (Nat.div x 256)) n x
def nbL (n x : Nat) : List UInt8 := Nat.rec (motive := fun _ => Nat → List UInt8) (fun _ => []) (fun _ ih x => natK x fun x => UInt8.ofNat (Nat.mod x 256) :: ih (Nat.div x 256)) n x
def nbS (n x : Nat) : ByteArray := ⟨⟨nbL n x⟩⟩
end
end Go.Ax
