/- What a state of the abstract machine says of a world of the model: values, memory, and what a step leaves alone. -/
import Derived.Test.YtmfdkldjinlmnaaGreatDoorAxRun
set_option linter.unusedVariables false
set_option linter.unusedSimpArgs false
namespace Go.Ax
open Go

/-- Where a block of the machine lies: a block of the world, and from which cell on. And how many cells an element of it has, and up to which cell its room goes, where an append may find room. -/
structure Io where
  f : Nat → Option (Nat × Nat)
  lim : Nat → Nat × Nat
instance : CoeFun Io (fun _ => Nat → Option (Nat × Nat)) := ⟨Io.f⟩

mutual
inductive VR (i : Io) : Value → Value → Prop
  | bool (b : Bool) : VR i (.bool b) (.bool b)
  | int (k : IntKind) (n : Int) : VR i (.int k n) (.int k n)
  | float (k : FloatKind) (n : Nat) : VR i (.float k n) (.float k n)
  | string (s : ByteArray) : VR i (.string s) (.string s)
  | nilp : VR i (.pointer none) (.pointer none)
  | ptr {b o q t : Nat} (h : i b = some (q, t)) : VR i (.pointer (some ⟨b, o, none⟩)) (.pointer (some ⟨q, t + o, none⟩))
  | nils {c : Nat} (h : c / 2 = 0) : VR i (.slice none 0 c) (.slice none 0 0)
  | slice {b o q t n c p c' : Nat} (h : i b = some (q, t)) (hn : n ≤ c / 2) (h1 : c % 2 = 1 → c' = c / 2) (h2 : c / 2 ≤ c') (ho : p = t + o ∨ c' = 0) (hl : c % 2 = 0 → c' ≠ 0 → p + c' * (i.lim b).1 ≤ (i.lim b).2) :
      VR i (.slice (some ⟨b, o, none⟩) n c) (.slice (some ⟨q, p, none⟩) n c')
  | nilm : VR i (.map none) (.map none)
  | map {b q : Nat} (h : i b = some (q, 0)) : VR i (.map (some b)) (.map (some q))
  | nilFunc : VR i .nilFunc .nilFunc
  | nilIface : VR i .nilIface .nilIface
  | func (f : Fn) {a a' c c' : List Value} (h : VRs i a a') (h' : VRs i c c') : VR i (.func f ⟨a⟩ ⟨c⟩) (.func f ⟨a'⟩ ⟨c'⟩)
  | iface (t : TypeId) {v v' : Value} (h : VR i v v') : VR i (.iface t v) (.iface t v')
  | agg {a a' : List Value} (h : VRs i a a') : VR i (.agg ⟨a⟩) (.agg ⟨a'⟩)
  | tuple {a a' : List Value} (h : VRs i a a') : VR i (.tuple ⟨a⟩) (.tuple ⟨a'⟩)
inductive VRs (i : Io) : List Value → List Value → Prop
  | nil : VRs i [] []
  | cons {v v' : Value} {l l' : List Value} (h : VR i v v') (h' : VRs i l l') : VRs i (v :: l) (v' :: l')
end

structure Le (i j : Io) : Prop where
  f : ∀ b x, i b = some x → j b = some x
  lim : ∀ b x, i b = some x → j.lim b = i.lim b
instance {i j : Io} : CoeFun (Le i j) (fun _ => ∀ b x, i b = some x → j b = some x) := ⟨Le.f⟩
theorem Le.refl (i : Io) : Le i i := ⟨fun _ _ h => h, fun _ _ _ => rfl⟩
theorem Le.trans {i j k : Io} (h : Le i j) (h' : Le j k) : Le i k := ⟨fun b x e => h' b x (h b x e), fun b x e => (h'.lim b x (h b x e)).trans (h.lim b x e)⟩

mutual
theorem VR.mono {i j : Io} (hle : Le i j) : ∀ {v v' : Value}, VR i v v' → VR j v v'
  | _, _, .bool b => .bool b
  | _, _, .int k n => .int k n
  | _, _, .float k n => .float k n
  | _, _, .string s => .string s
  | _, _, .nilp => .nilp
  | _, _, .ptr h => .ptr (hle _ _ h)
  | _, _, .nils h => .nils h
  | _, _, .slice h a b c d e => .slice (hle _ _ h) a b c d (by rw [hle.lim _ _ h]; exact e)
  | _, _, .nilm => .nilm
  | _, _, .map h => .map (hle _ _ h)
  | _, _, .nilFunc => .nilFunc
  | _, _, .nilIface => .nilIface
  | _, _, .func f h h' => .func f (VRs.mono hle h) (VRs.mono hle h')
  | _, _, .iface t h => .iface t (VR.mono hle h)
  | _, _, .agg h => .agg (VRs.mono hle h)
  | _, _, .tuple h => .tuple (VRs.mono hle h)
theorem VRs.mono {i j : Io} (hle : Le i j) : ∀ {l l' : List Value}, VRs i l l' → VRs j l l'
  | _, _, .nil => .nil
  | _, _, .cons h h' => .cons (VR.mono hle h) (VRs.mono hle h')
end

theorem VRs.length {i : Io} : ∀ {l l' : List Value}, VRs i l l' → l.length = l'.length
  | _, _, .nil => rfl
  | _, _, .cons _ h' => by simp [h'.length]
theorem VRs.get {i : Io} : ∀ {l l' : List Value}, VRs i l l' → ∀ {k : Nat} {v : Value}, l[k]? = some v → ∃ v', l'[k]? = some v' ∧ VR i v v'
  | _, _, .nil, k, v, h => by simp at h
  | _, _, .cons h1 h', k, v, h => by
    cases k with
    | zero => simp at h; subst h; exact ⟨_, rfl, h1⟩
    | succ k => simp at h; simpa using h'.get h
theorem VRs.append {i : Io} : ∀ {l l' : List Value}, VRs i l l' → ∀ {m m' : List Value}, VRs i m m' → VRs i (l ++ m) (l' ++ m')
  | _, _, .nil, _, _, h => h
  | _, _, .cons a b, _, _, h => .cons a (b.append h)
theorem VRs.take {i : Io} : ∀ {l l' : List Value}, VRs i l l' → ∀ n, VRs i (l.take n) (l'.take n)
  | _, _, .nil, n => by simpa using VRs.nil
  | _, _, .cons a b, n => by
    cases n with
    | zero => exact .nil
    | succ n => exact .cons a (b.take n)
theorem VRs.drop {i : Io} : ∀ {l l' : List Value}, VRs i l l' → ∀ n, VRs i (l.drop n) (l'.drop n)
  | _, _, .nil, n => by simpa using VRs.nil
  | _, _, .cons a b, n => by
    cases n with
    | zero => exact .cons a b
    | succ n => exact b.drop n
theorem VRs.of_get {i : Io} : ∀ {l l' : List Value}, l.length = l'.length → (∀ (k : Nat) (v : Value), l[k]? = some v → ∃ v' : Value, l'[k]? = some v' ∧ VR i v v') → VRs i l l'
  | [], [], _, _ => .nil
  | [], _ :: _, h, _ => by simp at h
  | _ :: _, [], h, _ => by simp at h
  | v :: l, v' :: l', h, hg => by
    obtain ⟨u, hu, hr⟩ := hg 0 v rfl
    simp at hu
    subst hu
    exact .cons hr (VRs.of_get (by simpa using h) (fun k x hk => by simpa using hg (k + 1) x (by simpa using hk)))

/-- The cells of related values. -/
theorem VR.cells {i : Io} : ∀ {v v' : Value}, VR i v v' → VRs i v.cells.toList v'.cells.toList
  | _, _, .agg h => h
  | _, _, .bool b => .cons (.bool b) .nil
  | _, _, .int k n => .cons (.int k n) .nil
  | _, _, .float k n => .cons (.float k n) .nil
  | _, _, .string s => .cons (.string s) .nil
  | _, _, .nilp => .cons .nilp .nil
  | _, _, .ptr h => .cons (.ptr h) .nil
  | _, _, .nils h => .cons (.nils h) .nil
  | _, _, .slice h a b c d e => .cons (.slice h a b c d e) .nil
  | _, _, .nilm => .cons .nilm .nil
  | _, _, .map h => .cons (.map h) .nil
  | _, _, .nilFunc => .cons .nilFunc .nil
  | _, _, .nilIface => .cons .nilIface .nil
  | _, _, .func f h h' => .cons (.func f h h') .nil
  | _, _, .iface t h => .cons (.iface t h) .nil
  | _, _, .tuple h => .cons (.tuple h) .nil

theorem VR.oneC {i : Io} : ∀ {v v' : Value}, VR i v v' → oneC v' = oneC v := by
  intro v v' h
  cases h <;> rfl
theorem VRs.ones {i : Io} : ∀ {l l' : List Value}, VRs i l l' → ones l' = ones l
  | _, _, .nil => rfl
  | _, _, .cons h h' => by simp only [Go.Ax.ones, h.oneC, h'.ones]

/-- Keys of one kind, that are unlike. -/
def KD : Value → Value → Prop
  | .int k x, .int l y => k = l ∧ x ≠ y
  | .string x, .string y => x ≠ y
  | .bool x, .bool y => x ≠ y
  | _, _ => False

inductive MR (i : Io) : List (Value × Value) → List MapEntry → Prop
  | nil : MR i [] []
  | cons {k v : Value} {e : MapEntry} {l : List (Value × Value)} {m : List MapEntry} (h : e.key = k) (h1 : VR i v e.val) (h' : MR i l m) : MR i ((k, v) :: l) (e :: m)

def OR (i : Io) : AObj → Option Obj → Nat → Prop
  | .cells c n z, o, t => ∃ cs e fr, o = some (.cells cs e fr) ∧ t + n ≤ cs.size ∧ (fr.1 = fr.2 ∨ (z % 2 = 1 ∧ cs.size ≤ fr.1)) ∧ (∀ k v, k < n → c.get k = some v → ∃ v', cs[t + k]? = some v' ∧ VR i v v') ∧ (ze z ≠ 0 → e + 1 = ze z ∧ (zs z = 0 → t = 0))
  | .ro c n, o, t => ∃ cs e fr, o = some (.cells cs e fr) ∧ t + n ≤ cs.size ∧ ∀ k v, k < n → c.get k = some v → ∃ v', cs[t + k]? = some v' ∧ VR i v v'
  | .map es, o, t => t = 0 ∧ ∃ es' clk l, o = some (.map es' clk) ∧ l.Perm es'.toList ∧ MR i es l ∧ es.Pairwise (fun a b => KD a.1 b.1)
  | .iter s p, o, t => t = 0 ∧ o = some (.stringIter s p)
  | .dead, _, _ => True
  | .far, _, _ => True

theorem MR.mono {i j : Io} (hle : Le i j) : ∀ {l : List (Value × Value)} {m : List MapEntry}, MR i l m → MR j l m
  | _, _, .nil => .nil
  | _, _, .cons h h1 h' => .cons h (h1.mono hle) (h'.mono hle)

theorem OR.mono {i j : Io} (hle : Le i j) {o : AObj} {x : Option Obj} {t : Nat} (h : OR i o x t) : OR j o x t := by
  cases o with
  | cells c n z =>
    obtain ⟨cs, e, fr, h1, h2, h3, h4, h5⟩ := h
    exact ⟨cs, e, fr, h1, h2, h3, fun k v hk hv => let ⟨v', a, b⟩ := h4 k v hk hv; ⟨v', a, b.mono hle⟩, h5⟩
  | ro c n =>
    obtain ⟨cs, e, fr, h1, h2, h4⟩ := h
    exact ⟨cs, e, fr, h1, h2, fun k v hk hv => let ⟨v', a, b⟩ := h4 k v hk hv; ⟨v', a, b.mono hle⟩⟩
  | map es =>
    obtain ⟨h0, es', clk, l, h1, h2, h3, h4⟩ := h
    exact ⟨h0, es', clk, l, h1, h2, h3.mono hle, h4⟩
  | iter s p => exact h
  | dead => trivial
  | far => trivial

def alive : AObj → Bool
  | .dead | .far => false
  | _ => true

/-- What is never written. -/
def fixed : AObj → Bool
  | .ro _ _ | .far => true
  | _ => false
noncomputable def obA (s : AS) (b : Nat) : AObj := (s.h.get b).getD .far
theorem obA_some {s : AS} {b : Nat} {o : AObj} (h : s.h.get b = some o) : obA s b = o := by simp [obA, h]

structure Rel (i : Io) (s : AS) (w : World) : Prop where
  obj : ∀ b o, s.h.get b = some o → alive o = true → ∃ q t, i b = some (q, t) ∧ OR i o w.heap[q]? t
  inj : ∀ b b' o o' q t t', s.h.get b = some o → s.h.get b' = some o' → alive o = true → alive o' = true → i b = some (q, t) → i b' = some (q, t') → b = b'
  fresh : ∀ b, s.nx ≤ b → i b = none ∧ s.h.get b = none
  lim : ∀ b c n z q t, s.h.get b = some (.cells c n z) → i b = some (q, t) → (i.lim b).1 = zs z ∧ ∀ cs e fr, w.heap[q]? = some (.cells cs e fr) → (i.lim b).2 ≤ cs.size
  dom : ∀ b q t, i b = some (q, t) → s.h.get b ≠ none ∨ 1000 ≤ b → q < w.heap.size

theorem obA_same {s s' : AS} {b : Nat} (h : s'.h.get b = s.h.get b) : obA s' b = obA s b := by unfold obA; rw [h]

/-- What a step from (i, s, w) to (i', s', w') leaves alone. -/
structure Fr (i : Io) (s : AS) (w : World) (i' : Io) (s' : AS) (w' : World) : Prop where
  le : Le i i'
  new : ∀ b q t, i' b = some (q, t) → i b = some (q, t) ∨ w.heap.size ≤ q ∨ ∃ b0 t0, i b0 = some (q, t0) ∧ fixed (obA s b0) = false
  os : w'.os = w.os
  tape : w'.tape = w.tape
  output : w'.output = w.output
  size : w.heap.size ≤ w'.heap.size
  keep : ∀ q, q < w.heap.size → (∀ b t, i b = some (q, t) → fixed (obA s b) = true) → w'.heap[q]? = w.heap[q]?
  ro : ∀ b x, i b = some x → fixed (obA s b) = true → s'.h.get b = s.h.get b
  nx : s.nx ≤ s'.nx
  dom : ∀ b, b < s.nx → i b = none → i' b = none
  gone : ∀ b, b < s.nx → i b = none → s.h.get b = none → s'.h.get b = none
  stay : ∀ b, s.h.get b ≠ none → s'.h.get b ≠ none

theorem Fr.refl (i : Io) (s : AS) (w : World) : Fr i s w i s w :=
  ⟨.refl i, fun _ _ _ h => .inl h, rfl, rfl, rfl, Nat.le_refl _, fun _ _ _ => rfl, fun _ _ _ _ => rfl, Nat.le_refl _, fun _ _ h => h, fun _ _ _ h => h, fun _ h => h⟩

theorem Fr.trans {i j k : Io} {s s1 s2 : AS} {w w1 w2 : World} (h : Fr i s w j s1 w1) (h' : Fr j s1 w1 k s2 w2) : Fr i s w k s2 w2 where
  le := h.le.trans h'.le
  new := by
    intro b q t e
    rcases h'.new b q t e with e1 | e1 | ⟨b0, t0, e1, e2⟩
    · exact h.new b q t e1
    · exact .inr (.inl (Nat.le_trans h.size e1))
    · rcases h.new b0 q t0 e1 with f1 | f1 | f1
      · refine .inr (.inr ⟨b0, t0, f1, ?_⟩)
        cases hf : fixed (obA s b0) with
        | false => rfl
        | true => rw [obA_same (h.ro b0 _ f1 hf), hf] at e2; cases e2
      · exact .inr (.inl f1)
      · exact .inr (.inr f1)
  os := h'.os.trans h.os
  tape := h'.tape.trans h.tape
  output := h'.output.trans h.output
  size := Nat.le_trans h.size h'.size
  keep := by
    intro q hq hn
    rw [h'.keep q (Nat.lt_of_lt_of_le hq h.size) ?_, h.keep q hq hn]
    intro b t e
    rcases h.new b q t e with f | f | ⟨b0, t0, f1, f2⟩
    · have hf := hn b t f
      rw [obA_same (h.ro b _ f hf)]
      exact hf
    · omega
    · rw [hn b0 t0 f1] at f2; cases f2
  ro := fun b x e hf => by
    have h1 := h.ro b x e hf
    rw [h'.ro b x (h.le _ _ e) (by rw [obA_same h1]; exact hf), h1]
  nx := Nat.le_trans h.nx h'.nx
  dom := fun b hb e => h'.dom b (Nat.lt_of_lt_of_le hb h.nx) (h.dom b hb e)
  gone := fun b hb e g => h'.gone b (Nat.lt_of_lt_of_le hb h.nx) (h.dom b hb e) (h.gone b hb e g)
  stay := fun b g => h'.stay b (h.stay b g)

/-- The program's variables lie where they lie. -/
def Gl (i : Io) : Prop := ∀ g, g < 1000 → i g = some (g, 0)
theorem Gl.mono {i j : Io} (h : Gl i) (hle : Le i j) : Gl j := fun g hg => hle _ _ (h g hg)

end Go.Ax
