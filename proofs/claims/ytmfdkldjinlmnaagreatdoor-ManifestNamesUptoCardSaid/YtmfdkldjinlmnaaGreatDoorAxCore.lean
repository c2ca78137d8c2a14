/- An abstract machine for the operations of a Go program: memory by blocks, no capacities, no draws. Its trie, its state, its operations. -/
import Derived.WalkKit
set_option linter.unusedVariables false
set_option linter.unusedSimpArgs false
namespace Go.Ax
open Go
noncomputable section

/-! ### A trie keyed by numbers -/
inductive T (α : Type) where
  | e : T α
  | n (l : T α) (v : Option α) (r : T α) : T α

def T.get {α : Type} (t : T α) : Nat → Option α :=
  T.rec (motive := fun _ => Nat → Option α) (fun _ => none)
    (fun _ v _ gl gr i => Nat.rec (motive := fun _ => Option α) v (fun p _ => Bool.rec (motive := fun _ => Option α) (gr (Nat.div p 2)) (gl (Nat.div p 2)) (Nat.beq (Nat.mod p 2) 0)) i) t

def T.one {α : Type} (d : Nat) : Nat → Option α → T α :=
  Nat.rec (motive := fun _ => Nat → Option α → T α) (fun _ x => .n .e x .e)
    (fun _ ih i x => Nat.rec (motive := fun _ => T α) (.n .e x .e) (fun p _ => Bool.rec (motive := fun _ => T α) (.n .e none (ih (Nat.div p 2) x)) (.n (ih (Nat.div p 2) x) none .e) (Nat.beq (Nat.mod p 2) 0)) i) d

def T.put {α : Type} (t : T α) : Nat → Option α → T α :=
  T.rec (motive := fun _ => Nat → Option α → T α) (fun i x => T.one i i x)
    (fun l v r sl sr i x => Nat.rec (motive := fun _ => T α) (.n l x r) (fun p _ => Bool.rec (motive := fun _ => T α) (.n l v (sr (Nat.div p 2) x)) (.n (sl (Nat.div p 2) x) v r) (Nat.beq (Nat.mod p 2) 0)) i) t

def T.set {α : Type} (t : T α) (i : Nat) (x : α) : T α := t.put i (some x)

theorem T.get_e {α : Type} (i : Nat) : (T.e : T α).get i = none := rfl
theorem T.get_zero {α : Type} (l r : T α) (v : Option α) : (T.n l v r).get 0 = v := rfl
theorem T.get_succ {α : Type} (l r : T α) (v : Option α) (p : Nat) : (T.n l v r).get (p + 1) = bif Nat.beq (p % 2) 0 then l.get (p / 2) else r.get (p / 2) := by
  show Bool.rec (motive := fun _ => Option α) (r.get (p / 2)) (l.get (p / 2)) (Nat.beq (p % 2) 0) = _
  cases Nat.beq (p % 2) 0 <;> rfl
theorem T.one_zero {α : Type} (d : Nat) (x : Option α) : T.one d 0 x = .n .e x .e := by cases d <;> rfl
theorem T.one_succ {α : Type} (d p : Nat) (x : Option α) : T.one (d + 1) (p + 1) x = bif Nat.beq (p % 2) 0 then .n (T.one d (p / 2) x) none .e else .n .e none (T.one d (p / 2) x) := by
  show Bool.rec (motive := fun _ => T α) (.n .e none (T.one d (p / 2) x)) (.n (T.one d (p / 2) x) none .e) (Nat.beq (p % 2) 0) = _
  cases Nat.beq (p % 2) 0 <;> rfl
theorem T.put_e {α : Type} (i : Nat) (x : Option α) : (T.e : T α).put i x = T.one i i x := rfl
theorem T.put_zero {α : Type} (l r : T α) (v x : Option α) : (T.n l v r).put 0 x = .n l x r := rfl
theorem T.put_succ {α : Type} (l r : T α) (v x : Option α) (p : Nat) : (T.n l v r).put (p + 1) x = bif Nat.beq (p % 2) 0 then .n (l.put (p / 2) x) v r else .n l v (r.put (p / 2) x) := by
  show Bool.rec (motive := fun _ => T α) (.n l v (r.put (p / 2) x)) (.n (l.put (p / 2) x) v r) (Nat.beq (p % 2) 0) = _
  cases Nat.beq (p % 2) 0 <;> rfl

theorem beq_cases (p : Nat) : (Nat.beq (p % 2) 0 = true ∧ p % 2 = 0) ∨ (Nat.beq (p % 2) 0 = false ∧ p % 2 = 1) := by
  rcases Nat.mod_two_eq_zero_or_one p with h | h
  · exact .inl ⟨by rw [h]; rfl, h⟩
  · exact .inr ⟨by rw [h]; rfl, h⟩

theorem T.get_one {α : Type} (x : Option α) : ∀ (d i j : Nat), i ≤ d → (T.one d i x).get j = if j = i then x else none := by
  intro d
  induction d with
  | zero =>
    intro i j h
    obtain rfl : i = 0 := by omega
    rw [T.one_zero]
    cases j with
    | zero => rfl
    | succ q => rw [T.get_succ]; rcases beq_cases q with ⟨e, _⟩ | ⟨e, _⟩ <;> simp [e, T.get_e]
  | succ d ih =>
    intro i j h
    cases i with
    | zero =>
      rw [T.one_zero]
      cases j with
      | zero => rfl
      | succ q => rw [T.get_succ]; rcases beq_cases q with ⟨e, _⟩ | ⟨e, _⟩ <;> simp [e, T.get_e]
    | succ p =>
      rw [T.one_succ]
      cases j with
      | zero => rcases beq_cases p with ⟨e, _⟩ | ⟨e, _⟩ <;> simp [e, T.get_zero]
      | succ q =>
        rcases beq_cases p with ⟨e, hp⟩ | ⟨e, hp⟩ <;> rcases beq_cases q with ⟨f, hq⟩ | ⟨f, hq⟩ <;> simp only [e, f, cond_true, cond_false, T.get_succ, T.get_e]
        · rw [ih _ _ (by omega)]; by_cases hh : q = p
          · subst hh; simp
          · rw [if_neg (by omega), if_neg (by omega)]
        · rw [if_neg (by omega)]
        · rw [if_neg (by omega)]
        · rw [ih _ _ (by omega)]; by_cases hh : q = p
          · subst hh; simp
          · rw [if_neg (by omega), if_neg (by omega)]

theorem T.get_put {α : Type} (t : T α) : ∀ (i j : Nat) (x : Option α), (t.put i x).get j = if j = i then x else t.get j := by
  induction t with
  | e => intro i j x; rw [T.put_e, T.get_one _ _ _ _ (Nat.le_refl _), T.get_e]
  | n l v r ihl ihr =>
    intro i j x
    cases i with
    | zero =>
      rw [T.put_zero]
      cases j with
      | zero => rfl
      | succ q => rw [T.get_succ, T.get_succ, if_neg (by omega)]
    | succ p =>
      rw [T.put_succ]
      cases j with
      | zero => rw [if_neg (by omega)]; rcases beq_cases p with ⟨e, _⟩ | ⟨e, _⟩ <;> simp [e, T.get_zero]
      | succ q =>
        rcases beq_cases p with ⟨e, hp⟩ | ⟨e, hp⟩ <;> rcases beq_cases q with ⟨f, hq⟩ | ⟨f, hq⟩ <;> simp only [e, f, cond_true, cond_false, T.get_succ]
        · rw [ihl]; by_cases hh : q = p
          · subst hh; simp
          · rw [if_neg (by omega), if_neg (by omega)]
        · rw [if_neg (by omega)]
        · rw [if_neg (by omega)]
        · rw [ihr]; by_cases hh : q = p
          · subst hh; simp
          · rw [if_neg (by omega), if_neg (by omega)]

theorem T.get_set {α : Type} (t : T α) (i j : Nat) (x : α) : (t.set i x).get j = if j = i then some x else t.get j := T.get_put t i j _
theorem T.get_set_same {α : Type} (t : T α) (i : Nat) (x : α) : (t.set i x).get i = some x := by rw [T.get_set, if_pos rfl]
theorem T.get_set_ne {α : Type} (t : T α) {i j : Nat} (x : α) (h : j ≠ i) : (t.set i x).get j = t.get j := by rw [T.get_set, if_neg h]

/-- A list's entries from a place on. -/
def T.fill {α : Type} (t : T α) (i : Nat) (l : List α) : T α :=
  List.rec (motive := fun _ => Nat → T α → T α) (fun _ t => t) (fun x _ ih i t => ih (Nat.succ i) (t.put i (some x))) l i t
theorem T.fill_nil {α : Type} (t : T α) (i : Nat) : t.fill i [] = t := rfl
theorem T.fill_cons {α : Type} (t : T α) (i : Nat) (x : α) (l : List α) : t.fill i (x :: l) = (t.set i x).fill (i + 1) l := rfl
theorem T.get_fill {α : Type} (l : List α) : ∀ (t : T α) (i j : Nat), (t.fill i l).get j = if i ≤ j ∧ j < i + l.length then l[j - i]? else t.get j := by
  induction l with
  | nil => intro t i j; rw [T.fill_nil]; simp; omega
  | cons x l ih =>
    intro t i j
    rw [T.fill_cons, ih, T.get_set]
    simp only [List.length_cons]
    by_cases h1 : j = i
    · subst h1; rw [if_neg (by omega), if_pos rfl, if_pos (by omega)]; simp
    · by_cases h2 : i + 1 ≤ j ∧ j < i + 1 + l.length
      · rw [if_pos h2, if_pos (by omega), List.getElem?_cons, if_neg (by omega)]
        congr 1
      · rw [if_neg h2, if_neg h1, if_neg (by omega)]

/-- So many entries from a place on. -/
def T.list {α : Type} (t : T α) (n : Nat) : Nat → Option (List α) :=
  Nat.rec (motive := fun _ => Nat → Option (List α)) (fun _ => some [])
    (fun _ ih i => Option.rec (motive := fun _ => Option (List α)) none (fun x => Option.rec (motive := fun _ => Option (List α)) none (fun l => some (x :: l)) (ih (Nat.succ i))) (t.get i)) n
theorem T.list_zero {α : Type} (t : T α) (i : Nat) : t.list 0 i = some [] := rfl
theorem T.list_succ {α : Type} (t : T α) (n i : Nat) : t.list (n + 1) i = match t.get i with
      | none => none
      | some x => match t.list n (i + 1) with
        | none => none
        | some l => some (x :: l) := by
  show Option.rec (motive := fun _ => Option (List α)) none (fun x => Option.rec (motive := fun _ => Option (List α)) none (fun l => some (x :: l)) (t.list n (i + 1))) (t.get i) = _
  cases t.get i with
  | none => rfl
  | some x => cases t.list n (i + 1) <;> rfl
theorem T.list_some {α : Type} (t : T α) : ∀ (n i : Nat) (l : List α), t.list n i = some l → l.length = n ∧ ∀ k, k < n → t.get (i + k) = l[k]? := by
  intro n
  induction n with
  | zero => intro i l h; rw [T.list_zero] at h; cases h; exact ⟨rfl, fun k hk => by omega⟩
  | succ n ih =>
    intro i l h
    rw [T.list_succ] at h
    cases hg : t.get i with
    | none => rw [hg] at h; simp at h
    | some x =>
      rw [hg] at h
      cases hl : t.list n (i + 1) with
      | none => rw [hl] at h; simp at h
      | some m =>
        rw [hl] at h
        simp only [Option.some.injEq] at h
        subst h
        obtain ⟨h1, h2⟩ := ih _ _ hl
        refine ⟨by simp [h1], fun k hk => ?_⟩
        cases k with
        | zero => simpa using hg
        | succ k => rw [show i + (k + 1) = i + 1 + k by omega, h2 k (by omega)]; simp

/-! ### The state -/
inductive AObj where
  | cells (c : T Value) (n : Nat) (z : Nat)
  | ro (c : T Value) (n : Nat)
  | map (es : List (Value × Value))
  | iter (s : ByteArray) (p : Nat)
  | dead
  | far

/-- What a row's number says: half of its lower part: the cells of an element, where an append may find room; odd: it may be a text's bytes; its upper part: one more than the type that it was laid of, if that is known. -/
def zs (z : Nat) : Nat := z % 1048576 / 2
def ze (z : Nat) : Nat := z / 1048576
def tz (size e : Nat) : Nat := 2 * size + 1048576 * (e + 1)
/-- Of a row that is grown: its type is known where it was known. -/
def zg (size z e : Nat) : Nat := (bif Nat.beq (ze z) (e + 1) then tz size e else 2 * size) + z % 2
theorem tz_zs {size e : Nat} (h : size < 524288) : zs (tz size e) = size := by unfold zs tz; omega
theorem tz_ze {size e : Nat} (h : size < 524288) : ze (tz size e) = e + 1 := by unfold ze tz; omega

theorem zg_zs {size z e : Nat} (h : size < 524288) : zs (zg size z e) = size := by
  unfold zg
  cases Nat.beq (ze z) (e + 1) with
  | true => show zs (tz size e + z % 2) = size; unfold zs tz; omega
  | false => show zs (2 * size + z % 2) = size; unfold zs; omega
theorem zg_odd (size z e : Nat) : zg size z e % 2 = z % 2 := by
  unfold zg
  cases Nat.beq (ze z) (e + 1) with
  | true => show (tz size e + z % 2) % 2 = z % 2; unfold tz; omega
  | false => show (2 * size + z % 2) % 2 = z % 2; omega
theorem zg_ze {size z e : Nat} (h : size < 524288) (hne : ze (zg size z e) ≠ 0) : ze z = e + 1 ∧ ze (zg size z e) = e + 1 := by
  unfold zg at hne ⊢
  cases hb : Nat.beq (ze z) (e + 1) with
  | true => exact ⟨Nat.eq_of_beq_eq_true hb, by show ze (tz size e + z % 2) = e + 1; unfold ze tz; omega⟩
  | false =>
    rw [hb] at hne
    exact absurd (by show ze (2 * size + z % 2) = 0; unfold ze; omega) hne

structure AS where
  h : T AObj
  nx : Nat

def AS.new (s : AS) (o : AObj) : AS := ⟨s.h.set s.nx o, s.nx + 1⟩
def AS.upd (s : AS) (b : Nat) (o : AObj) : AS := ⟨s.h.set b o, s.nx⟩

/-- A type as the machine wants it: what it is, its cells' count and zeros, its bytes. -/
structure TI where
  desc : TypeDesc
  size : Nat
  zero : List Value
  bytes : Nat

def isAggD : TypeDesc → Bool
  | .struct _ | .array _ _ => true
  | _ => false

structure Env where
  P : Program
  ty : T TI
  fn : T Func
  /-- functions that are known by what they come to -/
  prim : T (List Value → AS → Option (Value × AS))
  /-- iterators (functions made by a function: slices.Backward) that come to nothing at an empty slice -/
  back : Nat → Bool := fun _ => false

end
end Go.Ax
