/- The machine, quick in the kernel: the code made ready ahead (places of slots, sizes, offsets), all cases by closed recursors, what follows handed on. -/
import Derived.Test.YtmfdkldjinlmnaaGreatDoorAxRun
set_option linter.unusedVariables false
set_option linter.unusedSimpArgs false
namespace Go.Ax
open Go
noncomputable section

/-! ### The trie, quickly -/
def T.gk {α : Type} (t : T α) : Nat → Option α :=
  T.rec (motive := fun _ => Nat → Option α) (fun _ => none)
    (fun _ v _ gl gr i => Nat.rec (motive := fun _ => Option α) v (fun p _ => Bool.rec (motive := fun _ => Option α) (gr (Nat.div p 2)) (gl (Nat.div p 2)) (Nat.beq (Nat.mod p 2) 0)) i) t
def T.ok {α : Type} (d : Nat) : Nat → Option α → T α :=
  Nat.rec (motive := fun _ => Nat → Option α → T α) (fun _ x => .n .e x .e)
    (fun _ ih i x => Nat.rec (motive := fun _ => T α) (.n .e x .e) (fun p _ => Bool.rec (motive := fun _ => T α) (.n .e none (ih (Nat.div p 2) x)) (.n (ih (Nat.div p 2) x) none .e) (Nat.beq (Nat.mod p 2) 0)) i) d
def T.pk {α : Type} (t : T α) : Nat → Option α → T α :=
  T.rec (motive := fun _ => Nat → Option α → T α) (fun i x => T.ok i i x)
    (fun l v r sl sr i x => Nat.rec (motive := fun _ => T α) (.n l x r) (fun p _ => Bool.rec (motive := fun _ => T α) (.n l v (sr (Nat.div p 2) x)) (.n (sl (Nat.div p 2) x) v r) (Nat.beq (Nat.mod p 2) 0)) i) t

theorem T.gk_eq {α : Type} (t : T α) : ∀ i, t.gk i = t.get i := by
  induction t with
  | e => intro i; rfl
  | n l v r ihl ihr =>
    intro i
    cases i with
    | zero => rfl
    | succ p =>
      show Bool.rec (motive := fun _ => Option α) (r.gk (p / 2)) (l.gk (p / 2)) (Nat.beq (p % 2) 0) = _
      rw [T.get_succ, ihl, ihr]
      cases Nat.beq (p % 2) 0 <;> rfl
theorem T.ok_eq {α : Type} (d : Nat) : ∀ i (x : Option α), T.ok d i x = T.one d i x := by
  induction d with
  | zero => intro i x; rfl
  | succ d ih =>
    intro i x
    cases i with
    | zero => rfl
    | succ p =>
      show Bool.rec (motive := fun _ => T α) (.n .e none (T.ok d (p / 2) x)) (.n (T.ok d (p / 2) x) none .e) (Nat.beq (p % 2) 0) = _
      rw [T.one_succ, ih]
      cases Nat.beq (p % 2) 0 <;> rfl
theorem T.pk_eq {α : Type} (t : T α) : ∀ i (x : Option α), t.pk i x = t.put i x := by
  induction t with
  | e => intro i x; exact T.ok_eq i i x
  | n l v r ihl ihr =>
    intro i x
    cases i with
    | zero => rfl
    | succ p =>
      show Bool.rec (motive := fun _ => T α) (.n l v (r.pk (p / 2) x)) (.n (l.pk (p / 2) x) v r) (Nat.beq (p % 2) 0) = _
      rw [T.put_succ, ihl, ihr]
      cases Nat.beq (p % 2) 0 <;> rfl

/-! ### Places of slots -/
inductive Pth where
  | o
  | l (p : Pth)
  | r (p : Pth)
def pathN (d : Nat) : Nat → Pth :=
  Nat.rec (motive := fun _ => Nat → Pth) (fun _ => .o)
    (fun _ ih i => Nat.rec (motive := fun _ => Pth) .o (fun p _ => Bool.rec (motive := fun _ => Pth) (.r (ih (Nat.div p 2))) (.l (ih (Nat.div p 2))) (Nat.beq (Nat.mod p 2) 0)) i) d
def path (i : Nat) : Pth := pathN i i
def T.val {α : Type} (t : T α) : Option α := T.rec (motive := fun _ => Option α) none (fun _ v _ _ _ => v) t
def T.lft {α : Type} (t : T α) : T α := T.rec (motive := fun _ => T α) .e (fun l _ _ _ _ => l) t
def T.rgt {α : Type} (t : T α) : T α := T.rec (motive := fun _ => T α) .e (fun _ _ r _ _ => r) t
def T.gp {α : Type} (p : Pth) : T α → Option α :=
  Pth.rec (motive := fun _ => T α → Option α) (fun t => T.rec (motive := fun _ => Option α) none (fun _ v _ _ _ => v) t)
    (fun _ ih t => T.rec (motive := fun _ => Option α) none (fun l _ _ _ _ => ih l) t) (fun _ ih t => T.rec (motive := fun _ => Option α) none (fun _ _ r _ _ => ih r) t) p
def T.op {α : Type} (x : Option α) (p : Pth) : T α :=
  Pth.rec (motive := fun _ => T α) (.n .e x .e) (fun _ ih => .n ih none .e) (fun _ ih => .n .e none ih) p
def T.pp {α : Type} (x : Option α) (p : Pth) : T α → T α :=
  Pth.rec (motive := fun _ => T α → T α) (fun t => T.rec (motive := fun _ => T α) (.n .e x .e) (fun l _ r _ _ => .n l x r) t)
    (fun q ih t => T.rec (motive := fun _ => T α) (T.op x (.l q)) (fun l v r _ _ => .n (ih l) v r) t)
    (fun q ih t => T.rec (motive := fun _ => T α) (T.op x (.r q)) (fun l v r _ _ => .n l v (ih r)) t) p

theorem pathN_succ (d p : Nat) : pathN (d + 1) (p + 1) = Bool.rec (motive := fun _ => Pth) (.r (pathN d (p / 2))) (.l (pathN d (p / 2))) (Nat.beq (p % 2) 0) := rfl
theorem T.gp_path {α : Type} : ∀ (d i : Nat) (t : T α), i ≤ d → T.gp (pathN d i) t = t.get i := by
  intro d
  induction d with
  | zero => intro i t h; obtain rfl : i = 0 := by omega
            cases t <;> rfl
  | succ d ih =>
    intro i t h
    cases i with
    | zero => cases t <;> rfl
    | succ p =>
      rw [pathN_succ]
      cases t with
      | e => cases Nat.beq (p % 2) 0 <;> rfl
      | n l v r =>
        rw [T.get_succ, ← ih _ l (by omega), ← ih _ r (by omega)]
        cases Nat.beq (p % 2) 0 <;> rfl
theorem T.op_path {α : Type} (x : Option α) : ∀ (d i : Nat), i ≤ d → ∀ e, i ≤ e → T.op x (pathN d i) = T.one e i x := by
  intro d
  induction d with
  | zero => intro i h e he; obtain rfl : i = 0 := by omega
            rw [T.one_zero]; rfl
  | succ d ih =>
    intro i h e he
    cases i with
    | zero => rw [T.one_zero]; rfl
    | succ p =>
      cases e with
      | zero => omega
      | succ e =>
        rw [pathN_succ, T.one_succ, ← ih (p / 2) (by omega) e (by omega)]
        cases Nat.beq (p % 2) 0 <;> rfl
theorem T.pp_path {α : Type} (x : Option α) : ∀ (d i : Nat) (t : T α), i ≤ d → T.pp x (pathN d i) t = t.put i x := by
  intro d
  induction d with
  | zero => intro i t h; obtain rfl : i = 0 := by omega
            cases t <;> rfl
  | succ d ih =>
    intro i t h
    cases i with
    | zero => cases t <;> rfl
    | succ p =>
      cases t with
      | e =>
        rw [T.put_e, T.one_succ, pathN_succ, ← T.op_path x d (p / 2) (by omega) p (by omega)]
        cases Nat.beq (p % 2) 0 <;> rfl
      | n l v r =>
        rw [T.put_succ, pathN_succ, ← ih _ l (by omega), ← ih _ r (by omega)]
        cases Nat.beq (p % 2) 0 <;> rfl


end
end Go.Ax
