/- The machine, quick in the kernel: the code made ready ahead (places of slots, sizes, offsets), all cases by closed recursors, what follows handed on. -/
import Derived.Test.YtcgpmbjoobilcaaGreatDoorAxA
set_option linter.unusedSimpArgs false
set_option linter.unusedVariables false
namespace Go.Ax
open Go
noncomputable section
def T.gk {α : Type} (t : T α) : Nat → Option α :=
 T.rec (motive := fun _ => Nat → Option α) (fun _ => none)
  (fun _ v _ gl gr i => Nat.rec (motive := fun _ => Option α) v (fun p _ => Bool.rec (motive := fun _ => Option α) (gr (Nat.div p 2)) (gl (Nat.div p 2)) (Nat.beq (Nat.mod p 2) 0)) i) t
def T.ok {α : Type} (d : Nat) : Nat → Option α → T α :=
 Nat.rec (motive := fun _ => Nat → Option α → T α) (fun _ x => .n .e x .e)
  (fun _ ih i x => Nat.rec (motive := fun _ => T α) (.n .e x .e) (fun p _ => Bool.rec (motive := fun _ => T α) (.n .e none (ih (Nat.div p 2) x)) (.n (ih (Nat.div p 2) x) none .e) (Nat.beq (Nat.mod p 2) 0)) i) d
def T.pk {α : Type} (t : T α) : Nat → Option α → T α :=
 T.rec (motive := fun _ => Nat → Option α → T α) (fun i x => T.ok i i x)
  (fun l v r sl sr i x => Nat.rec (motive := fun _ => T α) (.n l x r) (fun p _ => Bool.rec (motive := fun _ => T α) (.n l v (sr (Nat.div p 2) x)) (.n (sl (Nat.div p 2) x) v r) (Nat.beq (Nat.mod p 2) 0)) i) t
theorem T.gk_eq {α : Type} (t : T α) : ∀ i, t.gk i = t.get i := by
 induction t with
 | e => intro i; rfl
 | n l v r ihl ihr =>
  intro i
  cases i with
  | zero => rfl
  | succ p =>
   show Bool.rec (motive := fun _ => Option α) (r.gk (p / 2)) (l.gk (p / 2)) (Nat.beq (p % 2) 0) = _
   rw [T.get_succ, ihl, ihr]
   cases Nat.beq (p % 2) 0 <;> rfl
theorem T.ok_eq {α : Type} (d : Nat) : ∀ i (x : Option α), T.ok d i x = T.one d i x := by
 induction d with
 | zero => intro i x; rfl
 | succ d ih =>
  intro i x
  cases i with
  | zero => rfl
  | succ p =>
   show Bool.rec (motive := fun _ => T α) (.n .e none (T.ok d (p / 2) x)) (.n (T.ok d (p / 2) x) none .e) (Nat.beq (p % 2) 0) = _
   rw [T.one_succ, ih]
   cases Nat.beq (p % 2) 0 <;> rfl
theorem T.pk_eq {α : Type} (t : T α) : ∀ i (x : Option α), t.pk i x = t.put i x := by
 induction t with
 | e => intro i x; exact T.ok_eq i i x
 | n l v r ihl ihr =>
  intro i x
  cases i with
  | zero => rfl
  | succ p =>
   show Bool.rec (motive := fun _ => T α) (.n l v (r.pk (p / 2) x)) (.n (l.pk (p / 2) x) v r) (Nat.beq (p % 2) 0) = _
   rw [T.put_succ, ihl, ihr]
   cases Nat.beq (p % 2) 0 <;> rfl
inductive Pth where
 | o
 | l (p : Pth)
 | r (p : Pth)
def pathN (d : Nat) : Nat → Pth :=
 Nat.rec (motive := fun _ => Nat → Pth) (fun _ => .o)
  (fun _ ih i => Nat.rec (motive := fun _ => Pth) .o (fun p _ => Bool.rec (motive := fun _ => Pth) (.r (ih (Nat.div p 2))) (.l (ih (Nat.div p 2))) (Nat.beq (Nat.mod p 2) 0)) i) d
def path (i : Nat) : Pth := pathN i i
def T.gp {α : Type} (p : Pth) : T α → Option α :=
 Pth.rec (motive := fun _ => T α → Option α) (fun t => T.rec (motive := fun _ => Option α) none (fun _ v _ _ _ => v) t)
  (fun _ ih t => T.rec (motive := fun _ => Option α) none (fun l _ _ _ _ => ih l) t) (fun _ ih t => T.rec (motive := fun _ => Option α) none (fun _ _ r _ _ => ih r) t) p
def T.op {α : Type} (x : Option α) (p : Pth) : T α :=
 Pth.rec (motive := fun _ => T α) (.n .e x .e) (fun _ ih => .n ih none .e) (fun _ ih => .n .e none ih) p
def T.pp {α : Type} (x : Option α) (p : Pth) : T α → T α :=
 Pth.rec (motive := fun _ => T α → T α) (fun t => T.rec (motive := fun _ => T α) (.n .e x .e) (fun l _ r _ _ => .n l x r) t)
  (fun q ih t => T.rec (motive := fun _ => T α) (T.op x (.l q)) (fun l v r _ _ => .n (ih l) v r) t)
  (fun q ih t => T.rec (motive := fun _ => T α) (T.op x (.r q)) (fun l v r _ _ => .n l v (ih r)) t) p
theorem pathN_succ (d p : Nat) : pathN (d + 1) (p + 1) = Bool.rec (motive := fun _ => Pth) (.r (pathN d (p / 2))) (.l (pathN d (p / 2))) (Nat.beq (p % 2) 0) := rfl
theorem T.gp_path {α : Type} : ∀ (d i : Nat) (t : T α), i ≤ d → T.gp (pathN d i) t = t.get i := by
  intro d
  induction d with
  | zero => intro i t h; obtain rfl : i = 0 := by omega
            cases t <;> rfl
  | succ d ih =>
    intro i t h
    cases i with
    | zero => cases t <;> rfl
    | succ p =>
      rw [pathN_succ]
      cases t with
      | e => cases Nat.beq (p % 2) 0 <;> rfl
      | n l v r =>
        rw [T.get_succ, ← ih _ l (by omega), ← ih _ r (by omega)]
        cases Nat.beq (p % 2) 0 <;> rfl
theorem T.op_path {α : Type} (x : Option α) : ∀ (d i : Nat), i ≤ d → ∀ e, i ≤ e → T.op x (pathN d i) = T.one e i x := by
  intro d
  induction d with
  | zero => intro i h e he; obtain rfl : i = 0 := by omega
            rw [T.one_zero]; rfl
  | succ d ih =>
    intro i h e he
    cases i with
    | zero => rw [T.one_zero]; rfl
    | succ p =>
      cases e with
      | zero => omega
      | succ e =>
        rw [pathN_succ, T.one_succ, ← ih (p / 2) (by omega) e (by omega)]
        cases Nat.beq (p % 2) 0 <;> rfl
theorem T.pp_path {α : Type} (x : Option α) : ∀ (d i : Nat) (t : T α), i ≤ d → T.pp x (pathN d i) t = t.put i x := by
  intro d
  induction d with
  | zero => intro i t h; obtain rfl : i = 0 := by omega
            cases t <;> rfl
  | succ d ih =>
    intro i t h
    cases i with
    | zero => cases t <;> rfl
    | succ p =>
      cases t with
      | e =>
        rw [T.put_e, T.one_succ, pathN_succ, ← T.op_path x d (p / 2) (by omega) p (by omega)]
        cases Nat.beq (p % 2) 0 <;> rfl
      | n l v r =>
        rw [T.put_succ, pathN_succ, ← ih _ l (by omega), ← ih _ r (by omega)]
        cases Nat.beq (p % 2) 0 <;> rfl
end
end Go.Ax
/- The machine, quick in the kernel, part 2: values and operations by closed recursors; what follows is handed on. -/
namespace Go.Ax
open Go
noncomputable section
abbrev R := Option (Value × AS)
abbrev K := Value → AS → R
def toR (r : R) (k : K) : R := @Option.rec _ (fun _ => R) none (fun p => k p.1 p.2) r
def toR1 (r : Option Value) (k : K) (s : AS) : R := @Option.rec _ (fun _ => R) none (fun v => k v s) r
def sInt (v : Value) : (IntKind → Int → R) → R → R :=
 @Value.rec (fun _ => (IntKind → Int → R) → R → R) (fun _ => Unit) (fun _ => Unit)
  (fun _ _ d => d)
  (fun k n f _ => f k n)
  (fun _ _ _ d => d)
  (fun _ _ _ _ d => d)
  (fun _ _ d => d)
  (fun _ _ d => d)
  (fun _ _ _ _ d => d)
  (fun _ _ d => d)
  (fun _ _ d => d)
  (fun _ _ _ _ _ _ d => d)
  (fun _ d => d)
  (fun _ _ _ _ d => d)
  (fun _ d => d)
  (fun _ _ _ d => d)
  (fun _ _ _ d => d)
  (fun _ _ => ()) () (fun _ _ _ _ => ()) v
def sPtr (v : Value) : (Nat → Nat → R) → R → R :=
 @Value.rec (fun _ => (Nat → Nat → R) → R → R) (fun _ => Unit) (fun _ => Unit)
  (fun _ _ d => d)
  (fun _ _ _ d => d)
  (fun _ _ _ d => d)
  (fun _ _ _ _ d => d)
  (fun _ _ d => d)
  (fun a f d => @Option.rec _ (fun _ => R) d (fun a => @Addr.rec (fun _ => R) (fun b o _ => f b o) a) a)
  (fun _ _ _ _ d => d)
  (fun _ _ d => d)
  (fun _ _ d => d)
  (fun _ _ _ _ _ _ d => d)
  (fun _ d => d)
  (fun _ _ _ _ d => d)
  (fun _ d => d)
  (fun _ _ _ d => d)
  (fun _ _ _ d => d)
  (fun _ _ => ()) () (fun _ _ _ _ => ()) v
def sSlc (v : Value) : (Nat → Nat → Nat → R) → R → R :=
 @Value.rec (fun _ => (Nat → Nat → Nat → R) → R → R) (fun _ => Unit) (fun _ => Unit)
  (fun _ _ d => d)
  (fun _ _ _ d => d)
  (fun _ _ _ d => d)
  (fun _ _ _ _ d => d)
  (fun _ _ d => d)
  (fun _ _ d => d)
  (fun a n _ f d => @Option.rec _ (fun _ => R) d (fun a => @Addr.rec (fun _ => R) (fun b o _ => f b o n) a) a)
  (fun _ _ d => d)
  (fun _ _ d => d)
  (fun _ _ _ _ _ _ d => d)
  (fun _ d => d)
  (fun _ _ _ _ d => d)
  (fun _ d => d)
  (fun _ _ _ d => d)
  (fun _ _ _ d => d)
  (fun _ _ => ()) () (fun _ _ _ _ => ()) v
def sLen (v : Value) : (Nat → R) → R → R :=
 @Value.rec (fun _ => (Nat → R) → R → R) (fun _ => Unit) (fun _ => Unit)
  (fun _ _ d => d)
  (fun _ _ _ d => d)
  (fun _ _ _ d => d)
  (fun _ _ _ _ d => d)
  (fun _ _ d => d)
  (fun _ _ d => d)
  (fun _ n _ f _ => f n)
  (fun _ _ d => d)
  (fun _ _ d => d)
  (fun _ _ _ _ _ _ d => d)
  (fun _ d => d)
  (fun _ _ _ _ d => d)
  (fun _ d => d)
  (fun _ _ _ d => d)
  (fun _ _ _ d => d)
  (fun _ _ => ()) () (fun _ _ _ _ => ()) v
def sAgg (v : Value) : (Array Value → R) → R → R :=
 @Value.rec (fun _ => (Array Value → R) → R → R) (fun _ => Unit) (fun _ => Unit)
  (fun _ _ d => d)
  (fun _ _ _ d => d)
  (fun _ _ _ d => d)
  (fun _ _ _ _ d => d)
  (fun _ _ d => d)
  (fun _ _ d => d)
  (fun _ _ _ _ d => d)
  (fun _ _ d => d)
  (fun _ _ d => d)
  (fun _ _ _ _ _ _ d => d)
  (fun _ d => d)
  (fun _ _ _ _ d => d)
  (fun _ d => d)
  (fun a _ f _ => f a)
  (fun _ _ _ d => d)
  (fun _ _ => ()) () (fun _ _ _ _ => ()) v
def sTup (v : Value) : (Array Value → R) → R → R :=
 @Value.rec (fun _ => (Array Value → R) → R → R) (fun _ => Unit) (fun _ => Unit)
  (fun _ _ d => d)
  (fun _ _ _ d => d)
  (fun _ _ _ d => d)
  (fun _ _ _ _ d => d)
  (fun _ _ d => d)
  (fun _ _ d => d)
  (fun _ _ _ _ d => d)
  (fun _ _ d => d)
  (fun _ _ d => d)
  (fun _ _ _ _ _ _ d => d)
  (fun _ d => d)
  (fun _ _ _ _ d => d)
  (fun _ d => d)
  (fun _ _ _ d => d)
  (fun a _ f _ => f a)
  (fun _ _ => ()) () (fun _ _ _ _ => ()) v
def sBool (v : Value) : (Bool → R) → R → R :=
 @Value.rec (fun _ => (Bool → R) → R → R) (fun _ => Unit) (fun _ => Unit)
  (fun b f _ => f b)
  (fun _ _ _ d => d)
  (fun _ _ _ d => d)
  (fun _ _ _ _ d => d)
  (fun _ _ d => d)
  (fun _ _ d => d)
  (fun _ _ _ _ d => d)
  (fun _ _ d => d)
  (fun _ _ d => d)
  (fun _ _ _ _ _ _ d => d)
  (fun _ d => d)
  (fun _ _ _ _ d => d)
  (fun _ d => d)
  (fun _ _ _ d => d)
  (fun _ _ _ d => d)
  (fun _ _ => ()) () (fun _ _ _ _ => ()) v
def sStr (v : Value) : (ByteArray → R) → R → R :=
 @Value.rec (fun _ => (ByteArray → R) → R → R) (fun _ => Unit) (fun _ => Unit)
  (fun _ _ d => d)
  (fun _ _ _ d => d)
  (fun _ _ _ d => d)
  (fun _ _ _ _ d => d)
  (fun x f _ => f x)
  (fun _ _ d => d)
  (fun _ _ _ _ d => d)
  (fun _ _ d => d)
  (fun _ _ d => d)
  (fun _ _ _ _ _ _ d => d)
  (fun _ d => d)
  (fun _ _ _ _ d => d)
  (fun _ d => d)
  (fun _ _ _ d => d)
  (fun _ _ _ d => d)
  (fun _ _ => ()) () (fun _ _ _ _ => ()) v
def sOne (v : Value) : R → R → R :=
 @Value.rec (fun _ => R → R → R) (fun _ => Unit) (fun _ => Unit)
  (fun _ f _ => f)
  (fun _ _ f _ => f)
  (fun _ _ f _ => f)
  (fun _ _ _ f _ => f)
  (fun _ f _ => f)
  (fun _ f _ => f)
  (fun _ _ _ f _ => f)
  (fun _ f _ => f)
  (fun _ f _ => f)
  (fun _ _ _ _ _ f _ => f)
  (fun f _ => f)
  (fun _ _ _ f _ => f)
  (fun f _ => f)
  (fun _ _ _ d => d)
  (fun _ _ _ d => d)
  (fun _ _ => ()) () (fun _ _ _ _ => ()) v
def kq (a : IntKind) : IntKind → R → R → R :=
 @IntKind.rec (fun _ => IntKind → R → R → R)
  (fun b y n => @IntKind.rec (fun _ => R) y n n n n n n n b)
  (fun b y n => @IntKind.rec (fun _ => R) n y n n n n n n b)
  (fun b y n => @IntKind.rec (fun _ => R) n n y n n n n n b)
  (fun b y n => @IntKind.rec (fun _ => R) n n n y n n n n b)
  (fun b y n => @IntKind.rec (fun _ => R) n n n n y n n n b)
  (fun b y n => @IntKind.rec (fun _ => R) n n n n n y n n b)
  (fun b y n => @IntKind.rec (fun _ => R) n n n n n n y n b)
  (fun b y n => @IntKind.rec (fun _ => R) n n n n n n n y b) a
def mxq (a : IntKind) : Nat := @IntKind.rec (fun _ => Nat) 127 32767 2147483647 9223372036854775807 255 65535 4294967295 18446744073709551615 a
theorem kq_eq (a b : IntKind) (y n : R) : kq a b y n = bif kindEq a b then y else n := by cases a <;> cases b <;> rfl
theorem sInt_eq (v : Value) (f : IntKind → Int → R) (d : R) : sInt v f d = match v with
  | .int k n => f k n
  | _ => d := by cases v <;> rfl
theorem sPtr_eq (v : Value) (f : Nat → Nat → R) (d : R) : sPtr v f d = match v with
  | .pointer (some a) => f a.block a.off
  | _ => d := by
 cases v <;> try rfl
 rename_i a
 cases a <;> rfl
theorem sSlc_eq (v : Value) (f : Nat → Nat → Nat → R) (d : R) : sSlc v f d = match v with
  | .slice (some a) n _ => f a.block a.off n
  | _ => d := by
 cases v <;> try rfl
 rename_i a n c
 cases a <;> rfl
theorem sLen_eq (v : Value) (f : Nat → R) (d : R) : sLen v f d = match v with
  | .slice _ n _ => f n
  | _ => d := by cases v <;> rfl
theorem sAgg_eq (v : Value) (f : Array Value → R) (d : R) : sAgg v f d = match v with
  | .agg a => f a
  | _ => d := by cases v <;> rfl
theorem sTup_eq (v : Value) (f : Array Value → R) (d : R) : sTup v f d = match v with
  | .tuple a => f a
  | _ => d := by cases v <;> rfl
theorem sBool_eq (v : Value) (f : Bool → R) (d : R) : sBool v f d = match v with
  | .bool a => f a
  | _ => d := by cases v <;> rfl
theorem sStr_eq (v : Value) (f : ByteArray → R) (d : R) : sStr v f d = match v with
  | .string a => f a
  | _ => d := by cases v <;> rfl
theorem sOne_eq (v : Value) (f d : R) : sOne v f d = bif oneC v then f else d := by cases v <;> rfl
inductive QO where
 | t (p : Pth)
 | c (v : Value)
 | no
def evq (x : QO) : Tm → (Value → R) → R :=
 @QO.rec (fun _ => Tm → (Value → R) → R) (fun p tm k => @Option.rec _ (fun _ => R) none k (T.gp p tm)) (fun v _ k => k v) (fun _ _ => none) x
def mkO (x : Operand) : QO :=
 match x with
 | .tmp i => .t (path i)
 | x => match ev .e x with
  | some v => .c v
  | none => .no
theorem evq_eq (x : Operand) (tm : Tm) (k : Value → R) : evq (mkO x) tm k = match ev tm x with
  | none => none
  | some v => k v := by
 cases x with
 | tmp i =>
  show @Option.rec _ (fun _ => R) none k (T.gp (pathN i i) tm) = _
  rw [T.gp_path i i tm (Nat.le_refl _)]
  show _ = match tm.get i with
   | none => none
   | some v => k v
  cases tm.get i <;> rfl
 | const v =>
  unfold mkO ev
  simp only
  cases cst v <;> rfl
 | global g =>
  unfold mkO ev
  simp only
  cases Nat.blt g 1000 <;> rfl
 | func f => rfl
def consK (k : List Value → R) (v : Value) (l : List Value) : R := k (v :: l)
def evsqA (ih : Tm → (List Value → R) → R) (tm : Tm) (k : List Value → R) (v : Value) : R := ih tm (consK k v)
def evsq (l : List QO) : Tm → (List Value → R) → R :=
 @List.rec _ (fun _ => Tm → (List Value → R) → R) (fun _ k => k []) (fun x _ ih tm k => evq x tm (evsqA ih tm k)) l
theorem evsq_eq : ∀ (l : List Operand) (tm : Tm) (k : List Value → R), evsq (l.map mkO) tm k = match evs tm l with
  | none => none
  | some vs => k vs
 | [], _, _ => rfl
 | x :: l, tm, k => by
  show evq (mkO x) tm (evsqA (evsq (l.map mkO)) tm k) = _
  rw [evq_eq]
  unfold evs
  cases hx : ev tm x with
  | none => rfl
  | some v =>
   show evsq (l.map mkO) tm (consK k v) = _
   rw [evsq_eq l tm]
   cases hl : evs tm l <;> rfl
def sCells (o : AObj) : (T Value → Nat → R) → R → R :=
 @AObj.rec (fun _ => (T Value → Nat → R) → R → R) (fun c n _ f _ => f c n) (fun c n f _ => f c n) (fun _ _ d => d) (fun _ _ _ d => d) (fun _ d => d) (fun _ d => d) o
def sCellsW (o : AObj) : (T Value → Nat → Nat → R) → R → R :=
 @AObj.rec (fun _ => (T Value → Nat → Nat → R) → R → R) (fun c n z f _ => f c n z) (fun _ _ _ d => d) (fun _ _ d => d) (fun _ _ _ d => d) (fun _ d => d) (fun _ d => d) o
def rd1K (o : Nat) (k : Value → R) (c : T Value) (m : Nat) : R :=
 @Bool.rec (fun _ => R) none (@Option.rec _ (fun _ => R) none k (c.gk o)) (Nat.ble (Nat.succ o) m)
def rd1B (o : Nat) (k : Value → R) (ob : AObj) : R := sCells ob (rd1K o k) none
def rd1 (s : AS) (b o : Nat) (k : Value → R) : R := @Option.rec _ (fun _ => R) none (rd1B o k) (s.h.gk b)
theorem rd1_eq (s : AS) (b o : Nat) (k : Value → R) : rd1 s b o k = match rd s b o with
  | none => none
  | some v => k v := by
 unfold rd1 rd
 rw [T.gk_eq]
 cases s.h.get b with
 | none => rfl
 | some ob =>
  have key : ∀ (c : T Value) (m : Nat), rd1K o k c m = match (bif Nat.blt o m then c.get o else none) with
    | none => none
    | some v => k v := by
   intro c m
   unfold rd1K
   rw [T.gk_eq]
   show @Bool.rec (fun _ => R) none _ (Nat.blt o m) = _
   cases Nat.blt o m with
   | false => rfl
   | true =>
    show @Option.rec _ (fun _ => R) none k (c.get o) = match c.get o with
     | none => none
     | some v => k v
    cases c.get o <;> rfl
  cases ob with
  | cells c m z => exact key c m
  | ro c m => exact key c m
  | _ => rfl
def wr1K (h : T AObj) (nx b o : Nat) (v : Value) (k : AS → R) (c : T Value) (m z : Nat) : R :=
 @Bool.rec (fun _ => R) none (k ⟨h.pk b (some (.cells (c.pk o (some v)) m z)), nx⟩) (Nat.ble (Nat.succ o) m)
def wr1B (h : T AObj) (nx b o : Nat) (v : Value) (k : AS → R) (ob : AObj) : R := sCellsW ob (wr1K h nx b o v k) none
def wr1 (s : AS) (b o : Nat) (v : Value) (k : AS → R) : R := @Option.rec _ (fun _ => R) none (wr1B s.h s.nx b o v k) (s.h.gk b)
theorem wr1_eq (s : AS) (b o : Nat) (v : Value) (hv : oneC v = true) (k : AS → R) : wr1 s b o v k = match wrN s b o [v] with
  | none => none
  | some s' => k s' := by
 unfold wr1 wrN
 rw [T.gk_eq]
 cases s.h.get b with
 | none => rfl
 | some ob =>
  cases ob with
  | cells c m z =>
   show wr1K s.h s.nx b o v k c m z = _
   unfold wr1K
   simp only [ones, hv, Bool.and_true, List.length_cons, List.length_nil, Nat.zero_add]
   show @Bool.rec (fun _ => R) none _ (Nat.ble (o + 1) m) = _
   cases Nat.ble (o + 1) m with
   | false => rfl
   | true =>
    simp only [cond_true, AS.upd, T.set, T.fill_cons, T.fill_nil, T.pk_eq]
  | _ => rfl
def okI (kd : IntKind) (s : AS) (k : K) (n : Nat) : R := k (.int kd (.ofNat n)) s
def fin (kd : IntKind) (sl : R) (s : AS) (k : K) (n : Nat) : R := @Bool.rec (fun _ => R) sl (natK n (okI kd s k)) (Nat.ble n (mxq kd))
def ii (f : Nat → Nat → R) (sl : R) (a : Int) : Int → R :=
 @Int.rec (fun _ => (Nat → Nat → R) → R → Int → R) (fun x f sl b => @Int.rec (fun _ => R) (f x) (fun _ => sl) b) (fun _ _ sl _ => sl) a f sl
def two (kd : IntKind) (sl : R) (x y : Nat) (r : R) : R := @Bool.rec (fun _ => R) sl (@Bool.rec (fun _ => R) sl r (Nat.ble y (mxq kd))) (Nat.ble x (mxq kd))
def qAdd (kd : IntKind) (sl : R) (s : AS) (k : K) (x y : Nat) : R := fin kd sl s k (Nat.add x y)
def qSub (kd : IntKind) (sl : R) (s : AS) (k : K) (x y : Nat) : R := @Bool.rec (fun _ => R) sl (fin kd sl s k (Nat.sub x y)) (Nat.ble y x)
def qMul (kd : IntKind) (sl : R) (s : AS) (k : K) (x y : Nat) : R := fin kd sl s k (Nat.mul x y)
def qQuo (kd : IntKind) (sl : R) (s : AS) (k : K) (x y : Nat) : R := @Bool.rec (fun _ => R) sl (fin kd sl s k (Nat.div x y)) (Nat.ble 1 y)
def qRem (kd : IntKind) (sl : R) (s : AS) (k : K) (x y : Nat) : R := @Bool.rec (fun _ => R) sl (natK (Nat.mod x y) (okI kd s k)) (Nat.ble 1 y)
def qAnd (kd : IntKind) (sl : R) (s : AS) (k : K) (x y : Nat) : R := two kd sl x y (fin kd sl s k (Nat.land x y))
def qOr (kd : IntKind) (sl : R) (s : AS) (k : K) (x y : Nat) : R := two kd sl x y (fin kd sl s k (Nat.lor x y))
def qXor (kd : IntKind) (sl : R) (s : AS) (k : K) (x y : Nat) : R := two kd sl x y (fin kd sl s k (Nat.xor x y))
def okB (s : AS) (k : K) (b : Bool) : R := k (.bool b) s
def qEql (kd : IntKind) (sl : R) (s : AS) (k : K) (x y : Nat) : R := okB s k (Nat.beq x y)
def qNeq (kd : IntKind) (sl : R) (s : AS) (k : K) (x y : Nat) : R := okB s k (@Bool.rec (fun _ => Bool) true false (Nat.beq x y))
def qLss (kd : IntKind) (sl : R) (s : AS) (k : K) (x y : Nat) : R := okB s k (Nat.ble (Nat.succ x) y)
def qLeq (kd : IntKind) (sl : R) (s : AS) (k : K) (x y : Nat) : R := okB s k (Nat.ble x y)
def qGtr (kd : IntKind) (sl : R) (s : AS) (k : K) (x y : Nat) : R := okB s k (Nat.ble (Nat.succ y) x)
def qGeq (kd : IntKind) (sl : R) (s : AS) (k : K) (x y : Nat) : R := okB s k (Nat.ble y x)
def qNo (kd : IntKind) (sl : R) (s : AS) (k : K) (x y : Nat) : R := sl
def cmpL (a : List UInt8) : List UInt8 → Nat :=
 @List.rec UInt8 (fun _ => List UInt8 → Nat) (fun b => @List.rec UInt8 (fun _ => Nat) 1 (fun _ _ _ => 0) b)
  (fun x _ ih b => @List.rec UInt8 (fun _ => Nat) 2 (fun y t _ => @Bool.rec (fun _ => Nat) (@Bool.rec (fun _ => Nat) 2 0 (Nat.ble (Nat.succ x.toNat) y.toNat)) (ih t) (Nat.beq x.toNat y.toNat)) b) a
theorem cmpL_cons (x y : UInt8) (a b : List UInt8) : cmpL (x :: a) (y :: b) = if x = y then cmpL a b else if x < y then 0 else 2 := by
 show @Bool.rec (fun _ => Nat) (@Bool.rec (fun _ => Nat) 2 0 (Nat.ble (Nat.succ x.toNat) y.toNat)) (cmpL a b) (Nat.beq x.toNat y.toNat) = _
 by_cases h : x = y
 ·subst h
  rw [if_pos rfl, Nat.beq_refl]
 ·rw [if_neg h]
  have h1 : Nat.beq x.toNat y.toNat = false := by
   cases hb : Nat.beq x.toNat y.toNat with
   | false => rfl
   | true => exact absurd (UInt8.toNat_inj.1 (Nat.eq_of_beq_eq_true hb)) h
  rw [h1]
  by_cases h2 : x < y
  ·rw [if_pos h2]
   have : Nat.ble (Nat.succ x.toNat) y.toNat = true := by
    rw [Nat.ble_eq]
    exact UInt8.lt_iff_toNat_lt.1 h2
   rw [this]
  ·rw [if_neg h2]
   have : Nat.ble (Nat.succ x.toNat) y.toNat = false := by
    cases hb : Nat.ble (Nat.succ x.toNat) y.toNat with
    | false => rfl
    | true =>
     rw [Nat.ble_eq] at hb
     exact absurd (UInt8.lt_iff_toNat_lt.2 hb) h2
   rw [this]
theorem cmpL_spec : ∀ (a b : List UInt8), cmpL a b ≤ 2 ∧ (cmpL a b = 1 ↔ a = b) ∧ (cmpL a b = 0 ↔ Op.bytesLess a b = true)
 | [], [] => ⟨by decide, by decide, by decide⟩
 | [], y :: b => ⟨Nat.zero_le _, by simp [cmpL], by simp [cmpL, Op.bytesLess]⟩
 | x :: a, [] => ⟨Nat.le_refl 2, by simp [cmpL], by simp [cmpL, Op.bytesLess]⟩
 | x :: a, y :: b => by
  rw [cmpL_cons]
  obtain ⟨h1, h2, h3⟩ := cmpL_spec a b
  by_cases h : x = y
  ·subst h
   rw [if_pos rfl]
   refine ⟨h1, by rw [h2]; simp, ?_⟩
   rw [h3]
   simp [Op.bytesLess]
  ·rw [if_neg h]
   by_cases h4 : x < y
   ·rw [if_pos h4]
    exact ⟨Nat.zero_le _, by simp [h], by simp [Op.bytesLess, h4]⟩
   ·rw [if_neg h4]
    exact ⟨Nat.le_refl _, by simp [h], by simp [Op.bytesLess, h, h4]⟩
def cmpq (a b : ByteArray) : Nat := cmpL a.data.toList b.data.toList
def appq (a b : List UInt8) : List UInt8 := @List.rec UInt8 (fun _ => List UInt8) b (fun x _ ih => x :: ih) a
def lenq {α : Type} (a : List α) : Nat := @List.rec α (fun _ => Nat) 0 (fun _ _ ih => Nat.succ ih) a
theorem appq_eq : ∀ a b : List UInt8, appq a b = a ++ b
 | [], _ => rfl
 | x :: a, b => by
  show x :: appq a b = x :: (a ++ b)
  rw [appq_eq a b]
theorem lenq_eq {α : Type} : ∀ a : List α, lenq a = a.length
 | [] => rfl
 | x :: a => by
  show Nat.succ (lenq a) = _
  rw [lenq_eq a]
  rfl
def tEql (sl : R) (s : AS) (k : K) (a b : ByteArray) : R := okB s k (Nat.beq (cmpq a b) 1)
def tNeq (sl : R) (s : AS) (k : K) (a b : ByteArray) : R := okB s k (@Bool.rec (fun _ => Bool) true false (Nat.beq (cmpq a b) 1))
def tLss (sl : R) (s : AS) (k : K) (a b : ByteArray) : R := okB s k (Nat.beq (cmpq a b) 0)
def tLeq (sl : R) (s : AS) (k : K) (a b : ByteArray) : R := okB s k (Nat.ble (cmpq a b) 1)
def tGtr (sl : R) (s : AS) (k : K) (a b : ByteArray) : R := okB s k (Nat.beq (cmpq a b) 2)
def tGeq (sl : R) (s : AS) (k : K) (a b : ByteArray) : R := okB s k (Nat.ble 1 (cmpq a b))
def tAdd (sl : R) (s : AS) (k : K) (a b : ByteArray) : R := @Bool.rec (fun _ => R) sl (forceU (appq a.data.toList b.data.toList) fun t => k (.string ⟨⟨t⟩⟩) s) (Nat.ble (Nat.add (lenq a.data.toList) (lenq b.data.toList)) 1000000)
def tNo (sl : R) (s : AS) (k : K) (a b : ByteArray) : R := sl
def tOf (op : BinOp) : R → AS → K → ByteArray → ByteArray → R :=
 @BinOp.rec (fun _ => R → AS → K → ByteArray → ByteArray → R) tAdd tNo tNo tNo tNo tNo tNo tNo tNo tNo tNo tEql tNeq tLss tLeq tGtr tGeq op
theorem cmpq_spec (a b : ByteArray) : cmpq a b ≤ 2 ∧ (cmpq a b = 1 ↔ a.toList = b.toList) ∧ (cmpq a b = 0 ↔ Op.bytesLess a.toList b.toList = true) := by
 rw [ByteArray.toList_eq, ByteArray.toList_eq]
 exact cmpL_spec _ _
theorem beq_of {n m : Nat} {b : Bool} (h : n = m ↔ b = true) : Nat.beq n m = b := by
 cases b with
 | true => rw [h.2 rfl]; exact Nat.beq_refl m
 | false =>
  cases hb : Nat.beq n m with
  | false => rfl
  | true => exact absurd (h.1 (Nat.eq_of_beq_eq_true hb)) (by simp)
theorem ble_of {n m : Nat} {b : Bool} (h : n ≤ m ↔ b = true) : Nat.ble n m = b := by
 cases b with
 | true => rw [Nat.ble_eq]; exact h.2 rfl
 | false =>
  cases hb : Nat.ble n m with
  | false => rfl
  | true => exact absurd (h.1 (Nat.le_of_ble_eq_true hb)) (by simp)
theorem tOf_eq (op : BinOp) {sl : R} {s : AS} {k : K} {a b : ByteArray} (h : sl = toR1 (strBin op a b) k s) : tOf op sl s k a b = sl := by
 obtain ⟨h1, h2, h3⟩ := cmpq_spec a b
 have he : (a.toList == b.toList) = Nat.beq (cmpq a b) 1 := (beq_of (by rw [h2]; simp)).symm
 have hl : Op.bytesLess a.toList b.toList = Nat.beq (cmpq a b) 0 := (beq_of h3).symm
 cases op <;> first
  | (show tNo sl s k a b = sl; rfl)
  | skip
 case add =>
  show @Bool.rec (fun _ => R) sl _ (Nat.ble (Nat.add (lenq a.data.toList) (lenq b.data.toList)) 1000000) = sl
  cases hb : Nat.ble (Nat.add (lenq a.data.toList) (lenq b.data.toList)) 1000000 with
  | false => rfl
  | true =>
   have hle := Nat.le_of_ble_eq_true hb
   rw [lenq_eq, lenq_eq] at hle
   rw [h]
   show _ = toR1 (sAdd a b) k s
   have hsz : ¬ ((a.size + b.size : Nat) : Int) > IntKind.i64.max := by
    have e1 : a.size = a.data.toList.length := rfl
    have e2 : b.size = b.data.toList.length := rfl
    have e3 : IntKind.i64.max = 9223372036854775807 := rfl
    have : a.data.toList.length + b.data.toList.length ≤ 1000000 := hle
    omega
   unfold sAdd
   rw [if_neg hsz]
   show forceU _ _ = k _ s
   rw [forceU_eq]
   show k _ s = k _ s
   congr 2
   rw [appq_eq]
   apply ByteArray.ext
   apply Array.ext'
   simp
 case eql =>
  rw [h]
  show okB s k _ = okB s k (a.toList == b.toList)
  rw [he]
 case neq =>
  rw [h]
  show okB s k _ = okB s k (!(a.toList == b.toList))
  rw [he]
  cases Nat.beq (cmpq a b) 1 <;> rfl
 case lss =>
  rw [h]
  show okB s k _ = okB s k (Op.bytesLess a.toList b.toList)
  rw [hl]
 case leq =>
  rw [h]
  show okB s k (Nat.ble (cmpq a b) 1) = okB s k (Op.bytesLess a.toList b.toList || a.toList == b.toList)
  rw [hl, he]
  congr 1
  refine ble_of ?_
  generalize cmpq a b = n at h1
  match n, h1 with
  | 0, _ => decide
  | 1, _ => decide
  | 2, _ => decide
 case gtr =>
  rw [h]
  show okB s k (Nat.beq (cmpq a b) 2) = okB s k (!(Op.bytesLess a.toList b.toList || a.toList == b.toList))
  rw [hl, he]
  congr 1
  generalize cmpq a b = n at h1
  match n, h1 with
  | 0, _ => rfl
  | 1, _ => rfl
  | 2, _ => rfl
 case geq =>
  rw [h]
  show okB s k (Nat.ble 1 (cmpq a b)) = okB s k (!Op.bytesLess a.toList b.toList)
  rw [hl]
  congr 1
  generalize cmpq a b = n at h1
  match n, h1 with
  | 0, _ => rfl
  | 1, _ => rfl
  | 2, _ => rfl
end
end Go.Ax
/- The machine, quick in the kernel, part 3: the operations made ready, and what they come to. -/
namespace Go.Ax
open Go
noncomputable section
theorem wrapA_nat {kd : IntKind} {n : Nat} (h : n ≤ mxq kd) : wrapA kd (.ofNat n) = .ofNat n := by
  cases kd <;> simp only [mxq] at h <;> simp only [wrapA, wrS, wrU, imod, natK_eq]
  all_goals first
    | (rw [Nat.mod_eq_of_lt (by omega)]; done)
    | (rw [Nat.mod_eq_of_lt (by omega)]
       have hb : ∀ m, n < m → Nat.blt n m = true := fun m hm => by rw [Nat.blt_eq]; exact hm
       rw [hb _ (by omega)]; rfl)
theorem intV_nat {kd : IntKind} {n : Nat} (h : n ≤ mxq kd) : intV kd (.ofNat n) = some (.int kd (.ofNat n)) := by
 unfold intV
 rw [wrapA_nat h, intK_eq]
theorem fin_eq {kd : IntKind} {sl : R} {s : AS} {k : K} {n : Nat} (h : n ≤ mxq kd → okI kd s k n = sl) : fin kd sl s k n = sl := by
 unfold fin
 cases hb : Nat.ble n (mxq kd) with
 | false => rfl
 | true =>
  show natK n (okI kd s k) = sl
  rw [natK_eq]
  exact h (Nat.le_of_ble_eq_true hb)
theorem two_eq {kd : IntKind} {sl : R} {x y : Nat} {r : R} (h : x ≤ mxq kd → y ≤ mxq kd → r = sl) : two kd sl x y r = sl := by
 unfold two
 cases hx : Nat.ble x (mxq kd) with
 | false => rfl
 | true =>
  cases hy : Nat.ble y (mxq kd) with
  | false => rfl
  | true => exact h (Nat.le_of_ble_eq_true hx) (Nat.le_of_ble_eq_true hy)
def qOf (op : BinOp) : IntKind → R → AS → K → Nat → Nat → R :=
 @BinOp.rec (fun _ => IntKind → R → AS → K → Nat → Nat → R) qAdd qSub qMul qQuo qRem qAnd qOr qXor qNo qNo qNo qEql qNeq qLss qLeq qGtr qGeq op
def bin3 (op : BinOp) (sl : R) (s : AS) (k : K) (kx : IntKind) (a : Int) (ky : IntKind) (b : Int) : R := kq kx ky (ii (qOf op kx sl s k) sl a b) sl
theorem imod_nat {kd : IntKind} {n : Nat} (h : n ≤ mxq kd) : imod (.ofNat n) (modA kd) = n := by
 cases kd <;> simp only [mxq] at h <;> simp only [imod, modA] <;> exact Nat.mod_eq_of_lt (by omega)
theorem not_blt (x y : Nat) : (!(Nat.blt x y)) = Nat.ble y x := by
 cases h : Nat.blt x y with
 | false =>
  have : ¬ x < y := by intro hh; rw [← Nat.blt_eq] at hh; rw [hh] at h; cases h
  symm; simpa using this
 | true =>
  have : x < y := by simpa [Nat.blt_eq] using h
  symm
  cases h2 : Nat.ble y x with
  | false => rfl
  | true => have := Nat.le_of_ble_eq_true h2; omega
theorem bin3_eq {E : Env} {op : BinOp} {t : TypeId} {ox oy : Operand} {s : AS} {k : K} {kx ky : IntKind} {a b : Int} {sl : R} (hsl : sl = toR1 (binA E s op t ox oy (.int kx a) (.int ky b)) k s) :
  bin3 op sl s k kx a ky b = sl := by
 unfold bin3
 rw [kq_eq]
 cases hk : kindEq kx ky with
 | false => rfl
 | true =>
  rw [cond_true]
  cases a with
  | negSucc x => rfl
  | ofNat x =>
   cases b with
   | negSucc y => rfl
   | ofNat y =>
    show qOf op kx sl s k x y = sl
    have hb : binA E s op t ox oy (.int kx (.ofNat x)) (.int ky (.ofNat y)) = binII op kx (.ofNat x) ky (.ofNat y) := rfl
    have hi : ∀ f : IntKind → Int → Int → Option Value, intBin op = f → (op ≠ .shl ∧ op ≠ .shr) → binII op kx (.ofNat x) ky (.ofNat y) = f kx (.ofNat x) (.ofNat y) := by
     intro f hf hn
     unfold binII
     rw [hk]
     cases op <;> first | exact absurd rfl hn.1 | exact absurd rfl hn.2 | (rw [← hf]; rfl)
    cases op
    case shl => rfl
    case shr => rfl
    case andNot => rfl
    all_goals (rw [hb, hi _ rfl (by simp)] at hsl)
    case add => exact fin_eq fun h => by rw [hsl]; show _ = toR1 (intV kx (Int.ofNat (Nat.add x y))) k s; rw [intV_nat h]; rfl
    case sub =>
     show qSub kx sl s k x y = sl
     unfold qSub
     cases hle : Nat.ble y x with
     | false => rfl
     | true =>
      refine fin_eq fun h => ?_
      have e : Int.sub (.ofNat x) (.ofNat y) = .ofNat (Nat.sub x y) := by
       have := Nat.le_of_ble_eq_true hle
       show (x : Int) - (y : Int) = ((x - y : Nat) : Int)
       omega
      rw [hsl]; show _ = toR1 (intV kx (Int.sub (.ofNat x) (.ofNat y))) k s; rw [e, intV_nat h]; rfl
    case mul => exact fin_eq fun h => by rw [hsl]; show _ = toR1 (intV kx (Int.ofNat (Nat.mul x y))) k s; rw [intV_nat h]; rfl
    case quo =>
     show qQuo kx sl s k x y = sl
     unfold qQuo
     cases hle : Nat.ble 1 y with
     | false => rfl
     | true =>
      have h1 := Nat.le_of_ble_eq_true hle
      refine fin_eq fun h => ?_
      have e : Int.tdiv (.ofNat x) (.ofNat y) = .ofNat (Nat.div x y) := rfl
      have e0 : ieq (.ofNat y) 0 = false := by
       show Nat.beq y 0 = false
       cases y with
       | zero => omega
       | succ y => rfl
      rw [hsl]; show _ = toR1 (iQuo kx (.ofNat x) (.ofNat y)) k s; unfold iQuo; rw [e0, cond_false, e, intV_nat h]; rfl
    case rem =>
     show qRem kx sl s k x y = sl
     unfold qRem
     cases hle : Nat.ble 1 y with
     | false => rfl
     | true =>
      have h1 := Nat.le_of_ble_eq_true hle
      have e : Int.tmod (.ofNat x) (.ofNat y) = .ofNat (Nat.mod x y) := rfl
      have e0 : ieq (.ofNat y) 0 = false := by
       show Nat.beq y 0 = false
       cases y with
       | zero => omega
       | succ y => rfl
      show natK (Nat.mod x y) (okI kx s k) = sl
      rw [natK_eq, hsl]; show _ = toR1 (iRem kx (.ofNat x) (.ofNat y)) k s; unfold iRem; rw [e0, cond_false, e, intK_eq]; rfl
    case and =>
     refine two_eq fun hx hy => fin_eq fun h => ?_
     rw [hsl]
     show _ = toR1 (bits2 Nat.land kx (.ofNat x) (.ofNat y)) k s
     unfold bits2
     rw [imod_nat hx, imod_nat hy, intV_nat h]
     rfl
    case or =>
     refine two_eq fun hx hy => fin_eq fun h => ?_
     rw [hsl]
     show _ = toR1 (bits2 Nat.lor kx (.ofNat x) (.ofNat y)) k s
     unfold bits2
     rw [imod_nat hx, imod_nat hy, intV_nat h]
     rfl
    case xor =>
     refine two_eq fun hx hy => fin_eq fun h => ?_
     rw [hsl]
     show _ = toR1 (bits2 Nat.xor kx (.ofNat x) (.ofNat y)) k s
     unfold bits2
     rw [imod_nat hx, imod_nat hy, intV_nat h]
     rfl
    case eql => rw [hsl]; rfl
    case neq =>
     rw [hsl]
     show okB s k _ = okB s k _
     congr 1
     show @Bool.rec (fun _ => Bool) true false (Nat.beq x y) = !(Nat.beq x y)
     cases Nat.beq x y <;> rfl
    case lss => rw [hsl]; rfl
    case leq =>
     rw [hsl]
     show okB s k (Nat.ble x y) = okB s k (!(Nat.blt y x))
     rw [not_blt]
    case gtr => rw [hsl]; rfl
    case geq =>
     rw [hsl]
     show okB s k (Nat.ble y x) = okB s k (!(Nat.blt x y))
     rw [not_blt]
def nthq {α : Type} (i : Nat) : List α → Option α :=
 Nat.rec (motive := fun _ => List α → Option α) (fun l => @List.rec α (fun _ => Option α) none (fun x _ _ => some x) l) (fun _ ih l => @List.rec α (fun _ => Option α) none (fun _ t _ => ih t) l) i
theorem nthq_eq {α : Type} : ∀ (i : Nat) (l : List α), nthq i l = l[i]?
 | 0, [] => rfl
 | 0, _ :: _ => rfl
 | i + 1, [] => rfl
 | i + 1, x :: l => by
  show nthq i l = _
  rw [nthq_eq i l]
  simp
inductive QOp where
 | move (op : Op) (x : QO)
 | load1 (op : Op) (x : QO)
 | loadN (op : Op) (n : Nat) (x : QO)
 | store1 (op : Op) (a x : QO)
 | addr (op : Op) (off : Nat) (x : QO)
 | idxS (op : Op) (sz : Nat) (x y : QO)
 | idxA (op : Op) (m sz : Nat) (x y : QO)
 | fld1 (op : Op) (off : Nat) (x : QO)
 | idxStr (op : Op) (x y : QO)
 | bin (op : Op) (b : BinOp) (x y : QO)
 | ext (op : Op) (i : Nat) (x : QO)
 | lenS (op : Op) (x : QO)
 | lenT (op : Op) (x : QO)
 | not (op : Op) (x : QO)
 | conv (op : Op) (kd : IntKind) (x : QO)
 | chk (op : Op) (x : QO)
 | alloc (op : Op) (c : T Value) (n z : Nat)
 | call (op : Op) (f : FuncId) (args : List QO)
 | callv (f : QO) (args : List QO)
 | slow (op : Op)
abbrev CallK := FuncId → List Value → AS → K → R
def swp (k : K) (s : AS) (v : Value) : R := k v s
def ld1P (s : AS) (k : K) (b o : Nat) : R := rd1 s b o (swp k s)
def ld1 (sl : R) (s : AS) (k : K) (v : Value) : R := sPtr v (ld1P s k) sl
def ldNP (n : Nat) (s : AS) (k : K) (b o : Nat) : R := @Option.rec _ (fun _ => R) none (fun l => k (.agg ⟨l⟩) s) (rdN s b o n)
def ldN (n : Nat) (sl : R) (s : AS) (k : K) (v : Value) : R := sPtr v (ldNP n s k) sl
def stC (k : K) (s : AS) : R := k (.tuple #[]) s
def stB (sl : R) (s : AS) (k : K) (b o : Nat) (v : Value) : R := sOne v (wr1 s b o v (stC k)) sl
def stA (x : QO) (tm : Tm) (sl : R) (s : AS) (k : K) (b o : Nat) : R := evq x tm (stB sl s k b o)
def st1 (x : QO) (tm : Tm) (sl : R) (s : AS) (k : K) (v : Value) : R := sPtr v (stA x tm sl s k) sl
def adQ (b : Nat) (s : AS) (k : K) (o : Nat) : R := k (.pointer (some ⟨b, o, none⟩)) s
def adP (off : Nat) (s : AS) (k : K) (b o : Nat) : R := natK (Nat.add o off) (adQ b s k)
def ad1 (off : Nat) (sl : R) (s : AS) (k : K) (v : Value) : R := sPtr v (adP off s k) sl
def inQ (sl : R) (f : Nat → R) (n : Int) : Nat → R :=
 @Int.rec (fun _ => R → (Nat → R) → Nat → R) (fun a sl f m => @Bool.rec (fun _ => R) sl (f a) (Nat.ble (Nat.succ a) m)) (fun _ sl _ _ => sl) n sl f
def ixD (sz b o : Nat) (s : AS) (k : K) (n : Nat) : R := natK (Nat.add o (Nat.mul n sz)) (adQ b s k)
def ixC (sz : Nat) (sl : R) (s : AS) (k : K) (b o m : Nat) (_ : IntKind) (n : Int) : R := inQ sl (ixD sz b o s k) n m
def ixB (sz : Nat) (sl : R) (s : AS) (k : K) (b o m : Nat) (w : Value) : R := sInt w (ixC sz sl s k b o m) sl
def ixA (sz : Nat) (y : QO) (tm : Tm) (sl : R) (s : AS) (k : K) (b o m : Nat) : R := evq y tm (ixB sz sl s k b o m)
def ixS (sz : Nat) (y : QO) (tm : Tm) (sl : R) (s : AS) (k : K) (v : Value) : R := sSlc v (ixA sz y tm sl s k) sl
def ixP (m sz : Nat) (y : QO) (tm : Tm) (sl : R) (s : AS) (k : K) (b o : Nat) : R := ixA sz y tm sl s k b o m
def ixR (m sz : Nat) (y : QO) (tm : Tm) (sl : R) (s : AS) (k : K) (v : Value) : R := sPtr v (ixP m sz y tm sl s k) sl
def nth1 (i : Nat) (sl : R) (s : AS) (k : K) (a : Array Value) : R := @Option.rec _ (fun _ => R) sl (swp k s) (nthq i a.toList)
def fl1 (i : Nat) (sl : R) (s : AS) (k : K) (v : Value) : R := sAgg v (nth1 i sl s k) sl
def ex1 (i : Nat) (sl : R) (s : AS) (k : K) (v : Value) : R := sTup v (nth1 i sl s k) sl
def isD (sl : R) (s : AS) (k : K) (c : UInt8) : R := natK c.toNat (okI .u8 s k)
def isC (sl : R) (s : AS) (k : K) (b : ByteArray) (_ : IntKind) (n : Int) : R := @Int.rec (fun _ => R) (fun n => @Option.rec _ (fun _ => R) sl (isD sl s k) (nthq n b.data.toList)) (fun _ => sl) n
def isB (sl : R) (s : AS) (k : K) (b : ByteArray) (w : Value) : R := sInt w (isC sl s k b) sl
def isA (y : QO) (tm : Tm) (sl : R) (s : AS) (k : K) (b : ByteArray) : R := evq y tm (isB sl s k b)
def is1 (y : QO) (tm : Tm) (sl : R) (s : AS) (k : K) (v : Value) : R := sStr v (isA y tm sl s k) sl
def biC (b : BinOp) (sl : R) (s : AS) (k : K) (w : Value) (kx : IntKind) (a : Int) : R := sInt w (bin3 b sl s k kx a) sl
def biS (b : BinOp) (sl : R) (s : AS) (k : K) (w : Value) (x : ByteArray) : R := sStr w (tOf b sl s k x) sl
def biB (b : BinOp) (sl : R) (s : AS) (k : K) (v w : Value) : R := sInt v (biC b sl s k w) (sStr v (biS b sl s k w) sl)
def biA (b : BinOp) (y : QO) (tm : Tm) (sl : R) (s : AS) (k : K) (v : Value) : R := evq y tm (biB b sl s k v)
def leS (sl : R) (s : AS) (k : K) (v : Value) : R := sLen v (okI .i64 s k) sl
def leU (s : AS) (k : K) (b : ByteArray) : R := natK b.data.toList.length (okI .i64 s k)
def leT (sl : R) (s : AS) (k : K) (v : Value) : R := sStr v (leU s k) sl
def noB (s : AS) (k : K) (b : Bool) : R := k (.bool (@Bool.rec (fun _ => Bool) true false b)) s
def no1 (sl : R) (s : AS) (k : K) (v : Value) : R := sBool v (noB s k) sl
def coA (kd : IntKind) (sl : R) (s : AS) (k : K) (_ : IntKind) (n : Int) : R := @Int.rec (fun _ => R) (fin kd sl s k) (fun _ => sl) n
def co1 (kd : IntKind) (sl : R) (s : AS) (k : K) (v : Value) : R := sInt v (coA kd sl s k) sl
def ckA (v : Value) (s : AS) (k : K) (_ _ : Nat) : R := k v s
def ck1 (sl : R) (s : AS) (k : K) (v : Value) : R := sPtr v (ckA v s k) sl
def al1 (c : T Value) (n z : Nat) (h : T AObj) (k : K) (nx : Nat) : R := k (.pointer (some ⟨nx, 0, none⟩)) ⟨h.pk nx (some (.cells c n z)), Nat.succ nx⟩
def ca1 (call : CallK) (f : FuncId) (s : AS) (k : K) (vs : List Value) : R := call f vs s k
def sFun (v : Value) : (Fn → Array Value → Array Value → R) → R :=
 @Value.rec (fun _ => (Fn → Array Value → Array Value → R) → R) (fun _ => Unit) (fun _ => Unit)
  (fun _ _ => none)
  (fun _ _ _ => none)
  (fun _ _ _ => none)
  (fun _ _ _ _ => none)
  (fun _ _ => none)
  (fun _ _ => none)
  (fun _ _ _ _ => none)
  (fun _ _ => none)
  (fun _ _ => none)
  (fun f a c _ _ g => g f a c)
  (fun _ => none)
  (fun _ _ _ _ => none)
  (fun _ => none)
  (fun _ _ _ => none)
  (fun _ _ _ => none)
  (fun _ _ => ()) () (fun _ _ _ _ => ()) v
def cvC (call : CallK) (g : FuncId) (a c : Array Value) (s : AS) (k : K) (xs : List Value) : R := call g (a.toList ++ xs ++ c.toList) s k
def cvB (args : List QO) (tm : Tm) (call : CallK) (s : AS) (k : K) (f : Fn) (a c : Array Value) : R :=
 match f with
 | .func g => evsq args tm (cvC call g a c s k)
 | _ => none
def cvA (args : List QO) (tm : Tm) (call : CallK) (s : AS) (k : K) (v : Value) : R := sFun v (cvB args tm call s k)
def opK (op : Op) : Env → Tm → AS → Res :=
 @Op.rec (fun _ => Env → Tm → AS → Res)
  (fun x => hMove x)
  (fun x => hMove x)
  (fun c a b => hPick c a b)
  (fun t => hAlloc t)
  (fun t x => hBox t x)
  (fun t ps => hBuild t ps)
  (fun t n ps => hBuildSlice t n ps)
  (fun t m k x => hMapUpdate t m k x)
  (fun t a => hLoad t a)
  (fun t a x => hStore t a x)
  (fun g => hNo)
  (fun g => hNo)
  (fun x => hNilCheck x)
  (fun b t x y u => hBin b t x y)
  (fun o t x => hUn o x)
  (fun a b x => hConv a b x)
  (fun d x => hNo)
  (fun t x => hIface t x)
  (fun f a b => hFunc f a b)
  (fun t r => hMap t r)
  (fun t n => hNo)
  (fun t l c => hMakeSlice t l c)
  (fun t x lo hi mx => hSlice t x lo hi mx)
  (fun t x f => hFieldAddr t x f)
  (fun t x f => hField t x f)
  (fun t x y => hIndexAddr t x y)
  (fun t x y => hIndex t x y)
  (fun t x y ok => hLookup t x y ok)
  (fun t m k x => hMapUpdate t m k x)
  (fun t m k => hNo)
  (fun t m a b => hNo)
  (fun t x => hRange t x)
  (fun it str => hNext it str)
  (fun it => hNo)
  (fun x u t ok => hAssert x t ok)
  (fun x i => hExtract x i)
  (fun c => hCall c)
  (fun c => hNo)
  (fun c => hNo)
  (fun x => hNo)
  (fun a b => hNo)
  (fun t a ok => hNo)
  (fun cs b => hNo)
  op
theorem opK_eq (op : Op) : opK op = opA op := by cases op <;> rfl
def slq (op : Op) (E : Env) (tm : Tm) (s : AS) (k : K) : R := toR (opK op E tm s) k
def exq (q : QOp) : Env → CallK → Tm → AS → K → R :=
 @QOp.rec (fun _ => Env → CallK → Tm → AS → K → R)
  (fun _ x _ _ tm s k => evq x tm (swp k s))
  (fun op x E _ tm s k => evq x tm (ld1 (slq op E tm s k) s k))
  (fun op n x E _ tm s k => evq x tm (ldN n (slq op E tm s k) s k))
  (fun op a x E _ tm s k => evq a tm (st1 x tm (slq op E tm s k) s k))
  (fun op off x E _ tm s k => evq x tm (ad1 off (slq op E tm s k) s k))
  (fun op sz x y E _ tm s k => evq x tm (ixS sz y tm (slq op E tm s k) s k))
  (fun op m sz x y E _ tm s k => evq x tm (ixR m sz y tm (slq op E tm s k) s k))
  (fun op off x E _ tm s k => evq x tm (fl1 off (slq op E tm s k) s k))
  (fun op x y E _ tm s k => evq x tm (is1 y tm (slq op E tm s k) s k))
  (fun op b x y E _ tm s k => evq x tm (biA b y tm (slq op E tm s k) s k))
  (fun op i x E _ tm s k => evq x tm (ex1 i (slq op E tm s k) s k))
  (fun op x E _ tm s k => evq x tm (leS (slq op E tm s k) s k))
  (fun op x E _ tm s k => evq x tm (leT (slq op E tm s k) s k))
  (fun op x E _ tm s k => evq x tm (no1 (slq op E tm s k) s k))
  (fun op kd x E _ tm s k => evq x tm (co1 kd (slq op E tm s k) s k))
  (fun op x E _ tm s k => evq x tm (ck1 (slq op E tm s k) s k))
  (fun _ c n z _ _ _ s k => natK s.nx (al1 c n z s.h k))
  (fun _ f args _ call tm s k => evsq args tm (ca1 call f s k))
  (fun x args _ call tm s k => evq x tm (cvA args tm call s k))
  (fun op E _ tm s k => slq op E tm s k) q
def mkLoad (E : Env) (t : TypeId) (a : Operand) : QOp :=
 match E.ty.get t with
  | some i => bif isAggD i.desc then .loadN (.load t a) i.size (mkO a) else .load1 (.load t a) (mkO a)
  | none => .slow (.load t a)
def mkStore (E : Env) (t : TypeId) (a x : Operand) : QOp :=
 match E.ty.get t with
  | some i => bif Nat.beq i.size 1 then .store1 (.store t a x) (mkO a) (mkO x) else .slow (.store t a x)
  | none => .slow (.store t a x)
def mkFAddr (E : Env) (t : TypeId) (x : Operand) (f : Nat) : QOp :=
 match E.ty.get t with
  | some i => match i.desc with
   | .struct fs => match fs.toList[f]? with
    | some fd => match E.ty.get fd.type with
     | some j => bif Nat.beq j.size 0 then .slow (.fieldAddr t x f) else .addr (.fieldAddr t x f) fd.offset (mkO x)
     | none => .slow (.fieldAddr t x f)
    | none => .slow (.fieldAddr t x f)
   | _ => .slow (.fieldAddr t x f)
  | none => .slow (.fieldAddr t x f)
def mkIAddr (E : Env) (t : TypeId) (x y : Operand) : QOp :=
 match E.ty.get t with
  | some i => match i.desc with
   | .slice e => match E.ty.get e with
    | some j => .idxS (.indexAddr t x y) j.size (mkO x) (mkO y)
    | none => .slow (.indexAddr t x y)
   | .array m e => match E.ty.get e with
    | some j => .idxA (.indexAddr t x y) m j.size (mkO x) (mkO y)
    | none => .slow (.indexAddr t x y)
   | _ => .slow (.indexAddr t x y)
  | none => .slow (.indexAddr t x y)
def mkField (E : Env) (t : TypeId) (x : Operand) (f : Nat) : QOp :=
 match E.ty.get t with
  | some i => match i.desc with
   | .struct fs => match fs.toList[f]? with
    | some fd => match E.ty.get fd.type with
     | some j => bif isAggD j.desc then .slow (.field t x f) else .fld1 (.field t x f) fd.offset (mkO x)
     | none => .slow (.field t x f)
    | none => .slow (.field t x f)
   | _ => .slow (.field t x f)
  | none => .slow (.field t x f)
def mkIndex (E : Env) (t : TypeId) (x y : Operand) : QOp :=
 match E.ty.get t with
  | some i => match i.desc with
   | .string => .idxStr (.index t x y) (mkO x) (mkO y)
   | _ => .slow (.index t x y)
  | none => .slow (.index t x y)
def mkConv (E : Env) (a b : TypeId) (x : Operand) : QOp :=
 match E.ty.get a, E.ty.get b with
  | some _, some di => match di.desc with
   | .int kd => .conv (.convert a b x) kd (mkO x)
   | _ => .slow (.convert a b x)
  | _, _ => .slow (.convert a b x)
def mkAlloc (E : Env) (t : TypeId) : QOp :=
 match E.ty.get t with
  | some i => .alloc (.alloc t) (T.e.fill 0 i.zero) i.zero.length (tz 0 t)
  | none => .slow (.alloc t)
def mkLen (E : Env) (xs : Array Operand) (ts : Array TypeId) : QOp :=
 match xs.toList, ts.toList with
  | [x], t :: _ => match E.ty.get t with
   | some i => match i.desc with
    | .slice _ => .lenS (.call ⟨.builtin .len, xs, ts⟩) (mkO x)
    | .string => .lenT (.call ⟨.builtin .len, xs, ts⟩) (mkO x)
    | _ => .slow (.call ⟨.builtin .len, xs, ts⟩)
   | none => .slow (.call ⟨.builtin .len, xs, ts⟩)
  | _, _ => .slow (.call ⟨.builtin .len, xs, ts⟩)
def mkCall (E : Env) (c : Call) : QOp :=
 match c with
 | ⟨.builtin .len, xs, ts⟩ => mkLen E xs ts
 | ⟨.value (.func f), xs, ts⟩ => .call (.call ⟨.value (.func f), xs, ts⟩) f (xs.toList.map mkO)
 | ⟨.value f, xs, _⟩ => .callv (mkO f) (xs.toList.map mkO)
 | c => .slow (.call c)
def mkUn (o : UnOp) (t : TypeId) (x : Operand) : QOp :=
 match o with
 | .not => .not (.unOp .not t x) (mkO x)
 | o => .slow (.unOp o t x)
def mkOp (E : Env) (op : Op) : QOp :=
 @Op.rec (fun _ => Env → QOp)
  (fun x E => .move (.move x) (mkO x))
  (fun x E => .move (.assign x) (mkO x))
  (fun c a b E => .slow (.pick c a b))
  (fun t E => mkAlloc E t)
  (fun t x E => .slow (.box t x))
  (fun t ps E => .slow (.build t ps))
  (fun t n ps E => .slow (.buildSlice t n ps))
  (fun t m k x E => .slow (.insert t m k x))
  (fun t a E => mkLoad E t a)
  (fun t a x E => mkStore E t a x)
  (fun g E => .slow (.ready g))
  (fun g E => .slow (.waits g))
  (fun x E => .chk (.nilCheck x) (mkO x))
  (fun b t x y u E => .bin (.binOp b t x y u) b (mkO x) (mkO y))
  (fun o t x E => mkUn o t x)
  (fun a b x E => mkConv E a b x)
  (fun d x E => .slow (.sliceToArrayPointer d x))
  (fun t x E => .slow (.makeInterface t x))
  (fun f a b E => .slow (.makeFunc f a b))
  (fun t r E => .slow (.makeMap t r))
  (fun t n E => .slow (.makeChan t n))
  (fun t l c E => .slow (.makeSlice t l c))
  (fun t x lo hi mx E => .slow (.slice t x lo hi mx))
  (fun t x f E => mkFAddr E t x f)
  (fun t x f E => mkField E t x f)
  (fun t x y E => mkIAddr E t x y)
  (fun t x y E => mkIndex E t x y)
  (fun t x y ok E => .slow (.lookup t x y ok))
  (fun t m k x E => .slow (.mapUpdate t m k x))
  (fun t m k E => .slow (.mapEntry t m k))
  (fun t m a b E => .slow (.entryStore t m a b))
  (fun t x E => .slow (.range t x))
  (fun it str E => .slow (.next it str))
  (fun it E => .slow (.entry it))
  (fun x u t ok E => .slow (.typeAssert x u t ok))
  (fun x i E => .ext (.extract x i) i (mkO x))
  (fun c E => mkCall E c)
  (fun c E => .slow (.go c))
  (fun c E => .slow (.defer c))
  (fun x E => .slow (.panic x))
  (fun a b E => .slow (.send a b))
  (fun t a ok E => .slow (.recv t a ok))
  (fun cs b E => .slow (.select cs b))
  op E
end
end Go.Ax
/- The machine, quick in the kernel, part 4: a quick operation comes to what the operation comes to. -/
namespace Go.Ax
open Go
theorem evq_swp (x : Operand) (tm : Tm) (s : AS) (k : K) : evq (mkO x) tm (swp k s) = toR (match ev tm x with
  | some v => some (v, s)
  | none => none) k := by
 rw [evq_eq]
 cases ev tm x <;> rfl
theorem evq_to {x : Operand} {tm : Tm} {f : Value → R} {r : R} (h : ∀ v, ev tm x = some v → f v = r) (hn : ev tm x = none → r = none) : evq (mkO x) tm f = r := by
 rw [evq_eq]
 cases hx : ev tm x with
 | none => exact (hn hx).symm
 | some v => exact h v hx
theorem inQ_eq {sl : R} {f : Nat → R} {n : Int} {m : Nat} (h : inR n m = true → f n.toNat = sl) : inQ sl f n m = sl := by
 cases n with
 | negSucc a => rfl
 | ofNat a =>
  show @Bool.rec (fun _ => R) sl (f a) (Nat.ble (Nat.succ a) m) = sl
  cases hb : Nat.ble (Nat.succ a) m with
  | false => rfl
  | true => exact h hb
section
variable {E : Env} {call : CallF} {callk : CallK} {tm : Tm} {s : AS} {k : K}
theorem slow_eq (op : Op) (h : ∀ c, op ≠ .call c) : exq (.slow op) E callk tm s k = toR (execA op E call tm s) k := by
 show toR (opK op E tm s) k = _
 rw [opK_eq]
 cases op <;> first | rfl | exact absurd rfl (h _)
theorem q_load (t : TypeId) (a : Operand) : exq (mkOp E (.load t a)) E callk tm s k = toR (execA (.load t a) E call tm s) k := by
 show exq (mkLoad E t a) E callk tm s k = _
 unfold mkLoad
 cases ht : E.ty.get t with
 | none => exact slow_eq _ (fun _ h => by cases h)
 | some i =>
  simp only
  cases hd : isAggD i.desc with
  | true =>
   rw [cond_true]
   refine evq_to (fun v hv => ?_) (fun hv => ?_)
   ·show sPtr v _ _ = _
    rw [sPtr_eq]
    split
    ·rename_i p
     show _ = toR (hLoad t a E tm s) k
     unfold hLoad
     rw [ht, hv]
     simp only [hd, cond_true]
     unfold ldNP
     cases rdN s p.block p.off i.size <;> rfl
    ·rfl
   ·show toR (hLoad t a E tm s) k = none
    unfold hLoad
    rw [ht, hv]; rfl
  | false =>
   rw [cond_false]
   refine evq_to (fun v hv => ?_) (fun hv => ?_)
   ·show sPtr v _ _ = _
    rw [sPtr_eq]
    split
    ·rename_i p
     show _ = toR (hLoad t a E tm s) k
     unfold hLoad
     rw [ht, hv]
     simp only [hd, cond_false]
     unfold ld1P
     rw [rd1_eq]
     cases rd s p.block p.off <;> rfl
    ·rfl
   ·show toR (hLoad t a E tm s) k = none
    unfold hLoad
    rw [ht, hv]; rfl
theorem q_store (t : TypeId) (a x : Operand) : exq (mkOp E (.store t a x)) E callk tm s k = toR (execA (.store t a x) E call tm s) k := by
 show exq (mkStore E t a x) E callk tm s k = _
 unfold mkStore
 cases ht : E.ty.get t with
 | none => exact slow_eq _ (fun _ h => by cases h)
 | some i =>
  simp only
  cases hd : Nat.beq i.size 1 with
  | false => exact slow_eq _ (fun _ h => by cases h)
  | true =>
   rw [cond_true]
   refine evq_to (fun v hv => ?_) (fun hv => ?_)
   ·show sPtr v _ _ = _
    rw [sPtr_eq]
    split
    ·rename_i p
     refine evq_to (fun u hu => ?_) (fun hu => ?_)
     ·show sOne u _ _ = _
      rw [sOne_eq]
      cases ho : oneC u with
      | false => rfl
      | true =>
       rw [cond_true]
       show _ = toR (hStore t a x E tm s) k
       unfold hStore
       rw [ht, hv, hu]
       have hc : u.cells.toList = [u] := by cases u <;> first | rfl | (simp [oneC] at ho)
       have h1 : i.size = 1 := Nat.eq_of_beq_eq_true hd
       simp only [hc, h1, List.length_cons, List.length_nil]
       show _ = toR (match wrN s p.block p.off [u] with
        | some s' => some (.tuple #[], s')
        | none => none) k
       rw [wr1_eq _ _ _ _ ho]
       cases wrN s p.block p.off [u] <;> rfl
     ·show toR (hStore t a x E tm s) k = none
      unfold hStore
      rw [ht, hv, hu]; rfl
    ·rfl
   ·show toR (hStore t a x E tm s) k = none
    unfold hStore
    rw [ht, hv]; rfl
theorem q_fieldAddr (t : TypeId) (x : Operand) (f : Nat) : exq (mkOp E (.fieldAddr t x f)) E callk tm s k = toR (execA (.fieldAddr t x f) E call tm s) k := by
 have hs : exq (.slow (.fieldAddr t x f)) E callk tm s k = toR (execA (.fieldAddr t x f) E call tm s) k := slow_eq _ (fun _ h => by cases h)
 show exq (mkFAddr E t x f) E callk tm s k = _
 unfold mkFAddr
 cases ht : E.ty.get t with
 | none => exact hs
 | some i =>
  simp only
  split
  ·rename_i fs hd
   cases hf : fs.toList[f]? with
   | none => exact hs
   | some fd =>
    simp only
    cases hj : E.ty.get fd.type with
    | none => exact hs
    | some j =>
     simp only
     cases hz : Nat.beq j.size 0 with
     | true => exact hs
     | false =>
      rw [cond_false]
      refine evq_to (fun v hv => ?_) (fun hv => ?_)
      ·show sPtr v _ _ = _
       rw [sPtr_eq]
       split
       ·rename_i p
        show _ = toR (hFieldAddr t x f E tm s) k
        unfold hFieldAddr
        rw [ht, hv]
        simp only [hd, hf, hj, hz, cond_false, natK_eq]
        unfold adP
        rw [natK_eq]
        rfl
       ·rfl
      ·show toR (hFieldAddr t x f E tm s) k = none
       unfold hFieldAddr
       rw [ht, hv]; rfl
  ·exact hs
theorem q_indexAddr (t : TypeId) (x y : Operand) : exq (mkOp E (.indexAddr t x y)) E callk tm s k = toR (execA (.indexAddr t x y) E call tm s) k := by
 have hs : exq (.slow (.indexAddr t x y)) E callk tm s k = toR (execA (.indexAddr t x y) E call tm s) k := slow_eq _ (fun _ h => by cases h)
 show exq (mkIAddr E t x y) E callk tm s k = _
 unfold mkIAddr
 cases ht : E.ty.get t with
 | none => exact hs
 | some i =>
  simp only
  have hnx : ev tm x = none → toR (hIndexAddr t x y E tm s) k = none := fun hv => by
   unfold hIndexAddr
   rw [ht, hv]; rfl
  have hny : ev tm y = none → toR (hIndexAddr t x y E tm s) k = none := fun hv => by
   unfold hIndexAddr
   rw [ht, hv]
   cases ev tm x <;> rfl
  split
  ·rename_i e hd
   cases hj : E.ty.get e with
   | none => exact hs
   | some j =>
    simp only
    refine evq_to (fun v hv => ?_) hnx
    show sSlc v _ _ = _
    rw [sSlc_eq]
    split
    ·rename_i a m c
     refine evq_to (fun u hu => ?_) hny
     show sInt u _ _ = _
     rw [sInt_eq]
     split
     ·rename_i kd n
      refine inQ_eq (fun hr => ?_)
      show _ = toR (hIndexAddr t x y E tm s) k
      unfold hIndexAddr
      rw [ht, hv, hu]
      simp only [hd, hj, hr, cond_true, natK_eq]
      unfold ixD
      rw [natK_eq]
      rfl
     ·rfl
    ·rfl
  ·rename_i m e hd
   cases hj : E.ty.get e with
   | none => exact hs
   | some j =>
    simp only
    refine evq_to (fun v hv => ?_) hnx
    show sPtr v _ _ = _
    rw [sPtr_eq]
    split
    ·rename_i a
     refine evq_to (fun u hu => ?_) hny
     show sInt u _ _ = _
     rw [sInt_eq]
     split
     ·rename_i kd n
      refine inQ_eq (fun hr => ?_)
      show _ = toR (hIndexAddr t x y E tm s) k
      unfold hIndexAddr
      rw [ht, hv, hu]
      simp only [hd, hj, hr, cond_true, natK_eq]
      unfold ixD
      rw [natK_eq]
      rfl
     ·rfl
    ·rfl
  ·exact hs
theorem q_field (t : TypeId) (x : Operand) (f : Nat) : exq (mkOp E (.field t x f)) E callk tm s k = toR (execA (.field t x f) E call tm s) k := by
 have hs : exq (.slow (.field t x f)) E callk tm s k = toR (execA (.field t x f) E call tm s) k := slow_eq _ (fun _ h => by cases h)
 show exq (mkField E t x f) E callk tm s k = _
 unfold mkField
 cases ht : E.ty.get t with
 | none => exact hs
 | some i =>
  simp only
  split
  ·rename_i fs hd
   cases hf : fs.toList[f]? with
   | none => exact hs
   | some fd =>
    simp only
    cases hj : E.ty.get fd.type with
    | none => exact hs
    | some j =>
     simp only
     cases hz : isAggD j.desc with
     | true => exact hs
     | false =>
      rw [cond_false]
      refine evq_to (fun v hv => ?_) (fun hv => ?_)
      ·show sAgg v _ _ = _
       rw [sAgg_eq]
       split
       ·rename_i cs
        unfold nth1
        rw [nthq_eq]
        cases hg : cs.toList[fd.offset]? with
        | none => rfl
        | some u =>
         show _ = toR (hField t x f E tm s) k
         unfold hField
         rw [ht, hv]
         simp only [hd, hf, partA, hj, hz, cond_false, hg]
         rfl
       ·rfl
      ·show toR (hField t x f E tm s) k = none
       unfold hField
       rw [ht, hv]; rfl
  ·exact hs
theorem q_index (t : TypeId) (x y : Operand) : exq (mkOp E (.index t x y)) E callk tm s k = toR (execA (.index t x y) E call tm s) k := by
 have hs : exq (.slow (.index t x y)) E callk tm s k = toR (execA (.index t x y) E call tm s) k := slow_eq _ (fun _ h => by cases h)
 show exq (mkIndex E t x y) E callk tm s k = _
 unfold mkIndex
 cases ht : E.ty.get t with
 | none => exact hs
 | some i =>
  simp only
  split
  ·rename_i hd
   refine evq_to (fun v hv => ?_) (fun hv => ?_)
   ·show sStr v _ _ = _
    rw [sStr_eq]
    split
    ·rename_i b
     refine evq_to (fun u hu => ?_) (fun hu => ?_)
     ·show sInt u _ _ = _
      rw [sInt_eq]
      split
      ·rename_i kd n
       cases n with
       | negSucc n => rfl
       | ofNat n =>
        show @Option.rec _ (fun _ => R) _ _ (nthq n b.data.toList) = _
        rw [nthq_eq]
        cases hg : b.data.toList[n]? with
        | none => rfl
        | some c =>
         show isD _ s k c = toR (hIndex t x y E tm s) k
         unfold hIndex
         rw [ht, hv, hu]
         have h0 : (0 : Int) ≤ Int.ofNat n := Int.natCast_nonneg n
         have hg' : b.data.toList[(Int.ofNat n).toNat]? = some c := hg
         simp only [hd, h0, if_true, hg']
         unfold isD
         rw [natK_eq]
         rfl
      ·rfl
     ·show toR (hIndex t x y E tm s) k = none
      unfold hIndex
      rw [ht, hv, hu]; rfl
    ·rfl
   ·show toR (hIndex t x y E tm s) k = none
    unfold hIndex
    rw [ht, hv]; rfl
  ·exact hs
theorem toR_bin (op : BinOp) (t : TypeId) (x y : Operand) {v w : Value} (hv : ev tm x = some v) (hw : ev tm y = some w) : toR (hBin op t x y E tm s) k = toR1 (binA E s op t x y v w) k s := by
 unfold hBin
 rw [hv, hw]
 simp only
 cases binA E s op t x y v w <;> rfl
theorem q_bin (op : BinOp) (t u : TypeId) (x y : Operand) : exq (mkOp E (.binOp op t x y u)) E callk tm s k = toR (execA (.binOp op t x y u) E call tm s) k := by
 show evq (mkO x) tm _ = _
 refine evq_to (fun v hv => ?_) (fun hv => ?_)
 ·refine evq_to (fun w hw => ?_) (fun hw => ?_)
  ·show sInt v _ _ = _
   rw [sInt_eq]
   split
   ·rename_i kx a
    show sInt w _ _ = _
    rw [sInt_eq]
    split
    ·rename_i ky b
     refine bin3_eq (E := E) (t := t) (ox := x) (oy := y) ?_
     show toR (hBin op t x y E tm s) k = _
     exact toR_bin op t x y hv hw
    ·rfl
   ·rw [sStr_eq]
    split
    ·rename_i ba
     show sStr w _ _ = _
     rw [sStr_eq]
     split
     ·rename_i bb
      refine tOf_eq op ?_
      show toR (hBin op t x y E tm s) k = _
      exact toR_bin op t x y hv hw
     ·rfl
    ·rfl
  ·show toR (hBin op t x y E tm s) k = none
   unfold hBin
   rw [hv, hw]; rfl
 ·show toR (hBin op t x y E tm s) k = none
  unfold hBin
  rw [hv]; rfl
theorem q_ext (x : Operand) (i : Nat) : exq (mkOp E (.extract x i)) E callk tm s k = toR (execA (.extract x i) E call tm s) k := by
 show evq (mkO x) tm _ = _
 refine evq_to (fun v hv => ?_) (fun hv => ?_)
 ·show sTup v _ _ = _
  rw [sTup_eq]
  split
  ·rename_i cs
   unfold nth1
   rw [nthq_eq]
   cases hg : cs.toList[i]? with
   | none => rfl
   | some u =>
    show _ = toR (hExtract x i E tm s) k
    unfold hExtract
    rw [hv]
    simp only [hg]
    rfl
  ·rfl
 ·show toR (hExtract x i E tm s) k = none
  unfold hExtract
  rw [hv]; rfl
theorem q_not (t : TypeId) (x : Operand) : exq (mkOp E (.unOp .not t x)) E callk tm s k = toR (execA (.unOp .not t x) E call tm s) k := by
 show evq (mkO x) tm _ = _
 refine evq_to (fun v hv => ?_) (fun hv => ?_)
 ·show sBool v _ _ = _
  rw [sBool_eq]
  split
  ·rename_i b
   show _ = toR (hUn .not x E tm s) k
   unfold hUn
   rw [hv]
   cases b <;> rfl
  ·rfl
 ·show toR (hUn .not x E tm s) k = none
  unfold hUn
  rw [hv]; rfl
theorem q_conv (a b : TypeId) (x : Operand) : exq (mkOp E (.convert a b x)) E callk tm s k = toR (execA (.convert a b x) E call tm s) k := by
 have hs : exq (.slow (.convert a b x)) E callk tm s k = toR (execA (.convert a b x) E call tm s) k := slow_eq _ (fun _ h => by cases h)
 show exq (mkConv E a b x) E callk tm s k = _
 unfold mkConv
 cases ha : E.ty.get a with
 | none => exact hs
 | some si =>
  cases hb : E.ty.get b with
  | none => exact hs
  | some di =>
   simp only
   split
   ·rename_i kd hd
    refine evq_to (fun v hv => ?_) (fun hv => ?_)
    ·show sInt v _ _ = _
     rw [sInt_eq]
     split
     ·rename_i kx n
      cases n with
      | negSucc n => rfl
      | ofNat n =>
       refine fin_eq (fun h => ?_)
       show _ = toR (hConv a b x E tm s) k
       unfold hConv
       rw [hv]
       simp only [convA, ha, hb, hd, intV_nat h]
       rfl
     ·rfl
    ·show toR (hConv a b x E tm s) k = none
     unfold hConv
     rw [hv]; rfl
   ·exact hs
theorem q_chk (x : Operand) : exq (mkOp E (.nilCheck x)) E callk tm s k = toR (execA (.nilCheck x) E call tm s) k := by
 show evq (mkO x) tm _ = _
 refine evq_to (fun v hv => ?_) (fun hv => ?_)
 ·show sPtr v _ _ = _
  rw [sPtr_eq]
  split
  ·rename_i p
   show _ = toR (hNilCheck x E tm s) k
   unfold hNilCheck
   rw [hv]
   rfl
  ·rfl
 ·show toR (hNilCheck x E tm s) k = none
  unfold hNilCheck
  rw [hv]; rfl
theorem q_alloc (t : TypeId) : exq (mkOp E (.alloc t)) E callk tm s k = toR (execA (.alloc t) E call tm s) k := by
 show exq (mkAlloc E t) E callk tm s k = _
 unfold mkAlloc
 cases ht : E.ty.get t with
 | none => exact slow_eq _ (fun _ h => by cases h)
 | some i =>
  show natK s.nx _ = toR (hAlloc t E tm s) k
  unfold hAlloc
  rw [natK_eq, ht]
  unfold al1
  rw [T.pk_eq]
  rfl
theorem q_len (xs : Array Operand) (ts : Array TypeId) : exq (mkOp E (.call ⟨.builtin .len, xs, ts⟩)) E callk tm s k = toR (execA (.call ⟨.builtin .len, xs, ts⟩) E call tm s) k := by
 have hs : exq (.slow (.call ⟨.builtin .len, xs, ts⟩)) E callk tm s k = toR (execA (.call ⟨.builtin .len, xs, ts⟩) E call tm s) k := rfl
 show exq (mkLen E xs ts) E callk tm s k = _
 unfold mkLen
 split
 ·rename_i x t rest hx hts
  have hnx : ev tm x = none → toR (hCall ⟨.builtin .len, xs, ts⟩ E tm s) k = none := fun hv => by
   unfold hCall
   simp only [hx, evs, hv]
   rfl
  have hgo : ∀ v, ev tm x = some v → toR (hCall ⟨.builtin .len, xs, ts⟩ E tm s) k = toR1 (lenA E s t v) k s := fun v hv => by
   unfold hCall
   simp only [hx, evs, hv, hts, builtinA]
   cases lenA E s t v <;> rfl
  cases ht : E.ty.get t with
  | none => exact hs
  | some i =>
   simp only
   split
   ·rename_i e hd
    refine evq_to (fun v hv => ?_) hnx
    show sLen v _ _ = _
    rw [sLen_eq]
    split
    ·rename_i a n c
     show _ = toR (hCall ⟨.builtin .len, xs, ts⟩ E tm s) k
     rw [hgo _ hv]
     simp only [lenA, ht, hd]
     rfl
    ·rfl
   ·rename_i hd
    refine evq_to (fun v hv => ?_) hnx
    show sStr v _ _ = _
    rw [sStr_eq]
    split
    ·rename_i b
     show _ = toR (hCall ⟨.builtin .len, xs, ts⟩ E tm s) k
     rw [hgo _ hv]
     simp only [lenA, ht, hd]
     unfold leU
     rw [natK_eq]
     rfl
    ·rfl
   ·exact hs
 ·exact hs
theorem q_call (hc : ∀ f xs s k, callk f xs s k = toR (call f xs s) k) (f : FuncId) (xs : Array Operand) (ts : Array TypeId) :
  exq (mkOp E (.call ⟨.value (.func f), xs, ts⟩)) E callk tm s k = toR (execA (.call ⟨.value (.func f), xs, ts⟩) E call tm s) k := by
 show evsq (xs.toList.map mkO) tm _ = toR (callV (.func f) xs.toList call tm s) k
 rw [evsq_eq]
 unfold callV
 show _ = toR (match ev tm (.func f), evs tm xs.toList with
  | some (.func (.func g) first captured), some xs => call g (first.toList ++ xs ++ captured.toList) s
  | _, _ => none) k
 have : ev tm (.func f) = some (.func (.func f) #[] #[]) := rfl
 rw [this]
 cases evs tm xs.toList with
 | none => rfl
 | some vs =>
  show callk f vs s k = _
  rw [hc]
  simp
theorem q_callv (hc : ∀ f xs s k, callk f xs s k = toR (call f xs s) k) (f : Operand) (xs : Array Operand) (ts : Array TypeId) :
  exq (.callv (mkO f) (xs.toList.map mkO)) E callk tm s k = toR (execA (.call ⟨.value f, xs, ts⟩) E call tm s) k := by
 show evq (mkO f) tm (cvA (xs.toList.map mkO) tm callk s k) = toR (callV f xs.toList call tm s) k
 rw [evq_eq]
 unfold callV
 cases ev tm f with
 | none => rfl
 | some v =>
  show sFun v _ = _
  cases v <;> first | rfl | skip
  rename_i fn a c
  show cvB _ _ _ _ _ fn a c = _
  unfold cvB
  cases fn <;> first | rfl | skip
  rename_i g
  simp only
  rw [evsq_eq]
  cases evs tm xs.toList with
  | none => rfl
  | some vs => exact hc _ _ _ _
theorem exq_eq (hc : ∀ f xs s k, callk f xs s k = toR (call f xs s) k) (op : Op) : exq (mkOp E op) E callk tm s k = toR (execA op E call tm s) k := by
 cases op with
 | move x => exact evq_swp x tm s k
 | assign x => exact evq_swp x tm s k
 | load t a => exact q_load t a
 | store t a x => exact q_store t a x
 | fieldAddr t x f => exact q_fieldAddr t x f
 | indexAddr t x y => exact q_indexAddr t x y
 | field t x f => exact q_field t x f
 | index t x y => exact q_index t x y
 | binOp b t x y u => exact q_bin b t u x y
 | extract x i => exact q_ext x i
 | unOp o t x =>
  cases o
  case not => exact q_not t x
  all_goals exact slow_eq _ (fun _ h => by cases h)
 | convert a b x => exact q_conv a b x
 | nilCheck x => exact q_chk x
 | alloc t => exact q_alloc t
 | call c =>
  obtain ⟨ce, xs, ts⟩ := c
  cases ce with
  | value f =>
   cases f
   case func f => exact q_call hc f xs ts
   all_goals exact q_callv hc _ xs ts
  | invoke r n => rfl
  | builtin b =>
   cases b
   case len => exact q_len xs ts
   all_goals rfl
 | _ => exact slow_eq _ (fun _ h => by cases h)
end
end Go.Ax
/- The machine, quick in the kernel, part 5: regions, code, calls. -/
namespace Go.Ax
open Go
noncomputable section
inductive QD where
 | no
 | t (p : Pth)
 | bad
def mkD (N : Nat) (dst : Option Tmp) : QD :=
 match dst with
 | none => .no
 | some d => bif Nat.ble d N then .t (path d) else .bad
def putq (d : QD) : Tm → Value → (Tm → R) → R :=
 @QD.rec (fun _ => Tm → Value → (Tm → R) → R) (fun tm _ k => k tm) (fun p tm v k => k (T.pp (some v) p tm)) (fun _ _ _ => none) d
theorem putq_eq (N : Nat) (dst : Option Tmp) (tm : Tm) (v : Value) (k : Tm → R) : putq (mkD N dst) tm v k = match putA N tm dst v with
  | none => none
  | some tm' => k tm' := by
 cases dst with
 | none => rfl
 | some d =>
  unfold mkD putA
  simp only
  cases Nat.ble d N with
  | false => rfl
  | true =>
   show k (T.pp (some v) (pathN d d) tm) = k (tm.set d v)
   rw [T.pp_path (some v) d d tm (Nat.le_refl _)]
   rfl
inductive QG where
 | no
 | g (p : Pth) (want : Bool)
 | bad
def gqB (want : Bool) (y n : R) (b : Bool) : R := @Bool.rec (fun _ => R) (@Bool.rec (fun _ => R) y n want) (@Bool.rec (fun _ => R) n y want) b
def gqA (want : Bool) (y n : R) (v : Value) : R := sBool v (gqB want y n) n
def gq (g : QG) : Tm → R → R → R :=
 @QG.rec (fun _ => Tm → R → R → R) (fun _ y _ => y) (fun p want tm y n => @Option.rec _ (fun _ => R) none (gqA want y n) (T.gp p tm)) (fun _ _ _ => none) g
def mkG (ops : List Oper) (o : Oper) : QG :=
 match o.guard with
 | none => .no
 | some (j, want) => match ops[j]? with
  | some o' => match o'.dst with
   | some d => .g (path d) want
   | none => .bad
  | none => .bad
theorem gq_eq (ops : List Oper) (o : Oper) (tm : Tm) (y n : R) : gq (mkG ops o) tm y n = match wantedA ops tm o with
  | none => none
  | some false => n
  | some true => y := by
 unfold mkG wantedA
 cases o.guard with
 | none => rfl
 | some jw =>
  obtain ⟨j, want⟩ := jw
  simp only
  cases ops[j]? with
  | none => rfl
  | some o' =>
   simp only
   cases o'.dst with
   | none => rfl
   | some d =>
    show @Option.rec _ (fun _ => R) none (gqA want y n) (T.gp (pathN d d) tm) = _
    rw [T.gp_path d d tm (Nat.le_refl _)]
    simp only
    cases tm.get d with
    | none => rfl
    | some v =>
     cases v <;> first | rfl | skip
     rename_i b
     cases b <;> cases want <;> rfl
structure QPer where
 q : QOp
 d : QD
 g : QG
def mkPer (E : Env) (N : Nat) (ops : List Oper) (o : Oper) : QPer := ⟨mkOp E o.op, mkD N o.dst, mkG ops o⟩
abbrev RunK := Env → CallK → Tm → AS → (Tm → AS → R) → R
def nxB (ih : RunK) (E : Env) (call : CallK) (s : AS) (k : Tm → AS → R) (tm : Tm) : R := ih E call tm s k
def nxA (ih : RunK) (E : Env) (call : CallK) (d : QD) (tm : Tm) (k : Tm → AS → R) (v : Value) (s : AS) : R := putq d tm v (nxB ih E call s k)
def perA (ih : RunK) (q : QOp) (d : QD) (g : QG) : RunK := fun E call tm s k => gq g tm (exq q E call tm s (nxA ih E call d tm k)) (putq d tm undef (nxB ih E call s k))
def perq (o : QPer) (ih : RunK) : RunK := @QPer.rec (fun _ => RunK) (perA ih) o
def runq (l : List QPer) : RunK := @List.rec _ (fun _ => RunK) (fun _ _ tm s k => k tm s) (fun o _ ih => perq o ih) l
theorem runq_eq {E : Env} {call : CallF} {callk : CallK} (hc : ∀ f xs s k, callk f xs s k = toR (call f xs s) k) (N : Nat) (ops : List Oper) :
  ∀ (l : List Oper) (tm : Tm) (s : AS) (k : Tm → AS → R), runq (l.map (mkPer E N ops)) E callk tm s k = match runL E call N ops l tm s with
   | none => none
   | some (tm', s') => k tm' s'
 | [], _, _, _ => rfl
 | o :: l, tm, s, k => by
  have ih := runq_eq (E := E) hc N ops l
  have hr : runL E call N ops (o :: l) tm s = match wantedA ops tm o with
   | none => none
   | some false => match putA N tm o.dst undef with
    | none => none
    | some tm' => runL E call N ops l tm' s
   | some true => match execA o.op E call tm s with
    | none => none
    | some (v, s') => match putA N tm o.dst v with
     | none => none
     | some tm' => runL E call N ops l tm' s' := rfl
  rw [hr]
  show gq (mkG ops o) tm (exq (mkOp E o.op) E callk tm s _) (putq (mkD N o.dst) tm undef _) = _
  rw [gq_eq, exq_eq hc, putq_eq]
  cases wantedA ops tm o with
  | none => rfl
  | some b =>
   cases b with
   | false =>
    simp only
    cases putA N tm o.dst undef with
    | none => rfl
    | some tm' => exact ih tm' s k
   | true =>
    simp only
    cases execA o.op E call tm s with
    | none => rfl
    | some p =>
     obtain ⟨v, s'⟩ := p
     show putq (mkD N o.dst) tm v _ = _
     rw [putq_eq]
     simp only
     cases putA N tm o.dst v with
     | none => rfl
     | some tm' => exact ih tm' s' k
inductive QReg where
 | plain (l : List QPer)
 | drawn (N : Nat) (ops : List Oper)
def pairK : K := fun v s => some (v, s)
def dirq (call : CallK) : CallF := fun f xs s => call f xs s pairK
def drqB (r : Option (Tm × AS)) (k : Tm → AS → R) : R := @Option.rec _ (fun _ => R) none (fun p => k p.1 p.2) r
def regq (r : QReg) : RunK :=
 @QReg.rec (fun _ => RunK) (fun l => runq l) (fun N ops E call tm s k => drqB (drawnA E (dirq call) N ops tm s) k) r
def mkReg (E : Env) (N : Nat) (ops : List Oper) (draw : Bool) : QReg :=
 bif draw && (ops.any fun o => eff E.ty o.op || isNew o.op) then .drawn N ops else .plain (ops.map (mkPer E N ops))
theorem toR_pair (r : R) : toR r pairK = r := by
 cases r with
 | none => rfl
 | some p => obtain ⟨v, s⟩ := p; rfl
theorem dirq_eq {call : CallF} {callk : CallK} (hc : ∀ f xs s k, callk f xs s k = toR (call f xs s) k) : dirq callk = call := by
 funext f xs s
 unfold dirq
 rw [hc, toR_pair]
theorem regq_eq {E : Env} {call : CallF} {callk : CallK} (hc : ∀ f xs s k, callk f xs s k = toR (call f xs s) k) (N : Nat) (ops : List Oper) (draw : Bool) (tm : Tm) (s : AS) (k : Tm → AS → R) :
  regq (mkReg E N ops draw) E callk tm s k = match (bif draw then drawnA E call N ops tm s else runL E call N ops ops tm s) with
   | none => none
   | some (tm', s') => k tm' s' := by
 unfold mkReg
 cases draw with
 | false => exact runq_eq hc N ops ops tm s k
 | true =>
  simp only [Bool.true_and, cond_true]
  cases ha : ops.any fun o => eff E.ty o.op || isNew o.op with
  | false =>
   have : drawnA E call N ops tm s = runL E call N ops ops tm s := by
    unfold drawnA
    rw [ha, cond_false]
   rw [this]
   exact runq_eq hc N ops ops tm s k
  | true =>
   show drqB (drawnA E (dirq callk) N ops tm s) k = _
   rw [dirq_eq hc]
   cases drawnA E call N ops tm s <;> rfl
inductive QCode where
 | skip
 | reg (r : QReg)
 | seq (a b : QCode)
 | cond (x : QO) (a b : QCode)
 | block (i : Nat) (b : QCode)
 | loop (b : QCode)
 | exit (i : Nat)
 | ret
 | rng (f : Operand)
 | no
def mkC (E : Env) (N : Nat) (c : Code) : QCode :=
 match c with
 | .skip => .skip
 | .region _ ops draw => .reg (mkReg E N ops.toList draw)
 | .seq a b => .seq (mkC E N a) (mkC E N b)
 | .cond x a b => .cond (mkO x) (mkC E N a) (mkC E N b)
 | .block i b => .block i (mkC E N b)
 | .loop b => .loop (mkC E N b)
 | .exit i => .exit i
 | .ret => .ret
 | .rangeFunc f _ _ _ => .rng f
 | _ => .no
abbrev KX := X → Tm → AS → R
abbrev RunX := QCode → Tm → AS → KX → R
def sqK (b : QCode) (ih : RunX) (k : KX) (x : X) : Tm → AS → R :=
 @X.rec (fun _ => QCode → RunX → KX → Tm → AS → R) (fun b ih k tm s => ih b tm s k) (fun i _ _ k tm s => k (.exit i) tm s) (fun _ _ k tm s => k .ret tm s) x b ih k
def bkK (i : Nat) (k : KX) (x : X) : Tm → AS → R :=
 @X.rec (fun _ => Nat → KX → Tm → AS → R) (fun _ k tm s => k .nor tm s) (fun j i k tm s => @Bool.rec (fun _ => R) (k (.exit j) tm s) (k .nor tm s) (Nat.beq j i)) (fun _ k tm s => k .ret tm s) x i k
def cdB (a b : QCode) (ih : RunX) (tm : Tm) (s : AS) (k : KX) (t : Bool) : R := @Bool.rec (fun _ => R) (ih b tm s k) (ih a tm s k) t
def cdA (a b : QCode) (ih : RunX) (tm : Tm) (s : AS) (k : KX) (v : Value) : R := sBool v (cdB a b ih tm s k) none
def rngq (f : Operand) (E : Env) (tm : Tm) (s : AS) (k : KX) : R :=
 @Option.rec _ (fun _ => R) none (fun p => k p.1 p.2.1 p.2.2) (cRange f E (fun _ _ _ => none) 0 (fun _ _ _ => none) tm s)
def stepq (c : QCode) : Env → CallK → RunX → Tm → AS → KX → R :=
 @QCode.rec (fun _ => Env → CallK → RunX → Tm → AS → KX → R)
  (fun _ _ _ tm s k => k .nor tm s)
  (fun r E call _ tm s k => regq r E call tm s (k .nor))
  (fun a b _ _ _ _ ih tm s k => ih a tm s (sqK b ih k))
  (fun x a b _ _ _ _ ih tm s k => evq x tm (cdA a b ih tm s k))
  (fun i b _ _ _ ih tm s k => ih b tm s (bkK i k))
  (fun b _ _ _ ih tm s k => ih b tm s (sqK (.loop b) ih k))
  (fun i _ _ _ tm s k => k (.exit i) tm s)
  (fun _ _ _ tm s k => k .ret tm s)
  (fun f E _ _ tm s k => rngq f E tm s k)
  (fun _ _ _ _ _ _ => none) c
def codeq (E : Env) (call : CallK) (F : Nat) : RunX :=
 Nat.rec (motive := fun _ => RunX) (fun _ _ _ _ => none) (fun _ ih c tm s k => stepq c E call ih tm s k) F
def toX (r : CRes) (k : KX) : R := match r with
 | none => none
 | some (x, tm, s) => k x tm s
theorem codeq_eq {E : Env} {call : CallF} {callk : CallK} (hc : ∀ f xs s k, callk f xs s k = toR (call f xs s) k) (N : Nat) :
  ∀ (F : Nat) (c : Code) (tm : Tm) (s : AS) (k : KX), codeq E callk F (mkC E N c) tm s k = toX (codeA E call N F c tm s) k
 | 0, _, _, _, _ => rfl
 | F + 1, c, tm, s, k => by
  have ih := codeq_eq (E := E) hc N F
  show stepq (mkC E N c) E callk (codeq E callk F) tm s k = toX (stepC c E call N (codeA E call N F) tm s) k
  cases c with
  | skip => rfl
  | region i ops draw =>
   show regq (mkReg E N ops.toList draw) E callk tm s (k .nor) = toX (cRegion ops draw E call N (codeA E call N F) tm s) k
   rw [regq_eq hc]
   unfold cRegion
   cases (bif draw then drawnA E call N ops.toList tm s else runL E call N ops.toList ops.toList tm s) <;> rfl
  | seq a b =>
   show codeq E callk F (mkC E N a) tm s (sqK (mkC E N b) (codeq E callk F) k) = toX (cSeq a b E call N (codeA E call N F) tm s) k
   rw [ih]
   unfold cSeq
   cases codeA E call N F a tm s with
   | none => rfl
   | some r =>
    obtain ⟨x, tm', s'⟩ := r
    cases x with
    | nor => exact ih b tm' s' k
    | exit i => rfl
    | ret => rfl
  | cond x a b =>
   show evq (mkO x) tm (cdA (mkC E N a) (mkC E N b) (codeq E callk F) tm s k) = toX (cCond x a b E call N (codeA E call N F) tm s) k
   rw [evq_eq]
   unfold cCond
   cases ev tm x with
   | none => rfl
   | some v =>
    show sBool v _ none = _
    cases v <;> first | rfl | skip
    rename_i t
    cases t with
    | true => exact ih a tm s k
    | false => exact ih b tm s k
  | block i b =>
   show codeq E callk F (mkC E N b) tm s (bkK i k) = toX (cBlock i b E call N (codeA E call N F) tm s) k
   rw [ih]
   unfold cBlock
   cases codeA E call N F b tm s with
   | none => rfl
   | some r =>
    obtain ⟨x, tm', s'⟩ := r
    cases x with
    | nor => rfl
    | exit j =>
     show @Bool.rec (fun _ => R) (k (.exit j) tm' s') (k .nor tm' s') (Nat.beq j i) = toX (bif Nat.beq j i then some (.nor, tm', s') else some (.exit j, tm', s')) k
     cases Nat.beq j i <;> rfl
    | ret => rfl
  | loop b =>
   show codeq E callk F (mkC E N b) tm s (sqK (mkC E N (.loop b)) (codeq E callk F) k) = toX (cLoop b E call N (codeA E call N F) tm s) k
   rw [ih]
   unfold cLoop
   cases codeA E call N F b tm s with
   | none => rfl
   | some r =>
    obtain ⟨x, tm', s'⟩ := r
    cases x with
    | nor => exact ih (.loop b) tm' s' k
    | exit i => rfl
    | ret => rfl
  | exit i => rfl
  | ret => rfl
  | rangeFunc f ps a b =>
   show rngq f E tm s k = toX (cRange f E call N (codeA E call N F) tm s) k
   have : cRange f E (fun _ _ _ => none) 0 (fun _ _ _ => none) tm s = cRange f E call N (codeA E call N F) tm s := rfl
   unfold rngq
   rw [this]
   cases cRange f E call N (codeA E call N F) tm s <;> rfl
  | _ => rfl
inductive QRes where
 | one (p : Pth)
 | many (l : List QO)
 | slow (l : List ResultVar)
def tmpsOf : List ResultVar → Option (List Nat)
 | [] => some []
 | .tmp t :: l => match tmpsOf l with
  | some ts => some (t :: ts)
  | none => none
 | _ :: _ => none
def mkRes (l : List ResultVar) : QRes :=
 match tmpsOf l with
 | some [t] => .one (path t)
 | some ts => .many (ts.map fun t => .t (path t))
 | none => .slow l
def rsB (k : K) (s : AS) (vs : List Value) : R := k (packA vs) s
def resq (r : QRes) : Env → Tm → AS → K → R :=
 @QRes.rec (fun _ => Env → Tm → AS → K → R) (fun p _ tm s k => @Option.rec _ (fun _ => R) none (swp k s) (T.gp p tm)) (fun l _ tm s k => evsq l tm (rsB k s))
  (fun l E tm s k => @Option.rec _ (fun _ => R) none (rsB k s) (resA E tm s l)) r
theorem tmpsOf_eq (E : Env) (tm : Tm) (s : AS) : ∀ {l : List ResultVar} {ts : List Nat}, tmpsOf l = some ts → resA E tm s l = evs tm (ts.map Operand.tmp)
 | [], ts, h => by cases h; rfl
 | .cell a t :: l, ts, h => by cases h
 | .tmp t :: l, ts, h => by
  unfold tmpsOf at h
  cases hl : tmpsOf l with
  | none => rw [hl] at h; cases h
  | some us =>
   rw [hl] at h
   cases h
   have ih := tmpsOf_eq E tm s hl
   unfold resA
   simp only [List.map_cons, evs, ih]
   rfl
theorem resq_eq (E : Env) (l : List ResultVar) (tm : Tm) (s : AS) (k : K) : resq (mkRes l) E tm s k = match resA E tm s l with
  | none => none
  | some vs => k (packA vs) s := by
 unfold mkRes
 cases h : tmpsOf l with
 | none =>
  show @Option.rec _ (fun _ => R) none (rsB k s) (resA E tm s l) = _
  cases resA E tm s l <;> rfl
 | some ts =>
  rw [tmpsOf_eq E tm s h]
  have many : evsq (ts.map fun t => QO.t (path t)) tm (rsB k s) = match evs tm (ts.map Operand.tmp) with
    | none => none
    | some vs => k (packA vs) s := by
   have : (ts.map fun t => QO.t (path t)) = (ts.map Operand.tmp).map mkO := by rw [List.map_map]; rfl
   rw [this, evsq_eq]
   rfl
  cases ts with
  | nil => exact many
  | cons t ts =>
   cases ts with
   | cons u ts => exact many
   | nil =>
    show @Option.rec _ (fun _ => R) none (swp k s) (T.gp (pathN t t) tm) = _
    rw [T.gp_path t t tm (Nat.le_refl _)]
    show _ = match (match tm.get t with
     | none => none
     | some v => some [v]) with
     | none => none
     | some vs => k (packA vs) s
    cases tm.get t <;> rfl
inductive QF where
 | prim (p : List Value → AS → Option (Value × AS))
 | fn (c : QCode) (r : QRes)
 | no
def mkF (E : Env) (f : FuncId) : QF :=
 match E.prim.get f with
 | some p => .prim p
 | none => match E.fn.get f with
  | none => .no
  | some fn => match fn.body with
   | none => .no
   | some c => bif Nat.beq fn.ntmps 0 then .no else natK (Nat.pred fn.ntmps) fun N => .fn (mkC E N c) (mkRes fn.results.toList)
def rtK (r : QRes) (E : Env) (k : K) (x : X) : Tm → AS → R :=
 @X.rec (fun _ => QRes → Env → K → Tm → AS → R) (fun r E k tm s => resq r E tm s k) (fun _ _ _ _ _ _ => none) (fun r E k tm s => resq r E tm s k) x r E k
def clA (f : QF) : Env → CallK → Nat → List Value → AS → K → R :=
 @QF.rec (fun _ => Env → CallK → Nat → List Value → AS → K → R) (fun p _ _ _ args s k => toR (p args s) k)
  (fun c r E call F args s k => codeq E call F c (T.e.fill 0 args) s (rtK r E k)) (fun _ _ _ _ _ _ => none) f
def callq (E : Env) (F : Nat) (D : Nat) : CallK :=
 Nat.rec (motive := fun _ => CallK) (fun _ _ _ _ => none) (fun _ ih f args s k => clA (mkF E f) E ih F args s k) D
theorem callq_eq (E : Env) (F : Nat) : ∀ (D : Nat) (f : FuncId) (args : List Value) (s : AS) (k : K), callq E F D f args s k = toR (callA E F D f args s) k
 | 0, _, _, _, _ => rfl
 | D + 1, f, args, s, k => by
  have ih := callq_eq E F D
  show clA (mkF E f) E (callq E F D) F args s k = toR (match E.prim.get f with
   | some p => p args s
   | none => match E.fn.get f with
    | none => none
    | some fn => match fn.body with
     | none => none
     | some c => bif Nat.beq fn.ntmps 0 then none else natK (Nat.pred fn.ntmps) fun N => match codeA E (callA E F D) N F c (T.e.fill 0 args) s with
      | some (.exit _, _, _) => none
      | none => none
      | some (_, tm, s') => match resA E tm s' fn.results.toList with
       | none => none
       | some vs => some (packA vs, s')) k
  unfold mkF
  cases E.prim.get f with
  | some p => rfl
  | none =>
   simp only
   cases E.fn.get f with
   | none => rfl
   | some fn =>
    simp only
    cases fn.body with
    | none => rfl
    | some c =>
     simp only
     cases Nat.beq fn.ntmps 0 with
     | true => rfl
     | false =>
      simp only [cond_false, natK_eq]
      show codeq E (callq E F D) F (mkC E (Nat.pred fn.ntmps) c) (T.e.fill 0 args) s (rtK (mkRes fn.results.toList) E k) = _
      rw [codeq_eq ih]
      cases codeA E (callA E F D) (Nat.pred fn.ntmps) F c (T.e.fill 0 args) s with
      | none => rfl
      | some r =>
       obtain ⟨x, tm, s'⟩ := r
       cases x with
       | exit i => rfl
       | nor =>
        show resq (mkRes fn.results.toList) E tm s' k = _
        rw [resq_eq]
        simp only
        cases resA E tm s' fn.results.toList <;> rfl
       | ret =>
        show resq (mkRes fn.results.toList) E tm s' k = _
        rw [resq_eq]
        simp only
        cases resA E tm s' fn.results.toList <;> rfl
theorem callA_of_q {E : Env} {F D : Nat} {f : FuncId} {args : List Value} {s : AS} {r : R} (h : callq E F D f args s pairK = r) : callA E F D f args s = r := by
 rw [callq_eq, toR_pair] at h
 exact h
end
end Go.Ax
