/- The machine, quick in the kernel, part 2: values and operations by closed recursors; what follows is handed on. -/
import Derived.Test.YtmfdkldjinlmnaaGreatDoorAxQ
set_option linter.unusedVariables false
set_option linter.unusedSimpArgs false
namespace Go.Ax
open Go
noncomputable section
abbrev R := Option (Value × AS)
abbrev K := Value → AS → R
/-- What follows an answer. -/
def toR (r : R) (k : K) : R := @Option.rec _ (fun _ => R) none (fun p => k p.1 p.2) r
def toR1 (r : Option Value) (k : K) (s : AS) : R := @Option.rec _ (fun _ => R) none (fun v => k v s) r

/-! ### Which value is it? -/
def sInt (v : Value) : (IntKind → Int → R) → R → R :=
  @Value.rec (fun _ => (IntKind → Int → R) → R → R) (fun _ => Unit) (fun _ => Unit)
    (fun _ _ d => d)
    (fun k n f _ => f k n)
    (fun _ _ _ d => d)
    (fun _ _ _ _ d => d)
    (fun _ _ d => d)
    (fun _ _ d => d)
    (fun _ _ _ _ d => d)
    (fun _ _ d => d)
    (fun _ _ d => d)
    (fun _ _ _ _ _ _ d => d)
    (fun _ d => d)
    (fun _ _ _ _ d => d)
    (fun _ d => d)
    (fun _ _ _ d => d)
    (fun _ _ _ d => d)
    (fun _ _ => ()) () (fun _ _ _ _ => ()) v

def sPtr (v : Value) : (Nat → Nat → R) → R → R :=
  @Value.rec (fun _ => (Nat → Nat → R) → R → R) (fun _ => Unit) (fun _ => Unit)
    (fun _ _ d => d)
    (fun _ _ _ d => d)
    (fun _ _ _ d => d)
    (fun _ _ _ _ d => d)
    (fun _ _ d => d)
    (fun a f d => @Option.rec _ (fun _ => R) d (fun a => @Addr.rec (fun _ => R) (fun b o _ => f b o) a) a)
    (fun _ _ _ _ d => d)
    (fun _ _ d => d)
    (fun _ _ d => d)
    (fun _ _ _ _ _ _ d => d)
    (fun _ d => d)
    (fun _ _ _ _ d => d)
    (fun _ d => d)
    (fun _ _ _ d => d)
    (fun _ _ _ d => d)
    (fun _ _ => ()) () (fun _ _ _ _ => ()) v

def sSlc (v : Value) : (Nat → Nat → Nat → R) → R → R :=
  @Value.rec (fun _ => (Nat → Nat → Nat → R) → R → R) (fun _ => Unit) (fun _ => Unit)
    (fun _ _ d => d)
    (fun _ _ _ d => d)
    (fun _ _ _ d => d)
    (fun _ _ _ _ d => d)
    (fun _ _ d => d)
    (fun _ _ d => d)
    (fun a n _ f d => @Option.rec _ (fun _ => R) d (fun a => @Addr.rec (fun _ => R) (fun b o _ => f b o n) a) a)
    (fun _ _ d => d)
    (fun _ _ d => d)
    (fun _ _ _ _ _ _ d => d)
    (fun _ d => d)
    (fun _ _ _ _ d => d)
    (fun _ d => d)
    (fun _ _ _ d => d)
    (fun _ _ _ d => d)
    (fun _ _ => ()) () (fun _ _ _ _ => ()) v

def sLen (v : Value) : (Nat → R) → R → R :=
  @Value.rec (fun _ => (Nat → R) → R → R) (fun _ => Unit) (fun _ => Unit)
    (fun _ _ d => d)
    (fun _ _ _ d => d)
    (fun _ _ _ d => d)
    (fun _ _ _ _ d => d)
    (fun _ _ d => d)
    (fun _ _ d => d)
    (fun _ n _ f _ => f n)
    (fun _ _ d => d)
    (fun _ _ d => d)
    (fun _ _ _ _ _ _ d => d)
    (fun _ d => d)
    (fun _ _ _ _ d => d)
    (fun _ d => d)
    (fun _ _ _ d => d)
    (fun _ _ _ d => d)
    (fun _ _ => ()) () (fun _ _ _ _ => ()) v

def sAgg (v : Value) : (Array Value → R) → R → R :=
  @Value.rec (fun _ => (Array Value → R) → R → R) (fun _ => Unit) (fun _ => Unit)
    (fun _ _ d => d)
    (fun _ _ _ d => d)
    (fun _ _ _ d => d)
    (fun _ _ _ _ d => d)
    (fun _ _ d => d)
    (fun _ _ d => d)
    (fun _ _ _ _ d => d)
    (fun _ _ d => d)
    (fun _ _ d => d)
    (fun _ _ _ _ _ _ d => d)
    (fun _ d => d)
    (fun _ _ _ _ d => d)
    (fun _ d => d)
    (fun a _ f _ => f a)
    (fun _ _ _ d => d)
    (fun _ _ => ()) () (fun _ _ _ _ => ()) v

def sTup (v : Value) : (Array Value → R) → R → R :=
  @Value.rec (fun _ => (Array Value → R) → R → R) (fun _ => Unit) (fun _ => Unit)
    (fun _ _ d => d)
    (fun _ _ _ d => d)
    (fun _ _ _ d => d)
    (fun _ _ _ _ d => d)
    (fun _ _ d => d)
    (fun _ _ d => d)
    (fun _ _ _ _ d => d)
    (fun _ _ d => d)
    (fun _ _ d => d)
    (fun _ _ _ _ _ _ d => d)
    (fun _ d => d)
    (fun _ _ _ _ d => d)
    (fun _ d => d)
    (fun _ _ _ d => d)
    (fun a _ f _ => f a)
    (fun _ _ => ()) () (fun _ _ _ _ => ()) v

def sBool (v : Value) : (Bool → R) → R → R :=
  @Value.rec (fun _ => (Bool → R) → R → R) (fun _ => Unit) (fun _ => Unit)
    (fun b f _ => f b)
    (fun _ _ _ d => d)
    (fun _ _ _ d => d)
    (fun _ _ _ _ d => d)
    (fun _ _ d => d)
    (fun _ _ d => d)
    (fun _ _ _ _ d => d)
    (fun _ _ d => d)
    (fun _ _ d => d)
    (fun _ _ _ _ _ _ d => d)
    (fun _ d => d)
    (fun _ _ _ _ d => d)
    (fun _ d => d)
    (fun _ _ _ d => d)
    (fun _ _ _ d => d)
    (fun _ _ => ()) () (fun _ _ _ _ => ()) v

def sStr (v : Value) : (ByteArray → R) → R → R :=
  @Value.rec (fun _ => (ByteArray → R) → R → R) (fun _ => Unit) (fun _ => Unit)
    (fun _ _ d => d)
    (fun _ _ _ d => d)
    (fun _ _ _ d => d)
    (fun _ _ _ _ d => d)
    (fun x f _ => f x)
    (fun _ _ d => d)
    (fun _ _ _ _ d => d)
    (fun _ _ d => d)
    (fun _ _ d => d)
    (fun _ _ _ _ _ _ d => d)
    (fun _ d => d)
    (fun _ _ _ _ d => d)
    (fun _ d => d)
    (fun _ _ _ d => d)
    (fun _ _ _ d => d)
    (fun _ _ => ()) () (fun _ _ _ _ => ()) v

def sOne (v : Value) : R → R → R :=
  @Value.rec (fun _ => R → R → R) (fun _ => Unit) (fun _ => Unit)
    (fun _ f _ => f)
    (fun _ _ f _ => f)
    (fun _ _ f _ => f)
    (fun _ _ _ f _ => f)
    (fun _ f _ => f)
    (fun _ f _ => f)
    (fun _ _ _ f _ => f)
    (fun _ f _ => f)
    (fun _ f _ => f)
    (fun _ _ _ _ _ f _ => f)
    (fun f _ => f)
    (fun _ _ _ f _ => f)
    (fun f _ => f)
    (fun _ _ _ d => d)
    (fun _ _ _ d => d)
    (fun _ _ => ()) () (fun _ _ _ _ => ()) v

def kq (a : IntKind) : IntKind → R → R → R :=
  @IntKind.rec (fun _ => IntKind → R → R → R)
    (fun b y n => @IntKind.rec (fun _ => R) y n n n n n n n b)
    (fun b y n => @IntKind.rec (fun _ => R) n y n n n n n n b)
    (fun b y n => @IntKind.rec (fun _ => R) n n y n n n n n b)
    (fun b y n => @IntKind.rec (fun _ => R) n n n y n n n n b)
    (fun b y n => @IntKind.rec (fun _ => R) n n n n y n n n b)
    (fun b y n => @IntKind.rec (fun _ => R) n n n n n y n n b)
    (fun b y n => @IntKind.rec (fun _ => R) n n n n n n y n b)
    (fun b y n => @IntKind.rec (fun _ => R) n n n n n n n y b) a
def mxq (a : IntKind) : Nat := @IntKind.rec (fun _ => Nat) 127 32767 2147483647 9223372036854775807 255 65535 4294967295 18446744073709551615 a
def btq (a : IntKind) : Nat := @IntKind.rec (fun _ => Nat) 8 16 32 64 8 16 32 64 a

theorem kq_eq (a b : IntKind) (y n : R) : kq a b y n = bif kindEq a b then y else n := by cases a <;> cases b <;> rfl
theorem sInt_eq (v : Value) (f : IntKind → Int → R) (d : R) : sInt v f d = match v with
    | .int k n => f k n
    | _ => d := by cases v <;> rfl
theorem sPtr_eq (v : Value) (f : Nat → Nat → R) (d : R) : sPtr v f d = match v with
    | .pointer (some a) => f a.block a.off
    | _ => d := by
  cases v <;> try rfl
  rename_i a
  cases a <;> rfl
theorem sSlc_eq (v : Value) (f : Nat → Nat → Nat → R) (d : R) : sSlc v f d = match v with
    | .slice (some a) n _ => f a.block a.off n
    | _ => d := by
  cases v <;> try rfl
  rename_i a n c
  cases a <;> rfl
theorem sLen_eq (v : Value) (f : Nat → R) (d : R) : sLen v f d = match v with
    | .slice _ n _ => f n
    | _ => d := by cases v <;> rfl
theorem sAgg_eq (v : Value) (f : Array Value → R) (d : R) : sAgg v f d = match v with
    | .agg a => f a
    | _ => d := by cases v <;> rfl
theorem sTup_eq (v : Value) (f : Array Value → R) (d : R) : sTup v f d = match v with
    | .tuple a => f a
    | _ => d := by cases v <;> rfl
theorem sBool_eq (v : Value) (f : Bool → R) (d : R) : sBool v f d = match v with
    | .bool a => f a
    | _ => d := by cases v <;> rfl
theorem sStr_eq (v : Value) (f : ByteArray → R) (d : R) : sStr v f d = match v with
    | .string a => f a
    | _ => d := by cases v <;> rfl
theorem sOne_eq (v : Value) (f d : R) : sOne v f d = bif oneC v then f else d := by cases v <;> rfl
theorem toR_eq (r : R) (k : K) : toR r k = match r with
    | none => none
    | some (v, s) => k v s := by cases r <;> rfl
theorem toR1_eq (r : Option Value) (k : K) (s : AS) : toR1 r k s = match r with
    | none => none
    | some v => k v s := by cases r <;> rfl

/-! ### Operands -/
inductive QO where
  | t (p : Pth)
  | c (v : Value)
  | no
def evq (x : QO) : Tm → (Value → R) → R :=
  @QO.rec (fun _ => Tm → (Value → R) → R) (fun p tm k => @Option.rec _ (fun _ => R) none k (T.gp p tm)) (fun v _ k => k v) (fun _ _ => none) x
def mkO (x : Operand) : QO :=
  match x with
  | .tmp i => .t (path i)
  | x => match ev .e x with
    | some v => .c v
    | none => .no
theorem evq_eq (x : Operand) (tm : Tm) (k : Value → R) : evq (mkO x) tm k = match ev tm x with
    | none => none
    | some v => k v := by
  cases x with
  | tmp i =>
    show @Option.rec _ (fun _ => R) none k (T.gp (pathN i i) tm) = _
    rw [T.gp_path i i tm (Nat.le_refl _)]
    show _ = match tm.get i with
      | none => none
      | some v => k v
    cases tm.get i <;> rfl
  | const v =>
    unfold mkO ev
    simp only
    cases cst v <;> rfl
  | global g =>
    unfold mkO ev
    simp only
    cases Nat.blt g 1000 <;> rfl
  | func f => rfl

def consK (k : List Value → R) (v : Value) (l : List Value) : R := k (v :: l)
def evsqA (ih : Tm → (List Value → R) → R) (tm : Tm) (k : List Value → R) (v : Value) : R := ih tm (consK k v)
def evsq (l : List QO) : Tm → (List Value → R) → R :=
  @List.rec _ (fun _ => Tm → (List Value → R) → R) (fun _ k => k []) (fun x _ ih tm k => evq x tm (evsqA ih tm k)) l
theorem evsq_eq : ∀ (l : List Operand) (tm : Tm) (k : List Value → R), evsq (l.map mkO) tm k = match evs tm l with
    | none => none
    | some vs => k vs
  | [], _, _ => rfl
  | x :: l, tm, k => by
    show evq (mkO x) tm (evsqA (evsq (l.map mkO)) tm k) = _
    rw [evq_eq]
    unfold evs
    cases hx : ev tm x with
    | none => rfl
    | some v =>
      show evsq (l.map mkO) tm (consK k v) = _
      rw [evsq_eq l tm]
      cases hl : evs tm l <;> rfl

/-! ### Memory -/
def sCells (o : AObj) : (T Value → Nat → R) → R → R :=
  @AObj.rec (fun _ => (T Value → Nat → R) → R → R) (fun c n _ f _ => f c n) (fun c n f _ => f c n) (fun _ _ d => d) (fun _ _ _ d => d) (fun _ d => d) (fun _ d => d) o
def sCellsW (o : AObj) : (T Value → Nat → Nat → R) → R → R :=
  @AObj.rec (fun _ => (T Value → Nat → Nat → R) → R → R) (fun c n z f _ => f c n z) (fun _ _ _ d => d) (fun _ _ d => d) (fun _ _ _ d => d) (fun _ d => d) (fun _ d => d) o
def rd1K (o : Nat) (k : Value → R) (c : T Value) (m : Nat) : R :=
  @Bool.rec (fun _ => R) none (@Option.rec _ (fun _ => R) none k (c.gk o)) (Nat.ble (Nat.succ o) m)
def rd1B (o : Nat) (k : Value → R) (ob : AObj) : R := sCells ob (rd1K o k) none
def rd1 (s : AS) (b o : Nat) (k : Value → R) : R := @Option.rec _ (fun _ => R) none (rd1B o k) (s.h.gk b)
theorem rd1_eq (s : AS) (b o : Nat) (k : Value → R) : rd1 s b o k = match rd s b o with
    | none => none
    | some v => k v := by
  unfold rd1 rd
  rw [T.gk_eq]
  cases s.h.get b with
  | none => rfl
  | some ob =>
    have key : ∀ (c : T Value) (m : Nat), rd1K o k c m = match (bif Nat.blt o m then c.get o else none) with
        | none => none
        | some v => k v := by
      intro c m
      unfold rd1K
      rw [T.gk_eq]
      show @Bool.rec (fun _ => R) none _ (Nat.blt o m) = _
      cases Nat.blt o m with
      | false => rfl
      | true =>
        show @Option.rec _ (fun _ => R) none k (c.get o) = match c.get o with
          | none => none
          | some v => k v
        cases c.get o <;> rfl
    cases ob with
    | cells c m z => exact key c m
    | ro c m => exact key c m
    | _ => rfl

def wr1K (h : T AObj) (nx b o : Nat) (v : Value) (k : AS → R) (c : T Value) (m z : Nat) : R :=
  @Bool.rec (fun _ => R) none (k ⟨h.pk b (some (.cells (c.pk o (some v)) m z)), nx⟩) (Nat.ble (Nat.succ o) m)
def wr1B (h : T AObj) (nx b o : Nat) (v : Value) (k : AS → R) (ob : AObj) : R := sCellsW ob (wr1K h nx b o v k) none
def wr1 (s : AS) (b o : Nat) (v : Value) (k : AS → R) : R := @Option.rec _ (fun _ => R) none (wr1B s.h s.nx b o v k) (s.h.gk b)
theorem wr1_eq (s : AS) (b o : Nat) (v : Value) (hv : oneC v = true) (k : AS → R) : wr1 s b o v k = match wrN s b o [v] with
    | none => none
    | some s' => k s' := by
  unfold wr1 wrN
  rw [T.gk_eq]
  cases s.h.get b with
  | none => rfl
  | some ob =>
    cases ob with
    | cells c m z =>
      show wr1K s.h s.nx b o v k c m z = _
      unfold wr1K
      simp only [ones, hv, Bool.and_true, List.length_cons, List.length_nil, Nat.zero_add]
      show @Bool.rec (fun _ => R) none _ (Nat.ble (o + 1) m) = _
      cases Nat.ble (o + 1) m with
      | false => rfl
      | true =>
        simp only [cond_true, AS.upd, T.set, T.fill_cons, T.fill_nil, T.pk_eq]
    | _ => rfl

/-! ### Whole numbers -/
def okI (kd : IntKind) (s : AS) (k : K) (n : Nat) : R := k (.int kd (.ofNat n)) s
def fin (kd : IntKind) (sl : R) (s : AS) (k : K) (n : Nat) : R := @Bool.rec (fun _ => R) sl (natK n (okI kd s k)) (Nat.ble n (mxq kd))
def ii (f : Nat → Nat → R) (sl : R) (a : Int) : Int → R :=
  @Int.rec (fun _ => (Nat → Nat → R) → R → Int → R) (fun x f sl b => @Int.rec (fun _ => R) (f x) (fun _ => sl) b) (fun _ _ sl _ => sl) a f sl
def two (kd : IntKind) (sl : R) (x y : Nat) (r : R) : R := @Bool.rec (fun _ => R) sl (@Bool.rec (fun _ => R) sl r (Nat.ble y (mxq kd))) (Nat.ble x (mxq kd))
def qAdd (kd : IntKind) (sl : R) (s : AS) (k : K) (x y : Nat) : R := fin kd sl s k (Nat.add x y)
def qSub (kd : IntKind) (sl : R) (s : AS) (k : K) (x y : Nat) : R := @Bool.rec (fun _ => R) sl (fin kd sl s k (Nat.sub x y)) (Nat.ble y x)
def qMul (kd : IntKind) (sl : R) (s : AS) (k : K) (x y : Nat) : R := fin kd sl s k (Nat.mul x y)
def qQuo (kd : IntKind) (sl : R) (s : AS) (k : K) (x y : Nat) : R := @Bool.rec (fun _ => R) sl (fin kd sl s k (Nat.div x y)) (Nat.ble 1 y)
def qRem (kd : IntKind) (sl : R) (s : AS) (k : K) (x y : Nat) : R := @Bool.rec (fun _ => R) sl (natK (Nat.mod x y) (okI kd s k)) (Nat.ble 1 y)
def qAnd (kd : IntKind) (sl : R) (s : AS) (k : K) (x y : Nat) : R := two kd sl x y (fin kd sl s k (Nat.land x y))
def qOr (kd : IntKind) (sl : R) (s : AS) (k : K) (x y : Nat) : R := two kd sl x y (fin kd sl s k (Nat.lor x y))
def qXor (kd : IntKind) (sl : R) (s : AS) (k : K) (x y : Nat) : R := two kd sl x y (fin kd sl s k (Nat.xor x y))
def okB (s : AS) (k : K) (b : Bool) : R := k (.bool b) s
def qEql (kd : IntKind) (sl : R) (s : AS) (k : K) (x y : Nat) : R := okB s k (Nat.beq x y)
def qNeq (kd : IntKind) (sl : R) (s : AS) (k : K) (x y : Nat) : R := okB s k (@Bool.rec (fun _ => Bool) true false (Nat.beq x y))
def qLss (kd : IntKind) (sl : R) (s : AS) (k : K) (x y : Nat) : R := okB s k (Nat.ble (Nat.succ x) y)
def qLeq (kd : IntKind) (sl : R) (s : AS) (k : K) (x y : Nat) : R := okB s k (Nat.ble x y)
def qGtr (kd : IntKind) (sl : R) (s : AS) (k : K) (x y : Nat) : R := okB s k (Nat.ble (Nat.succ y) x)
def qGeq (kd : IntKind) (sl : R) (s : AS) (k : K) (x y : Nat) : R := okB s k (Nat.ble y x)
def qNo (kd : IntKind) (sl : R) (s : AS) (k : K) (x y : Nat) : R := sl


/-! ### Texts -/
/-- 0: less, 1: equal, 2: greater. -/
def cmpL (a : List UInt8) : List UInt8 → Nat :=
  @List.rec UInt8 (fun _ => List UInt8 → Nat) (fun b => @List.rec UInt8 (fun _ => Nat) 1 (fun _ _ _ => 0) b)
    (fun x _ ih b => @List.rec UInt8 (fun _ => Nat) 2 (fun y t _ => @Bool.rec (fun _ => Nat) (@Bool.rec (fun _ => Nat) 2 0 (Nat.ble (Nat.succ x.toNat) y.toNat)) (ih t) (Nat.beq x.toNat y.toNat)) b) a
theorem cmpL_cons (x y : UInt8) (a b : List UInt8) : cmpL (x :: a) (y :: b) = if x = y then cmpL a b else if x < y then 0 else 2 := by
  show @Bool.rec (fun _ => Nat) (@Bool.rec (fun _ => Nat) 2 0 (Nat.ble (Nat.succ x.toNat) y.toNat)) (cmpL a b) (Nat.beq x.toNat y.toNat) = _
  by_cases h : x = y
  · subst h
    rw [if_pos rfl, Nat.beq_refl]
  · rw [if_neg h]
    have h1 : Nat.beq x.toNat y.toNat = false := by
      cases hb : Nat.beq x.toNat y.toNat with
      | false => rfl
      | true => exact absurd (UInt8.toNat_inj.1 (Nat.eq_of_beq_eq_true hb)) h
    rw [h1]
    by_cases h2 : x < y
    · rw [if_pos h2]
      have : Nat.ble (Nat.succ x.toNat) y.toNat = true := by
        rw [Nat.ble_eq]
        exact UInt8.lt_iff_toNat_lt.1 h2
      rw [this]
    · rw [if_neg h2]
      have : Nat.ble (Nat.succ x.toNat) y.toNat = false := by
        cases hb : Nat.ble (Nat.succ x.toNat) y.toNat with
        | false => rfl
        | true =>
          rw [Nat.ble_eq] at hb
          exact absurd (UInt8.lt_iff_toNat_lt.2 hb) h2
      rw [this]
theorem cmpL_spec : ∀ (a b : List UInt8), cmpL a b ≤ 2 ∧ (cmpL a b = 1 ↔ a = b) ∧ (cmpL a b = 0 ↔ Op.bytesLess a b = true)
  | [], [] => ⟨by decide, by decide, by decide⟩
  | [], y :: b => ⟨Nat.zero_le _, by simp [cmpL], by simp [cmpL, Op.bytesLess]⟩
  | x :: a, [] => ⟨Nat.le_refl 2, by simp [cmpL], by simp [cmpL, Op.bytesLess]⟩
  | x :: a, y :: b => by
    rw [cmpL_cons]
    obtain ⟨h1, h2, h3⟩ := cmpL_spec a b
    by_cases h : x = y
    · subst h
      rw [if_pos rfl]
      refine ⟨h1, by rw [h2]; simp, ?_⟩
      rw [h3]
      simp [Op.bytesLess]
    · rw [if_neg h]
      by_cases h4 : x < y
      · rw [if_pos h4]
        exact ⟨Nat.zero_le _, by simp [h], by simp [Op.bytesLess, h4]⟩
      · rw [if_neg h4]
        exact ⟨Nat.le_refl _, by simp [h], by simp [Op.bytesLess, h, h4]⟩
def cmpq (a b : ByteArray) : Nat := cmpL a.data.toList b.data.toList
def appq (a b : List UInt8) : List UInt8 := @List.rec UInt8 (fun _ => List UInt8) b (fun x _ ih => x :: ih) a
def lenq {α : Type} (a : List α) : Nat := @List.rec α (fun _ => Nat) 0 (fun _ _ ih => Nat.succ ih) a
theorem appq_eq : ∀ a b : List UInt8, appq a b = a ++ b
  | [], _ => rfl
  | x :: a, b => by
    show x :: appq a b = x :: (a ++ b)
    rw [appq_eq a b]
theorem lenq_eq {α : Type} : ∀ a : List α, lenq a = a.length
  | [] => rfl
  | x :: a => by
    show Nat.succ (lenq a) = _
    rw [lenq_eq a]
    rfl
def tEql (sl : R) (s : AS) (k : K) (a b : ByteArray) : R := okB s k (Nat.beq (cmpq a b) 1)
def tNeq (sl : R) (s : AS) (k : K) (a b : ByteArray) : R := okB s k (@Bool.rec (fun _ => Bool) true false (Nat.beq (cmpq a b) 1))
def tLss (sl : R) (s : AS) (k : K) (a b : ByteArray) : R := okB s k (Nat.beq (cmpq a b) 0)
def tLeq (sl : R) (s : AS) (k : K) (a b : ByteArray) : R := okB s k (Nat.ble (cmpq a b) 1)
def tGtr (sl : R) (s : AS) (k : K) (a b : ByteArray) : R := okB s k (Nat.beq (cmpq a b) 2)
def tGeq (sl : R) (s : AS) (k : K) (a b : ByteArray) : R := okB s k (Nat.ble 1 (cmpq a b))
def tAdd (sl : R) (s : AS) (k : K) (a b : ByteArray) : R := @Bool.rec (fun _ => R) sl (k (.string ⟨⟨appq a.data.toList b.data.toList⟩⟩) s) (Nat.ble (Nat.add (lenq a.data.toList) (lenq b.data.toList)) 1000000)
def tNo (sl : R) (s : AS) (k : K) (a b : ByteArray) : R := sl
def tOf (op : BinOp) : R → AS → K → ByteArray → ByteArray → R :=
  @BinOp.rec (fun _ => R → AS → K → ByteArray → ByteArray → R) tAdd tNo tNo tNo tNo tNo tNo tNo tNo tNo tNo tEql tNeq tLss tLeq tGtr tGeq op

theorem cmpq_spec (a b : ByteArray) : cmpq a b ≤ 2 ∧ (cmpq a b = 1 ↔ a.toList = b.toList) ∧ (cmpq a b = 0 ↔ Op.bytesLess a.toList b.toList = true) := by
  rw [ByteArray.toList_eq, ByteArray.toList_eq]
  exact cmpL_spec _ _
theorem beq_of {n m : Nat} {b : Bool} (h : n = m ↔ b = true) : Nat.beq n m = b := by
  cases b with
  | true => rw [h.2 rfl]; exact Nat.beq_refl m
  | false =>
    cases hb : Nat.beq n m with
    | false => rfl
    | true => exact absurd (h.1 (Nat.eq_of_beq_eq_true hb)) (by simp)
theorem ble_of {n m : Nat} {b : Bool} (h : n ≤ m ↔ b = true) : Nat.ble n m = b := by
  cases b with
  | true => rw [Nat.ble_eq]; exact h.2 rfl
  | false =>
    cases hb : Nat.ble n m with
    | false => rfl
    | true => exact absurd (h.1 (Nat.le_of_ble_eq_true hb)) (by simp)

theorem tOf_eq (op : BinOp) {sl : R} {s : AS} {k : K} {a b : ByteArray} (h : sl = toR1 (strBin op a b) k s) : tOf op sl s k a b = sl := by
  obtain ⟨h1, h2, h3⟩ := cmpq_spec a b
  have he : (a.toList == b.toList) = Nat.beq (cmpq a b) 1 := (beq_of (by rw [h2]; simp)).symm
  have hl : Op.bytesLess a.toList b.toList = Nat.beq (cmpq a b) 0 := (beq_of h3).symm
  cases op <;> first
    | (show tNo sl s k a b = sl; rfl)
    | skip
  case add =>
    show @Bool.rec (fun _ => R) sl _ (Nat.ble (Nat.add (lenq a.data.toList) (lenq b.data.toList)) 1000000) = sl
    cases hb : Nat.ble (Nat.add (lenq a.data.toList) (lenq b.data.toList)) 1000000 with
    | false => rfl
    | true =>
      have hle := Nat.le_of_ble_eq_true hb
      rw [lenq_eq, lenq_eq] at hle
      rw [h]
      show _ = toR1 (sAdd a b) k s
      have hsz : ¬ ((a.size + b.size : Nat) : Int) > IntKind.i64.max := by
        have e1 : a.size = a.data.toList.length := rfl
        have e2 : b.size = b.data.toList.length := rfl
        have e3 : IntKind.i64.max = 9223372036854775807 := rfl
        have : a.data.toList.length + b.data.toList.length ≤ 1000000 := hle
        omega
      unfold sAdd
      rw [if_neg hsz]
      show k _ s = k _ s
      congr 2
      rw [appq_eq]
      apply ByteArray.ext
      apply Array.ext'
      simp
  case eql =>
    rw [h]
    show okB s k _ = okB s k (a.toList == b.toList)
    rw [he]
  case neq =>
    rw [h]
    show okB s k _ = okB s k (!(a.toList == b.toList))
    rw [he]
    cases Nat.beq (cmpq a b) 1 <;> rfl
  case lss =>
    rw [h]
    show okB s k _ = okB s k (Op.bytesLess a.toList b.toList)
    rw [hl]
  case leq =>
    rw [h]
    show okB s k (Nat.ble (cmpq a b) 1) = okB s k (Op.bytesLess a.toList b.toList || a.toList == b.toList)
    rw [hl, he]
    congr 1
    refine ble_of ?_
    generalize cmpq a b = n at h1
    match n, h1 with
    | 0, _ => decide
    | 1, _ => decide
    | 2, _ => decide
  case gtr =>
    rw [h]
    show okB s k (Nat.beq (cmpq a b) 2) = okB s k (!(Op.bytesLess a.toList b.toList || a.toList == b.toList))
    rw [hl, he]
    congr 1
    generalize cmpq a b = n at h1
    match n, h1 with
    | 0, _ => rfl
    | 1, _ => rfl
    | 2, _ => rfl
  case geq =>
    rw [h]
    show okB s k (Nat.ble 1 (cmpq a b)) = okB s k (!Op.bytesLess a.toList b.toList)
    rw [hl]
    congr 1
    generalize cmpq a b = n at h1
    match n, h1 with
    | 0, _ => rfl
    | 1, _ => rfl
    | 2, _ => rfl
end
end Go.Ax
