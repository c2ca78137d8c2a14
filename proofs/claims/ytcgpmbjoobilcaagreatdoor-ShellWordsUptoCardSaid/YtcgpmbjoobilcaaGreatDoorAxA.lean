/- An abstract machine for the operations of a Go program: memory by blocks, no capacities, no draws. Its trie, its state, its operations. -/
import Derived.WalkKit
set_option linter.unusedSimpArgs false
set_option linter.unusedVariables false
namespace Go.Ax
open Go
noncomputable section
inductive T (α : Type) where
 | e : T α
 | n (l : T α) (v : Option α) (r : T α) : T α
def T.get {α : Type} (t : T α) : Nat → Option α :=
 T.rec (motive := fun _ => Nat → Option α) (fun _ => none)
  (fun _ v _ gl gr i => Nat.rec (motive := fun _ => Option α) v (fun p _ => Bool.rec (motive := fun _ => Option α) (gr (Nat.div p 2)) (gl (Nat.div p 2)) (Nat.beq (Nat.mod p 2) 0)) i) t
def T.one {α : Type} (d : Nat) : Nat → Option α → T α :=
 Nat.rec (motive := fun _ => Nat → Option α → T α) (fun _ x => .n .e x .e)
  (fun _ ih i x => Nat.rec (motive := fun _ => T α) (.n .e x .e) (fun p _ => Bool.rec (motive := fun _ => T α) (.n .e none (ih (Nat.div p 2) x)) (.n (ih (Nat.div p 2) x) none .e) (Nat.beq (Nat.mod p 2) 0)) i) d
def T.put {α : Type} (t : T α) : Nat → Option α → T α :=
 T.rec (motive := fun _ => Nat → Option α → T α) (fun i x => T.one i i x)
  (fun l v r sl sr i x => Nat.rec (motive := fun _ => T α) (.n l x r) (fun p _ => Bool.rec (motive := fun _ => T α) (.n l v (sr (Nat.div p 2) x)) (.n (sl (Nat.div p 2) x) v r) (Nat.beq (Nat.mod p 2) 0)) i) t
def T.set {α : Type} (t : T α) (i : Nat) (x : α) : T α := t.put i (some x)
theorem T.get_e {α : Type} (i : Nat) : (T.e : T α).get i = none := rfl
theorem T.get_zero {α : Type} (l r : T α) (v : Option α) : (T.n l v r).get 0 = v := rfl
theorem T.get_succ {α : Type} (l r : T α) (v : Option α) (p : Nat) : (T.n l v r).get (p + 1) = bif Nat.beq (p % 2) 0 then l.get (p / 2) else r.get (p / 2) := by
 show Bool.rec (motive := fun _ => Option α) (r.get (p / 2)) (l.get (p / 2)) (Nat.beq (p % 2) 0) = _
 cases Nat.beq (p % 2) 0 <;> rfl
theorem T.one_zero {α : Type} (d : Nat) (x : Option α) : T.one d 0 x = .n .e x .e := by cases d <;> rfl
theorem T.one_succ {α : Type} (d p : Nat) (x : Option α) : T.one (d + 1) (p + 1) x = bif Nat.beq (p % 2) 0 then .n (T.one d (p / 2) x) none .e else .n .e none (T.one d (p / 2) x) := by
 show Bool.rec (motive := fun _ => T α) (.n .e none (T.one d (p / 2) x)) (.n (T.one d (p / 2) x) none .e) (Nat.beq (p % 2) 0) = _
 cases Nat.beq (p % 2) 0 <;> rfl
theorem T.put_e {α : Type} (i : Nat) (x : Option α) : (T.e : T α).put i x = T.one i i x := rfl
theorem T.put_zero {α : Type} (l r : T α) (v x : Option α) : (T.n l v r).put 0 x = .n l x r := rfl
theorem T.put_succ {α : Type} (l r : T α) (v x : Option α) (p : Nat) : (T.n l v r).put (p + 1) x = bif Nat.beq (p % 2) 0 then .n (l.put (p / 2) x) v r else .n l v (r.put (p / 2) x) := by
 show Bool.rec (motive := fun _ => T α) (.n l v (r.put (p / 2) x)) (.n (l.put (p / 2) x) v r) (Nat.beq (p % 2) 0) = _
 cases Nat.beq (p % 2) 0 <;> rfl
theorem beq_cases (p : Nat) : (Nat.beq (p % 2) 0 = true ∧ p % 2 = 0) ∨ (Nat.beq (p % 2) 0 = false ∧ p % 2 = 1) := by
 rcases Nat.mod_two_eq_zero_or_one p with h | h
 ·exact .inl ⟨by rw [h]; rfl, h⟩
 ·exact .inr ⟨by rw [h]; rfl, h⟩
theorem T.get_one {α : Type} (x : Option α) : ∀ (d i j : Nat), i ≤ d → (T.one d i x).get j = if j = i then x else none := by
 intro d
 induction d with
 | zero =>
  intro i j h
  obtain rfl : i = 0 := by omega
  rw [T.one_zero]
  cases j with
  | zero => rfl
  | succ q => rw [T.get_succ]; rcases beq_cases q with ⟨e, _⟩ | ⟨e, _⟩ <;> simp [e, T.get_e]
 | succ d ih =>
  intro i j h
  cases i with
  | zero =>
   rw [T.one_zero]
   cases j with
   | zero => rfl
   | succ q => rw [T.get_succ]; rcases beq_cases q with ⟨e, _⟩ | ⟨e, _⟩ <;> simp [e, T.get_e]
  | succ p =>
   rw [T.one_succ]
   cases j with
   | zero => rcases beq_cases p with ⟨e, _⟩ | ⟨e, _⟩ <;> simp [e, T.get_zero]
   | succ q =>
    rcases beq_cases p with ⟨e, hp⟩ | ⟨e, hp⟩ <;> rcases beq_cases q with ⟨f, hq⟩ | ⟨f, hq⟩ <;> simp only [e, f, cond_true, cond_false, T.get_succ, T.get_e]
    ·rw [ih _ _ (by omega)]; by_cases hh : q = p
     ·subst hh; simp
     ·rw [if_neg (by omega), if_neg (by omega)]
    ·rw [if_neg (by omega)]
    ·rw [if_neg (by omega)]
    ·rw [ih _ _ (by omega)]; by_cases hh : q = p
     ·subst hh; simp
     ·rw [if_neg (by omega), if_neg (by omega)]
theorem T.get_put {α : Type} (t : T α) : ∀ (i j : Nat) (x : Option α), (t.put i x).get j = if j = i then x else t.get j := by
 induction t with
 | e => intro i j x; rw [T.put_e, T.get_one _ _ _ _ (Nat.le_refl _), T.get_e]
 | n l v r ihl ihr =>
  intro i j x
  cases i with
  | zero =>
   rw [T.put_zero]
   cases j with
   | zero => rfl
   | succ q => rw [T.get_succ, T.get_succ, if_neg (by omega)]
  | succ p =>
   rw [T.put_succ]
   cases j with
   | zero => rw [if_neg (by omega)]; rcases beq_cases p with ⟨e, _⟩ | ⟨e, _⟩ <;> simp [e, T.get_zero]
   | succ q =>
    rcases beq_cases p with ⟨e, hp⟩ | ⟨e, hp⟩ <;> rcases beq_cases q with ⟨f, hq⟩ | ⟨f, hq⟩ <;> simp only [e, f, cond_true, cond_false, T.get_succ]
    ·rw [ihl]; by_cases hh : q = p
     ·subst hh; simp
     ·rw [if_neg (by omega), if_neg (by omega)]
    ·rw [if_neg (by omega)]
    ·rw [if_neg (by omega)]
    ·rw [ihr]; by_cases hh : q = p
     ·subst hh; simp
     ·rw [if_neg (by omega), if_neg (by omega)]
theorem T.get_set {α : Type} (t : T α) (i j : Nat) (x : α) : (t.set i x).get j = if j = i then some x else t.get j := T.get_put t i j _
theorem T.get_set_same {α : Type} (t : T α) (i : Nat) (x : α) : (t.set i x).get i = some x := by rw [T.get_set, if_pos rfl]
theorem T.get_set_ne {α : Type} (t : T α) {i j : Nat} (x : α) (h : j ≠ i) : (t.set i x).get j = t.get j := by rw [T.get_set, if_neg h]
def T.fill {α : Type} (t : T α) (i : Nat) (l : List α) : T α :=
 List.rec (motive := fun _ => Nat → T α → T α) (fun _ t => t) (fun x _ ih i t => ih (Nat.succ i) (t.put i (some x))) l i t
theorem T.fill_nil {α : Type} (t : T α) (i : Nat) : t.fill i [] = t := rfl
theorem T.fill_cons {α : Type} (t : T α) (i : Nat) (x : α) (l : List α) : t.fill i (x :: l) = (t.set i x).fill (i + 1) l := rfl
theorem T.get_fill {α : Type} (l : List α) : ∀ (t : T α) (i j : Nat), (t.fill i l).get j = if i ≤ j ∧ j < i + l.length then l[j - i]? else t.get j := by
 induction l with
 | nil => intro t i j; rw [T.fill_nil]; simp; omega
 | cons x l ih =>
  intro t i j
  rw [T.fill_cons, ih, T.get_set]
  simp only [List.length_cons]
  by_cases h1 : j = i
  ·subst h1; rw [if_neg (by omega), if_pos rfl, if_pos (by omega)]; simp
  ·by_cases h2 : i + 1 ≤ j ∧ j < i + 1 + l.length
   ·rw [if_pos h2, if_pos (by omega), List.getElem?_cons, if_neg (by omega)]
    congr 1
   ·rw [if_neg h2, if_neg h1, if_neg (by omega)]
def T.list {α : Type} (t : T α) (n : Nat) : Nat → Option (List α) :=
 Nat.rec (motive := fun _ => Nat → Option (List α)) (fun _ => some [])
  (fun _ ih i => Option.rec (motive := fun _ => Option (List α)) none (fun x => Option.rec (motive := fun _ => Option (List α)) none (fun l => some (x :: l)) (ih (Nat.succ i))) (t.get i)) n
theorem T.list_zero {α : Type} (t : T α) (i : Nat) : t.list 0 i = some [] := rfl
theorem T.list_succ {α : Type} (t : T α) (n i : Nat) : t.list (n + 1) i = match t.get i with
   | none => none
   | some x => match t.list n (i + 1) with
    | none => none
    | some l => some (x :: l) := by
 show Option.rec (motive := fun _ => Option (List α)) none (fun x => Option.rec (motive := fun _ => Option (List α)) none (fun l => some (x :: l)) (t.list n (i + 1))) (t.get i) = _
 cases t.get i with
 | none => rfl
 | some x => cases t.list n (i + 1) <;> rfl
theorem T.list_some {α : Type} (t : T α) : ∀ (n i : Nat) (l : List α), t.list n i = some l → l.length = n ∧ ∀ k, k < n → t.get (i + k) = l[k]? := by
 intro n
 induction n with
 | zero => intro i l h; rw [T.list_zero] at h; cases h; exact ⟨rfl, fun k hk => by omega⟩
 | succ n ih =>
  intro i l h
  rw [T.list_succ] at h
  cases hg : t.get i with
  | none => rw [hg] at h; simp at h
  | some x =>
   rw [hg] at h
   cases hl : t.list n (i + 1) with
   | none => rw [hl] at h; simp at h
   | some m =>
    rw [hl] at h
    simp only [Option.some.injEq] at h
    subst h
    obtain ⟨h1, h2⟩ := ih _ _ hl
    refine ⟨by simp [h1], fun k hk => ?_⟩
    cases k with
    | zero => simpa using hg
    | succ k => rw [show i + (k + 1) = i + 1 + k by omega, h2 k (by omega)]; simp
inductive AObj where
 | cells (c : T Value) (n : Nat) (z : Nat)
 | ro (c : T Value) (n : Nat)
 | map (es : List (Value × Value))
 | iter (s : ByteArray) (p : Nat)
 | dead
 | far
def zs (z : Nat) : Nat := z % 1048576 / 2
def ze (z : Nat) : Nat := z / 1048576
def tz (size e : Nat) : Nat := 2 * size + 1048576 * (e + 1)
def zg (size z e : Nat) : Nat := (bif Nat.beq (ze z) (e + 1) then tz size e else 2 * size) + z % 2
theorem tz_zs {size e : Nat} (h : size < 524288) : zs (tz size e) = size := by unfold zs tz; omega
theorem tz_ze {size e : Nat} (h : size < 524288) : ze (tz size e) = e + 1 := by unfold ze tz; omega
theorem zg_or (size z e : Nat) : (Nat.beq (ze z) (e + 1) = true ∧ zg size z e = tz size e + z % 2) ∨ (Nat.beq (ze z) (e + 1) = false ∧ zg size z e = 2 * size + z % 2) := by
 unfold zg
 cases h : Nat.beq (ze z) (e + 1) with
 | true => exact .inl ⟨rfl, by rw [cond_true]⟩
 | false => exact .inr ⟨rfl, by rw [cond_false]⟩
theorem zg_zs {size z e : Nat} (h : size < 524288) : zs (zg size z e) = size := by
 rcases zg_or size z e with ⟨_, h1⟩ | ⟨_, h1⟩
 ·rw [h1]; unfold zs tz; omega
 ·rw [h1]; unfold zs; omega
theorem zg_odd (size z e : Nat) : zg size z e % 2 = z % 2 := by
 rcases zg_or size z e with ⟨_, h1⟩ | ⟨_, h1⟩
 ·rw [h1]; unfold tz; omega
 ·rw [h1]; omega
theorem zg_ze {size z e : Nat} (h : size < 524288) (hne : ze (zg size z e) ≠ 0) : ze z = e + 1 ∧ ze (zg size z e) = e + 1 := by
 rcases zg_or size z e with ⟨hb, h1⟩ | ⟨hb, h1⟩
 ·exact ⟨Nat.eq_of_beq_eq_true hb, by rw [h1]; unfold ze tz; omega⟩
 ·exact absurd (by rw [h1]; unfold ze; omega) hne
structure AS where
 h : T AObj
 nx : Nat
def AS.new (s : AS) (o : AObj) : AS := ⟨s.h.set s.nx o, s.nx + 1⟩
def AS.upd (s : AS) (b : Nat) (o : AObj) : AS := ⟨s.h.set b o, s.nx⟩
structure TI where
 desc : TypeDesc
 size : Nat
 zero : List Value
 bytes : Nat
def isAggD : TypeDesc → Bool
 | .struct _ | .array _ _ => true
 | _ => false
structure Env where
 P : Program
 ty : T TI
 fn : T Func
 prim : T (List Value → AS → Option (Value × AS))
 back : Nat → Bool := fun _ => false
end
end Go.Ax
/- An abstract machine for the operations of a Go program: what each operation comes to. A slice's last number is twice its capacity where that is known to the full (and 1), or twice a number that it surely has. -/
namespace Go.Ax
open Go
noncomputable section
abbrev Tm := T Value
def cst : Value → Option Value
 | .int k n => some (.int k n)
 | .bool b => some (.bool b)
 | .string s => some (.string s)
 | .pointer none => some (.pointer none)
 | .slice none 0 0 => some (.slice none 0 0)
 | .map none => some (.map none)
 | .nilFunc => some .nilFunc
 | .nilIface => some .nilIface
 | .float k n => some (.float k n)
 | _ => none
def ev (tm : Tm) : Operand → Option Value
 | .tmp i => tm.get i
 | .const v => cst v
 | .global g => bif Nat.blt g 1000 then some (.pointer (some ⟨g, 0, none⟩)) else none
 | .func f => some (.func (.func f) #[] #[])
def evs (tm : Tm) : List Operand → Option (List Value)
 | [] => some []
 | x :: l => match ev tm x with
  | none => none
  | some v => match evs tm l with
   | none => none
   | some vs => some (v :: vs)
def rdN (s : AS) (b o n : Nat) : Option (List Value) :=
 match s.h.get b with
 | some (.cells c m _) => bif Nat.ble (o + n) m then c.list n o else none
 | some (.ro c m) => bif Nat.ble (o + n) m then c.list n o else none
 | _ => none
def rd (s : AS) (b o : Nat) : Option Value :=
 match s.h.get b with
 | some (.cells c m _) => bif Nat.blt o m then c.get o else none
 | some (.ro c m) => bif Nat.blt o m then c.get o else none
 | _ => none
def oneC : Value → Bool
 | .agg _ | .tuple _ => false
 | _ => true
def ones : List Value → Bool
 | [] => true
 | v :: l => oneC v && ones l
def wrN (s : AS) (b o : Nat) (l : List Value) : Option AS :=
 match s.h.get b with
 | some (.cells c m z) => bif Nat.ble (o + l.length) m && ones l then some (s.upd b (.cells (c.fill o l) m z)) else none
 | _ => none
def AS.rowz (s : AS) (z : Nat) (l : List Value) : AS := s.new (.cells (T.e.fill 0 l) l.length z)
def AS.row (s : AS) (l : List Value) : Value × AS := (.pointer (some ⟨s.nx, 0, none⟩), s.rowz 0 l)
def plain : Value → Bool
 | .bool _ | .int _ _ | .float _ _ | .string _ | .nilFunc | .nilIface => true
 | .iface _ v => plain1 v
 | .agg cs => cs.toList.all plain1
 | _ => false
 where plain1 : Value → Bool
  | .bool _ | .int _ _ | .float _ _ | .string _ => true
  | _ => false
def pureRun (P : Program) {α : Type} : Sem α → Option α
 | .pure a => some a
 | .program k => pureRun P (k P)
 | .mark _ k => pureRun P k
 | _ => none
def natK {α : Type} (n : Nat) (k : Nat → α) : α := Nat.rec (motive := fun _ => (Nat → α) → α) (fun k => k 0) (fun p _ k => k (Nat.succ p)) n k
def intK {α : Type} (n : Int) (k : Int → α) : α := match n with
 | .ofNat a => natK a fun a => k (.ofNat a)
 | .negSucc a => natK a fun a => k (.negSucc a)
def ieq : Int → Int → Bool
 | .ofNat a, .ofNat b => Nat.beq a b
 | .negSucc a, .negSucc b => Nat.beq a b
 | _, _ => false
def ilt : Int → Int → Bool
 | .ofNat a, .ofNat b => Nat.blt a b
 | .negSucc a, .negSucc b => Nat.blt b a
 | .negSucc _, .ofNat _ => true
 | .ofNat _, .negSucc _ => false
def imod (n : Int) (m : Nat) : Nat := match n with
 | .ofNat a => a % m
 | .negSucc a => m - 1 - a % m
def wrU (m : Nat) (n : Int) : Int := .ofNat (imod n m)
def wrS (m h : Nat) (n : Int) : Int := natK (imod n m) fun r => bif Nat.blt r h then .ofNat r else .negSucc (m - 1 - r)
def wrapA (k : IntKind) (n : Int) : Int := match k with
 | .i64 => wrS 18446744073709551616 9223372036854775808 n
 | .u8 => wrU 256 n
 | .u64 => wrU 18446744073709551616 n
 | .u32 => wrU 4294967296 n
 | .i32 => wrS 4294967296 2147483648 n
 | .u16 => wrU 65536 n
 | .i16 => wrS 65536 32768 n
 | .i8 => wrS 256 128 n
def modA : IntKind → Nat
 | .i64 | .u64 => 18446744073709551616
 | .i32 | .u32 => 4294967296
 | .i16 | .u16 => 65536
 | .i8 | .u8 => 256
def intV (k : IntKind) (n : Int) : Option Value := intK (wrapA k n) fun m => some (.int k m)
def bits2 (f : Nat → Nat → Nat) (k : IntKind) (a b : Int) : Option Value := intV k (.ofNat (f (imod a (modA k)) (imod b (modA k))))
def kindEq : IntKind → IntKind → Bool
 | .i64, .i64 | .i32, .i32 | .i16, .i16 | .i8, .i8 | .u64, .u64 | .u32, .u32 | .u16, .u16 | .u8, .u8 => true
 | _, _ => false
def iCmp (f : Int → Int → Bool) (_ : IntKind) (a b : Int) : Option Value := some (.bool (f a b))
def iAr (f : Int → Int → Int) (k : IntKind) (a b : Int) : Option Value := intV k (f a b)
def iQuo (k : IntKind) (a b : Int) : Option Value := bif ieq b 0 then none else intV k (Int.tdiv a b)
def iRem (k : IntKind) (a b : Int) : Option Value := bif ieq b 0 then none else intK (Int.tmod a b) fun m => some (.int k m)
def iAndNot (k : IntKind) (a b : Int) : Option Value := bits2 (fun x y => Nat.land x (modA k - 1 - y)) k a b
def iNo (_ : IntKind) (_ _ : Int) : Option Value := none
def intBin (op : BinOp) : IntKind → Int → Int → Option Value :=
 match op with
 | .add => iAr Int.add
 | .sub => iAr Int.sub
 | .mul => iAr Int.mul
 | .quo => iQuo
 | .rem => iRem
 | .and => bits2 Nat.land
 | .or => bits2 Nat.lor
 | .xor => bits2 Nat.xor
 | .andNot => iAndNot
 | .eql => iCmp ieq
 | .neq => iCmp fun a b => !ieq a b
 | .lss => iCmp ilt
 | .leq => iCmp fun a b => !ilt b a
 | .gtr => iCmp fun a b => ilt b a
 | .geq => iCmp fun a b => !ilt a b
 | _ => iNo
def inR (n : Int) (m : Nat) : Bool := match n with
 | .ofNat a => Nat.blt a m
 | .negSucc _ => false
def bitsA : IntKind → Nat
 | .i64 | .u64 => 64
 | .i32 | .u32 => 32
 | .i16 | .u16 => 16
 | .i8 | .u8 => 8
def shlA (k : IntKind) (a : Int) (n : Nat) : Option Value := intV k (Int.mul a (.ofNat (2 ^ bif Nat.ble n (bitsA k) then n else bitsA k)))
def shrA (k : IntKind) (a : Int) (n : Nat) : Option Value := intK (Int.fdiv a (.ofNat (2 ^ bif Nat.ble n (bitsA k) then n else bitsA k))) fun m => some (.int k m)
def binII (op : BinOp) (k : IntKind) (a : Int) (k' : IntKind) (b : Int) : Option Value :=
 match op with
 | .shl => (match b with
  | .negSucc _ => none
  | .ofNat n => shlA k a n)
 | .shr => (match b with
  | .negSucc _ => none
  | .ofNat n => shrA k a n)
 | op => bif kindEq k k' then intBin op k a b else none
def sAdd (x y : ByteArray) : Option Value := if ((x.size + y.size : Nat) : Int) > IntKind.i64.max then none else some (.string (x ++ y))
def sNo (_ _ : ByteArray) : Option Value := none
def strBin (op : BinOp) : ByteArray → ByteArray → Option Value :=
 match op with
 | .add => sAdd
 | .eql => fun x y => some (.bool (x.toList == y.toList))
 | .neq => fun x y => some (.bool (!(x.toList == y.toList)))
 | .lss => fun x y => some (.bool (Op.bytesLess x.toList y.toList))
 | .leq => fun x y => some (.bool (Op.bytesLess x.toList y.toList || x.toList == y.toList))
 | .gtr => fun x y => some (.bool (!(Op.bytesLess x.toList y.toList || x.toList == y.toList)))
 | .geq => fun x y => some (.bool (!Op.bytesLess x.toList y.toList))
 | _ => sNo
def live (s : AS) (b : Nat) : Bool :=
 match s.h.get b with
 | some (.cells _ _ z) => Nat.beq (z % 2) 0
 | _ => false
def eqD (E : Env) (s : AS) (d : TypeDesc) (x y : Value) : Option Bool :=
 match d, x, y with
 | .bool, .bool a, .bool b => some (a == b)
 | .pointer _, .pointer none, .pointer b => some b.isNone
 | .pointer _, .pointer (some _), .pointer none => some false
 | .pointer e, .pointer (some a), .pointer (some b) => match E.ty.get e with
  | none => none
  | some i => bif Nat.beq i.size 0 then none else
   bif Nat.beq a.block b.block then some (Nat.beq a.off b.off && a.spot.isNone && b.spot.isNone)
   else bif live s a.block && live s b.block then some false else none
 | .slice _, .slice none _ _, .slice b _ _ => some b.isNone
 | .slice _, .slice (some _) _ _, .slice none _ _ => some false
 | .map _ _, .map none, .map b => some b.isNone
 | .map _ _, .map (some _), .map none => some false
 | .func _ _ _, .nilFunc, .nilFunc => some true
 | .func _ _ _, .nilFunc, .func _ _ _ => some false
 | .func _ _ _, .func _ _ _, .nilFunc => some false
 | .interface _, .nilIface, .iface _ _ => some false
 | .interface _, .iface _ _, .nilIface => some false
 | _, _, _ => none
def eqA (E : Env) (s : AS) (t : TypeId) (x y : Value) : Option Bool :=
 match E.ty.get t with
 | none => none
 | some i => eqD E s i.desc x y
def isConstO : Operand → Bool
 | .const _ => true
 | _ => false
def pureBin (E : Env) (op : BinOp) (t : TypeId) (ox oy : Operand) (x y : Value) : Option Value :=
 bif plain x && plain y then (match pureRun E.P (do eqGuard op t ox oy x y; binOp op t x y) with
  | some v => bif plain v then some v else none
  | none => none) else none
def eqBin (E : Env) (s : AS) (op : BinOp) (t : TypeId) (ox oy : Operand) (x y : Value) (neg : Bool) : Option Value :=
 match eqA E s t x y with
 | some b => some (.bool (b != neg))
 | none => pureBin E op t ox oy x y
def isNilI : Value → Bool
 | .nilIface => true
 | _ => false
def binOther (E : Env) (s : AS) (op : BinOp) (t : TypeId) (ox oy : Operand) (x y : Value) : Option Value :=
 bif isNilI x && isNilI y then (bif isConstO ox || isConstO oy then (match E.ty.get t, op with
  | some ⟨.interface _, _, _, _⟩, .eql => some (.bool true)
  | some ⟨.interface _, _, _, _⟩, .neq => some (.bool false)
  | _, _ => none) else none)
 else match op with
 | .eql => eqBin E s op t ox oy x y false
 | .neq => eqBin E s op t ox oy x y true
 | _ => pureBin E op t ox oy x y
def binI (op : BinOp) (k : IntKind) (a : Int) (y : Value) : Option Value :=
 match y with
 | .int k' b => binII op k a k' b
 | _ => none
def binS (op : BinOp) (a : ByteArray) (y : Value) : Option Value :=
 match y with
 | .string b => strBin op a b
 | _ => none
def binA (E : Env) (s : AS) (op : BinOp) (t : TypeId) (ox oy : Operand) (x y : Value) : Option Value :=
 match x with
 | .int k a => binI op k a y
 | .string a => binS op a y
 | x => binOther E s op t ox oy x y
def placesOf (E : Env) : List Field → Option (List (Nat × Nat))
 | [] => some []
 | f :: l => match E.ty.get f.type with
  | none => none
  | some i => match placesOf E l with
   | none => none
   | some r => some ((f.offset, i.size) :: r)
def fillA (place : Nat → Option (Nat × Nat)) (cells : List Value) : List (Nat × Value) → Option (List Value)
 | [] => some cells
 | (i, v) :: rest =>
  match place i with
  | none => none
  | some (off, size) =>
   let vs := v.cells.toList
   bif Nat.beq vs.length size && Nat.ble (off + vs.length) cells.length then fillA place (cells.take off ++ vs ++ cells.drop (off + vs.length)) rest else none
def partsOf (tm : Tm) : List (Nat × Operand) → Option (List (Nat × Value))
 | [] => some []
 | (i, x) :: l => match ev tm x with
  | none => none
  | some v => match partsOf tm l with
   | none => none
   | some r => some ((i, v) :: r)
def partA (E : Env) (t : TypeId) (cs : List Value) (off : Nat) : Option Value :=
 match E.ty.get t with
 | none => none
 | some i => bif isAggD i.desc then (bif Nat.ble (off + i.size) cs.length then some (.agg ⟨(cs.drop off).take i.size⟩) else none) else cs[off]?
def rep (n : Nat) (l : List Value) : List Value := Nat.rec (motive := fun _ => List Value) [] (fun _ ih => l ++ ih) n
def bytesV (s : ByteArray) : List Value := s.data.toList.map fun b => .int .u8 b.toNat
def toBytes : List Value → Option (List UInt8)
 | [] => some []
 | .int .u8 n :: l => match toBytes l with
  | none => none
  | some r => some (UInt8.ofNat n.toNat :: r)
 | _ => none
def bnd (tm : Tm) (d : Nat) (m : Nat) : Option Operand → Option Nat
 | none => some d
 | some x => match ev tm x with
  | some (.int _ i) => if 0 ≤ i ∧ i ≤ m then some i.toNat else none
  | _ => none
def bnds (tm : Tm) (n c : Nat) (lo hi mx : Option Operand) : Option (Nat × Nat × Nat) :=
 bif mx.isSome && hi.isNone then none else
 match bnd tm c c mx with
 | none => none
 | some m => match bnd tm n m hi with
  | none => none
  | some h => bif Nat.ble h m then (match bnd tm 0 h lo with
   | none => none
   | some l => some (l, h, m)) else none
def unitOk (s : AS) (a : Option Addr) (n : Nat) : Bool :=
 match a with
 | none => true
 | some a => match s.h.get a.block with
  | some (.cells _ _ z) => Nat.beq (zs z) n
  | _ => false
def dropU (n : Nat) (l : List UInt8) : List UInt8 := Nat.rec (motive := fun _ => List UInt8 → List UInt8) (fun l => l) (fun _ ih l => @List.rec UInt8 (fun _ => List UInt8) [] (fun _ t _ => ih t) l) n l
def takeU (n : Nat) (l : List UInt8) : List UInt8 := @List.rec UInt8 (fun _ => Nat → List UInt8) (fun _ => []) (fun x _ ih n => Nat.rec (motive := fun _ => List UInt8) [] (fun m _ => x :: ih m) n) l n
def lenU (l : List UInt8) : Nat := @List.rec UInt8 (fun _ => Nat) 0 (fun _ _ ih => Nat.succ ih) l
def forceU {α : Type} (l : List UInt8) (f : List UInt8 → α) : α := @List.rec UInt8 (fun _ => (List UInt8 → α) → α) (fun f => f []) (fun x _ ih f => ih (fun t => f (x :: t))) l f
theorem forceU_eq {α : Type} : ∀ (l : List UInt8) (f : List UInt8 → α), forceU l f = f l
 | [], _ => rfl
 | x :: l, f => forceU_eq l (fun t => f (x :: t))
theorem lenU_eq : ∀ l : List UInt8, lenU l = l.length
 | [] => rfl
 | _ :: l => congrArg Nat.succ (lenU_eq l)
theorem dropU_eq : ∀ (n : Nat) (l : List UInt8), dropU n l = l.drop n
 | 0, _ => rfl
 | _ + 1, [] => rfl
 | n + 1, _ :: l => dropU_eq n l
theorem takeU_eq : ∀ (l : List UInt8) (n : Nat), takeU n l = l.take n
 | [], n => by cases n <;> rfl
 | _ :: _, 0 => rfl
 | x :: l, n + 1 => congrArg (x :: ·) (takeU_eq l n)
def subU (b : ByteArray) (l h : Nat) : Option Value := forceU (takeU (Nat.sub h l) (dropU l b.data.toList)) fun t => some (.string ⟨⟨t⟩⟩)
theorem extract_toList (b : ByteArray) (l h : Nat) : (b.extract l h).data.toList = (b.data.toList.drop l).take (h - l) := by
 rw [ByteArray.data_extract, Array.toList_extract, List.extract_eq_take_drop]
theorem subU_eq (b : ByteArray) (l h : Nat) : subU b l h = some (.string (b.extract l h)) := by
 unfold subU
 rw [forceU_eq, takeU_eq, dropU_eq]
 congr 2
 apply ByteArray.ext
 apply Array.ext'
 exact (extract_toList b l h).symm
def sliceA (E : Env) (s : AS) (tm : Tm) (t : TypeId) (x : Value) (lo hi mx : Option Operand) : Option Value :=
 match E.ty.get t with
 | none => none
 | some i => match i.desc, x with
  | .string, .string b => match mx with
   | some _ => none
   | none => natK (lenU b.data.toList) fun n => match bnds tm n n lo hi none with
    | none => none
    | some (l, h, _) => subU b l h
  | .slice e, .slice a n c => match E.ty.get e with
   | none => none
   | some j => match bnds tm n (c / 2) lo hi mx with
    | none => none
    | some (l, h, m) => bif mx.isSome || Nat.beq (c % 2) 1 || Nat.beq l 0 || unitOk s a j.size then some (.slice (a.map fun a => ⟨a.block, a.off + l * j.size, none⟩) (h - l) (2 * (m - l) + (bif mx.isSome then 1 else c % 2))) else none
  | .array k e, .pointer (some a) => match E.ty.get e with
   | none => none
   | some j => match bnds tm k k lo hi mx with
    | none => none
    | some (l, h, m) => some (.slice (some ⟨a.block, a.off + l * j.size, none⟩) (h - l) (2 * (m - l) + 1))
  | _, _ => none
def keyEq (E : Env) (kt : TypeId) (a b : Value) : Option Bool :=
 match a, b with
 | .int k x, .int k' y => bif kindEq k k' then some (ieq x y) else none
 | .string x, .string y => some (x == y)
 | .bool x, .bool y => some (x == y)
 | _, _ => none
def findM (E : Env) (kt : TypeId) (k : Value) : List (Value × Value) → Option (Option Value)
 | [] => some none
 | (a, v) :: l => match keyEq E kt k a with
  | none => none
  | some true => some (some v)
  | some false => findM E kt k l
def putM (E : Env) (kt : TypeId) (k v : Value) : List (Value × Value) → Option (List (Value × Value))
 | [] => some [(k, v)]
 | (a, u) :: l => match keyEq E kt k a with
  | none => none
  | some true => some ((k, v) :: l)
  | some false => match putM E kt k v l with
   | none => none
   | some r => some ((a, u) :: r)
def dropM (E : Env) (kt : TypeId) (k : Value) : List (Value × Value) → Option (List (Value × Value))
 | [] => some []
 | (a, u) :: l => match keyEq E kt k a with
  | none => none
  | some true => some l
  | some false => match dropM E kt k l with
   | none => none
   | some r => some ((a, u) :: r)
def keyOk (i : TI) (k : Value) : Bool :=
 match i.desc, k with
 | .int _, .int _ _ => true
 | .string, .string _ => true
 | .bool, .bool _ => true
 | _, _ => false
def isIntD : TypeDesc → Bool
 | .int _ => true
 | _ => false
def keyTwo (E : Env) (i : TI) (k : Value) : Bool :=
 match i.desc, k with
 | .struct fs, .agg cs => match fs.toList, cs.toList with
  | [f, g], [.int _ _, .int _ _] => (match E.ty.get f.type, E.ty.get g.type with
   | some fi, some gi => isIntD fi.desc && isIntD gi.desc && Nat.beq f.offset 0 && Nat.beq g.offset 1
   | _, _ => false)
  | _, _ => false
 | _, _ => false
def lenA (E : Env) (s : AS) (t : TypeId) (x : Value) : Option Value :=
 match E.ty.get t with
 | none => none
 | some i => match i.desc, x with
  | .string, .string b => some (.int .i64 b.size)
  | .array n _, _ => some (.int .i64 n)
  | .slice _, .slice _ n _ => some (.int .i64 n)
  | .map _ _, .map none => some (.int .i64 0)
  | .map _ _, .map (some r) => match s.h.get r with
   | some (.map es) => some (.int .i64 es.length)
   | _ => none
  | _, _ => none
def capA (E : Env) (t : TypeId) (x : Value) : Option Value :=
 match E.ty.get t with
 | none => none
 | some i => match i.desc, x with
  | .array n _, _ => some (.int .i64 n)
  | .slice _, .slice none _ _ => some (.int .i64 0)
  | .slice _, .slice _ _ c => bif Nat.beq (c % 2) 1 then some (.int .i64 ((c / 2 : Nat) : Int)) else none
  | _, _ => none
def srcA (s : AS) (size m : Nat) (x : Value) : Option (List Value) :=
 match x with
 | .slice none _ _ => some []
 | .slice (some a) _ _ => bif Nat.beq m 0 then some [] else rdN s a.block a.off (m * size)
 | .string b => bif Nat.beq size 1 then some ((takeU m b.data.toList).map fun b => .int .u8 b.toNat) else none
 | _ => none
def lenS : Value → Option Nat
 | .slice _ n _ => some n
 | .string s => some s.size
 | _ => none
def small : Nat := 1099511627776
def appendZ (E : Env) (s : AS) (e : TypeId) (x y : Value) : Option (Value × AS) :=
 match E.ty.get e, x, y with
 | some j, .slice none _ _, .int .i64 (.ofNat m) => bif Nat.beq j.size 0 || Nat.beq j.bytes 0 || Nat.beq m 0 || Nat.ble 524288 j.size then none else
  bif Nat.ble (m * j.bytes) small && Nat.ble m small then some (.slice (some ⟨s.nx, 0, none⟩) m (2 * m), s.rowz (tz j.size e) (rep m j.zero)) else none
 | _, _, _ => none
def wholeA (s : AS) (k : Nat) (y : Value) : Option (T Value) :=
 match y with
 | .slice (some a) _ _ => match s.h.get a.block with
  | some (.cells c m _) => bif Nat.beq a.off 0 && Nat.beq m k then some c else none
  | _ => none
 | _ => none
def shareA (s : AS) (j : TI) (n c m : Nat) (y : Value) : Option (T Value) :=
 bif Nat.beq n 0 && Nat.beq (c % 2) 1 && Nat.blt (c / 2) m && Nat.ble (m * j.bytes) small then wholeA s (m * j.size) y else none
def appendA (E : Env) (s : AS) (t u : TypeId) (x y : Value) : Option (Value × AS) :=
 match E.ty.get t, E.ty.get u with
 | some ti, some ui => match ti.desc, ui.desc with
  | .slice e, .int _ => appendZ E s e x y
  | _, .int _ => none
  | .slice e, _ => match E.ty.get e with
   | none => none
   | some j => bif Nat.beq j.size 0 || Nat.beq j.bytes 0 || Nat.ble 524288 j.size then none else
    match x, lenS y with
    | .slice a n c, some m => match shareA s j n c m y with
     | some t => some (.slice (some ⟨s.nx, 0, none⟩) (n + m) (2 * (n + m)), s.new (.cells t (m * j.size) (tz j.size e)))
     | none => match srcA s j.size m y with
     | none => none
     | some new =>
      bif Nat.beq m 0 then some (.slice a n c, s) else
      bif Nat.ble (n + m) (c / 2) then (match a with
       | none => none
       | some a => match wrN s a.block (a.off + n * j.size) new with
        | none => none
        | some s' => some (.slice (some a) (n + m) c, s'))
      else bif Nat.ble ((n + m) * j.bytes) small then (match a with
       | none => some (.slice (some ⟨s.nx, 0, none⟩) (n + m) (2 * (n + m)), s.rowz (tz j.size e) new)
       | some a =>
        bif Nat.beq n 0 && Nat.beq (c % 2) 1 then some (.slice (some ⟨s.nx, 0, none⟩) (n + m) (2 * (n + m)), s.rowz (tz j.size e) new) else
        match rdN s a.block a.off (n * j.size) with
        | none => none
        | some old => match s.h.get a.block with
         | some (.cells _ _ z) => bif Nat.beq (c % 2) 1 then some (.slice (some ⟨s.nx, 0, none⟩) (n + m) (2 * (n + m)), s.rowz (tz j.size e) (old ++ new)) else
          bif Nat.beq (zs z) j.size && ones new then some (.slice (some ⟨s.nx, 0, none⟩) (n + m) (2 * (n + m)), (s.upd a.block .dead).rowz (zg j.size z e) (old ++ new)) else none
         | _ => none)
      else none
    | _, _ => none
  | _, _ => none
 | _, _ => none
def copyA (E : Env) (s : AS) (t : TypeId) (x y : Value) : Option (Value × AS) :=
 match E.ty.get t with
 | none => none
 | some ti => match ti.desc with
  | .slice e => match E.ty.get e with
   | none => none
   | some j => match x, lenS y with
    | .slice a n _, some m => match srcA s j.size (Nat.min m n) y with
     | none => none
     | some new => match a with
      | none => some (.int .i64 (Nat.min m n : Nat), s)
      | some a => bif Nat.beq (Nat.min m n) 0 then some (.int .i64 (Nat.min m n : Nat), s) else match wrN s a.block a.off new with
       | none => none
       | some s' => some (.int .i64 (Nat.min m n : Nat), s')
    | _, _ => none
  | _ => none
def max2A : Value → Value → Option Value
 | .int k x, .int _ y => some (.int k (if y > x then y else x))
 | _, _ => none
def min2A : Value → Value → Option Value
 | .int k x, .int _ y => some (.int k (if y < x then y else x))
 | _, _ => none
def foldA (f : Value → Value → Option Value) : Value → List Value → Option Value
 | x, [] => some x
 | x, y :: l => match f x y with
  | none => none
  | some z => foldA f z l
def clearA (E : Env) (s : AS) (t : TypeId) (x : Value) : Option (Value × AS) :=
 match E.ty.get t with
 | none => none
 | some ti => match ti.desc, x with
  | _, .map none => some (.tuple #[], s)
  | _, .slice none _ _ => some (.tuple #[], s)
  | _, .map (some r) => match s.h.get r with
   | some (.map _) => some (.tuple #[], s.upd r (.map []))
   | _ => none
  | .slice e, .slice (some a) n _ => bif Nat.beq n 0 then some (.tuple #[], s) else
   match E.ty.get e with
   | none => none
   | some j => match wrN s a.block a.off (rep n j.zero) with
    | none => none
    | some s' => some (.tuple #[], s')
  | _, _ => none
def deleteA (E : Env) (s : AS) (t : TypeId) (m k : Value) : Option (Value × AS) :=
 match E.ty.get t with
 | none => none
 | some ti => match ti.desc, m with
  | .map kt _, .map (some r) => match E.ty.get kt with
   | none => none
   | some ki => bif keyOk ki k then (match s.h.get r with
    | some (.map es) => match dropM E kt k es with
     | none => none
     | some es' => some (.tuple #[], s.upd r (.map es'))
    | _ => none) else none
  | _, _ => none
def sDataA (s : AS) (x : Value) : Option (Value × AS) :=
 match x with
 | .slice none _ _ => some (.pointer none, s)
 | .slice (some a) _ c => bif Nat.beq (c / 2) 0 then none else some (.pointer (some ⟨a.block, a.off, none⟩), s)
 | _ => none
def uStrA (E : Env) (s : AS) (t : TypeId) (p n : Value) : Option (Value × AS) :=
 match n, p, E.ty.get t with
 | .int .i64 (.ofNat m), .pointer pa, some i => bif Nat.beq m 0 then some (.string .empty, s) else match pa, i.desc with
  | some a, .pointer e => match E.ty.get e, s.h.get a.block with
   | some j, some (.cells _ _ z) => bif Nat.beq j.size 1 && Nat.beq (ze z) (e + 1) && Nat.ble m small then (match rdN s a.block a.off m with
    | some l => match toBytes l with
     | some bs => some (.string ⟨⟨bs⟩⟩, s.upd a.block .dead)
     | none => none
    | none => none) else none
   | _, _ => none
  | _, _ => none
 | _, _, _ => none
def builtinA (E : Env) (s : AS) (b : Builtin) (ts : List TypeId) (xs : List Value) : Option (Value × AS) :=
 match b, ts, xs with
 | .len, t :: _, [x] => match lenA E s t x with
  | none => none
  | some v => some (v, s)
 | .cap, t :: _, [x] => match capA E t x with
  | none => none
  | some v => some (v, s)
 | .append, t :: u :: _, [x, y] => appendA E s t u x y
 | .copy, t :: _, [x, y] => copyA E s t x y
 | .unsafeSliceData, _, [x] => sDataA s x
 | .unsafeString, [t, _], [x, y] => uStrA E s t x y
 | .clear, t :: _, [x] => clearA E s t x
 | .delete, t :: _, [x, y] => deleteA E s t x y
 | .max, _, x :: l => match foldA max2A x l with
  | none => none
  | some v => some (v, s)
 | .min, _, x :: l => match foldA min2A x l with
  | none => none
  | some v => some (v, s)
 | _, _, _ => none
def convP (E : Env) (s : AS) (src dst : TypeId) (x : Value) : Option (Value × AS) :=
 bif plain x then (match pureRun E.P (convert src dst x) with
  | some v => bif plain v then some (v, s) else none
  | none => none) else none
def convA (E : Env) (s : AS) (src dst : TypeId) (x : Value) : Option (Value × AS) :=
 match E.ty.get src, E.ty.get dst with
 | some si, some di => match si.desc, di.desc, x with
  | _, .int k, .int _ n => match intV k n with
   | some v => some (v, s)
   | none => none
  | _, .string, .string b => some (.string b, s)
  | _, .slice e, .string b => match E.ty.get e with
   | some ⟨.int .u8, _, _, _⟩ => some (.slice (some ⟨s.nx, 0, none⟩) b.size (2 * b.size), s.rowz 3 (bytesV b))
   | _ => none
  | .slice e, .string, .slice a n _ => match E.ty.get e with
   | some ⟨.int .u8, _, _, _⟩ => match a with
    | none => some (.string .empty, s)
    | some a => bif Nat.beq n 0 then some (.string .empty, s) else match rdN s a.block a.off n with
     | none => none
     | some l => match toBytes l with
      | none => none
      | some bs => some (.string ⟨⟨bs⟩⟩, s)
   | _ => none
  | .slice _, .slice e, .slice (some a) n c => bif Nat.beq src dst then (match E.ty.get e with
   | some ⟨.int .u8, _, _, _⟩ => match s.h.get a.block with
    | some (.cells ct m z) => some (.slice (some a) n c, s.upd a.block (.cells ct m (2 * (z / 2) + 1)))
    | _ => none
   | _ => none) else none
  | .pointer t, .unsafePointer, .pointer p => match p with
   | none => some (.pointer none, s)
   | some a => match E.ty.get t with
    | some j => bif Nat.beq j.size 0 then none else match s.h.get a.block with
     | some (.cells _ m _) => bif Nat.blt a.off m then some (.pointer (some ⟨a.block, a.off, none⟩), s) else none
     | _ => none
    | none => none
  | .unsafePointer, .pointer u, .pointer (some a) => match E.ty.get u, s.h.get a.block with
   | some j, some (.cells _ m z) => bif Nat.beq (ze z) (u + 1) && Nat.beq (zs z) 0 && Nat.beq a.off 0 && Nat.ble j.size m && Nat.ble 1 j.size then some (.pointer (some ⟨a.block, 0, none⟩), s) else none
   | _, _ => none
  | _, _, _ => convP E s src dst x
 | _, _ => none
abbrev Res := Option (Value × AS)
def hMove (x : Operand) (_ : Env) (tm : Tm) (s : AS) : Res :=
 match ev tm x with
 | some v => some (v, s)
 | none => none
def hPick (c a b : Operand) (_ : Env) (tm : Tm) (s : AS) : Res :=
 match ev tm c with
 | some (.bool t) => match ev tm (bif t then a else b) with
  | some v => some (v, s)
  | none => none
 | _ => none
def hAlloc (t : TypeId) (E : Env) (_ : Tm) (s : AS) : Res :=
 match E.ty.get t with
 | some i => some (.pointer (some ⟨s.nx, 0, none⟩), s.rowz (tz 0 t) i.zero)
 | none => none
def hBox (t : TypeId) (x : Operand) (_ : Env) (tm : Tm) (s : AS) : Res :=
 match ev tm x with
 | some v => some (.pointer (some ⟨s.nx, 0, none⟩), s.rowz (tz 0 t) v.cells.toList)
 | none => none
def hBuild (t : TypeId) (ps : Array (Nat × Operand)) (E : Env) (tm : Tm) (s : AS) : Res :=
 match E.ty.get t, partsOf tm ps.toList with
 | some i, some l => match i.desc with
  | .struct fs => match placesOf E fs.toList with
   | none => none
   | some pl => match fillA (fun k => pl[k]?) i.zero l with
    | none => none
    | some cs => some (.agg ⟨cs⟩, s)
  | .array _ e => match E.ty.get e with
   | none => none
   | some j => match fillA (fun k => some (k * j.size, j.size)) i.zero l with
    | none => none
    | some cs => some (.agg ⟨cs⟩, s)
  | _ => none
 | _, _ => none
def hBuildSlice (t : TypeId) (n : Nat) (ps : Array (Nat × Operand)) (E : Env) (tm : Tm) (s : AS) : Res :=
 match E.ty.get t, partsOf tm ps.toList with
 | some i, some l => match i.desc with
  | .slice e => match E.ty.get e with
   | none => none
   | some j => bif Nat.ble (n * j.size) 65536 then (match fillA (fun k => some (k * j.size, j.size)) (rep n j.zero) l with
    | none => none
    | some cs => some (.slice (some ⟨s.nx, 0, none⟩) n (2 * n + 1), (s.row cs).2)) else none
  | _ => none
 | _, _ => none
def hLoad (t : TypeId) (a : Operand) (E : Env) (tm : Tm) (s : AS) : Res :=
 match E.ty.get t, ev tm a with
 | some i, some (.pointer (some p)) => bif isAggD i.desc then (match rdN s p.block p.off i.size with
   | some l => some (.agg ⟨l⟩, s)
   | none => none) else (match rd s p.block p.off with
   | some v => some (v, s)
   | none => none)
 | _, _ => none
def hStore (t : TypeId) (a x : Operand) (E : Env) (tm : Tm) (s : AS) : Res :=
 match E.ty.get t, ev tm a, ev tm x with
 | some i, some (.pointer (some p)), some v =>
  bif Nat.beq v.cells.toList.length i.size then (match wrN s p.block p.off v.cells.toList with
   | some s' => some (.tuple #[], s')
   | none => none) else none
 | _, _, _ => none
def hNilCheck (x : Operand) (_ : Env) (tm : Tm) (s : AS) : Res :=
 match ev tm x with
 | some (.pointer (some p)) => some (.pointer (some p), s)
 | some (.func (.func f) a b) => some (.func (.func f) a b, s)
 | _ => none
def hBin (op : BinOp) (t : TypeId) (x y : Operand) (E : Env) (tm : Tm) (s : AS) : Res :=
 match ev tm x, ev tm y with
 | some a, some b => match binA E s op t x y a b with
  | some v => some (v, s)
  | none => none
 | _, _ => none
def notA : Value → Option Value
 | .bool b => some (.bool (!b))
 | _ => none
def hUn (op : UnOp) (x : Operand) (E : Env) (tm : Tm) (s : AS) : Res :=
 match ev tm x with
 | some v => (match (match op with
   | .not => notA v
   | _ => none) with
  | some u => some (u, s)
  | none => bif plain v then (match pureRun E.P (Op.unary op v) with
   | some u => bif plain u then some (u, s) else none
   | none => none) else none)
 | none => none
def hConv (a b : TypeId) (x : Operand) (E : Env) (tm : Tm) (s : AS) : Res :=
 match ev tm x with
 | some v => convA E s a b v
 | none => none
def hIface (t : TypeId) (x : Operand) (E : Env) (tm : Tm) (s : AS) : Res :=
 match E.ty.get t, ev tm x with
 | some i, some v => match i.desc with
  | .interface _ => none
  | _ => some (.iface t v, s)
 | _, _ => none
def hFunc (f : Fn) (a b : Array Operand) (_ : Env) (tm : Tm) (s : AS) : Res :=
 match evs tm a.toList, evs tm b.toList with
 | some l, some r => some (.func f ⟨l⟩ ⟨r⟩, s)
 | _, _ => none
def hMap (t : TypeId) (r : Option Operand) (E : Env) (tm : Tm) (s : AS) : Res :=
 match r with
 | none => some (.map (some s.nx), s.new (.map []))
 | some x => match E.ty.get t, ev tm x with
  | some ⟨.map _ _, _, _, _⟩, some (.int _ _) => some (.map (some s.nx), s.new (.map []))
  | _, _ => none
def hMakeSlice (t : TypeId) (l c : Operand) (E : Env) (tm : Tm) (s : AS) : Res :=
 match E.ty.get t, ev tm l, ev tm c with
 | some i, some (.int _ n), some (.int _ m) => match i.desc with
  | .slice e => match E.ty.get e with
   | none => none
   | some j => if 0 ≤ n ∧ n ≤ m ∧ m * j.bytes ≤ small ∧ m ≤ small then
    some (.slice (some ⟨s.nx, 0, none⟩) n.toNat (2 * m.toNat + 1), (s.row (rep m.toNat j.zero)).2) else none
  | _ => none
 | _, _, _ => none
def hSlice (t : TypeId) (x : Operand) (lo hi mx : Option Operand) (E : Env) (tm : Tm) (s : AS) : Res :=
 match ev tm x with
 | some v => match sliceA E s tm t v lo hi mx with
  | some u => some (u, s)
  | none => none
 | none => none
def hFieldAddr (t : TypeId) (x : Operand) (f : Nat) (E : Env) (tm : Tm) (s : AS) : Res :=
 match E.ty.get t, ev tm x with
 | some i, some (.pointer (some p)) => match i.desc with
  | .struct fs => match fs.toList[f]? with
   | some fd => match E.ty.get fd.type with
    | some j => bif Nat.beq j.size 0 then none else natK (p.off + fd.offset) fun o => some (.pointer (some ⟨p.block, o, none⟩), s)
    | none => none
   | none => none
  | _ => none
 | _, _ => none
def hField (t : TypeId) (x : Operand) (f : Nat) (E : Env) (tm : Tm) (s : AS) : Res :=
 match E.ty.get t, ev tm x with
 | some i, some (.agg cs) => match i.desc with
  | .struct fs => match fs.toList[f]? with
   | some fd => match partA E fd.type cs.toList fd.offset with
    | some v => some (v, s)
    | none => none
   | none => none
  | _ => none
 | _, _ => none
def hIndexAddr (t : TypeId) (x y : Operand) (E : Env) (tm : Tm) (s : AS) : Res :=
 match E.ty.get t, ev tm x, ev tm y with
 | some i, some v, some (.int _ n) => match i.desc, v with
  | .slice e, .slice (some a) m _ => match E.ty.get e with
   | some j => bif inR n m then natK (a.off + n.toNat * j.size) (fun o => some (.pointer (some ⟨a.block, o, none⟩), s)) else none
   | none => none
  | .array m e, .pointer (some a) => match E.ty.get e with
   | some j => bif inR n m then natK (a.off + n.toNat * j.size) (fun o => some (.pointer (some ⟨a.block, o, none⟩), s)) else none
   | none => none
  | _, _ => none
 | _, _, _ => none
def hIndex (t : TypeId) (x y : Operand) (E : Env) (tm : Tm) (s : AS) : Res :=
 match E.ty.get t, ev tm x, ev tm y with
 | some i, some v, some (.int _ n) => match i.desc, v with
  | .string, .string b => if 0 ≤ n then (match b.data.toList[n.toNat]? with
   | some c => some (.int .u8 c.toNat, s)
   | none => none) else none
  | .array m e, .agg cs => match E.ty.get e with
   | some j => bif inR n m then (match partA E e cs.toList (n.toNat * j.size) with
    | some v => some (v, s)
    | none => none) else none
   | none => none
  | _, _ => none
 | _, _, _ => none
def hLookup (t : TypeId) (x y : Operand) (ok : Bool) (E : Env) (tm : Tm) (s : AS) : Res :=
 match E.ty.get t, ev tm x, ev tm y with
 | some i, some (.map r), some k => match i.desc with
  | .map kt et => match E.ty.get kt, E.ty.get et with
   | some ki, some ei => bif keyOk ki k then (
    match (match r with
     | none => some none
     | some r => match s.h.get r with
      | some (.map es) => findM E kt k es
      | _ => none) with
    | none => none
    | some o => let z : Value := bif isAggD ei.desc then .agg ⟨ei.zero⟩ else ei.zero.headD (.tuple #[])
     some (bif ok then .tuple #[o.getD z, .bool o.isSome] else o.getD z, s)) else none
   | _, _ => none
  | _ => none
 | _, _, _ => none
def hMapUpdate (t : TypeId) (m k x : Operand) (E : Env) (tm : Tm) (s : AS) : Res :=
 match E.ty.get t, ev tm m, ev tm k, ev tm x with
 | some i, some (.map (some r)), some k, some v => match i.desc with
  | .map kt _ => match E.ty.get kt with
   | some ki => bif keyOk ki k then (match s.h.get r with
    | some (.map es) => match putM E kt k v es with
     | none => none
     | some es' => some (.tuple #[], s.upd r (.map es'))
    | _ => none) else bif keyTwo E ki k then (match s.h.get r with
    | some (.map []) => some (.tuple #[], s.upd r (.map [(k, v)]))
    | _ => none) else none
   | none => none
  | _ => none
 | _, _, _, _ => none
def hRange (t : TypeId) (x : Operand) (E : Env) (tm : Tm) (s : AS) : Res :=
 match E.ty.get t, ev tm x with
 | some i, some (.string b) => match i.desc with
  | .string => some (.pointer (some ⟨s.nx, 0, none⟩), s.new (.iter b 0))
  | _ => none
 | _, _ => none
def hNext (it : Operand) (str : Bool) (_ : Env) (tm : Tm) (s : AS) : Res :=
 match str, ev tm it with
 | true, some (.pointer (some ⟨r, 0, none⟩)) => match s.h.get r with
  | some (.iter b p) => if p < b.size then
    some (.tuple #[.bool true, .int .i64 p, .int .i32 (Utf8.decode b p).1], s.upd r (.iter b (p + (Utf8.decode b p).2)))
   else some (.tuple #[.bool false], s)
  | _ => none
 | _, _ => none
def hAssert (x : Operand) (t : TypeId) (ok : Bool) (E : Env) (tm : Tm) (s : AS) : Res :=
 match E.ty.get t, ev tm x with
 | some i, some (.iface u v) => match i.desc with
  | .interface _ => none
  | _ => bif Nat.beq u t then some (bif ok then .tuple #[v, .bool true] else v, s) else none
 | _, _ => none
def hExtract (x : Operand) (i : Nat) (_ : Env) (tm : Tm) (s : AS) : Res :=
 match ev tm x with
 | some (.tuple vs) => match vs.toList[i]? with
  | some v => some (v, s)
  | none => none
 | _ => none
def hCall (c : Call) (E : Env) (tm : Tm) (s : AS) : Res :=
 match c.callee with
 | .builtin b => match evs tm c.args.toList with
  | some xs => builtinA E s b c.argTypes.toList xs
  | none => none
 | _ => none
def hNo (_ : Env) (_ : Tm) (_ : AS) : Res := none
def opA (op : Op) : Env → Tm → AS → Res :=
 match op with
 | .move x => hMove x
 | .assign x => hMove x
 | .pick c a b => hPick c a b
 | .alloc t => hAlloc t
 | .box t x => hBox t x
 | .build t ps => hBuild t ps
 | .buildSlice t n ps => hBuildSlice t n ps
 | .load t a => hLoad t a
 | .store t a x => hStore t a x
 | .nilCheck x => hNilCheck x
 | .binOp op t x y _ => hBin op t x y
 | .unOp op _ x => hUn op x
 | .convert a b x => hConv a b x
 | .makeInterface t x => hIface t x
 | .makeFunc f a b => hFunc f a b
 | .makeMap t r => hMap t r
 | .makeSlice t l c => hMakeSlice t l c
 | .slice t x lo hi mx => hSlice t x lo hi mx
 | .fieldAddr t x f => hFieldAddr t x f
 | .field t x f => hField t x f
 | .indexAddr t x y => hIndexAddr t x y
 | .index t x y => hIndex t x y
 | .lookup t x y ok => hLookup t x y ok
 | .mapUpdate t m k x => hMapUpdate t m k x
 | .insert t m k x => hMapUpdate t m k x
 | .range t x => hRange t x
 | .next it str => hNext it str
 | .typeAssert x _ t ok => hAssert x t ok
 | .extract x i => hExtract x i
 | .call c => hCall c
 | _ => hNo
end
end Go.Ax
/- An abstract machine for the operations of a Go program: regions, code, calls. -/
namespace Go.Ax
open Go
noncomputable section
inductive X where
 | nor
 | exit (i : Nat)
 | ret
abbrev CallF := FuncId → List Value → AS → Option (Value × AS)
def wantedA (ops : List Oper) (tm : Tm) (o : Oper) : Option Bool :=
 match o.guard with
 | none => some true
 | some (j, want) => match ops[j]? with
  | some o' => match o'.dst with
   | some d => match tm.get d with
    | some (.bool b) => some (b == want)
    | some _ => some false
    | none => none
   | none => none
  | none => none
def callV (f : Operand) (args : List Operand) (call : CallF) (tm : Tm) (s : AS) : Option (Value × AS) :=
 match ev tm f, evs tm args with
 | some (.func (.func g) first captured), some xs => call g (first.toList ++ xs ++ captured.toList) s
 | _, _ => none
def callC (c : Call) (E : Env) (call : CallF) (tm : Tm) (s : AS) : Option (Value × AS) :=
 match c.callee with
 | .value f => callV f c.args.toList call tm s
 | _ => hCall c E tm s
def execA (op : Op) (E : Env) (call : CallF) (tm : Tm) (s : AS) : Option (Value × AS) :=
 match op with
 | .call c => callC c E call tm s
 | op => opA op E tm s
/- N: the greatest slot. -/
def putA (N : Nat) (tm : Tm) (dst : Option Tmp) (v : Value) : Option Tm :=
 match dst with
 | none => some tm
 | some d => bif Nat.ble d N then some (tm.set d v) else none
def runL (E : Env) (call : CallF) (N : Nat) (ops : List Oper) (l : List Oper) : Tm → AS → Option (Tm × AS) :=
 List.rec (motive := fun _ => Tm → AS → Option (Tm × AS)) (fun tm s => some (tm, s)) (fun o _ ih tm s =>
  match wantedA ops tm o with
  | none => none
  | some false => match putA N tm o.dst undef with
   | none => none
   | some tm' => ih tm' s
  | some true => match execA o.op E call tm s with
   | none => none
   | some (v, s') => match putA N tm o.dst v with
    | none => none
    | some tm' => ih tm' s') l
def isNew : Op → Bool
 | .alloc _ | .box _ _ | .buildSlice _ _ _ | .makeMap _ _ | .makeSlice _ _ _ => true
 | _ => false
def toNum (ty : T TI) (t : TypeId) : Bool :=
 match ty.get t with
 | some i => match i.desc with
  | .int _ | .float _ => true
  | _ => false
 | none => false
def eff (ty : T TI) : Op → Bool
 | .store _ _ _ | .mapUpdate _ _ _ _ | .insert _ _ _ _ | .range _ _ | .next _ _ => true
 | .convert _ t _ => !toNum ty t
 | .call ⟨.builtin .len, _, _⟩ | .call ⟨.builtin .cap, _, _⟩ | .call ⟨.builtin .max, _, _⟩ | .call ⟨.builtin .min, _, _⟩ => false
 | .call _ => true
 | _ => false
def slotsOf : List Operand → List Nat
 | [] => []
 | .tmp i :: l => i :: slotsOf l
 | _ :: l => slotsOf l
def looks (ops : List Oper) (o : Oper) : List Nat :=
 slotsOf o.op.operands.toList ++ (match o.guard with
  | none => []
  | some (j, _) => match ops[j]? with
   | some o' => o'.dst.toList
   | none => [])
def bindsE (e : Edge) : Bool :=
 match e.ground with
 | .textOnly _ | .gcOnly _ => false
 | _ => true
def ancs : List Oper → List Nat → List Nat
 | [], acc => acc
 | o :: l, acc => ancs l (acc ++ [(o.after.toList.filter bindsE).foldl (fun b e => b ||| 2 ^ e.on ||| acc.getD e.on 0) 0])
def plainEdge (i : Nat) (e : Edge) : Bool := !bindsE e || Nat.blt e.on i
def pairOk (ty : T TI) (ops : List Oper) (an : List Nat) (i : Nat) (o : Oper) (j : Nat) (p : Oper) : Bool :=
 bif Nat.blt i j then (
  (bif eff ty o.op && eff ty p.op then (an.getD j 0).testBit i else true) &&
  (match o.dst with
   | some d => bif (looks ops p).contains d || p.dst == some d then (an.getD j 0).testBit i else true
   | none => true) &&
  (match p.dst with
   | some d => bif (looks ops o).contains d then (an.getD j 0).testBit i else true
   | none => true)) else true
def regOk (ty : T TI) (ops : List Oper) : Bool :=
 (ops.zipIdx.all fun (o, i) => o.after.toList.all (plainEdge i) && (match o.op with | .select _ _ => false | _ => true)) &&
 (fun an => ops.zipIdx.all fun (o, i) => ops.zipIdx.all fun (p, j) => pairOk ty ops an i o j p) (ancs ops [])
def veq1 : Value → Value → Bool
 | .bool a, .bool b => a == b
 | .int k a, .int l b => k == l && a == b
 | .float k a, .float l b => k == l && a == b
 | .string a, .string b => a == b
 | .pointer a, .pointer b => a == b
 | .slice a n c, .slice b m d => a == b && n == m && c == d
 | .map a, .map b => a == b
 | .nilFunc, .nilFunc => true
 | .nilIface, .nilIface => true
 | _, _ => false
def veqs (e : Value → Value → Bool) : List Value → List Value → Bool
 | [], [] => true
 | a :: l, b :: m => e a b && veqs e l m
 | _, _ => false
def veqF (e : Value → Value → Bool) : Value → Value → Bool
 | .func (.func f) a c, .func (.func g) b d => f == g && veqs e a.toList b.toList && veqs e c.toList d.toList
 | .iface t a, .iface u b => t == u && e a b
 | .agg a, .agg b => veqs e a.toList b.toList
 | a, b => veq1 a b
def veq : Value → Value → Bool := veqF (veqF (veqF veq1))
def sees : Op → Bool
 | .slice _ _ _ _ _ | .load _ _ | .lookup _ _ _ _ | .binOp _ _ _ _ _ | .call _ | .nilCheck _ | .typeAssert _ _ _ _ | .waits _ | .entry _ => true
 | _ => false
def newA (op : Op) (E : Env) (tm : Tm) (b : Nat) : Option (Value × AObj) :=
 match opA op E tm ⟨.e, b⟩ with
 | none => none
 | some (v, s') => match s'.h.get b with
  | none => none
  | some o => some (v, o)
abbrev News := List (Nat × AObj)
def laid (base bits : Nat) (news : News) (s : AS) : AS :=
 news.foldl (fun s (x : Nat × AObj) => bif bits.testBit x.1 then (match s.h.get (base + x.1) with
  | none => s.upd (base + x.1) x.2
  | some _ => s) else s) s
structure Rec where
 i : Nat
 o : Oper
 tm : Tm
 v : Value
 news : News
def runD (E : Env) (call : CallF) (N : Nat) (ops : List Oper) (an : List Nat) (base : Nat) (l : List Oper) : Nat → Tm → AS → List AS → List Rec → News → Option (Tm × AS × List AS × List Rec × News) :=
 List.rec (motive := fun _ => Nat → Tm → AS → List AS → List Rec → News → Option (Tm × AS × List AS × List Rec × News)) (fun _ tm s ss rs nw => some (tm, s, ss, rs, nw)) (fun o _ ih i tm s ss rs nw =>
  match wantedA ops tm o with
  | none => none
  | some false => match putA N tm o.dst undef with
   | none => none
   | some tm' => ih (i + 1) tm' s (bif eff E.ty o.op then ss ++ [s] else ss) rs nw
  | some true => bif isNew o.op then (natK (base + i) fun b => match newA o.op E tm b with
    | none => none
    | some (v, x) => match putA N tm o.dst v with
     | none => none
     | some tm' => ih (i + 1) tm' s ss rs (nw ++ [(i, x)]))
   else match execA o.op E call tm (laid base (an.getD i 0) nw s) with
   | none => none
   | some (v, s') => match putA N tm o.dst v with
    | none => none
    | some tm' => bif eff E.ty o.op then ih (i + 1) tm' s' (ss ++ [s']) rs nw else ih (i + 1) tm' s ss (⟨i, o, tm, v, nw⟩ :: rs) nw) l
def effIn (ty : T TI) (ops : List Oper) (bits : Nat) : Nat := ((ops.zipIdx.filter fun (o, j) => eff ty o.op && bits.testBit j)).length
def effNot (ty : T TI) (ops : List Oper) (an : List Nat) (i : Nat) : Nat := ((ops.zipIdx.filter fun (o, j) => eff ty o.op && !(an.getD j 0).testBit i)).length
def readOk (E : Env) (ops : List Oper) (an : List Nat) (base : Nat) (ss : List AS) (r : Rec) : Bool :=
 bif !sees r.o.op then true else ss.zipIdx.all fun (s, m) => bif Nat.ble (effIn E.ty ops (an.getD r.i 0)) m && Nat.ble m (effNot E.ty ops an r.i) then (match opA r.o.op E r.tm (laid base (an.getD r.i 0) r.news s) with
  | some (v, _) => veq v r.v
  | none => false) else true
def allBits (n : Nat) : Nat := 2 ^ n - 1
def drawnA (E : Env) (call : CallF) (N : Nat) (ops : List Oper) (tm : Tm) (s : AS) : Option (Tm × AS) :=
 bif (ops.any fun o => eff E.ty o.op || isNew o.op) then (natK (s.nx + ops.length) fun nx => match runD E call N ops (ancs ops []) s.nx ops 0 tm ⟨s.h, nx⟩ [⟨s.h, nx⟩] [] [] with
  | none => none
  | some (tm', s', ss, rs, nw) => bif rs.all (readOk E ops (ancs ops []) s.nx ss) then some (tm', laid s.nx (allBits ops.length) nw s') else none)
 else runL E call N ops ops tm s
abbrev CRes := Option (X × Tm × AS)
abbrev Run := Code → Tm → AS → CRes
def cSkip (_ : Env) (_ : CallF) (_ : Nat) (_ : Run) (tm : Tm) (s : AS) : CRes := some (.nor, tm, s)
def cRegion (ops : Array Oper) (draw : Bool) (E : Env) (call : CallF) (N : Nat) (_ : Run) (tm : Tm) (s : AS) : CRes :=
 match (bif draw then drawnA E call N ops.toList tm s else runL E call N ops.toList ops.toList tm s) with
 | none => none
 | some (tm', s') => some (.nor, tm', s')
def cSeq (a b : Code) (_ : Env) (_ : CallF) (_ : Nat) (ih : Run) (tm : Tm) (s : AS) : CRes :=
 match ih a tm s with
 | none => none
 | some (x, tm', s') => match x with
  | .nor => ih b tm' s'
  | x => some (x, tm', s')
def cCond (x : Operand) (a b : Code) (_ : Env) (_ : CallF) (_ : Nat) (ih : Run) (tm : Tm) (s : AS) : CRes :=
 match ev tm x with
 | some (.bool t) => ih (bif t then a else b) tm s
 | _ => none
def cBlock (i : Nat) (b : Code) (_ : Env) (_ : CallF) (_ : Nat) (ih : Run) (tm : Tm) (s : AS) : CRes :=
 match ih b tm s with
 | none => none
 | some (x, tm', s') => match x with
  | .exit j => bif Nat.beq j i then some (.nor, tm', s') else some (.exit j, tm', s')
  | x => some (x, tm', s')
def cLoop (b : Code) (_ : Env) (_ : CallF) (_ : Nat) (ih : Run) (tm : Tm) (s : AS) : CRes :=
 match ih b tm s with
 | none => none
 | some (x, tm', s') => match x with
  | .nor => ih (.loop b) tm' s'
  | x => some (x, tm', s')
def cExit (i : Nat) (_ : Env) (_ : CallF) (_ : Nat) (_ : Run) (tm : Tm) (s : AS) : CRes := some (.exit i, tm, s)
def cRet (_ : Env) (_ : CallF) (_ : Nat) (_ : Run) (tm : Tm) (s : AS) : CRes := some (.ret, tm, s)
def cRange (f : Operand) (E : Env) (_ : CallF) (_ : Nat) (_ : Run) (tm : Tm) (s : AS) : CRes :=
 match ev tm f with
 | some (.func (.func g) ⟨[]⟩ ⟨[.pointer (some p)]⟩) => bif E.back g then (match rd s p.block p.off with
  | some (.slice _ 0 _) => some (.nor, tm, s)
  | _ => none) else none
 | _ => none
def cNo (_ : Env) (_ : CallF) (_ : Nat) (_ : Run) (_ : Tm) (_ : AS) : CRes := none
def stepC (c : Code) : Env → CallF → Nat → Run → Tm → AS → CRes :=
 match c with
 | .skip => cSkip
 | .region _ ops draw => cRegion ops draw
 | .seq a b => cSeq a b
 | .cond x a b => cCond x a b
 | .block i b => cBlock i b
 | .loop b => cLoop b
 | .exit i => cExit i
 | .ret => cRet
 | .rangeFunc f _ _ _ => cRange f
 | _ => cNo
def codeA (E : Env) (call : CallF) (N : Nat) (F : Nat) : Run :=
 Nat.rec (motive := fun _ => Run) (fun _ _ _ => none) (fun _ ih c tm s => stepC c E call N ih tm s) F
def resA (E : Env) (tm : Tm) (s : AS) : List ResultVar → Option (List Value)
 | [] => some []
 | r :: l => match (match r with
   | .tmp t => tm.get t
   | .cell a t => match E.ty.get t, tm.get a with
    | some i, some (.pointer (some p)) => bif isAggD i.desc then (match rdN s p.block p.off i.size with
     | some l => some (.agg ⟨l⟩)
     | none => none) else rd s p.block p.off
    | _, _ => none) with
  | none => none
  | some v => match resA E tm s l with
   | none => none
   | some vs => some (v :: vs)
def packA : List Value → Value
 | [v] => v
 | l => .tuple ⟨l⟩
def callA (E : Env) (F : Nat) (D : Nat) : CallF :=
 Nat.rec (motive := fun _ => CallF) (fun _ _ _ => none) (fun _ ih f args s =>
  match E.prim.get f with
  | some p => p args s
  | none => match E.fn.get f with
   | none => none
   | some fn => match fn.body with
    | none => none
    | some c => bif Nat.beq fn.ntmps 0 then none else natK (Nat.pred fn.ntmps) fun N => match codeA E ih N F c (T.e.fill 0 args) s with
     | some (.exit _, _, _) => none
     | none => none
     | some (_, tm, s') => match resA E tm s' fn.results.toList with
      | none => none
      | some vs => some (packA vs, s')) D
end
end Go.Ax
/- What a state of the abstract machine says of a world of the model: values, memory, and what a step leaves alone. -/
namespace Go.Ax
open Go
structure Io where
 f : Nat → Option (Nat × Nat)
 lim : Nat → Nat × Nat
instance : CoeFun Io (fun _ => Nat → Option (Nat × Nat)) := ⟨Io.f⟩
mutual
inductive VR (i : Io) : Value → Value → Prop
 | bool (b : Bool) : VR i (.bool b) (.bool b)
 | int (k : IntKind) (n : Int) : VR i (.int k n) (.int k n)
 | float (k : FloatKind) (n : Nat) : VR i (.float k n) (.float k n)
 | string (s : ByteArray) : VR i (.string s) (.string s)
 | nilp : VR i (.pointer none) (.pointer none)
 | ptr {b o q t : Nat} (h : i b = some (q, t)) : VR i (.pointer (some ⟨b, o, none⟩)) (.pointer (some ⟨q, t + o, none⟩))
 | nils {c : Nat} (h : c / 2 = 0) : VR i (.slice none 0 c) (.slice none 0 0)
 | slice {b o q t n c p c' : Nat} (h : i b = some (q, t)) (hn : n ≤ c / 2) (h1 : c % 2 = 1 → c' = c / 2) (h2 : c / 2 ≤ c') (ho : p = t + o ∨ c' = 0) (hl : c % 2 = 0 → c' ≠ 0 → p + c' * (i.lim b).1 ≤ (i.lim b).2) :
   VR i (.slice (some ⟨b, o, none⟩) n c) (.slice (some ⟨q, p, none⟩) n c')
 | nilm : VR i (.map none) (.map none)
 | map {b q : Nat} (h : i b = some (q, 0)) : VR i (.map (some b)) (.map (some q))
 | nilFunc : VR i .nilFunc .nilFunc
 | nilIface : VR i .nilIface .nilIface
 | func (f : Fn) {a a' c c' : List Value} (h : VRs i a a') (h' : VRs i c c') : VR i (.func f ⟨a⟩ ⟨c⟩) (.func f ⟨a'⟩ ⟨c'⟩)
 | iface (t : TypeId) {v v' : Value} (h : VR i v v') : VR i (.iface t v) (.iface t v')
 | agg {a a' : List Value} (h : VRs i a a') : VR i (.agg ⟨a⟩) (.agg ⟨a'⟩)
 | tuple {a a' : List Value} (h : VRs i a a') : VR i (.tuple ⟨a⟩) (.tuple ⟨a'⟩)
inductive VRs (i : Io) : List Value → List Value → Prop
 | nil : VRs i [] []
 | cons {v v' : Value} {l l' : List Value} (h : VR i v v') (h' : VRs i l l') : VRs i (v :: l) (v' :: l')
end
structure Le (i j : Io) : Prop where
 f : ∀ b x, i b = some x → j b = some x
 lim : ∀ b x, i b = some x → j.lim b = i.lim b
instance {i j : Io} : CoeFun (Le i j) (fun _ => ∀ b x, i b = some x → j b = some x) := ⟨Le.f⟩
theorem Le.refl (i : Io) : Le i i := ⟨fun _ _ h => h, fun _ _ _ => rfl⟩
theorem Le.trans {i j k : Io} (h : Le i j) (h' : Le j k) : Le i k := ⟨fun b x e => h' b x (h b x e), fun b x e => (h'.lim b x (h b x e)).trans (h.lim b x e)⟩
mutual
theorem VR.mono {i j : Io} (hle : Le i j) : ∀ {v v' : Value}, VR i v v' → VR j v v'
 | _, _, .bool b => .bool b
 | _, _, .int k n => .int k n
 | _, _, .float k n => .float k n
 | _, _, .string s => .string s
 | _, _, .nilp => .nilp
 | _, _, .ptr h => .ptr (hle _ _ h)
 | _, _, .nils h => .nils h
 | _, _, .slice h a b c d e => .slice (hle _ _ h) a b c d (by rw [hle.lim _ _ h]; exact e)
 | _, _, .nilm => .nilm
 | _, _, .map h => .map (hle _ _ h)
 | _, _, .nilFunc => .nilFunc
 | _, _, .nilIface => .nilIface
 | _, _, .func f h h' => .func f (VRs.mono hle h) (VRs.mono hle h')
 | _, _, .iface t h => .iface t (VR.mono hle h)
 | _, _, .agg h => .agg (VRs.mono hle h)
 | _, _, .tuple h => .tuple (VRs.mono hle h)
theorem VRs.mono {i j : Io} (hle : Le i j) : ∀ {l l' : List Value}, VRs i l l' → VRs j l l'
 | _, _, .nil => .nil
 | _, _, .cons h h' => .cons (VR.mono hle h) (VRs.mono hle h')
end
theorem VRs.length {i : Io} : ∀ {l l' : List Value}, VRs i l l' → l.length = l'.length
 | _, _, .nil => rfl
 | _, _, .cons _ h' => by simp [h'.length]
theorem VRs.get {i : Io} : ∀ {l l' : List Value}, VRs i l l' → ∀ {k : Nat} {v : Value}, l[k]? = some v → ∃ v', l'[k]? = some v' ∧ VR i v v'
 | _, _, .nil, k, v, h => by simp at h
 | _, _, .cons h1 h', k, v, h => by
  cases k with
  | zero => simp at h; subst h; exact ⟨_, rfl, h1⟩
  | succ k => simp at h; simpa using h'.get h
theorem VRs.append {i : Io} : ∀ {l l' : List Value}, VRs i l l' → ∀ {m m' : List Value}, VRs i m m' → VRs i (l ++ m) (l' ++ m')
 | _, _, .nil, _, _, h => h
 | _, _, .cons a b, _, _, h => .cons a (b.append h)
theorem VRs.take {i : Io} : ∀ {l l' : List Value}, VRs i l l' → ∀ n, VRs i (l.take n) (l'.take n)
 | _, _, .nil, n => by simpa using VRs.nil
 | _, _, .cons a b, n => by
  cases n with
  | zero => exact .nil
  | succ n => exact .cons a (b.take n)
theorem VRs.drop {i : Io} : ∀ {l l' : List Value}, VRs i l l' → ∀ n, VRs i (l.drop n) (l'.drop n)
 | _, _, .nil, n => by simpa using VRs.nil
 | _, _, .cons a b, n => by
  cases n with
  | zero => exact .cons a b
  | succ n => exact b.drop n
theorem VRs.of_get {i : Io} : ∀ {l l' : List Value}, l.length = l'.length → (∀ (k : Nat) (v : Value), l[k]? = some v → ∃ v' : Value, l'[k]? = some v' ∧ VR i v v') → VRs i l l'
 | [], [], _, _ => .nil
 | [], _ :: _, h, _ => by simp at h
 | _ :: _, [], h, _ => by simp at h
 | v :: l, v' :: l', h, hg => by
  obtain ⟨u, hu, hr⟩ := hg 0 v rfl
  simp at hu
  subst hu
  exact .cons hr (VRs.of_get (by simpa using h) (fun k x hk => by simpa using hg (k + 1) x (by simpa using hk)))
theorem VR.cells {i : Io} : ∀ {v v' : Value}, VR i v v' → VRs i v.cells.toList v'.cells.toList
 | _, _, .agg h => h
 | _, _, .bool b => .cons (.bool b) .nil
 | _, _, .int k n => .cons (.int k n) .nil
 | _, _, .float k n => .cons (.float k n) .nil
 | _, _, .string s => .cons (.string s) .nil
 | _, _, .nilp => .cons .nilp .nil
 | _, _, .ptr h => .cons (.ptr h) .nil
 | _, _, .nils h => .cons (.nils h) .nil
 | _, _, .slice h a b c d e => .cons (.slice h a b c d e) .nil
 | _, _, .nilm => .cons .nilm .nil
 | _, _, .map h => .cons (.map h) .nil
 | _, _, .nilFunc => .cons .nilFunc .nil
 | _, _, .nilIface => .cons .nilIface .nil
 | _, _, .func f h h' => .cons (.func f h h') .nil
 | _, _, .iface t h => .cons (.iface t h) .nil
 | _, _, .tuple h => .cons (.tuple h) .nil
theorem VR.oneC {i : Io} : ∀ {v v' : Value}, VR i v v' → oneC v' = oneC v := by
 intro v v' h
 cases h <;> rfl
theorem VRs.ones {i : Io} : ∀ {l l' : List Value}, VRs i l l' → ones l' = ones l
 | _, _, .nil => rfl
 | _, _, .cons h h' => by simp only [Go.Ax.ones, h.oneC, h'.ones]
def KD : Value → Value → Prop
 | .int k x, .int l y => k = l ∧ x ≠ y
 | .string x, .string y => x ≠ y
 | .bool x, .bool y => x ≠ y
 | _, _ => False
inductive MR (i : Io) : List (Value × Value) → List MapEntry → Prop
 | nil : MR i [] []
 | cons {k v : Value} {e : MapEntry} {l : List (Value × Value)} {m : List MapEntry} (h : e.key = k) (h1 : VR i v e.val) (h' : MR i l m) : MR i ((k, v) :: l) (e :: m)
def Bn (m : List MapEntry) (clk : Nat) : Prop := (∀ x ∈ m, x.born < clk) ∧ (m.map (·.born)).Nodup
theorem Bn.nil (clk : Nat) : Bn [] clk := ⟨fun _ h => (by cases h), List.Pairwise.nil⟩
def OR (i : Io) : AObj → Option Obj → Nat → Prop
 | .cells c n z, o, t => ∃ cs e fr, o = some (.cells cs e fr) ∧ t + n ≤ cs.size ∧ (fr.1 = fr.2 ∨ (z % 2 = 1 ∧ cs.size ≤ fr.1)) ∧ (∀ k v, k < n → c.get k = some v → ∃ v', cs[t + k]? = some v' ∧ VR i v v') ∧ (ze z ≠ 0 → e + 1 = ze z ∧ (zs z = 0 → t = 0))
 | .ro c n, o, t => ∃ cs e fr, o = some (.cells cs e fr) ∧ t + n ≤ cs.size ∧ ∀ k v, k < n → c.get k = some v → ∃ v', cs[t + k]? = some v' ∧ VR i v v'
 | .map es, o, t => t = 0 ∧ ∃ es' clk l, o = some (.map es' clk) ∧ l.Perm es'.toList ∧ MR i es l ∧ es.Pairwise (fun a b => KD a.1 b.1) ∧ Bn es'.toList clk
 | .iter s p, o, t => t = 0 ∧ o = some (.stringIter s p)
 | .dead, _, _ => True
 | .far, _, _ => True
theorem MR.mono {i j : Io} (hle : Le i j) : ∀ {l : List (Value × Value)} {m : List MapEntry}, MR i l m → MR j l m
 | _, _, .nil => .nil
 | _, _, .cons h h1 h' => .cons h (h1.mono hle) (h'.mono hle)
theorem OR.mono {i j : Io} (hle : Le i j) {o : AObj} {x : Option Obj} {t : Nat} (h : OR i o x t) : OR j o x t := by
 cases o with
 | cells c n z =>
  obtain ⟨cs, e, fr, h1, h2, h3, h4, h5⟩ := h
  exact ⟨cs, e, fr, h1, h2, h3, fun k v hk hv => let ⟨v', a, b⟩ := h4 k v hk hv; ⟨v', a, b.mono hle⟩, h5⟩
 | ro c n =>
  obtain ⟨cs, e, fr, h1, h2, h4⟩ := h
  exact ⟨cs, e, fr, h1, h2, fun k v hk hv => let ⟨v', a, b⟩ := h4 k v hk hv; ⟨v', a, b.mono hle⟩⟩
 | map es =>
  obtain ⟨h0, es', clk, l, h1, h2, h3, h4⟩ := h
  exact ⟨h0, es', clk, l, h1, h2, h3.mono hle, h4⟩
 | iter s p => exact h
 | dead => trivial
 | far => trivial
def alive : AObj → Bool
 | .dead | .far => false
 | _ => true
def fixed : AObj → Bool
 | .ro _ _ | .far => true
 | _ => false
noncomputable def obA (s : AS) (b : Nat) : AObj := (s.h.get b).getD .far
theorem obA_some {s : AS} {b : Nat} {o : AObj} (h : s.h.get b = some o) : obA s b = o := by simp [obA, h]
structure Rel (i : Io) (s : AS) (w : World) : Prop where
 obj : ∀ b o, s.h.get b = some o → alive o = true → ∃ q t, i b = some (q, t) ∧ OR i o w.heap[q]? t
 inj : ∀ b b' o o' q t t', s.h.get b = some o → s.h.get b' = some o' → alive o = true → alive o' = true → i b = some (q, t) → i b' = some (q, t') → b = b'
 fresh : ∀ b, s.nx ≤ b → i b = none ∧ s.h.get b = none
 lim : ∀ b c n z q t, s.h.get b = some (.cells c n z) → i b = some (q, t) → (i.lim b).1 = zs z ∧ ∀ cs e fr, w.heap[q]? = some (.cells cs e fr) → (i.lim b).2 ≤ cs.size
 dom : ∀ b q t, i b = some (q, t) → s.h.get b ≠ none ∨ 1000 ≤ b → q < w.heap.size
theorem obA_same {s s' : AS} {b : Nat} (h : s'.h.get b = s.h.get b) : obA s' b = obA s b := by unfold obA; rw [h]
structure Fr (i : Io) (s : AS) (w : World) (i' : Io) (s' : AS) (w' : World) : Prop where
 le : Le i i'
 new : ∀ b q t, i' b = some (q, t) → i b = some (q, t) ∨ w.heap.size ≤ q ∨ ∃ b0 t0, i b0 = some (q, t0) ∧ fixed (obA s b0) = false
 os : w'.os = w.os
 tape : w'.tape = w.tape
 output : w'.output = w.output
 size : w.heap.size ≤ w'.heap.size
 keep : ∀ q, q < w.heap.size → (∀ b t, i b = some (q, t) → fixed (obA s b) = true) → w'.heap[q]? = w.heap[q]?
 ro : ∀ b x, i b = some x → fixed (obA s b) = true → s'.h.get b = s.h.get b
 nx : s.nx ≤ s'.nx
 dom : ∀ b, b < s.nx → i b = none → i' b = none
 gone : ∀ b, b < s.nx → i b = none → s.h.get b = none → s'.h.get b = none
 stay : ∀ b, s.h.get b ≠ none → s'.h.get b ≠ none
theorem Fr.refl (i : Io) (s : AS) (w : World) : Fr i s w i s w :=
 ⟨.refl i, fun _ _ _ h => .inl h, rfl, rfl, rfl, Nat.le_refl _, fun _ _ _ => rfl, fun _ _ _ _ => rfl, Nat.le_refl _, fun _ _ h => h, fun _ _ _ h => h, fun _ h => h⟩
theorem Fr.trans {i j k : Io} {s s1 s2 : AS} {w w1 w2 : World} (h : Fr i s w j s1 w1) (h' : Fr j s1 w1 k s2 w2) : Fr i s w k s2 w2 where
 le := h.le.trans h'.le
 new := by
  intro b q t e
  rcases h'.new b q t e with e1 | e1 | ⟨b0, t0, e1, e2⟩
  ·exact h.new b q t e1
  ·exact .inr (.inl (Nat.le_trans h.size e1))
  ·rcases h.new b0 q t0 e1 with f1 | f1 | f1
   ·refine .inr (.inr ⟨b0, t0, f1, ?_⟩)
    cases hf : fixed (obA s b0) with
    | false => rfl
    | true => rw [obA_same (h.ro b0 _ f1 hf), hf] at e2; cases e2
   ·exact .inr (.inl f1)
   ·exact .inr (.inr f1)
 os := h'.os.trans h.os
 tape := h'.tape.trans h.tape
 output := h'.output.trans h.output
 size := Nat.le_trans h.size h'.size
 keep := by
  intro q hq hn
  rw [h'.keep q (Nat.lt_of_lt_of_le hq h.size) ?_, h.keep q hq hn]
  intro b t e
  rcases h.new b q t e with f | f | ⟨b0, t0, f1, f2⟩
  ·have hf := hn b t f
   rw [obA_same (h.ro b _ f hf)]
   exact hf
  ·omega
  ·rw [hn b0 t0 f1] at f2; cases f2
 ro := fun b x e hf => by
  have h1 := h.ro b x e hf
  rw [h'.ro b x (h.le _ _ e) (by rw [obA_same h1]; exact hf), h1]
 nx := Nat.le_trans h.nx h'.nx
 dom := fun b hb e => h'.dom b (Nat.lt_of_lt_of_le hb h.nx) (h.dom b hb e)
 gone := fun b hb e g => h'.gone b (Nat.lt_of_lt_of_le hb h.nx) (h.dom b hb e) (h.gone b hb e g)
 stay := fun b g => h'.stay b (h.stay b g)
def Gl (i : Io) : Prop := ∀ g, g < 1000 → i g = some (g, 0)
theorem Gl.mono {i j : Io} (h : Gl i) (hle : Le i j) : Gl j := fun g hg => hle _ _ (h g hg)
end Go.Ax
/- The abstract machine's memory and the model's: what a load reads, what a store and a new block leave. -/
namespace Go.Ax
open Go
def setB (w : World) (q : Nat) (o : Obj) : World := { w with heap := w.heap.setIfInBounds q o }
def addB (w : World) (o : Obj) : World := { w with heap := w.heap.push o }
theorem setB_same {w : World} {q : Nat} {o x : Obj} (h : w.heap[q]? = some x) : (setB w q o).heap[q]? = some o := by
 have : q < w.heap.size := by
  rcases Nat.lt_or_ge q w.heap.size with h' | h'
  ·exact h'
  ·rw [Array.getElem?_eq_none h'] at h; cases h
 simp [setB, Array.getElem?_setIfInBounds, this]
theorem setB_ne {w : World} {q k : Nat} {o : Obj} (h : k ≠ q) : (setB w q o).heap[k]? = w.heap[k]? := by
 simp [setB, Array.getElem?_setIfInBounds, Ne.symm h]
theorem setB_size (w : World) (q : Nat) (o : Obj) : (setB w q o).heap.size = w.heap.size := by simp [setB]
theorem addB_new (w : World) (o : Obj) : (addB w o).heap[w.heap.size]? = some o := by
 show (w.heap.push o)[w.heap.size]? = _
 simp
theorem addB_old {w : World} {k : Nat} {o : Obj} (h : k < w.heap.size) : (addB w o).heap[k]? = w.heap[k]? := by
 show (w.heap.push o)[k]? = _
 rw [Array.getElem?_push, if_neg (by omega)]
theorem addB_size (w : World) (o : Obj) : (addB w o).heap.size = w.heap.size + 1 := by
 show (w.heap.push o).size = _
 simp
theorem lt_of_some {w : World} {k : Nat} {o : Obj} (h : w.heap[k]? = some o) : k < w.heap.size := by
 rcases Nat.lt_or_ge k w.heap.size with h' | h'
 ·exact h'
 ·rw [Array.getElem?_eq_none h'] at h; cases h
theorem ones_spec : ∀ {l : List Value}, ones l = true → ∀ v ∈ l, v.oneCell' = true
 | [], _, v, hv => by cases hv
 | a :: l, h, v, hv => by
  simp only [ones, Bool.and_eq_true] at h
  cases hv with
  | head => cases a <;> first | rfl | simp [oneC] at h
  | tail _ hv => exact ones_spec h.2 v hv
theorem add_none (q p n : Nat) : (⟨q, p, none⟩ : Addr).add n = ⟨q, p + n, none⟩ := by
 unfold Addr.add
 split
 ·rename_i h; subst h; rfl
 ·rfl
theorem cell_of {w : World} {q k : Nat} {cs : Array Value} {e : TypeId} {fr : Nat × Nat} (h : w.heap[q]? = some (.cells cs e fr)) : w.cell? ⟨q, k, none⟩ = cs[k]? := by
 simp [World.cell?, h]
theorem frozen_of {w : World} {q k : Nat} {cs : Array Value} {e : TypeId} {fr : Nat × Nat} (h : w.heap[q]? = some (.cells cs e fr)) (hk : k < cs.size) (hf : fr.2 ≤ fr.1 ∨ cs.size ≤ fr.1) : w.frozen? ⟨q, k, none⟩ = false := by
 obtain ⟨lo, hi⟩ := fr
 simp only [World.frozen?, h]
 simp only at hf
 simp only [Bool.and_eq_false_iff, decide_eq_false_iff_not]
 omega
theorem setCell_eq {w : World} {q k : Nat} {cs : Array Value} {e : TypeId} {fr : Nat × Nat} {v : Value} (h : w.heap[q]? = some (.cells cs e fr)) : w.setCell ⟨q, k, none⟩ v = setB w q (.cells (cs.setIfInBounds k v) e fr) := by
 have hq := lt_of_some h
 unfold World.setCell setB
 congr 1
 apply Array.ext
 ·simp
 ·intro j h1 h2
  rw [Array.getElem_modify, Array.getElem_setIfInBounds]
  by_cases hj : q = j
  ·subst hj
   have : w.heap[q] = .cells cs e fr := by simpa [Array.getElem?_eq_getElem hq] using h
   rw [if_pos rfl, if_pos rfl, this]
   rfl
  ·rw [if_neg hj, if_neg hj]
theorem setB_setB {w : World} {q : Nat} {a b : Obj} : setB (setB w q a) q b = setB w q b := by
 simp [setB]
theorem run_storeW {P : Program} (q p : Nat) : ∀ (vs : List Value) (i : Nat) (w : World) (cs : Array Value) (e : TypeId) (fr : Nat × Nat), w.heap[q]? = some (.cells cs e fr) → p + i + vs.length ≤ cs.size →
  (fr.2 ≤ fr.1 ∨ cs.size ≤ fr.1) → ones vs = true →
  ∃ cs' : Array Value, (storeCells ⟨q, p, none⟩ vs i).run P w = .ok () (setB w q (.cells cs' e fr)) ∧ cs'.size = cs.size ∧ ∀ k : Nat, cs'[k]? = if p + i ≤ k ∧ k < p + i + vs.length then vs[k - (p + i)]? else cs[k]? := by
 intro vs
 induction vs with
 | nil =>
  intro i w cs e fr h _ _ _
  refine ⟨cs, ?_, rfl, fun k => by simp; omega⟩
  have : setB w q (.cells cs e fr) = w := by
   have hq := lt_of_some h
   unfold setB
   congr 1
   apply Array.ext
   ·simp
   ·intro j h1 h2
    rw [Array.getElem_setIfInBounds]
    by_cases hj : q = j
    ·subst hj; rw [if_pos rfl]; simpa [Array.getElem?_eq_getElem hq] using h.symm
    ·rw [if_neg hj]
  rw [this]
  rfl
 | cons v vs ih =>
  intro i w cs e fr h hl hf ho
  simp only [List.length_cons] at hl
  have ho' : ones vs = true := by simp only [ones, Bool.and_eq_true] at ho; exact ho.2
  have hv : v.oneCell' = true := ones_spec ho v (by simp)
  have hc : w.cell? ⟨q, p + i, none⟩ = some cs[p + i] := by rw [cell_of h, Array.getElem?_eq_getElem (by omega)]
  have hfz := frozen_of (k := p + i) h (by omega) hf
  have h1 : (setB w q (.cells (cs.setIfInBounds (p + i) v) e fr)).heap[q]? = some (.cells (cs.setIfInBounds (p + i) v) e fr) := setB_same h
  obtain ⟨cs', hrun, hsz, hget⟩ := ih (i + 1) _ (cs.setIfInBounds (p + i) v) e fr h1 (by simp; omega) (by simpa using hf) ho'
  refine ⟨cs', ?_, by simpa using hsz, fun k => ?_⟩
  ·rw [storeCells, add_none]
   simp only [Sem.run_bind, run_store _ _ _ _ _ hv, hc, hfz, Bool.false_eq_true, if_false, Result.andThen_ok]
   rw [setCell_eq h, hrun, setB_setB]
  ·rw [hget]
   simp only [List.length_cons]
   by_cases hk : k = p + i
   ·subst hk
    rw [if_neg (by omega), if_pos (by omega)]
    simp [Array.getElem?_setIfInBounds]
    omega
   ·by_cases hk2 : p + (i + 1) ≤ k ∧ k < p + (i + 1) + vs.length
    ·rw [if_pos hk2, if_pos (by omega), show k - (p + i) = (k - (p + (i + 1))) + 1 by omega]
     simp
    ·rw [if_neg hk2, if_neg (by omega)]
     simp [Ne.symm hk]
section
variable {i : Io} {s : AS} {w : World}
theorem Rel.at {P : Program} (h : Rel i s w) {b q t : Nat} {o : AObj} (ho : s.h.get b = some o) (ha : alive o = true) (hi : i b = some (q, t)) : OR i o w.heap[q]? t := by
 obtain ⟨q', t', e, hor⟩ := h.obj b o ho ha
 rw [hi] at e
 cases e
 exact hor
theorem Rel.rd {b o q t : Nat} {v : Value} (h : Rel i s w) (hr : rd s b o = some v) (hi : i b = some (q, t)) : ∃ v', w.cell? ⟨q, t + o, none⟩ = some v' ∧ VR i v v' := by
 unfold Go.Ax.rd at hr
 split at hr
 ·rename_i c m z he
  obtain ⟨cs, e, fr, h1, h2, h3, h4, h5⟩ := h.at (P := default) he rfl hi
  cases hb : Nat.blt o m with
  | false => rw [hb] at hr; cases hr
  | true =>
   rw [hb] at hr
   obtain ⟨v', a, b⟩ := h4 o v (by simpa [Nat.blt_eq] using hb) hr
   exact ⟨v', by rw [cell_of h1]; exact a, b⟩
 ·rename_i c m he
  obtain ⟨cs, e, fr, h1, h2, h4⟩ := h.at (P := default) he rfl hi
  cases hb : Nat.blt o m with
  | false => rw [hb] at hr; cases hr
  | true =>
   rw [hb] at hr
   obtain ⟨v', a, b⟩ := h4 o v (by simpa [Nat.blt_eq] using hb) hr
   exact ⟨v', by rw [cell_of h1]; exact a, b⟩
 ·cases hr
theorem Rel.rdN {P : Program} {b o n q t : Nat} {l : List Value} (h : Rel i s w) (hr : rdN s b o n = some l) (hi : i b = some (q, t)) :
  ∃ l' : List Value, (loadCells ⟨q, t + o, none⟩ n).run P w = .ok l'.toArray w ∧ VRs i l l' ∧ l.length = n := by
 have key : ∀ (c : T Value) (m : Nat), (∃ cs e fr, w.heap[q]? = some (.cells cs e fr) ∧ t + m ≤ cs.size ∧ ∀ k v, k < m → c.get k = some v → ∃ v' : Value, cs[t + k]? = some v' ∧ VR i v v') →
   (bif Nat.ble (o + n) m then c.list n o else none) = some l → ∃ l' : List Value, (loadCells ⟨q, t + o, none⟩ n).run P w = .ok l'.toArray w ∧ VRs i l l' ∧ l.length = n := by
  intro c m ⟨cs, e, fr, h1, h2, h4⟩ hr
  cases hb : Nat.ble (o + n) m with
  | false => rw [hb] at hr; cases hr
  | true =>
   rw [hb] at hr
   have hle : o + n ≤ m := by simpa using hb
   obtain ⟨hl1, hl2⟩ := T.list_some c n o l hr
   let l' : List Value := (List.range n).map fun k => cs.getD (t + o + k) undef
   have hcs : ∀ k, k < n → cs[t + o + k]? = l'[k]? := by
    intro k hk
    simp only [l', List.getElem?_map, List.getElem?_range hk, Option.map_some]
    rw [Array.getD_eq_getD_getElem?]
    have : t + o + k < cs.size := by omega
    simp [Array.getElem?_eq_getElem this]
   refine ⟨l', ?_, ?_, hl1⟩
   ·have := run_loadCells_list (P := P) (w := w) ⟨q, t + o, none⟩ l' (fun j v hj => by
     have hjn : j < n := by
      have := (List.getElem?_eq_some_iff.1 hj).1
      simpa [l'] using this
     rw [add_none, cell_of h1, hcs j hjn, hj])
    simpa [l'] using this
   ·refine VRs.of_get (by simp [l', hl1]) (fun k v hk => ?_)
    have hkn : k < n := by
     have := (List.getElem?_eq_some_iff.1 hk).1
     omega
    have := hl2 k hkn
    rw [hk] at this
    obtain ⟨v', a, b⟩ := h4 (o + k) v (by omega) this
    refine ⟨v', ?_, b⟩
    rw [← hcs k hkn, Nat.add_assoc]
    exact a
 unfold Go.Ax.rdN at hr
 split at hr
 ·rename_i c m z he
  obtain ⟨cs, e, fr, h1, h2, h3, h4, h5⟩ := h.at (P := default) he rfl hi
  exact key c m ⟨cs, e, fr, h1, h2, h4⟩ hr
 ·rename_i c m he
  obtain ⟨cs, e, fr, h1, h2, h4⟩ := h.at (P := default) he rfl hi
  exact key c m ⟨cs, e, fr, h1, h2, h4⟩ hr
 ·cases hr
end
end Go.Ax
/- The abstract machine's memory and the model's: steps that write, make or give up a block. -/
namespace Go.Ax
open Go
def ext (i : Io) (n : Nat) (x : Nat × Nat) (lm : Nat × Nat := (0, 0)) : Io := ⟨fun b => if b = n then some x else i b, fun b => if b = n then lm else i.lim b⟩
theorem ext_same (i : Io) (n : Nat) (x : Nat × Nat) {lm : Nat × Nat} : ext i n x lm n = some x := if_pos rfl
theorem ext_ne {i : Io} {n b : Nat} {x lm : Nat × Nat} (h : b ≠ n) : ext i n x lm b = i b := if_neg h
theorem ext_lim (i : Io) (n : Nat) (x : Nat × Nat) {lm : Nat × Nat} : (ext i n x lm).lim n = lm := if_pos rfl
theorem ext_lim_ne {i : Io} {n b : Nat} {x lm : Nat × Nat} (h : b ≠ n) : (ext i n x lm).lim b = i.lim b := if_neg h
theorem ext_le {i : Io} {n : Nat} {x lm : Nat × Nat} (h : i n = none) : Le i (ext i n x lm) :=
 ⟨fun b y e => by rw [ext_ne (fun hb => by subst hb; rw [h] at e; cases e)]; exact e, fun b y e => by rw [ext_lim_ne (fun hb => by subst hb; rw [h] at e; cases e)]⟩
section
variable {i : Io} {s : AS} {w : World}
theorem Rel.same {w' : World} (h : Rel i s w) (e : w'.heap = w.heap) : Rel i s w' :=
 ⟨fun b o hb ha => by rw [e]; exact h.obj b o hb ha, h.inj, h.fresh, by rw [e]; exact h.lim, by rw [e]; exact h.dom⟩
theorem Fr.same {w' : World} (e : w'.heap = w.heap) (h1 : w'.os = w.os) (h2 : w'.tape = w.tape) (h3 : w'.output = w.output) : Fr i s w i s w' :=
 ⟨.refl i, fun _ _ _ h => .inl h, h1, h2, h3, by rw [e]; exact Nat.le_refl _, fun q _ _ => by rw [e], fun _ _ _ _ => rfl, Nat.le_refl _, fun _ _ h => h, fun _ _ _ h => h, fun _ h => h⟩
theorem Rel.upd {w' : World} {b q t : Nat} {o o' : AObj} (h : Rel i s w) (hb : s.h.get b = some o) (ha : alive o = true) (hro : fixed o = false) (hi : i b = some (q, t))
  (hk : ∀ k, k ≠ q → w'.heap[k]? = w.heap[k]?) (hsz : w'.heap.size = w.heap.size) (h1 : w'.os = w.os) (h2 : w'.tape = w.tape) (h3 : w'.output = w.output)
  (hor : alive o' = true → OR i o' w'.heap[q]? t)
  (hlim : ∀ c n z, o' = .cells c n z → (i.lim b).1 = zs z ∧ ∀ cs e fr, w'.heap[q]? = some (.cells cs e fr) → (i.lim b).2 ≤ cs.size := by intro _ _ _ h; cases h) : Rel i (s.upd b o') w' ∧ Fr i s w i (s.upd b o') w' := by
 have get : ∀ k, (s.upd b o').h.get k = if k = b then some o' else s.h.get k := fun k => T.get_set _ _ _ _
 refine ⟨⟨?_, ?_, ?_, ?_, ?_⟩, ⟨.refl i, fun _ _ _ e => .inl e, h1, h2, h3, Nat.le_of_eq hsz.symm, ?_, ?_, Nat.le_refl _, fun _ _ h => h, ?_, fun k g => by rw [get]; split <;> first | (simp; done) | exact g⟩⟩
 ·intro k x hx hax
  rw [get] at hx
  by_cases hkb : k = b
  ·subst hkb
   rw [if_pos rfl] at hx
   cases hx
   exact ⟨q, t, hi, hor hax⟩
  ·rw [if_neg hkb] at hx
   obtain ⟨q', t', e, hr⟩ := h.obj k x hx hax
   refine ⟨q', t', e, ?_⟩
   have hq : q' ≠ q := fun he => hkb (h.inj k b x o q t' t hx hb hax ha (by rw [e, he]) hi)
   rw [hk q' hq]
   exact hr
 ·intro k k' x x' q1 t1 t2 hx hx' hax hax' e e'
  rw [get] at hx hx'
  by_cases hkb : k = b <;> by_cases hkb' : k' = b
  ·rw [hkb, hkb']
  ·rw [if_neg hkb'] at hx'
   rw [hkb] at e ⊢
   exact h.inj b k' o x' q1 t1 t2 hb hx' ha hax' e e'
  ·rw [if_neg hkb] at hx
   rw [hkb'] at e' ⊢
   exact h.inj k b x o q1 t1 t2 hx hb hax ha e e'
  ·rw [if_neg hkb] at hx
   rw [if_neg hkb'] at hx'
   exact h.inj k k' x x' q1 t1 t2 hx hx' hax hax' e e'
 ·intro k hk'
  have := h.fresh k hk'
  refine ⟨this.1, ?_⟩
  rw [get, if_neg (fun e => by subst e; rw [this.1] at hi; cases hi)]
  exact this.2
 ·intro k c n z q' t' hx e
  rw [get] at hx
  by_cases hkb : k = b
  ·subst hkb
   rw [if_pos rfl] at hx
   cases hx
   rw [hi] at e
   cases e
   exact hlim c n z rfl
  ·rw [if_neg hkb] at hx
   obtain ⟨g1, g2⟩ := h.lim k c n z q' t' hx e
   refine ⟨g1, fun cs e' fr hw => g2 cs e' fr ?_⟩
   have hq : q' ≠ q := fun he => hkb (h.inj k b _ o q t' t hx hb rfl ha (by rw [e, he]) hi)
   rw [← hk q' hq]
   exact hw
 ·intro k q' t' e hx
  rw [get] at hx
  rw [hsz]
  by_cases hkb : k = b
  ·subst hkb; exact h.dom k q' t' e (.inl (by rw [hb]; simp))
  ·rw [if_neg hkb] at hx; exact h.dom k q' t' e hx
 ·intro k hk1 hn
  refine hk k (fun e => ?_)
  subst e
  have := hn b t hi
  rw [obA_some hb, hro] at this
  cases this
 ·intro k x e hf
  unfold obA at hf
  rw [get, if_neg (fun hkb => by subst hkb; rw [hb] at hf; simp only [Option.getD_some, hro] at hf; cases hf)]
 ·intro k _ e g
  rw [get, if_neg (fun hkb => by subst hkb; rw [hb] at g; cases g)]
  exact g
theorem Rel.kill {b : Nat} {c : T Value} {n : Nat} {z : Nat} (h : Rel i s w) (hb : s.h.get b = some (.cells c n z)) : Rel i (s.upd b .dead) w ∧ Fr i s w i (s.upd b .dead) w := by
 obtain ⟨q, t, hi, _⟩ := h.obj b _ hb rfl
 exact h.upd hb rfl rfl hi (fun _ _ => rfl) rfl rfl rfl rfl (fun h => by cases h)
theorem Rel.new {o : AObj} {x : Obj} {lm : Nat × Nat} (h : Rel i s w) (hor : OR (ext i s.nx (w.heap.size, 0) lm) o (some x) 0)
  (hlim : ∀ c n z, o = .cells c n z → lm.1 = zs z ∧ ∀ cs e fr, x = .cells cs e fr → lm.2 ≤ cs.size := by intro _ _ _ h; cases h) :
  Rel (ext i s.nx (w.heap.size, 0) lm) (s.new o) (addB w x) ∧ Fr i s w (ext i s.nx (w.heap.size, 0) lm) (s.new o) (addB w x) := by
 have hnx := h.fresh s.nx (Nat.le_refl _)
 have hle : Le i (ext i s.nx (w.heap.size, 0) lm) := ext_le hnx.1
 have get : ∀ k, (s.new o).h.get k = if k = s.nx then some o else s.h.get k := fun k => T.get_set _ _ _ _
 have hlt : ∀ k y q t, s.h.get k = some y → alive y = true → i k = some (q, t) → q < w.heap.size := by
  intro k y q t hk ha e
  obtain ⟨q', t', e', hr⟩ := h.obj k y hk ha
  rw [e] at e'
  cases e'
  cases y with
  | cells c n z => obtain ⟨cs, e, fr, h1, _⟩ := hr; exact lt_of_some h1
  | ro c n => obtain ⟨cs, e, fr, h1, _⟩ := hr; exact lt_of_some h1
  | map es => obtain ⟨_, es', clk, l, h1, _⟩ := hr; exact lt_of_some h1
  | iter a p => obtain ⟨_, h1⟩ := hr; exact lt_of_some h1
  | dead => cases ha
  | far => cases ha
 refine ⟨⟨?_, ?_, ?_, ?_, ?_⟩, ⟨hle, ?_, rfl, rfl, rfl, by rw [addB_size]; omega, ?_, ?_, Nat.le_succ _, fun k hk e => by rw [ext_ne (by omega)]; exact e, fun k hk _ e => by rw [get, if_neg (by omega)]; exact e, fun k g => by rw [get]; split <;> first | (simp; done) | exact g⟩⟩
 ·intro k y hk ha
  rw [get] at hk
  by_cases e : k = s.nx
  ·rw [if_pos e] at hk
   cases hk
   subst e
   exact ⟨w.heap.size, 0, ext_same _ _ _, by rw [addB_new]; exact hor⟩
  ·rw [if_neg e] at hk
   obtain ⟨q, t, e', hr⟩ := h.obj k y hk ha
   refine ⟨q, t, by rw [ext_ne e]; exact e', ?_⟩
   rw [addB_old (hlt k y q t hk ha e')]
   exact hr.mono hle
 ·intro k k' y y' q t t' hk hk' ha ha' e e'
  rw [get] at hk hk'
  by_cases f : k = s.nx <;> by_cases f' : k' = s.nx
  ·rw [f, f']
  ·rw [if_neg f'] at hk'
   rw [ext_ne f'] at e'
   rw [f, ext_same] at e
   cases e
   exact absurd (hlt k' y' _ _ hk' ha' e') (Nat.lt_irrefl _)
  ·rw [if_neg f] at hk
   rw [ext_ne f] at e
   rw [f', ext_same] at e'
   cases e'
   exact absurd (hlt k y _ _ hk ha e) (Nat.lt_irrefl _)
  ·rw [if_neg f] at hk
   rw [if_neg f'] at hk'
   rw [ext_ne f] at e
   rw [ext_ne f'] at e'
   exact h.inj k k' y y' q t t' hk hk' ha ha' e e'
 ·intro k hk
  have hk' : s.nx + 1 ≤ k := hk
  have hne : k ≠ s.nx := by omega
  rw [ext_ne hne, get, if_neg hne]
  exact h.fresh k (by omega)
 ·intro k c n z q t hk e
  rw [get] at hk
  by_cases f : k = s.nx
  ·rw [if_pos f] at hk
   cases hk
   rw [f, ext_same] at e
   cases e
   rw [f, ext_lim, addB_new]
   obtain ⟨g1, g2⟩ := hlim c n z rfl
   exact ⟨g1, fun cs e fr hw => g2 cs e fr (Option.some.inj hw)⟩
  ·rw [if_neg f] at hk
   rw [ext_ne f] at e
   rw [ext_lim_ne f, addB_old (hlt k _ q t hk rfl e)]
   exact h.lim k c n z q t hk e
 ·intro k q t e hk
  rw [get] at hk
  rw [addB_size]
  by_cases f : k = s.nx
  ·rw [f, ext_same] at e; cases e; omega
  ·rw [if_neg f] at hk
   rw [ext_ne f] at e
   have := h.dom k q t e hk
   omega
 ·intro k q t e
  by_cases f : k = s.nx
  ·rw [f, ext_same] at e; cases e; exact .inr (.inl (Nat.le_refl _))
  ·rw [ext_ne f] at e; exact .inl e
 ·intro q hq _
  exact addB_old hq
 ·intro k y e _
  rw [get, if_neg (fun f => by rw [f, hnx.1] at e; cases e)]
theorem Rel.grow {w' : World} {b q t p : Nat} {c : T Value} {n : Nat} {z : Nat} {o : AObj} {lm : Nat × Nat} (h : Rel i s w) (hb : s.h.get b = some (.cells c n z)) (hi : i b = some (q, t))
  (hk : ∀ k, k ≠ q → w'.heap[k]? = w.heap[k]?) (hsz : w'.heap.size = w.heap.size) (h1 : w'.os = w.os) (h2 : w'.tape = w.tape) (h3 : w'.output = w.output)
  (hor : OR (ext i s.nx (q, p) lm) o w'.heap[q]? p)
  (hlim : ∀ c n z, o = .cells c n z → lm.1 = zs z ∧ ∀ cs e fr, w'.heap[q]? = some (.cells cs e fr) → lm.2 ≤ cs.size) :
  Rel (ext i s.nx (q, p) lm) ((s.upd b .dead).new o) w' ∧ Fr i s w (ext i s.nx (q, p) lm) ((s.upd b .dead).new o) w' := by
 have hnx := h.fresh s.nx (Nat.le_refl _)
 have hle : Le i (ext i s.nx (q, p) lm) := ext_le hnx.1
 have hbn : b ≠ s.nx := fun e => by rw [e, hnx.2] at hb; cases hb
 have get : ∀ k, ((s.upd b .dead).new o).h.get k = if k = s.nx then some o else if k = b then some .dead else s.h.get k := fun k => by
  show ((s.h.set b .dead).set s.nx o).get k = _
  rw [T.get_set, T.get_set]
 refine ⟨⟨?_, ?_, ?_, ?_, ?_⟩, ⟨hle, ?_, h1, h2, h3, Nat.le_of_eq hsz.symm, ?_, ?_, Nat.le_succ _, fun k hk e => by rw [ext_ne (by omega)]; exact e, ?_, fun k g => by rw [get]; split <;> first | (simp; done) | (split <;> first | (simp; done) | exact g)⟩⟩
 ·intro k y hk' ha
  rw [get] at hk'
  by_cases e : k = s.nx
  ·rw [if_pos e] at hk'
   cases hk'
   subst e
   exact ⟨q, p, ext_same _ _ _, hor⟩
  ·rw [if_neg e] at hk'
   by_cases f : k = b
   ·rw [if_pos f] at hk'; cases hk'; cases ha
   ·rw [if_neg f] at hk'
    obtain ⟨q', t', e', hr⟩ := h.obj k y hk' ha
    have hq : q' ≠ q := fun he => f (h.inj k b y _ q t' t hk' hb ha rfl (by rw [e', he]) hi)
    refine ⟨q', t', by rw [ext_ne e]; exact e', ?_⟩
    rw [hk q' hq]
    exact hr.mono hle
 ·intro k k' y y' q1 t1 t2 hx hx' ha ha' e e'
  rw [get] at hx hx'
  by_cases f : k = s.nx
  ·by_cases f' : k' = s.nx
   ·rw [f, f']
   ·rw [if_neg f'] at hx'
    by_cases g : k' = b
    ·rw [if_pos g] at hx'; cases hx'; cases ha'
    ·rw [if_neg g] at hx'
     rw [ext_ne f'] at e'
     rw [f, ext_same] at e
     cases e
     exact absurd (h.inj k' b y' _ q t2 t hx' hb ha' rfl e' hi) g
  ·rw [if_neg f] at hx
   by_cases g : k = b
   ·rw [if_pos g] at hx; cases hx; cases ha
   ·rw [if_neg g] at hx
    rw [ext_ne f] at e
    by_cases f' : k' = s.nx
    ·rw [f', ext_same] at e'
     cases e'
     exact absurd (h.inj k b y _ q t1 t hx hb ha rfl e hi) g
    ·rw [if_neg f'] at hx'
     by_cases g' : k' = b
     ·rw [if_pos g'] at hx'; cases hx'; cases ha'
     ·rw [if_neg g'] at hx'
      rw [ext_ne f'] at e'
      exact h.inj k k' y y' q1 t1 t2 hx hx' ha ha' e e'
 ·intro k hk'
  have hk2 : s.nx + 1 ≤ k := hk'
  have hne : k ≠ s.nx := by omega
  have hf := h.fresh k (by omega)
  have hkb : k ≠ b := fun e => by rw [e, hi] at hf; cases hf.1
  rw [ext_ne hne, get, if_neg hne, if_neg hkb]
  exact hf
 ·intro k c' n' z' q1 t1 hx e
  rw [get] at hx
  by_cases f : k = s.nx
  ·rw [if_pos f] at hx
   cases hx
   rw [f, ext_same] at e
   cases e
   rw [f, ext_lim]
   exact hlim c' n' z' rfl
  ·rw [if_neg f] at hx
   by_cases g : k = b
   ·rw [if_pos g] at hx; cases hx
   ·rw [if_neg g] at hx
    rw [ext_ne f] at e
    rw [ext_lim_ne f]
    have hq : q1 ≠ q := fun he => g (h.inj k b _ _ q t1 t hx hb rfl rfl (by rw [e, he]) hi)
    rw [hk q1 hq]
    exact h.lim k c' n' z' q1 t1 hx e
 ·intro k q1 t1 e hx
  rw [get] at hx
  rw [hsz]
  by_cases f : k = s.nx
  ·rw [f, ext_same] at e; cases e; exact h.dom b q t hi (.inl (by rw [hb]; simp))
  ·rw [if_neg f] at hx
   rw [ext_ne f] at e
   by_cases g : k = b
   ·subst g; exact h.dom k q1 t1 e (.inl (by rw [hb]; simp))
   ·rw [if_neg g] at hx; exact h.dom k q1 t1 e hx
 ·intro k q1 t1 e
  by_cases f : k = s.nx
  ·rw [f, ext_same] at e; cases e; exact .inr (.inr ⟨b, t, hi, by rw [obA_some hb]; rfl⟩)
  ·rw [ext_ne f] at e; exact .inl e
 ·intro k hk' hn
  refine hk k (fun e => ?_)
  subst e
  have := hn b t hi
  rw [obA_some hb] at this
  cases this
 ·intro k x e hf
  have hkb : k ≠ b := fun f => by rw [f, obA_some hb] at hf; cases hf
  rw [get, if_neg (fun f => by rw [f, hnx.1] at e; cases e), if_neg hkb]
 ·intro k hk' _ g
  have hkb : k ≠ b := fun f => by rw [f, hb] at g; cases g
  rw [get, if_neg (by omega), if_neg hkb]
  exact g
theorem get_fill0 (l : List Value) (k : Nat) (h : k < l.length) : ((T.e : T Value).fill 0 l).get k = l[k]? := by
 rw [T.get_fill, if_pos (by omega)]; rfl
theorem OR.row {j : Io} {l l' : List Value} (hv : VRs j l l') (cs : Array Value) (e : TypeId) (fr : Nat × Nat) (z : Nat) (hze : ze z ≠ 0 → e + 1 = ze z) (hfr : fr.1 = fr.2 ∨ (z % 2 = 1 ∧ cs.size ≤ fr.1)) (p : Nat) (hp : p + l.length ≤ cs.size)
  (hcs : ∀ k, k < l.length → cs[p + k]? = l'[k]?) (hp0 : p = 0 ∨ zs z ≠ 0 := by exact .inl rfl) : OR j (.cells (T.e.fill 0 l) l.length z) (some (.cells cs e fr)) p := by
 refine ⟨cs, e, fr, rfl, hp, hfr, fun k v hk hg => ?_, fun h => ⟨hze h, fun h0 => hp0.resolve_right (fun h1 => h1 h0)⟩⟩
 rw [get_fill0 l k hk] at hg
 obtain ⟨v', a, b⟩ := hv.get hg
 exact ⟨v', by rw [hcs k hk]; exact a, b⟩
theorem Rel.wrN {P : Program} {s' : AS} {b o q t : Nat} {l l' : List Value} (h : Rel i s w) (hw : wrN s b o l = some s') (hi : i b = some (q, t)) (hv : VRs i l l') :
  ∃ w', (storeCells ⟨q, t + o, none⟩ l').run P w = .ok () w' ∧ Rel i s' w' ∧ Fr i s w i s' w' := by
 unfold Go.Ax.wrN at hw
 split at hw
 ·rename_i c m z hb
  cases hc : (Nat.ble (o + l.length) m && ones l) with
  | false => rw [hc] at hw; cases hw
  | true =>
   rw [hc] at hw
   cases hw
   simp only [Bool.and_eq_true] at hc
   have hle : o + l.length ≤ m := by simpa using hc.1
   obtain ⟨cs, e, fr, h1, h2, h3, h4, h5⟩ := h.at (P := P) hb rfl hi
   have hlen := hv.length
   obtain ⟨cs', hrun, hsz, hget⟩ := run_storeW (P := P) q (t + o) l' 0 w cs e fr h1 (by omega) (h3.imp (fun e => Nat.le_of_eq e.symm) (·.2)) (by rw [hv.ones]; exact hc.2)
   refine ⟨_, hrun, ?_⟩
   refine h.upd hb rfl rfl hi (fun k hk => setB_ne hk) (setB_size _ _ _) rfl rfl rfl (fun _ => ?_) (fun c' n' z' hz => ?_)
   case refine_2 =>
    cases hz
    obtain ⟨g1, g2⟩ := h.lim b _ _ _ _ _ hb hi
    refine ⟨g1, fun cs2 e2 fr2 hw => ?_⟩
    rw [setB_same h1] at hw
    cases hw
    rw [hsz]
    exact g2 cs e fr h1
   rw [setB_same h1]
   refine ⟨cs', e, fr, rfl, by omega, by rw [hsz]; exact h3, fun k v hk hg => ?_, h5⟩
   rw [T.get_fill] at hg
   rw [hget]
   by_cases hr : o ≤ k ∧ k < o + l.length
   ·rw [if_pos hr] at hg
    obtain ⟨v', a, b⟩ := hv.get hg
    refine ⟨v', ?_, b⟩
    rw [if_pos (by omega), show t + k - (t + o + 0) = k - o by omega]
    exact a
   ·rw [if_neg hr] at hg
    rw [if_neg (by omega)]
    exact h4 k v hk hg
 ·cases hw
end
end Go.Ax
/- The abstract machine's operations and the model's: each comes to the like. -/
namespace Go.Ax
open Go
structure TyOk (E : Env) : Prop where
 ty : ∀ t ti, E.ty.get t = some ti → ∃ info, E.P.info? t = some info ∧ E.P.underlying t = some ti.desc ∧ info.size = ti.size ∧ info.bytes = ti.bytes ∧
  ∃ zv, info.zero = some zv ∧ zv.cells.toList = ti.zero ∧ (∀ i, VR i zv zv) ∧ (isAggD ti.desc = true → zv = .agg ⟨ti.zero⟩) ∧ (isAggD ti.desc = false → ti.zero = [zv]) ∧ ti.zero.length = ti.size
section
variable {E : Env} {i : Io} {s : AS} {w : World}
theorem run_und (hT : TyOk E) {t : TypeId} {ti : TI} (h : E.ty.get t = some ti) (w : World) : (underlying t).run E.P w = .ok ti.desc w := by
 obtain ⟨info, h1, h2, _⟩ := hT.ty t ti h
 unfold underlying
 simp [h2]
theorem run_info (hT : TyOk E) {t : TypeId} {ti : TI} (h : E.ty.get t = some ti) (w : World) : ∃ info, (typeInfo t).run E.P w = .ok info w ∧ info.size = ti.size ∧ info.bytes = ti.bytes := by
 obtain ⟨info, h1, h2, h3, h4, _⟩ := hT.ty t ti h
 refine ⟨info, ?_, h3, h4⟩
 unfold typeInfo
 simp [h1]
theorem run_size (hT : TyOk E) {t : TypeId} {ti : TI} (h : E.ty.get t = some ti) (w : World) : (sizeOf t).run E.P w = .ok ti.size w := by
 obtain ⟨info, h1, h2, h3⟩ := run_info hT h w
 unfold Go.sizeOf
 simp [h1, h2]
theorem run_isAgg (hT : TyOk E) {t : TypeId} {ti : TI} (h : E.ty.get t = some ti) (w : World) : (isAgg t).run E.P w = .ok (isAggD ti.desc) w := by
 unfold isAgg
 simp only [Sem.run_bind, run_und hT h, Result.andThen_ok]
 cases ti.desc <;> rfl
theorem run_zero (hT : TyOk E) {t : TypeId} {ti : TI} (h : E.ty.get t = some ti) (w : World) : ∃ zv, (zeroValue t).run E.P w = .ok zv w ∧ zv.cells.toList = ti.zero ∧ (∀ i, VR i zv zv) ∧ (isAggD ti.desc = true → zv = .agg ⟨ti.zero⟩) ∧ (isAggD ti.desc = false → ti.zero = [zv]) ∧ ti.zero.length = ti.size := by
 obtain ⟨info, h1, h2, h3, h4, zv, h5, h6⟩ := hT.ty t ti h
 refine ⟨zv, ?_, h6⟩
 unfold zeroValue typeInfo
 simp [h1, h5]
def TR (i : Io) (tm : Tm) (ρ : Operand → Value) : Prop := ∀ x v, ev tm x = some v → VR i v (ρ x)
theorem TR.evs {tm : Tm} {ρ : Operand → Value} (h : TR i tm ρ) : ∀ {l : List Operand} {vs : List Value}, evs tm l = some vs → VRs i vs (l.map ρ)
 | [], vs, e => by simp only [Go.Ax.evs, Option.some.injEq] at e; subst e; exact .nil
 | x :: l, vs, e => by
  simp only [Go.Ax.evs] at e
  cases h1 : ev tm x with
  | none => rw [h1] at e; cases e
  | some v =>
   rw [h1] at e
   cases h2 : Go.Ax.evs tm l with
   | none => rw [h2] at e; cases e
   | some us => rw [h2] at e; cases e; exact .cons (h x v h1) (h.evs h2)
def Sim (E : Env) (i : Io) (s : AS) (w : World) (m : Sem Value) (v : Value) (s' : AS) : Prop :=
 ∃ v' w' i', m.run E.P w = .ok v' w' ∧ VR i' v v' ∧ Rel i' s' w' ∧ Fr i s w i' s' w'
def SimU (E : Env) (i : Io) (s : AS) (w : World) (m : Sem Unit) (s' : AS) : Prop :=
 ∃ w' i', m.run E.P w = .ok () w' ∧ Rel i' s' w' ∧ Fr i s w i' s' w'
def SimN (E : Env) (i : Io) (s : AS) (w : World) (m : Sem Next) (v : Value) (s' : AS) : Prop :=
 ∃ w' i', Rel i' s' w' ∧ Fr i s w i' s' w' ∧ ((∃ v', m.run E.P w = .ok (.value v') w' ∧ VR i' v v') ∨ (m.run E.P w = .ok .skip w' ∧ v = undef))
theorem Sim.ofPure (h : Rel i s w) {m : Sem Value} {v v' : Value} (hr : m.run E.P w = .ok v' w) (hv : VR i v v') : Sim E i s w m v s :=
 ⟨v', w, i, hr, hv, h, .refl i s w⟩
theorem Sim.next {m : Sem Value} {v : Value} {s' : AS} (h : Sim E i s w m v s') : SimN E i s w (do let v ← m; Pure.pure (Next.value v)) v s' := by
 obtain ⟨v', w', i', h1, h2, h3, h4⟩ := h
 exact ⟨w', i', h3, h4, .inl ⟨v', by simp [h1], h2⟩⟩
theorem SimU.next {m : Sem Unit} {s' : AS} (h : SimU E i s w m s') : SimN E i s w (do m; Pure.pure Next.skip) undef s' := by
 obtain ⟨w', i', h1, h3, h4⟩ := h
 exact ⟨w', i', h3, h4, .inr ⟨by simp [h1], rfl⟩⟩
theorem VR.undef (i : Io) : VR i undef undef := .tuple .nil
theorem Rel.rowz (h : Rel i s w) {l l' : List Value} (hv : VRs i l l') (z : Nat) (cs : Array Value) (e : TypeId) (hze : ze z ≠ 0 → e + 1 = ze z) (fr : Nat × Nat) (hfr : fr.1 = fr.2 ∨ (z % 2 = 1 ∧ cs.size ≤ fr.1)) (hp : l.length ≤ cs.size) (hcs : ∀ k, k < l.length → cs[k]? = l'[k]?) (lm : Nat × Nat) (hlm : lm.1 = zs z ∧ lm.2 ≤ cs.size) :
  Rel (ext i s.nx (w.heap.size, 0) lm) (s.rowz z l) (addB w (.cells cs e fr)) ∧ Fr i s w (ext i s.nx (w.heap.size, 0) lm) (s.rowz z l) (addB w (.cells cs e fr)) ∧ Le i (ext i s.nx (w.heap.size, 0) lm) := by
 have hle : Le i (ext i s.nx (w.heap.size, 0) lm) := ext_le (h.fresh s.nx (Nat.le_refl _)).1
 obtain ⟨h2, h3⟩ := h.new (o := .cells (T.e.fill 0 l) l.length z) (x := .cells cs e fr) (OR.row (hv.mono hle) _ _ _ z hze hfr 0 (by simpa using hp) (fun k hk => by simpa using hcs k hk)) (fun _ _ _ h => by cases h; exact ⟨hlm.1, fun _ _ _ h => by cases h; exact hlm.2⟩)
 exact ⟨h2, h3, hle⟩
theorem Sim.rowz (h : Rel i s w) {l l' : List Value} (hv : VRs i l l') {m : Sem Value} (e : TypeId) (z : Nat) (hze : ze z ≠ 0 → e + 1 = ze z) (hzs : zs z = 0) {w1 : World} (hw1 : w1.heap = w.heap) (ho : w1.os = w.os) (ht : w1.tape = w.tape) (hp : w1.output = w.output)
  (hr : m.run E.P w = .ok (.pointer (some ⟨w.heap.size, 0, none⟩)) (addB w1 (.cells l'.toArray e (0, 0)))) : Sim E i s w m (.pointer (some ⟨s.nx, 0, none⟩)) (s.rowz z l) := by
 have h1 : Rel i s w1 := h.same hw1
 have hle : Le i (ext i s.nx (w1.heap.size, 0)) := ext_le (h.fresh s.nx (Nat.le_refl _)).1
 obtain ⟨h2, h3⟩ := h1.new (o := .cells (T.e.fill 0 l) l.length z) (x := .cells l'.toArray e (0, 0)) (OR.row (hv.mono hle) _ _ _ z hze (.inl rfl) 0 (by simp [hv.length]) (fun k _ => by simp)) (fun _ _ _ h => by cases h; exact ⟨hzs.symm, fun _ _ _ _ => Nat.zero_le _⟩)
 refine ⟨_, _, _, hr, ?_, h2, (Fr.same hw1 ho ht hp).trans h3⟩
 have : (⟨w.heap.size, 0, none⟩ : Addr) = ⟨w1.heap.size, 0 + 0, none⟩ := by rw [hw1]
 rw [this]
 exact .ptr (ext_same _ _ _)
theorem hMove_sim (x : Operand) {tm : Tm} {ρ : Operand → Value} (hR : Rel i s w) (hρ : TR i tm ρ) {v : Value} {s' : AS} (h : hMove x E tm s = some (v, s')) :
  SimN E i s w (Pure.pure (.value (ρ x))) v s' := by
 unfold hMove at h
 split at h
 ·rename_i u hu
  cases h
  exact ⟨w, i, hR, .refl _ _ _, .inl ⟨_, rfl, hρ x _ hu⟩⟩
 ·cases h
theorem hPick_sim (c a b : Operand) {tm : Tm} {ρ : Operand → Value} (hR : Rel i s w) (hρ : TR i tm ρ) {v : Value} {s' : AS} (h : hPick c a b E tm s = some (v, s')) :
  SimN E i s w (do Pure.pure (Next.value (if ← asBool (ρ c) then ρ a else ρ b))) v s' := by
 unfold hPick at h
 split at h
 ·rename_i t ht
  have hc := hρ c _ ht
  generalize hg : ρ c = y at hc
  cases hc
  split at h
  ·rename_i u hu
   cases h
   cases t with
   | true => exact ⟨w, i, hR, .refl _ _ _, .inl ⟨ρ a, by simp [asBool], hρ a _ (by simpa using hu)⟩⟩
   | false => exact ⟨w, i, hR, .refl _ _ _, .inl ⟨ρ b, by simp [asBool], hρ b _ (by simpa using hu)⟩⟩
  ·cases h
 ·cases h
theorem hAlloc_sim (hT : TyOk E) (t : TypeId) {tm : Tm} (hR : Rel i s w) {v : Value} {s' : AS} (h : hAlloc t E tm s = some (v, s')) :
  Sim E i s w (Instr.alloc t true (.tuple #[])) v s' := by
 unfold hAlloc at h
 split at h
 ·rename_i ti ht
  cases h
  obtain ⟨zv, h1, h2, h3, _⟩ := run_zero hT ht w
  refine Sim.rowz hR (l' := zv.cells.toList) (by rw [← h2]; exact (h3 i).cells) t (tz 0 t) (fun _ => (tz_ze (by omega)).symm) (tz_zs (by omega)) (w1 := w) rfl rfl rfl rfl ?_
  unfold Instr.alloc newVar newRow
  simp [h1, addB]
 ·cases h
theorem hBox_sim (t : TypeId) (x : Operand) {tm : Tm} {ρ : Operand → Value} (hR : Rel i s w) (hρ : TR i tm ρ) {v : Value} {s' : AS} (h : hBox t x E tm s = some (v, s')) :
  Sim E i s w (Instr.box t (ρ x)) v s' := by
 unfold hBox at h
 split at h
 ·rename_i u hu
  cases h
  refine Sim.rowz hR (l' := (ρ x).cells.toList) (hρ x _ hu).cells t (tz 0 t) (fun _ => (tz_ze (by omega)).symm) (tz_zs (by omega)) (w1 := w) rfl rfl rfl rfl ?_
  unfold Instr.box newVar newRow
  simp [addB]
 ·cases h
theorem hLoad_sim (hT : TyOk E) (t : TypeId) (a : Operand) {tm : Tm} {ρ : Operand → Value} (hR : Rel i s w) (hρ : TR i tm ρ) {v : Value} {s' : AS} (h : hLoad t a E tm s = some (v, s')) :
  Sim E i s w (Instr.loadAt t (ρ a)) v s' := by
 unfold hLoad at h
 split at h
 ·rename_i ti p ht hp
  have hc := hρ a _ hp
  generalize hg : ρ a = y at hc
  cases hc with
  | @ptr b o q t' hi =>
   have hA := run_isAgg hT ht w
   have hS := run_size hT ht w
   cases hagg : isAggD ti.desc with
   | true =>
    rw [hagg] at h hA
    simp only [cond_true] at h
    split at h
    ·rename_i l hl
     cases h
     obtain ⟨l', h1, h2, _⟩ := hR.rdN (P := E.P) hl hi
     refine Sim.ofPure hR (v' := .agg l'.toArray) ?_ (.agg h2)
     unfold Instr.loadAt Instr.sureAddr loadVar
     simp [hA, hS, h1]
    ·cases h
   | false =>
    rw [hagg] at h hA
    simp only [cond_false] at h
    split at h
    ·rename_i u hu
     cases h
     obtain ⟨v', h1, h2⟩ := hR.rd hu hi
     refine Sim.ofPure hR (v' := v') ?_ h2
     unfold Instr.loadAt Instr.sureAddr loadVar
     simp [hA, h1]
    ·cases h
 ·cases h
theorem hStore_sim (hT : TyOk E) (t : TypeId) (a x : Operand) {tm : Tm} {ρ : Operand → Value} (hR : Rel i s w) (hρ : TR i tm ρ) {v : Value} {s' : AS} (h : hStore t a x E tm s = some (v, s')) :
  SimU E i s w (Instr.storeAt t (ρ a) (ρ x)) s' ∧ v = undef := by
 unfold hStore at h
 split at h
 ·rename_i ti p u ht hp hu
  have hc := hρ a _ hp
  generalize hg : ρ a = y at hc
  cases hc with
  | @ptr b o q t' hi =>
   have hx := (hρ x _ hu).cells
   have hS := run_size hT ht w
   cases hb : Nat.beq u.cells.toList.length ti.size with
   | false => rw [hb] at h; cases h
   | true =>
    rw [hb] at h
    simp only [cond_true] at h
    split at h
    ·rename_i s1 hs1
     cases h
     obtain ⟨w', h1, h2, h3⟩ := hR.wrN (P := E.P) hs1 hi hx
     refine ⟨⟨w', i, ?_, h2, h3⟩, rfl⟩
     unfold Instr.storeAt Instr.sureAddr storeVar
     have hn : (ρ x).cells.size = ti.size := by
      have := hx.length
      have hb' : u.cells.toList.length = ti.size := by simpa using hb
      simp only [Array.length_toList] at this hb'
      omega
     simp [hS, hn, h1]
    ·cases h
 ·cases h
theorem hNilCheck_sim (o : Oper) (x : Operand) {tm : Tm} {ρ : Operand → Value} (hR : Rel i s w) (hρ : TR i tm ρ) {v : Value} {s' : AS} (ho : o.op = .nilCheck x) (h : hNilCheck x E tm s = some (v, s')) :
  SimN E i s w (execOp ρ o) v s' := by
 unfold hNilCheck at h
 split at h
 ·rename_i p hp
  cases h
  have hc := hρ x _ hp
  generalize hg : ρ x = y at hc
  refine ⟨w, i, hR, .refl _ _ _, .inl ⟨y, ?_, hc⟩⟩
  cases hc
  unfold execOp
  simp [ho, hg]
 ·rename_i f a b hp
  cases h
  have hc := hρ x _ hp
  generalize hg : ρ x = y at hc
  refine ⟨w, i, hR, .refl _ _ _, .inl ⟨y, ?_, hc⟩⟩
  cases hc
  unfold execOp
  simp [ho, hg]
 ·cases h
theorem hIface_sim (hT : TyOk E) (t : TypeId) (x : Operand) {tm : Tm} {ρ : Operand → Value} (hR : Rel i s w) (hρ : TR i tm ρ) {v : Value} {s' : AS} (h : hIface t x E tm s = some (v, s')) :
  Sim E i s w (Instr.makeInterface t (ρ x)) v s' := by
 unfold hIface at h
 split at h
 ·rename_i ti u ht hu
  split at h
  ·cases h
  ·rename_i hd
   cases h
   refine Sim.ofPure hR (v' := .iface t (ρ x)) ?_ (.iface t (hρ x _ hu))
   unfold Instr.makeInterface
   simp only [Sem.run_bind, run_und hT ht, Result.andThen_ok]
   cases hdd : ti.desc <;> first | rfl | exact absurd hdd (hd _)
 ·cases h
theorem hFunc_sim (f : Fn) (a b : Array Operand) {tm : Tm} {ρ : Operand → Value} (hR : Rel i s w) (hρ : TR i tm ρ) {v : Value} {s' : AS} (h : hFunc f a b E tm s = some (v, s')) :
  Sim E i s w (Instr.makeFunc f (a.map ρ) (b.map ρ)) v s' := by
 unfold hFunc at h
 split at h
 ·rename_i l r hl hr
  cases h
  refine Sim.ofPure hR (v' := .func f (a.map ρ) (b.map ρ)) rfl ?_
  have e1 : a.map ρ = ⟨a.toList.map ρ⟩ := by simp [← Array.toList_map]
  have e2 : b.map ρ = ⟨b.toList.map ρ⟩ := by simp [← Array.toList_map]
  rw [e1, e2]
  exact .func f (hρ.evs hl) (hρ.evs hr)
 ·cases h
theorem hExtract_sim (x : Operand) (k : Nat) {tm : Tm} {ρ : Operand → Value} (hR : Rel i s w) (hρ : TR i tm ρ) {v : Value} {s' : AS} (h : hExtract x k E tm s = some (v, s')) :
  Sim E i s w (Instr.extract (ρ x) k) v s' := by
 unfold hExtract at h
 split at h
 ·rename_i vs hvs
  have hc := hρ x _ hvs
  generalize hg : ρ x = y at hc
  cases hc with
  | tuple hh =>
   split at h
   ·rename_i u hu
    cases h
    obtain ⟨v', h1, h2⟩ := hh.get hu
    refine Sim.ofPure hR (v' := v') ?_ h2
    unfold Instr.extract
    simp [h1]
   ·cases h
 ·cases h
end
end Go.Ax
/- The abstract machine's operations and the model's, part 2: addresses, parts, slices, whole numbers. -/
namespace Go.Ax
open Go
theorem natK_eq {α : Type} (n : Nat) (k : Nat → α) : natK n k = k n := by cases n <;> rfl
theorem intK_eq {α : Type} (n : Int) (k : Int → α) : intK n k = k n := by
 cases n <;> simp only [intK, natK_eq]
section
variable {E : Env} {i : Io} {s : AS} {w : World}
theorem hFieldAddr_sim (hT : TyOk E) (t : TypeId) (x : Operand) (f : Nat) {tm : Tm} {ρ : Operand → Value} (hR : Rel i s w) (hρ : TR i tm ρ) {v : Value} {s' : AS} (h : hFieldAddr t x f E tm s = some (v, s')) :
  Sim E i s w (Instr.fieldAt t (ρ x) f) v s' := by
 unfold hFieldAddr at h
 split at h
 ·rename_i ti p ht hp
  have hc := hρ x _ hp
  generalize hg : ρ x = y at hc
  cases hc with
  | @ptr b o q t' hi =>
   split at h
   ·rename_i fs hfs
    split at h
    ·rename_i fd hfd
     split at h
     ·rename_i tj hj
      cases hz : Nat.beq tj.size 0 with
      | true => rw [hz] at h; cases h
      | false =>
       rw [hz] at h
       simp only [cond_false, natK_eq] at h
       cases h
       refine Sim.ofPure hR (v' := .pointer (some ⟨q, t' + (o + fd.offset), none⟩)) ?_ (.ptr hi)
       unfold Instr.fieldAt Instr.sureAddr fieldPlace
       have hne : ¬ tj.size = 0 := fun e => by rw [e] at hz; cases hz
       have hfd' : fs[f]? = some fd := by rw [← Array.getElem?_toList]; exact hfd
       simp [run_und hT ht, run_size hT hj, hfs, hfd', hne, add_none, Nat.add_assoc]
     ·cases h
    ·cases h
   ·cases h
 ·cases h
theorem partA_sim (hT : TyOk E) {t : TypeId} {l l' : List Value} {off : Nat} (hv : VRs i l l') {v : Value} (h : partA E t l off = some v) : ∃ v', (part t l'.toArray off).run E.P w = .ok v' w ∧ VR i v v' := by
 unfold partA at h
 split at h
 ·cases h
 ·rename_i ti ht
  have hA := run_isAgg hT ht w
  have hS := run_size hT ht w
  cases hagg : isAggD ti.desc with
  | true =>
   rw [hagg] at h hA
   simp only [cond_true] at h
   cases hb : Nat.ble (off + ti.size) l.length with
   | false => rw [hb] at h; cases h
   | true =>
    rw [hb] at h
    cases h
    refine ⟨.agg ⟨(l'.drop off).take ti.size⟩, ?_, .agg ((hv.drop off).take ti.size)⟩
    unfold part
    simp only [Sem.run_bind, hA, hS, Result.andThen_ok, if_true, Sem.run_pure]
    congr 2
    apply Array.ext'
    simp [List.take_drop]
  | false =>
   rw [hagg] at h hA
   simp only [cond_false] at h
   obtain ⟨v', h1, h2⟩ := hv.get h
   refine ⟨v', ?_, h2⟩
   unfold part
   simp [hA, h1]
theorem hField_sim (hT : TyOk E) (t : TypeId) (x : Operand) (f : Nat) {tm : Tm} {ρ : Operand → Value} (hR : Rel i s w) (hρ : TR i tm ρ) {v : Value} {s' : AS} (h : hField t x f E tm s = some (v, s')) :
  Sim E i s w (Instr.field t (ρ x) f) v s' := by
 unfold hField at h
 split at h
 ·rename_i ti cs ht hp
  have hc := hρ x _ hp
  generalize hg : ρ x = y at hc
  cases hc with
  | agg hh =>
   split at h
   ·rename_i fs hfs
    split at h
    ·rename_i fd hfd
     split at h
     ·rename_i u hu
      cases h
      obtain ⟨v', h1, h2⟩ := partA_sim (w := w) hT hh hu
      refine Sim.ofPure hR (v' := v') ?_ h2
      unfold Instr.field
      have hfd' : fs[f]? = some fd := by rw [← Array.getElem?_toList]; exact hfd
      simp [run_und hT ht, hfs, hfd', asAgg, h1]
     ·cases h
    ·cases h
   ·cases h
 ·cases h
theorem inR_spec {n : Int} {m : Nat} (h : inR n m = true) : 0 ≤ n ∧ n < (m : Int) ∧ n.toNat < m := by
 cases n with
 | ofNat a =>
  have : a < m := by simpa [inR, Nat.blt_eq] using h
  refine ⟨Int.natCast_nonneg _, ?_, this⟩
  show (a : Int) < m
  omega
 | negSucc a => cases h
theorem hIndexAddr_sim (hT : TyOk E) (t : TypeId) (x y : Operand) {tm : Tm} {ρ : Operand → Value} (hR : Rel i s w) (hρ : TR i tm ρ) {v : Value} {s' : AS} (h : hIndexAddr t x y E tm s = some (v, s')) :
  Sim E i s w (Instr.indexAt t (ρ x) (ρ y)) v s' := by
 unfold hIndexAddr at h
 split at h
 ·rename_i ti u k n ht hu hn
  have hcn := hρ y _ hn
  generalize hgn : ρ y = yn at hcn
  cases hcn
  have hc := hρ x _ hu
  generalize hg : ρ x = y at hc
  have hd := run_und hT ht w
  split at h
  ·rename_i e a m c hdesc
   cases hc with
   | @slice b o q t' _ _ p c' hi h1 h2 h3 h4 =>
    split at h
    ·rename_i tj hj
     cases hin : inR n m with
     | false => rw [hin] at h; cases h
     | true =>
      rw [hin] at h
      simp only [cond_true, natK_eq] at h
      cases h
      obtain ⟨g1, g2, g3⟩ := inR_spec hin
      have hp : p = t' + o := h4.resolve_right (by omega)
      refine Sim.ofPure hR (v' := .pointer (some ⟨q, t' + (o + n.toNat * tj.size), none⟩)) ?_ (.ptr hi)
      unfold Instr.indexAt
      simp [asIntOf, hd, hdesc, g1, g2, run_size hT hj, add_none, hp, Nat.add_assoc]
    ·cases h
  ·rename_i m e a hdesc
   cases hc with
   | @ptr b o q t' hi =>
    split at h
    ·rename_i tj hj
     cases hin : inR n m with
     | false => rw [hin] at h; cases h
     | true =>
      rw [hin] at h
      simp only [cond_true, natK_eq] at h
      cases h
      obtain ⟨g1, g2, g3⟩ := inR_spec hin
      refine Sim.ofPure hR (v' := .pointer (some ⟨q, t' + (o + n.toNat * tj.size), none⟩)) ?_ (.ptr hi)
      unfold Instr.indexAt
      simp [asIntOf, hd, hdesc, g1, g2, run_size hT hj, add_none, Instr.sureAddr, Nat.add_assoc]
    ·cases h
  ·cases h
 ·cases h
theorem hIndex_sim (hT : TyOk E) (t : TypeId) (x y : Operand) {tm : Tm} {ρ : Operand → Value} (hR : Rel i s w) (hρ : TR i tm ρ) {v : Value} {s' : AS} (h : hIndex t x y E tm s = some (v, s')) :
  Sim E i s w (Instr.index t (ρ x) (ρ y)) v s' := by
 unfold hIndex at h
 split at h
 ·rename_i ti u k n ht hu hn
  have hcn := hρ y _ hn
  generalize hgn : ρ y = yn at hcn
  cases hcn
  have hc := hρ x _ hu
  generalize hg : ρ x = y at hc
  have hd := run_und hT ht w
  split at h
  ·rename_i b hdesc
   cases hc
   split at h
   ·rename_i hn0
    split at h
    ·rename_i c hcb
     cases h
     refine Sim.ofPure hR (v' := .int .u8 c.toNat) ?_ (.int _ _)
     unfold Instr.index
     have hb : b[n.toNat]? = some c := by
      obtain ⟨hlt, he⟩ := List.getElem?_eq_some_iff.1 hcb
      have hlt' : n.toNat < b.size := by simpa using hlt
      rw [getElem?_pos b n.toNat hlt']
      exact congrArg some he
     simp [asIntOf, hd, hdesc, hn0, hb]
    ·cases h
   ·cases h
  ·rename_i m e cs hdesc
   cases hc with
   | agg hh =>
    split at h
    ·rename_i tj hj
     cases hin : inR n m with
     | false => rw [hin] at h; cases h
     | true =>
      rw [hin] at h
      simp only [cond_true] at h
      split at h
      ·rename_i u hu
       cases h
       obtain ⟨g1, g2, g3⟩ := inR_spec hin
       obtain ⟨v', h1, h2⟩ := partA_sim (w := w) hT hh hu
       refine Sim.ofPure hR (v' := v') ?_ h2
       unfold Instr.index
       simp [asIntOf, hd, hdesc, g1, g2, run_size hT hj, h1]
      ·cases h
    ·cases h
  ·cases h
 ·cases h
theorem bnd_sim {tm : Tm} {ρ : Operand → Value} (hρ : TR i tm ρ) {d m : Nat} {x : Operand} {r : Nat} (h : bnd tm d m (some x) = some r) (m' : Nat) (hm : m ≤ m') (code : BoundsCode) :
  (Instr.sliceBound (ρ x) m' code).run E.P w = .ok r w ∧ r ≤ m := by
 simp only [bnd] at h
 split at h
 ·rename_i k n hn
  have hc := hρ x _ hn
  generalize hg : ρ x = y at hc
  cases hc
  split at h
  ·rename_i hr
   cases h
   refine ⟨?_, by omega⟩
   unfold Instr.sliceBound
   have : 0 ≤ n ∧ n ≤ (m' : Int) := by omega
   simp [asIntOf, this]
  ·cases h
 ·cases h
theorem bnd_le {tm : Tm} {d m : Nat} {x : Operand} {r : Nat} (h : bnd tm d m (some x) = some r) : r ≤ m := by
 simp only [bnd] at h
 split at h
 ·split at h
  ·cases h; omega
  ·cases h
 ·cases h
theorem bnds_sim {tm : Tm} {ρ : Operand → Value} (hρ : TR i tm ρ) {n c : Nat} {lo hi mx : Option Operand} {l h m : Nat} (hb : bnds tm n c lo hi mx = some (l, h, m)) (c' : Nat) (hc : c ≤ c') (isS : Bool) :
  (Instr.sliceBounds isS n c' (lo.map ρ) (hi.map ρ) (mx.map ρ)).run E.P w = .ok (l, h, if mx.isSome then m else c') w ∧ l ≤ h ∧ h ≤ m ∧ (mx.isSome = false → m = c) := by
 unfold bnds at hb
 cases hmh : (mx.isSome && hi.isNone) with
 | true => rw [hmh] at hb; cases hb
 | false =>
  rw [hmh] at hb
  simp only [cond_false] at hb
  split at hb
  ·cases hb
  ·rename_i m0 hm0
   split at hb
   ·cases hb
   ·rename_i h0 hh0
    cases hle : Nat.ble h0 m0 with
    | false => rw [hle] at hb; cases hb
    | true =>
     rw [hle] at hb
     simp only [cond_true] at hb
     split at hb
     ·cases hb
     ·rename_i l0 hl0
      cases hb
      have hle' : h ≤ m := by simpa using hle
      have hl : l ≤ h := by
       cases lo with
       | none => simp only [bnd, Option.some.injEq] at hl0; omega
       | some x => exact bnd_le hl0
      refine ⟨?_, hl, hle', ?_⟩
      ·unfold Instr.sliceBounds
       cases mx with
       | none =>
        simp only [bnd, Option.some.injEq] at hm0
        subst hm0
        cases hi with
        | none =>
         simp only [bnd, Option.some.injEq] at hh0
         subst hh0
         cases lo with
         | none => simp only [bnd, Option.some.injEq] at hl0; subst hl0; simp
         | some x => simp [(bnd_sim (E := E) (w := w) hρ hl0 n (Nat.le_refl _) _).1]
        | some y =>
         have e1 := (bnd_sim (E := E) (w := w) hρ hh0 c' hc (if isS then .sliceAcap else .sliceAlen)).1
         cases lo with
         | none => simp only [bnd, Option.some.injEq] at hl0; subst hl0; simp [e1]
         | some x => simp [e1, (bnd_sim (E := E) (w := w) hρ hl0 h (Nat.le_refl _) _).1]
       | some z =>
        cases hi with
        | none => simp at hmh
        | some y =>
         have e0 := (bnd_sim (E := E) (w := w) hρ hm0 c' hc (if isS then .slice3Acap else .slice3Alen)).1
         have e1 := (bnd_sim (E := E) (w := w) hρ hh0 m (Nat.le_refl _) .slice3B).1
         cases lo with
         | none => simp only [bnd, Option.some.injEq] at hl0; subst hl0; simp [e0, e1]
         | some x => simp [e0, e1, (bnd_sim (E := E) (w := w) hρ hl0 h (Nat.le_refl _) _).1]
      ·intro hmx
       cases mx with
       | none => simp only [bnd, Option.some.injEq] at hm0; exact hm0.symm
       | some z => cases hmx
theorem hSlice_sim (hT : TyOk E) (t : TypeId) (x : Operand) (lo hi mx : Option Operand) {tm : Tm} {ρ : Operand → Value} (hR : Rel i s w) (hρ : TR i tm ρ) {v : Value} {s' : AS} (h : hSlice t x lo hi mx E tm s = some (v, s')) :
  Sim E i s w (Instr.sliceAt t (ρ x) (lo.map ρ) (hi.map ρ) (mx.map ρ)) v s' := by
 unfold hSlice at h
 split at h
 ·rename_i u hu
  split at h
  ·rename_i r hr
   cases h
   have hc := hρ x _ hu
   generalize hg : ρ x = y at hc
   unfold sliceA at hr
   split at hr
   ·cases hr
   ·rename_i ti ht
    have hd := run_und hT ht w
    split at hr
    ·rename_i b hdesc
     cases hc
     cases mx with
     | some z => cases hr
     | none =>
      simp only at hr
      rw [natK_eq, lenU_eq] at hr
      split at hr
      ·cases hr
      ·rename_i l h m hb
       rw [subU_eq] at hr
       cases hr
       replace hb : bnds tm b.size b.size lo hi none = some (l, h, m) := hb
       have := (bnds_sim (E := E) (w := w) hρ hb b.size (Nat.le_refl _) false).1
       refine Sim.ofPure hR (v' := .string (b.extract l h)) ?_ (.string _)
       unfold Instr.sliceAt Instr.slice
       simp only [Option.map_none] at this
       simp [hd, hdesc, this]
    ·rename_i e a n c hdesc
     split at hr
     ·cases hr
     ·rename_i tj hj
      split at hr
      ·cases hr
      ·rename_i l h m hb
       cases hok : (mx.isSome || Nat.beq (c % 2) 1 || Nat.beq l 0 || unitOk s a tj.size) with
       | false => rw [hok] at hr; cases hr
       | true =>
       rw [hok] at hr
       cases hr
       cases hc with
       | nils hc0 =>
        obtain ⟨g1, g2, g3, g4⟩ := bnds_sim (E := E) (w := w) hρ hb 0 (by omega) true
        have hm : m ≤ c / 2 := by
         cases mx with
         | none => have := g4 rfl; omega
         | some z =>
          unfold bnds at hb
          cases hi with
          | none => simp at hb
          | some y =>
           simp only [Option.isSome_some, Option.isNone_some, Bool.and_false, cond_false] at hb
           split at hb
           ·cases hb
           ·rename_i m0 hm0
            have := bnd_le hm0
            split at hb
            ·cases hb
            ·rename_i h0 _
             cases hle : Nat.ble h0 m0 with
             | false => rw [hle] at hb; cases hb
             | true =>
              rw [hle] at hb
              simp only [cond_true] at hb
              split at hb
              ·cases hb
              ·cases hb; exact this
        have hl0 : l = 0 := by omega
        have hh0 : h = 0 := by omega
        have hm0 : m = 0 := by omega
        subst hl0; subst hh0; subst hm0
        refine Sim.ofPure hR (v' := .slice none 0 0) ?_ ?_
        ·unfold Instr.sliceAt Instr.slice
         simp [hd, hdesc, g1, run_size hT hj]
        ·simp only [Option.map_none, Nat.sub_zero]
         exact .nils (by cases mx <;> simp <;> omega)
       | @slice b o q t' _ _ p c' hib h1 h2 h3 h4 h5 =>
        obtain ⟨g1, g2, g3, g4⟩ := bnds_sim (E := E) (w := w) hρ hb c' h3 true
        cases mx with
        | none =>
         have hm := g4 rfl
         simp only [Option.isSome_none, Bool.false_eq_true, if_false, cond_false, Option.map_some] at g1 ⊢
         refine Sim.ofPure hR (v' := .slice (some (if c' = l then ⟨q, p, none⟩ else ⟨q, p + l * tj.size, none⟩)) (h - l) (c' - l)) ?_ ?_
         ·unfold Instr.sliceAt Instr.slice
          simp only [Option.map_none] at g1
          by_cases hcl : c' = l
          ·subst hcl; simp [hd, hdesc, g1, run_size hT hj]
          ·simp [hd, hdesc, g1, run_size hT hj, hcl, add_none]
         ·by_cases hcl : c' = l
          ·rw [if_pos hcl]
           exact .slice hib (by omega) (by omega) (by omega) (.inr (by omega)) (fun _ h0 => absurd (by omega) h0)
          ·rw [if_neg hcl]
           have hpt := h4.resolve_right (by omega)
           refine .slice hib (by omega) (by omega) (by omega) (.inl (by omega)) (fun hev _ => ?_)
           have hc2 : c % 2 = 0 := by omega
           have hl5 := h5 hc2 (by omega)
           simp only [Option.isSome_none, Bool.false_or, Bool.or_eq_true, Nat.beq_eq] at hok
           rcases hok with (hok | hok) | hok
           ·omega
           ·subst hok; simpa using hl5
           ·unfold unitOk at hok
            simp only at hok
            split at hok
            ·rename_i c1 n1 z1 hbl
             obtain ⟨k1, _⟩ := hR.lim _ _ _ _ _ _ hbl hib
             have hz : zs z1 = tj.size := by simpa using hok
             rw [hz] at k1
             rw [k1] at hl5 ⊢
             have : c' * tj.size = l * tj.size + (c' - l) * tj.size := by rw [← Nat.add_mul]; congr 1; omega
             omega
            ·cases hok
        | some z =>
         simp only [Option.isSome_some, if_true, cond_true, Option.map_some] at g1 ⊢
         refine Sim.ofPure hR (v' := .slice (some (if m = l then ⟨q, p, none⟩ else ⟨q, p + l * tj.size, none⟩)) (h - l) (m - l)) ?_ ?_
         ·unfold Instr.sliceAt Instr.slice
          by_cases hcl : m = l <;> simp [hd, hdesc, g1, run_size hT hj, hcl, add_none]
         ·by_cases hcl : m = l
          ·rw [if_pos hcl]
           exact .slice hib (by omega) (by omega) (by omega) (.inr (by omega)) (fun h0 => by omega)
          ·rw [if_neg hcl]
           have hmc : m ≤ c / 2 := by
            unfold bnds at hb
            cases hi with
            | none => simp at hb
            | some y =>
             simp only [Option.isSome_some, Option.isNone_some, Bool.and_false, cond_false] at hb
             split at hb
             ·cases hb
             ·rename_i m0 hm0
              have := bnd_le hm0
              split at hb
              ·cases hb
              ·rename_i h0 _
               cases hle : Nat.ble h0 m0 with
               | false => rw [hle] at hb; cases hb
               | true =>
                rw [hle] at hb
                simp only [cond_true] at hb
                split at hb
                ·cases hb
                ·cases hb; exact this
           refine .slice hib (by omega) (by omega) (by omega) (.inl ?_) (fun h0 => by omega)
           have := h4.resolve_right (by omega)
           omega
    ·rename_i k e a hdesc
     split at hr
     ·cases hr
     ·rename_i tj hj
      split at hr
      ·cases hr
      ·rename_i l h m hb
       cases hr
       cases hc with
       | @ptr b o q t' hib =>
        obtain ⟨g1, g2, g3, g4⟩ := bnds_sim (E := E) (w := w) hρ hb k (Nat.le_refl _) false
        have hmm : (if mx.isSome = true then m else k) = m := by
         cases mx with
         | none => simp [g4 rfl]
         | some z => simp
        rw [hmm] at g1
        refine Sim.ofPure hR (v' := .slice (some (if m = l then ⟨q, t' + o, none⟩ else ⟨q, t' + o + l * tj.size, none⟩)) (h - l) (m - l)) ?_ ?_
        ·unfold Instr.sliceAt Instr.sureAddr
         by_cases hcl : m = l <;> simp [hd, hdesc, g1, run_size hT hj, hcl, add_none]
        ·by_cases hcl : m = l
         ·rw [if_pos hcl]
          exact .slice hib (by omega) (by omega) (by omega) (.inr (by omega)) (fun h0 => by omega)
         ·rw [if_neg hcl]
          exact .slice hib (by omega) (by omega) (by omega) (.inl (Nat.add_assoc _ _ _)) (fun h0 => by omega)
    ·cases hr
  ·cases h
 ·cases h
end
end Go.Ax
/- The abstract machine's operations and the model's, part 3: arithmetic and comparisons. -/
namespace Go.Ax
open Go
section
variable {E : Env} {i : Io} {s : AS} {w : World}
theorem pureRun_run (P : Program) {α : Type} (m : Sem α) : ∀ (a : α), pureRun P m = some a → ∀ w, m.run P w = .ok a w := by
 induction m with
 | pure x => intro a h w; simp only [pureRun, Option.some.injEq] at h; subst h; rfl
 | program k ih => intro a h w; exact ih P a h w
 | mark m k ih => intro a h w; exact ih a h w
 | _ => intro a h w; simp [pureRun] at h
theorem plain1_eq {v v' : Value} (h : VR i v v') (hp : plain.plain1 v = true) : v' = v := by
 cases h <;> first | rfl | simp [plain.plain1] at hp
theorem plains_eq : ∀ {l l' : List Value}, VRs i l l' → l.all plain.plain1 = true → l' = l
 | _, _, .nil, _ => rfl
 | _, _, .cons h h', hp => by
  simp only [List.all_cons, Bool.and_eq_true] at hp
  rw [plain1_eq h hp.1, plains_eq h' hp.2]
theorem plain_eq {v v' : Value} (h : VR i v v') (hp : plain v = true) : v' = v := by
 cases h with
 | iface t h => rw [plain1_eq h (by simpa [plain] using hp)]
 | agg h => rw [plains_eq h (by simpa [plain] using hp)]
 | _ => first | rfl | simp [plain] at hp
theorem plain1_refl {v : Value} (hp : plain.plain1 v = true) : VR i v v := by
 cases v <;> first | exact .bool _ | exact .int _ _ | exact .float _ _ | exact .string _ | (simp [plain.plain1] at hp)
theorem plains_refl : ∀ {l : List Value}, l.all plain.plain1 = true → VRs i l l
 | [], _ => .nil
 | v :: l, hp => by
  simp only [List.all_cons, Bool.and_eq_true] at hp
  exact .cons (plain1_refl hp.1) (plains_refl hp.2)
theorem plain_refl {v : Value} (hp : plain v = true) : VR i v v := by
 cases v with
 | iface t v => exact .iface t (plain1_refl (by simpa [plain] using hp))
 | agg cs => exact .agg (plains_refl (by simpa [plain] using hp))
 | _ => first | exact .bool _ | exact .int _ _ | exact .float _ _ | exact .string _ | exact .nilFunc | exact .nilIface | (simp [plain] at hp)
theorem imod_eq (n : Int) (m : Nat) (hm : 0 < m) : ((imod n m : Nat) : Int) = n % (m : Int) := by
 cases n with
 | ofNat a => rfl
 | negSucc a =>
  show ((m - 1 - a % m : Nat) : Int) = Int.negSucc a % (m : Int)
  have h := Nat.mod_lt a hm
  rw [Int.negSucc_emod _ (by omega)]
  omega
theorem imod_lt (n : Int) (m : Nat) (hm : 0 < m) : imod n m < m := by
 have h := imod_eq n m hm
 have := Int.emod_lt_of_pos n (show (0 : Int) < m by omega)
 omega
theorem wrU_eq (m : Nat) (hm : 0 < m) (n : Int) : wrU m n = n % (m : Int) := imod_eq n m hm
theorem wrS_eq (m h : Nat) (hm : 0 < m) (n : Int) : wrS m h n = if n % (m : Int) ≥ (h : Int) then n % (m : Int) - m else n % (m : Int) := by
 have e := imod_eq n m hm
 have l := imod_lt n m hm
 unfold wrS
 rw [natK_eq]
 cases hb : Nat.blt (imod n m) h with
 | true =>
  have : imod n m < h := by simpa [Nat.blt_eq] using hb
  rw [if_neg (by omega), ← e]
  rfl
 | false =>
  have : ¬ imod n m < h := fun hh => by rw [show Nat.blt (imod n m) h = true by simpa [Nat.blt_eq] using hh] at hb; cases hb
  rw [if_pos (by omega), ← e]
  show Int.negSucc (m - 1 - imod n m) = _
  omega
theorem wrapA_eq (k : IntKind) (n : Int) : wrapA k n = k.wrap n := by
 cases k
 case i8 => show wrS 256 128 n = _; rw [wrS_eq 256 128 (by decide)]; simp [IntKind.wrap, IntKind.bits, IntKind.signed]
 case i16 => show wrS 65536 32768 n = _; rw [wrS_eq 65536 32768 (by decide)]; simp [IntKind.wrap, IntKind.bits, IntKind.signed]
 case i32 => show wrS 4294967296 2147483648 n = _; rw [wrS_eq 4294967296 2147483648 (by decide)]; simp [IntKind.wrap, IntKind.bits, IntKind.signed]
 case i64 => show wrS 18446744073709551616 9223372036854775808 n = _; rw [wrS_eq 18446744073709551616 9223372036854775808 (by decide)]; simp [IntKind.wrap, IntKind.bits, IntKind.signed]
 case u8 => show wrU 256 n = _; rw [wrU_eq 256 (by decide)]; simp [IntKind.wrap, IntKind.bits, IntKind.signed]
 case u16 => show wrU 65536 n = _; rw [wrU_eq 65536 (by decide)]; simp [IntKind.wrap, IntKind.bits, IntKind.signed]
 case u32 => show wrU 4294967296 n = _; rw [wrU_eq 4294967296 (by decide)]; simp [IntKind.wrap, IntKind.bits, IntKind.signed]
 case u64 => show wrU 18446744073709551616 n = _; rw [wrU_eq 18446744073709551616 (by decide)]; simp [IntKind.wrap, IntKind.bits, IntKind.signed]
theorem modA_eq (k : IntKind) : modA k = 2 ^ k.bits := by cases k <;> rfl
theorem bitsA_eq (k : IntKind) : bitsA k = k.bits := by cases k <;> rfl
theorem intV_eq (k : IntKind) (n : Int) : intV k n = some (.int k (k.wrap n)) := by
 unfold intV
 rw [intK_eq, wrapA_eq]
theorem ieq_eq (a b : Int) : ieq a b = (a == b) := by
 cases a <;> cases b <;> simp only [ieq]
 ·rename_i a b; rw [Bool.eq_iff_iff]; simp; exact ⟨fun h => congrArg Int.ofNat h, fun h => Int.ofNat.inj h⟩
 ·rfl
 ·rfl
 ·rename_i a b; rw [Bool.eq_iff_iff]; simp
theorem ilt_eq (a b : Int) : ilt a b = decide (a < b) := by
 cases a <;> cases b <;> simp only [ilt] <;> rename_i a b <;> rw [Bool.eq_iff_iff] <;> simp [Nat.blt_eq] <;> first | omega | (show a < b ↔ (a : Int) < (b : Int); omega) | skip
theorem kindEq_eq {k k' : IntKind} (h : kindEq k k' = true) : k = k' := by cases k <;> cases k' <;> first | rfl | cases h
theorem imod_bv (k : IntKind) (a : Int) : imod a (modA k) = (BitVec.ofInt k.bits a).toNat := by
 have h := imod_eq a (modA k) (by rw [modA_eq]; exact Nat.two_pow_pos _)
 rw [BitVec.toNat_ofInt, ← modA_eq]
 omega
theorem bv_andNot (n : Nat) (x y : BitVec n) : (x &&& ~~~y).toNat = Nat.land x.toNat (2 ^ n - 1 - y.toNat) := by
 rw [BitVec.toNat_and, BitVec.toNat_not]
 rfl
theorem intBin_sim {op : BinOp} {k : IntKind} {a b : Int} {v : Value} (h : intBin op k a b = some v) (t : TypeId) (w : World) : (binOp op t (.int k a) (.int k b)).run E.P w = .ok v w := by
 cases op
 case add => simp only [intBin, iAr, intV_eq, Option.some.injEq] at h; subst h; simp [binOp, Op.intArith]
 case sub => simp only [intBin, iAr, intV_eq, Option.some.injEq] at h; subst h; simp [binOp, Op.intArith]; rfl
 case mul => simp only [intBin, iAr, intV_eq, Option.some.injEq] at h; subst h; simp [binOp, Op.intArith]
 case quo =>
  simp only [intBin, iQuo, intV_eq] at h
  cases hz : ieq b 0 with
  | true => rw [hz] at h; cases h
  | false =>
   rw [hz] at h
   cases h
   have : ¬ b = 0 := fun e => by rw [ieq_eq, e] at hz; cases hz
   simp [binOp, Op.intDiv, this]
 case rem =>
  simp only [intBin, iRem, intK_eq] at h
  cases hz : ieq b 0 with
  | true => rw [hz] at h; cases h
  | false =>
   rw [hz] at h
   cases h
   have : ¬ b = 0 := fun e => by rw [ieq_eq, e] at hz; cases hz
   simp [binOp, Op.intDiv, this]
 case and => simp only [intBin, bits2, intV_eq, imod_bv, Option.some.injEq] at h; subst h; simp [binOp, Op.intBits]
 case or => simp only [intBin, bits2, intV_eq, imod_bv, Option.some.injEq] at h; subst h; simp [binOp, Op.intBits]
 case xor => simp only [intBin, bits2, intV_eq, imod_bv, Option.some.injEq] at h; subst h; simp [binOp, Op.intBits]
 case andNot =>
  simp only [intBin, iAndNot, bits2, intV_eq, imod_bv, Option.some.injEq] at h
  rw [modA_eq] at h
  subst h
  simp only [binOp, Op.intBits, Sem.run_pure, bv_andNot]
  simp
 case eql => simp only [intBin, iCmp, Option.some.injEq] at h; subst h; simp [binOp, Op.intCmp, ieq_eq]
 case neq => simp only [intBin, iCmp, Option.some.injEq] at h; subst h; simp [binOp, Op.intCmp, ieq_eq, bne]
 case lss => simp only [intBin, iCmp, Option.some.injEq] at h; subst h; simp [binOp, Op.intCmp, ilt_eq]
 case leq => simp only [intBin, iCmp, Option.some.injEq] at h; subst h; simp only [binOp, Op.intCmp, ilt_eq, ne_eq, not_true_eq_false, if_false, Sem.run_pure]; congr 2; rw [Bool.eq_iff_iff]; simp
 case gtr => simp only [intBin, iCmp, Option.some.injEq] at h; subst h; simp [binOp, Op.intCmp, ilt_eq]
 case geq => simp only [intBin, iCmp, Option.some.injEq] at h; subst h; simp only [binOp, Op.intCmp, ilt_eq, ne_eq, not_true_eq_false, if_false, Sem.run_pure]; congr 2; rw [Bool.eq_iff_iff]; simp
 all_goals (simp only [intBin, iNo] at h; cases h)
end
end Go.Ax
/- The abstract machine's operations and the model's, part 4: comparisons, texts, conversions. -/
namespace Go.Ax
open Go
section
variable {E : Env} {i : Io} {s : AS} {w : World}
theorem binII_sim {op : BinOp} {k k' : IntKind} {a b : Int} {v : Value} (h : binII op k a k' b = some v) (t : TypeId) (w : World) : (binOp op t (.int k a) (.int k' b)).run E.P w = .ok v w := by
  have gen : (bif kindEq k k' then intBin op k a b else none) = some v → (binOp op t (.int k a) (.int k' b)).run E.P w = .ok v w := by
    intro hq
    cases hk : kindEq k k' with
    | false => rw [hk] at hq; cases hq
    | true =>
      rw [hk, cond_true] at hq
      obtain rfl := kindEq_eq hk
      exact intBin_sim hq t w
  cases op
  case shl =>
    clear gen
    simp only [binII] at h
    cases b with
    | negSucc n => cases h
    | ofNat n =>
      simp only [shlA, intV_eq, Option.some.injEq, bitsA_eq] at h
      subst h
      have hm : (bif Nat.ble n k.bits then n else k.bits) = min n k.bits := by
        cases hb : Nat.ble n k.bits with
        | true => simp at hb; simp; omega
        | false => have : ¬ n ≤ k.bits := fun hh => by rw [show Nat.ble n k.bits = true by simpa using hh] at hb; cases hb
                   simp; omega
      rw [hm]
      have hn : ¬ ((Int.ofNat n) < 0) := Int.not_lt.2 (Int.natCast_nonneg n)
      simp only [binOp, Op.shift]
      rw [if_neg hn]
      show Result.ok _ _ = Result.ok _ _
      simp
  case shr =>
    clear gen
    simp only [binII] at h
    cases b with
    | negSucc n => cases h
    | ofNat n =>
      simp only [shrA, intK_eq, Option.some.injEq, bitsA_eq] at h
      subst h
      have hm : (bif Nat.ble n k.bits then n else k.bits) = min n k.bits := by
        cases hb : Nat.ble n k.bits with
        | true => simp at hb; simp; omega
        | false => have : ¬ n ≤ k.bits := fun hh => by rw [show Nat.ble n k.bits = true by simpa using hh] at hb; cases hb
                   simp; omega
      rw [hm]
      have hn : ¬ ((Int.ofNat n) < 0) := Int.not_lt.2 (Int.natCast_nonneg n)
      simp only [binOp, Op.shift]
      rw [if_neg hn]
      show Result.ok _ _ = Result.ok _ _
      simp
  all_goals exact gen h
theorem strBin_sim {op : BinOp} {a b : ByteArray} {v : Value} (h : strBin op a b = some v) (t : TypeId) (w : World) : (binOp op t (.string a) (.string b)).run E.P w = .ok v w := by
 cases op
 case add =>
  simp only [strBin, sAdd] at h
  split at h
  ·cases h
  ·rename_i hn
   cases h
   simp only [binOp, Op.stringOp]
   rw [if_neg hn]
   rfl
 all_goals first
  | (simp only [strBin, Option.some.injEq] at h; subst h; simp [binOp, Op.stringOp]; done)
  | (simp only [strBin, sNo] at h; cases h)
theorem eqGuard_other {op : BinOp} {t : TypeId} {ox oy : Operand} {a b : Value} (h1 : a ≠ .nilIface ∨ b ≠ .nilIface) (h2 : (∀ cs, a ≠ .agg cs) ∨ ∀ cs, b ≠ .agg cs) (P : Program) (w : World) :
    (eqGuard op t ox oy a b).run P w = .ok () w := by
  unfold eqGuard
  cases op <;> first
    | rfl
    | (simp only [Bool.not_true, Bool.false_eq_true, if_false]
       split
       · rcases h1 with h | h <;> exact absurd rfl h
       · rcases h2 with h | h <;> exact absurd rfl (h _)
       · rfl)
theorem Rel.live_cells {b q t : Nat} (h : Rel i s w) (hl : live s b = true) (hi : i b = some (q, t)) : ∃ cs e fr, w.heap[q]? = some (.cells cs e fr) ∧ fr.2 ≤ fr.1 := by
 unfold live at hl
 split at hl
 ·rename_i c n z hb
  obtain ⟨cs, e, fr, h1, _, h3, _⟩ := h.at (P := default) hb rfl hi
  have hz : z % 2 = 0 := by simpa using hl
  exact ⟨cs, e, fr, h1, Nat.le_of_eq <| Eq.symm <| h3.resolve_right (fun h => by omega)⟩
 ·cases hl
theorem Rel.live_inj {b b' q t t' : Nat} (h : Rel i s w) (hl : live s b = true) (hl' : live s b' = true) (hi : i b = some (q, t)) (hi' : i b' = some (q, t')) : b = b' := by
 unfold live at hl hl'
 split at hl
 ·rename_i c n z hb
  split at hl'
  ·rename_i c' n' z' hb'
   exact h.inj b b' _ _ q t t' hb hb' rfl rfl hi hi'
  ·cases hl'
 ·cases hl
theorem notFrozen {w : World} {q : Nat} {cs : Array Value} {e : TypeId} {fr : Nat × Nat} (h : w.heap[q]? = some (.cells cs e fr)) (hf : fr.2 ≤ fr.1) (k : Nat) (x : Option Nat) : w.frozen? ⟨q, k, x⟩ = false := by
 obtain ⟨lo, hi⟩ := fr
 simp only [World.frozen?, h]
 simp only at hf
 simp only [Bool.and_eq_false_iff, decide_eq_false_iff_not]
 omega
theorem sameAddr_ne {P : Program} {a b : Addr} {cs cs' : Array Value} {e e' : TypeId} {fr fr' : Nat × Nat} (hne : a.block ≠ b.block) (ha : w.heap[a.block]? = some (.cells cs e fr)) (hb : w.heap[b.block]? = some (.cells cs' e' fr'))
  (hf : fr.2 ≤ fr.1) (hf' : fr'.2 ≤ fr'.1) : (sameAddr a b).run P w = .ok false w := by
 have h1 : ∀ k x, w.frozen? ⟨a.block, k, x⟩ = false := notFrozen ha hf
 have h2 : ∀ k x, w.frozen? ⟨b.block, k, x⟩ = false := notFrozen hb hf'
 have s1 : w.shape? a.block = some (e, cs.size) := by simp [World.shape?, ha]
 have s2 : w.shape? b.block = some (e', cs'.size) := by simp [World.shape?, hb]
 have f1 : w.frozen? a = false := h1 a.off a.spot
 have f2 : w.frozen? b = false := h2 b.off b.spot
 have hbe : (a.block == b.block) = false := by simpa using hne
 have st : ∀ (x : Addr) (n : TypeId × Nat), w.shape? x.block = some n → (∀ k y, w.frozen? ⟨x.block, k, y⟩ = false) → (stringish x).run P w = .ok false w := by
  intro x n hs hfz
  have fx : w.frozen? x = false := hfz x.off x.spot
  unfold stringish
  simp [fx, hs, hfz]
 unfold sameAddr noView viewAt mayBeOne
 simp [hbe, f1, f2, s1, s2, st a _ s1 h1, st b _ s2 h2]
theorem eqD_sim (hT : TyOk E) {t : TypeId} {ti : TI} (ht : E.ty.get t = some ti) {x y x' y' : Value} (hR : Rel i s w) (hx : VR i x x') (hy : VR i y y') {b : Bool} (h : eqD E s ti.desc x y = some b) :
  (Op.equal t x' y').run E.P w = .ok b w := by
 have hd := run_und hT ht w
 have key : (Op.equal t x' y') = Op.equalIn (9999 + 1) t x' y' := rfl
 rw [key, Op.equalIn]
 simp only [Sem.run_bind, hd, Result.andThen_ok]
 unfold eqD at h
 split at h
 ·rename_i hdesc; rw [hdesc]; cases hx; cases hy; cases h; rfl
 ·rename_i hdesc; rw [hdesc]; cases hx; cases h; cases hy <;> rfl
 ·rename_i hdesc; rw [hdesc]; cases hx; cases hy; cases h; rfl
 ·rename_i e a b' hdesc
  rw [hdesc]
  split at h
  ·cases h
  ·rename_i te he
   cases hz : Nat.beq te.size 0 with
   | true => rw [hz] at h; cases h
   | false =>
    rw [hz] at h
    simp only [cond_false] at h
    have hne : te.size ≠ 0 := fun e => by rw [e] at hz; cases hz
    cases hx with
    | @ptr b1 o1 q1 t1 h1 =>
     cases hy with
     | @ptr b2 o2 q2 t2 h2 =>
      simp only [Sem.run_bind, run_size hT he, Result.andThen_ok, hne, ne_eq, not_false_eq_true, if_true]
      cases hb : Nat.beq b1 b2 with
      | true =>
       rw [hb] at h
       have hbe : b1 = b2 := by simpa using hb
       subst hbe
       rw [h1] at h2
       cases h2
       simp only [cond_true, Option.isNone_none, Bool.and_true, Option.some.injEq] at h
       subst h
       unfold sameAddr
       simp only [beq_self_eq_true, if_true, Sem.run_pure]
       congr 1
       rw [Bool.eq_iff_iff]
       simp
      | false =>
       rw [hb] at h
       simp only [cond_false] at h
       cases hl : (live s b1 && live s b2) with
       | false => rw [hl] at h; cases h
       | true =>
        rw [hl] at h
        cases h
        simp only [Bool.and_eq_true] at hl
        obtain ⟨cs, e1, fr, g1, g2⟩ := hR.live_cells hl.1 h1
        obtain ⟨cs', e1', fr', g1', g2'⟩ := hR.live_cells hl.2 h2
        have hq : q1 ≠ q2 := fun e => by
         subst e
         have := hR.live_inj hl.1 hl.2 h1 h2
         subst this
         simp at hb
        exact sameAddr_ne (a := ⟨q1, t1 + o1, none⟩) (b := ⟨q2, t2 + o2, none⟩) hq g1 g1' g2 g2'
 ·rename_i hdesc; rw [hdesc]; cases hx; cases h; cases hy <;> rfl
 ·rename_i hdesc; rw [hdesc]; cases hx; cases hy; cases h; rfl
 ·rename_i hdesc; rw [hdesc]; cases hx; cases h; cases hy <;> rfl
 ·rename_i hdesc; rw [hdesc]; cases hx; cases hy; cases h; rfl
 ·rename_i hdesc; rw [hdesc]; cases hx; cases hy; cases h; rfl
 ·rename_i hdesc; rw [hdesc]; cases hx; cases hy; cases h; rfl
 ·rename_i hdesc; rw [hdesc]; cases hx; cases hy; cases h; rfl
 ·rename_i hdesc; rw [hdesc]; cases hx; cases hy; cases h; rfl
 ·rename_i hdesc; rw [hdesc]; cases hx; cases hy; cases h; rfl
 ·cases h
theorem eqGuard_nil (op : BinOp) (t : TypeId) (x y : Operand) (h : (isConstO x || isConstO y) = true) (P : Program) (w : World) : (eqGuard op t x y .nilIface .nilIface).run P w = .ok () w := by
 unfold eqGuard
 cases op <;> first
  | rfl
  | (cases x <;> cases y <;> first | rfl | (simp [isConstO] at h))
theorem equal_nilI (hT : TyOk E) {t : TypeId} {ms : Array (String × TypeId)} {a b c} (ht : E.ty.get t = some ⟨.interface ms, a, b, c⟩) : (Op.equal t .nilIface .nilIface).run E.P w = .ok true w := by
 have hd := run_und hT ht w
 have key : (Op.equal t .nilIface .nilIface) = Op.equalIn (9999 + 1) t .nilIface .nilIface := rfl
 rw [key, Op.equalIn]
 simp only [Sem.run_bind, hd, Result.andThen_ok]
 rfl
theorem pureBin_sim {op : BinOp} {t : TypeId} {ox oy : Operand} {x y x' y' : Value} (hx : VR i x x') (hy : VR i y y') {v : Value} (h : pureBin E op t ox oy x y = some v) :
  (do eqGuard op t ox oy x' y'; binOp op t x' y' : Sem Value).run E.P w = .ok v w ∧ VR i v v := by
 unfold pureBin at h
 cases hp : (plain x && plain y) with
 | false => rw [hp] at h; cases h
 | true =>
  rw [hp] at h
  simp only [Bool.and_eq_true] at hp
  simp only [cond_true] at h
  obtain rfl := plain_eq hx hp.1
  obtain rfl := plain_eq hy hp.2
  split at h
  ·rename_i u hu
   cases hpu : plain u with
   | false => rw [hpu] at h; cases h
   | true =>
    rw [hpu] at h
    cases h
    exact ⟨pureRun_run E.P _ _ hu w, plain_refl hpu⟩
  ·cases h
theorem hBin_sim (hT : TyOk E) (op : BinOp) (t : TypeId) (x y : Operand) {tm : Tm} {ρ : Operand → Value} (hR : Rel i s w) (hρ : TR i tm ρ) {v : Value} {s' : AS} (h : hBin op t x y E tm s = some (v, s')) :
    Sim E i s w (do eqGuard op t x y (ρ x) (ρ y); binOp op t (ρ x) (ρ y)) v s' := by
  unfold hBin at h
  split at h
  · rename_i a b ha hb
    split at h
    · rename_i u hu
      cases h
      have hx := hρ x _ ha
      have hy := hρ y _ hb
      generalize hgx : ρ x = x' at hx
      generalize hgy : ρ y = y' at hy
      suffices hs : ∃ v', (do eqGuard op t x y x' y'; binOp op t x' y' : Sem Value).run E.P w = .ok v' w ∧ VR i v v' by
        obtain ⟨v', h1, h2⟩ := hs
        exact Sim.ofPure hR h1 h2
      unfold binA at hu
      split at hu
      · rename_i k n
        unfold binI at hu
        split at hu
        · rename_i k' m
          cases hx
          cases hy
          refine ⟨v, ?_, ?_⟩
          · simp only [Sem.run_bind, eqGuard_other (a := .int k n) (b := .int k' m) (.inl (by simp)) (.inl (by simp)), Result.andThen_ok]
            exact binII_sim hu t w
          · unfold binII at hu
            have plainV : ∀ (f : Option Value), f = some v → (∀ u, f = some u → ∃ k n, u = .int k n ∨ ∃ b, u = .bool b) → VR i v v := by
              intro f hf hall
              obtain ⟨k, n, h | ⟨b, h⟩⟩ := hall v hf
              · subst h; exact .int _ _
              · subst h; exact .bool _
            refine plainV _ hu ?_
            intro u hu'
            split at hu'
            · split at hu'
              · cases hu'
              · simp only [shlA, intV_eq, Option.some.injEq] at hu'; exact ⟨_, _, .inl hu'.symm⟩
            · split at hu'
              · cases hu'
              · simp only [shrA, intK_eq, Option.some.injEq] at hu'; exact ⟨_, _, .inl hu'.symm⟩
            · cases hk : kindEq k k' with
              | false => rw [hk] at hu'; cases hu'
              | true =>
                rw [hk, cond_true] at hu'
                cases op <;> simp only [intBin, iAr, iCmp, iQuo, iRem, iNo, iAndNot, bits2, intV_eq, intK_eq, Option.some.injEq, reduceCtorEq] at hu' <;> first
                  | exact ⟨_, _, .inl hu'.symm⟩
                  | exact ⟨k, 0, .inr ⟨_, hu'.symm⟩⟩
                  | (cases hz : ieq m 0 with
                     | true => rw [hz] at hu'; cases hu'
                     | false => rw [hz] at hu'; cases hu'; exact ⟨_, _, .inl rfl⟩)
        · cases hu
      · rename_i n
        unfold binS at hu
        split at hu
        · rename_i m
          cases hx
          cases hy
          refine ⟨v, ?_, ?_⟩
          · simp only [Sem.run_bind, eqGuard_other (a := .string n) (b := .string m) (.inl (by simp)) (.inl (by simp)), Result.andThen_ok]
            exact strBin_sim hu t w
          · cases op <;> simp only [strBin, sAdd, sNo, Option.some.injEq, reduceCtorEq] at hu <;> first
              | (subst hu; exact .bool _)
              | (split at hu
                 · cases hu
                 · cases hu; exact .string _)
        · cases hu
      · rename_i hni hns
        unfold binOther at hu
        cases hnil : (isNilI a && isNilI b) with
        | true =>
          rw [hnil, cond_true] at hu
          simp only [Bool.and_eq_true] at hnil
          have ea : a = .nilIface := by cases a <;> first | rfl | (simp [isNilI] at hnil)
          have eb : b = .nilIface := by cases b <;> first | rfl | (simp [isNilI] at hnil)
          subst ea; subst eb
          cases hx
          cases hy
          cases hcc : (isConstO x || isConstO y) with
          | false => rw [hcc] at hu; cases hu
          | true =>
            rw [hcc, cond_true] at hu
            have hgd : ∀ o : BinOp, (eqGuard o t x y .nilIface .nilIface).run E.P w = .ok () w := fun o => eqGuard_nil o t x y hcc E.P w
            split at hu
            · rename_i ms _ _ _ hty
              cases hu
              refine ⟨_, ?_, .bool true⟩
              have he := equal_nilI (w := w) hT hty
              simp [hgd, binOp, he]
            · rename_i ms _ _ _ hty
              cases hu
              refine ⟨_, ?_, .bool false⟩
              have he := equal_nilI (w := w) hT hty
              simp [hgd, binOp, he]
            · cases hu
        | false =>
          rw [hnil, cond_false] at hu
          have eqb : ∀ neg : Bool, (op = .eql ∧ neg = false ∨ op = .neq ∧ neg = true) → eqBin E s op t x y a b neg = some v → ∃ v', (do eqGuard op t x y x' y'; binOp op t x' y' : Sem Value).run E.P w = .ok v' w ∧ VR i v v' := by
            intro neg hop he
            unfold eqBin at he
            split at he
            · rename_i r hr
              cases he
              unfold eqA at hr
              split at hr
              · cases hr
              · rename_i ti hti
                have heq := eqD_sim hT hti hR hx hy hr
                have hsh : (x' ≠ .nilIface ∨ y' ≠ .nilIface) ∧ ((∀ cs, x' ≠ .agg cs) ∨ ∀ cs, y' ≠ .agg cs) ∧ (∀ k n, x' ≠ .int k n) ∧ (∀ k n, x' ≠ .float k n) ∧ (∀ k n m, x' ≠ .complex k n m) ∧ (∀ n, x' ≠ .string n) := by
                  unfold eqD at hr
                  split at hr <;> first
                    | (cases hr; done)
                    | (cases hx <;> cases hy <;> simp; done)
                    | (cases hx <;> simp <;> (cases hy <;> simp); done)
                refine ⟨.bool (r != neg), ?_, .bool _⟩
                obtain ⟨g1, g2, g3, g4, g5, g6⟩ := hsh
                simp only [Sem.run_bind, eqGuard_other g1 g2, Result.andThen_ok]
                rcases hop with ⟨rfl, rfl⟩ | ⟨rfl, rfl⟩
                · cases x' <;> first
                    | exact absurd rfl (g3 _ _)
                    | exact absurd rfl (g4 _ _)
                    | exact absurd rfl (g5 _ _ _)
                    | exact absurd rfl (g6 _)
                    | simp [binOp, heq]
                · cases x' <;> first
                    | exact absurd rfl (g3 _ _)
                    | exact absurd rfl (g4 _ _)
                    | exact absurd rfl (g5 _ _ _)
                    | exact absurd rfl (g6 _)
                    | simp [binOp, heq]
            · exact ⟨v, pureBin_sim hx hy he⟩
          split at hu
          · exact eqb false (.inl ⟨rfl, rfl⟩) hu
          · exact eqb true (.inr ⟨rfl, rfl⟩) hu
          · exact ⟨v, pureBin_sim hx hy hu⟩
    · cases h
  · cases h
end
end Go.Ax
