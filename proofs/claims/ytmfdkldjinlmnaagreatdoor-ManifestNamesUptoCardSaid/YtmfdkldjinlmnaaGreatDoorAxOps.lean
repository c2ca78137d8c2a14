/- An abstract machine for the operations of a Go program: what each operation comes to. A slice's last number is twice its capacity where that is known to the full (and 1), or twice a number that it surely has. -/
import Derived.Test.YtmfdkldjinlmnaaGreatDoorAxCore
set_option linter.unusedVariables false
set_option linter.unusedSimpArgs false
namespace Go.Ax
open Go
noncomputable section

abbrev Tm := T Value

/-- Constants that bear no address. -/
def cst : Value → Option Value
  | .int k n => some (.int k n)
  | .bool b => some (.bool b)
  | .string s => some (.string s)
  | .pointer none => some (.pointer none)
  | .slice none 0 0 => some (.slice none 0 0)
  | .map none => some (.map none)
  | .nilFunc => some .nilFunc
  | .nilIface => some .nilIface
  | .float k n => some (.float k n)
  | _ => none

def ev (tm : Tm) : Operand → Option Value
  | .tmp i => tm.get i
  | .const v => cst v
  | .global g => bif Nat.blt g 1000 then some (.pointer (some ⟨g, 0, none⟩)) else none
  | .func f => some (.func (.func f) #[] #[])

def evs (tm : Tm) : List Operand → Option (List Value)
  | [] => some []
  | x :: l => match ev tm x with
    | none => none
    | some v => match evs tm l with
      | none => none
      | some vs => some (v :: vs)

/-! ### Memory -/
def rdN (s : AS) (b o n : Nat) : Option (List Value) :=
  match s.h.get b with
  | some (.cells c m _) => bif Nat.ble (o + n) m then c.list n o else none
  | some (.ro c m) => bif Nat.ble (o + n) m then c.list n o else none
  | _ => none

def rd (s : AS) (b o : Nat) : Option Value :=
  match s.h.get b with
  | some (.cells c m _) => bif Nat.blt o m then c.get o else none
  | some (.ro c m) => bif Nat.blt o m then c.get o else none
  | _ => none

def oneC : Value → Bool
  | .agg _ | .tuple _ => false
  | _ => true
def ones : List Value → Bool
  | [] => true
  | v :: l => oneC v && ones l

def wrN (s : AS) (b o : Nat) (l : List Value) : Option AS :=
  match s.h.get b with
  | some (.cells c m z) => bif Nat.ble (o + l.length) m && ones l then some (s.upd b (.cells (c.fill o l) m z)) else none
  | _ => none

/-- A new row of cells; z: odd if it may be one of a text's bytes; half of it: the cells of an element, where it may have room. -/
def AS.rowz (s : AS) (z : Nat) (l : List Value) : AS := s.new (.cells (T.e.fill 0 l) l.length z)
def AS.row (s : AS) (l : List Value) : Value × AS := (.pointer (some ⟨s.nx, 0, none⟩), s.rowz 0 l)

/-! ### Values without addresses, and operations that look at no memory -/
def plain : Value → Bool
  | .bool _ | .int _ _ | .float _ _ | .string _ | .nilFunc | .nilIface => true
  | .iface _ v => plain1 v
  | .agg cs => cs.toList.all plain1
  | _ => false
  where plain1 : Value → Bool
    | .bool _ | .int _ _ | .float _ _ | .string _ => true
    | _ => false

def pureRun (P : Program) {α : Type} : Sem α → Option α
  | .pure a => some a
  | .program k => pureRun P (k P)
  | .mark _ k => pureRun P k
  | _ => none

/-! Whole numbers, quickly: a number is told by its literal. -/
def natK {α : Type} (n : Nat) (k : Nat → α) : α := Nat.rec (motive := fun _ => (Nat → α) → α) (fun k => k 0) (fun p _ k => k (Nat.succ p)) n k
def intK {α : Type} (n : Int) (k : Int → α) : α := match n with
  | .ofNat a => natK a fun a => k (.ofNat a)
  | .negSucc a => natK a fun a => k (.negSucc a)
def ieq : Int → Int → Bool
  | .ofNat a, .ofNat b => Nat.beq a b
  | .negSucc a, .negSucc b => Nat.beq a b
  | _, _ => false
def ilt : Int → Int → Bool
  | .ofNat a, .ofNat b => Nat.blt a b
  | .negSucc a, .negSucc b => Nat.blt b a
  | .negSucc _, .ofNat _ => true
  | .ofNat _, .negSucc _ => false
/-- The rest of a number to a modulus that is above nought. -/
def imod (n : Int) (m : Nat) : Nat := match n with
  | .ofNat a => a % m
  | .negSucc a => m - 1 - a % m
def wrU (m : Nat) (n : Int) : Int := .ofNat (imod n m)
def wrS (m h : Nat) (n : Int) : Int := natK (imod n m) fun r => bif Nat.blt r h then .ofNat r else .negSucc (m - 1 - r)
def wrapA (k : IntKind) (n : Int) : Int := match k with
  | .i64 => wrS 18446744073709551616 9223372036854775808 n
  | .u8 => wrU 256 n
  | .u64 => wrU 18446744073709551616 n
  | .u32 => wrU 4294967296 n
  | .i32 => wrS 4294967296 2147483648 n
  | .u16 => wrU 65536 n
  | .i16 => wrS 65536 32768 n
  | .i8 => wrS 256 128 n
def modA : IntKind → Nat
  | .i64 | .u64 => 18446744073709551616
  | .i32 | .u32 => 4294967296
  | .i16 | .u16 => 65536
  | .i8 | .u8 => 256
def intV (k : IntKind) (n : Int) : Option Value := intK (wrapA k n) fun m => some (.int k m)
def bits2 (f : Nat → Nat → Nat) (k : IntKind) (a b : Int) : Option Value := intV k (.ofNat (f (imod a (modA k)) (imod b (modA k))))

def kindEq : IntKind → IntKind → Bool
  | .i64, .i64 | .i32, .i32 | .i16, .i16 | .i8, .i8 | .u64, .u64 | .u32, .u32 | .u16, .u16 | .u8, .u8 => true
  | _, _ => false

def iCmp (f : Int → Int → Bool) (_ : IntKind) (a b : Int) : Option Value := some (.bool (f a b))
def iAr (f : Int → Int → Int) (k : IntKind) (a b : Int) : Option Value := intV k (f a b)
def iQuo (k : IntKind) (a b : Int) : Option Value := bif ieq b 0 then none else intV k (Int.tdiv a b)
def iRem (k : IntKind) (a b : Int) : Option Value := bif ieq b 0 then none else intK (Int.tmod a b) fun m => some (.int k m)
def iAndNot (k : IntKind) (a b : Int) : Option Value := bits2 (fun x y => Nat.land x (modA k - 1 - y)) k a b
def iNo (_ : IntKind) (_ _ : Int) : Option Value := none
def intBin (op : BinOp) : IntKind → Int → Int → Option Value :=
  match op with
  | .add => iAr Int.add
  | .sub => iAr Int.sub
  | .mul => iAr Int.mul
  | .quo => iQuo
  | .rem => iRem
  | .and => bits2 Nat.land
  | .or => bits2 Nat.lor
  | .xor => bits2 Nat.xor
  | .andNot => iAndNot
  | .eql => iCmp ieq
  | .neq => iCmp fun a b => !ieq a b
  | .lss => iCmp ilt
  | .leq => iCmp fun a b => !ilt b a
  | .gtr => iCmp fun a b => ilt b a
  | .geq => iCmp fun a b => !ilt a b
  | _ => iNo

def inR (n : Int) (m : Nat) : Bool := match n with
  | .ofNat a => Nat.blt a m
  | .negSucc _ => false

def bitsA : IntKind → Nat
  | .i64 | .u64 => 64
  | .i32 | .u32 => 32
  | .i16 | .u16 => 16
  | .i8 | .u8 => 8

def shlA (k : IntKind) (a : Int) (n : Nat) : Option Value := intV k (Int.mul a (.ofNat (2 ^ bif Nat.ble n (bitsA k) then n else bitsA k)))
def shrA (k : IntKind) (a : Int) (n : Nat) : Option Value := intK (Int.fdiv a (.ofNat (2 ^ bif Nat.ble n (bitsA k) then n else bitsA k))) fun m => some (.int k m)
/-- Two whole numbers. -/
def binII (op : BinOp) (k : IntKind) (a : Int) (k' : IntKind) (b : Int) : Option Value :=
  match op with
  | .shl => (match b with
    | .negSucc _ => none
    | .ofNat n => shlA k a n)
  | .shr => (match b with
    | .negSucc _ => none
    | .ofNat n => shrA k a n)
  | op => bif kindEq k k' then intBin op k a b else none

def sAdd (x y : ByteArray) : Option Value := if ((x.size + y.size : Nat) : Int) > IntKind.i64.max then none else some (.string (x ++ y))
def sNo (_ _ : ByteArray) : Option Value := none
def strBin (op : BinOp) : ByteArray → ByteArray → Option Value :=
  match op with
  | .add => sAdd
  | .eql => fun x y => some (.bool (x.toList == y.toList))
  | .neq => fun x y => some (.bool (!(x.toList == y.toList)))
  | .lss => fun x y => some (.bool (Op.bytesLess x.toList y.toList))
  | .leq => fun x y => some (.bool (Op.bytesLess x.toList y.toList || x.toList == y.toList))
  | .gtr => fun x y => some (.bool (!(Op.bytesLess x.toList y.toList || x.toList == y.toList)))
  | .geq => fun x y => some (.bool (!Op.bytesLess x.toList y.toList))
  | _ => sNo

/-- A live block, and none of a text's bytes. -/
def live (s : AS) (b : Nat) : Bool :=
  match s.h.get b with
  | some (.cells _ _ z) => Nat.beq (z % 2) 0
  | _ => false

/-- == of what bears addresses. -/
def eqD (E : Env) (s : AS) (d : TypeDesc) (x y : Value) : Option Bool :=
  match d, x, y with
  | .bool, .bool a, .bool b => some (a == b)
  | .pointer _, .pointer none, .pointer b => some b.isNone
  | .pointer _, .pointer (some _), .pointer none => some false
  | .pointer e, .pointer (some a), .pointer (some b) => match E.ty.get e with
    | none => none
    | some i => bif Nat.beq i.size 0 then none else
      bif Nat.beq a.block b.block then some (Nat.beq a.off b.off && a.spot.isNone && b.spot.isNone)
      else bif live s a.block && live s b.block then some false else none
  | .slice _, .slice none _ _, .slice b _ _ => some b.isNone
  | .slice _, .slice (some _) _ _, .slice none _ _ => some false
  | .map _ _, .map none, .map b => some b.isNone
  | .map _ _, .map (some _), .map none => some false
  | .func _ _ _, .nilFunc, .nilFunc => some true
  | .func _ _ _, .nilFunc, .func _ _ _ => some false
  | .func _ _ _, .func _ _ _, .nilFunc => some false
  | .interface _, .nilIface, .iface _ _ => some false
  | .interface _, .iface _ _, .nilIface => some false
  | _, _, _ => none
def eqA (E : Env) (s : AS) (t : TypeId) (x y : Value) : Option Bool :=
  match E.ty.get t with
  | none => none
  | some i => eqD E s i.desc x y

def isConstO : Operand → Bool
  | .const _ => true
  | _ => false

def pureBin (E : Env) (op : BinOp) (t : TypeId) (ox oy : Operand) (x y : Value) : Option Value :=
  bif plain x && plain y then (match pureRun E.P (do eqGuard op t ox oy x y; binOp op t x y) with
    | some v => bif plain v then some v else none
    | none => none) else none
def eqBin (E : Env) (s : AS) (op : BinOp) (t : TypeId) (ox oy : Operand) (x y : Value) (neg : Bool) : Option Value :=
  match eqA E s t x y with
  | some b => some (.bool (b != neg))
  | none => pureBin E op t ox oy x y
def isNilI : Value → Bool
  | .nilIface => true
  | _ => false
def binOther (E : Env) (s : AS) (op : BinOp) (t : TypeId) (ox oy : Operand) (x y : Value) : Option Value :=
  bif isNilI x && isNilI y then (bif isConstO ox || isConstO oy then (match E.ty.get t, op with
    | some ⟨.interface _, _, _, _⟩, .eql => some (.bool true)
    | some ⟨.interface _, _, _, _⟩, .neq => some (.bool false)
    | _, _ => none) else none)
  else match op with
  | .eql => eqBin E s op t ox oy x y false
  | .neq => eqBin E s op t ox oy x y true
  | _ => pureBin E op t ox oy x y
def binI (op : BinOp) (k : IntKind) (a : Int) (y : Value) : Option Value :=
  match y with
  | .int k' b => binII op k a k' b
  | _ => none
def binS (op : BinOp) (a : ByteArray) (y : Value) : Option Value :=
  match y with
  | .string b => strBin op a b
  | _ => none
def binA (E : Env) (s : AS) (op : BinOp) (t : TypeId) (ox oy : Operand) (x y : Value) : Option Value :=
  match x with
  | .int k a => binI op k a y
  | .string a => binS op a y
  | x => binOther E s op t ox oy x y

/-! ### Aggregates -/
def placesOf (E : Env) : List Field → Option (List (Nat × Nat))
  | [] => some []
  | f :: l => match E.ty.get f.type with
    | none => none
    | some i => match placesOf E l with
      | none => none
      | some r => some ((f.offset, i.size) :: r)

def fillA (place : Nat → Option (Nat × Nat)) (cells : List Value) : List (Nat × Value) → Option (List Value)
  | [] => some cells
  | (i, v) :: rest =>
    match place i with
    | none => none
    | some (off, size) =>
      let vs := v.cells.toList
      bif Nat.beq vs.length size && Nat.ble (off + vs.length) cells.length then fillA place (cells.take off ++ vs ++ cells.drop (off + vs.length)) rest else none

def partsOf (tm : Tm) : List (Nat × Operand) → Option (List (Nat × Value))
  | [] => some []
  | (i, x) :: l => match ev tm x with
    | none => none
    | some v => match partsOf tm l with
      | none => none
      | some r => some ((i, v) :: r)

/-- A part of a struct's or an array's cells. -/
def partA (E : Env) (t : TypeId) (cs : List Value) (off : Nat) : Option Value :=
  match E.ty.get t with
  | none => none
  | some i => bif isAggD i.desc then (bif Nat.ble (off + i.size) cs.length then some (.agg ⟨(cs.drop off).take i.size⟩) else none) else cs[off]?

def rep (n : Nat) (l : List Value) : List Value := Nat.rec (motive := fun _ => List Value) [] (fun _ ih => l ++ ih) n

def bytesV (s : ByteArray) : List Value := s.data.toList.map fun b => .int .u8 b.toNat

def toBytes : List Value → Option (List UInt8)
  | [] => some []
  | .int .u8 n :: l => match toBytes l with
    | none => none
    | some r => some (UInt8.ofNat n.toNat :: r)
  | _ => none

def cap2 (c : Nat) : Nat := c / 2

/-- A bound of a slice expression. -/
def bnd (tm : Tm) (d : Nat) (m : Nat) : Option Operand → Option Nat
  | none => some d
  | some x => match ev tm x with
    | some (.int _ i) => if 0 ≤ i ∧ i ≤ m then some i.toNat else none
    | _ => none

/-- Low, high and greatest end of a slice expression. -/
def bnds (tm : Tm) (n c : Nat) (lo hi mx : Option Operand) : Option (Nat × Nat × Nat) :=
  bif mx.isSome && hi.isNone then none else
  match bnd tm c c mx with
  | none => none
  | some m => match bnd tm n m hi with
    | none => none
    | some h => bif Nat.ble h m then (match bnd tm 0 h lo with
      | none => none
      | some l => some (l, h, m)) else none

/-- Are the elements of the size that the block was grown with? -/
def unitOk (s : AS) (a : Option Addr) (n : Nat) : Bool :=
  match a with
  | none => true
  | some a => match s.h.get a.block with
    | some (.cells _ _ z) => Nat.beq (zs z) n
    | _ => false

def sliceA (E : Env) (s : AS) (tm : Tm) (t : TypeId) (x : Value) (lo hi mx : Option Operand) : Option Value :=
  match E.ty.get t with
  | none => none
  | some i => match i.desc, x with
    | .string, .string b => match mx with
      | some _ => none
      | none => match bnds tm b.size b.size lo hi none with
        | none => none
        | some (l, h, _) => some (.string (b.extract l h))
    | .slice e, .slice a n c => match E.ty.get e with
      | none => none
      | some j => match bnds tm n (c / 2) lo hi mx with
        | none => none
        | some (l, h, m) => bif mx.isSome || Nat.beq (c % 2) 1 || Nat.beq l 0 || unitOk s a j.size then some (.slice (a.map fun a => ⟨a.block, a.off + l * j.size, none⟩) (h - l) (2 * (m - l) + (bif mx.isSome then 1 else c % 2))) else none
    | .array k e, .pointer (some a) => match E.ty.get e with
      | none => none
      | some j => match bnds tm k k lo hi mx with
        | none => none
        | some (l, h, m) => some (.slice (some ⟨a.block, a.off + l * j.size, none⟩) (h - l) (2 * (m - l) + 1))
    | _, _ => none

/-! ### Maps -/
def keyEq (E : Env) (kt : TypeId) (a b : Value) : Option Bool :=
  match a, b with
  | .int k x, .int k' y => bif kindEq k k' then some (ieq x y) else none
  | .string x, .string y => some (x == y)
  | .bool x, .bool y => some (x == y)
  | _, _ => none

def findM (E : Env) (kt : TypeId) (k : Value) : List (Value × Value) → Option (Option Value)
  | [] => some none
  | (a, v) :: l => match keyEq E kt k a with
    | none => none
    | some true => some (some v)
    | some false => findM E kt k l

def putM (E : Env) (kt : TypeId) (k v : Value) : List (Value × Value) → Option (List (Value × Value))
  | [] => some [(k, v)]
  | (a, u) :: l => match keyEq E kt k a with
    | none => none
    | some true => some ((k, v) :: l)
    | some false => match putM E kt k v l with
      | none => none
      | some r => some ((a, u) :: r)

def dropM (E : Env) (kt : TypeId) (k : Value) : List (Value × Value) → Option (List (Value × Value))
  | [] => some []
  | (a, u) :: l => match keyEq E kt k a with
    | none => none
    | some true => some l
    | some false => match dropM E kt k l with
      | none => none
      | some r => some ((a, u) :: r)

def keyOk (i : TI) (k : Value) : Bool :=
  match i.desc, k with
  | .int _, .int _ _ => true
  | .string, .string _ => true
  | .bool, .bool _ => true
  | _, _ => false

/-! ### Builtins -/
def lenA (E : Env) (s : AS) (t : TypeId) (x : Value) : Option Value :=
  match E.ty.get t with
  | none => none
  | some i => match i.desc, x with
    | .string, .string b => some (.int .i64 b.size)
    | .array n _, _ => some (.int .i64 n)
    | .slice _, .slice _ n _ => some (.int .i64 n)
    | .map _ _, .map none => some (.int .i64 0)
    | .map _ _, .map (some r) => match s.h.get r with
      | some (.map es) => some (.int .i64 es.length)
      | _ => none
    | _, _ => none

def capA (E : Env) (t : TypeId) (x : Value) : Option Value :=
  match E.ty.get t with
  | none => none
  | some i => match i.desc, x with
    | .array n _, _ => some (.int .i64 n)
    | .slice _, .slice none _ _ => some (.int .i64 0)
    | .slice _, .slice _ _ c => bif Nat.beq (c % 2) 1 then some (.int .i64 ((c / 2 : Nat) : Int)) else none
    | _, _ => none

/-- The cells of the first m elements of what is appended or copied. -/
def srcA (s : AS) (size m : Nat) (x : Value) : Option (List Value) :=
  match x with
  | .slice none _ _ => some []
  | .slice (some a) _ _ => bif Nat.beq m 0 then some [] else rdN s a.block a.off (m * size)
  | .string b => bif Nat.beq size 1 then some ((b.extract 0 m).data.toList.map fun b => .int .u8 b.toNat) else none
  | _ => none

def lenS : Value → Option Nat
  | .slice _ n _ => some n
  | .string s => some s.size
  | _ => none

def small : Nat := 1099511627776

/-- To nothing so many zeros are appended. -/
def appendZ (E : Env) (s : AS) (e : TypeId) (x y : Value) : Option (Value × AS) :=
  match E.ty.get e, x, y with
  | some j, .slice none _ _, .int .i64 (.ofNat m) => bif Nat.beq j.size 0 || Nat.beq j.bytes 0 || Nat.beq m 0 || Nat.ble 524288 j.size then none else
    bif Nat.ble (m * j.bytes) small && Nat.ble m small then some (.slice (some ⟨s.nx, 0, none⟩) m (2 * m), s.rowz (tz j.size e) (rep m j.zero)) else none
  | _, _, _ => none

/-- A whole row that is to be copied. -/
def wholeA (s : AS) (k : Nat) (y : Value) : Option (T Value) :=
  match y with
  | .slice (some a) _ _ => match s.h.get a.block with
    | some (.cells c m _) => bif Nat.beq a.off 0 && Nat.beq m k then some c else none
    | _ => none
  | _ => none
def shareA (s : AS) (j : TI) (n c m : Nat) (y : Value) : Option (T Value) :=
  bif Nat.beq n 0 && Nat.beq (c % 2) 1 && Nat.blt (c / 2) m && Nat.ble (m * j.bytes) small then wholeA s (m * j.size) y else none

def appendA (E : Env) (s : AS) (t u : TypeId) (x y : Value) : Option (Value × AS) :=
  match E.ty.get t, E.ty.get u with
  | some ti, some ui => match ti.desc, ui.desc with
    | .slice e, .int _ => appendZ E s e x y
    | _, .int _ => none
    | .slice e, _ => match E.ty.get e with
      | none => none
      | some j => bif Nat.beq j.size 0 || Nat.beq j.bytes 0 || Nat.ble 524288 j.size then none else
        match x, lenS y with
        | .slice a n c, some m => match shareA s j n c m y with
          | some t => some (.slice (some ⟨s.nx, 0, none⟩) (n + m) (2 * (n + m)), s.new (.cells t (m * j.size) (tz j.size e)))
          | none => match srcA s j.size m y with
          | none => none
          | some new =>
            bif Nat.beq m 0 then some (.slice a n c, s) else
            bif Nat.ble (n + m) (c / 2) then (match a with
              | none => none
              | some a => match wrN s a.block (a.off + n * j.size) new with
                | none => none
                | some s' => some (.slice (some a) (n + m) c, s'))
            else bif Nat.ble ((n + m) * j.bytes) small then (match a with
              | none => some (.slice (some ⟨s.nx, 0, none⟩) (n + m) (2 * (n + m)), s.rowz (tz j.size e) new)
              | some a =>
                bif Nat.beq n 0 && Nat.beq (c % 2) 1 then some (.slice (some ⟨s.nx, 0, none⟩) (n + m) (2 * (n + m)), s.rowz (tz j.size e) new) else
                match rdN s a.block a.off (n * j.size) with
                | none => none
                | some old => match s.h.get a.block with
                  | some (.cells _ _ z) => bif Nat.beq (c % 2) 1 then some (.slice (some ⟨s.nx, 0, none⟩) (n + m) (2 * (n + m)), s.rowz (tz j.size e) (old ++ new)) else
                    bif Nat.beq (zs z) j.size && ones new then some (.slice (some ⟨s.nx, 0, none⟩) (n + m) (2 * (n + m)), (s.upd a.block .dead).rowz (zg j.size z e) (old ++ new)) else none
                  | _ => none)
            else none
        | _, _ => none
    | _, _ => none
  | _, _ => none

def copyA (E : Env) (s : AS) (t : TypeId) (x y : Value) : Option (Value × AS) :=
  match E.ty.get t with
  | none => none
  | some ti => match ti.desc with
    | .slice e => match E.ty.get e with
      | none => none
      | some j => match x, lenS y with
        | .slice a n _, some m => match srcA s j.size (Nat.min m n) y with
          | none => none
          | some new => match a with
            | none => some (.int .i64 (Nat.min m n : Nat), s)
            | some a => bif Nat.beq (Nat.min m n) 0 then some (.int .i64 (Nat.min m n : Nat), s) else match wrN s a.block a.off new with
              | none => none
              | some s' => some (.int .i64 (Nat.min m n : Nat), s')
        | _, _ => none
    | _ => none

def max2A : Value → Value → Option Value
  | .int k x, .int _ y => some (.int k (if y > x then y else x))
  | _, _ => none
def min2A : Value → Value → Option Value
  | .int k x, .int _ y => some (.int k (if y < x then y else x))
  | _, _ => none
def foldA (f : Value → Value → Option Value) : Value → List Value → Option Value
  | x, [] => some x
  | x, y :: l => match f x y with
    | none => none
    | some z => foldA f z l

def clearA (E : Env) (s : AS) (t : TypeId) (x : Value) : Option (Value × AS) :=
  match E.ty.get t with
  | none => none
  | some ti => match ti.desc, x with
    | _, .map none => some (.tuple #[], s)
    | _, .slice none _ _ => some (.tuple #[], s)
    | _, .map (some r) => match s.h.get r with
      | some (.map _) => some (.tuple #[], s.upd r (.map []))
      | _ => none
    | .slice e, .slice (some a) n _ => bif Nat.beq n 0 then some (.tuple #[], s) else
      match E.ty.get e with
      | none => none
      | some j => match wrN s a.block a.off (rep n j.zero) with
        | none => none
        | some s' => some (.tuple #[], s')
    | _, _ => none

def deleteA (E : Env) (s : AS) (t : TypeId) (m k : Value) : Option (Value × AS) :=
  match E.ty.get t with
  | none => none
  | some ti => match ti.desc, m with
    | .map kt _, .map (some r) => match E.ty.get kt with
      | none => none
      | some ki => bif keyOk ki k then (match s.h.get r with
        | some (.map es) => match dropM E kt k es with
          | none => none
          | some es' => some (.tuple #[], s.upd r (.map es'))
        | _ => none) else none
    | _, _ => none

/-- A row's head. -/
def sDataA (s : AS) (x : Value) : Option (Value × AS) :=
  match x with
  | .slice none _ _ => some (.pointer none, s)
  | .slice (some a) _ c => bif Nat.beq (c / 2) 0 then none else some (.pointer (some ⟨a.block, a.off, none⟩), s)
  | _ => none
/-- A text out of a row of bytes, which is given up. -/
def uStrA (E : Env) (s : AS) (t : TypeId) (p n : Value) : Option (Value × AS) :=
  match n, p, E.ty.get t with
  | .int .i64 (.ofNat m), .pointer pa, some i => bif Nat.beq m 0 then some (.string .empty, s) else match pa, i.desc with
    | some a, .pointer e => match E.ty.get e, s.h.get a.block with
      | some j, some (.cells _ _ z) => bif Nat.beq j.size 1 && Nat.beq (ze z) (e + 1) && Nat.ble m small then (match rdN s a.block a.off m with
        | some l => match toBytes l with
          | some bs => some (.string ⟨⟨bs⟩⟩, s.upd a.block .dead)
          | none => none
        | none => none) else none
      | _, _ => none
    | _, _ => none
  | _, _, _ => none

def builtinA (E : Env) (s : AS) (b : Builtin) (ts : List TypeId) (xs : List Value) : Option (Value × AS) :=
  match b, ts, xs with
  | .len, t :: _, [x] => match lenA E s t x with
    | none => none
    | some v => some (v, s)
  | .cap, t :: _, [x] => match capA E t x with
    | none => none
    | some v => some (v, s)
  | .append, t :: u :: _, [x, y] => appendA E s t u x y
  | .copy, t :: _, [x, y] => copyA E s t x y
  | .unsafeSliceData, _, [x] => sDataA s x
  | .unsafeString, [t, _], [x, y] => uStrA E s t x y
  | .clear, t :: _, [x] => clearA E s t x
  | .delete, t :: _, [x, y] => deleteA E s t x y
  | .max, _, x :: l => match foldA max2A x l with
    | none => none
    | some v => some (v, s)
  | .min, _, x :: l => match foldA min2A x l with
    | none => none
    | some v => some (v, s)
  | _, _, _ => none

def convP (E : Env) (s : AS) (src dst : TypeId) (x : Value) : Option (Value × AS) :=
  bif plain x then (match pureRun E.P (convert src dst x) with
    | some v => bif plain v then some (v, s) else none
    | none => none) else none
def convA (E : Env) (s : AS) (src dst : TypeId) (x : Value) : Option (Value × AS) :=
  match E.ty.get src, E.ty.get dst with
  | some si, some di => match si.desc, di.desc, x with
    | _, .int k, .int _ n => match intV k n with
      | some v => some (v, s)
      | none => none
    | _, .string, .string b => some (.string b, s)
    | _, .slice e, .string b => match E.ty.get e with
      | some ⟨.int .u8, _, _, _⟩ => some (.slice (some ⟨s.nx, 0, none⟩) b.size (2 * b.size), s.rowz 3 (bytesV b))
      | _ => none
    | .slice e, .string, .slice a n _ => match E.ty.get e with
      | some ⟨.int .u8, _, _, _⟩ => match a with
        | none => some (.string .empty, s)
        | some a => bif Nat.beq n 0 then some (.string .empty, s) else match rdN s a.block a.off n with
          | none => none
          | some l => match toBytes l with
            | none => none
            | some bs => some (.string ⟨⟨bs⟩⟩, s)
      | _ => none
    | .slice _, .slice e, .slice (some a) n c => bif Nat.beq src dst then (match E.ty.get e with
      | some ⟨.int .u8, _, _, _⟩ => match s.h.get a.block with
        | some (.cells ct m z) => some (.slice (some a) n c, s.upd a.block (.cells ct m (2 * (z / 2) + 1)))
        | _ => none
      | _ => none) else none
    | .pointer t, .unsafePointer, .pointer p => match p with
      | none => some (.pointer none, s)
      | some a => match E.ty.get t with
        | some j => bif Nat.beq j.size 0 then none else match s.h.get a.block with
          | some (.cells _ m _) => bif Nat.blt a.off m then some (.pointer (some ⟨a.block, a.off, none⟩), s) else none
          | _ => none
        | none => none
    | .unsafePointer, .pointer u, .pointer (some a) => match E.ty.get u, s.h.get a.block with
      | some j, some (.cells _ m z) => bif Nat.beq (ze z) (u + 1) && Nat.beq (zs z) 0 && Nat.beq a.off 0 && Nat.ble j.size m && Nat.ble 1 j.size then some (.pointer (some ⟨a.block, 0, none⟩), s) else none
      | _, _ => none
    | _, _, _ => convP E s src dst x
  | _, _ => none

/-! ### All operations but calls of functions, each by itself -/
abbrev Res := Option (Value × AS)

def hMove (x : Operand) (_ : Env) (tm : Tm) (s : AS) : Res :=
  match ev tm x with
  | some v => some (v, s)
  | none => none
def hPick (c a b : Operand) (_ : Env) (tm : Tm) (s : AS) : Res :=
  match ev tm c with
  | some (.bool t) => match ev tm (bif t then a else b) with
    | some v => some (v, s)
    | none => none
  | _ => none
def hAlloc (t : TypeId) (E : Env) (_ : Tm) (s : AS) : Res :=
  match E.ty.get t with
  | some i => some (.pointer (some ⟨s.nx, 0, none⟩), s.rowz (tz 0 t) i.zero)
  | none => none
def hBox (x : Operand) (_ : Env) (tm : Tm) (s : AS) : Res :=
  match ev tm x with
  | some v => some (s.row v.cells.toList)
  | none => none
def hBuild (t : TypeId) (ps : Array (Nat × Operand)) (E : Env) (tm : Tm) (s : AS) : Res :=
  match E.ty.get t, partsOf tm ps.toList with
  | some i, some l => match i.desc with
    | .struct fs => match placesOf E fs.toList with
      | none => none
      | some pl => match fillA (fun k => pl[k]?) i.zero l with
        | none => none
        | some cs => some (.agg ⟨cs⟩, s)
    | .array _ e => match E.ty.get e with
      | none => none
      | some j => match fillA (fun k => some (k * j.size, j.size)) i.zero l with
        | none => none
        | some cs => some (.agg ⟨cs⟩, s)
    | _ => none
  | _, _ => none
def hBuildSlice (t : TypeId) (n : Nat) (ps : Array (Nat × Operand)) (E : Env) (tm : Tm) (s : AS) : Res :=
  match E.ty.get t, partsOf tm ps.toList with
  | some i, some l => match i.desc with
    | .slice e => match E.ty.get e with
      | none => none
      | some j => bif Nat.ble (n * j.size) 65536 then (match fillA (fun k => some (k * j.size, j.size)) (rep n j.zero) l with
        | none => none
        | some cs => some (.slice (some ⟨s.nx, 0, none⟩) n (2 * n + 1), (s.row cs).2)) else none
    | _ => none
  | _, _ => none
def hLoad (t : TypeId) (a : Operand) (E : Env) (tm : Tm) (s : AS) : Res :=
  match E.ty.get t, ev tm a with
  | some i, some (.pointer (some p)) => bif isAggD i.desc then (match rdN s p.block p.off i.size with
      | some l => some (.agg ⟨l⟩, s)
      | none => none) else (match rd s p.block p.off with
      | some v => some (v, s)
      | none => none)
  | _, _ => none
def hStore (t : TypeId) (a x : Operand) (E : Env) (tm : Tm) (s : AS) : Res :=
  match E.ty.get t, ev tm a, ev tm x with
  | some i, some (.pointer (some p)), some v =>
    bif Nat.beq v.cells.toList.length i.size then (match wrN s p.block p.off v.cells.toList with
      | some s' => some (.tuple #[], s')
      | none => none) else none
  | _, _, _ => none
def hNilCheck (x : Operand) (_ : Env) (tm : Tm) (s : AS) : Res :=
  match ev tm x with
  | some (.pointer (some p)) => some (.pointer (some p), s)
  | some (.func (.func f) a b) => some (.func (.func f) a b, s)
  | _ => none
def hBin (op : BinOp) (t : TypeId) (x y : Operand) (E : Env) (tm : Tm) (s : AS) : Res :=
  match ev tm x, ev tm y with
  | some a, some b => match binA E s op t x y a b with
    | some v => some (v, s)
    | none => none
  | _, _ => none
def notA : Value → Option Value
  | .bool b => some (.bool (!b))
  | _ => none
def hUn (op : UnOp) (x : Operand) (E : Env) (tm : Tm) (s : AS) : Res :=
  match ev tm x with
  | some v => (match (match op with
      | .not => notA v
      | _ => none) with
    | some u => some (u, s)
    | none => bif plain v then (match pureRun E.P (Op.unary op v) with
      | some u => bif plain u then some (u, s) else none
      | none => none) else none)
  | none => none
def hConv (a b : TypeId) (x : Operand) (E : Env) (tm : Tm) (s : AS) : Res :=
  match ev tm x with
  | some v => convA E s a b v
  | none => none
def hIface (t : TypeId) (x : Operand) (E : Env) (tm : Tm) (s : AS) : Res :=
  match E.ty.get t, ev tm x with
  | some i, some v => match i.desc with
    | .interface _ => none
    | _ => some (.iface t v, s)
  | _, _ => none
def hFunc (f : Fn) (a b : Array Operand) (_ : Env) (tm : Tm) (s : AS) : Res :=
  match evs tm a.toList, evs tm b.toList with
  | some l, some r => some (.func f ⟨l⟩ ⟨r⟩, s)
  | _, _ => none
def hMap (t : TypeId) (r : Option Operand) (E : Env) (tm : Tm) (s : AS) : Res :=
  match r with
  | none => some (.map (some s.nx), s.new (.map []))
  | some x => match E.ty.get t, ev tm x with
    | some ⟨.map _ _, _, _, _⟩, some (.int _ _) => some (.map (some s.nx), s.new (.map []))
    | _, _ => none
def hMakeSlice (t : TypeId) (l c : Operand) (E : Env) (tm : Tm) (s : AS) : Res :=
  match E.ty.get t, ev tm l, ev tm c with
  | some i, some (.int _ n), some (.int _ m) => match i.desc with
    | .slice e => match E.ty.get e with
      | none => none
      | some j => if 0 ≤ n ∧ n ≤ m ∧ m * j.bytes ≤ small ∧ m ≤ small then
        some (.slice (some ⟨s.nx, 0, none⟩) n.toNat (2 * m.toNat + 1), (s.row (rep m.toNat j.zero)).2) else none
    | _ => none
  | _, _, _ => none
def hSlice (t : TypeId) (x : Operand) (lo hi mx : Option Operand) (E : Env) (tm : Tm) (s : AS) : Res :=
  match ev tm x with
  | some v => match sliceA E s tm t v lo hi mx with
    | some u => some (u, s)
    | none => none
  | none => none
def hFieldAddr (t : TypeId) (x : Operand) (f : Nat) (E : Env) (tm : Tm) (s : AS) : Res :=
  match E.ty.get t, ev tm x with
  | some i, some (.pointer (some p)) => match i.desc with
    | .struct fs => match fs.toList[f]? with
      | some fd => match E.ty.get fd.type with
        | some j => bif Nat.beq j.size 0 then none else natK (p.off + fd.offset) fun o => some (.pointer (some ⟨p.block, o, none⟩), s)
        | none => none
      | none => none
    | _ => none
  | _, _ => none
def hField (t : TypeId) (x : Operand) (f : Nat) (E : Env) (tm : Tm) (s : AS) : Res :=
  match E.ty.get t, ev tm x with
  | some i, some (.agg cs) => match i.desc with
    | .struct fs => match fs.toList[f]? with
      | some fd => match partA E fd.type cs.toList fd.offset with
        | some v => some (v, s)
        | none => none
      | none => none
    | _ => none
  | _, _ => none
def hIndexAddr (t : TypeId) (x y : Operand) (E : Env) (tm : Tm) (s : AS) : Res :=
  match E.ty.get t, ev tm x, ev tm y with
  | some i, some v, some (.int _ n) => match i.desc, v with
    | .slice e, .slice (some a) m _ => match E.ty.get e with
      | some j => bif inR n m then natK (a.off + n.toNat * j.size) (fun o => some (.pointer (some ⟨a.block, o, none⟩), s)) else none
      | none => none
    | .array m e, .pointer (some a) => match E.ty.get e with
      | some j => bif inR n m then natK (a.off + n.toNat * j.size) (fun o => some (.pointer (some ⟨a.block, o, none⟩), s)) else none
      | none => none
    | _, _ => none
  | _, _, _ => none
def hIndex (t : TypeId) (x y : Operand) (E : Env) (tm : Tm) (s : AS) : Res :=
  match E.ty.get t, ev tm x, ev tm y with
  | some i, some v, some (.int _ n) => match i.desc, v with
    | .string, .string b => if 0 ≤ n then (match b.data.toList[n.toNat]? with
      | some c => some (.int .u8 c.toNat, s)
      | none => none) else none
    | .array m e, .agg cs => match E.ty.get e with
      | some j => bif inR n m then (match partA E e cs.toList (n.toNat * j.size) with
        | some v => some (v, s)
        | none => none) else none
      | none => none
    | _, _ => none
  | _, _, _ => none
def hLookup (t : TypeId) (x y : Operand) (ok : Bool) (E : Env) (tm : Tm) (s : AS) : Res :=
  match E.ty.get t, ev tm x, ev tm y with
  | some i, some (.map r), some k => match i.desc with
    | .map kt et => match E.ty.get kt, E.ty.get et with
      | some ki, some ei => bif keyOk ki k then (
        match (match r with
          | none => some none
          | some r => match s.h.get r with
            | some (.map es) => findM E kt k es
            | _ => none) with
        | none => none
        | some o => let z : Value := bif isAggD ei.desc then .agg ⟨ei.zero⟩ else ei.zero.headD (.tuple #[])
          some (bif ok then .tuple #[o.getD z, .bool o.isSome] else o.getD z, s)) else none
      | _, _ => none
    | _ => none
  | _, _, _ => none
def hMapUpdate (t : TypeId) (m k x : Operand) (E : Env) (tm : Tm) (s : AS) : Res :=
  match E.ty.get t, ev tm m, ev tm k, ev tm x with
  | some i, some (.map (some r)), some k, some v => match i.desc with
    | .map kt _ => match E.ty.get kt with
      | some ki => bif keyOk ki k then (match s.h.get r with
        | some (.map es) => match putM E kt k v es with
          | none => none
          | some es' => some (.tuple #[], s.upd r (.map es'))
        | _ => none) else none
      | none => none
    | _ => none
  | _, _, _, _ => none
def hRange (t : TypeId) (x : Operand) (E : Env) (tm : Tm) (s : AS) : Res :=
  match E.ty.get t, ev tm x with
  | some i, some (.string b) => match i.desc with
    | .string => some (.pointer (some ⟨s.nx, 0, none⟩), s.new (.iter b 0))
    | _ => none
  | _, _ => none
def hNext (it : Operand) (str : Bool) (_ : Env) (tm : Tm) (s : AS) : Res :=
  match str, ev tm it with
  | true, some (.pointer (some ⟨r, 0, none⟩)) => match s.h.get r with
    | some (.iter b p) => if p < b.size then
        some (.tuple #[.bool true, .int .i64 p, .int .i32 (Utf8.decode b p).1], s.upd r (.iter b (p + (Utf8.decode b p).2)))
      else some (.tuple #[.bool false], s)
    | _ => none
  | _, _ => none
def hAssert (x : Operand) (t : TypeId) (ok : Bool) (E : Env) (tm : Tm) (s : AS) : Res :=
  match E.ty.get t, ev tm x with
  | some i, some (.iface u v) => match i.desc with
    | .interface _ => none
    | _ => bif Nat.beq u t then some (bif ok then .tuple #[v, .bool true] else v, s) else none
  | _, _ => none
def hExtract (x : Operand) (i : Nat) (_ : Env) (tm : Tm) (s : AS) : Res :=
  match ev tm x with
  | some (.tuple vs) => match vs.toList[i]? with
    | some v => some (v, s)
    | none => none
  | _ => none
def hCall (c : Call) (E : Env) (tm : Tm) (s : AS) : Res :=
  match c.callee with
  | .builtin b => match evs tm c.args.toList with
    | some xs => builtinA E s b c.argTypes.toList xs
    | none => none
  | _ => none
def hNo (_ : Env) (_ : Tm) (_ : AS) : Res := none

def opA (op : Op) : Env → Tm → AS → Res :=
  match op with
  | .move x => hMove x
  | .assign x => hMove x
  | .pick c a b => hPick c a b
  | .alloc t => hAlloc t
  | .box _ x => hBox x
  | .build t ps => hBuild t ps
  | .buildSlice t n ps => hBuildSlice t n ps
  | .load t a => hLoad t a
  | .store t a x => hStore t a x
  | .nilCheck x => hNilCheck x
  | .binOp op t x y _ => hBin op t x y
  | .unOp op _ x => hUn op x
  | .convert a b x => hConv a b x
  | .makeInterface t x => hIface t x
  | .makeFunc f a b => hFunc f a b
  | .makeMap t r => hMap t r
  | .makeSlice t l c => hMakeSlice t l c
  | .slice t x lo hi mx => hSlice t x lo hi mx
  | .fieldAddr t x f => hFieldAddr t x f
  | .field t x f => hField t x f
  | .indexAddr t x y => hIndexAddr t x y
  | .index t x y => hIndex t x y
  | .lookup t x y ok => hLookup t x y ok
  | .mapUpdate t m k x => hMapUpdate t m k x
  | .insert t m k x => hMapUpdate t m k x
  | .range t x => hRange t x
  | .next it str => hNext it str
  | .typeAssert x _ t ok => hAssert x t ok
  | .extract x i => hExtract x i
  | .call c => hCall c
  | _ => hNo

end
end Go.Ax
