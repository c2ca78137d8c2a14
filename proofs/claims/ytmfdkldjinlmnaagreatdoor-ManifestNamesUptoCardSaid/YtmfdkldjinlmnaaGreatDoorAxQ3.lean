/- The machine, quick in the kernel, part 3: the operations made ready, and what they come to. -/
import Derived.Test.YtmfdkldjinlmnaaGreatDoorAxQ2
import Derived.Test.YtmfdkldjinlmnaaGreatDoorAxSem3
set_option linter.unusedVariables false
set_option linter.unusedSimpArgs false
namespace Go.Ax
open Go
noncomputable section

theorem wrapA_nat {kd : IntKind} {n : Nat} (h : n ≤ mxq kd) : wrapA kd (.ofNat n) = .ofNat n := by
  cases kd <;> simp only [mxq] at h <;> simp only [wrapA, wrS, wrU, imod, natK_eq]
  all_goals first
    | (rw [Nat.mod_eq_of_lt (by omega)]; done)
    | (rw [Nat.mod_eq_of_lt (by omega)]
       have hb : ∀ m, n < m → Nat.blt n m = true := fun m hm => by rw [Nat.blt_eq]; exact hm
       rw [hb _ (by omega)]; rfl)
theorem intV_nat {kd : IntKind} {n : Nat} (h : n ≤ mxq kd) : intV kd (.ofNat n) = some (.int kd (.ofNat n)) := by
  unfold intV
  rw [wrapA_nat h, intK_eq]

theorem fin_eq {kd : IntKind} {sl : R} {s : AS} {k : K} {n : Nat} (h : n ≤ mxq kd → okI kd s k n = sl) : fin kd sl s k n = sl := by
  unfold fin
  cases hb : Nat.ble n (mxq kd) with
  | false => rfl
  | true =>
    show natK n (okI kd s k) = sl
    rw [natK_eq]
    exact h (Nat.le_of_ble_eq_true hb)
theorem two_eq {kd : IntKind} {sl : R} {x y : Nat} {r : R} (h : x ≤ mxq kd → y ≤ mxq kd → r = sl) : two kd sl x y r = sl := by
  unfold two
  cases hx : Nat.ble x (mxq kd) with
  | false => rfl
  | true =>
    cases hy : Nat.ble y (mxq kd) with
    | false => rfl
    | true => exact h (Nat.le_of_ble_eq_true hx) (Nat.le_of_ble_eq_true hy)

def qOf (op : BinOp) : IntKind → R → AS → K → Nat → Nat → R :=
  @BinOp.rec (fun _ => IntKind → R → AS → K → Nat → Nat → R) qAdd qSub qMul qQuo qRem qAnd qOr qXor qNo qNo qNo qEql qNeq qLss qLeq qGtr qGeq op
def bin3 (op : BinOp) (sl : R) (s : AS) (k : K) (kx : IntKind) (a : Int) (ky : IntKind) (b : Int) : R := kq kx ky (ii (qOf op kx sl s k) sl a b) sl

theorem imod_nat {kd : IntKind} {n : Nat} (h : n ≤ mxq kd) : imod (.ofNat n) (modA kd) = n := by
  cases kd <;> simp only [mxq] at h <;> simp only [imod, modA] <;> exact Nat.mod_eq_of_lt (by omega)
theorem blt_ble (x y : Nat) : Nat.ble (Nat.succ x) y = Nat.blt x y := rfl
theorem not_blt (x y : Nat) : (!(Nat.blt x y)) = Nat.ble y x := by
  cases h : Nat.blt x y with
  | false =>
    have : ¬ x < y := by intro hh; rw [← Nat.blt_eq] at hh; rw [hh] at h; cases h
    symm; simpa using this
  | true =>
    have : x < y := by simpa [Nat.blt_eq] using h
    symm
    cases h2 : Nat.ble y x with
    | false => rfl
    | true => have := Nat.le_of_ble_eq_true h2; omega

theorem bin3_eq {E : Env} {op : BinOp} {t : TypeId} {ox oy : Operand} {s : AS} {k : K} {kx ky : IntKind} {a b : Int} {sl : R} (hsl : sl = toR1 (binA E s op t ox oy (.int kx a) (.int ky b)) k s) :
    bin3 op sl s k kx a ky b = sl := by
  unfold bin3
  rw [kq_eq]
  cases hk : kindEq kx ky with
  | false => rfl
  | true =>
    rw [cond_true]
    cases a with
    | negSucc x => rfl
    | ofNat x =>
      cases b with
      | negSucc y => rfl
      | ofNat y =>
        show qOf op kx sl s k x y = sl
        have hb : binA E s op t ox oy (.int kx (.ofNat x)) (.int ky (.ofNat y)) = binII op kx (.ofNat x) ky (.ofNat y) := rfl
        have hi : ∀ f : IntKind → Int → Int → Option Value, intBin op = f → (op ≠ .shl ∧ op ≠ .shr) → binII op kx (.ofNat x) ky (.ofNat y) = f kx (.ofNat x) (.ofNat y) := by
          intro f hf hn
          unfold binII
          rw [hk]
          cases op <;> first | exact absurd rfl hn.1 | exact absurd rfl hn.2 | (rw [← hf]; rfl)
        cases op
        case shl => rfl
        case shr => rfl
        case andNot => rfl
        all_goals (rw [hb, hi _ rfl (by simp)] at hsl)
        case add => exact fin_eq fun h => by rw [hsl]; show _ = toR1 (intV kx (Int.ofNat (Nat.add x y))) k s; rw [intV_nat h]; rfl
        case sub =>
          show qSub kx sl s k x y = sl
          unfold qSub
          cases hle : Nat.ble y x with
          | false => rfl
          | true =>
            refine fin_eq fun h => ?_
            have e : Int.sub (.ofNat x) (.ofNat y) = .ofNat (Nat.sub x y) := by
              have := Nat.le_of_ble_eq_true hle
              show (x : Int) - (y : Int) = ((x - y : Nat) : Int)
              omega
            rw [hsl]; show _ = toR1 (intV kx (Int.sub (.ofNat x) (.ofNat y))) k s; rw [e, intV_nat h]; rfl
        case mul => exact fin_eq fun h => by rw [hsl]; show _ = toR1 (intV kx (Int.ofNat (Nat.mul x y))) k s; rw [intV_nat h]; rfl
        case quo =>
          show qQuo kx sl s k x y = sl
          unfold qQuo
          cases hle : Nat.ble 1 y with
          | false => rfl
          | true =>
            have h1 := Nat.le_of_ble_eq_true hle
            refine fin_eq fun h => ?_
            have e : Int.tdiv (.ofNat x) (.ofNat y) = .ofNat (Nat.div x y) := rfl
            have e0 : ieq (.ofNat y) 0 = false := by
              show Nat.beq y 0 = false
              cases y with
              | zero => omega
              | succ y => rfl
            rw [hsl]; show _ = toR1 (iQuo kx (.ofNat x) (.ofNat y)) k s; unfold iQuo; rw [e0, cond_false, e, intV_nat h]; rfl
        case rem =>
          show qRem kx sl s k x y = sl
          unfold qRem
          cases hle : Nat.ble 1 y with
          | false => rfl
          | true =>
            have h1 := Nat.le_of_ble_eq_true hle
            have e : Int.tmod (.ofNat x) (.ofNat y) = .ofNat (Nat.mod x y) := rfl
            have e0 : ieq (.ofNat y) 0 = false := by
              show Nat.beq y 0 = false
              cases y with
              | zero => omega
              | succ y => rfl
            show natK (Nat.mod x y) (okI kx s k) = sl
            rw [natK_eq, hsl]; show _ = toR1 (iRem kx (.ofNat x) (.ofNat y)) k s; unfold iRem; rw [e0, cond_false, e, intK_eq]; rfl
        case and =>
          refine two_eq fun hx hy => fin_eq fun h => ?_
          rw [hsl]
          show _ = toR1 (bits2 Nat.land kx (.ofNat x) (.ofNat y)) k s
          unfold bits2
          rw [imod_nat hx, imod_nat hy, intV_nat h]
          rfl
        case or =>
          refine two_eq fun hx hy => fin_eq fun h => ?_
          rw [hsl]
          show _ = toR1 (bits2 Nat.lor kx (.ofNat x) (.ofNat y)) k s
          unfold bits2
          rw [imod_nat hx, imod_nat hy, intV_nat h]
          rfl
        case xor =>
          refine two_eq fun hx hy => fin_eq fun h => ?_
          rw [hsl]
          show _ = toR1 (bits2 Nat.xor kx (.ofNat x) (.ofNat y)) k s
          unfold bits2
          rw [imod_nat hx, imod_nat hy, intV_nat h]
          rfl
        case eql => rw [hsl]; rfl
        case neq =>
          rw [hsl]
          show okB s k _ = okB s k _
          congr 1
          show @Bool.rec (fun _ => Bool) true false (Nat.beq x y) = !(Nat.beq x y)
          cases Nat.beq x y <;> rfl
        case lss => rw [hsl]; rfl
        case leq =>
          rw [hsl]
          show okB s k (Nat.ble x y) = okB s k (!(Nat.blt y x))
          rw [not_blt]
        case gtr => rw [hsl]; rfl
        case geq =>
          rw [hsl]
          show okB s k (Nat.ble y x) = okB s k (!(Nat.blt x y))
          rw [not_blt]

/-! ### The operations made ready -/
def nthq {α : Type} (i : Nat) : List α → Option α :=
  Nat.rec (motive := fun _ => List α → Option α) (fun l => @List.rec α (fun _ => Option α) none (fun x _ _ => some x) l) (fun _ ih l => @List.rec α (fun _ => Option α) none (fun _ t _ => ih t) l) i
theorem nthq_eq {α : Type} : ∀ (i : Nat) (l : List α), nthq i l = l[i]?
  | 0, [] => rfl
  | 0, _ :: _ => rfl
  | i + 1, [] => rfl
  | i + 1, x :: l => by
    show nthq i l = _
    rw [nthq_eq i l]
    simp

inductive QOp where
  | move (op : Op) (x : QO)
  | load1 (op : Op) (x : QO)
  | loadN (op : Op) (n : Nat) (x : QO)
  | store1 (op : Op) (a x : QO)
  | addr (op : Op) (off : Nat) (x : QO)
  | idxS (op : Op) (sz : Nat) (x y : QO)
  | idxA (op : Op) (m sz : Nat) (x y : QO)
  | fld1 (op : Op) (off : Nat) (x : QO)
  | idxStr (op : Op) (x y : QO)
  | bin (op : Op) (b : BinOp) (x y : QO)
  | ext (op : Op) (i : Nat) (x : QO)
  | lenS (op : Op) (x : QO)
  | lenT (op : Op) (x : QO)
  | not (op : Op) (x : QO)
  | conv (op : Op) (kd : IntKind) (x : QO)
  | chk (op : Op) (x : QO)
  | alloc (op : Op) (c : T Value) (n z : Nat)
  | call (op : Op) (f : FuncId) (args : List QO)
  | callv (f : QO) (args : List QO)
  | slow (op : Op)

abbrev CallK := FuncId → List Value → AS → K → R

def swp (k : K) (s : AS) (v : Value) : R := k v s
def ld1P (s : AS) (k : K) (b o : Nat) : R := rd1 s b o (swp k s)
def ld1 (sl : R) (s : AS) (k : K) (v : Value) : R := sPtr v (ld1P s k) sl
def ldNP (n : Nat) (s : AS) (k : K) (b o : Nat) : R := @Option.rec _ (fun _ => R) none (fun l => k (.agg ⟨l⟩) s) (rdN s b o n)
def ldN (n : Nat) (sl : R) (s : AS) (k : K) (v : Value) : R := sPtr v (ldNP n s k) sl
def stC (k : K) (s : AS) : R := k (.tuple #[]) s
def stB (sl : R) (s : AS) (k : K) (b o : Nat) (v : Value) : R := sOne v (wr1 s b o v (stC k)) sl
def stA (x : QO) (tm : Tm) (sl : R) (s : AS) (k : K) (b o : Nat) : R := evq x tm (stB sl s k b o)
def st1 (x : QO) (tm : Tm) (sl : R) (s : AS) (k : K) (v : Value) : R := sPtr v (stA x tm sl s k) sl
def adQ (b : Nat) (s : AS) (k : K) (o : Nat) : R := k (.pointer (some ⟨b, o, none⟩)) s
def adP (off : Nat) (s : AS) (k : K) (b o : Nat) : R := natK (Nat.add o off) (adQ b s k)
def ad1 (off : Nat) (sl : R) (s : AS) (k : K) (v : Value) : R := sPtr v (adP off s k) sl
def inQ (sl : R) (f : Nat → R) (n : Int) : Nat → R :=
  @Int.rec (fun _ => R → (Nat → R) → Nat → R) (fun a sl f m => @Bool.rec (fun _ => R) sl (f a) (Nat.ble (Nat.succ a) m)) (fun _ sl _ _ => sl) n sl f
def ixD (sz b o : Nat) (s : AS) (k : K) (n : Nat) : R := natK (Nat.add o (Nat.mul n sz)) (adQ b s k)
def ixC (sz : Nat) (sl : R) (s : AS) (k : K) (b o m : Nat) (_ : IntKind) (n : Int) : R := inQ sl (ixD sz b o s k) n m
def ixB (sz : Nat) (sl : R) (s : AS) (k : K) (b o m : Nat) (w : Value) : R := sInt w (ixC sz sl s k b o m) sl
def ixA (sz : Nat) (y : QO) (tm : Tm) (sl : R) (s : AS) (k : K) (b o m : Nat) : R := evq y tm (ixB sz sl s k b o m)
def ixS (sz : Nat) (y : QO) (tm : Tm) (sl : R) (s : AS) (k : K) (v : Value) : R := sSlc v (ixA sz y tm sl s k) sl
def ixP (m sz : Nat) (y : QO) (tm : Tm) (sl : R) (s : AS) (k : K) (b o : Nat) : R := ixA sz y tm sl s k b o m
def ixR (m sz : Nat) (y : QO) (tm : Tm) (sl : R) (s : AS) (k : K) (v : Value) : R := sPtr v (ixP m sz y tm sl s k) sl
def nth1 (i : Nat) (sl : R) (s : AS) (k : K) (a : Array Value) : R := @Option.rec _ (fun _ => R) sl (swp k s) (nthq i a.toList)
def fl1 (i : Nat) (sl : R) (s : AS) (k : K) (v : Value) : R := sAgg v (nth1 i sl s k) sl
def ex1 (i : Nat) (sl : R) (s : AS) (k : K) (v : Value) : R := sTup v (nth1 i sl s k) sl
def isD (sl : R) (s : AS) (k : K) (c : UInt8) : R := natK c.toNat (okI .u8 s k)
def isC (sl : R) (s : AS) (k : K) (b : ByteArray) (_ : IntKind) (n : Int) : R := @Int.rec (fun _ => R) (fun n => @Option.rec _ (fun _ => R) sl (isD sl s k) (nthq n b.data.toList)) (fun _ => sl) n
def isB (sl : R) (s : AS) (k : K) (b : ByteArray) (w : Value) : R := sInt w (isC sl s k b) sl
def isA (y : QO) (tm : Tm) (sl : R) (s : AS) (k : K) (b : ByteArray) : R := evq y tm (isB sl s k b)
def is1 (y : QO) (tm : Tm) (sl : R) (s : AS) (k : K) (v : Value) : R := sStr v (isA y tm sl s k) sl
def biC (b : BinOp) (sl : R) (s : AS) (k : K) (w : Value) (kx : IntKind) (a : Int) : R := sInt w (bin3 b sl s k kx a) sl
def biS (b : BinOp) (sl : R) (s : AS) (k : K) (w : Value) (x : ByteArray) : R := sStr w (tOf b sl s k x) sl
def biB (b : BinOp) (sl : R) (s : AS) (k : K) (v w : Value) : R := sInt v (biC b sl s k w) (sStr v (biS b sl s k w) sl)
def biA (b : BinOp) (y : QO) (tm : Tm) (sl : R) (s : AS) (k : K) (v : Value) : R := evq y tm (biB b sl s k v)
def leS (sl : R) (s : AS) (k : K) (v : Value) : R := sLen v (okI .i64 s k) sl
def leU (s : AS) (k : K) (b : ByteArray) : R := natK b.data.toList.length (okI .i64 s k)
def leT (sl : R) (s : AS) (k : K) (v : Value) : R := sStr v (leU s k) sl
def noB (s : AS) (k : K) (b : Bool) : R := k (.bool (@Bool.rec (fun _ => Bool) true false b)) s
def no1 (sl : R) (s : AS) (k : K) (v : Value) : R := sBool v (noB s k) sl
def coA (kd : IntKind) (sl : R) (s : AS) (k : K) (_ : IntKind) (n : Int) : R := @Int.rec (fun _ => R) (fin kd sl s k) (fun _ => sl) n
def co1 (kd : IntKind) (sl : R) (s : AS) (k : K) (v : Value) : R := sInt v (coA kd sl s k) sl
def ckA (v : Value) (s : AS) (k : K) (_ _ : Nat) : R := k v s
def ck1 (sl : R) (s : AS) (k : K) (v : Value) : R := sPtr v (ckA v s k) sl
def al1 (c : T Value) (n z : Nat) (h : T AObj) (k : K) (nx : Nat) : R := k (.pointer (some ⟨nx, 0, none⟩)) ⟨h.pk nx (some (.cells c n z)), Nat.succ nx⟩
def ca1 (call : CallK) (f : FuncId) (s : AS) (k : K) (vs : List Value) : R := call f vs s k
def sFun (v : Value) : (Fn → Array Value → Array Value → R) → R :=
  @Value.rec (fun _ => (Fn → Array Value → Array Value → R) → R) (fun _ => Unit) (fun _ => Unit)
    (fun _ _ => none)
    (fun _ _ _ => none)
    (fun _ _ _ => none)
    (fun _ _ _ _ => none)
    (fun _ _ => none)
    (fun _ _ => none)
    (fun _ _ _ _ => none)
    (fun _ _ => none)
    (fun _ _ => none)
    (fun f a c _ _ g => g f a c)
    (fun _ => none)
    (fun _ _ _ _ => none)
    (fun _ => none)
    (fun _ _ _ => none)
    (fun _ _ _ => none)
    (fun _ _ => ()) () (fun _ _ _ _ => ()) v
def cvC (call : CallK) (g : FuncId) (a c : Array Value) (s : AS) (k : K) (xs : List Value) : R := call g (a.toList ++ xs ++ c.toList) s k
def cvB (args : List QO) (tm : Tm) (call : CallK) (s : AS) (k : K) (f : Fn) (a c : Array Value) : R :=
  match f with
  | .func g => evsq args tm (cvC call g a c s k)
  | _ => none
def cvA (args : List QO) (tm : Tm) (call : CallK) (s : AS) (k : K) (v : Value) : R := sFun v (cvB args tm call s k)
/-- The operations, by a closed recursor. -/
def opK (op : Op) : Env → Tm → AS → Res :=
  @Op.rec (fun _ => Env → Tm → AS → Res)
    (fun x => hMove x)
    (fun x => hMove x)
    (fun c a b => hPick c a b)
    (fun t => hAlloc t)
    (fun t x => hBox x)
    (fun t ps => hBuild t ps)
    (fun t n ps => hBuildSlice t n ps)
    (fun t m k x => hMapUpdate t m k x)
    (fun t a => hLoad t a)
    (fun t a x => hStore t a x)
    (fun g => hNo)
    (fun g => hNo)
    (fun x => hNilCheck x)
    (fun b t x y u => hBin b t x y)
    (fun o t x => hUn o x)
    (fun a b x => hConv a b x)
    (fun d x => hNo)
    (fun t x => hIface t x)
    (fun f a b => hFunc f a b)
    (fun t r => hMap t r)
    (fun t n => hNo)
    (fun t l c => hMakeSlice t l c)
    (fun t x lo hi mx => hSlice t x lo hi mx)
    (fun t x f => hFieldAddr t x f)
    (fun t x f => hField t x f)
    (fun t x y => hIndexAddr t x y)
    (fun t x y => hIndex t x y)
    (fun t x y ok => hLookup t x y ok)
    (fun t m k x => hMapUpdate t m k x)
    (fun t m k => hNo)
    (fun t m a b => hNo)
    (fun t x => hRange t x)
    (fun it str => hNext it str)
    (fun it => hNo)
    (fun x u t ok => hAssert x t ok)
    (fun x i => hExtract x i)
    (fun c => hCall c)
    (fun c => hNo)
    (fun c => hNo)
    (fun x => hNo)
    (fun a b => hNo)
    (fun t a ok => hNo)
    (fun cs b => hNo)
    op
theorem opK_eq (op : Op) : opK op = opA op := by cases op <;> rfl
def slq (op : Op) (E : Env) (tm : Tm) (s : AS) (k : K) : R := toR (opK op E tm s) k

/-- The quick operation. -/
def exq (q : QOp) : Env → CallK → Tm → AS → K → R :=
  @QOp.rec (fun _ => Env → CallK → Tm → AS → K → R)
    (fun _ x _ _ tm s k => evq x tm (swp k s))
    (fun op x E _ tm s k => evq x tm (ld1 (slq op E tm s k) s k))
    (fun op n x E _ tm s k => evq x tm (ldN n (slq op E tm s k) s k))
    (fun op a x E _ tm s k => evq a tm (st1 x tm (slq op E tm s k) s k))
    (fun op off x E _ tm s k => evq x tm (ad1 off (slq op E tm s k) s k))
    (fun op sz x y E _ tm s k => evq x tm (ixS sz y tm (slq op E tm s k) s k))
    (fun op m sz x y E _ tm s k => evq x tm (ixR m sz y tm (slq op E tm s k) s k))
    (fun op off x E _ tm s k => evq x tm (fl1 off (slq op E tm s k) s k))
    (fun op x y E _ tm s k => evq x tm (is1 y tm (slq op E tm s k) s k))
    (fun op b x y E _ tm s k => evq x tm (biA b y tm (slq op E tm s k) s k))
    (fun op i x E _ tm s k => evq x tm (ex1 i (slq op E tm s k) s k))
    (fun op x E _ tm s k => evq x tm (leS (slq op E tm s k) s k))
    (fun op x E _ tm s k => evq x tm (leT (slq op E tm s k) s k))
    (fun op x E _ tm s k => evq x tm (no1 (slq op E tm s k) s k))
    (fun op kd x E _ tm s k => evq x tm (co1 kd (slq op E tm s k) s k))
    (fun op x E _ tm s k => evq x tm (ck1 (slq op E tm s k) s k))
    (fun _ c n z _ _ _ s k => natK s.nx (al1 c n z s.h k))
    (fun _ f args _ call tm s k => evsq args tm (ca1 call f s k))
    (fun x args _ call tm s k => evq x tm (cvA args tm call s k))
    (fun op E _ tm s k => slq op E tm s k) q

def mkLoad (E : Env) (t : TypeId) (a : Operand) : QOp :=
  match E.ty.get t with
    | some i => bif isAggD i.desc then .loadN (.load t a) i.size (mkO a) else .load1 (.load t a) (mkO a)
    | none => .slow (.load t a)

def mkStore (E : Env) (t : TypeId) (a x : Operand) : QOp :=
  match E.ty.get t with
    | some i => bif Nat.beq i.size 1 then .store1 (.store t a x) (mkO a) (mkO x) else .slow (.store t a x)
    | none => .slow (.store t a x)

def mkFAddr (E : Env) (t : TypeId) (x : Operand) (f : Nat) : QOp :=
  match E.ty.get t with
    | some i => match i.desc with
      | .struct fs => match fs.toList[f]? with
        | some fd => match E.ty.get fd.type with
          | some j => bif Nat.beq j.size 0 then .slow (.fieldAddr t x f) else .addr (.fieldAddr t x f) fd.offset (mkO x)
          | none => .slow (.fieldAddr t x f)
        | none => .slow (.fieldAddr t x f)
      | _ => .slow (.fieldAddr t x f)
    | none => .slow (.fieldAddr t x f)

def mkIAddr (E : Env) (t : TypeId) (x y : Operand) : QOp :=
  match E.ty.get t with
    | some i => match i.desc with
      | .slice e => match E.ty.get e with
        | some j => .idxS (.indexAddr t x y) j.size (mkO x) (mkO y)
        | none => .slow (.indexAddr t x y)
      | .array m e => match E.ty.get e with
        | some j => .idxA (.indexAddr t x y) m j.size (mkO x) (mkO y)
        | none => .slow (.indexAddr t x y)
      | _ => .slow (.indexAddr t x y)
    | none => .slow (.indexAddr t x y)

def mkField (E : Env) (t : TypeId) (x : Operand) (f : Nat) : QOp :=
  match E.ty.get t with
    | some i => match i.desc with
      | .struct fs => match fs.toList[f]? with
        | some fd => match E.ty.get fd.type with
          | some j => bif isAggD j.desc then .slow (.field t x f) else .fld1 (.field t x f) fd.offset (mkO x)
          | none => .slow (.field t x f)
        | none => .slow (.field t x f)
      | _ => .slow (.field t x f)
    | none => .slow (.field t x f)

def mkIndex (E : Env) (t : TypeId) (x y : Operand) : QOp :=
  match E.ty.get t with
    | some i => match i.desc with
      | .string => .idxStr (.index t x y) (mkO x) (mkO y)
      | _ => .slow (.index t x y)
    | none => .slow (.index t x y)

def mkConv (E : Env) (a b : TypeId) (x : Operand) : QOp :=
  match E.ty.get a, E.ty.get b with
    | some _, some di => match di.desc with
      | .int kd => .conv (.convert a b x) kd (mkO x)
      | _ => .slow (.convert a b x)
    | _, _ => .slow (.convert a b x)

def mkAlloc (E : Env) (t : TypeId) : QOp :=
  match E.ty.get t with
    | some i => .alloc (.alloc t) (T.e.fill 0 i.zero) i.zero.length (tz 0 t)
    | none => .slow (.alloc t)

def mkLen (E : Env) (xs : Array Operand) (ts : Array TypeId) : QOp :=
  match xs.toList, ts.toList with
    | [x], t :: _ => match E.ty.get t with
      | some i => match i.desc with
        | .slice _ => .lenS (.call ⟨.builtin .len, xs, ts⟩) (mkO x)
        | .string => .lenT (.call ⟨.builtin .len, xs, ts⟩) (mkO x)
        | _ => .slow (.call ⟨.builtin .len, xs, ts⟩)
      | none => .slow (.call ⟨.builtin .len, xs, ts⟩)
    | _, _ => .slow (.call ⟨.builtin .len, xs, ts⟩)

def mkCall (E : Env) (c : Call) : QOp :=
  match c with
  | ⟨.builtin .len, xs, ts⟩ => mkLen E xs ts
  | ⟨.value (.func f), xs, ts⟩ => .call (.call ⟨.value (.func f), xs, ts⟩) f (xs.toList.map mkO)
  | ⟨.value f, xs, _⟩ => .callv (mkO f) (xs.toList.map mkO)
  | c => .slow (.call c)
def mkUn (o : UnOp) (t : TypeId) (x : Operand) : QOp :=
  match o with
  | .not => .not (.unOp .not t x) (mkO x)
  | o => .slow (.unOp o t x)

/-- An operation made ready. -/
def mkOp (E : Env) (op : Op) : QOp :=
  @Op.rec (fun _ => Env → QOp)
    (fun x E => .move (.move x) (mkO x))
    (fun x E => .move (.assign x) (mkO x))
    (fun c a b E => .slow (.pick c a b))
    (fun t E => mkAlloc E t)
    (fun t x E => .slow (.box t x))
    (fun t ps E => .slow (.build t ps))
    (fun t n ps E => .slow (.buildSlice t n ps))
    (fun t m k x E => .slow (.insert t m k x))
    (fun t a E => mkLoad E t a)
    (fun t a x E => mkStore E t a x)
    (fun g E => .slow (.ready g))
    (fun g E => .slow (.waits g))
    (fun x E => .chk (.nilCheck x) (mkO x))
    (fun b t x y u E => .bin (.binOp b t x y u) b (mkO x) (mkO y))
    (fun o t x E => mkUn o t x)
    (fun a b x E => mkConv E a b x)
    (fun d x E => .slow (.sliceToArrayPointer d x))
    (fun t x E => .slow (.makeInterface t x))
    (fun f a b E => .slow (.makeFunc f a b))
    (fun t r E => .slow (.makeMap t r))
    (fun t n E => .slow (.makeChan t n))
    (fun t l c E => .slow (.makeSlice t l c))
    (fun t x lo hi mx E => .slow (.slice t x lo hi mx))
    (fun t x f E => mkFAddr E t x f)
    (fun t x f E => mkField E t x f)
    (fun t x y E => mkIAddr E t x y)
    (fun t x y E => mkIndex E t x y)
    (fun t x y ok E => .slow (.lookup t x y ok))
    (fun t m k x E => .slow (.mapUpdate t m k x))
    (fun t m k E => .slow (.mapEntry t m k))
    (fun t m a b E => .slow (.entryStore t m a b))
    (fun t x E => .slow (.range t x))
    (fun it str E => .slow (.next it str))
    (fun it E => .slow (.entry it))
    (fun x u t ok E => .slow (.typeAssert x u t ok))
    (fun x i E => .ext (.extract x i) i (mkO x))
    (fun c E => mkCall E c)
    (fun c E => .slow (.go c))
    (fun c E => .slow (.defer c))
    (fun x E => .slow (.panic x))
    (fun a b E => .slow (.send a b))
    (fun t a ok E => .slow (.recv t a ok))
    (fun cs b E => .slow (.select cs b))
    op E
end
end Go.Ax
