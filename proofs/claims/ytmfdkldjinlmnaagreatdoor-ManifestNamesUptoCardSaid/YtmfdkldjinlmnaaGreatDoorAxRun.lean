/- An abstract machine for the operations of a Go program: regions, code, calls. -/
import Derived.Test.YtmfdkldjinlmnaaGreatDoorAxOps
set_option linter.unusedVariables false
set_option linter.unusedSimpArgs false
namespace Go.Ax
open Go
noncomputable section

inductive X where
  | nor
  | exit (i : Nat)
  | ret

abbrev CallF := FuncId → List Value → AS → Option (Value × AS)

def wantedA (ops : List Oper) (tm : Tm) (o : Oper) : Option Bool :=
  match o.guard with
  | none => some true
  | some (j, want) => match ops[j]? with
    | some o' => match o'.dst with
      | some d => match tm.get d with
        | some (.bool b) => some (b == want)
        | some _ => some false
        | none => none
      | none => none
    | none => none

/-- A call of a function's value. -/
def callV (f : Operand) (args : List Operand) (call : CallF) (tm : Tm) (s : AS) : Option (Value × AS) :=
  match ev tm f, evs tm args with
  | some (.func (.func g) first captured), some xs => call g (first.toList ++ xs ++ captured.toList) s
  | _, _ => none
def callC (c : Call) (E : Env) (call : CallF) (tm : Tm) (s : AS) : Option (Value × AS) :=
  match c.callee with
  | .value f => callV f c.args.toList call tm s
  | _ => hCall c E tm s
/-- An operation, a call of a function among them. -/
def execA (op : Op) (E : Env) (call : CallF) (tm : Tm) (s : AS) : Option (Value × AS) :=
  match op with
  | .call c => callC c E call tm s
  | op => opA op E tm s

/- N: the greatest slot. -/
def putA (N : Nat) (tm : Tm) (dst : Option Tmp) (v : Value) : Option Tm :=
  match dst with
  | none => some tm
  | some d => bif Nat.ble d N then some (tm.set d v) else none

/-- Operations one behind the other. -/
def runL (E : Env) (call : CallF) (N : Nat) (ops : List Oper) (l : List Oper) : Tm → AS → Option (Tm × AS) :=
  List.rec (motive := fun _ => Tm → AS → Option (Tm × AS)) (fun tm s => some (tm, s)) (fun o _ ih tm s =>
    match wantedA ops tm o with
    | none => none
    | some false => match putA N tm o.dst undef with
      | none => none
      | some tm' => ih tm' s
    | some true => match execA o.op E call tm s with
      | none => none
      | some (v, s') => match putA N tm o.dst v with
        | none => none
        | some tm' => ih tm' s') l

/-! ### Regions that draw their order -/
/-- Does it make a block, and look at nothing but its operands? -/
def isNew : Op → Bool
  | .alloc _ | .box _ _ | .buildSlice _ _ _ | .makeMap _ _ | .makeSlice _ _ _ => true
  | _ => false

def toNum (ty : T TI) (t : TypeId) : Bool :=
  match ty.get t with
  | some i => match i.desc with
    | .int _ | .float _ => true
    | _ => false
  | none => false

/-- Does it act? -/
def eff (ty : T TI) : Op → Bool
  | .store _ _ _ | .mapUpdate _ _ _ _ | .insert _ _ _ _ | .range _ _ | .next _ _ => true
  | .convert _ t _ => !toNum ty t
  | .call ⟨.builtin .len, _, _⟩ | .call ⟨.builtin .cap, _, _⟩ | .call ⟨.builtin .max, _, _⟩ | .call ⟨.builtin .min, _, _⟩ => false
  | .call _ => true
  | _ => false

def slotsOf : List Operand → List Nat
  | [] => []
  | .tmp i :: l => i :: slotsOf l
  | _ :: l => slotsOf l

/-- The slots that an operation looks at. -/
def looks (ops : List Oper) (o : Oper) : List Nat :=
  slotsOf o.op.operands.toList ++ (match o.guard with
    | none => []
    | some (j, _) => match ops[j]? with
      | some o' => o'.dst.toList
      | none => [])

def bindsE (e : Edge) : Bool :=
  match e.ground with
  | .textOnly _ | .gcOnly _ => false
  | _ => true

/-- For each operation those that must come ahead of it, as bits. -/
def ancs : List Oper → List Nat → List Nat
  | [], acc => acc
  | o :: l, acc => ancs l (acc ++ [(o.after.toList.filter bindsE).foldl (fun b e => b ||| 2 ^ e.on ||| acc.getD e.on 0) 0])

def plainEdge (i : Nat) (e : Edge) : Bool := !bindsE e || Nat.blt e.on i

def pairOk (ty : T TI) (ops : List Oper) (an : List Nat) (i : Nat) (o : Oper) (j : Nat) (p : Oper) : Bool :=
  bif Nat.blt i j then (
    (bif eff ty o.op && eff ty p.op then (an.getD j 0).testBit i else true) &&
    (match o.dst with
      | some d => bif (looks ops p).contains d || p.dst == some d then (an.getD j 0).testBit i else true
      | none => true) &&
    (match p.dst with
      | some d => bif (looks ops o).contains d then (an.getD j 0).testBit i else true
      | none => true)) else true

def regOk (ty : T TI) (ops : List Oper) : Bool :=
  (ops.zipIdx.all fun (o, i) => o.after.toList.all (plainEdge i) && (match o.op with | .select _ _ => false | _ => true)) &&
  (fun an => ops.zipIdx.all fun (o, i) => ops.zipIdx.all fun (p, j) => pairOk ty ops an i o j p) (ancs ops [])

/-- Equality of plain values and of addresses, and of structs of these. -/
def veq1 : Value → Value → Bool
  | .bool a, .bool b => a == b
  | .int k a, .int l b => k == l && a == b
  | .float k a, .float l b => k == l && a == b
  | .string a, .string b => a == b
  | .pointer a, .pointer b => a == b
  | .slice a n c, .slice b m d => a == b && n == m && c == d
  | .map a, .map b => a == b
  | .nilFunc, .nilFunc => true
  | .nilIface, .nilIface => true
  | _, _ => false
def veqs : List Value → List Value → Bool
  | [], [] => true
  | a :: l, b :: m => veq1 a b && veqs l m
  | _, _ => false
def veq : Value → Value → Bool
  | .agg a, .agg b => veqs a.toList b.toList
  | a, b => veq1 a b

/-- Does it look at memory? -/
def sees : Op → Bool
  | .slice _ _ _ _ _ | .load _ _ | .lookup _ _ _ _ | .binOp _ _ _ _ _ | .call _ | .nilCheck _ | .typeAssert _ _ _ _ | .waits _ | .entry _ => true
  | _ => false

/-- What a new block's operation answers, and the block. -/
def newA (op : Op) (E : Env) (tm : Tm) (b : Nat) : Option (Value × AObj) :=
  match opA op E tm ⟨.e, b⟩ with
  | none => none
  | some (v, s') => match s'.h.get b with
    | none => none
    | some o => some (v, o)

/-- New blocks, each with its place in the region. -/
abbrev News := List (Nat × AObj)

/-- Of the new blocks those of these places are laid, if they aren't yet. -/
def laid (base bits : Nat) (news : News) (s : AS) : AS :=
  news.foldl (fun s (x : Nat × AObj) => bif bits.testBit x.1 then (match s.h.get (base + x.1) with
    | none => s.upd (base + x.1) x.2
    | some _ => s) else s) s

structure Rec where
  i : Nat
  o : Oper
  tm : Tm
  v : Value
  news : News

/-- The lexical order, with the states between the operations that act, and what was read. -/
def runD (E : Env) (call : CallF) (N : Nat) (ops : List Oper) (an : List Nat) (base : Nat) (l : List Oper) : Nat → Tm → AS → List AS → List Rec → News → Option (Tm × AS × List AS × List Rec × News) :=
  List.rec (motive := fun _ => Nat → Tm → AS → List AS → List Rec → News → Option (Tm × AS × List AS × List Rec × News)) (fun _ tm s ss rs nw => some (tm, s, ss, rs, nw)) (fun o _ ih i tm s ss rs nw =>
    match wantedA ops tm o with
    | none => none
    | some false => match putA N tm o.dst undef with
      | none => none
      | some tm' => ih (i + 1) tm' s (bif eff E.ty o.op then ss ++ [s] else ss) rs nw
    | some true => bif isNew o.op then (natK (base + i) fun b => match newA o.op E tm b with
        | none => none
        | some (v, x) => match putA N tm o.dst v with
          | none => none
          | some tm' => ih (i + 1) tm' s ss rs (nw ++ [(i, x)]))
      else match execA o.op E call tm (laid base (an.getD i 0) nw s) with
      | none => none
      | some (v, s') => match putA N tm o.dst v with
        | none => none
        | some tm' => bif eff E.ty o.op then ih (i + 1) tm' s' (ss ++ [s']) rs nw else ih (i + 1) tm' s ss (⟨i, o, tm, v, nw⟩ :: rs) nw) l

/-- How many of those that act are among these bits; and how many are not held back by number i. -/
def effIn (ty : T TI) (ops : List Oper) (bits : Nat) : Nat := ((ops.zipIdx.filter fun (o, j) => eff ty o.op && bits.testBit j)).length
def effNot (ty : T TI) (ops : List Oper) (an : List Nat) (i : Nat) : Nat := ((ops.zipIdx.filter fun (o, j) => eff ty o.op && !(an.getD j 0).testBit i)).length

def readOk (E : Env) (ops : List Oper) (an : List Nat) (base : Nat) (ss : List AS) (r : Rec) : Bool :=
  bif !sees r.o.op then true else ss.zipIdx.all fun (s, m) => bif Nat.ble (effIn E.ty ops (an.getD r.i 0)) m && Nat.ble m (effNot E.ty ops an r.i) then (match opA r.o.op E r.tm (laid base (an.getD r.i 0) r.news s) with
    | some (v, _) => veq v r.v
    | none => false) else true

def allBits (n : Nat) : Nat := 2 ^ n - 1

def drawnA (E : Env) (call : CallF) (N : Nat) (ops : List Oper) (tm : Tm) (s : AS) : Option (Tm × AS) :=
  bif (ops.any fun o => eff E.ty o.op || isNew o.op) then (natK (s.nx + ops.length) fun nx => match runD E call N ops (ancs ops []) s.nx ops 0 tm ⟨s.h, nx⟩ [⟨s.h, nx⟩] [] [] with
    | none => none
    | some (tm', s', ss, rs, nw) => bif rs.all (readOk E ops (ancs ops []) s.nx ss) then some (tm', laid s.nx (allBits ops.length) nw s') else none)
  else runL E call N ops ops tm s

/-! ### Code -/
abbrev CRes := Option (X × Tm × AS)
abbrev Run := Code → Tm → AS → CRes

def cSkip (_ : Env) (_ : CallF) (_ : Nat) (_ : Run) (tm : Tm) (s : AS) : CRes := some (.nor, tm, s)
def cRegion (ops : Array Oper) (draw : Bool) (E : Env) (call : CallF) (N : Nat) (_ : Run) (tm : Tm) (s : AS) : CRes :=
  match (bif draw then drawnA E call N ops.toList tm s else runL E call N ops.toList ops.toList tm s) with
  | none => none
  | some (tm', s') => some (.nor, tm', s')
def cSeq (a b : Code) (_ : Env) (_ : CallF) (_ : Nat) (ih : Run) (tm : Tm) (s : AS) : CRes :=
  match ih a tm s with
  | none => none
  | some (x, tm', s') => match x with
    | .nor => ih b tm' s'
    | x => some (x, tm', s')
def cCond (x : Operand) (a b : Code) (_ : Env) (_ : CallF) (_ : Nat) (ih : Run) (tm : Tm) (s : AS) : CRes :=
  match ev tm x with
  | some (.bool t) => ih (bif t then a else b) tm s
  | _ => none
def cBlock (i : Nat) (b : Code) (_ : Env) (_ : CallF) (_ : Nat) (ih : Run) (tm : Tm) (s : AS) : CRes :=
  match ih b tm s with
  | none => none
  | some (x, tm', s') => match x with
    | .exit j => bif Nat.beq j i then some (.nor, tm', s') else some (.exit j, tm', s')
    | x => some (x, tm', s')
def cLoop (b : Code) (_ : Env) (_ : CallF) (_ : Nat) (ih : Run) (tm : Tm) (s : AS) : CRes :=
  match ih b tm s with
  | none => none
  | some (x, tm', s') => match x with
    | .nor => ih (.loop b) tm' s'
    | x => some (x, tm', s')
def cExit (i : Nat) (_ : Env) (_ : CallF) (_ : Nat) (_ : Run) (tm : Tm) (s : AS) : CRes := some (.exit i, tm, s)
def cRet (_ : Env) (_ : CallF) (_ : Nat) (_ : Run) (tm : Tm) (s : AS) : CRes := some (.ret, tm, s)
/-- A range over an iterator that has nothing to give. -/
def cRange (f : Operand) (E : Env) (_ : CallF) (_ : Nat) (_ : Run) (tm : Tm) (s : AS) : CRes :=
  match ev tm f with
  | some (.func (.func g) ⟨[]⟩ ⟨[.pointer (some p)]⟩) => bif E.back g then (match rd s p.block p.off with
    | some (.slice _ 0 _) => some (.nor, tm, s)
    | _ => none) else none
  | _ => none
def cNo (_ : Env) (_ : CallF) (_ : Nat) (_ : Run) (_ : Tm) (_ : AS) : CRes := none

def stepC (c : Code) : Env → CallF → Nat → Run → Tm → AS → CRes :=
  match c with
  | .skip => cSkip
  | .region _ ops draw => cRegion ops draw
  | .seq a b => cSeq a b
  | .cond x a b => cCond x a b
  | .block i b => cBlock i b
  | .loop b => cLoop b
  | .exit i => cExit i
  | .ret => cRet
  | .rangeFunc f _ _ _ => cRange f
  | _ => cNo

def codeA (E : Env) (call : CallF) (N : Nat) (F : Nat) : Run :=
  Nat.rec (motive := fun _ => Run) (fun _ _ _ => none) (fun _ ih c tm s => stepC c E call N ih tm s) F

def resA (E : Env) (tm : Tm) (s : AS) : List ResultVar → Option (List Value)
  | [] => some []
  | r :: l => match (match r with
      | .tmp t => tm.get t
      | .cell a t => match E.ty.get t, tm.get a with
        | some i, some (.pointer (some p)) => bif isAggD i.desc then (match rdN s p.block p.off i.size with
          | some l => some (.agg ⟨l⟩)
          | none => none) else rd s p.block p.off
        | _, _ => none) with
    | none => none
    | some v => match resA E tm s l with
      | none => none
      | some vs => some (v :: vs)

def packA : List Value → Value
  | [v] => v
  | l => .tuple ⟨l⟩

def callA (E : Env) (F : Nat) (D : Nat) : CallF :=
  Nat.rec (motive := fun _ => CallF) (fun _ _ _ => none) (fun _ ih f args s =>
    match E.prim.get f with
    | some p => p args s
    | none => match E.fn.get f with
      | none => none
      | some fn => match fn.body with
        | none => none
        | some c => bif Nat.beq fn.ntmps 0 then none else natK (Nat.pred fn.ntmps) fun N => match codeA E ih N F c (T.e.fill 0 args) s with
          | some (.exit _, _, _) => none
          | none => none
          | some (_, tm, s') => match resA E tm s' fn.results.toList with
            | none => none
            | some vs => some (packA vs, s')) D

end
end Go.Ax
