/- The machine, quick in the kernel, part 5: regions, code, calls. -/
import Derived.Test.YtmfdkldjinlmnaaGreatDoorAxQ4
set_option linter.unusedVariables false
set_option linter.unusedSimpArgs false
namespace Go.Ax
open Go
noncomputable section

/-! ### Slots that are filled, guards -/
inductive QD where
  | no
  | t (p : Pth)
  | bad
def mkD (N : Nat) (dst : Option Tmp) : QD :=
  match dst with
  | none => .no
  | some d => bif Nat.ble d N then .t (path d) else .bad
def putq (d : QD) : Tm → Value → (Tm → R) → R :=
  @QD.rec (fun _ => Tm → Value → (Tm → R) → R) (fun tm _ k => k tm) (fun p tm v k => k (T.pp (some v) p tm)) (fun _ _ _ => none) d
theorem putq_eq (N : Nat) (dst : Option Tmp) (tm : Tm) (v : Value) (k : Tm → R) : putq (mkD N dst) tm v k = match putA N tm dst v with
    | none => none
    | some tm' => k tm' := by
  cases dst with
  | none => rfl
  | some d =>
    unfold mkD putA
    simp only
    cases Nat.ble d N with
    | false => rfl
    | true =>
      show k (T.pp (some v) (pathN d d) tm) = k (tm.set d v)
      rw [T.pp_path (some v) d d tm (Nat.le_refl _)]
      rfl

inductive QG where
  | no
  | g (p : Pth) (want : Bool)
  | bad
def gqB (want : Bool) (y n : R) (b : Bool) : R := @Bool.rec (fun _ => R) (@Bool.rec (fun _ => R) y n want) (@Bool.rec (fun _ => R) n y want) b
def gqA (want : Bool) (y n : R) (v : Value) : R := sBool v (gqB want y n) n
def gq (g : QG) : Tm → R → R → R :=
  @QG.rec (fun _ => Tm → R → R → R) (fun _ y _ => y) (fun p want tm y n => @Option.rec _ (fun _ => R) none (gqA want y n) (T.gp p tm)) (fun _ _ _ => none) g
def mkG (ops : List Oper) (o : Oper) : QG :=
  match o.guard with
  | none => .no
  | some (j, want) => match ops[j]? with
    | some o' => match o'.dst with
      | some d => .g (path d) want
      | none => .bad
    | none => .bad
theorem gq_eq (ops : List Oper) (o : Oper) (tm : Tm) (y n : R) : gq (mkG ops o) tm y n = match wantedA ops tm o with
    | none => none
    | some false => n
    | some true => y := by
  unfold mkG wantedA
  cases o.guard with
  | none => rfl
  | some jw =>
    obtain ⟨j, want⟩ := jw
    simp only
    cases ops[j]? with
    | none => rfl
    | some o' =>
      simp only
      cases o'.dst with
      | none => rfl
      | some d =>
        show @Option.rec _ (fun _ => R) none (gqA want y n) (T.gp (pathN d d) tm) = _
        rw [T.gp_path d d tm (Nat.le_refl _)]
        simp only
        cases tm.get d with
        | none => rfl
        | some v =>
          cases v <;> first | rfl | skip
          rename_i b
          cases b <;> cases want <;> rfl

/-! ### Operations one behind the other -/
structure QPer where
  q : QOp
  d : QD
  g : QG
def mkPer (E : Env) (N : Nat) (ops : List Oper) (o : Oper) : QPer := ⟨mkOp E o.op, mkD N o.dst, mkG ops o⟩
abbrev RunK := Env → CallK → Tm → AS → (Tm → AS → R) → R
def nxB (ih : RunK) (E : Env) (call : CallK) (s : AS) (k : Tm → AS → R) (tm : Tm) : R := ih E call tm s k
def nxA (ih : RunK) (E : Env) (call : CallK) (d : QD) (tm : Tm) (k : Tm → AS → R) (v : Value) (s : AS) : R := putq d tm v (nxB ih E call s k)
def perA (ih : RunK) (q : QOp) (d : QD) (g : QG) : RunK := fun E call tm s k => gq g tm (exq q E call tm s (nxA ih E call d tm k)) (putq d tm undef (nxB ih E call s k))
def perq (o : QPer) (ih : RunK) : RunK := @QPer.rec (fun _ => RunK) (perA ih) o
def runq (l : List QPer) : RunK := @List.rec _ (fun _ => RunK) (fun _ _ tm s k => k tm s) (fun o _ ih => perq o ih) l

theorem runq_eq {E : Env} {call : CallF} {callk : CallK} (hc : ∀ f xs s k, callk f xs s k = toR (call f xs s) k) (N : Nat) (ops : List Oper) :
    ∀ (l : List Oper) (tm : Tm) (s : AS) (k : Tm → AS → R), runq (l.map (mkPer E N ops)) E callk tm s k = match runL E call N ops l tm s with
      | none => none
      | some (tm', s') => k tm' s'
  | [], _, _, _ => rfl
  | o :: l, tm, s, k => by
    have ih := runq_eq (E := E) hc N ops l
    have hr : runL E call N ops (o :: l) tm s = match wantedA ops tm o with
      | none => none
      | some false => match putA N tm o.dst undef with
        | none => none
        | some tm' => runL E call N ops l tm' s
      | some true => match execA o.op E call tm s with
        | none => none
        | some (v, s') => match putA N tm o.dst v with
          | none => none
          | some tm' => runL E call N ops l tm' s' := rfl
    rw [hr]
    show gq (mkG ops o) tm (exq (mkOp E o.op) E callk tm s _) (putq (mkD N o.dst) tm undef _) = _
    rw [gq_eq, exq_eq hc, putq_eq]
    cases wantedA ops tm o with
    | none => rfl
    | some b =>
      cases b with
      | false =>
        simp only
        cases putA N tm o.dst undef with
        | none => rfl
        | some tm' => exact ih tm' s k
      | true =>
        simp only
        cases execA o.op E call tm s with
        | none => rfl
        | some p =>
          obtain ⟨v, s'⟩ := p
          show putq (mkD N o.dst) tm v _ = _
          rw [putq_eq]
          simp only
          cases putA N tm o.dst v with
          | none => rfl
          | some tm' => exact ih tm' s' k

/-! ### Regions -/
inductive QReg where
  | plain (l : List QPer)
  | drawn (N : Nat) (ops : List Oper)
def pairK : K := fun v s => some (v, s)
def dirq (call : CallK) : CallF := fun f xs s => call f xs s pairK
def drqB (r : Option (Tm × AS)) (k : Tm → AS → R) : R := @Option.rec _ (fun _ => R) none (fun p => k p.1 p.2) r
def regq (r : QReg) : RunK :=
  @QReg.rec (fun _ => RunK) (fun l => runq l) (fun N ops E call tm s k => drqB (drawnA E (dirq call) N ops tm s) k) r
def mkReg (E : Env) (N : Nat) (ops : List Oper) (draw : Bool) : QReg :=
  bif draw && (ops.any fun o => eff E.ty o.op || isNew o.op) then .drawn N ops else .plain (ops.map (mkPer E N ops))

theorem toR_pair (r : R) : toR r pairK = r := by
  cases r with
  | none => rfl
  | some p => obtain ⟨v, s⟩ := p; rfl
theorem dirq_eq {call : CallF} {callk : CallK} (hc : ∀ f xs s k, callk f xs s k = toR (call f xs s) k) : dirq callk = call := by
  funext f xs s
  unfold dirq
  rw [hc, toR_pair]

theorem regq_eq {E : Env} {call : CallF} {callk : CallK} (hc : ∀ f xs s k, callk f xs s k = toR (call f xs s) k) (N : Nat) (ops : List Oper) (draw : Bool) (tm : Tm) (s : AS) (k : Tm → AS → R) :
    regq (mkReg E N ops draw) E callk tm s k = match (bif draw then drawnA E call N ops tm s else runL E call N ops ops tm s) with
      | none => none
      | some (tm', s') => k tm' s' := by
  unfold mkReg
  cases draw with
  | false => exact runq_eq hc N ops ops tm s k
  | true =>
    simp only [Bool.true_and, cond_true]
    cases ha : ops.any fun o => eff E.ty o.op || isNew o.op with
    | false =>
      have : drawnA E call N ops tm s = runL E call N ops ops tm s := by
        unfold drawnA
        rw [ha, cond_false]
      rw [this]
      exact runq_eq hc N ops ops tm s k
    | true =>
      show drqB (drawnA E (dirq callk) N ops tm s) k = _
      rw [dirq_eq hc]
      cases drawnA E call N ops tm s <;> rfl

/-! ### Code -/
inductive QCode where
  | skip
  | reg (r : QReg)
  | seq (a b : QCode)
  | cond (x : QO) (a b : QCode)
  | block (i : Nat) (b : QCode)
  | loop (b : QCode)
  | exit (i : Nat)
  | ret
  | rng (f : Operand)
  | no
def mkC (E : Env) (N : Nat) (c : Code) : QCode :=
  match c with
  | .skip => .skip
  | .region _ ops draw => .reg (mkReg E N ops.toList draw)
  | .seq a b => .seq (mkC E N a) (mkC E N b)
  | .cond x a b => .cond (mkO x) (mkC E N a) (mkC E N b)
  | .block i b => .block i (mkC E N b)
  | .loop b => .loop (mkC E N b)
  | .exit i => .exit i
  | .ret => .ret
  | .rangeFunc f _ _ _ => .rng f
  | _ => .no

abbrev KX := X → Tm → AS → R
abbrev RunX := QCode → Tm → AS → KX → R
def sqK (b : QCode) (ih : RunX) (k : KX) (x : X) : Tm → AS → R :=
  @X.rec (fun _ => QCode → RunX → KX → Tm → AS → R) (fun b ih k tm s => ih b tm s k) (fun i _ _ k tm s => k (.exit i) tm s) (fun _ _ k tm s => k .ret tm s) x b ih k
def bkK (i : Nat) (k : KX) (x : X) : Tm → AS → R :=
  @X.rec (fun _ => Nat → KX → Tm → AS → R) (fun _ k tm s => k .nor tm s) (fun j i k tm s => @Bool.rec (fun _ => R) (k (.exit j) tm s) (k .nor tm s) (Nat.beq j i)) (fun _ k tm s => k .ret tm s) x i k
def cdB (a b : QCode) (ih : RunX) (tm : Tm) (s : AS) (k : KX) (t : Bool) : R := @Bool.rec (fun _ => R) (ih b tm s k) (ih a tm s k) t
def cdA (a b : QCode) (ih : RunX) (tm : Tm) (s : AS) (k : KX) (v : Value) : R := sBool v (cdB a b ih tm s k) none
def rngq (f : Operand) (E : Env) (tm : Tm) (s : AS) (k : KX) : R :=
  @Option.rec _ (fun _ => R) none (fun p => k p.1 p.2.1 p.2.2) (cRange f E (fun _ _ _ => none) 0 (fun _ _ _ => none) tm s)
def stepq (c : QCode) : Env → CallK → RunX → Tm → AS → KX → R :=
  @QCode.rec (fun _ => Env → CallK → RunX → Tm → AS → KX → R)
    (fun _ _ _ tm s k => k .nor tm s)
    (fun r E call _ tm s k => regq r E call tm s (k .nor))
    (fun a b _ _ _ _ ih tm s k => ih a tm s (sqK b ih k))
    (fun x a b _ _ _ _ ih tm s k => evq x tm (cdA a b ih tm s k))
    (fun i b _ _ _ ih tm s k => ih b tm s (bkK i k))
    (fun b _ _ _ ih tm s k => ih b tm s (sqK (.loop b) ih k))
    (fun i _ _ _ tm s k => k (.exit i) tm s)
    (fun _ _ _ tm s k => k .ret tm s)
    (fun f E _ _ tm s k => rngq f E tm s k)
    (fun _ _ _ _ _ _ => none) c
def codeq (E : Env) (call : CallK) (F : Nat) : RunX :=
  Nat.rec (motive := fun _ => RunX) (fun _ _ _ _ => none) (fun _ ih c tm s k => stepq c E call ih tm s k) F

def toX (r : CRes) (k : KX) : R := match r with
  | none => none
  | some (x, tm, s) => k x tm s

theorem codeq_eq {E : Env} {call : CallF} {callk : CallK} (hc : ∀ f xs s k, callk f xs s k = toR (call f xs s) k) (N : Nat) :
    ∀ (F : Nat) (c : Code) (tm : Tm) (s : AS) (k : KX), codeq E callk F (mkC E N c) tm s k = toX (codeA E call N F c tm s) k
  | 0, _, _, _, _ => rfl
  | F + 1, c, tm, s, k => by
    have ih := codeq_eq (E := E) hc N F
    show stepq (mkC E N c) E callk (codeq E callk F) tm s k = toX (stepC c E call N (codeA E call N F) tm s) k
    cases c with
    | skip => rfl
    | region i ops draw =>
      show regq (mkReg E N ops.toList draw) E callk tm s (k .nor) = toX (cRegion ops draw E call N (codeA E call N F) tm s) k
      rw [regq_eq hc]
      unfold cRegion
      cases (bif draw then drawnA E call N ops.toList tm s else runL E call N ops.toList ops.toList tm s) <;> rfl
    | seq a b =>
      show codeq E callk F (mkC E N a) tm s (sqK (mkC E N b) (codeq E callk F) k) = toX (cSeq a b E call N (codeA E call N F) tm s) k
      rw [ih]
      unfold cSeq
      cases codeA E call N F a tm s with
      | none => rfl
      | some r =>
        obtain ⟨x, tm', s'⟩ := r
        cases x with
        | nor => exact ih b tm' s' k
        | exit i => rfl
        | ret => rfl
    | cond x a b =>
      show evq (mkO x) tm (cdA (mkC E N a) (mkC E N b) (codeq E callk F) tm s k) = toX (cCond x a b E call N (codeA E call N F) tm s) k
      rw [evq_eq]
      unfold cCond
      cases ev tm x with
      | none => rfl
      | some v =>
        show sBool v _ none = _
        cases v <;> first | rfl | skip
        rename_i t
        cases t with
        | true => exact ih a tm s k
        | false => exact ih b tm s k
    | block i b =>
      show codeq E callk F (mkC E N b) tm s (bkK i k) = toX (cBlock i b E call N (codeA E call N F) tm s) k
      rw [ih]
      unfold cBlock
      cases codeA E call N F b tm s with
      | none => rfl
      | some r =>
        obtain ⟨x, tm', s'⟩ := r
        cases x with
        | nor => rfl
        | exit j =>
          show @Bool.rec (fun _ => R) (k (.exit j) tm' s') (k .nor tm' s') (Nat.beq j i) = toX (bif Nat.beq j i then some (.nor, tm', s') else some (.exit j, tm', s')) k
          cases Nat.beq j i <;> rfl
        | ret => rfl
    | loop b =>
      show codeq E callk F (mkC E N b) tm s (sqK (mkC E N (.loop b)) (codeq E callk F) k) = toX (cLoop b E call N (codeA E call N F) tm s) k
      rw [ih]
      unfold cLoop
      cases codeA E call N F b tm s with
      | none => rfl
      | some r =>
        obtain ⟨x, tm', s'⟩ := r
        cases x with
        | nor => exact ih (.loop b) tm' s' k
        | exit i => rfl
        | ret => rfl
    | exit i => rfl
    | ret => rfl
    | rangeFunc f ps a b =>
      show rngq f E tm s k = toX (cRange f E call N (codeA E call N F) tm s) k
      have : cRange f E (fun _ _ _ => none) 0 (fun _ _ _ => none) tm s = cRange f E call N (codeA E call N F) tm s := rfl
      unfold rngq
      rw [this]
      cases cRange f E call N (codeA E call N F) tm s <;> rfl
    | _ => rfl

/-! ### Calls -/
inductive QRes where
  | one (p : Pth)
  | many (l : List QO)
  | slow (l : List ResultVar)
def tmpsOf : List ResultVar → Option (List Nat)
  | [] => some []
  | .tmp t :: l => match tmpsOf l with
    | some ts => some (t :: ts)
    | none => none
  | _ :: _ => none
def mkRes (l : List ResultVar) : QRes :=
  match tmpsOf l with
  | some [t] => .one (path t)
  | some ts => .many (ts.map fun t => .t (path t))
  | none => .slow l
def rsB (k : K) (s : AS) (vs : List Value) : R := k (packA vs) s
def resq (r : QRes) : Env → Tm → AS → K → R :=
  @QRes.rec (fun _ => Env → Tm → AS → K → R) (fun p _ tm s k => @Option.rec _ (fun _ => R) none (swp k s) (T.gp p tm)) (fun l _ tm s k => evsq l tm (rsB k s))
    (fun l E tm s k => @Option.rec _ (fun _ => R) none (rsB k s) (resA E tm s l)) r

theorem tmpsOf_eq (E : Env) (tm : Tm) (s : AS) : ∀ {l : List ResultVar} {ts : List Nat}, tmpsOf l = some ts → resA E tm s l = evs tm (ts.map Operand.tmp)
  | [], ts, h => by cases h; rfl
  | .cell a t :: l, ts, h => by cases h
  | .tmp t :: l, ts, h => by
    unfold tmpsOf at h
    cases hl : tmpsOf l with
    | none => rw [hl] at h; cases h
    | some us =>
      rw [hl] at h
      cases h
      have ih := tmpsOf_eq E tm s hl
      unfold resA
      simp only [List.map_cons, evs, ih]
      rfl

theorem resq_eq (E : Env) (l : List ResultVar) (tm : Tm) (s : AS) (k : K) : resq (mkRes l) E tm s k = match resA E tm s l with
    | none => none
    | some vs => k (packA vs) s := by
  unfold mkRes
  cases h : tmpsOf l with
  | none =>
    show @Option.rec _ (fun _ => R) none (rsB k s) (resA E tm s l) = _
    cases resA E tm s l <;> rfl
  | some ts =>
    rw [tmpsOf_eq E tm s h]
    have many : evsq (ts.map fun t => QO.t (path t)) tm (rsB k s) = match evs tm (ts.map Operand.tmp) with
        | none => none
        | some vs => k (packA vs) s := by
      have : (ts.map fun t => QO.t (path t)) = (ts.map Operand.tmp).map mkO := by rw [List.map_map]; rfl
      rw [this, evsq_eq]
      rfl
    cases ts with
    | nil => exact many
    | cons t ts =>
      cases ts with
      | cons u ts => exact many
      | nil =>
        show @Option.rec _ (fun _ => R) none (swp k s) (T.gp (pathN t t) tm) = _
        rw [T.gp_path t t tm (Nat.le_refl _)]
        show _ = match (match tm.get t with
          | none => none
          | some v => some [v]) with
          | none => none
          | some vs => k (packA vs) s
        cases tm.get t <;> rfl

inductive QF where
  | prim (p : List Value → AS → Option (Value × AS))
  | fn (c : QCode) (r : QRes)
  | no
def mkF (E : Env) (f : FuncId) : QF :=
  match E.prim.get f with
  | some p => .prim p
  | none => match E.fn.get f with
    | none => .no
    | some fn => match fn.body with
      | none => .no
      | some c => bif Nat.beq fn.ntmps 0 then .no else natK (Nat.pred fn.ntmps) fun N => .fn (mkC E N c) (mkRes fn.results.toList)
def rtK (r : QRes) (E : Env) (k : K) (x : X) : Tm → AS → R :=
  @X.rec (fun _ => QRes → Env → K → Tm → AS → R) (fun r E k tm s => resq r E tm s k) (fun _ _ _ _ _ _ => none) (fun r E k tm s => resq r E tm s k) x r E k
def clA (f : QF) : Env → CallK → Nat → List Value → AS → K → R :=
  @QF.rec (fun _ => Env → CallK → Nat → List Value → AS → K → R) (fun p _ _ _ args s k => toR (p args s) k)
    (fun c r E call F args s k => codeq E call F c (T.e.fill 0 args) s (rtK r E k)) (fun _ _ _ _ _ _ => none) f
def callq (E : Env) (F : Nat) (D : Nat) : CallK :=
  Nat.rec (motive := fun _ => CallK) (fun _ _ _ _ => none) (fun _ ih f args s k => clA (mkF E f) E ih F args s k) D

theorem callq_eq (E : Env) (F : Nat) : ∀ (D : Nat) (f : FuncId) (args : List Value) (s : AS) (k : K), callq E F D f args s k = toR (callA E F D f args s) k
  | 0, _, _, _, _ => rfl
  | D + 1, f, args, s, k => by
    have ih := callq_eq E F D
    show clA (mkF E f) E (callq E F D) F args s k = toR (match E.prim.get f with
      | some p => p args s
      | none => match E.fn.get f with
        | none => none
        | some fn => match fn.body with
          | none => none
          | some c => bif Nat.beq fn.ntmps 0 then none else natK (Nat.pred fn.ntmps) fun N => match codeA E (callA E F D) N F c (T.e.fill 0 args) s with
            | some (.exit _, _, _) => none
            | none => none
            | some (_, tm, s') => match resA E tm s' fn.results.toList with
              | none => none
              | some vs => some (packA vs, s')) k
    unfold mkF
    cases E.prim.get f with
    | some p => rfl
    | none =>
      simp only
      cases E.fn.get f with
      | none => rfl
      | some fn =>
        simp only
        cases fn.body with
        | none => rfl
        | some c =>
          simp only
          cases Nat.beq fn.ntmps 0 with
          | true => rfl
          | false =>
            simp only [cond_false, natK_eq]
            show codeq E (callq E F D) F (mkC E (Nat.pred fn.ntmps) c) (T.e.fill 0 args) s (rtK (mkRes fn.results.toList) E k) = _
            rw [codeq_eq ih]
            cases codeA E (callA E F D) (Nat.pred fn.ntmps) F c (T.e.fill 0 args) s with
            | none => rfl
            | some r =>
              obtain ⟨x, tm, s'⟩ := r
              cases x with
              | exit i => rfl
              | nor =>
                show resq (mkRes fn.results.toList) E tm s' k = _
                rw [resq_eq]
                simp only
                cases resA E tm s' fn.results.toList <;> rfl
              | ret =>
                show resq (mkRes fn.results.toList) E tm s' k = _
                rw [resq_eq]
                simp only
                cases resA E tm s' fn.results.toList <;> rfl

/-- What the quick machine answers, the machine answers. -/
theorem callA_of_q {E : Env} {F D : Nat} {f : FuncId} {args : List Value} {s : AS} {r : R} (h : callq E F D f args s pairK = r) : callA E F D f args s = r := by
  rw [callq_eq, toR_pair] at h
  exact h
end
end Go.Ax
