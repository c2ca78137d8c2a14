/- The abstract machine's tables of a program: types and functions. -/
import Derived.Test.YtmfdkldjinlmnaaGreatDoorAxDraw5
set_option linter.unusedVariables false
set_option linter.unusedSimpArgs false
namespace Go.Ax
open Go

/-- A value that bears no address. -/
def zok1 : Value → Bool
  | .bool _ | .int _ _ | .float _ _ | .string _ | .pointer none | .slice none 0 0 | .map none | .nilFunc | .nilIface => true
  | _ => false
def zok : Value → Bool
  | .agg cs => cs.toList.all zok1
  | v => zok1 v

theorem zok1_vr {v : Value} (h : zok1 v = true) (i : Io) : VR i v v := by
  unfold zok1 at h
  split at h <;> first
    | (cases h; done)
    | exact .bool _
    | exact .int _ _
    | exact .float _ _
    | exact .string _
    | exact .nilp
    | exact .nils rfl
    | exact .nilm
    | exact .nilFunc
    | exact .nilIface
theorem zok1_vrs (i : Io) : ∀ {l : List Value}, l.all zok1 = true → VRs i l l
  | [], _ => .nil
  | v :: l, h => by
    simp only [List.all_cons, Bool.and_eq_true] at h
    exact .cons (zok1_vr h.1 i) (zok1_vrs i h.2)
theorem zok_vr {v : Value} (h : zok v = true) (i : Io) : VR i v v := by
  unfold zok at h
  split at h
  · exact .agg (zok1_vrs i h)
  · exact zok1_vr h i

def zeroL (info : TypeInfo) : List Value :=
  match info.zero with
  | some v => v.cells.toList
  | none => []

def isAggV : Value → Bool
  | .agg _ => true
  | _ => false

/-- A type's entry is in order: its zero is of its size, an aggregate where the type is one. -/
def tyGood (info : TypeInfo) (d : TypeDesc) : Bool :=
  match info.zero with
  | some v => zok v && (isAggV v == isAggD d) && Nat.beq (zeroL info).length info.size
  | none => false

theorem tyOk_of {E : Env} (h : ∀ t ti, E.ty.get t = some ti → ∃ info, E.P.info? t = some info ∧ E.P.underlying t = some ti.desc ∧ info.size = ti.size ∧ info.bytes = ti.bytes ∧ zeroL info = ti.zero ∧ tyGood info ti.desc = true) : TyOk E := by
  refine ⟨fun t ti ht => ?_⟩
  obtain ⟨info, h1, h2, h3, h4, h5, h6⟩ := h t ti ht
  refine ⟨info, h1, h2, h3, h4, ?_⟩
  unfold tyGood at h6
  unfold zeroL at h5 h6
  cases hz : info.zero with
  | none => rw [hz] at h6; cases h6
  | some zv =>
    rw [hz] at h5 h6
    simp only [Bool.and_eq_true, beq_iff_eq, Nat.beq_eq] at h5 h6
    obtain ⟨⟨g1, g2⟩, g3⟩ := h6
    refine ⟨zv, rfl, h5, fun i => zok_vr g1 i, fun ha => ?_, fun ha => ?_, by rw [← h5, g3, h3]⟩
    · rw [ha] at g2
      cases zv <;> first | (cases g2; done) | skip
      rename_i cs
      rw [← h5]
      rfl
    · rw [ha] at g2
      cases zv <;> first | (cases g2; done) | (rw [← h5]; rfl)

/-- Entries, some of them none, from a place on. -/
noncomputable def T.fillO {α : Type} (t : T α) (i : Nat) (l : List (Option α)) : T α :=
  List.rec (motive := fun _ => Nat → T α → T α) (fun _ t => t) (fun x _ ih i t => ih (i + 1) (t.put i x)) l i t
theorem T.fillO_nil {α : Type} (t : T α) (i : Nat) : t.fillO i [] = t := rfl
theorem T.fillO_cons {α : Type} (t : T α) (i : Nat) (x : Option α) (l : List (Option α)) : t.fillO i (x :: l) = (t.put i x).fillO (i + 1) l := rfl
theorem T.get_fillO {α : Type} (l : List (Option α)) : ∀ (t : T α) (i j : Nat), (t.fillO i l).get j = if i ≤ j ∧ j < i + l.length then (l[j - i]?).join else t.get j := by
  induction l with
  | nil => intro t i j; rw [T.fillO_nil]; simp; omega
  | cons x l ih =>
    intro t i j
    rw [T.fillO_cons, ih, T.get_put]
    simp only [List.length_cons]
    by_cases h1 : j = i
    · subst h1; rw [if_neg (by omega), if_pos rfl, if_pos (by omega)]; simp
    · by_cases h2 : i + 1 ≤ j ∧ j < i + 1 + l.length
      · rw [if_pos h2, if_pos (by omega), List.getElem?_cons, if_neg (by omega)]
        congr 2
      · rw [if_neg h2, if_neg h1, if_neg (by omega)]

/-- What a type is underneath. -/
def undOf (P : Program) (info : TypeInfo) : TypeDesc :=
  match info.desc with
  | .named _ u => ((P.types[u]?).map (·.desc)).getD .invalid
  | d => d
def tiOf (P : Program) (info : TypeInfo) : TI := ⟨undOf P info, info.size, zeroL info, info.bytes⟩
def namedOk (P : Program) (info : TypeInfo) : Bool :=
  match info.desc with
  | .named _ u => Nat.blt u P.types.size
  | _ => true
def tyL (P : Program) : List (Option TI) := P.types.toList.map fun info => bif namedOk P info && tyGood info (undOf P info) then some (tiOf P info) else none

theorem info_lt {P : Program} {t : TypeId} (h : t < P.types.size) : P.info? t = P.types[t]? := by
  unfold Tables.info?
  rw [if_pos h]

theorem tyOk_tab {E : Env} (h : E.ty = T.e.fillO 0 (tyL E.P)) : TyOk E := by
  refine tyOk_of (fun t ti ht => ?_)
  rw [h, T.get_fillO] at ht
  split at ht
  · rename_i hr
    simp only [Nat.sub_zero, tyL, List.getElem?_map] at ht
    cases hi : E.P.types.toList[t]? with
    | none => rw [hi] at ht; cases ht
    | some info =>
      rw [hi] at ht
      simp only [Option.map_some, Option.join_some] at ht
      cases hg : (namedOk E.P info && tyGood info (undOf E.P info)) with
      | false => rw [hg] at ht; cases ht
      | true =>
        rw [hg] at ht
        cases ht
        simp only [Bool.and_eq_true] at hg
        have hi' : E.P.info? t = some info := by
          have hlt : t < E.P.types.size := by
            have := (List.getElem?_eq_some_iff.1 hi).1
            simpa using this
          rw [info_lt hlt, ← Array.getElem?_toList]
          exact hi
        refine ⟨info, hi', ?_, rfl, rfl, rfl, hg.2⟩
        have hn := hg.1
        unfold Program.underlying
        rw [hi']
        simp only [tiOf, undOf]
        unfold namedOk at hn
        cases hd : info.desc with
        | named s u =>
          rw [hd] at hn
          have hlt : u < E.P.types.size := by simpa [Nat.blt_eq] using hn
          obtain ⟨desc, str, size, bytes, hp, al, fa, zero, comp, ms⟩ := info
          simp only at hd
          subst hd
          simp only
          rw [info_lt hlt, Array.getElem?_eq_getElem hlt]
          rfl
        | _ =>
          obtain ⟨desc, str, size, bytes, hp, al, fa, zero, comp, ms⟩ := info
          simp only at hd
          subst hd
          rfl
  · cases ht

noncomputable def fnGood (ty : T TI) (fn : Func) : Bool := !(fn.name == "runtime.NumGoroutine") && (match fn.body with
  | some c => codeOk ty c
  | none => true)
noncomputable def fnL (ty : T TI) (P : Program) : List (Option Func) := P.funcs.toList.map fun fn => bif fnGood ty fn then some fn else none

theorem fnOk_tab {E : Env} (h : E.fn = T.e.fillO 0 (fnL E.ty E.P)) : FnOk E := by
  refine ⟨fun f fn hf => ?_⟩
  rw [h, T.get_fillO] at hf
  split at hf
  · simp only [Nat.sub_zero, fnL, List.getElem?_map] at hf
    cases hi : E.P.funcs.toList[f]? with
    | none => rw [hi] at hf; cases hf
    | some fn' =>
      rw [hi] at hf
      simp only [Option.map_some, Option.join_some] at hf
      cases hg : fnGood E.ty fn' with
      | false => rw [hg] at hf; cases hf
      | true =>
        rw [hg] at hf
        cases hf
        unfold fnGood at hg
        simp only [Bool.and_eq_true, Bool.not_eq_true'] at hg
        refine ⟨by rw [← Array.getElem?_toList]; exact hi, hg.1, fun c hc => ?_⟩
        have := hg.2
        rw [hc] at this
        exact this
  · cases hf

end Go.Ax
