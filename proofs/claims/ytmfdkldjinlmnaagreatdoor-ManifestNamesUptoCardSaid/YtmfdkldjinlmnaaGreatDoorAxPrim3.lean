/- The trimmed bytes, as the machine's prim. -/
import Derived.Test.YtmfdkldjinlmnaaGreatDoorAxPrim2
set_option linter.unusedVariables false
set_option linter.unusedSimpArgs false
namespace Go.Ax
open Go

theorem dropWhile_snoc {α : Type} (p : α → Bool) : ∀ (l : List α) (x : α), (l ++ [x]).dropWhile p = if l.dropWhile p = [] then (if p x then [] else [x]) else l.dropWhile p ++ [x]
  | [], x => by simp [List.dropWhile]; split <;> simp_all
  | y :: l, x => by
    rw [List.cons_append, List.dropWhile_cons, List.dropWhile_cons]
    cases hp : p y with
    | true => simp only [if_true]; exact dropWhile_snoc p l x
    | false => simp

theorem trimN_cons (c : Nat) (x : UInt8) (l : List UInt8) : trimN c (x :: l) = if trimN c l = 0 then (if x.toNat = c then 0 else 1) else trimN c l + 1 := by
  unfold trimN
  rw [List.reverse_cons, dropWhile_snoc]
  by_cases h : l.reverse.dropWhile (fun x => x.toNat == c) = []
  · rw [if_pos h, h]
    simp only [List.length_nil, if_true]
    by_cases hx : x.toNat = c
    · simp [hx]
    · simp [hx]
  · rw [if_neg h]
    have : (l.reverse.dropWhile (fun x => x.toNat == c)).length ≠ 0 := fun e => h (List.eq_nil_of_length_eq_zero e)
    rw [if_neg this, List.length_append]
    rfl

noncomputable section
/-- The last place that isn't c, counted from one; none: best. -/
def kt (c : Nat) (l : List Value) : Nat → Nat → Option Nat :=
  List.rec (motive := fun _ => Nat → Nat → Option Nat) (fun _ best => some best) (fun v _ ih i best => match v with
    | .int .u8 (.ofNat b) => bif Nat.blt b 256 then natK (Nat.succ i) (fun i => ih i (bif Nat.beq b c then best else i)) else none
    | _ => none) l

theorem kt_spec {c : Nat} : ∀ {l : List Value} {i best r : Nat}, kt c l i best = some r → ∃ bs : List UInt8, l = bs.map (fun c => Value.int .u8 c.toNat) ∧ r = if trimN c bs = 0 then best else i + trimN c bs
  | [], i, best, r, h => by cases h; exact ⟨[], rfl, rfl⟩
  | v :: l, i, best, r, h => by
    have h' : (match (generalizing := false) v with
      | .int .u8 (.ofNat b) => bif Nat.blt b 256 then natK (Nat.succ i) (fun i => kt c l i (bif Nat.beq b c then best else i)) else none
      | _ => none) = some r := h
    clear h
    split at h'
    · rename_i b
      cases hb : Nat.blt b 256 with
      | false => rw [hb] at h'; cases h'
      | true =>
        rw [hb, cond_true, natK_eq] at h'
        have hlt : b < 256 := by simpa [Nat.blt_eq] using hb
        obtain ⟨bs, h1, h2⟩ := kt_spec h'
        have e : (UInt8.ofNat b).toNat = b := by simp; omega
        refine ⟨UInt8.ofNat b :: bs, ?_, ?_⟩
        · rw [List.map_cons, h1, e]; rfl
        · rw [trimN_cons, e, h2]
          by_cases h0 : trimN c bs = 0
          · rw [if_pos h0, if_pos h0]
            by_cases hc : b = c
            · subst hc; simp
            · have : Nat.beq b c = false := by
                cases hh : Nat.beq b c with
                | false => rfl
                | true => exact absurd (Nat.eq_of_beq_eq_true hh) hc
              rw [this]
              simp [hc]
          · rw [if_neg h0, if_neg h0, if_neg (by omega)]
            simp only [Nat.succ_eq_add_one]
            omega
    · cases h'
end
end Go.Ax
