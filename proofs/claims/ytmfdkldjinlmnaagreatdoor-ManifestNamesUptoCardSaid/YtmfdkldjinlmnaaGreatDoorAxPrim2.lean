/- The checksum and the trimmed bytes, as the machine's prims: quick in the kernel, and what the lists' words say. -/
import Derived.Test.YtmfdkldjinlmnaaGreatDoorAxPrim
set_option linter.unusedVariables false
set_option linter.unusedSimpArgs false
namespace Go.Ax
open Go

/-! The lists' words (the contracts are told in them). -/
def crc1 (x : Nat) : Nat := if x % 2 = 1 then (x / 2) ^^^ 3988292384 else x / 2
def crcN : Nat → Nat → Nat
  | 0, x => x
  | j + 1, x => crc1 (crcN j x)
def crcL : Nat → List UInt8 → Nat
  | x, [] => x
  | x, c :: l => crcL (crcN 8 (x ^^^ c.toNat)) l
def trimN (c : Nat) (l : List UInt8) : Nat := (l.reverse.dropWhile fun x => x.toNat == c).length

/-! The kernel's. -/
noncomputable section
def kc1 (x : Nat) : Nat := bif Nat.beq (x % 2) 1 then Nat.xor (x / 2) 3988292384 else x / 2
def kc8 (x : Nat) : Nat := natK (kc1 x) fun x => natK (kc1 x) fun x => natK (kc1 x) fun x => natK (kc1 x) fun x => natK (kc1 x) fun x => natK (kc1 x) fun x => natK (kc1 x) fun x => kc1 x
def kcL (l : List Value) : Nat → Option Nat :=
  List.rec (motive := fun _ => Nat → Option Nat) (fun x => some x) (fun v _ ih x => match v with
    | .int .u8 (.ofNat b) => bif Nat.blt b 256 then natK (kc8 (Nat.xor x b)) ih else none
    | _ => none) l

theorem kc1_eq (x : Nat) : kc1 x = crc1 x := by
  unfold kc1 crc1
  rcases Nat.mod_two_eq_zero_or_one x with h | h
  · rw [h]; rfl
  · rw [h]; rfl
theorem kc8_eq (x : Nat) : kc8 x = crcN 8 x := by
  unfold kc8
  simp only [natK_eq, kc1_eq]
  rfl
theorem kcL_spec : ∀ {l : List Value} {x r : Nat}, kcL l x = some r → ∃ bs : List UInt8, l = bs.map (fun c => Value.int .u8 c.toNat) ∧ r = crcL x bs
  | [], x, r, h => by cases h; exact ⟨[], rfl, rfl⟩
  | v :: l, x, r, h => by
    have h' : (match (generalizing := false) v with
      | .int .u8 (.ofNat b) => bif Nat.blt b 256 then natK (kc8 (Nat.xor x b)) (kcL l) else none
      | _ => none) = some r := h
    clear h
    split at h'
    · rename_i b
      cases hb : Nat.blt b 256 with
      | false => rw [hb] at h'; cases h'
      | true =>
        rw [hb, cond_true, natK_eq, kc8_eq] at h'
        have hlt : b < 256 := by simpa [Nat.blt_eq] using hb
        obtain ⟨bs, h1, h2⟩ := kcL_spec h'
        have e : (UInt8.ofNat b).toNat = b := by simp; omega
        refine ⟨UInt8.ofNat b :: bs, ?_, ?_⟩
        · rw [List.map_cons, h1, e]; rfl
        · show r = crcL (crcN 8 (x ^^^ (UInt8.ofNat b).toNat)) bs
          rw [e]
          exact h2
    · cases h'

/-- The checksum's prim. -/
def crcP : List Value → AS → Option (Value × AS)
  | [.slice (some a) n c], s => bif Nat.ble n 1000000 then (match rdN s a.block a.off n with
    | none => none
    | some l => match kcL l 4294967295 with
      | none => none
      | some r => natK (Nat.xor r 4294967295) fun r => some (.int .i64 (.ofNat r), s)) else none
  | _, _ => none
end
end Go.Ax
