/- The abstract machine's operations and the model's, part 3: arithmetic and comparisons. -/
import Derived.Test.YtmfdkldjinlmnaaGreatDoorAxSem2
set_option linter.unusedVariables false
set_option linter.unusedSimpArgs false
namespace Go.Ax
open Go

section
variable {E : Env} {i : Io} {s : AS} {w : World}

theorem pureRun_run (P : Program) {α : Type} (m : Sem α) : ∀ (a : α), pureRun P m = some a → ∀ w, m.run P w = .ok a w := by
  induction m with
  | pure x => intro a h w; simp only [pureRun, Option.some.injEq] at h; subst h; rfl
  | program k ih => intro a h w; exact ih P a h w
  | mark m k ih => intro a h w; exact ih a h w
  | _ => intro a h w; simp [pureRun] at h

theorem plain1_eq {v v' : Value} (h : VR i v v') (hp : plain.plain1 v = true) : v' = v := by
  cases h <;> first | rfl | simp [plain.plain1] at hp
theorem plains_eq : ∀ {l l' : List Value}, VRs i l l' → l.all plain.plain1 = true → l' = l
  | _, _, .nil, _ => rfl
  | _, _, .cons h h', hp => by
    simp only [List.all_cons, Bool.and_eq_true] at hp
    rw [plain1_eq h hp.1, plains_eq h' hp.2]
theorem plain_eq {v v' : Value} (h : VR i v v') (hp : plain v = true) : v' = v := by
  cases h with
  | iface t h => rw [plain1_eq h (by simpa [plain] using hp)]
  | agg h => rw [plains_eq h (by simpa [plain] using hp)]
  | _ => first | rfl | simp [plain] at hp
theorem plain1_refl {v : Value} (hp : plain.plain1 v = true) : VR i v v := by
  cases v <;> first | exact .bool _ | exact .int _ _ | exact .float _ _ | exact .string _ | (simp [plain.plain1] at hp)
theorem plains_refl : ∀ {l : List Value}, l.all plain.plain1 = true → VRs i l l
  | [], _ => .nil
  | v :: l, hp => by
    simp only [List.all_cons, Bool.and_eq_true] at hp
    exact .cons (plain1_refl hp.1) (plains_refl hp.2)
theorem plain_refl {v : Value} (hp : plain v = true) : VR i v v := by
  cases v with
  | iface t v => exact .iface t (plain1_refl (by simpa [plain] using hp))
  | agg cs => exact .agg (plains_refl (by simpa [plain] using hp))
  | _ => first | exact .bool _ | exact .int _ _ | exact .float _ _ | exact .string _ | exact .nilFunc | exact .nilIface | (simp [plain] at hp)

/-! Whole numbers -/
theorem imod_eq (n : Int) (m : Nat) (hm : 0 < m) : ((imod n m : Nat) : Int) = n % (m : Int) := by
  cases n with
  | ofNat a => rfl
  | negSucc a =>
    show ((m - 1 - a % m : Nat) : Int) = Int.negSucc a % (m : Int)
    have h := Nat.mod_lt a hm
    rw [Int.negSucc_emod _ (by omega)]
    omega
theorem imod_lt (n : Int) (m : Nat) (hm : 0 < m) : imod n m < m := by
  have h := imod_eq n m hm
  have := Int.emod_lt_of_pos n (show (0 : Int) < m by omega)
  omega
theorem wrU_eq (m : Nat) (hm : 0 < m) (n : Int) : wrU m n = n % (m : Int) := imod_eq n m hm
theorem wrS_eq (m h : Nat) (hm : 0 < m) (n : Int) : wrS m h n = if n % (m : Int) ≥ (h : Int) then n % (m : Int) - m else n % (m : Int) := by
  have e := imod_eq n m hm
  have l := imod_lt n m hm
  unfold wrS
  rw [natK_eq]
  cases hb : Nat.blt (imod n m) h with
  | true =>
    have : imod n m < h := by simpa [Nat.blt_eq] using hb
    rw [if_neg (by omega), ← e]
    rfl
  | false =>
    have : ¬ imod n m < h := fun hh => by rw [show Nat.blt (imod n m) h = true by simpa [Nat.blt_eq] using hh] at hb; cases hb
    rw [if_pos (by omega), ← e]
    show Int.negSucc (m - 1 - imod n m) = _
    omega
theorem wrapA_eq (k : IntKind) (n : Int) : wrapA k n = k.wrap n := by
  cases k
  case i8 => show wrS 256 128 n = _; rw [wrS_eq 256 128 (by decide)]; simp [IntKind.wrap, IntKind.bits, IntKind.signed]
  case i16 => show wrS 65536 32768 n = _; rw [wrS_eq 65536 32768 (by decide)]; simp [IntKind.wrap, IntKind.bits, IntKind.signed]
  case i32 => show wrS 4294967296 2147483648 n = _; rw [wrS_eq 4294967296 2147483648 (by decide)]; simp [IntKind.wrap, IntKind.bits, IntKind.signed]
  case i64 => show wrS 18446744073709551616 9223372036854775808 n = _; rw [wrS_eq 18446744073709551616 9223372036854775808 (by decide)]; simp [IntKind.wrap, IntKind.bits, IntKind.signed]
  case u8 => show wrU 256 n = _; rw [wrU_eq 256 (by decide)]; simp [IntKind.wrap, IntKind.bits, IntKind.signed]
  case u16 => show wrU 65536 n = _; rw [wrU_eq 65536 (by decide)]; simp [IntKind.wrap, IntKind.bits, IntKind.signed]
  case u32 => show wrU 4294967296 n = _; rw [wrU_eq 4294967296 (by decide)]; simp [IntKind.wrap, IntKind.bits, IntKind.signed]
  case u64 => show wrU 18446744073709551616 n = _; rw [wrU_eq 18446744073709551616 (by decide)]; simp [IntKind.wrap, IntKind.bits, IntKind.signed]
theorem modA_eq (k : IntKind) : modA k = 2 ^ k.bits := by cases k <;> rfl
theorem bitsA_eq (k : IntKind) : bitsA k = k.bits := by cases k <;> rfl
theorem intV_eq (k : IntKind) (n : Int) : intV k n = some (.int k (k.wrap n)) := by
  unfold intV
  rw [intK_eq, wrapA_eq]
theorem ieq_eq (a b : Int) : ieq a b = (a == b) := by
  cases a <;> cases b <;> simp only [ieq]
  · rename_i a b; rw [Bool.eq_iff_iff]; simp; exact ⟨fun h => congrArg Int.ofNat h, fun h => Int.ofNat.inj h⟩
  · rfl
  · rfl
  · rename_i a b; rw [Bool.eq_iff_iff]; simp
theorem ilt_eq (a b : Int) : ilt a b = decide (a < b) := by
  cases a <;> cases b <;> simp only [ilt] <;> rename_i a b <;> rw [Bool.eq_iff_iff] <;> simp [Nat.blt_eq] <;> first | omega | (show a < b ↔ (a : Int) < (b : Int); omega) | skip
theorem kindEq_eq {k k' : IntKind} (h : kindEq k k' = true) : k = k' := by cases k <;> cases k' <;> first | rfl | cases h
theorem imod_bv (k : IntKind) (a : Int) : imod a (modA k) = (BitVec.ofInt k.bits a).toNat := by
  have h := imod_eq a (modA k) (by rw [modA_eq]; exact Nat.two_pow_pos _)
  rw [BitVec.toNat_ofInt, ← modA_eq]
  omega

theorem bv_andNot (n : Nat) (x y : BitVec n) : (x &&& ~~~y).toNat = Nat.land x.toNat (2 ^ n - 1 - y.toNat) := by
  rw [BitVec.toNat_and, BitVec.toNat_not]
  rfl

theorem intBin_sim {op : BinOp} {k : IntKind} {a b : Int} {v : Value} (h : intBin op k a b = some v) (t : TypeId) (w : World) : (binOp op t (.int k a) (.int k b)).run E.P w = .ok v w := by
  cases op
  case add => simp only [intBin, iAr, intV_eq, Option.some.injEq] at h; subst h; simp [binOp, Op.intArith]
  case sub => simp only [intBin, iAr, intV_eq, Option.some.injEq] at h; subst h; simp [binOp, Op.intArith]; rfl
  case mul => simp only [intBin, iAr, intV_eq, Option.some.injEq] at h; subst h; simp [binOp, Op.intArith]
  case quo =>
    simp only [intBin, iQuo, intV_eq] at h
    cases hz : ieq b 0 with
    | true => rw [hz] at h; cases h
    | false =>
      rw [hz] at h
      cases h
      have : ¬ b = 0 := fun e => by rw [ieq_eq, e] at hz; cases hz
      simp [binOp, Op.intDiv, this]
  case rem =>
    simp only [intBin, iRem, intK_eq] at h
    cases hz : ieq b 0 with
    | true => rw [hz] at h; cases h
    | false =>
      rw [hz] at h
      cases h
      have : ¬ b = 0 := fun e => by rw [ieq_eq, e] at hz; cases hz
      simp [binOp, Op.intDiv, this]
  case and => simp only [intBin, bits2, intV_eq, imod_bv, Option.some.injEq] at h; subst h; simp [binOp, Op.intBits]
  case or => simp only [intBin, bits2, intV_eq, imod_bv, Option.some.injEq] at h; subst h; simp [binOp, Op.intBits]
  case xor => simp only [intBin, bits2, intV_eq, imod_bv, Option.some.injEq] at h; subst h; simp [binOp, Op.intBits]
  case andNot =>
    simp only [intBin, iAndNot, bits2, intV_eq, imod_bv, Option.some.injEq] at h
    rw [modA_eq] at h
    subst h
    simp only [binOp, Op.intBits, Sem.run_pure, bv_andNot]
    simp
  case eql => simp only [intBin, iCmp, Option.some.injEq] at h; subst h; simp [binOp, Op.intCmp, ieq_eq]
  case neq => simp only [intBin, iCmp, Option.some.injEq] at h; subst h; simp [binOp, Op.intCmp, ieq_eq, bne]
  case lss => simp only [intBin, iCmp, Option.some.injEq] at h; subst h; simp [binOp, Op.intCmp, ilt_eq]
  case leq => simp only [intBin, iCmp, Option.some.injEq] at h; subst h; simp only [binOp, Op.intCmp, ilt_eq, ne_eq, not_true_eq_false, if_false, Sem.run_pure]; congr 2; rw [Bool.eq_iff_iff]; simp
  case gtr => simp only [intBin, iCmp, Option.some.injEq] at h; subst h; simp [binOp, Op.intCmp, ilt_eq]
  case geq => simp only [intBin, iCmp, Option.some.injEq] at h; subst h; simp only [binOp, Op.intCmp, ilt_eq, ne_eq, not_true_eq_false, if_false, Sem.run_pure]; congr 2; rw [Bool.eq_iff_iff]; simp
  all_goals (simp only [intBin, iNo] at h; cases h)

end
end Go.Ax
