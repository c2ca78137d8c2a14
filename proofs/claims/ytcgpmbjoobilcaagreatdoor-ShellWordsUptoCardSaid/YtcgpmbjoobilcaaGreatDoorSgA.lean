/- The checksum of bytes: what pack.Crc answers. -/
import Derived.Test.YtcgpmbjoobilcaaGreatDoorProg
import Derived.Test.YtcgpmbjoobilcaaGreatDoorAxF
import Derived.WalkKit
import Derived.Lib.Hide
import Derived.Laws.BitsAllLaws
set_option linter.unusedSimpArgs false
set_option linter.unusedVariables false
namespace Go.Proofs
open Go Go.RowKit
open Go.Ax (crc1 crcN crcL)
theorem crc1_lt {x : Nat} (h : x < 4294967296) : crc1 x < 4294967296 := by
 unfold crc1
 split
 ·exact Nat.xor_lt_two_pow (n := 32) (by omega) (by omega)
 ·omega
theorem crcN_lt {x : Nat} (h : x < 4294967296) : ∀ j, crcN j x < 4294967296
 | 0 => h
 | j + 1 => crc1_lt (crcN_lt h j)
theorem crcL_drop {x : Nat} {l : List UInt8} {k : Nat} (h : k < l.length) : crcL x (l.drop k) = crcL (crcN 8 (x ^^^ l[k].toNat)) (l.drop (k + 1)) := by
 rw [List.drop_eq_getElem_cons h]
 rfl
theorem crc_bit {z : Nat} (hz : z < 4294967296) (b : Bool) (h : (bits .and .u32 (z : Int) 1 == 1) = b) : decide (z % 2 = 1) = b := by
 have e := u32_and_nat z 1 hz (by omega)
 rw [Nat.and_one_is_mod] at e
 have e' : bits .and .u32 (z : Int) 1 = ((z % 2 : Nat) : Int) := e
 rw [e'] at h
 rw [← h]
 rcases Nat.mod_two_eq_zero_or_one z with h | h <;> rw [h] <;> rfl
theorem crc_odd {z : Nat} (hz : z < 4294967296) (hb : (bits .and .u32 (z : Int) 1 == 1) = true) : Value.int .u32 (bits .xor .u32 ((z : Int) / 2) 3988292384) = Value.int .u32 (crc1 z : Nat) := by
 have h := of_decide_eq_true (crc_bit hz true hb)
 have := u32_xor_nat (z / 2) 3988292384 (by omega) (by omega)
 rw [crc1, if_pos h, ← this]
 rfl
theorem crc_even {z : Nat} (hz : z < 4294967296) (hb : (bits .and .u32 (z : Int) 1 == 1) = false) : Value.int .u32 ((z : Int) / 2) = Value.int .u32 (crc1 z : Nat) := by
 have h := of_decide_eq_false (crc_bit hz false hb)
 rw [crc1, if_neg h]
 rfl
theorem crc_last {x : Nat} (hx : x < 4294967296) : wrap64 (bits .xor .u32 IntKind.u32.max (x : Int)) = ((x ^^^ 4294967295 : Nat) : Int) := by
 have := u32_xor_nat 4294967295 x (by omega) hx
 have h2 : x ^^^ 4294967295 < 4294967296 := Nat.xor_lt_two_pow (n := 32) (by omega) (by omega)
 have h3 : bits .xor .u32 IntKind.u32.max (x : Int) = ((x ^^^ 4294967295 : Nat) : Int) := by
  rw [Nat.xor_comm x]
  exact this
 rw [h3]
 unfold wrap64
 omega
set_option maxHeartbeats 1000000 in
theorem crc_any (b o n c : Nat) (l : List UInt8) (hl : l.length = n) (hn : n ≤ 1000000) (w : World) (hc : ∀ k (h : k < l.length), w.cell? ⟨b, o + k, none⟩ = some (.int .u8 (l[k].toNat : Nat))) :
  Calls Tryz.prog 379 #[.slice (some ⟨b, o, none⟩) n c] w fun e w' => e = .returned (.int .i64 ((crcL 4294967295 l ^^^ 4294967295 : Nat) : Int)) ∧ w' = w := by
 go_enter Tryz.func379, Tryz.ntmps379
 go_wp2
 go_loop [3, 9] (fun s i => ∃ (k x : Nat), k ≤ n ∧ i = .int .i64 k ∧ s = .int .u32 (x : Nat) ∧ x < 4294967296 ∧ crcL 4294967295 l = crcL x (l.drop k)) (fun _ i => n - (intOf i).toNat)
 case atStart => exact ⟨0, 4294967295, Nat.zero_le _, rfl, rfl, by decide, rfl⟩
 case round =>
  obtain ⟨k, x, hk, rfl, rfl, hx, hcr⟩ := hrel
  have HC := Lib.hid hcr
  clear hcr
  by_cases hlt : k < n
  ·have hck := hc k (by omega)
   have hcd := crcL_drop (x := x) (l := l) (k := k) (by omega)
   have hcl : l[k].toNat < 256 := l[k].toNat_lt
   generalize l[k].toNat = cc at hck hcd hcl
   have HD := Lib.hid hcd
   clear hcd
   have HH := Lib.hid hc
   clear hc
   have hm : ((cc : Int) % 4294967296) = cc := by omega
   have hx1 := u32_xor_nat x cc hx (by omega)
   have hy : x ^^^ cc < 4294967296 := Nat.xor_lt_two_pow (n := 32) (by omega) (by omega)
   generalize hgy : x ^^^ cc = y at hx1 hy HD
   clear hgy
   go_wp2
   go_loop [3, 17] (fun s i => ∃ (j : Nat), j ≤ 8 ∧ i = .int .i64 j ∧ s = .int .u32 (crcN j y : Nat)) (fun _ i => 8 - (intOf i).toNat)
   case atStart => exact ⟨0, by omega, rfl, rfl⟩
   case round =>
    obtain ⟨j, hj, rfl, rfl⟩ := hrel
    have hz := crcN_lt hy j
    have hz1 : crcN (j + 1) y = crc1 (crcN j y) := rfl
    have HZ := Lib.hid hz1
    clear hz1
    generalize hzz : crcN j y = z at hz HZ
    have HE := Lib.hid hzz
    clear hzz
    by_cases hlt8 : j < 8
    ·go_wp2
     all_goals
      go_round
      case rel => exact ⟨j + 1, by omega, by go_num, by rw [HZ.out]; first | exact crc_odd hz (by assumption) | exact crc_even hz (by assumption)⟩
      case measure => simp [intOf]; omega
    ·obtain rfl : j = 8 := by omega
     go_wp2
     go_round
     case rel => exact ⟨k + 1, z, by omega, by go_num, rfl, hz, by rw [HC.out, HD.out, HE.out]⟩
     case measure => simp [intOf]; omega
  ·obtain rfl : k = n := by omega
   go_wp2
   go_ret
   refine ⟨?_, rfl⟩
   have e := HC.out
   rw [List.drop_of_length_le (by omega)] at e
   rw [crc_last hx, e]
   rfl
end Go.Proofs
/- What is left of bytes when one byte is trimmed off their end. -/
namespace Go.Proofs
open Go Go.RowKit
open Go.Ax (trimN)
namespace AxTrim
theorem trim_hit {c : Nat} {l : List UInt8} {m : Nat} (h : m < l.length) (e : l[m].toNat = c) : trimN c (l.take (m + 1)) = trimN c (l.take m) := by
 unfold trimN
 rw [List.take_succ_eq_append_getElem h, List.reverse_append]
 simp [e]
theorem trim_miss {c : Nat} {l : List UInt8} {m : Nat} (h : m < l.length) (e : ¬ l[m].toNat = c) : trimN c (l.take (m + 1)) = m + 1 := by
 unfold trimN
 rw [List.take_succ_eq_append_getElem h, List.reverse_append]
 simp [e]
 omega
def lenV : Value → Nat
 | .slice _ m _ => m
 | _ => 0
end AxTrim
open AxTrim
set_option maxHeartbeats 1000000 in
theorem trim_any (b o n cp : Nat) (c : Nat) (l : List UInt8) (hl : l.length = n) (hcp : n ≤ cp) (hn : n ≤ 1000000) (w : World) (hc : ∀ k (h : k < l.length), w.cell? ⟨b, o + k, none⟩ = some (.int .u8 (l[k].toNat : Nat))) :
  Calls Tryz.prog 524 #[.slice (some ⟨b, o, none⟩) n cp, .int .u8 (c : Nat)] w fun e w' => e = .returned (.slice (some ⟨b, o, none⟩) (trimN c l) cp) ∧ w' = w := by
 go_enter Tryz.func524, Tryz.ntmps524
 go_wp2
 go_loop [0] (fun s => ∃ (m : Nat), m ≤ n ∧ s = .slice (some ⟨b, o, none⟩) m cp ∧ trimN c l = trimN c (l.take m)) (fun s => lenV s)
 case atStart => exact ⟨n, Nat.le_refl _, rfl, by rw [List.take_of_length_le (by omega)]⟩
 case round =>
  obtain ⟨m, hm, rfl, ht⟩ := hrel
  have HT := Lib.hid ht
  clear ht
  cases m with
  | zero =>
   go_wp2
   go_ret
   refine ⟨?_, rfl⟩
   rw [HT.out]
   rfl
  | succ m =>
   have hck := hc m (by omega)
   have hh := trim_hit (c := c) (l := l) (m := m) (by omega)
   have hi := trim_miss (c := c) (l := l) (m := m) (by omega)
   generalize l[m].toNat = cc at hck hh hi
   have HC := Lib.hid hc
   clear hc
   have H1 := Lib.hid hh
   have H2 := Lib.hid hi
   clear hh hi
   by_cases hq : cc = c
   ·subst hq
    go_wp2
    go_round
    case rel => exact ⟨m, by omega, rfl, by rw [HT.out, H1.out rfl]⟩
    case measure => simp [lenV]
   ·go_wp2
    go_ret
    refine ⟨?_, rfl⟩
    rw [HT.out, H2.out hq]
    rfl
end Go.Proofs
