/- This seat's functions that the machine knows by what they come to. -/
import Derived.Test.YtcgpmbjoobilcaaGreatDoorSgA
import Derived.Test.YtcgpmbjoobilcaaGreatDoorSeatTab
import Derived.Test.YtcgpmbjoobilcaaGreatDoorAxF
set_option linter.unusedSimpArgs false
set_option linter.unusedVariables false
namespace Go.Proofs
open Go Go.RowKit Go.Ax
noncomputable def trimP : List Value → AS → Option (Value × AS)
 | [.slice (some a) n c, .int .u8 (.ofNat k)], s => bif Nat.ble n 1000000 then (match rdN s a.block a.off n with
  | none => none
  | some l => match kt k l 0 0 with
   | none => none
   | some r => natK r fun r => some (.slice (some a) r c, s)) else none
 | _, _ => none
theorem trim_ok : POk Tryz.prog 524 trimP := by
 intro args s v s' h i w args' hR hg ha
 unfold trimP at h
 split at h
 ·rename_i a n c k
  cases hn : Nat.ble n 1000000 with
  | false => rw [hn] at h; cases h
  | true =>
   rw [hn, cond_true] at h
   split at h
   ·cases h
   ·rename_i l hl
    split at h
    ·cases h
    ·rename_i r hr
     rw [natK_eq] at h
     cases h
     cases ha with
     | cons h1 h2 =>
     cases h2 with
     | cons h2 h3 =>
     cases h3
     cases h2
     cases h1 with
     | @slice b o q t _ _ p c' hi x1 x2 x3 x4 x5 =>
      obtain ⟨bs, e1, e2⟩ := kt_spec hr
      obtain ⟨e3, e4⟩ := hR.bytes hl hi e1
      have hle : trimN k bs ≤ n := by
       rw [← e3]
       unfold trimN
       have := (List.dropWhile_sublist (l := bs.reverse) (fun x : UInt8 => x.toNat == k)).length_le
       simpa using this
      have hr' : r = trimN k bs := by
       rw [e2]
       split
       ·rename_i h0; rw [h0]
       ·omega
      subst hr'
      rcases Nat.eq_zero_or_pos c' with hc0 | hc0
      ·
       have hn0 : n = 0 := by omega
       subst hn0
       have hb0 : bs = [] := List.eq_nil_of_length_eq_zero e3
       subst hb0
       have hc := trim_any q p 0 c' k [] rfl (Nat.zero_le _) (by omega) w (fun k h => by cases h)
       exact FSim.same (fn := Tryz.f524) Tryz.func524 rfl rfl hR hc (.slice hi (by omega) x2 x3 x4 x5)
      ·obtain rfl := x4.resolve_right (by omega)
       have hc := trim_any q (t + o) n c' k bs e3 (by omega) (Nat.le_of_ble_eq_true hn) w (fun j hj => e4 j hj)
       exact FSim.same (fn := Tryz.f524) Tryz.func524 rfl rfl hR hc (.slice hi (by omega) x2 x3 x4 x5)
 ·cases h
theorem crc_ok : POk Tryz.prog 379 crcP := by
 intro args s v s' h i w args' hR hg ha
 unfold crcP at h
 split at h
 ·rename_i a n c
  cases hn : Nat.ble n 1000000 with
  | false => rw [hn] at h; cases h
  | true =>
   rw [hn, cond_true] at h
   split at h
   ·cases h
   ·rename_i l hl
    split at h
    ·cases h
    ·rename_i r hr
     rw [natK_eq] at h
     cases h
     cases ha with
     | cons h1 h2 =>
     cases h2
     cases h1 with
     | @slice b o q t _ _ p c' hi x1 x2 x3 x4 x5 =>
      obtain ⟨bs, e1, e2⟩ := kcL_spec hr
      obtain ⟨e3, e4⟩ := hR.bytes hl hi e1
      have hres : VR i (.int .i64 (.ofNat (Nat.xor r 4294967295))) (.int .i64 ((crcL 4294967295 bs ^^^ 4294967295 : Nat) : Int)) := by
       rw [← e2]
       exact .int _ _
      rcases Nat.eq_zero_or_pos c' with hc0 | hc0
      ·have hn0 : n = 0 := by omega
       subst hn0
       have hb0 : bs = [] := List.eq_nil_of_length_eq_zero e3
       subst hb0
       have hc := crc_any q p 0 c' [] rfl (by omega) w (fun k h => by cases h)
       exact FSim.same (fn := Tryz.f379) Tryz.func379 rfl rfl hR hc hres
      ·obtain rfl := x4.resolve_right (by omega)
       have hc := crc_any q (t + o) n c' bs e3 (Nat.le_of_ble_eq_true hn) w (fun j hj => e4 j hj)
       exact FSim.same (fn := Tryz.f379) Tryz.func379 rfl rfl hR hc hres
 ·cases h
theorem back_any (l : Nat) (ad : Addr) (a : Option Addr) (c : Nat) (W : World) (h : W.cell? ad = some (.slice a 0 c)) :
  Calls Tryz.prog 212 #[.func (.yield l) #[] #[], .pointer (some ad)] W fun e W' => (∃ v, e = .returned v) ∧ Below W.heap.size W W' := by
 go_enter Tryz.func212, Tryz.ntmps212
 go_wp2
 go_loop [3] (fun i => i = .int .i64 (-1)) (fun _ => 0)
 case atStart => rfl
 case round =>
  subst hrel
  go_wp2
  go_end0
  exact ⟨⟨_, rfl⟩, Below.refl _ _⟩
end Go.Proofs
