/- What is left of bytes when one byte is trimmed off their end. -/
import Derived.Test.YtmnckhmmcnbaiaaGreatDoorChecked
import Derived.Test.YtmnckhmmcnbaiaaGreatDoorAxF
import Derived.WalkKit
import Derived.Lib.Hide
set_option linter.unusedSimpArgs false
set_option linter.unusedVariables false
namespace Go.Proofs
open Go Go.RowKit
open Go.Ax (trimN)
namespace AxTrim

theorem trim_hit {c : Nat} {l : List UInt8} {m : Nat} (h : m < l.length) (e : l[m].toNat = c) : trimN c (l.take (m + 1)) = trimN c (l.take m) := by
  unfold trimN
  rw [List.take_succ_eq_append_getElem h, List.reverse_append]
  simp [e]
theorem trim_miss {c : Nat} {l : List UInt8} {m : Nat} (h : m < l.length) (e : ¬ l[m].toNat = c) : trimN c (l.take (m + 1)) = m + 1 := by
  unfold trimN
  rw [List.take_succ_eq_append_getElem h, List.reverse_append]
  simp [e]
  omega
def lenV : Value → Nat
  | .slice _ m _ => m
  | _ => 0
end AxTrim
open AxTrim

set_option maxHeartbeats 1000000 in
theorem trim_any (b o n cp : Nat) (c : Nat) (l : List UInt8) (hl : l.length = n) (hcp : n ≤ cp) (hn : n ≤ 1000000) (w : World) (hc : ∀ k (h : k < l.length), w.cell? ⟨b, o + k, none⟩ = some (.int .u8 (l[k].toNat : Nat))) :
    Calls Tryz.prog 489 #[.slice (some ⟨b, o, none⟩) n cp, .int .u8 (c : Nat)] w fun e w' => e = .returned (.slice (some ⟨b, o, none⟩) (trimN c l) cp) ∧ w' = w := by
  go_enter Tryz.func489, Tryz.ntmps489
  go_wp2
  go_loop [0] (fun s => ∃ (m : Nat), m ≤ n ∧ s = .slice (some ⟨b, o, none⟩) m cp ∧ trimN c l = trimN c (l.take m)) (fun s => lenV s)
  case atStart => exact ⟨n, Nat.le_refl _, rfl, by rw [List.take_of_length_le (by omega)]⟩
  case round =>
    obtain ⟨m, hm, rfl, ht⟩ := hrel
    have HT := Lib.hid ht
    clear ht
    cases m with
    | zero =>
      go_wp2
      go_ret
      refine ⟨?_, rfl⟩
      rw [HT.out]
      rfl
    | succ m =>
      have hck := hc m (by omega)
      have hh := trim_hit (c := c) (l := l) (m := m) (by omega)
      have hi := trim_miss (c := c) (l := l) (m := m) (by omega)
      generalize l[m].toNat = cc at hck hh hi
      have HC := Lib.hid hc
      clear hc
      have H1 := Lib.hid hh
      have H2 := Lib.hid hi
      clear hh hi
      by_cases hq : cc = c
      · subst hq
        go_wp2
        go_round
        case rel => exact ⟨m, by omega, rfl, by rw [HT.out, H1.out rfl]⟩
        case measure => simp [lenV]
      · go_wp2
        go_ret
        refine ⟨?_, rfl⟩
        rw [HT.out, H2.out hq]
        rfl
end Go.Proofs
