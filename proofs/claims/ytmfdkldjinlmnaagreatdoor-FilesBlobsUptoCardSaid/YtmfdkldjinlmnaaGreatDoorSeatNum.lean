/- What the document's reading of a number answers. -/
import Derived.Test.YtmfdkldjinlmnaaGreatDoorChecked
import Derived.WalkKit
import Derived.BigCall
import Derived.Lib.Hide
import Derived.Laws.Strings
set_option linter.unusedSimpArgs false
set_option linter.unusedVariables false
namespace Go.Proofs
open Go.RowKit

def lastN : Nat := 4611686018427387904
/-- Decimal digits without leading noughts, up to the last number, off the front. -/
def scan (first : Bool) (n : Nat) : List UInt8 → Option (Nat × List UInt8)
  | [] => if first then none else some (n, [])
  | x :: l => if 48 ≤ x.toNat ∧ x.toNat ≤ 57 then (if (first = false ∧ n = 0) ∨ (lastN - (x.toNat - 48)) / 10 < n then none else scan false (n * 10 + (x.toNat - 48)) l) else if first then none else some (n, x :: l)
def numV : Option (Nat × List UInt8) → Value
  | none => .tuple #[.int .i64 (-1), .string .empty]
  | some (n, l) => .tuple #[.int .i64 (n : Nat), .string ⟨l.toArray⟩]

theorem index_byte (s : ByteArray) (k : Nat) (c : UInt8) (h : s.data.toList[k]? = some c) (w : World) : (Instr.index 9 (.string s) (.int .i64 (k : Nat))).run Tryz.prog w = .ok (.int .u8 (c.toNat : Nat)) w := by
  have hk : k < s.size := by
    have := (List.getElem?_eq_some_iff.1 h).1
    exact this
  have hu : Tryz.prog.underlying 9 = some .string := by kernel_rfl
  rw [run_index_string w 9 s .i64 (k : Nat) hu, dif_pos (by omega)]
  have hc : s[k]'hk = c := by
    have := (List.getElem?_eq_some_iff.1 h).2
    exact this
  have hc2 : s[((k : Nat) : Int).toNat]'(by omega) = c := by
    simp only [Int.toNat_natCast]
    exact hc
  rw [hc2]

theorem ext_drop (s : ByteArray) (k : Nat) : s.extract k s.size = ⟨(s.data.toList.drop k).toArray⟩ := by
  apply ByteArray.ext
  apply Array.ext'
  rw [ByteArray.data_extract]
  have : s.size = s.data.size := rfl
  rw [this]
  simp
  exact List.take_of_length_le (by simp)

set_option maxRecDepth 100000 in
set_option maxHeartbeats 2000000 in
theorem number_any (s : ByteArray) (hs : s.size ≤ 2000000) (w : World) : Calls Tryz.prog 24 #[.string s] w fun e w' => e = .returned (numV (scan true 0 s.data.toList)) ∧ Below w.heap.size w w' := by
  obtain ⟨l, hl⟩ : ∃ l, l = s.data.toList := ⟨_, rfl⟩
  have hlen : l.length = s.size := by rw [hl]; rfl
  rw [← hl]
  obtain ⟨R, hR⟩ : ∃ R, R = numV (scan true 0 l) := ⟨_, rfl⟩
  rw [← hR]
  go_enter Tryz.func24, Tryz.ntmps24
  go_wp2
  go_loop [4, 5] (fun n i => ∃ (a : Int) (k : Nat), k ≤ s.size ∧ i = .int .i64 k ∧ n = .int .i64 a ∧ 0 ≤ a ∧ a ≤ 4611686018427387904 ∧ Hid (R = numV (scan (k == 0) a.toNat (l.drop k)))) (fun _ i => s.size - (intOf i).toNat)
  case atStart => exact ⟨0, 0, Nat.zero_le _, rfl, rfl, by omega, by omega, hR⟩
  case round =>
    obtain ⟨a, k, hk, rfl, rfl, ha0, ha1, HC⟩ := hrel
    have HR := Lib.hid hR
    clear hR
    by_cases hlt : k < s.size
    · obtain ⟨c, hc⟩ : ∃ c, l[k]? = some c := ⟨l[k]'(by omega), by simp⟩
      have hd : l.drop k = c :: l.drop (k + 1) := by
        have := List.drop_eq_getElem_cons (l := l) (i := k) (by omega)
        rw [this]
        congr 1
        have := List.getElem?_eq_getElem (l := l) (i := k) (by omega)
        rw [hc] at this
        exact (Option.some.inj this).symm
      obtain ⟨x, hx⟩ : ∃ x : Int, x = (c.toNat : Nat) := ⟨_, rfl⟩
      have hx0 : 0 ≤ x := by omega
      have hx1 : x ≤ 255 := by have := c.toNat_lt; omega
      have hidx : ∀ w : World, (Instr.index 9 (.string s) (.int .i64 (k : Nat))).run Tryz.prog w = .ok (.int .u8 x) w := fun w => by
        rw [hx]
        exact index_byte s k c (by rw [← hl]; exact hc) w
      have hC : R = numV (scan (k == 0) a.toNat (c :: l.drop (k + 1))) := by rw [← hd]; exact HC
      clear HC
      by_cases hdig : 48 ≤ x ∧ x ≤ 57
      · obtain ⟨hg1, hg2⟩ := hdig
        have hdg : 48 ≤ c.toNat ∧ c.toNat ≤ 57 := by omega
        rw [scan, if_pos hdg] at hC
        by_cases hov : (4611686018427387904 - (x - 48)) / 10 < a
        · have hfin : R = numV none := by
            rw [hC, if_pos (.inr (by unfold lastN; omega))]
          have HF := Lib.hid hfin
          clear hC hfin hx hd hc hdg HR
          by_cases hk0 : 0 < k
          · by_cases hz : a = 0
            · omega
            · go_wp2
              go_ret2
              exact ⟨by rw [HF.out]; rfl, Below.refl _ _⟩
          · go_wp2
            go_ret2
            exact ⟨by rw [HF.out]; rfl, Below.refl _ _⟩
        · have hnx : a * 10 + (x - 48) ≤ 4611686018427387904 := by omega
          by_cases hk0 : 0 < k
          · by_cases hz : a = 0
            · have hfin : R = numV none := by
                rw [hC, if_pos (.inl ⟨by simp; omega, by omega⟩)]
              have HF := Lib.hid hfin
              clear hC hfin hx hd hc hdg HR
              subst hz
              go_wp2
              go_ret2
              exact ⟨by rw [HF.out]; rfl, Below.refl _ _⟩
            · have hgo : R = numV (scan (k + 1 == 0) (a * 10 + (x - 48)).toNat (l.drop (k + 1))) := by
                rw [hC, if_neg (by unfold lastN; simp; omega)]
                have e : a.toNat * 10 + (c.toNat - 48) = (a * 10 + (x - 48)).toNat := by omega
                rw [e]
                simp
              have HG := Lib.hid hgo
              clear hC hgo hx hd hc hdg HR
              go_wp2
              all_goals
                go_round
                case rel => exact ⟨a * 10 + (x - 48), k + 1, by omega, by simp, rfl, by omega, hnx, HG⟩
                case measure => simp [intOf]; omega
          · have hkz : (k == 0) = true := by simp; omega
            have hgo : R = numV (scan (k + 1 == 0) (a * 10 + (x - 48)).toNat (l.drop (k + 1))) := by
              rw [hC, hkz, if_neg (by unfold lastN; simp; omega)]
              have e : a.toNat * 10 + (c.toNat - 48) = (a * 10 + (x - 48)).toNat := by omega
              rw [e]
              simp
            have HG := Lib.hid hgo
            clear hC hgo hx hd hc hdg HR hkz
            go_wp2
            all_goals
              go_round
              case rel => exact ⟨a * 10 + (x - 48), k + 1, by omega, by simp, rfl, by omega, hnx, HG⟩
              case measure => simp [intOf]; omega
      · have hndg : ¬ (48 ≤ c.toNat ∧ c.toNat ≤ 57) := by omega
        rw [scan, if_neg hndg] at hC
        by_cases hk0 : 0 < k
        · have hfin : R = numV (some (a.toNat, c :: l.drop (k + 1))) := by
            rw [hC, if_neg (by simp; omega)]
          have hext : s.extract k s.size = ⟨(c :: l.drop (k + 1)).toArray⟩ := by
            rw [← hd, hl]
            exact ext_drop s k
          have HF := Lib.hid hfin
          clear hC hfin hx hd hc hndg HR
          generalize c :: l.drop (k + 1) = rest at *
          rcases Int.lt_or_le x 48 with hx48 | hx48
          · go_wp2
            go_region
            go_wp2
            go_ret2
            exact ⟨by rw [HF.out]; simp [numV]; omega, ⟨rfl, rfl, rfl, Nat.le_refl _, fun _ _ => rfl⟩⟩
          · have hx57 : 57 < x := by omega
            go_wp2
            go_region
            go_wp2
            go_ret2
            exact ⟨by rw [HF.out]; simp [numV]; omega, ⟨rfl, rfl, rfl, Nat.le_refl _, fun _ _ => rfl⟩⟩
        · have hkz : (k == 0) = true := by simp; omega
          have hfin : R = numV none := by rw [hC, hkz, if_pos rfl]
          have HF := Lib.hid hfin
          clear hC hfin hx hd hc hndg HR hkz
          rcases Int.lt_or_le x 48 with hx48 | hx48
          · go_wp2
            all_goals (go_ret2; exact ⟨by rw [HF.out]; rfl, Below.refl _ _⟩)
          · have hx57 : 57 < x := by omega
            go_wp2
            all_goals (go_ret2; exact ⟨by rw [HF.out]; rfl, Below.refl _ _⟩)
    · obtain rfl : k = s.size := by omega
      have hd : l.drop s.size = [] := List.drop_of_length_le (by omega)
      have hC : R = numV (scan (s.size == 0) a.toNat []) := by rw [← hd]; exact HC
      clear HC hd
      by_cases h0 : 0 < s.size
      · have hfin : R = numV (some (a.toNat, [])) := by
          rw [hC, scan, if_neg (fun h => by have := eq_of_beq h; omega)]
        have hext : s.extract s.size s.size = .empty := by
          rw [ext_drop, ← hl, List.drop_of_length_le (by omega)]
          rfl
        have HF := Lib.hid hfin
        clear hC hfin HR
        go_wp2
        go_region
        go_wp2
        go_ret2
        exact ⟨by rw [HF.out]; simp [numV]; exact ⟨by omega, rfl⟩, ⟨rfl, rfl, rfl, Nat.le_refl _, fun _ _ => rfl⟩⟩
      · have hfin : R = numV none := by
          have hkz : (s.size == 0) = true := beq_iff_eq.2 (by omega)
          rw [hC, scan, hkz, if_pos rfl]
        have HF := Lib.hid hfin
        clear hC hfin HR
        go_wp2
        all_goals (go_ret2; exact ⟨by rw [HF.out]; rfl, Below.refl _ _⟩)
end Go.Proofs
