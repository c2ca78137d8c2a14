/- FilesBlobs: the law's walk. -/
import Derived.Test.YtmfdkldjinlmnaaGreatDoorSeatName8
import Derived.Test.YtmfdkldjinlmnaaGreatDoorSeatKn16
set_option linter.unusedSimpArgs false
set_option linter.unusedVariables false
namespace Go.Proofs
open Go.RowKit

theorem tab_below {W W' : World} (h : Lib.TabBelow Tryz.prog W.heap.size W "internal/strconv.uint64pow10" .u64 Lib.pow10Tab) (hb : Below W.heap.size W W') : Lib.TabBelow Tryz.prog W'.heap.size W' "internal/strconv.uint64pow10" .u64 Lib.pow10Tab :=
  fun W2 h2 => h W2 (hb.trans (h2.mono hb.size))

set_option maxRecDepth 100000 in
set_option maxHeartbeats 4000000 in
theorem law3_any (a b c : Int) (ha : I64 a) (hb : I64 b) (hc : I64 c) (w : World) (hT : Tab64 w) (hL : Lib.TabBelow Tryz.prog w.heap.size w "internal/strconv.uint64pow10" .u64 Lib.pow10Tab) :
    Calls Tryz.prog 3 #[.int .i64 a, .int .i64 b, .int .i64 c] w fun e w' => e = .returned (.bool true) ∧ Below w.heap.size w w' := by
  have hk := kn16 hT
  have HX : Hid (∀ W, Below w.heap.size w W → _) := fun W hW => blob_any a b ha hb W (tab_below hL hW)
  have HY : Hid (∀ W, Below w.heap.size w W → _) := fun W hW => blob_any a c ha hc W (tab_below hL hW)
  have HZ : Hid (∀ W, Below w.heap.size w W → _) := fun W hW => blob_any b a hb ha W (tab_below hL hW)
  have RX : Hid (∀ W, _) := fun W => refBlob_any a b ha hb W
  have RY : Hid (∀ W, _) := fun W => refBlob_any a c ha hc W
  by_cases hneg : a < 0 ∨ b < 0 ∨ c < 0
  · clear hL hT HZ
    obtain ⟨ha0, ha1⟩ := ha
    obtain ⟨hb0, hb1⟩ := hb
    obtain ⟨hc0, hc1⟩ := hc
    generalize nameI 99 a b = X at *
    generalize nameI 99 a c = Y at *
    by_cases c1 : a < 0
    · clear hneg
      go_enter Tryz.func3, Tryz.ntmps3
      go_wp2_with (first
        | (go_at_call 5; refine hk.mono ?_; clear hk; rintro e W1 ⟨rfl, hw1⟩)
        | (go_at_call 6; refine (HX.out W1 hw1).mono ?_; clear HX; rintro e W2 ⟨rfl, hb2⟩; have hw2 : Below w.heap.size w W2 := hw1.trans (hb2.mono hw1.size))
        | (go_at_call 6; refine (HY.out W2 hw2).mono ?_; clear HY; rintro e W3 ⟨rfl, hb3⟩; have hw3 : Below w.heap.size w W3 := hw2.trans (hb3.mono hw2.size))
        | (go_at_call 7; refine (RX.out W3).mono ?_; clear RX; rintro e W4 ⟨rfl, rfl⟩)
        | (go_at_call 7; refine (RY.out W4).mono ?_; clear RY; rintro e W5 ⟨rfl, rfl⟩))
      go_ret
      exact ⟨rfl, hw3⟩
    · by_cases c2 : b < 0
      · clear hneg
        go_enter Tryz.func3, Tryz.ntmps3
        go_wp2_with (first
          | (go_at_call 5; refine hk.mono ?_; clear hk; rintro e W1 ⟨rfl, hw1⟩)
          | (go_at_call 6; refine (HX.out W1 hw1).mono ?_; clear HX; rintro e W2 ⟨rfl, hb2⟩; have hw2 : Below w.heap.size w W2 := hw1.trans (hb2.mono hw1.size))
          | (go_at_call 6; refine (HY.out W2 hw2).mono ?_; clear HY; rintro e W3 ⟨rfl, hb3⟩; have hw3 : Below w.heap.size w W3 := hw2.trans (hb3.mono hw2.size))
          | (go_at_call 7; refine (RX.out W3).mono ?_; clear RX; rintro e W4 ⟨rfl, rfl⟩)
          | (go_at_call 7; refine (RY.out W4).mono ?_; clear RY; rintro e W5 ⟨rfl, rfl⟩))
        go_ret
        exact ⟨rfl, hw3⟩
      · have c3 : c < 0 := by omega
        clear hneg
        go_enter Tryz.func3, Tryz.ntmps3
        go_wp2_with (first
          | (go_at_call 5; refine hk.mono ?_; clear hk; rintro e W1 ⟨rfl, hw1⟩)
          | (go_at_call 6; refine (HX.out W1 hw1).mono ?_; clear HX; rintro e W2 ⟨rfl, hb2⟩; have hw2 : Below w.heap.size w W2 := hw1.trans (hb2.mono hw1.size))
          | (go_at_call 6; refine (HY.out W2 hw2).mono ?_; clear HY; rintro e W3 ⟨rfl, hb3⟩; have hw3 : Below w.heap.size w W3 := hw2.trans (hb3.mono hw2.size))
          | (go_at_call 7; refine (RX.out W3).mono ?_; clear RX; rintro e W4 ⟨rfl, rfl⟩)
          | (go_at_call 7; refine (RY.out W4).mono ?_; clear RY; rintro e W5 ⟨rfl, rfl⟩))
        go_ret
        exact ⟨rfl, hw3⟩
  · have c1 : ¬ a < 0 := fun h => hneg (.inl h)
    have c2 : ¬ b < 0 := fun h => hneg (.inr (.inl h))
    have c3 : ¬ c < 0 := fun h => hneg (.inr (.inr h))
    have HX2 : Hid (∀ W, Below w.heap.size w W → _) := fun W hW => blob_any a b ha hb W (tab_below hL hW)
    clear hneg hL hT
    obtain ⟨ha0, ha1⟩ := ha
    obtain ⟨hb0, hb1⟩ := hb
    obtain ⟨hc0, hc1⟩ := hc
    have eX : nameI 99 a b = nameB 99 a.toNat b.toNat := if_neg (by omega)
    have eY : nameI 99 a c = nameB 99 a.toNat c.toNat := if_neg (by omega)
    have eZ : nameI 99 b a = nameB 99 b.toNat a.toNat := if_neg (by omega)
    have HN : Hid (∀ W, _) := fun W => bname_any a.toNat b.toNat (by omega) (by omega) W
    rw [← eX] at HN
    have hXY : b ≠ c → ((nameI 99 a b).toList == (nameI 99 a c).toList) = false := fun h => by
      rw [eX, eY]
      refine Bool.eq_false_iff.2 (fun hq => h ?_)
      have := (nameB_inj (eq_of_beq hq)).2
      omega
    have hXZ : a ≠ b → ((nameI 99 a b).toList == (nameI 99 b a).toList) = false := fun h => by
      rw [eX, eZ]
      refine Bool.eq_false_iff.2 (fun hq => h ?_)
      have := (nameB_inj (eq_of_beq hq)).1
      omega
    clear eX eY eZ
    by_cases hbc : b = c
    · subst hbc
      clear hXY
      by_cases hab : a = b
      · subst hab
        generalize nameI 99 a a = X at *
        clear hXZ HX2 HZ
        go_enter Tryz.func3, Tryz.ntmps3
        go_wp2_with (first
          | (go_at_call 5; refine hk.mono ?_; clear hk; rintro e W1 ⟨rfl, hw1⟩)
          | (go_at_call 6; refine (HX.out W1 hw1).mono ?_; clear HX; rintro e W2 ⟨rfl, hb2⟩; have hw2 : Below w.heap.size w W2 := hw1.trans (hb2.mono hw1.size))
          | (go_at_call 6; refine (HY.out W2 hw2).mono ?_; clear HY; rintro e W3 ⟨rfl, hb3⟩; have hw3 : Below w.heap.size w W3 := hw2.trans (hb3.mono hw2.size))
          | (go_at_call 7; refine (RX.out W3).mono ?_; clear RX; rintro e W4 ⟨rfl, rfl⟩)
          | (go_at_call 7; refine (RY.out W4).mono ?_; clear RY; rintro e W5 ⟨rfl, rfl⟩)
          | (go_at_call 8; refine (HN.out W5).mono ?_; clear HN; rintro e W6 ⟨rfl, hb6⟩; have hw6 : Below w.heap.size w W6 := hw3.trans (hb6.mono hw3.size)))
        go_ret
        exact ⟨rfl, hw6⟩
      · generalize nameI 99 a b = X at *
        generalize nameI 99 b a = Z at *
        have hXZ' := hXZ hab
        clear hXZ
        go_enter Tryz.func3, Tryz.ntmps3
        go_wp2_with (first
          | (go_at_call 5; refine hk.mono ?_; clear hk; rintro e W1 ⟨rfl, hw1⟩)
          | (go_at_call 6; refine (HX.out W1 hw1).mono ?_; clear HX; rintro e W2 ⟨rfl, hb2⟩; have hw2 : Below w.heap.size w W2 := hw1.trans (hb2.mono hw1.size))
          | (go_at_call 6; refine (HY.out W2 hw2).mono ?_; clear HY; rintro e W3 ⟨rfl, hb3⟩; have hw3 : Below w.heap.size w W3 := hw2.trans (hb3.mono hw2.size))
          | (go_at_call 7; refine (RX.out W3).mono ?_; clear RX; rintro e W4 ⟨rfl, rfl⟩)
          | (go_at_call 7; refine (RY.out W4).mono ?_; clear RY; rintro e W5 ⟨rfl, rfl⟩)
          | (go_at_call 8; refine (HN.out W5).mono ?_; clear HN; rintro e W6 ⟨rfl, hb6⟩; have hw6 : Below w.heap.size w W6 := hw3.trans (hb6.mono hw3.size))
          | (go_at_call 6; refine (HX2.out W6 hw6).mono ?_; clear HX2; rintro e W7 ⟨rfl, hb7⟩; have hw7 : Below w.heap.size w W7 := hw6.trans (hb7.mono hw6.size))
          | (go_at_call 6; refine (HZ.out W7 hw7).mono ?_; clear HZ; rintro e W8 ⟨rfl, hb8⟩; have hw8 : Below w.heap.size w W8 := hw7.trans (hb8.mono hw7.size)))
        go_ret
        exact ⟨rfl, hw8⟩
    · have hXY' := hXY hbc
      clear hXY
      by_cases hab : a = b
      · subst hab
        generalize nameI 99 a a = X at *
        generalize nameI 99 a c = Y at *
        clear hXZ HX2 HZ
        go_enter Tryz.func3, Tryz.ntmps3
        go_wp2_with (first
          | (go_at_call 5; refine hk.mono ?_; clear hk; rintro e W1 ⟨rfl, hw1⟩)
          | (go_at_call 6; refine (HX.out W1 hw1).mono ?_; clear HX; rintro e W2 ⟨rfl, hb2⟩; have hw2 : Below w.heap.size w W2 := hw1.trans (hb2.mono hw1.size))
          | (go_at_call 6; refine (HY.out W2 hw2).mono ?_; clear HY; rintro e W3 ⟨rfl, hb3⟩; have hw3 : Below w.heap.size w W3 := hw2.trans (hb3.mono hw2.size))
          | (go_at_call 7; refine (RX.out W3).mono ?_; clear RX; rintro e W4 ⟨rfl, rfl⟩)
          | (go_at_call 7; refine (RY.out W4).mono ?_; clear RY; rintro e W5 ⟨rfl, rfl⟩)
          | (go_at_call 8; refine (HN.out W5).mono ?_; clear HN; rintro e W6 ⟨rfl, hb6⟩; have hw6 : Below w.heap.size w W6 := hw3.trans (hb6.mono hw3.size)))
        go_ret
        exact ⟨by simp [hbc], hw6⟩
      · generalize nameI 99 a b = X at *
        generalize nameI 99 a c = Y at *
        generalize nameI 99 b a = Z at *
        have hXZ' := hXZ hab
        clear hXZ
        go_enter Tryz.func3, Tryz.ntmps3
        go_wp2_with (first
          | (go_at_call 5; refine hk.mono ?_; clear hk; rintro e W1 ⟨rfl, hw1⟩)
          | (go_at_call 6; refine (HX.out W1 hw1).mono ?_; clear HX; rintro e W2 ⟨rfl, hb2⟩; have hw2 : Below w.heap.size w W2 := hw1.trans (hb2.mono hw1.size))
          | (go_at_call 6; refine (HY.out W2 hw2).mono ?_; clear HY; rintro e W3 ⟨rfl, hb3⟩; have hw3 : Below w.heap.size w W3 := hw2.trans (hb3.mono hw2.size))
          | (go_at_call 7; refine (RX.out W3).mono ?_; clear RX; rintro e W4 ⟨rfl, rfl⟩)
          | (go_at_call 7; refine (RY.out W4).mono ?_; clear RY; rintro e W5 ⟨rfl, rfl⟩)
          | (go_at_call 8; refine (HN.out W5).mono ?_; clear HN; rintro e W6 ⟨rfl, hb6⟩; have hw6 : Below w.heap.size w W6 := hw3.trans (hb6.mono hw3.size))
          | (go_at_call 6; refine (HX2.out W6 hw6).mono ?_; clear HX2; rintro e W7 ⟨rfl, hb7⟩; have hw7 : Below w.heap.size w W7 := hw6.trans (hb7.mono hw6.size))
          | (go_at_call 6; refine (HZ.out W7 hw7).mono ?_; clear HZ; rintro e W8 ⟨rfl, hb8⟩; have hw8 : Below w.heap.size w W8 := hw7.trans (hb8.mono hw7.size)))
        go_ret
        exact ⟨by simp [hbc], hw8⟩
end Go.Proofs
