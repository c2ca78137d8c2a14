/- ManifestNames: the law's walk. -/
import Derived.Test.YtmfdkldjinlmnaaGreatDoorSeatName
import Derived.Test.YtmfdkldjinlmnaaGreatDoorSeatKn17
set_option linter.unusedVariables false
set_option linter.unusedSimpArgs false
namespace Go.Proofs
open Go.RowKit

theorem epoch_any (name : ByteArray) (hs : name.size ≤ 2000000) (w : World) (hL : LaidW w) : Calls Tryz.prog 11 #[.string name] w fun e w' =>
    (∀ E, Nm name E → e = .returned (.tuple #[.int .i64 E, .int .i64 0])) ∧ ((∀ E, ¬ Nm name E) → e = .returned (.tuple #[.int .i64 0, .int .i64 6])) ∧ Below w.heap.size w w' := by
  have no : (∀ E, ¬ EpIs name E) → (Calls Tryz.prog 11 #[.string name] w fun e w' => e = .returned (.tuple #[.int .i64 0, .int .i64 6]) ∧ Below w.heap.size w w') → Calls Tryz.prog 11 #[.string name] w fun e w' =>
      (∀ E, Nm name E → e = .returned (.tuple #[.int .i64 E, .int .i64 0])) ∧ ((∀ E, ¬ Nm name E) → e = .returned (.tuple #[.int .i64 0, .int .i64 6])) ∧ Below w.heap.size w w' := fun hn hc =>
    hc.mono fun e w' h => ⟨fun E hE => absurd ((epIs_iff name E).2 hE) (hn E), fun _ => h.1, h.2⟩
  by_cases h3 : (pieces name).length ≠ 3
  · refine no ?_ (epoch_short name hs w hL h3)
    rintro E ⟨p0, p1, p2, n, h, _⟩
    rw [h] at h3
    exact h3 rfl
  obtain ⟨p0, p1, p2, hp⟩ : ∃ p0 p1 p2, pieces name = [p0, p1, p2] := by
    have hl : (pieces name).length = 3 := Classical.not_not.1 h3
    generalize pieces name = L at hl
    match L, hl with
    | [p0, p1, p2], _ => exact ⟨p0, p1, p2, rfl⟩
    | [], hl => simp at hl
    | [_], hl => simp at hl
    | [_, _], hl => simp at hl
    | _ :: _ :: _ :: _ :: _, hl => simp at hl
  have inv : ∀ E, EpIs name E → Lib.atoiAll p1.data.toList = .ok E ∧ ∃ n, Lib.atoiAll p2.data.toList = .ok n ∧ goodEp name E n := by
    rintro E ⟨q0, q1, q2, n, h, h1, h2, h4⟩
    rw [hp] at h
    injection h with _ h
    injection h with e1 h
    injection h with e2 h
    subst e1 e2
    exact ⟨h1, n, h2, h4⟩
  by_cases h1 : ∀ v, Lib.atoiAll p1.data.toList ≠ .ok v
  · exact no (fun E hE => h1 E (inv E hE).1) (epoch_bad1 name hs w hL hp h1)
  obtain ⟨e1, h1⟩ : ∃ v, Lib.atoiAll p1.data.toList = .ok v := Classical.byContradiction fun hn => h1 fun v hv => hn ⟨v, hv⟩
  by_cases h2 : ∀ v, Lib.atoiAll p2.data.toList ≠ .ok v
  · refine no (fun E hE => ?_) (epoch_bad2 name hs w hL hp h1 h2)
    obtain ⟨_, n, hn, _⟩ := inv E hE
    exact h2 n hn
  obtain ⟨n1, h2⟩ : ∃ v, Lib.atoiAll p2.data.toList = .ok v := Classical.byContradiction fun hn => h2 fun v hv => hn ⟨v, hv⟩
  refine (epoch_two name hs w hL hp h1 h2).mono ?_
  intro e w' ⟨g1, g2, g3⟩
  refine ⟨fun E hE => ?_, fun hno => g2 fun hg => ?_, g3⟩
  · obtain ⟨a1, n, a2, a3⟩ := inv E ((epIs_iff name E).2 hE)
    rw [h1] at a1
    rw [h2] at a2
    cases a1
    cases a2
    exact g1 a3
  · exact hno e1 ((epIs_iff name e1).1 ⟨p0, p1, p2, n1, hp, h1, h2, hg⟩)

/-- The two answers are the same. -/
theorem both (name : ByteArray) (hs : name.size ≤ 2000000) : ∃ a er : Int, (er = 0 ∨ er = 6) ∧ (∀ w : World, Calls Tryz.prog 10 #[.string name] w fun e w' => e = .returned (.tuple #[.int .i64 a, .int .i64 er]) ∧ Below w.heap.size w w')
    ∧ (∀ w : World, LaidW w → Calls Tryz.prog 11 #[.string name] w fun e w' => e = .returned (.tuple #[.int .i64 a, .int .i64 er]) ∧ Below w.heap.size w w') := by
  by_cases h : ∃ E, Nm name E
  · obtain ⟨E, hE⟩ := h
    exact ⟨E, 0, .inl rfl, fun w => (doc_any name hs w).mono fun e w' h => ⟨h.1 E ((docIs_iff name E).2 hE), h.2.2⟩, fun w hL => (epoch_any name hs w hL).mono fun e w' h => ⟨h.1 E hE, h.2.2⟩⟩
  · have hno : ∀ E, ¬ Nm name E := fun E hE => h ⟨E, hE⟩
    exact ⟨0, 6, .inr rfl, fun w => (doc_any name hs w).mono fun e w' h => ⟨h.2.1 fun E hE => hno E ((docIs_iff name E).1 hE), h.2.2⟩, fun w hL => (epoch_any name hs w hL).mono fun e w' h => ⟨h.2.1 hno, h.2.2⟩⟩

theorem epoch_of (c : UInt8) (hc : c = 109 ∨ c = 99) (a b : Int) (ha0 : 0 ≤ a) (hb0 : 0 ≤ b) (ha1 : a ≤ 4611686018427387904) (hb1 : b ≤ 4611686018427387904) (w : World) (hL : LaidW w) :
    Calls Tryz.prog 11 #[.string (nameI c a b)] w fun e w' => e = .returned (.tuple #[.int .i64 a, .int .i64 0]) ∧ Below w.heap.size w w' := by
  have hn : nameI c a b = nameB c a.toNat b.toNat := if_neg (by omega)
  have hz := nameB_size (a := a.toNat) (b := b.toNat) c (by omega) (by omega)
  rw [hn]
  exact (epoch_any _ (by omega) w hL).mono fun e w' h => ⟨h.1 a ⟨c, a.toNat, b.toNat, hc, by unfold lastN; omega, by unfold lastN; omega, rfl, by omega⟩, h.2.2⟩

set_option maxRecDepth 100000 in
set_option maxHeartbeats 2000000 in
theorem law_any (a b : Int) (ha : I64 a) (hb : I64 b) (name : ByteArray) (hs : name.size ≤ 2000000) (w : World) (hT : Tab64 w) (hL : LaidW w) :
    Calls Tryz.prog 4 #[.int .i64 a, .int .i64 b, .string name] w fun e w' => e = .returned (.bool true) ∧ Below w.heap.size w w' := by
  obtain ⟨E, er, her, hdoc, hep⟩ := both name hs
  have hk := kn17 hT
  have HD := Lib.hid hdoc
  have HE : Hid (∀ W, Below w.heap.size w W → _) := fun W hW => hep W (hL.below hW)
  have HM : Hid (∀ W, Below w.heap.size w W → _) := fun W hW => mname_any a b ha hb W (hL.below hW).tab
  have HR : Hid (∀ W, _) := fun W => refName_any a b ha hb W
  have HB : Hid (∀ W, Below w.heap.size w W → _) := fun W hW => blob_any a b ha hb W (hL.below hW).tab
  have H1 : Hid (0 ≤ a → 0 ≤ b → a ≤ 4611686018427387904 → b ≤ 4611686018427387904 → ∀ W, Below w.heap.size w W → _) := fun h1 h2 h3 h4 W hW => epoch_of 109 (.inl rfl) a b h1 h2 h3 h4 W (hL.below hW)
  have H2 : Hid (0 ≤ a → 0 ≤ b → a ≤ 4611686018427387904 → b ≤ 4611686018427387904 → ∀ W, Below w.heap.size w W → _) := fun h1 h2 h3 h4 W hW => epoch_of 99 (.inr rfl) a b h1 h2 h3 h4 W (hL.below hW)
  clear hdoc hep hT hL
  obtain ⟨ha0, ha1⟩ := ha
  obtain ⟨hb0, hb1⟩ := hb
  generalize nameI 109 a b = M at *
  generalize nameI 99 a b = B at *
  clear her
  by_cases hin : (0 ≤ a ∧ 0 ≤ b) ∧ (a ≤ 4611686018427387904 ∧ b ≤ 4611686018427387904)
  · obtain ⟨⟨hin1, hin2⟩, hin3, hin4⟩ := hin
    have G1 := Lib.hid (H1.out hin1 hin2 hin3 hin4)
    have G2 := Lib.hid (H2.out hin1 hin2 hin3 hin4)
    clear H1 H2
    go_enter Tryz.func4, Tryz.ntmps4
    go_wp2_with (first
      | (go_at_call 9; refine hk.mono ?_; clear hk; rintro e W1 ⟨rfl, hw1⟩)
      | (go_at_call 10; refine (HD W1).mono ?_; clear HD; rintro e W2 ⟨rfl, hb2⟩; have hw2 : Below w.heap.size w W2 := hw1.trans (hb2.mono hw1.size))
      | (go_at_call 11; refine (HE W2 hw2).mono ?_; clear HE; rintro e W3 ⟨rfl, hb3⟩; have hw3 : Below w.heap.size w W3 := hw2.trans (hb3.mono hw2.size))
      | (go_at_call 12; refine (HM W3 hw3).mono ?_; rintro e W4 ⟨rfl, hb4⟩; have hw4 : Below w.heap.size w W4 := hw3.trans (hb4.mono hw3.size))
      | (go_at_call 13; refine (HR W4).mono ?_; clear HR; rintro e W5 ⟨rfl, rfl⟩)
      | (go_at_call 12; refine (HM W5 hw4).mono ?_; clear HM; rintro e W6 ⟨rfl, hb6⟩; have hw6 : Below w.heap.size w W6 := hw4.trans (hb6.mono hw4.size))
      | (go_at_call 11; refine (G1 W6 hw6).mono ?_; clear G1; rintro e W7 ⟨rfl, hb7⟩; have hw7 : Below w.heap.size w W7 := hw6.trans (hb7.mono hw6.size))
      | (go_at_call 6; refine (HB W7 hw7).mono ?_; clear HB; rintro e W8 ⟨rfl, hb8⟩; have hw8 : Below w.heap.size w W8 := hw7.trans (hb8.mono hw7.size))
      | (go_at_call 11; refine (G2 W8 hw8).mono ?_; clear G2; rintro e W9 ⟨rfl, hb9⟩; have hw9 : Below w.heap.size w W9 := hw8.trans (hb9.mono hw8.size)))
    go_ret
    exact ⟨rfl, hw9⟩
  · clear H1 H2 HB
    by_cases c1 : a < 0
    · clear hin
      go_enter Tryz.func4, Tryz.ntmps4
      go_wp2_with (first
        | (go_at_call 9; refine hk.mono ?_; clear hk; rintro e W1 ⟨rfl, hw1⟩)
        | (go_at_call 10; refine (HD W1).mono ?_; clear HD; rintro e W2 ⟨rfl, hb2⟩; have hw2 : Below w.heap.size w W2 := hw1.trans (hb2.mono hw1.size))
        | (go_at_call 11; refine (HE W2 hw2).mono ?_; clear HE; rintro e W3 ⟨rfl, hb3⟩; have hw3 : Below w.heap.size w W3 := hw2.trans (hb3.mono hw2.size))
        | (go_at_call 12; refine (HM W3 hw3).mono ?_; rintro e W4 ⟨rfl, hb4⟩; have hw4 : Below w.heap.size w W4 := hw3.trans (hb4.mono hw3.size))
        | (go_at_call 13; refine (HR W4).mono ?_; clear HR; rintro e W5 ⟨rfl, rfl⟩))
      go_ret
      exact ⟨rfl, hw4⟩
    by_cases c2 : b < 0
    · clear hin
      go_enter Tryz.func4, Tryz.ntmps4
      go_wp2_with (first
        | (go_at_call 9; refine hk.mono ?_; clear hk; rintro e W1 ⟨rfl, hw1⟩)
        | (go_at_call 10; refine (HD W1).mono ?_; clear HD; rintro e W2 ⟨rfl, hb2⟩; have hw2 : Below w.heap.size w W2 := hw1.trans (hb2.mono hw1.size))
        | (go_at_call 11; refine (HE W2 hw2).mono ?_; clear HE; rintro e W3 ⟨rfl, hb3⟩; have hw3 : Below w.heap.size w W3 := hw2.trans (hb3.mono hw2.size))
        | (go_at_call 12; refine (HM W3 hw3).mono ?_; rintro e W4 ⟨rfl, hb4⟩; have hw4 : Below w.heap.size w W4 := hw3.trans (hb4.mono hw3.size))
        | (go_at_call 13; refine (HR W4).mono ?_; clear HR; rintro e W5 ⟨rfl, rfl⟩))
      go_ret
      exact ⟨rfl, hw4⟩
    by_cases c3 : 4611686018427387904 < a
    · clear hin
      go_enter Tryz.func4, Tryz.ntmps4
      go_wp2_with (first
        | (go_at_call 9; refine hk.mono ?_; clear hk; rintro e W1 ⟨rfl, hw1⟩)
        | (go_at_call 10; refine (HD W1).mono ?_; clear HD; rintro e W2 ⟨rfl, hb2⟩; have hw2 : Below w.heap.size w W2 := hw1.trans (hb2.mono hw1.size))
        | (go_at_call 11; refine (HE W2 hw2).mono ?_; clear HE; rintro e W3 ⟨rfl, hb3⟩; have hw3 : Below w.heap.size w W3 := hw2.trans (hb3.mono hw2.size))
        | (go_at_call 12; refine (HM W3 hw3).mono ?_; rintro e W4 ⟨rfl, hb4⟩; have hw4 : Below w.heap.size w W4 := hw3.trans (hb4.mono hw3.size))
        | (go_at_call 13; refine (HR W4).mono ?_; clear HR; rintro e W5 ⟨rfl, rfl⟩))
      go_ret
      exact ⟨rfl, hw4⟩
    have c4 : 4611686018427387904 < b := by omega
    clear hin
    go_enter Tryz.func4, Tryz.ntmps4
    go_wp2_with (first
      | (go_at_call 9; refine hk.mono ?_; clear hk; rintro e W1 ⟨rfl, hw1⟩)
      | (go_at_call 10; refine (HD W1).mono ?_; clear HD; rintro e W2 ⟨rfl, hb2⟩; have hw2 : Below w.heap.size w W2 := hw1.trans (hb2.mono hw1.size))
      | (go_at_call 11; refine (HE W2 hw2).mono ?_; clear HE; rintro e W3 ⟨rfl, hb3⟩; have hw3 : Below w.heap.size w W3 := hw2.trans (hb3.mono hw2.size))
      | (go_at_call 12; refine (HM W3 hw3).mono ?_; rintro e W4 ⟨rfl, hb4⟩; have hw4 : Below w.heap.size w W4 := hw3.trans (hb4.mono hw3.size))
      | (go_at_call 13; refine (HR W4).mono ?_; clear HR; rintro e W5 ⟨rfl, rfl⟩))
    go_ret
    exact ⟨rfl, hw4⟩
end Go.Proofs
