/- What manifest.Epoch answers. -/
import Derived.Test.YtmfdkldjinlmnaaGreatDoorSeatBlob
import Derived.Test.YtmfdkldjinlmnaaGreatDoorSeatLib
set_option linter.unusedSimpArgs false
set_option linter.unusedVariables false
namespace Go.Proofs
open Go.Shelf Go.RowKit

/-- What the calls read of the library's variables, now and later. -/
structure LaidW (w : World) : Prop where
  tab : Lib.TabBelow Tryz.prog w.heap.size w "internal/strconv.uint64pow10" .u64 Lib.pow10Tab
  errs : ∃ tp p tq q, ∀ w', Below w.heap.size w w' → w'.var? Tryz.prog "strconv.ErrSyntax" = some #[.iface tp p] ∧ w'.var? Tryz.prog "strconv.ErrRange" = some #[.iface tq q]
  most : ∃ m, w.cell? ⟨6, 0, none⟩ = some (.int .i64 m)
theorem LaidW.below {w w' : World} (h : LaidW w) (hb : Below w.heap.size w w') : LaidW w' := by
  refine ⟨fun w2 h2 => h.tab w2 (hb.trans (h2.mono hb.size)), ?_, ?_⟩
  · obtain ⟨tp, p, tq, q, he⟩ := h.errs
    exact ⟨tp, p, tq, q, fun w2 h2 => he w2 (hb.trans (h2.mono hb.size))⟩
  · obtain ⟨m, hm⟩ := h.most
    exact ⟨m, (hb.cell (p := ⟨6, 0, none⟩) (World.block_lt_of_cell? w _ hm)).trans hm⟩

def dash : ByteArray := ⟨#[45]⟩
def pieces (name : ByteArray) : List ByteArray := Lib.splitB dash 0 (Lib.countB name dash) name
def goodEp (name : ByteArray) (e n : Int) : Prop := e ≤ 4611686018427387904 ∧ n ≤ 4611686018427387904 ∧ (name = nameI 109 e n ∨ name = nameI 99 e n)
/-- The epoch that a name tells, if it tells one. -/
def EpIs (name : ByteArray) (e : Int) : Prop := ∃ p0 p1 p2 n, pieces name = [p0, p1, p2] ∧ Lib.atoiAll p1.data.toList = .ok e ∧ Lib.atoiAll p2.data.toList = .ok n ∧ goodEp name e n

theorem pieces_len (name : ByteArray) : (pieces name).length = Lib.countB name dash + 1 := Lib.splitB_all dash (by decide) 0 _ name rfl

theorem splitB_size : ∀ (k : Nat) (s : ByteArray), ∀ x ∈ Lib.splitB dash 0 k s, x.size ≤ s.size
  | 0, s, x, h => by
    rw [Lib.splitB_zero] at h
    simp at h
    rw [h]
    exact Nat.le_refl _
  | k + 1, s, x, h => by
    unfold Lib.splitB at h
    split at h
    · simp at h
      rw [h]
      exact Nat.le_refl _
    · rcases List.mem_cons.1 h with rfl | h
      · rw [ByteArray.size_extract]; omega
      · have := splitB_size k _ x h
        rw [ByteArray.size_extract] at this
        omega

set_option maxRecDepth 100000 in
set_option maxHeartbeats 1000000 in
theorem epoch_short (name : ByteArray) (hs : name.size ≤ 2000000) (w : World) (hL : LaidW w) (h3 : (pieces name).length ≠ 3) :
    Calls Tryz.prog 11 #[.string name] w fun e w' => e = .returned (.tuple #[.int .i64 0, .int .i64 6]) ∧ Below w.heap.size w w' := by
  obtain ⟨m, hm⟩ := hL.most
  have hsp := split_any name dash m w (by omega) hm (by decide)
  rw [← pieces_len] at hsp
  have hcv : (((pieces name).length : Nat) : Int) ≠ 3 := by omega
  have hb : ∀ o, Below w.heap.size w (w.alloc o) := fun o => (Below.refl _ w).alloc (Nat.le_refl _) _
  have hds : dash = ⟨#[45]⟩ := rfl
  rw [hds] at hsp
  generalize (pieces name).length = L at *
  generalize ((Lib.splitB ⟨#[45]⟩ 0 (Lib.countB name ⟨#[45]⟩) name).map Value.string).toArray = cs at *
  clear hL hm hds
  go_enter Tryz.func11, Tryz.ntmps11
  go_wp2_with (go_at_call 25; refine hsp.mono ?_; rintro e w' ⟨rfl, rfl⟩)
  go_ret2
  exact ⟨rfl, hb _⟩

/-- What the walk of a name with three pieces leans on. -/
structure Three (name p0 p1 p2 : ByteArray) (w W1 : World) : Prop where
  split : Calls Tryz.prog 25 #[.string name, .string ⟨#[45]⟩] w fun e w' => e = .returned (.slice (some ⟨w.heap.size, 0, none⟩) 3 3) ∧ w' = W1
  c1 : W1.cell? ⟨w.heap.size, 1, none⟩ = some (.string p1)
  c2 : W1.cell? ⟨w.heap.size, 2, none⟩ = some (.string p2)
  lt : w.heap.size < W1.heap.size
  below : Below w.heap.size w W1
  s1 : p1.size ≤ 2000000
  s2 : p2.size ≤ 2000000
theorem three (name : ByteArray) (hs : name.size ≤ 2000000) (w : World) (hL : LaidW w) {p0 p1 p2 : ByteArray} (hp : pieces name = [p0, p1, p2]) : ∃ W1, Three name p0 p1 p2 w W1 := by
  obtain ⟨m, hm⟩ := hL.most
  have hsp := split_any name dash m w (by omega) hm (by decide)
  rw [← pieces_len, hp] at hsp
  have hpp : Lib.splitB dash 0 (Lib.countB name dash) name = [p0, p1, p2] := hp
  have hcs : ((Lib.splitB dash 0 (Lib.countB name dash) name).map Value.string).toArray = #[.string p0, .string p1, .string p2] := by rw [hpp]; rfl
  rw [hcs] at hsp
  have hnew : (w.alloc (.cells #[.string p0, .string p1, .string p2] 9)).heap[w.heap.size]? = some (.cells #[.string p0, .string p1, .string p2] 9) := by
    show (w.heap.push _)[w.heap.size]? = _
    simp
  refine ⟨_, hsp, by unfold World.cell?; rw [hnew]; rfl, by unfold World.cell?; rw [hnew]; rfl, by simp, (Below.refl _ w).alloc (Nat.le_refl _) _,
    Nat.le_trans (splitB_size _ name p1 (by rw [hpp]; simp)) hs, Nat.le_trans (splitB_size _ name p2 (by rw [hpp]; simp)) hs⟩

/-- Whatever Atoi answers. -/
theorem atoi_some (s : ByteArray) (hs : s.size ≤ 2000000) (w : World) (hL : LaidW w) : Calls Tryz.prog 26 #[.string s] w fun e w' => (∃ v er, e = .returned (.tuple #[.int .i64 v, er]) ∧ (er = .nilIface ∨ ∃ t N, er = .iface t (.pointer (some ⟨N, 0, none⟩)))) ∧ Below w.heap.size w w' := by
  obtain ⟨tp, p, tq, q, he⟩ := hL.errs
  by_cases h2 : ∀ v, Lib.atoiAll s.data.toList ≠ .ok v
  · refine (atoi_bad s (by omega) h2 w tp tq p q (he w (Below.refl _ _)).1 (he w (Below.refl _ _)).2).mono ?_
    rintro e w' ⟨⟨v, t, N, _, h⟩, hb⟩
    exact ⟨⟨v, _, h, .inr ⟨t, N, rfl⟩⟩, hb⟩
  · obtain ⟨v, hv⟩ : ∃ v, Lib.atoiAll s.data.toList = .ok v := Classical.byContradiction fun hn => h2 fun v hv => hn ⟨v, hv⟩
    refine (atoi_ok s (by omega) v hv w).mono ?_
    rintro e w' ⟨h, hb⟩
    exact ⟨⟨v, _, h, .inl rfl⟩, hb⟩
theorem atoi_no (s : ByteArray) (hs : s.size ≤ 2000000) (h : ∀ v, Lib.atoiAll s.data.toList ≠ .ok v) (w : World) (hL : LaidW w) : Calls Tryz.prog 26 #[.string s] w fun e w' => (∃ v t N, e = .returned (.tuple #[.int .i64 v, .iface t (.pointer (some ⟨N, 0, none⟩))])) ∧ Below w.heap.size w w' := by
  obtain ⟨tp, p, tq, q, he⟩ := hL.errs
  refine (atoi_bad s (by omega) h w tp tq p q (he w (Below.refl _ _)).1 (he w (Below.refl _ _)).2).mono ?_
  rintro e w' ⟨⟨v, t, N, _, h⟩, hb⟩
  exact ⟨⟨v, t, N, h⟩, hb⟩

set_option maxRecDepth 100000 in
set_option maxHeartbeats 2000000 in
theorem epoch_bad1 (name : ByteArray) (hs : name.size ≤ 2000000) (w : World) (hL : LaidW w) {p0 p1 p2 : ByteArray} (hp : pieces name = [p0, p1, p2]) (h1 : ∀ v, Lib.atoiAll p1.data.toList ≠ .ok v) :
    Calls Tryz.prog 11 #[.string name] w fun e w' => e = .returned (.tuple #[.int .i64 0, .int .i64 6]) ∧ Below w.heap.size w w' := by
  obtain ⟨W1, hsp, hc1, hc2, hlt, hb0, hz1, hz2⟩ := three name hs w hL hp
  have hL1 := hL.below hb0
  have ha1 := atoi_no p1 hz1 h1 W1 hL1
  have HE : Hid (∀ W2, Below W1.heap.size W1 W2 → _) := fun W2 hb2 => atoi_some p2 hz2 W2 (hL1.below hb2)
  clear hL hL1 hp h1
  go_enter Tryz.func11, Tryz.ntmps11
  go_wp2_with (first
    | (go_at_call 25; refine hsp.mono ?_; rintro e w' ⟨rfl, rfl⟩)
    | (go_at_call 26; refine ha1.mono ?_; clear ha1; rintro e W2 ⟨⟨v1, t1, N1, rfl⟩, hb2⟩; have hc3 : W2.cell? ⟨w.heap.size, 2, none⟩ = some (.string p2) := (hb2.cell (p := ⟨w.heap.size, 2, none⟩) hlt).trans hc2)
    | (go_at_call 26; refine (HE W2 hb2).mono ?_; rintro e W3 ⟨⟨v2, e2, rfl, he2⟩, hb3⟩))
  go_ret2
  exact ⟨rfl, hb0.trans ((hb2.trans (hb3.mono hb2.size)).mono (Nat.le_of_lt hlt))⟩

set_option maxRecDepth 100000 in
set_option maxHeartbeats 2000000 in
theorem epoch_bad2 (name : ByteArray) (hs : name.size ≤ 2000000) (w : World) (hL : LaidW w) {p0 p1 p2 : ByteArray} (hp : pieces name = [p0, p1, p2]) {e1 : Int} (h1 : Lib.atoiAll p1.data.toList = .ok e1) (h2 : ∀ v, Lib.atoiAll p2.data.toList ≠ .ok v) :
    Calls Tryz.prog 11 #[.string name] w fun e w' => e = .returned (.tuple #[.int .i64 0, .int .i64 6]) ∧ Below w.heap.size w w' := by
  obtain ⟨W1, hsp, hc1, hc2, hlt, hb0, hz1, hz2⟩ := three name hs w hL hp
  have hL1 := hL.below hb0
  have ha1 := atoi_ok p1 (by omega) e1 h1 W1
  have HE : Hid (∀ W2, Below W1.heap.size W1 W2 → _) := fun W2 hb2 => atoi_no p2 hz2 h2 W2 (hL1.below hb2)
  clear hL hL1 hp h1 h2
  go_enter Tryz.func11, Tryz.ntmps11
  go_wp2_with (first
    | (go_at_call 25; refine hsp.mono ?_; rintro e w' ⟨rfl, rfl⟩)
    | (go_at_call 26; refine ha1.mono ?_; clear ha1; rintro e W2 ⟨rfl, hb2⟩; have hc3 : W2.cell? ⟨w.heap.size, 2, none⟩ = some (.string p2) := (hb2.cell (p := ⟨w.heap.size, 2, none⟩) hlt).trans hc2)
    | (go_at_call 26; refine (HE W2 hb2).mono ?_; rintro e W3 ⟨⟨v2, t2, N2, rfl⟩, hb3⟩))
  go_ret2
  exact ⟨rfl, hb0.trans ((hb2.trans (hb3.mono hb2.size)).mono (Nat.le_of_lt hlt))⟩

set_option maxRecDepth 100000 in
set_option maxHeartbeats 2000000 in
theorem epoch_two (name : ByteArray) (hs : name.size ≤ 2000000) (w : World) (hL : LaidW w) {p0 p1 p2 : ByteArray} (hp : pieces name = [p0, p1, p2]) {e1 n1 : Int} (h1 : Lib.atoiAll p1.data.toList = .ok e1) (h2 : Lib.atoiAll p2.data.toList = .ok n1) :
    Calls Tryz.prog 11 #[.string name] w fun e w' => (goodEp name e1 n1 → e = .returned (.tuple #[.int .i64 e1, .int .i64 0])) ∧ (¬ goodEp name e1 n1 → e = .returned (.tuple #[.int .i64 0, .int .i64 6])) ∧ Below w.heap.size w w' := by
  obtain ⟨W1, hsp, hc1, hc2, hlt, hb0, hz1, hz2⟩ := three name hs w hL hp
  have hL1 := hL.below hb0
  have ha1 := atoi_ok p1 (by omega) e1 h1 W1
  have hi1 := Lib.atoiAll_bounds h1
  have hi2 := Lib.atoiAll_bounds h2
  have HE : Hid (∀ W2, Below W1.heap.size W1 W2 → _) := fun W2 hb2 => atoi_ok p2 (by omega) n1 h2 W2
  have HM : Hid (∀ W, Below w.heap.size w W → _) := fun W hb => mname_any e1 n1 hi1 hi2 W (hL.below hb).tab
  have HB : Hid (∀ W, Below w.heap.size w W → _) := fun W hb => blob_any e1 n1 hi1 hi2 W (hL.below hb).tab
  clear hL hL1 hp h1 h2
  unfold goodEp
  generalize nameI 109 e1 n1 = M at *
  generalize nameI 99 e1 n1 = B at *
  by_cases hbe : 4611686018427387904 < e1
  · have HN : Hid (¬ (e1 ≤ 4611686018427387904 ∧ n1 ≤ 4611686018427387904 ∧ (name = M ∨ name = B))) := fun h => by omega
    go_enter Tryz.func11, Tryz.ntmps11
    go_wp2_with (first
      | (go_at_call 25; refine hsp.mono ?_; rintro e w' ⟨rfl, rfl⟩)
      | (go_at_call 26; refine ha1.mono ?_; clear ha1; rintro e W2 ⟨rfl, hb2⟩; have hc3 : W2.cell? ⟨w.heap.size, 2, none⟩ = some (.string p2) := (hb2.cell (p := ⟨w.heap.size, 2, none⟩) hlt).trans hc2)
      | (go_at_call 26; refine (HE W2 hb2).mono ?_; rintro e W3 ⟨rfl, hb3⟩; have hw3 : Below w.heap.size w W3 := hb0.trans ((hb2.trans (hb3.mono hb2.size)).mono (Nat.le_of_lt hlt)))
      | (go_at_call 12; refine (HM W3 hw3).mono ?_; rintro e W4 ⟨rfl, hb4⟩; have hw4 : Below w.heap.size w W4 := hw3.trans (hb4.mono hw3.size))
      | (go_at_call 6; refine (HB W4 hw4).mono ?_; rintro e W5 ⟨rfl, hb5⟩; have hw5 : Below w.heap.size w W5 := hw4.trans (hb5.mono hw4.size)))
    go_ret2
    exact ⟨fun h => absurd h HN, fun _ => rfl, hw3⟩
  by_cases hbn : 4611686018427387904 < n1
  · have HN : Hid (¬ (e1 ≤ 4611686018427387904 ∧ n1 ≤ 4611686018427387904 ∧ (name = M ∨ name = B))) := fun h => by omega
    go_enter Tryz.func11, Tryz.ntmps11
    go_wp2_with (first
      | (go_at_call 25; refine hsp.mono ?_; rintro e w' ⟨rfl, rfl⟩)
      | (go_at_call 26; refine ha1.mono ?_; clear ha1; rintro e W2 ⟨rfl, hb2⟩; have hc3 : W2.cell? ⟨w.heap.size, 2, none⟩ = some (.string p2) := (hb2.cell (p := ⟨w.heap.size, 2, none⟩) hlt).trans hc2)
      | (go_at_call 26; refine (HE W2 hb2).mono ?_; rintro e W3 ⟨rfl, hb3⟩; have hw3 : Below w.heap.size w W3 := hb0.trans ((hb2.trans (hb3.mono hb2.size)).mono (Nat.le_of_lt hlt)))
      | (go_at_call 12; refine (HM W3 hw3).mono ?_; rintro e W4 ⟨rfl, hb4⟩; have hw4 : Below w.heap.size w W4 := hw3.trans (hb4.mono hw3.size))
      | (go_at_call 6; refine (HB W4 hw4).mono ?_; rintro e W5 ⟨rfl, hb5⟩; have hw5 : Below w.heap.size w W5 := hw4.trans (hb5.mono hw4.size)))
    go_ret2
    exact ⟨fun h => absurd h HN, fun _ => rfl, hw3⟩
  by_cases hM : name = M
  · have HN : Hid (e1 ≤ 4611686018427387904 ∧ n1 ≤ 4611686018427387904 ∧ (name = M ∨ name = B)) := ⟨by omega, by omega, .inl hM⟩
    subst hM
    go_enter Tryz.func11, Tryz.ntmps11
    go_wp2_with (first
      | (go_at_call 25; refine hsp.mono ?_; rintro e w' ⟨rfl, rfl⟩)
      | (go_at_call 26; refine ha1.mono ?_; clear ha1; rintro e W2 ⟨rfl, hb2⟩; have hc3 : W2.cell? ⟨w.heap.size, 2, none⟩ = some (.string p2) := (hb2.cell (p := ⟨w.heap.size, 2, none⟩) hlt).trans hc2)
      | (go_at_call 26; refine (HE W2 hb2).mono ?_; rintro e W3 ⟨rfl, hb3⟩; have hw3 : Below w.heap.size w W3 := hb0.trans ((hb2.trans (hb3.mono hb2.size)).mono (Nat.le_of_lt hlt)))
      | (go_at_call 12; refine (HM W3 hw3).mono ?_; rintro e W4 ⟨rfl, hb4⟩; have hw4 : Below w.heap.size w W4 := hw3.trans (hb4.mono hw3.size))
      | (go_at_call 6; refine (HB W4 hw4).mono ?_; rintro e W5 ⟨rfl, hb5⟩; have hw5 : Below w.heap.size w W5 := hw4.trans (hb5.mono hw4.size)))
    go_ret2
    exact ⟨fun _ => rfl, fun h => absurd HN h, hw4⟩
  have hM' : (name.toList == M.toList) = false := by
    rw [ByteArray.toList_eq, ByteArray.toList_eq]
    cases h : (name.data.toList == M.data.toList) with
    | false => rfl
    | true => exact absurd (ByteArray.ext (Array.ext' (eq_of_beq h))) hM
  by_cases hB : name = B
  · have HN : Hid (e1 ≤ 4611686018427387904 ∧ n1 ≤ 4611686018427387904 ∧ (name = M ∨ name = B)) := ⟨by omega, by omega, .inr hB⟩
    subst hB
    clear hM
    go_enter Tryz.func11, Tryz.ntmps11
    go_wp2_with (first
      | (go_at_call 25; refine hsp.mono ?_; rintro e w' ⟨rfl, rfl⟩)
      | (go_at_call 26; refine ha1.mono ?_; clear ha1; rintro e W2 ⟨rfl, hb2⟩; have hc3 : W2.cell? ⟨w.heap.size, 2, none⟩ = some (.string p2) := (hb2.cell (p := ⟨w.heap.size, 2, none⟩) hlt).trans hc2)
      | (go_at_call 26; refine (HE W2 hb2).mono ?_; rintro e W3 ⟨rfl, hb3⟩; have hw3 : Below w.heap.size w W3 := hb0.trans ((hb2.trans (hb3.mono hb2.size)).mono (Nat.le_of_lt hlt)))
      | (go_at_call 12; refine (HM W3 hw3).mono ?_; rintro e W4 ⟨rfl, hb4⟩; have hw4 : Below w.heap.size w W4 := hw3.trans (hb4.mono hw3.size))
      | (go_at_call 6; refine (HB W4 hw4).mono ?_; rintro e W5 ⟨rfl, hb5⟩; have hw5 : Below w.heap.size w W5 := hw4.trans (hb5.mono hw4.size)))
    go_ret2
    exact ⟨fun _ => rfl, fun h => absurd HN h, hw5⟩
  · have hB' : (name.toList == B.toList) = false := by
      rw [ByteArray.toList_eq, ByteArray.toList_eq]
      cases h : (name.data.toList == B.data.toList) with
      | false => rfl
      | true => exact absurd (ByteArray.ext (Array.ext' (eq_of_beq h))) hB
    have HN : Hid (¬ (e1 ≤ 4611686018427387904 ∧ n1 ≤ 4611686018427387904 ∧ (name = M ∨ name = B))) := fun h => h.2.2.elim hM hB
    clear hM hB
    go_enter Tryz.func11, Tryz.ntmps11
    go_wp2_with (first
      | (go_at_call 25; refine hsp.mono ?_; rintro e w' ⟨rfl, rfl⟩)
      | (go_at_call 26; refine ha1.mono ?_; clear ha1; rintro e W2 ⟨rfl, hb2⟩; have hc3 : W2.cell? ⟨w.heap.size, 2, none⟩ = some (.string p2) := (hb2.cell (p := ⟨w.heap.size, 2, none⟩) hlt).trans hc2)
      | (go_at_call 26; refine (HE W2 hb2).mono ?_; rintro e W3 ⟨rfl, hb3⟩; have hw3 : Below w.heap.size w W3 := hb0.trans ((hb2.trans (hb3.mono hb2.size)).mono (Nat.le_of_lt hlt)))
      | (go_at_call 12; refine (HM W3 hw3).mono ?_; rintro e W4 ⟨rfl, hb4⟩; have hw4 : Below w.heap.size w W4 := hw3.trans (hb4.mono hw3.size))
      | (go_at_call 6; refine (HB W4 hw4).mono ?_; rintro e W5 ⟨rfl, hb5⟩; have hw5 : Below w.heap.size w W5 := hw4.trans (hb5.mono hw4.size)))
    go_ret2
    exact ⟨fun h => absurd h HN, fun _ => rfl, hw5⟩
end Go.Proofs
