/- What the document's epoch of a name answers. -/
import Derived.Test.YtmfdkldjinlmnaaGreatDoorSeatNum
import Derived.Test.YtmfdkldjinlmnaaGreatDoorSeatBlob
set_option linter.unusedSimpArgs false
set_option linter.unusedVariables false
namespace Go.Proofs
open Go.RowKit

/-- The epoch that the document reads off a name. -/
def DocIs (name : ByteArray) (E : Int) : Prop := ∃ (c : UInt8) (r1 r2 : List UInt8) (e n : Nat), name.data.toList = c :: 45 :: r1 ∧ (c = 109 ∨ c = 99) ∧ scan true 0 r1 = some (e, 45 :: r2) ∧ scan true 0 r2 = some (n, []) ∧ E = (e : Nat)

theorem index_byte' (s : ByteArray) (i : Int) (k : Nat) (hi : i = (k : Nat)) (c : UInt8) (x : Int) (hx : x = (c.toNat : Nat)) (h : s.data.toList[k]? = some c) (w : World) : (Instr.index 9 (.string s) (.int .i64 i)).run Tryz.prog w = .ok (.int .u8 x) w := by
  rw [hi, hx]
  exact index_byte s k c h w

set_option maxRecDepth 100000 in
set_option maxHeartbeats 1000000 in
theorem doc_short (name : ByteArray) (h : name.size < 2) (w : World) : Calls Tryz.prog 10 #[.string name] w fun e w' => e = .returned (.tuple #[.int .i64 0, .int .i64 6]) ∧ Below w.heap.size w w' := by
  go_enter Tryz.func10, Tryz.ntmps10
  go_wp2
  go_ret2
  exact ⟨rfl, Below.refl _ _⟩

set_option maxRecDepth 100000 in
set_option maxHeartbeats 1000000 in
theorem doc_head (name : ByteArray) (hs : name.size ≤ 2000000) (c d : UInt8) (r : List UInt8) (hl : name.data.toList = c :: d :: r) (h : ¬ ((c = 109 ∨ c = 99) ∧ d = 45)) (w : World) : Calls Tryz.prog 10 #[.string name] w fun e w' => e = .returned (.tuple #[.int .i64 0, .int .i64 6]) ∧ Below w.heap.size w w' := by
  have hsz : 2 ≤ name.size := by
    have : name.size = name.data.toList.length := by rw [Array.length_toList]; rfl
    rw [this, hl]
    simp
  obtain ⟨x, hx⟩ : ∃ x : Int, x = (c.toNat : Nat) := ⟨_, rfl⟩
  obtain ⟨y, hy⟩ : ∃ y : Int, y = (d.toNat : Nat) := ⟨_, rfl⟩
  have hi0 := index_byte' name 0 0 rfl c x hx (by rw [hl]; rfl)
  have hi1 := index_byte' name 1 1 rfl d y hy (by rw [hl]; rfl)
  have hnot : ¬ ((x = 109 ∨ x = 99) ∧ y = 45) := by
    rintro ⟨h1, h2⟩
    refine h ⟨h1.imp (fun h1 => ?_) (fun h1 => ?_), ?_⟩
    all_goals
      apply UInt8.toNat_inj.1
      simp
      omega
  have hx0 : 0 ≤ x ∧ x ≤ 255 := by have := c.toNat_lt; omega
  have hy0 : 0 ≤ y ∧ y ≤ 255 := by have := d.toNat_lt; omega
  clear hx hy hl h
  obtain ⟨hx0, hx1⟩ := hx0
  obtain ⟨hy0, hy1⟩ := hy0
  by_cases hm : x = 109
  · have hy45 : (y != 45) = true := bne_iff_ne.2 fun h => hnot ⟨.inl hm, h⟩
    clear hnot
    subst hm
    go_enter Tryz.func10, Tryz.ntmps10
    go_wp2
    go_ret2
    exact ⟨rfl, Below.refl _ _⟩
  by_cases hc : x = 99
  · have hy45 : (y != 45) = true := bne_iff_ne.2 fun h => hnot ⟨.inr hc, h⟩
    clear hnot hm
    subst hc
    go_enter Tryz.func10, Tryz.ntmps10
    go_wp2
    go_ret2
    exact ⟨rfl, Below.refl _ _⟩
  · clear hnot
    go_enter Tryz.func10, Tryz.ntmps10
    go_wp2
    go_ret2
    exact ⟨rfl, Below.refl _ _⟩

/-- What the walk of a name that begins aright leans on. -/
structure DocW (name : ByteArray) (x : Int) (a : Int) (R : ByteArray) : Prop where
  le : name.size ≤ 2000000
  ge : 2 ≤ name.size
  i0 : ∀ w : World, (Instr.index 9 (.string name) (.int .i64 0)).run Tryz.prog w = .ok (.int .u8 x) w
  i1 : ∀ w : World, (Instr.index 9 (.string name) (.int .i64 1)).run Tryz.prog w = .ok (.int .u8 45) w
  num : ∀ w : World, Calls Tryz.prog 24 #[.string (name.extract 2 name.size)] w fun e w' => e = .returned (.tuple #[.int .i64 a, .string R]) ∧ Below w.heap.size w w'

set_option maxRecDepth 100000 in
set_option maxHeartbeats 1000000 in
theorem doc_a (name : ByteArray) (x a : Int) (R : ByteArray) (hx : x = 109 ∨ x = 99) (H : DocW name x a R) (h : a < 0 ∨ R.toList.isEmpty = true) (w : World) : Calls Tryz.prog 10 #[.string name] w fun e w' => e = .returned (.tuple #[.int .i64 0, .int .i64 6]) ∧ Below w.heap.size w w' := by
  obtain ⟨hle, hge, hi0, hi1, hn⟩ := H
  have hn := hn w
  rcases hx with rfl | rfl
  all_goals
    by_cases ha : a < 0
    · clear h
      go_enter Tryz.func10, Tryz.ntmps10
      go_wp2_with (go_at_call 24; refine hn.mono ?_; rintro e w1 ⟨rfl, hb1⟩)
      go_ret2
      exact ⟨rfl, hb1⟩
    · have he : R.toList.isEmpty = true := h.resolve_left ha
      clear h
      go_enter Tryz.func10, Tryz.ntmps10
      go_wp2_with (go_at_call 24; refine hn.mono ?_; rintro e w1 ⟨rfl, hb1⟩)
      go_ret2
      exact ⟨rfl, hb1⟩

set_option maxRecDepth 100000 in
set_option maxHeartbeats 1000000 in
theorem doc_b (name : ByteArray) (x a : Int) (R : ByteArray) (hx : x = 109 ∨ x = 99) (H : DocW name x a R) (h : 0 ≤ a) (he : R.toList.isEmpty = false) (z : Int) (hz0 : 0 ≤ z) (hz1 : z ≤ 255) (hr0 : ∀ w : World, (Instr.index 9 (.string R) (.int .i64 0)).run Tryz.prog w = .ok (.int .u8 z) w) (hz : (z != 45) = true) (w : World) : Calls Tryz.prog 10 #[.string name] w fun e w' => e = .returned (.tuple #[.int .i64 0, .int .i64 6]) ∧ Below w.heap.size w w' := by
  obtain ⟨hle, hge, hi0, hi1, hn⟩ := H
  have hn := hn w
  rcases hx with rfl | rfl
  all_goals
    go_enter Tryz.func10, Tryz.ntmps10
    go_wp2_with (go_at_call 24; refine hn.mono ?_; rintro e w1 ⟨rfl, hb1⟩)
    go_ret2
    exact ⟨rfl, hb1⟩

set_option maxRecDepth 100000 in
set_option maxHeartbeats 1000000 in
theorem doc_c (name : ByteArray) (x a : Int) (R : ByteArray) (hx : x = 109 ∨ x = 99) (H : DocW name x a R) (h : 0 ≤ a) (he : R.toList.isEmpty = false) (hr0 : ∀ w : World, (Instr.index 9 (.string R) (.int .i64 0)).run Tryz.prog w = .ok (.int .u8 45) w)
    (hR1 : 1 ≤ R.size) (hR2 : R.size ≤ 2000000) (b : Int) (S : ByteArray) (hn2 : ∀ w : World, Calls Tryz.prog 24 #[.string (R.extract 1 R.size)] w fun e w' => e = .returned (.tuple #[.int .i64 b, .string S]) ∧ Below w.heap.size w w') (w : World) : Calls Tryz.prog 10 #[.string name] w fun e w' => (0 ≤ b ∧ S.toList.isEmpty = true → e = .returned (.tuple #[.int .i64 a, .int .i64 0])) ∧ (¬ (0 ≤ b ∧ S.toList.isEmpty = true) → e = .returned (.tuple #[.int .i64 0, .int .i64 6])) ∧ Below w.heap.size w w' := by
  obtain ⟨hle, hge, hi0, hi1, hn⟩ := H
  have hn := hn w
  have HN2 := Lib.hid hn2
  clear hn2
  by_cases hb : b < 0
  · have hno : ¬ (0 ≤ b ∧ S.toList.isEmpty = true) := fun h => by omega
    have HNo := Lib.hid hno
    clear hno
    rcases hx with rfl | rfl
    all_goals
      go_enter Tryz.func10, Tryz.ntmps10
      go_wp2_with (first
        | (go_at_call 24; refine hn.mono ?_; clear hn; rintro e w1 ⟨rfl, hb1⟩)
        | (go_at_call 24; refine (HN2.out w1).mono ?_; rintro e w2 ⟨rfl, hb2⟩))
      go_ret2
      exact ⟨fun h => absurd h HNo.out, fun _ => rfl, hb1.trans (hb2.mono hb1.size)⟩
  cases hS : S.toList.isEmpty with
  | true =>
    have hno : (0 ≤ b ∧ true = true) := ⟨by omega, rfl⟩
    have HNo := Lib.hid hno
    clear hno
    rcases hx with rfl | rfl
    all_goals
      go_enter Tryz.func10, Tryz.ntmps10
      go_wp2_with (first
        | (go_at_call 24; refine hn.mono ?_; clear hn; rintro e w1 ⟨rfl, hb1⟩)
        | (go_at_call 24; refine (HN2.out w1).mono ?_; rintro e w2 ⟨rfl, hb2⟩))
      go_ret2
      exact ⟨fun _ => rfl, fun h => absurd HNo.out h, hb1.trans (hb2.mono hb1.size)⟩
  | false =>
    have hno : ¬ (0 ≤ b ∧ false = true) := fun h => by simp at h
    have HNo := Lib.hid hno
    clear hno
    rcases hx with rfl | rfl
    all_goals
      go_enter Tryz.func10, Tryz.ntmps10
      go_wp2_with (first
        | (go_at_call 24; refine hn.mono ?_; clear hn; rintro e w1 ⟨rfl, hb1⟩)
        | (go_at_call 24; refine (HN2.out w1).mono ?_; rintro e w2 ⟨rfl, hb2⟩))
      go_ret2
      exact ⟨fun h => absurd h HNo.out, fun _ => rfl, hb1.trans (hb2.mono hb1.size)⟩

theorem num_none {l : List UInt8} (h : scan true 0 l = none) (s : ByteArray) (hs : s.size ≤ 2000000) (hl : s.data.toList = l) (w : World) : Calls Tryz.prog 24 #[.string s] w fun e w' => e = .returned (.tuple #[.int .i64 (-1), .string .empty]) ∧ Below w.heap.size w w' := by
  have := number_any s hs w
  rw [hl, h] at this
  exact this
theorem num_some {l r : List UInt8} {n : Nat} (h : scan true 0 l = some (n, r)) (s : ByteArray) (hs : s.size ≤ 2000000) (hl : s.data.toList = l) (w : World) : Calls Tryz.prog 24 #[.string s] w fun e w' => e = .returned (.tuple #[.int .i64 (n : Nat), .string ⟨r.toArray⟩]) ∧ Below w.heap.size w w' := by
  have := number_any s hs w
  rw [hl, h] at this
  exact this
theorem scan_len : ∀ (b : Bool) (n : Nat) (l : List UInt8) (m : Nat) (r : List UInt8), scan b n l = some (m, r) → r.length ≤ l.length
  | b, n, [], m, r, h => by
    unfold scan at h
    split at h
    · cases h
    · cases h
      exact Nat.le_refl _
  | b, n, x :: l, m, r, h => by
    unfold scan at h
    split at h
    · split at h
      · cases h
      · exact Nat.le_succ_of_le (scan_len _ _ l m r h)
    · split at h
      · cases h
      · cases h
        exact Nat.le_refl _
theorem size_list (s : ByteArray) : s.size = s.data.toList.length := by rw [Array.length_toList]; rfl
theorem toList_mk (l : List UInt8) : (⟨l.toArray⟩ : ByteArray).toList = l := by rw [ByteArray.toList_eq]
theorem docIs_inv {name : ByteArray} {E : Int} {c d : UInt8} {r : List UInt8} (hl : name.data.toList = c :: d :: r) (h : DocIs name E) : (c = 109 ∨ c = 99) ∧ d = 45 ∧ ∃ (r2 : List UInt8) (e n : Nat), scan true 0 r = some (e, 45 :: r2) ∧ scan true 0 r2 = some (n, []) ∧ E = (e : Nat) := by
  obtain ⟨c', r1, r2, e, n, h1, h2, h3, h4, h5⟩ := h
  rw [hl] at h1
  injection h1 with h1 h6
  injection h6 with h6 h7
  subst h1 h6 h7
  exact ⟨h2, rfl, r2, e, n, h3, h4, h5⟩

theorem doc_any (name : ByteArray) (hs : name.size ≤ 2000000) (w : World) : Calls Tryz.prog 10 #[.string name] w fun e w' =>
    (∀ E, DocIs name E → e = .returned (.tuple #[.int .i64 E, .int .i64 0])) ∧ ((∀ E, ¬ DocIs name E) → e = .returned (.tuple #[.int .i64 0, .int .i64 6])) ∧ Below w.heap.size w w' := by
  have no : (∀ E, ¬ DocIs name E) → (Calls Tryz.prog 10 #[.string name] w fun e w' => e = .returned (.tuple #[.int .i64 0, .int .i64 6]) ∧ Below w.heap.size w w') → Calls Tryz.prog 10 #[.string name] w fun e w' =>
    (∀ E, DocIs name E → e = .returned (.tuple #[.int .i64 E, .int .i64 0])) ∧ ((∀ E, ¬ DocIs name E) → e = .returned (.tuple #[.int .i64 0, .int .i64 6])) ∧ Below w.heap.size w w' := fun hn hc =>
      hc.mono fun e w' h => ⟨fun E hE => absurd hE (hn E), fun _ => h.1, h.2⟩
  have hsz := size_list name
  match hl : name.data.toList with
  | [] =>
    rw [hl] at hsz
    refine no ?_ (doc_short name (by simp only [List.length_nil] at hsz; omega) w)
    rintro E ⟨c', r1, r2, e, n, h1, _⟩
    rw [hl] at h1
    cases h1
  | [c] =>
    rw [hl] at hsz
    refine no ?_ (doc_short name (by simp only [List.length_nil, List.length_cons] at hsz; omega) w)
    rintro E ⟨c', r1, r2, e, n, h1, _⟩
    rw [hl] at h1
    cases h1
  | c :: d :: r =>
    by_cases hh : (c = 109 ∨ c = 99) ∧ d = 45
    rotate_left
    · refine no ?_ (doc_head name hs c d r hl hh w)
      intro E hE
      have := docIs_inv hl hE
      exact hh ⟨this.1, this.2.1⟩
    obtain ⟨hc, rfl⟩ := hh
    rw [hl] at hsz
    simp only [List.length_cons] at hsz
    have hext : name.extract 2 name.size = ⟨r.toArray⟩ := by
      rw [ext_drop, hl]
      rfl
    have hi0 := index_byte' name 0 0 rfl c (c.toNat : Nat) rfl (by rw [hl]; rfl)
    have hi1 := index_byte' name 1 1 rfl 45 45 rfl (by rw [hl]; rfl)
    have hx : ((c.toNat : Nat) : Int) = 109 ∨ ((c.toNat : Nat) : Int) = 99 := hc.imp (fun h => by rw [h]; rfl) (fun h => by rw [h]; rfl)
    have hes : (⟨r.toArray⟩ : ByteArray).size ≤ 2000000 := by rw [size_list]; simp; omega
    match hsc : scan true 0 r with
    | none =>
      refine no ?_ (doc_a name _ (-1) .empty hx ⟨hs, by omega, hi0, hi1, ?_⟩ (.inl (by decide)) w)
      · intro E hE
        obtain ⟨_, _, r2, e, n, h, _⟩ := docIs_inv hl hE
        rw [hsc] at h
        cases h
      · rw [hext]
        exact num_none hsc _ hes rfl
    | some (e, []) =>
      refine no ?_ (doc_a name _ (e : Nat) ⟨#[]⟩ hx ⟨hs, by omega, hi0, hi1, ?_⟩ (.inr (by rw [ByteArray.toList_eq]; rfl)) w)
      · intro E hE
        obtain ⟨_, _, r2, e, n, h, _⟩ := docIs_inv hl hE
        rw [hsc] at h
        cases h
      · rw [hext]
        exact num_some hsc _ hes rfl
    | some (e, z :: r2) =>
      have hlen := scan_len _ _ _ _ _ hsc
      simp at hlen
      have hR0 : ∀ w : World, (Instr.index 9 (.string ⟨(z :: r2).toArray⟩) (.int .i64 0)).run Tryz.prog w = .ok (.int .u8 ((z.toNat : Nat) : Int)) w := index_byte' _ 0 0 rfl z _ rfl rfl
      have hRe : (⟨(z :: r2).toArray⟩ : ByteArray).toList.isEmpty = false := by rw [toList_mk]; rfl
      have hRz : (⟨(z :: r2).toArray⟩ : ByteArray).size = r2.length + 1 := by rw [size_list]; simp
      have HW : DocW name ((c.toNat : Nat) : Int) ((e : Nat) : Int) ⟨(z :: r2).toArray⟩ := ⟨hs, by omega, hi0, hi1, by rw [hext]; exact num_some hsc _ hes rfl⟩
      by_cases hz : z = 45
      rotate_left
      · refine no ?_ (doc_b name _ _ _ hx HW (by omega) hRe ((z.toNat : Nat) : Int) (by omega) (by have := z.toNat_lt; omega) hR0 ?_ w)
        · intro E hE
          obtain ⟨_, _, r2, e, n, h, _⟩ := docIs_inv hl hE
          rw [hsc] at h
          cases h
          exact hz rfl
        · refine bne_iff_ne.2 fun h => hz (UInt8.toNat_inj.1 ?_)
          have : (45 : UInt8).toNat = 45 := rfl
          omega
      subst hz
      have hext2 : (⟨(45 :: r2).toArray⟩ : ByteArray).extract 1 (⟨(45 :: r2).toArray⟩ : ByteArray).size = ⟨r2.toArray⟩ := by
        rw [ext_drop]
        rfl
      have hes2 : (⟨r2.toArray⟩ : ByteArray).size ≤ 2000000 := by rw [size_list]; simp; omega
      have fin : ∀ (b : Int) (S : ByteArray), (∀ w : World, Calls Tryz.prog 24 #[.string ⟨r2.toArray⟩] w fun e w' => e = .returned (.tuple #[.int .i64 b, .string S]) ∧ Below w.heap.size w w') →
          ((0 ≤ b ∧ S.toList.isEmpty = true) ↔ ∃ n, scan true 0 r2 = some (n, [])) → Calls Tryz.prog 10 #[.string name] w fun e w' =>
    (∀ E, DocIs name E → e = .returned (.tuple #[.int .i64 E, .int .i64 0])) ∧ ((∀ E, ¬ DocIs name E) → e = .returned (.tuple #[.int .i64 0, .int .i64 6])) ∧ Below w.heap.size w w' := by
        intro b S hn2 hiff
        refine (doc_c name _ _ _ hx HW (by omega) hRe hR0 (by omega) (by omega) b S (by rw [hext2]; exact hn2) w).mono ?_
        intro e' w' ⟨h1, h2, h3⟩
        refine ⟨fun E hE => ?_, fun hno => h2 fun hy => ?_, h3⟩
        · obtain ⟨_, _, r2', e0, n, h, h', rfl⟩ := docIs_inv hl hE
          rw [hsc] at h
          cases h
          exact h1 (hiff.2 ⟨n, h'⟩)
        · obtain ⟨n, hn⟩ := hiff.1 hy
          exact hno (e : Nat) ⟨c, r, r2, e, n, hl, hc, hsc, hn, rfl⟩
      match hsc2 : scan true 0 r2 with
      | none =>
        refine fin _ _ (fun w => num_none hsc2 _ hes2 rfl w) ⟨fun h => absurd h.1 (by decide), fun ⟨n, h⟩ => ?_⟩
        rw [hsc2] at h
        cases h
      | some (n, []) =>
        refine fin _ _ (fun w => num_some hsc2 _ hes2 rfl w) ⟨fun _ => ⟨n, hsc2⟩, fun _ => ⟨by omega, by rw [toList_mk]; rfl⟩⟩
      | some (n, y :: r3) =>
        refine fin _ _ (fun w => num_some hsc2 _ hes2 rfl w) ⟨fun h => ?_, fun ⟨n, h⟩ => ?_⟩
        · have := h.2
          rw [toList_mk] at this
          cases this
        · rw [hsc2] at h
          cases h
end Go.Proofs
