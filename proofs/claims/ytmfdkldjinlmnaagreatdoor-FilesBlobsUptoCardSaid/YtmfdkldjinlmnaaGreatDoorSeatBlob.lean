/- Decimal digits, and the names that are made of them. -/
import Derived.Test.YtmfdkldjinlmnaaGreatDoorChecked
import Derived.WalkKit
import Derived.BigCall
import Derived.Test.YtmfdkldjinlmnaaGreatDoorSeatLay
import Derived.Shelf.LaysM
import Derived.Shelf.Strconv.Itoa3
import Derived.Ground.NamesProg
import Derived.Lib.AppendIntMem
set_option linter.unusedSimpArgs false
set_option linter.unusedVariables false
namespace Go.Proofs
open Go.Shelf Go.RowKit

theorem itoa_any (n : Int) (h0 : -9223372036854775808 ≤ n) (h1 : n ≤ 9223372036854775807) (w : World) (htab : Lib.TabIs Tryz.prog w "internal/strconv.uint64pow10" .u64 Lib.pow10Tab) :
    Calls Tryz.prog 17 #[.int .i64 n] w fun e w' => e = .returned (.string ⟨(Lib.itoa n).toArray⟩) ∧ ∃ k os, w' = Go.Sort.grow (w.drewN k) os :=
  Any.strconv_Itoa { Tryz.laysItoa with } n h0 h1 w htab

theorem itoa_below (n : Int) (h0 : -9223372036854775808 ≤ n) (h1 : n ≤ 9223372036854775807) (w : World) (htab : Lib.TabIs Tryz.prog w "internal/strconv.uint64pow10" .u64 Lib.pow10Tab) :
    Calls Tryz.prog 17 #[.int .i64 n] w fun e w' => e = .returned (.string ⟨(Lib.itoa n).toArray⟩) ∧ Below w.heap.size w w' :=
  (itoa_any n h0 h1 w htab).mono (by
    rintro e w' ⟨h, k, os, rfl⟩
    exact ⟨h, Lib.below_grow _ w (Nat.le_refl _) k os⟩)

theorem slice_digit (d : Nat) (h : d < 10) : ∀ w : World, (Instr.slice 9 (.string ⟨#[48, 49, 50, 51, 52, 53, 54, 55, 56, 57]⟩) (some (.int .i64 (d : Nat))) (some (.int .i64 ((d : Nat) + 1))) none).run Tryz.prog w = .ok (.string ⟨#[UInt8.ofNat (48 + d)]⟩) w :=
  match d, h with
  | 0, _ => fun w => by kernel_rfl
  | 1, _ => fun w => by kernel_rfl
  | 2, _ => fun w => by kernel_rfl
  | 3, _ => fun w => by kernel_rfl
  | 4, _ => fun w => by kernel_rfl
  | 5, _ => fun w => by kernel_rfl
  | 6, _ => fun w => by kernel_rfl
  | 7, _ => fun w => by kernel_rfl
  | 8, _ => fun w => by kernel_rfl
  | 9, _ => fun w => by kernel_rfl

theorem dec_len : ∀ (k n : Nat), n < 10 ^ (k + 1) → (Lib.decDigits n).length ≤ k + 1 := by
  intro k
  induction k with
  | zero => intro n h; rw [Lib.decDigits, dif_pos (by omega)]; simp
  | succ k ih =>
    intro n h
    rw [Lib.decDigits]
    split
    · simp
    · have := ih (n / 10) (by rw [Nat.pow_succ] at h; omega)
      simp
      omega
theorem dec_len19 {n : Nat} (h : n ≤ 9223372036854775807) : (Lib.decDigits n).length ≤ 19 := dec_len 18 n (by omega)

set_option maxRecDepth 100000 in
set_option maxHeartbeats 1000000 in
theorem digits_any : ∀ (n : Nat) (_ : n ≤ 9223372036854775807) (w : World), Calls Tryz.prog 18 #[.int .i64 (n : Nat)] w fun e w' => e = .returned (.string ⟨(Lib.decDigits n).toArray⟩) ∧ w' = w := by
  intro n
  induction n using Nat.strongRecOn with
  | _ n ih =>
  intro hn w
  obtain ⟨a, ha⟩ : ∃ a : Int, a = (n : Int) := ⟨_, rfl⟩
  rw [← ha]
  have h0 : 0 ≤ a := by omega
  have h1 : a ≤ 9223372036854775807 := by omega
  obtain ⟨dg, hg⟩ : ∃ dg : ByteArray, dg = ⟨#[UInt8.ofNat (48 + n % 10)]⟩ := ⟨_, rfl⟩
  have hgs : dg.size = 1 := by rw [hg]; rfl
  obtain ⟨R, hr⟩ : ∃ R : ByteArray, R = ⟨(Lib.decDigits n).toArray⟩ := ⟨_, rfl⟩
  rw [← hr]
  have hsl : ∀ w : World, (Instr.slice 9 (.string ⟨#[48, 49, 50, 51, 52, 53, 54, 55, 56, 57]⟩) (some (.int .i64 (a % 10))) (some (.int .i64 (a % 10 + 1))) none).run Tryz.prog w = .ok (.string dg) w := fun w => by
    have h := slice_digit (n % 10) (Nat.mod_lt _ (by omega)) w
    have e : a % 10 = ((n % 10 : Nat) : Int) := by omega
    rw [e, hg]
    exact h
  by_cases h10 : 10 ≤ a
  · obtain ⟨D, hD⟩ : ∃ D : ByteArray, D = ⟨(Lib.decDigits (n / 10)).toArray⟩ := ⟨_, rfl⟩
    have hDs : D.size ≤ 20 := by
      have := dec_len19 (n := n / 10) (by omega)
      rw [hD]
      show (Lib.decDigits (n / 10)).toArray.size ≤ 20
      simp
      omega
    have ih' : Calls Tryz.prog 18 #[.int .i64 (a / 10)] w fun e w' => e = .returned (.string D) ∧ w' = w := by
      have h := ih (n / 10) (by omega) (by omega) w
      have e : a / 10 = ((n / 10 : Nat) : Int) := by omega
      rw [e, hD]
      exact h
    have hdec : D ++ dg = R := by
      rw [hD, hg, hr]
      apply ByteArray.ext
      rw [Lib.decDigits.eq_def n, dif_neg (by omega)]
      simp
    clear ha hn ih hD hg hr
    go_enter Tryz.func18, Tryz.ntmps18
    go_wp2_with (go_at_call 18; refine ih'.mono ?_; rintro e w' ⟨rfl, rfl⟩)
    go_ret
    exact ⟨rfl, rfl⟩
  · have hdec : dg = R := by
      have : n % 10 = n := Nat.mod_eq_of_lt (by omega)
      rw [hg, hr, Lib.decDigits, dif_pos (by omega), this]
    clear ha hn ih hg hr
    go_enter Tryz.func18, Tryz.ntmps18
    go_wp2
    go_ret
    exact ⟨rfl, rfl⟩

/-- A name: a letter, and two numbers. -/
def nameB (c : UInt8) (a b : Nat) : ByteArray := ⟨#[c, 45]⟩ ++ ⟨(Lib.decDigits a).toArray⟩ ++ ⟨#[45]⟩ ++ ⟨(Lib.decDigits b).toArray⟩
def nameI (c : UInt8) (a b : Int) : ByteArray := if a < 0 ∨ b < 0 then .empty else nameB c a.toNat b.toNat
def I64 (a : Int) : Prop := -9223372036854775808 ≤ a ∧ a ≤ 9223372036854775807

theorem dec_size {n : Nat} (h : n ≤ 9223372036854775807) : (⟨(Lib.decDigits n).toArray⟩ : ByteArray).size ≤ 20 := by
  have := dec_len19 h
  show (Lib.decDigits n).toArray.size ≤ 20
  simp
  omega

set_option maxRecDepth 100000 in
set_option maxHeartbeats 1000000 in
theorem refBlob_any (a b : Int) (ha : I64 a) (hb : I64 b) (w : World) : Calls Tryz.prog 7 #[.int .i64 a, .int .i64 b] w fun e w' => e = .returned (.string (nameI 99 a b)) ∧ w' = w := by
  obtain ⟨ha0, ha1⟩ := ha
  obtain ⟨hb0, hb1⟩ := hb
  by_cases hc : a < 0 ∨ b < 0
  · have hr : nameI 99 a b = .empty := if_pos hc
    rw [hr]
    go_enter Tryz.func7, Tryz.ntmps7
    rcases hc with hc | hc
    · go_wp2
      go_ret
      exact ⟨rfl, rfl⟩
    · by_cases h2 : a < 0
      · go_wp2
        go_ret
        exact ⟨rfl, rfl⟩
      · go_wp2
        go_ret
        exact ⟨rfl, rfl⟩
  · have hr : nameI 99 a b = nameB 99 a.toNat b.toNat := if_neg hc
    have hda := digits_any a.toNat (by omega) w
    have hdb := digits_any b.toNat (by omega) w
    have e1 : ((a.toNat : Nat) : Int) = a := by omega
    have e2 : ((b.toNat : Nat) : Int) = b := by omega
    rw [e1] at hda
    rw [e2] at hdb
    have hsa := dec_size (n := a.toNat) (by omega)
    have hsb := dec_size (n := b.toNat) (by omega)
    unfold nameB at hr
    rw [hr]
    clear hr e1 e2
    generalize (⟨(Lib.decDigits a.toNat).toArray⟩ : ByteArray) = A at *
    generalize (⟨(Lib.decDigits b.toNat).toArray⟩ : ByteArray) = B at *
    have hn1 : ¬ a < 0 := fun h => hc (.inl h)
    have hn2 : ¬ b < 0 := fun h => hc (.inr h)
    clear hc
    have hda' := Lib.hid hda
    go_enter Tryz.func7, Tryz.ntmps7
    go_wp2_with (first
      | (go_at_call 18; refine hda.mono ?_; clear hda; rintro e w' ⟨rfl, rfl⟩)
      | (go_at_call 18; refine hdb.mono ?_; rintro e w' ⟨rfl, rfl⟩))
    go_ret
    exact ⟨rfl, rfl⟩

set_option maxRecDepth 100000 in
set_option maxHeartbeats 1000000 in
theorem blob_any (a b : Int) (ha : I64 a) (hb : I64 b) (w : World) (htab : Lib.TabBelow Tryz.prog w.heap.size w "internal/strconv.uint64pow10" .u64 Lib.pow10Tab) :
    Calls Tryz.prog 6 #[.int .i64 a, .int .i64 b] w fun e w' => e = .returned (.string (nameI 99 a b)) ∧ Below w.heap.size w w' := by
  obtain ⟨ha0, ha1⟩ := ha
  obtain ⟨hb0, hb1⟩ := hb
  by_cases hc : a < 0 ∨ b < 0
  · have hr : nameI 99 a b = .empty := if_pos hc
    rw [hr]
    have HT := Lib.hid htab
    clear htab
    go_enter Tryz.func6, Tryz.ntmps6
    rcases hc with hc | hc
    · go_wp2
      go_ret
      exact ⟨rfl, Below.refl _ _⟩
    · by_cases h2 : a < 0
      · go_wp2
        go_ret
        exact ⟨rfl, Below.refl _ _⟩
      · go_wp2
        go_ret
        exact ⟨rfl, Below.refl _ _⟩
  · have hr : nameI 99 a b = nameB 99 a.toNat b.toNat := if_neg hc
    have hn1 : ¬ a < 0 := fun h => hc (.inl h)
    have hn2 : ¬ b < 0 := fun h => hc (.inr h)
    have hda := itoa_below a ha0 ha1 w (htab w (Below.refl _ _))
    have hdb : ∀ w1, Below w.heap.size w w1 → _ := fun w1 h1 => itoa_below b hb0 hb1 w1 (htab w1 h1)
    have e1 : Lib.itoa a = Lib.decDigits a.toNat := if_neg hn1
    have e2 : Lib.itoa b = Lib.decDigits b.toNat := if_neg hn2
    rw [e1] at hda
    simp only [e2] at hdb
    have hsa := dec_size (n := a.toNat) (by omega)
    have hsb := dec_size (n := b.toNat) (by omega)
    unfold nameB at hr
    rw [hr]
    clear hr e1 e2
    generalize (⟨(Lib.decDigits a.toNat).toArray⟩ : ByteArray) = A at *
    generalize (⟨(Lib.decDigits b.toNat).toArray⟩ : ByteArray) = B at *
    clear hc
    have HB := Lib.hid hdb
    clear hdb htab
    go_enter Tryz.func6, Tryz.ntmps6
    go_wp2_with (first
      | (go_at_call 17; refine hda.mono ?_; clear hda; rintro e w1 ⟨rfl, hb1⟩)
      | (go_at_call 17; refine (HB w1 hb1).mono ?_; rintro e w2 ⟨rfl, hb2⟩))
    go_ret
    exact ⟨rfl, hb1.trans (hb2.mono hb1.size)⟩

set_option maxRecDepth 100000 in
set_option maxHeartbeats 1000000 in
theorem mname_any (a b : Int) (ha : I64 a) (hb : I64 b) (w : World) (htab : Lib.TabBelow Tryz.prog w.heap.size w "internal/strconv.uint64pow10" .u64 Lib.pow10Tab) :
    Calls Tryz.prog 12 #[.int .i64 a, .int .i64 b] w fun e w' => e = .returned (.string (nameI 109 a b)) ∧ Below w.heap.size w w' := by
  obtain ⟨ha0, ha1⟩ := ha
  obtain ⟨hb0, hb1⟩ := hb
  by_cases hc : a < 0 ∨ b < 0
  · have hr : nameI 109 a b = .empty := if_pos hc
    rw [hr]
    have HT := Lib.hid htab
    clear htab
    go_enter Tryz.func12, Tryz.ntmps12
    rcases hc with hc | hc
    · go_wp2
      go_ret
      exact ⟨rfl, Below.refl _ _⟩
    · by_cases h2 : a < 0
      · go_wp2
        go_ret
        exact ⟨rfl, Below.refl _ _⟩
      · go_wp2
        go_ret
        exact ⟨rfl, Below.refl _ _⟩
  · have hr : nameI 109 a b = nameB 109 a.toNat b.toNat := if_neg hc
    have hn1 : ¬ a < 0 := fun h => hc (.inl h)
    have hn2 : ¬ b < 0 := fun h => hc (.inr h)
    have hda := itoa_below a ha0 ha1 w (htab w (Below.refl _ _))
    have hdb : ∀ w1, Below w.heap.size w w1 → _ := fun w1 h1 => itoa_below b hb0 hb1 w1 (htab w1 h1)
    have e1 : Lib.itoa a = Lib.decDigits a.toNat := if_neg hn1
    have e2 : Lib.itoa b = Lib.decDigits b.toNat := if_neg hn2
    rw [e1] at hda
    simp only [e2] at hdb
    have hsa := dec_size (n := a.toNat) (by omega)
    have hsb := dec_size (n := b.toNat) (by omega)
    unfold nameB at hr
    rw [hr]
    clear hr e1 e2
    generalize (⟨(Lib.decDigits a.toNat).toArray⟩ : ByteArray) = A at *
    generalize (⟨(Lib.decDigits b.toNat).toArray⟩ : ByteArray) = B at *
    clear hc
    have HB := Lib.hid hdb
    clear hdb htab
    go_enter Tryz.func12, Tryz.ntmps12
    go_wp2_with (first
      | (go_at_call 17; refine hda.mono ?_; clear hda; rintro e w1 ⟨rfl, hb1⟩)
      | (go_at_call 17; refine (HB w1 hb1).mono ?_; rintro e w2 ⟨rfl, hb2⟩))
    go_ret
    exact ⟨rfl, hb1.trans (hb2.mono hb1.size)⟩

theorem nameB_cut (c : UInt8) (a b : Nat) : (⟨#[109]⟩ : ByteArray) ++ (nameB c a b).extract 1 (nameB c a b).size = nameB 109 a b := by
  apply ByteArray.ext
  apply Array.ext'
  simp [nameB, ByteArray.size]
  exact List.take_of_length_le (by simp)
theorem nameB_size {a b : Nat} (c : UInt8) (ha : a ≤ 9223372036854775807) (hb : b ≤ 9223372036854775807) : 1 ≤ (nameB c a b).size ∧ (nameB c a b).size ≤ 50 := by
  have h1 := dec_size ha
  have h2 := dec_size hb
  unfold nameB
  simp only [ByteArray.size_append]
  have : (⟨#[c, 45]⟩ : ByteArray).size = 2 := rfl
  have : (⟨#[45]⟩ : ByteArray).size = 1 := rfl
  omega
theorem notEmpty {x : ByteArray} (h : 1 ≤ x.size) : x.toList.isEmpty = false := by
  rw [ByteArray.toList_eq]
  cases hx : x.data.toList with
  | nil =>
    have : x.size = 0 := by
      show x.data.size = 0
      rw [← Array.length_toList, hx]
      rfl
    omega
  | cons a l => rfl

set_option maxRecDepth 100000 in
set_option maxHeartbeats 1000000 in
theorem refName_any (a b : Int) (ha : I64 a) (hb : I64 b) (w : World) : Calls Tryz.prog 13 #[.int .i64 a, .int .i64 b] w fun e w' => e = .returned (.string (nameI 109 a b)) ∧ w' = w := by
  have hr := refBlob_any a b ha hb w
  by_cases hc : a < 0 ∨ b < 0
  · have e1 : nameI 99 a b = .empty := if_pos hc
    have e2 : nameI 109 a b = .empty := if_pos hc
    rw [e1] at hr
    rw [e2]
    clear e1 e2 hc ha hb
    go_enter Tryz.func13, Tryz.ntmps13
    go_wp2_with (go_at_call 7; refine hr.mono ?_; rintro e w' ⟨rfl, rfl⟩)
    go_ret
    exact ⟨rfl, rfl⟩
  · have e1 : nameI 99 a b = nameB 99 a.toNat b.toNat := if_neg hc
    have e2 : nameI 109 a b = nameB 109 a.toNat b.toNat := if_neg hc
    have hcut := nameB_cut 99 a.toNat b.toNat
    have hsz := nameB_size (a := a.toNat) (b := b.toNat) 99 (by have := ha.2; omega) (by have := hb.2; omega)
    rw [e1] at hr
    rw [e2]
    clear e1 e2 hc ha hb
    generalize nameB 99 a.toNat b.toNat = X at *
    generalize nameB 109 a.toNat b.toNat = Y at *
    obtain ⟨hs1, hs2⟩ := hsz
    have hne := notEmpty hs1
    go_enter Tryz.func13, Tryz.ntmps13
    go_wp2_with (go_at_call 7; refine hr.mono ?_; rintro e w' ⟨rfl, rfl⟩)
    go_ret
    exact ⟨rfl, rfl⟩
end Go.Proofs
