/- blob.Name, of a name that was made; names that are unlike. -/
import Derived.Test.YtmfdkldjinlmnaaGreatDoorSeatName
import Derived.Lib.SlTrimSet
set_option linter.unusedSimpArgs false
set_option linter.unusedVariables false
namespace Go.Proofs
open Go.RowKit

def alph : List UInt8 := [97, 98, 99, 100, 101, 102, 103, 104, 105, 106, 107, 108, 109, 110, 111, 112, 113, 114, 115, 116, 117, 118, 119, 120, 121, 122, 48, 49, 50, 51, 52, 53, 54, 55, 56, 57, 45]
theorem alph_digit (c : UInt8) (h : 48 ≤ c.toNat ∧ c.toNat ≤ 57) : alph.contains c = true := by
  obtain ⟨h1, h2⟩ := h
  have key : ∀ n, 48 ≤ n → n ≤ 57 → alph.contains (UInt8.ofNat n) = true := by
    intro n g1 g2
    have : n = 48 ∨ n = 49 ∨ n = 50 ∨ n = 51 ∨ n = 52 ∨ n = 53 ∨ n = 54 ∨ n = 55 ∨ n = 56 ∨ n = 57 := by omega
    rcases this with rfl | rfl | rfl | rfl | rfl | rfl | rfl | rfl | rfl | rfl <;> decide
  have := key c.toNat h1 h2
  rwa [UInt8.ofNat_toNat] at this
theorem dropWhile_all {p : UInt8 → Bool} : ∀ (l : List UInt8), (∀ c ∈ l, p c = true) → l.dropWhile p = []
  | [], _ => rfl
  | c :: l, h => by
    rw [List.dropWhile_cons, if_pos (h c List.mem_cons_self)]
    exact dropWhile_all l (fun x hx => h x (List.mem_cons_of_mem _ hx))
theorem trimS_all (l cs : List UInt8) (h : ∀ c ∈ l, cs.contains c = true) : Lib.trimS l cs = [] := by
  unfold Lib.trimS Lib.trimRightS
  rw [dropWhile_all _ (fun c hc => h c (List.mem_reverse.1 hc))]
  rfl
theorem nameB_alph (a b : Nat) : Lib.trimS (nameB 99 a b).data.toList alph = [] := by
  refine trimS_all _ _ (fun c hc => ?_)
  rw [nameB_list] at hc
  simp only [List.mem_cons, List.mem_append] at hc
  rcases hc with rfl | rfl | hc | rfl | hc
  · decide
  · decide
  · exact alph_digit c (dec_mem a c hc)
  · decide
  · exact alph_digit c (dec_mem b c hc)

set_option maxRecDepth 100000 in
set_option maxHeartbeats 1000000 in
theorem bname_any (a b : Nat) (ha : a ≤ 9223372036854775807) (hb : b ≤ 9223372036854775807) (w : World) :
    Calls Tryz.prog 8 #[.string (nameB 99 a b)] w fun e w' => e = .returned (.bool (decide (((nameB 99 a b).size : Int) ≤ 40))) ∧ Below w.heap.size w w' := by
  have hz := nameB_size (a := a) (b := b) 99 ha hb
  have ht := trim_str (nameB 99 a b) ⟨alph.toArray⟩ w (by omega) (by decide) (fun j b hb => by
    have : b ∈ alph := List.mem_of_getElem? hb
    have key : ∀ c ∈ alph, c.toNat < 128 := by decide
    exact key b this)
  have e : (⟨(Lib.trimS (nameB 99 a b).data.toList alph).toArray⟩ : ByteArray) = ⟨#[]⟩ := by rw [nameB_alph]
  have ht' : Calls Tryz.prog 19 #[.string (nameB 99 a b), .string ⟨alph.toArray⟩] w fun e w' => e = .returned (.string ⟨#[]⟩) ∧ Below w.heap.size w w' := by
    rw [← e]; exact ht
  have hne : (nameB 99 a b).toList ≠ [] := by
    rw [ByteArray.toList_eq, nameB_list]
    simp
  clear ht e
  generalize nameB 99 a b = s at *
  have hne' : (s.toList == []) = false := by
    cases hq : s.toList with
    | nil => exact absurd hq hne
    | cons _ _ => rfl
  by_cases h40 : (s.size : Int) ≤ 40
  · rw [decide_eq_true h40]
    unfold alph at ht'
    go_enter Tryz.func8, Tryz.ntmps8
    go_wp2_with (go_at_call 19; refine ht'.mono ?_; rintro e w1 ⟨rfl, hb1⟩)
    go_ret
    exact ⟨rfl, hb1⟩
  · rw [decide_eq_false h40]
    clear ht'
    go_enter Tryz.func8, Tryz.ntmps8
    go_wp2
    go_ret
    exact ⟨rfl, Below.refl _ _⟩

theorem dec_inj : ∀ {a b : Nat}, Lib.decDigits a = Lib.decDigits b → a = b := by
  intro a
  induction a using Nat.strongRecOn with
  | ind a ih =>
  intro b h
  have hne : ∀ n, Lib.decDigits n ≠ [] := fun n => by
    by_cases hn : n < 10
    · rw [Lib.decDigits_one hn]; simp
    · rw [dec_big hn]; simp
  by_cases ha : a < 10 <;> by_cases hb : b < 10
  · rw [Lib.decDigits_one ha, Lib.decDigits_one hb] at h
    have := congrArg UInt8.toNat (List.singleton_inj.1 h)
    rw [digit_nat ha, digit_nat hb] at this
    omega
  · rw [Lib.decDigits_one ha, dec_big hb] at h
    have := congrArg List.length h
    have h2 := hne (b / 10)
    rw [List.length_append] at this
    have : (Lib.decDigits (b / 10)).length = 0 := by simpa using this.symm
    exact absurd (List.eq_nil_of_length_eq_zero this) h2
  · rw [Lib.decDigits_one hb, dec_big ha] at h
    have := congrArg List.length h
    have h2 := hne (a / 10)
    rw [List.length_append] at this
    have : (Lib.decDigits (a / 10)).length = 0 := by simpa using this
    exact absurd (List.eq_nil_of_length_eq_zero this) h2
  · rw [dec_big ha, dec_big hb] at h
    obtain ⟨h1, h2⟩ := List.append_inj' h rfl
    have e1 := ih (a / 10) (by omega) h1
    have := congrArg UInt8.toNat (List.singleton_inj.1 h2)
    rw [digit_nat (by omega), digit_nat (by omega)] at this
    omega

theorem cut_inj {x : UInt8} : ∀ {a b c d : List UInt8}, (∀ y ∈ a, y ≠ x) → (∀ y ∈ c, y ≠ x) → a ++ x :: b = c ++ x :: d → a = c ∧ b = d
  | [], b, [], d, _, _, h => ⟨rfl, by simpa using h⟩
  | [], b, z :: c, d, _, hc, h => by
    simp only [List.nil_append, List.cons_append, List.cons.injEq] at h
    exact absurd h.1.symm (hc z List.mem_cons_self)
  | y :: a, b, [], d, ha, _, h => by
    simp only [List.nil_append, List.cons_append, List.cons.injEq] at h
    exact absurd h.1 (ha y List.mem_cons_self)
  | y :: a, b, z :: c, d, ha, hc, h => by
    simp only [List.cons_append, List.cons.injEq] at h
    obtain ⟨e1, e2⟩ := cut_inj (fun u hu => ha u (List.mem_cons_of_mem _ hu)) (fun u hu => hc u (List.mem_cons_of_mem _ hu)) h.2
    exact ⟨by rw [h.1, e1], e2⟩
theorem nameB_inj {c : UInt8} {a b a' b' : Nat} (h : (nameB c a b).toList = (nameB c a' b').toList) : a = a' ∧ b = b' := by
  rw [ByteArray.toList_eq, ByteArray.toList_eq, nameB_list, nameB_list] at h
  simp only [List.cons.injEq, true_and] at h
  obtain ⟨h1, h2⟩ := cut_inj (dec_no a) (dec_no a') h
  exact ⟨dec_inj h1, dec_inj h2⟩
end Go.Proofs
