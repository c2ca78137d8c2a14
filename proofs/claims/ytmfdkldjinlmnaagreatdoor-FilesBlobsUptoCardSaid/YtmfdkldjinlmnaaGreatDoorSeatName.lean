/- A name's epoch: the document's and the manifest's are the same. -/
import Derived.Test.YtmfdkldjinlmnaaGreatDoorSeatEpoch
import Derived.Test.YtmfdkldjinlmnaaGreatDoorSeatDoc
set_option linter.unusedSimpArgs false
set_option linter.unusedVariables false
namespace Go.Proofs
open Go.RowKit

theorem dec_big {n : Nat} (h : ¬ n < 10) : Lib.decDigits n = Lib.decDigits (n / 10) ++ [UInt8.ofNat (48 + n % 10)] := by rw [Lib.decDigits, dif_neg h]
theorem digit_nat {d : Nat} (h : d < 10) : (UInt8.ofNat (48 + d)).toNat = 48 + d := by
  rw [UInt8.toNat_ofNat']
  omega
theorem digit_of {x : UInt8} (h : 48 ≤ x.toNat ∧ x.toNat ≤ 57) : UInt8.ofNat (48 + (x.toNat - 48)) = x := by
  apply UInt8.toNat_inj.1
  rw [UInt8.toNat_ofNat']
  omega

theorem dec_mem (n : Nat) : ∀ c ∈ Lib.decDigits n, 48 ≤ c.toNat ∧ c.toNat ≤ 57 := by
  induction n using Nat.strongRecOn with
  | ind n ih =>
    intro c hc
    by_cases h : n < 10
    · rw [Lib.decDigits_one h] at hc
      have := List.mem_singleton.1 hc
      rw [this, digit_nat h]
      omega
    · rw [dec_big h] at hc
      rcases List.mem_append.1 hc with hc | hc
      · exact ih (n / 10) (by omega) c hc
      · have := List.mem_singleton.1 hc
        rw [this, digit_nat (by omega)]
        omega

theorem scan_dec (n : Nat) (hn : n ≤ lastN) : ∀ l, scan true 0 (Lib.decDigits n ++ l) = scan false n l := by
  induction n using Nat.strongRecOn with
  | ind n ih =>
    intro l
    by_cases h : n < 10
    · rw [Lib.decDigits_one h, List.singleton_append, scan, digit_nat h, if_pos (by omega), if_neg (by simp)]
      congr 1
      omega
    · rw [dec_big h, List.append_assoc, List.singleton_append, ih (n / 10) (by omega) (by omega), scan, digit_nat (by omega), if_pos (by omega), if_neg ?_]
      · congr 1
        omega
      · unfold lastN at *
        rintro (⟨_, h0⟩ | h0)
        · omega
        · omega

theorem scan_false_inv : ∀ (l : List UInt8) (n e : Nat) (r : List UInt8), scan false n l = some (e, r) → n ≤ lastN → ∃ d, l = d ++ r ∧ Lib.decDigits e = Lib.decDigits n ++ d ∧ e ≤ lastN
  | [], n, e, r, h, hn => by
    unfold scan at h
    rw [if_neg (by decide)] at h
    cases h
    exact ⟨[], rfl, by simp, hn⟩
  | x :: l, n, e, r, h, hn => by
    unfold scan at h
    split at h
    · rename_i hx
      split at h
      · cases h
      · rename_i hc
        have h1 : n ≠ 0 := fun h => hc (.inl ⟨rfl, h⟩)
        have h2 : ¬ (lastN - (x.toNat - 48)) / 10 < n := fun h => hc (.inr h)
        have hm : n * 10 + (x.toNat - 48) ≤ lastN := by unfold lastN at *; omega
        obtain ⟨d, hd, he, hl⟩ := scan_false_inv l _ e r h hm
        refine ⟨x :: d, by rw [hd]; rfl, ?_, hl⟩
        rw [he, dec_big (by omega)]
        have e1 : (n * 10 + (x.toNat - 48)) / 10 = n := by omega
        have e2 : (n * 10 + (x.toNat - 48)) % 10 = x.toNat - 48 := by omega
        rw [e1, e2, digit_of hx]
        simp
    · rw [if_neg (by decide)] at h
      cases h
      exact ⟨[], rfl, by simp, hn⟩

theorem scan_true_inv {l : List UInt8} {e : Nat} {r : List UInt8} (h : scan true 0 l = some (e, r)) : l = Lib.decDigits e ++ r ∧ e ≤ lastN := by
  cases l with
  | nil => cases h
  | cons x l =>
    unfold scan at h
    split at h
    · rename_i hx
      split at h
      · cases h
      · rw [Nat.zero_mul, Nat.zero_add] at h
        obtain ⟨d, hd, he, hl⟩ := scan_false_inv l _ e r h (by unfold lastN; omega)
        rw [he, hd, Lib.decDigits_one (by omega), digit_of hx]
        exact ⟨rfl, hl⟩
    · cases h

theorem parse_dec (n : Nat) (hn : n ≤ lastN) : ∀ l, Lib.parseUint10 0 (Lib.decDigits n ++ l) = Lib.parseUint10 n l := by
  unfold lastN at hn
  induction n using Nat.strongRecOn with
  | ind n ih =>
    intro l
    by_cases h : n < 10
    · rw [Lib.decDigits_one h, List.singleton_append, Lib.parseUint10, digit_nat h, if_pos (by omega), if_neg (by omega), if_neg (by omega)]
      congr 1
      omega
    · rw [dec_big h, List.append_assoc, List.singleton_append, ih (n / 10) (by omega) (by omega), Lib.parseUint10, digit_nat (by omega), if_pos (by omega), if_neg (by omega), if_neg (by omega)]
      congr 1
      omega

theorem atoi_dec (n : Nat) (hn : n ≤ lastN) : Lib.atoiAll (Lib.decDigits n) = .ok (n : Nat) := by
  have hp : Lib.parseUint10 0 (Lib.decDigits n) = .ok n := by
    have := parse_dec n hn []
    rw [List.append_nil] at this
    rw [this]
    rfl
  cases hd : Lib.decDigits n with
  | nil =>
    have := Lib.decDigits_length n
    rw [hd] at this
    unfold Lib.nDigits at this
    split at this <;> simp at this
  | cons c r =>
    have hc := dec_mem n c (by rw [hd]; simp)
    rw [Lib.atoiAll_plain c r (by omega) (by omega)]
    rw [hd] at hp
    unfold Lib.parseMag
    rw [if_neg (by simp), hp]
    show (if _ then _ else _) = _
    rw [if_neg (by unfold lastN at hn; omega)]

/-- The names that have an epoch. -/
def Nm (name : ByteArray) (E : Int) : Prop := ∃ (c : UInt8) (e n : Nat), (c = 109 ∨ c = 99) ∧ e ≤ lastN ∧ n ≤ lastN ∧ name = nameB c e n ∧ E = (e : Nat)

theorem nameB_list (c : UInt8) (a b : Nat) : (nameB c a b).data.toList = c :: 45 :: (Lib.decDigits a ++ 45 :: Lib.decDigits b) := by
  simp [nameB]

theorem docIs_iff (name : ByteArray) (E : Int) : DocIs name E ↔ Nm name E := by
  constructor
  · rintro ⟨c, r1, r2, e, n, h1, h2, h3, h4, h5⟩
    obtain ⟨a1, a2⟩ := scan_true_inv h3
    obtain ⟨b1, b2⟩ := scan_true_inv h4
    refine ⟨c, e, n, h2, a2, b2, ?_, h5⟩
    apply ByteArray.ext
    apply Array.ext'
    rw [nameB_list, h1, a1, b1, List.append_nil]
  · rintro ⟨c, e, n, h1, h2, h3, rfl, rfl⟩
    refine ⟨c, _, Lib.decDigits n, e, n, nameB_list c e n, h1, ?_, ?_, rfl⟩
    · rw [scan_dec e h2]
      unfold scan
      rw [if_neg (by decide), if_neg (by decide)]
    · have := scan_dec n h3 []
      rw [List.append_nil] at this
      rw [this]
      rfl

theorem indexByte_fore : ∀ (p r : List UInt8), (∀ c ∈ p, c ≠ 45) → Lib.indexByte (p ++ 45 :: r) 45 = (p.length : Nat)
  | [], r, _ => rfl
  | x :: p, r, h => by
    have ih := indexByte_fore p r fun c hc => h c (List.mem_cons_of_mem _ hc)
    have hx : (x == 45) = false := beq_eq_false_iff_ne.2 (h x (by simp))
    rw [List.cons_append, Lib.indexByte, hx, ih]
    rw [if_neg (by decide), if_neg (by simp)]
    simp
theorem indexByte_not : ∀ (p : List UInt8), (∀ c ∈ p, c ≠ 45) → Lib.indexByte p 45 = -1
  | [], _ => rfl
  | x :: p, h => by
    have ih := indexByte_not p fun c hc => h c (List.mem_cons_of_mem _ hc)
    have hx : (x == 45) = false := beq_eq_false_iff_ne.2 (h x (by simp))
    rw [Lib.indexByte, hx, ih]
    rfl

theorem split_fore (p r : List UInt8) (h : ∀ c ∈ p, c ≠ 45) : Lib.split (p ++ 45 :: r) [45] = p :: Lib.split r [45] := by
  have hi : Lib.index (p ++ 45 :: r) [45] = (p.length : Nat) := by rw [Lib.index_one]; exact indexByte_fore p r h
  have hc := Lib.count_hit (sub := [45]) (by simp) hi
  have hd : (p ++ 45 :: r).drop (p.length + ([45] : List UInt8).length) = r := by simp
  rw [hd] at hc
  unfold Lib.split
  rw [hc, Nat.add_comm, Lib.splitK, hi]
  rw [if_neg (by simp)]
  simp
theorem split_not (p : List UInt8) (h : ∀ c ∈ p, c ≠ 45) : Lib.split p [45] = [p] := by
  have hi : Lib.index p [45] = -1 := by rw [Lib.index_one]; exact indexByte_not p h
  unfold Lib.split
  rw [Lib.count_miss hi]
  rfl
theorem pieces_list (name : ByteArray) : (pieces name).map (·.data.toList) = Lib.split name.data.toList [45] := by
  unfold pieces
  rw [Lib.splitB_data]
  rfl
theorem dec_no (n : Nat) : ∀ c ∈ Lib.decDigits n, c ≠ 45 := by
  intro c hc h
  have := dec_mem n c hc
  rw [h] at this
  exact absurd this.1 (by decide)

theorem pieces_nameB (c : UInt8) (hc : c = 109 ∨ c = 99) (e n : Nat) : (pieces (nameB c e n)).map (·.data.toList) = [[c], Lib.decDigits e, Lib.decDigits n] := by
  rw [pieces_list, nameB_list]
  have h1 := split_fore [c] (Lib.decDigits e ++ 45 :: Lib.decDigits n) (by rcases hc with rfl | rfl <;> simp)
  rw [List.singleton_append] at h1
  rw [h1, split_fore _ _ (dec_no e), split_not _ (dec_no n)]

theorem epIs_iff (name : ByteArray) (E : Int) : EpIs name E ↔ Nm name E := by
  constructor
  · rintro ⟨p0, p1, p2, n, hp, h1, h2, hE, hn, hm⟩
    by_cases hneg : E < 0 ∨ n < 0
    · have : name = .empty := hm.elim (fun h => h.trans (if_pos hneg)) (fun h => h.trans (if_pos hneg))
      subst this
      have hl := congrArg List.length (pieces_list ByteArray.empty)
      rw [hp] at hl
      have : Lib.split ByteArray.empty.data.toList [45] = [[]] := by decide
      rw [this] at hl
      simp at hl
    · have hb : ∀ c, nameI c E n = nameB c E.toNat n.toNat := fun c => if_neg hneg
      refine hm.elim (fun h => ⟨109, E.toNat, n.toNat, .inl rfl, by unfold lastN; omega, by unfold lastN; omega, h.trans (hb _), by omega⟩) (fun h => ⟨99, E.toNat, n.toNat, .inr rfl, by unfold lastN; omega, by unfold lastN; omega, h.trans (hb _), by omega⟩)
  · rintro ⟨c, e, n, hc, he, hn, rfl, rfl⟩
    have hp := pieces_nameB c hc e n
    obtain ⟨p0, p1, p2, hq⟩ : ∃ p0 p1 p2, pieces (nameB c e n) = [p0, p1, p2] := by
      generalize pieces (nameB c e n) = L at hp
      have hl := congrArg List.length hp
      match L, hl with
      | [p0, p1, p2], _ => exact ⟨p0, p1, p2, rfl⟩
      | [], hl => simp at hl
      | [_], hl => simp at hl
      | [_, _], hl => simp at hl
      | _ :: _ :: _ :: _ :: _, hl => simp at hl
    · rw [hq] at hp
      simp only [List.map_cons, List.map_nil, List.cons.injEq, and_true] at hp
      obtain ⟨_, h1, h2⟩ := hp
      have hb : ∀ c, nameI c (e : Nat) (n : Nat) = nameB c e n := fun c => if_neg (by omega)
      refine ⟨p0, p1, p2, (n : Nat), hq, by rw [h1]; exact atoi_dec e he, by rw [h2]; exact atoi_dec n hn, by unfold lastN at *; omega, by unfold lastN at *; omega, ?_⟩
      rcases hc with rfl | rfl
      · exact .inl (hb _).symm
      · exact .inr (hb _).symm
end Go.Proofs
