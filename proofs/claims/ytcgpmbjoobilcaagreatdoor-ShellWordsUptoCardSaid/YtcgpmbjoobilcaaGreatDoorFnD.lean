/- Names and paths: the program's way and the document's. -/
import Derived.Test.YtcgpmbjoobilcaaGreatDoorFnA
import Derived.Test.YtcgpmbjoobilcaaGreatDoorLxE
set_option linter.unusedSimpArgs false
set_option linter.unusedVariables false
namespace Go.Cis
open Go Go.Ax Go.Lx Go.Proofs
set_option maxRecDepth 100000
def chOk (c : UInt8) : Bool := !(decide (c.toNat < 33) || decide (126 < c.toNat) || decide (c.toNat = 47))
def oddR (n : Nat) : Bool := decide (n < 33) || decide (126 < n) || decide (n = 47)
theorem rune_at {s : Bs} {p : Nat} (h : p < s.length) : oddR (rune s p).1 = (!chOk s[p]) ∧ (chOk s[p] = true → (rune s p).2 = 1) := by
 have hg : ((⟨⟨s⟩⟩ : ByteArray).get! (p + 0)).toNat = s[p].toNat := by
  have : (⟨⟨s⟩⟩ : ByteArray).get! (p + 0) = s[p] := by
   show (Array.mk s)[p + 0]! = s[p]
   rw [Nat.add_zero, getElem!_pos (Array.mk s) p h]
   rfl
  rw [this]
 have big : ∀ n : Nat, 128 ≤ n → oddR n = true := fun n hn => by
  unfold oddR
  have : decide (126 < n) = true := decide_eq_true (by omega)
  rw [this]; simp
 unfold rune Utf8.decode
 simp only [hg]
 by_cases h0 : s[p].toNat < 128
 ·rw [if_pos h0]
  exact ⟨by unfold chOk oddR; rw [Bool.not_not], fun _ => rfl⟩
 ·rw [if_neg h0]
  have hc : chOk s[p] = false := by
   unfold chOk
   have : decide (126 < s[p].toNat) = true := decide_eq_true (by omega)
   rw [this]; simp
  rw [hc]
  refine ⟨?_, fun h => by cases h⟩
  split
  ·split
   ·exact big _ (by omega)
   ·exact big _ (by decide)
  ·split
   ·split
    ·rename_i hh
     simp only [Bool.and_eq_true, decide_eq_true_eq] at hh
     exact big _ (by omega)
    ·exact big _ (by decide)
   ·split
    ·split
     ·rename_i hh
      simp only [Bool.and_eq_true, decide_eq_true_eq] at hh
      exact big _ (by omega)
     ·exact big _ (by decide)
    ·exact big _ (by decide)
theorem dec_eq {p q : Prop} [Decidable p] [Decidable q] (h : p ↔ q) : decide p = decide q := by
 by_cases hp : p
 ·rw [decide_eq_true hp, decide_eq_true (h.1 hp)]
 ·rw [decide_eq_false hp, decide_eq_false (fun hq => hp (h.2 hq))]
theorem odd_eq (n : Nat) : ((decide ((n : Int) < 33) || decide ((126 : Int) < (n : Int))) || decide ((n : Int) = 47)) = oddR n := by
 unfold oddR
 rw [dec_eq (p := (n : Int) < 33) (q := n < 33) (by omega), dec_eq (p := (126 : Int) < (n : Int)) (q := 126 < n) (by omega), dec_eq (p := (n : Int) = 47) (q := n = 47) (by omega)]
theorem odd_sp (L P : List Asn) (n : Nat) : Sp SEL 439 [.int .i32 (n : Nat)] L P (fun r L' P' => r = .bool (oddR n) ∧ L' = L ∧ P' = P) := by
 refine Sp.body (fn := Tryz.f439) (N := 12) (by kernel_rfl) (by kernel_rfl) rfl (by kernel_rfl) rfl ?_
 refine .seq (.region ?_)
 refine .pu .as ?_
 refine .nil ?_
 refine .seq (.region ?_)
 refine .pu .mv ?_
 refine .pu .cmp ?_
 refine .pu .mv ?_
 refine .or 5 2 (decide ((126 : Int) < (n : Int))) (fun hq => ?_) ?_
 ·refine .on (.pu .mv ?_)
  refine .on (.pu .cmp ?_)
  exact .fin rfl
 refine .pu .mv ?_
 refine .or 9 2 (decide ((n : Int) = (47 : Int))) (fun hq => ?_) ?_
 ·refine .on (.pu .mv ?_)
  refine .on (.pu .cmp ?_)
  exact .fin rfl
 refine .pu .as ?_
 refine .nil ?_
 refine .ret ?_
 exact ⟨_, .tmp rfl .nil, _, _, .refl _ _, by rw [odd_eq]; rfl, rfl, rfl⟩
theorem all_no {s : Bs} {p : Nat} (h : p < s.length) (hc : chOk s[p] = false) : s.all chOk = false := by
 cases ha : s.all chOk with
 | false => rfl
 | true =>
  have := List.all_eq_true.1 ha s[p] (List.getElem_mem h)
  rw [hc] at this
  cases this
theorem all_end {s : Bs} {p : Nat} (h : ¬ p < s.length) (hall : (s.take p).all chOk = true) : s.all chOk = true := by
 have : s.take p = s := List.take_of_length_le (by omega)
 rw [this] at hall
 exact hall
theorem indexFunc_sp (L P : List Asn) (s : Bs) (hl : s.length ≤ 1000000000000) : Sp SEL 499 [S s, .func (.func 439) #[] #[], .bool true] L P (fun r L' P' => ∃ n : Int, r = .int .i64 n ∧ (decide (n < 0) = s.all chOk) ∧ L' = L ∧ P' = P) := by
 refine Sp.body (fn := Tryz.f499) (N := 20) (by kernel_rfl) (by kernel_rfl) rfl (by kernel_rfl) rfl ?_
 refine .seq (.region ?_)
 refine .pu .as ?_
 refine .nil ?_
 refine .seq (.seq (.region ?_))
 refine .pu .mv ?_
 refine .rg fun r10 => ?_
 refine .nil ?_
 refine .block (W.loop (fun (p : Nat) => p ≤ s.length ∧ (s.take p).all chOk = true) (fun p => s.length - p) (fun p => [(10, .pointer (some ⟨r10, 0, none⟩)), (2, .bool true), (1, .func (.func 439) #[] #[])]) (fun p => It r10 s p :: L) (fun _ => P) 0 ⟨Nat.zero_le _, by simp⟩ ⟨rfl, rfl, rfl, trivial⟩ (.refl _ _) (fun p hp => ?_))
 obtain ⟨hp, hall⟩ := hp
 by_cases hlt : p < s.length
 ·refine .seq (.region ?_)
  refine .nx hlt ?_
  refine .pu .ex ?_
  refine .nil ?_
  refine .seq (.yes rfl ?_)
  refine .skip ?_
  refine .block (.seq (.region ?_))
  refine .pu .ex ?_
  refine .pu .ex ?_
  refine .pu .as ?_
  refine .pu .as ?_
  refine .nil ?_
  refine .seq (.region ?_)
  refine .pu .mv ?_
  refine .pu .mv ?_
  refine .call (odd_sp _ _ _) ?_; rintro _ L P ⟨rfl, rfl, rfl⟩
  refine .pu .mv ?_
  refine .pu (.bin_bool_eql (a := oddR (rune s p).1) (b := true)) ?_
  refine .nil ?_
  refine .ite rfl (fun h19 => ?_) (fun h19 => ?_)
  ·refine .seq (.region ?_)
   have hodd : oddR (rune s p).1 = true := by simpa using h19
   have hno : chOk s[p] = false := by have := (rune_at hlt).1; rw [hodd] at this; simpa using this.symm
   refine .pu .mv ?_
   refine .pu .as ?_
   refine .nil ?_
   refine .ret ?_
   exact ⟨_, .tmp rfl .nil, _, _, .d1, ⟨(p : Nat), rfl, by rw [all_no hlt hno]; exact decide_eq_false (by omega), rfl, rfl⟩⟩
  refine .skip ?_
  have hodd : oddR (rune s p).1 = false := by simpa using h19
  have hyes : chOk s[p] = true := by have := (rune_at hlt).1; rw [hodd] at this; simpa using this.symm
  have h1 := (rune_at hlt).2 hyes
  refine ⟨p + 1, ⟨hlt, by rw [List.take_succ_eq_append_getElem hlt, List.all_append, hall]; simpa using hyes⟩, by show s.length - (p + 1) < s.length - p; omega, ⟨rfl, rfl, rfl, trivial⟩, ?_⟩
  show Ent _ _ (It r10 s (p + 1) :: L) _
  rw [h1]
  exact .refl _ _
 ·refine .seq (.region ?_)
  refine .nxE (by omega) ?_
  refine .pu .ex ?_
  refine .nil ?_
  refine .seq (.no rfl ?_)
  refine .exit ?_
  refine .seq (.region ?_)
  refine .pu .as ?_
  refine .nil ?_
  refine .ret ?_
  exact ⟨_, .tmp rfl .nil, _, _, .d1, ⟨-1, rfl, by rw [all_end hlt hall]; rfl, rfl, rfl⟩⟩
theorem strIndexFunc_sp (L P : List Asn) (s : Bs) (hl : s.length ≤ 1000000000000) : Sp SEL 440 [S s, .func (.func 439) #[] #[]] L P (fun r L' P' => ∃ n : Int, r = .int .i64 n ∧ (decide (n < 0) = s.all chOk) ∧ L' = L ∧ P' = P) := by
 refine Sp.body (fn := Tryz.f440) (N := 7) (by kernel_rfl) (by kernel_rfl) rfl (by kernel_rfl) rfl ?_
 refine .seq (.region ?_)
 refine .pu .as ?_
 refine .nil ?_
 refine .seq (.region ?_)
 refine .pu .mv ?_
 refine .pu .mv ?_
 refine .call (indexFunc_sp _ _ s hl) ?_; rintro _ L P ⟨n, rfl, hn, rfl, rfl⟩
 refine .pu .as ?_
 refine .nil ?_
 refine .ret ?_
 exact ⟨_, .tmp rfl .nil, _, _, .refl _ _, ⟨n, rfl, hn, rfl, rfl⟩⟩
def nameOk (s : Bs) : Bool := !decide (s = []) && decide (s.length ≤ 16) && !decide (s = [46]) && !decide (s = [46, 46]) && s.all chOk
theorem name_eq (s : Bs) : ((((decide (s ≠ []) && decide ((s.length : Int) ≤ 16)) && decide (s ≠ [46])) && decide (s ≠ [46, 46])) && s.all chOk) = nameOk s := by
 unfold nameOk
 rw [decide_not, decide_not, decide_not, dec_eq (p := (s.length : Int) ≤ 16) (q := s.length ≤ 16) (by omega)]
theorem name_sp (L P : List Asn) (s : Bs) (hl : s.length ≤ 1000000000000) : Sp SEL 366 [S s] L P (fun r L' P' => r = .bool (nameOk s) ∧ L' = L ∧ P' = P) := by
 refine Sp.body (fn := Tryz.f366) (N := 24) (by kernel_rfl) (by kernel_rfl) rfl (by kernel_rfl) rfl ?_
 refine .seq (.region ?_)
 refine .pu .as ?_
 refine .nil ?_
 refine .seq (.region ?_)
 refine .pu .as ?_
 refine .nil ?_
 refine .seq (.region ?_)
 refine .pu .mv ?_
 refine .pu .sne ?_
 refine .pu .mv ?_
 refine .and 6 3 (decide ((s.length : Int) ≤ 16)) (fun hq => ?_) ?_
 ·refine .on (.pu .mv ?_)
  refine .on (.pu .ls ?_)
  refine .on (.pu .cmp ?_)
  exact .fin rfl
 refine .pu .mv ?_
 refine .and 11 2 (decide (s ≠ [46])) (fun hq => ?_) ?_
 ·refine .on (.pu .mv ?_)
  refine .on (.pu .sne ?_)
  exact .fin rfl
 refine .pu .mv ?_
 refine .and 15 2 (decide (s ≠ [46, 46])) (fun hq => ?_) ?_
 ·refine .on (.pu .mv ?_)
  refine .on (.pu .sne ?_)
  exact .fin rfl
 refine .pu .mv ?_
 refine .and 19 4 (s.all chOk) (fun hq => ?_) ?_
 ·refine .on (.pu .mv ?_)
  refine .on (.pu .mv ?_)
  refine .on ?_; refine .call (strIndexFunc_sp _ _ s hl) ?_; rintro _ L P ⟨n, rfl, hn, rfl, rfl⟩
  refine .on (.pu (.cmp (q := decide (n < 0))) ?_)
  exact .fin (by show some (Value.bool (decide (n < 0))) = _; rw [hn])
 refine .pu .as ?_
 refine .nil ?_
 refine .ret ?_
 exact ⟨_, .tmp rfl .nil, _, _, .refl _ _, by rw [name_eq]; rfl, rfl, rfl⟩
end Go.Cis
/- Texts cut at a byte. -/
namespace Go.Cis
open Go Go.Ax Go.Lx Go.Proofs
set_option maxRecDepth 100000
def cut1 (c : UInt8) : Bs → Bs × Option Bs
 | [] => ([], none)
 | x :: s => if x = c then ([], some s) else (x :: (cut1 c s).1, (cut1 c s).2)
def spl (c : UInt8) : Bs → List Bs
 | [] => [[]]
 | x :: s => if x = c then [] :: spl c s else match spl c s with
  | w :: r => (x :: w) :: r
  | [] => [[x]]
theorem spl_cons (c x : UInt8) (s : Bs) : spl c (x :: s) = if x = c then [] :: spl c s else match spl c s with
  | w :: r => (x :: w) :: r
  | [] => [[x]] := rfl
theorem cut1_cons (c x : UInt8) (s : Bs) : cut1 c (x :: s) = if x = c then ([], some s) else (x :: (cut1 c s).1, (cut1 c s).2) := rfl
theorem spl_ne (c : UInt8) : ∀ s, spl c s ≠ []
 | [] => by simp [spl]
 | x :: s => by
  unfold spl
  split
  ·simp
  ·split <;> simp
theorem spl_cut (c : UInt8) : ∀ s, spl c s = match cut1 c s with
  | (a, none) => [a]
  | (a, some r) => a :: spl c r
 | [] => rfl
 | x :: s => by
  rw [spl_cons, cut1_cons]
  by_cases hx : x = c
  ·rw [if_pos hx, if_pos hx]
  ·rw [if_neg hx, if_neg hx, spl_cut c s]
   rcases cut1 c s with ⟨a, _ | r⟩
   ·rfl
   ·rfl
theorem cut_some {c : UInt8} : ∀ {s a r : Bs}, cut1 c s = (a, some r) → s = a ++ c :: r
 | [], a, r, h => by cases h
 | x :: s, a, r, h => by
  unfold cut1 at h
  by_cases hx : x = c
  ·rw [if_pos hx] at h; cases h; rw [hx]; rfl
  ·rw [if_neg hx] at h
   rcases hc : cut1 c s with ⟨a', r'⟩
   rw [hc] at h
   cases h
   rw [cut_some hc]
   rfl
theorem cut_none {c : UInt8} : ∀ {s a : Bs}, cut1 c s = (a, none) → s = a
 | [], a, h => by cases h; rfl
 | x :: s, a, h => by
  unfold cut1 at h
  by_cases hx : x = c
  ·rw [if_pos hx] at h; cases h
  ·rw [if_neg hx] at h
   rcases hc : cut1 c s with ⟨a', r'⟩
   rw [hc] at h
   cases h
   rw [cut_none hc]
def posI (c : UInt8) (s : Bs) : Int := match (cut1 c s).2 with
 | none => -1
 | some _ => (cut1 c s).1.length
theorem idx_pos (c : UInt8) : ∀ (s : Bs) (i : Nat), idxK c.toNat s i = match (cut1 c s).2 with
  | none => -1
  | some _ => (((cut1 c s).1.length + i : Nat) : Int)
 | [], i => rfl
 | x :: s, i => by
  show (bif Nat.beq x.toNat c.toNat then Int.ofNat i else idxK c.toNat s (i + 1)) = _
  unfold cut1
  by_cases hx : x = c
  ·subst hx
   rw [Nat.beq_refl, cond_true, if_pos rfl]
   show Int.ofNat i = (((0 : Nat) + i : Nat) : Int)
   rw [Nat.zero_add]; rfl
  ·have hb : Nat.beq x.toNat c.toNat = false := by
    cases h : Nat.beq x.toNat c.toNat with
    | false => rfl
    | true => exact absurd (UInt8.toNat_inj.1 (Nat.eq_of_beq_eq_true h)) hx
   rw [hb, cond_false, if_neg hx, idx_pos c s (i + 1)]
   cases (cut1 c s).2 with
   | none => rfl
   | some r =>
    show (((cut1 c s).1.length + (i + 1) : Nat) : Int) = ((((x :: (cut1 c s).1).length) + i : Nat) : Int)
    rw [List.length_cons]
    congr 1
    omega
theorem pos_one {c : UInt8} {s : Bs} (h : (false || decide ([c] = s)) = true) : posI c s = 0 := by
 have e : [c] = s := by simpa using h
 subst e
 unfold posI
 rw [cut1_cons, if_pos rfl]
 rfl
theorem cnt_cons (k : Nat) (x : UInt8) (s : Bs) : cntN k (x :: s) = bif Nat.beq x.toNat k then (cntN k s).succ else cntN k s := by
 show @Bool.rec (fun _ => Nat) (cntN k s) (Nat.succ (cntN k s)) (Nat.beq x.toNat k) = _
 cases Nat.beq x.toNat k <;> rfl
theorem cnt_spl (c : UInt8) : ∀ s : Bs, cntN c.toNat s + 1 = (spl c s).length
 | [] => rfl
 | x :: s => by
  have ih := cnt_spl c s
  have hne := spl_ne c s
  rw [spl_cons]
  by_cases hx : x = c
  ·subst hx
   rw [if_pos rfl, List.length_cons, ← ih]
   rw [cnt_cons, Nat.beq_refl]
   rfl
  ·have hb : Nat.beq x.toNat c.toNat = false := by
    cases h : Nat.beq x.toNat c.toNat with
    | false => rfl
    | true => exact absurd (UInt8.toNat_inj.1 (Nat.eq_of_beq_eq_true h)) hx
   rw [if_neg hx]
   have e : cntN c.toNat (x :: s) = cntN c.toNat s := by
    rw [cnt_cons, hb]; rfl
   rw [e, ih]
   cases hs : spl c s with
   | nil => exact absurd hs hne
   | cons w r => rfl
theorem spl_len (c : UInt8) : ∀ s : Bs, (spl c s).length ≤ s.length + 1
 | [] => Nat.le_refl _
 | x :: s => by
  have ih := spl_len c s
  rw [spl_cons]
  split
  ·rw [List.length_cons, List.length_cons]; omega
  ·split
   ·rename_i w r h
    rw [h] at ih
    rw [List.length_cons] at ih ⊢
    rw [List.length_cons]; omega
   ·rw [List.length_cons]; show 1 ≤ _; omega
theorem idx_sp (L P : List Asn) (s : Bs) (c : UInt8) : Sp SEL 258 [S s, .int .u8 (c.toNat : Nat)] L P (fun r L' P' => r = .int .i64 (posI c s) ∧ L' = L ∧ P' = P) :=
 Sp.prim (p := idxP) (by rfl) (fun S0 s0 hs => by
  refine ⟨.int .i64 (posI c s), s0, S0, L, P, ?_, .refl _ _, hs, rfl, rfl, rfl⟩
  have hc : Nat.blt c.toNat 256 = true := nblt.2 c.toNat_lt
  show (bif Nat.blt c.toNat 256 then some (Value.int .i64 (idxK c.toNat s 0), s0) else none) = _
  rw [hc, cond_true, idx_pos c s 0]
  unfold posI
  cases (cut1 c s).2 with
  | none => rfl
  | some r => rfl)
theorem slIndexByte_sp (L P : List Asn) (s : Bs) (c : UInt8) : Sp SEL 156 [S s, .int .u8 (c.toNat : Nat)] L P (fun r L' P' => r = .int .i64 (posI c s) ∧ L' = L ∧ P' = P) := by
 refine Sp.body (fn := Tryz.f156) (N := 7) (by kernel_rfl) (by kernel_rfl) rfl (by kernel_rfl) rfl ?_
 refine .seq (.region ?_)
 refine .pu .as ?_
 refine .nil ?_
 refine .seq (.region ?_)
 refine .pu .mv ?_
 refine .pu .mv ?_
 refine .call (idx_sp _ _ s c) ?_; rintro _ L P ⟨rfl, rfl, rfl⟩
 refine .pu .as ?_
 refine .nil ?_
 refine .ret ?_
 exact ⟨_, .tmp rfl .nil, _, _, .refl _ _, rfl, rfl, rfl⟩
theorem indexByte_sp (L P : List Asn) (s : Bs) (c : UInt8) : Sp SEL 93 [S s, .int .u8 (c.toNat : Nat)] L P (fun r L' P' => r = .int .i64 (posI c s) ∧ L' = L ∧ P' = P) := by
 refine Sp.body (fn := Tryz.f93) (N := 7) (by kernel_rfl) (by kernel_rfl) rfl (by kernel_rfl) rfl ?_
 refine .seq (.region ?_)
 refine .pu .as ?_
 refine .nil ?_
 refine .seq (.region ?_)
 refine .pu .mv ?_
 refine .pu .mv ?_
 refine .call (slIndexByte_sp _ _ s c) ?_; rintro _ L P ⟨rfl, rfl, rfl⟩
 refine .pu .as ?_
 refine .nil ?_
 refine .ret ?_
 exact ⟨_, .tmp rfl .nil, _, _, .refl _ _, rfl, rfl, rfl⟩
theorem slIndex_sp (L P : List Asn) (s : Bs) (c : UInt8) : Sp SEL 153 [S s, S [c]] L P (fun r L' P' => r = .int .i64 (posI c s) ∧ L' = L ∧ P' = P) := by
 refine Sp.body (fn := Tryz.f153) (N := 142) (by kernel_rfl) (by kernel_rfl) rfl (by kernel_rfl) rfl ?_
 refine .seq (.region ?_)
 refine .pu .as ?_
 refine .nil ?_
 refine .seq (.region ?_)
 refine .pu .mv ?_
 refine .pu .ls ?_
 refine .pu .as ?_
 refine .nil ?_
 refine .seq (.block (.seq (.region ?_)))
 refine .pu .mv ?_
 refine .pu (.cmp (q := false)) ?_
 refine .pu .mv ?_
 refine .or 19 3 (decide ([c] = s)) (fun hq => ?_) ?_
 ·refine .on (.pu .mv ?_)
  refine .on (.pu .mv ?_)
  refine .on (.pu (.seq (q := decide ([c] = s))) ?_)
  exact .fin rfl
 refine .pu .as ?_
 refine .nil ?_
 refine .ite rfl (fun h16 => ?_) (fun h16 => ?_)
 ·refine .seq (.region ?_)
  refine .pu .as ?_
  refine .nil ?_
  refine .ret ?_
  exact ⟨_, .tmp rfl .nil, _, _, .refl _ _, by rw [pos_one h16]; rfl, rfl, rfl⟩
 refine .seq (.region ?_)
 refine .pu .mv ?_
 refine .pu (.cmp (q := true)) ?_
 refine .pu .as ?_
 refine .nil ?_
 refine .yes rfl ?_
 refine .seq (.region ?_)
 refine .pu .mv ?_
 refine .pu .mv ?_
 refine .pu (.ix (c := c) rfl) ?_
 refine .call (slIndexByte_sp _ _ s c) ?_; rintro _ L P ⟨rfl, rfl, rfl⟩
 refine .pu .as ?_
 refine .nil ?_
 refine .ret ?_
 exact ⟨_, .tmp rfl .nil, _, _, .refl _ _, rfl, rfl, rfl⟩
theorem index_sp (L P : List Asn) (s : Bs) (c : UInt8) : Sp SEL 86 [S s, S [c]] L P (fun r L' P' => r = .int .i64 (posI c s) ∧ L' = L ∧ P' = P) := by
 refine Sp.body (fn := Tryz.f86) (N := 7) (by kernel_rfl) (by kernel_rfl) rfl (by kernel_rfl) rfl ?_
 refine .seq (.region ?_)
 refine .pu .as ?_
 refine .nil ?_
 refine .seq (.region ?_)
 refine .pu .mv ?_
 refine .pu .mv ?_
 refine .call (slIndex_sp _ _ s c) ?_; rintro _ L P ⟨rfl, rfl, rfl⟩
 refine .pu .as ?_
 refine .nil ?_
 refine .ret ?_
 exact ⟨_, .tmp rfl .nil, _, _, .refl _ _, rfl, rfl, rfl⟩
theorem count_prim (L P : List Asn) (s : Bs) (c : UInt8) : Sp SEL 152 [S s, .int .u8 (c.toNat : Nat)] L P (fun r L' P' => r = .int .i64 (cntN c.toNat s : Nat) ∧ L' = L ∧ P' = P) :=
 Sp.prim (p := cntP) (by rfl) (fun S0 s0 hs => by
  refine ⟨.int .i64 (cntN c.toNat s : Nat), s0, S0, L, P, ?_, .refl _ _, hs, rfl, rfl, rfl⟩
  have hc : Nat.blt c.toNat 256 = true := nblt.2 c.toNat_lt
  show (bif Nat.blt c.toNat 256 then natK (cntN c.toNat s) fun r => some (Value.int .i64 (.ofNat r), s0) else none) = _
  rw [hc, cond_true, Go.Ax.natK_eq]
  rfl)
theorem count_sp (L P : List Asn) (s : Bs) (c : UInt8) : Sp SEL 85 [S s, S [c]] L P (fun r L' P' => r = .int .i64 (cntN c.toNat s : Nat) ∧ L' = L ∧ P' = P) := by
 refine Sp.body (fn := Tryz.f85) (N := 33) (by kernel_rfl) (by kernel_rfl) rfl (by kernel_rfl) rfl ?_
 refine .seq (.region ?_)
 refine .pu .as ?_
 refine .nil ?_
 refine .seq (.seq (.region ?_))
 refine .pu .mv ?_
 refine .pu .ls ?_
 refine .pu (.cmp (q := false)) ?_
 refine .nil ?_
 refine .no rfl ?_
 refine .skip ?_
 refine .seq (.seq (.region ?_))
 refine .pu .mv ?_
 refine .pu .ls ?_
 refine .pu (.cmp (q := true)) ?_
 refine .nil ?_
 refine .yes rfl ?_
 refine .seq (.region ?_)
 refine .pu .mv ?_
 refine .pu .mv ?_
 refine .pu (.ix (c := c) rfl) ?_
 refine .call (count_prim _ _ s c) ?_; rintro _ L P ⟨rfl, rfl, rfl⟩
 refine .pu .as ?_
 refine .nil ?_
 refine .ret ?_
 exact ⟨_, .tmp rfl .nil, _, _, .refl _ _, rfl, rfl, rfl⟩
abbrev sv (l : List Bs) : List (List Value) := l.map fun x => [S x]
theorem sv_len (l : List Bs) : (sv l).length = l.length := List.length_map ..
theorem sv_set {l : List Bs} {n : Nat} {x : Bs} (h : l.length < n) : (sv l ++ List.replicate (n - l.length) [S []]).set l.length [S x] = sv (l ++ [x]) ++ List.replicate (n - (l ++ [x]).length) [S []] := by
 have e : n - l.length = (n - (l ++ [x]).length) + 1 := by rw [List.length_append]; simp; omega
 rw [e, List.replicate_succ, List.set_append_right _ _ (by rw [sv_len]; exact Nat.le_refl _), sv_len, Nat.sub_self, List.set_cons_zero]
 unfold sv
 rw [List.map_append, List.append_assoc]
 rfl
theorem sv_get {l : List Bs} {n : Nat} (h : l.length < n) : (sv l ++ List.replicate (n - l.length) [S []])[l.length]? = some [S []] := by
 rw [List.getElem?_append_right (by rw [sv_len]; exact Nat.le_refl _), sv_len, Nat.sub_self, List.getElem?_replicate, if_pos (by omega)]
theorem spl_end {c : UInt8} {s t : Bs} {d : List Bs} (hp : spl c s = d ++ spl c t) (hspt : spl c t = [t]) (hlen : d.length + 1 = (spl c s).length) (hdn : d.length < (spl c s).length) : List.take (d.length + 1) ((sv d ++ List.replicate ((spl c s).length - d.length) [S []]).set d.length (S t).cells.toList) = sv (spl c s) := by
 show List.take (d.length + 1) ((sv d ++ List.replicate ((spl c s).length - d.length) [S []]).set d.length [S t]) = _
 rw [sv_set hdn, hp, hspt]
 refine List.take_append_of_le_length ?_ |>.trans ?_
 ·rw [sv_len, List.length_append]; exact Nat.le_refl _
 ·exact List.take_of_length_le (by rw [sv_len, List.length_append]; exact Nat.le_refl _)
theorem genSplit_sp (L P : List Asn) (s : Bs) (c : UInt8) (hl : s.length ≤ 10000000000) : Sp SEL 50 [S s, S [c], .int .i64 0, .int .i64 (-1)] L P (fun r L' P' => L' = Ow 1 r (sv (spl c s)) :: L ∧ P' = P) := by
 refine Sp.body (fn := Tryz.f50) (N := 65) (by kernel_rfl) (by kernel_rfl) rfl (by kernel_rfl) rfl ?_
 refine .seq (.region ?_)
 refine .pu .as ?_
 refine .nil ?_
 refine .seq (.seq (.region ?_))
 refine .pu .mv ?_
 refine .pu .cn ?_
 refine .nil ?_
 refine .no rfl ?_
 refine .skip ?_
 refine .seq (.seq (.region ?_))
 refine .pu .mv ?_
 refine .pu (.seq (q := false) (hq := by simp)) ?_
 refine .nil ?_
 refine .no rfl ?_
 refine .skip ?_
 refine .seq (.seq (.region ?_))
 refine .pu .mv ?_
 refine .pu .cy ?_
 refine .nil ?_
 refine .yes rfl ?_
 refine .region ?_
 refine .pu .mv ?_
 refine .pu .mv ?_
 refine .call (count_sp _ _ s c) ?_; rintro _ L P ⟨rfl, rfl, rfl⟩
 refine .pu (.add (hr := by have := cnt_spl c s; have := spl_len c s; omega)) ?_
 refine .pu .as ?_
 refine .nil ?_
 refine .seq (.region ?_)
 refine .pu .mv ?_
 refine .pu .mv ?_
 refine .pu .ls ?_
 refine .pu (.add (hr := by omega)) ?_
 refine .pu (.min (c := ((spl c s).length : Int)) (hc := by have := cnt_spl c s; have := spl_len c s; omega)) ?_
 refine .pu .as ?_
 refine .nil ?_
 refine .seq (.region ?_)
 refine .pu .mv ?_
 refine .mk (hn := by have := spl_len c s; refine ⟨by omega, ?_, by omega⟩; show ((spl c s).length : Int) * 16 ≤ _; omega) fun v31 => ?_
 refine .pu .as ?_
 refine .nil ?_
 refine .seq (.region ?_)
 refine .pu .mv ?_
 refine .pu (.sub (hr := by have := spl_len c s; omega)) ?_
 refine .pu .as ?_
 refine .nil ?_
 refine .seq (.region ?_)
 refine .pu .as ?_
 refine .nil ?_
 refine .seq (.block (W.loop (fun (p : List Bs × Bs) => spl c s = p.1 ++ spl c p.2 ∧ p.2.length ≤ s.length) (fun p => (spl c s).length - p.1.length) (fun p => [(0, S p.2), (1, S [c]), (2, .int .i64 0), (3, .int .i64 ((spl c s).length - 1)), (9, v31), (10, .int .i64 (p.1.length : Nat))]) (fun p => Ow 1 v31 (sv p.1 ++ List.replicate ((spl c s).length - p.1.length) [S []]) :: L) (fun _ => P) ([], s) ⟨rfl, Nat.le_refl _⟩ ⟨rfl, rfl, rfl, rfl, rfl, rfl, trivial⟩ (.refl _ _) (fun p hp => ?_)))
 obtain ⟨d, t⟩ := p
 dsimp only
 obtain ⟨hp, hts⟩ := hp
 have hc1 : List.length [c] = 1 := rfl
 have hp : spl c s = d ++ spl c t := hp
 have hts : t.length ≤ s.length := hts
 have hn : (spl c s).length = d.length + (spl c t).length := by rw [hp, List.length_append]
 have hn1 : 1 ≤ (spl c t).length := List.length_pos_iff.2 (spl_ne c t)
 have hsl := spl_len c s
 have hdn : d.length < (spl c s).length := by omega
 refine .seq (.seq (.region ?_))
 refine .pu .mv ?_
 refine .pu .mv ?_
 refine .pu .cmp ?_
 refine .nil ?_
 refine .ite rfl (fun h36 => ?_) (fun h36 => ?_)
 ·refine .skip ?_
  refine .block (.seq (.region ?_))
  refine .pu .mv ?_
  refine .pu .mv ?_
  have h36' : (d.length : Int) < (spl c s).length - 1 := of_decide_eq_true h36
  obtain ⟨a, r, hcut⟩ : ∃ a r, cut1 c t = (a, some r) := by
   rcases hcc : cut1 c t with ⟨a, _ | r⟩
   ·have e := spl_cut c t
    rw [hcc] at e
    rw [e, List.length_singleton] at hn
    omega
   ·exact ⟨a, r, rfl⟩
  have hta := cut_some hcut
  have hpos : posI c t = (a.length : Nat) := by unfold posI; rw [hcut]
  have htl : t.length = a.length + 1 + r.length := by rw [hta, List.length_append, List.length_cons]; omega
  have hspt : spl c t = a :: spl c r := by rw [spl_cut c t, hcut]
  refine .call (index_sp _ _ t c) ?_; rintro _ L P ⟨h39, rfl, rfl⟩
  rw [hpos] at h39
  subst h39
  refine .pu .as ?_
  refine .nil ?_
  refine .seq (.seq (.region ?_))
  refine .pu .mv ?_
  refine .pu .cn ?_
  refine .nil ?_
  refine .no rfl ?_
  refine .skip ?_
  refine .seq (.region ?_)
  refine .pu .mv ?_
  refine .pu .mv ?_
  refine .pu .mv ?_
  refine .pu .mv ?_
  refine .pu .mv ?_
  refine .pu .add ?_
  refine .pu (.sls (a := t) (p := 0) (q := a.length) rfl ⟨_, _, rfl, by omega, by omega, by omega⟩ rfl rfl (by omega)) ?_
  refine .lk (.ia (n := (d.length : Nat)) (hn := by rw [List.length_append, sv_len, List.length_replicate]; omega)) ?_
  refine .se (i := d.length) (sv_get hdn) ?_
  refine .nil ?_
  refine .seq (.region ?_)
  refine .pu .mv ?_
  refine .pu .mv ?_
  refine .pu .mv ?_
  refine .pu .ls ?_
  refine .pu (.add (hr := by omega)) ?_
  refine .pu (.sls (a := t) (p := a.length + 1) (q := t.length) ⟨_, _, rfl, by omega, by omega, by omega⟩ rfl rfl rfl (by omega)) ?_
  refine .pu .as ?_
  refine .nil ?_
  refine .region ?_
  refine .pu .mv ?_
  refine .pu .add ?_
  refine .pu .as ?_
  refine .nil ?_
  have e0 : (t.drop 0).take (a.length - 0) = a := by rw [hta]; simp
  have e1 : (t.drop (a.length + 1)).take (t.length - (a.length + 1)) = r := by
   rw [hta, List.drop_append, show a.length + 1 - a.length = 1 by omega, List.drop_of_length_le (by omega : a.length ≤ a.length + 1), List.nil_append]
   show List.take _ r = r
   exact List.take_of_length_le (by rw [List.length_append, List.length_cons]; omega)
  refine ⟨(d ++ [a], r), ⟨by rw [hp, hspt]; simp, by show r.length ≤ _; omega⟩, by show (spl c s).length - (d ++ [a]).length < (spl c s).length - d.length; rw [List.length_append, List.length_singleton]; omega, ?_, ?_⟩
  ·rw [e1]
   exact ⟨rfl, rfl, rfl, rfl, rfl, by show some (Value.int .i64 ((d.length : Int) + 1)) = some (Value.int .i64 (((d ++ [a]).length : Nat) : Int)); rw [List.length_append, List.length_singleton]; rfl, trivial⟩
  ·show Ent (Ow 1 v31 ((sv d ++ List.replicate ((spl c s).length - d.length) [S []]).set d.length [S ((t.drop 0).take (a.length - 0))]) :: L) P (Ow 1 v31 (sv (d ++ [a]) ++ List.replicate ((spl c s).length - (d ++ [a]).length) [S []]) :: L) P
   rw [e0, sv_set hdn]
   exact .refl _ _
 refine .exit ?_
 refine .seq (.region ?_)
 have h36' : ¬ (d.length : Int) < (spl c s).length - 1 := of_decide_eq_false h36
 have hlen : d.length + 1 = (spl c s).length := by omega
 have hspt : spl c t = [t] := by
  have h1 : (spl c t).length = 1 := by omega
  rw [spl_cut c t] at h1 ⊢
  rcases hcc : cut1 c t with ⟨a, _ | r⟩
  ·rw [cut_none hcc]
  ·rw [hcc] at h1
   have := List.length_pos_iff.2 (spl_ne c r)
   rw [List.length_cons] at h1
   omega
 refine .pu .mv ?_
 refine .pu .mv ?_
 refine .pu .mv ?_
 refine .lk (.ia (n := (d.length : Nat)) (hn := by rw [List.length_append, sv_len, List.length_replicate]; omega)) ?_
 refine .se (i := d.length) (sv_get hdn) ?_
 refine .nil ?_
 refine .seq (.region ?_)
 refine .pu .mv ?_
 refine .pu .mv ?_
 refine .pu (.add (hr := by omega)) ?_
 refine .sl (k := 1) (p := 0) (q := d.length + 1) (.o .l0) rfl (fun m hm => ⟨_, _, rfl, by omega, by rw [List.length_set, List.length_append, sv_len, List.length_replicate] at hm; omega, by omega⟩) ?_ (by rw [List.length_set, List.length_append, sv_len, List.length_replicate]; omega)
 refine .pu .as ?_
 refine .nil ?_
 refine .ret ?_
 exact ⟨_, .tmp rfl .nil, _, _, .owp (q := d.length + 1) (by rw [List.length_set, List.length_append, sv_len, List.length_replicate]; omega), by rw [spl_end hp hspt hlen hdn]; rfl, rfl⟩
theorem split_sp (L P : List Asn) (s : Bs) (c : UInt8) (hl : s.length ≤ 10000000000) : Sp SEL 33 [S s, S [c]] L P (fun r L' P' => L' = Ow 1 r (sv (spl c s)) :: L ∧ P' = P) := by
 refine Sp.body (fn := Tryz.f33) (N := 7) (by kernel_rfl) (by kernel_rfl) rfl (by kernel_rfl) rfl ?_
 refine .seq (.region ?_)
 refine .pu .as ?_
 refine .nil ?_
 refine .seq (.region ?_)
 refine .pu .mv ?_
 refine .pu .mv ?_
 refine .call (genSplit_sp _ _ s c hl) ?_; rintro _ _ _ ⟨rfl, rfl⟩
 refine .pu .as ?_
 refine .nil ?_
 refine .ret ?_
 exact ⟨_, .tmp rfl .nil, _, _, .refl _ _, rfl, rfl⟩
theorem pre_eq (s : Bs) (c : UInt8) : (decide ((([c] : Bs).length : Int) ≤ (s.length : Int)) && decide (s.take 1 = [c])) = decide (s.head? = some c) := by
 cases s with
 | nil => simp
 | cons x s =>
  simp
  omega
theorem drop_tail (s : Bs) : (s.drop 1).take (s.length - 1) = s.tail := by
 cases s with
 | nil => rfl
 | cons x s => simp
theorem hasPrefix_sp (L P : List Asn) (s : Bs) (c : UInt8) : Sp SEL 175 [S s, S [c]] L P (fun r L' P' => r = .bool (decide (s.head? = some c)) ∧ L' = L ∧ P' = P) := by
 refine Sp.body (fn := Tryz.f175) (N := 17) (by kernel_rfl) (by kernel_rfl) rfl (by kernel_rfl) rfl ?_
 refine .seq (.region ?_)
 refine .pu .as ?_
 refine .nil ?_
 refine .seq (.region ?_)
 refine .pu .mv ?_
 refine .pu .ls ?_
 refine .pu .mv ?_
 refine .pu .ls ?_
 refine .pu (.cmp (q := decide ((([c] : Bs).length : Int) ≤ (s.length : Int)))) ?_
 refine .pu .mv ?_
 refine .and 10 6 (decide (s.take 1 = [c])) (fun hq => ?_) ?_
 ·have h9 : (([c] : Bs).length : Int) ≤ (s.length : Int) := of_decide_eq_true hq
  refine .on (.pu .mv ?_)
  refine .on (.pu .mv ?_)
  refine .on (.pu .ls ?_)
  refine .on (.pu (.sls (a := s) (p := 0) (q := 1) rfl ⟨_, _, rfl, by omega, by omega, rfl⟩ rfl rfl (by have : ([c] : Bs).length = 1 := rfl; omega)) ?_)
  refine .on (.pu .mv ?_)
  refine .on (.pu (.seq (a := s.take 1) (q := decide (s.take 1 = [c]))) ?_)
  exact .fin rfl
 refine .pu .as ?_
 refine .nil ?_
 refine .ret ?_
 exact ⟨_, .tmp rfl .nil, _, _, .refl _ _, by rw [pre_eq]; rfl, rfl, rfl⟩
theorem slCutPrefix_sp (L P : List Asn) (s : Bs) (c : UInt8) : Sp SEL 363 [S s, S [c]] L P (fun r L' P' => r = .tuple #[S (if s.head? = some c then s.tail else s), .bool (decide (s.head? = some c))] ∧ L' = L ∧ P' = P) := by
 refine Sp.body (fn := Tryz.f363) (N := 14) (by kernel_rfl) (by kernel_rfl) rfl (by kernel_rfl) rfl ?_
 refine .seq (.region ?_)
 refine .pu .as ?_
 refine .pu .as ?_
 refine .nil ?_
 refine .seq (.seq (.region ?_))
 refine .pu .mv ?_
 refine .pu .mv ?_
 refine .call (hasPrefix_sp _ _ s c) ?_; rintro _ L P ⟨rfl, rfl, rfl⟩
 refine .pu .nt ?_
 refine .nil ?_
 refine .ite rfl (fun h9 => ?_) (fun h9 => ?_)
 ·refine .seq (.region ?_)
  refine .pu .mv ?_
  refine .pu .as ?_
  refine .pu .as ?_
  refine .nil ?_
  refine .ret ?_
  exact ⟨_, .tmp rfl (.tmp rfl .nil), _, _, .refl _ _, by rw [if_neg (by simpa using h9), decide_eq_false (by simpa using h9)]; rfl, rfl, rfl⟩
 refine .skip ?_
 refine .seq (.region ?_)
 refine .pu .mv ?_
 refine .pu .mv ?_
 refine .pu .ls ?_
 have hh : s.head? = some c := by simpa using h9
 have hpos : 1 ≤ s.length := by cases s with | nil => cases hh | cons x s => simp
 refine .pu (.sls (a := s) (p := 1) (q := s.length) ⟨_, _, rfl, by omega, by have : ([c] : Bs).length = 1 := rfl; omega, rfl⟩ rfl rfl rfl (Nat.le_refl _)) ?_
 refine .pu .as ?_
 refine .pu .as ?_
 refine .nil ?_
 refine .ret ?_
 exact ⟨_, .tmp rfl (.tmp rfl .nil), _, _, .refl _ _, by rw [if_pos hh, decide_eq_true hh, drop_tail]; rfl, rfl, rfl⟩
theorem cutPrefix_sp (L P : List Asn) (s : Bs) (c : UInt8) : Sp SEL 254 [S s, S [c]] L P (fun r L' P' => r = .tuple #[S (if s.head? = some c then s.tail else s), .bool (decide (s.head? = some c))] ∧ L' = L ∧ P' = P) := by
 refine Sp.body (fn := Tryz.f254) (N := 10) (by kernel_rfl) (by kernel_rfl) rfl (by kernel_rfl) rfl ?_
 refine .seq (.region ?_)
 refine .pu .as ?_
 refine .pu .as ?_
 refine .nil ?_
 refine .seq (.region ?_)
 refine .pu .mv ?_
 refine .pu .mv ?_
 refine .call (slCutPrefix_sp _ _ s c) ?_; rintro _ L P ⟨rfl, rfl, rfl⟩
 refine .pu .ex ?_
 refine .pu .ex ?_
 refine .pu .as ?_
 refine .pu .as ?_
 refine .nil ?_
 refine .ret ?_
 exact ⟨_, .tmp rfl (.tmp rfl .nil), _, _, .refl _ _, rfl, rfl, rfl⟩
end Go.Cis
/- Paths: the program's way and the document's. -/
namespace Go.Cis
open Go Go.Ax Go.Lx Go.Proofs
set_option maxRecDepth 100000
theorem sv_at {l : List Bs} {i : Nat} (h : i < l.length) : (sv l)[i]? = some [S l[i]] := by
 unfold sv
 rw [List.getElem?_map, List.getElem?_eq_getElem h]
 rfl
theorem names_no {l : List Bs} {p : Nat} (h : p < l.length) (hc : (!nameOk l[p]) = true) : (!l.all nameOk) = true := by
 cases ha : l.all nameOk with
 | false => rfl
 | true =>
  have := List.all_eq_true.1 ha l[p] (List.getElem_mem h)
  rw [this] at hc
  cases hc
theorem names_yes {l : List Bs} {p : Nat} (h : p < l.length) (hall : (l.take p).all nameOk = true) (hc : (!nameOk l[p]) = false) : (l.take (p + 1)).all nameOk = true := by
 rw [List.take_succ_eq_append_getElem h, List.all_append, hall]
 simpa using hc
theorem names_end {l : List Bs} {p : Nat} (h : ¬ p < l.length) (hall : (l.take p).all nameOk = true) : l.all nameOk = true := by
 have : l.take p = l := List.take_of_length_le (by omega)
 rw [this] at hall
 exact hall
theorem right1_sp (L P : List Asn) (s : Bs) (hl : s.length ≤ 1000000000000) : Sp SEL 365 [S s] L P (fun r L' P' => r = .bool (!nameOk s) ∧ L' = L ∧ P' = P) := by
 refine Sp.body (fn := Tryz.f365) (N := 5) (by kernel_rfl) (by kernel_rfl) rfl (by kernel_rfl) rfl ?_
 refine .seq (.region ?_)
 refine .pu .as ?_
 refine .nil ?_
 refine .seq (.region ?_)
 refine .pu .mv ?_
 refine .call (name_sp _ _ s hl) ?_; rintro _ L P ⟨rfl, rfl, rfl⟩
 refine .pu .nt ?_
 refine .pu .as ?_
 refine .nil ?_
 refine .ret ?_
 exact ⟨_, .tmp rfl .nil, _, _, .refl _ _, rfl, rfl, rfl⟩
theorem idxFunc_sp (L P : List Asn) (v : Value) (l : List Bs) (hl : ∀ x ∈ l, x.length ≤ 1000000000000) (hn : l.length ≤ 1000000000000) (hv : IsSl 1 v (sv l) L P) : Sp SEL 438 [v, .func (.func 365) #[] #[]] L P (fun r L' P' => ∃ n : Int, r = .int .i64 n ∧ (decide (0 ≤ n) = !l.all nameOk) ∧ L' = L ∧ P' = P) := by
 refine Sp.body (fn := Tryz.f438) (N := 18) (by kernel_rfl) (by kernel_rfl) rfl (by kernel_rfl) rfl ?_
 refine .seq (.region ?_)
 refine .pu .as ?_
 refine .nil ?_
 refine .seq (.seq (.region ?_))
 refine .pu .mv ?_
 refine .lk .ln ?_
 refine .pu .mv ?_
 refine .nil ?_
 refine .block (W.loop (fun (p : Nat) => p ≤ l.length ∧ (l.take p).all nameOk = true) (fun p => l.length - p) (fun p => [(8, .int .i64 (p : Nat)), (7, .int .i64 (l.length : Nat)), (0, v), (1, .func (.func 365) #[] #[])]) (fun _ => L) (fun _ => P) 0 ⟨Nat.zero_le _, by simp⟩ ⟨rfl, by rw [← sv_len l]; rfl, rfl, rfl, trivial⟩ (.refl _ _) (fun p hp => ?_))
 obtain ⟨hp, hall⟩ := hp
 refine .seq (.region ?_)
 refine .pu .cmp ?_
 refine .nil ?_
 refine .seq (.ite rfl (fun h9 => ?_) (fun h9 => ?_))
 ·refine .skip ?_
  refine .seq (.block (.seq (.region ?_)))
  refine .pu .mv ?_
  refine .pu .as ?_
  refine .nil ?_
  refine .seq (.region ?_)
  refine .pu .mv ?_
  refine .pu .mv ?_
  refine .pu .mv ?_
  have hlt : p < l.length := by have := of_decide_eq_true h9; omega
  refine .lk (.ia (hn := by rw [sv_len]; omega)) ?_
  refine .le (sv_at hlt) ?_
  refine .call (right1_sp _ _ _ (hl _ (List.getElem_mem hlt))) ?_; rintro _ L P ⟨rfl, rfl, rfl⟩
  refine .nil ?_
  refine .ite rfl (fun h16 => ?_) (fun h16 => ?_)
  ·refine .seq (.region ?_)
   refine .pu .mv ?_
   refine .pu .as ?_
   refine .nil ?_
   refine .ret ?_
   exact ⟨_, .tmp rfl .nil, _, _, .refl _ _, ⟨(p : Nat), rfl, by rw [names_no hlt h16]; exact decide_eq_true (by omega), rfl, rfl⟩⟩
  refine .skip ?_
  refine .region ?_
  refine .pu .add ?_
  refine .pu .mv ?_
  refine .nil ?_
  refine ⟨p + 1, ⟨hlt, names_yes hlt hall h16⟩, by show l.length - (p + 1) < l.length - p; omega, ⟨rfl, rfl, rfl, rfl, trivial⟩, .refl _ _⟩
 refine .exit ?_
 refine .seq (.region ?_)
 refine .pu .as ?_
 refine .nil ?_
 refine .ret ?_
 exact ⟨_, .tmp rfl .nil, _, _, .refl _ _, ⟨-1, rfl, by rw [names_end (by have := of_decide_eq_false h9; omega) hall]; rfl, rfl, rfl⟩⟩
theorem contFunc_sp (L P : List Asn) (v : Value) (l : List Bs) (hl : ∀ x ∈ l, x.length ≤ 1000000000000) (hn : l.length ≤ 1000000000000) (hv : IsSl 1 v (sv l) L P) : Sp SEL 364 [v, .func (.func 365) #[] #[]] L P (fun r L' P' => r = .bool (!l.all nameOk) ∧ L' = L ∧ P' = P) := by
 refine Sp.body (fn := Tryz.f364) (N := 8) (by kernel_rfl) (by kernel_rfl) rfl (by kernel_rfl) rfl ?_
 refine .seq (.region ?_)
 refine .pu .as ?_
 refine .nil ?_
 refine .seq (.region ?_)
 refine .pu .mv ?_
 refine .pu .mv ?_
 refine .call (idxFunc_sp _ _ v l hl hn hv) ?_; rintro _ L P ⟨n, rfl, hn0, rfl, rfl⟩
 refine .pu (.cmp (q := decide (0 ≤ n))) ?_
 refine .pu .as ?_
 refine .nil ?_
 refine .ret ?_
 exact ⟨_, .tmp rfl .nil, _, _, .refl _ _, by rw [← hn0]; rfl, rfl, rfl⟩
theorem right_sp (L P : List Asn) (v : Value) (l : List Bs) (hl : ∀ x ∈ l, x.length ≤ 1000000000000) (hn : l.length ≤ 1000000000000) (hv : IsSl 1 v (sv l) L P) : Sp SEL 255 [v] L P (fun r L' P' => r = .bool (decide (l.length ≤ 10) && l.all nameOk) ∧ L' = L ∧ P' = P) := by
 refine Sp.body (fn := Tryz.f255) (N := 10) (by kernel_rfl) (by kernel_rfl) rfl (by kernel_rfl) rfl ?_
 refine .seq (.region ?_)
 refine .pu .as ?_
 refine .nil ?_
 refine .seq (.region ?_)
 refine .pu .mv ?_
 refine .lk .ln ?_
 refine .pu (.cmp (q := decide (((sv l).length : Int) ≤ 10))) ?_
 refine .pu .mv ?_
 refine .and 6 3 (l.all nameOk) (fun hq => ?_) ?_
 ·refine .on (.pu .mv ?_)
  refine .on ?_; refine .call (contFunc_sp _ _ v l hl hn hv) ?_; rintro _ L P ⟨rfl, rfl, rfl⟩
  refine .on (.pu (.nt) ?_)
  exact .fin (by rw [Bool.not_not]; rfl)
 refine .pu .as ?_
 refine .nil ?_
 refine .ret ?_
 exact ⟨_, .tmp rfl .nil, _, _, .refl _ _, by rw [sv_len, dec_eq (p := (l.length : Int) ≤ 10) (q := l.length ≤ 10) (by omega)]; rfl, rfl, rfl⟩
def pathOk (s : Bs) : Bool := decide (s = [47]) || (decide (s.head? = some 47) && (decide ((spl 47 s.tail).length ≤ 10) && (spl 47 s.tail).all nameOk))
theorem name_len {s : Bs} (h : nameOk s = true) : s.length ≤ 16 := by
 unfold nameOk at h
 simp only [Bool.and_eq_true, decide_eq_true_eq] at h
 exact h.1.1.1.2
theorem ntt {b : Bool} (h : (!b) = true) : b = false := by cases b <;> first | rfl | cases h
theorem ntf {b : Bool} (h : (!b) = false) : b = true := by cases b <;> first | rfl | cases h
def sumP : List Bs → Nat
 | [] => 0
 | x :: l => x.length + 1 + sumP l
theorem spl_sum (c : UInt8) : ∀ s : Bs, sumP (spl c s) = s.length + 1
 | [] => rfl
 | x :: s => by
  have ih := spl_sum c s
  rw [spl_cons]
  by_cases hx : x = c
  ·rw [if_pos hx]
   show 0 + 1 + sumP (spl c s) = _
   rw [ih, List.length_cons]; omega
  ·rw [if_neg hx]
   cases hs : spl c s with
   | nil => exact absurd hs (spl_ne c s)
   | cons w r =>
    rw [hs] at ih
    have ih : w.length + 1 + sumP r = s.length + 1 := ih
    show (x :: w).length + 1 + sumP r = _
    rw [List.length_cons, List.length_cons]; omega
theorem sum_le {l : List Bs} (h : l.all nameOk = true) : sumP l ≤ 17 * l.length := by
 induction l with
 | nil => exact Nat.le_refl _
 | cons x l ih =>
  rw [List.all_cons, Bool.and_eq_true] at h
  have := ih h.2
  have := name_len h.1
  show x.length + 1 + sumP l ≤ _
  rw [List.length_cons]; omega
theorem path_len {s : Bs} (h : s.head? = some 47) (h2 : (spl 47 s.tail).length ≤ 10) (h3 : (spl 47 s.tail).all nameOk = true) : s.length ≤ 200 := by
 have h4 := spl_sum 47 s.tail
 have := sum_le h3
 cases s with
 | nil => cases h
 | cons x s => rw [List.length_cons]; simp only [List.tail_cons] at *; omega
theorem path_one {s : Bs} (h : decide (s = [47]) = true) : pathOk s = true := by
 unfold pathOk
 rw [h]; rfl
theorem path_bad {s : Bs} (h : ¬ s = [47]) (h2 : ((!decide (s.head? = some 47)) || decide ((200 : Int) < (s.length : Int))) = true) : pathOk s = false := by
 unfold pathOk
 rw [decide_eq_false h, Bool.false_or]
 by_cases hh : s.head? = some 47
 ·rw [decide_eq_true hh]
  rw [decide_eq_true hh] at h2
  have h3 : (200 : Int) < s.length := by simpa using h2
  rw [Bool.true_and]
  cases hb : (decide ((spl 47 s.tail).length ≤ 10) && (spl 47 s.tail).all nameOk) with
  | false => rfl
  | true =>
   simp only [Bool.and_eq_true, decide_eq_true_eq] at hb
   have := path_len hh hb.1 hb.2
   omega
 ·rw [decide_eq_false hh]; rfl
theorem path_rest {s : Bs} (h : ¬ s = [47]) (h2 : ¬ ((!decide (s.head? = some 47)) || decide ((200 : Int) < (s.length : Int))) = true) : s.head? = some 47 ∧ pathOk s = (decide ((spl 47 s.tail).length ≤ 10) && (spl 47 s.tail).all nameOk) := by
 have hh : s.head? = some 47 := by
  cases hd : decide (s.head? = some 47) with
  | true => exact of_decide_eq_true hd
  | false => rw [hd] at h2; exact absurd rfl h2
 refine ⟨hh, ?_⟩
 unfold pathOk
 rw [decide_eq_false h, decide_eq_true hh, Bool.false_or, Bool.true_and]
theorem spl_part {c : UInt8} {s : Bs} {n : Nat} (h : s.length ≤ n) : (∀ x ∈ spl c s, x.length ≤ n) ∧ (spl c s).length ≤ n + 1 := by
 refine ⟨fun x hx => ?_, Nat.le_trans (spl_len c s) (by omega)⟩
 have h1 := spl_sum c s
 have key : ∀ l : List Bs, x ∈ l → x.length + 1 ≤ sumP l := by
  intro l
  induction l with
  | nil => intro h; cases h
  | cons y l ih =>
   intro h
   show _ ≤ y.length + 1 + sumP l
   rcases List.mem_cons.1 h with rfl | h
   ·omega
   ·have := ih h; omega
 have := key _ hx
 omega
theorem parse_sp (L P : List Asn) (s : Bs) (hl : s.length ≤ 10000000000) : Sp SEL 154 [S s] L P (fun r L' P' => ∃ (v : Value) (e : Int), r = .tuple #[v, .int .i64 e] ∧ decide (e = 0) = pathOk s ∧ L' = L ∧ P' = P) := by
 refine Sp.body (fn := Tryz.f154) (N := 26) (by kernel_rfl) (by kernel_rfl) rfl (by kernel_rfl) rfl ?_
 refine .seq (.region ?_)
 refine .pu .as ?_
 refine .pu .as ?_
 refine .nil ?_
 refine .seq (.seq (.region ?_))
 refine .pu .mv ?_
 refine .pu (.seq (q := decide (s = [47]))) ?_
 refine .nil ?_
 refine .ite rfl (fun h8 => ?_) (fun h8 => ?_)
 ·refine .seq (.region ?_)
  refine .pu .as ?_
  refine .pu .as ?_
  refine .nil ?_
  refine .ret ?_
  exact ⟨_, .tmp rfl (.tmp rfl .nil), _, _, .refl _ _, ⟨_, 0, rfl, by rw [path_one h8]; rfl, rfl, rfl⟩⟩
 refine .skip ?_
 refine .seq (.region ?_)
 refine .pu .mv ?_
 refine .call (cutPrefix_sp _ _ s 47) ?_; rintro _ L P ⟨rfl, rfl, rfl⟩
 refine .pu .mv ?_
 refine .pu .ex ?_
 refine .pu .ex ?_
 refine .pu .as ?_
 refine .pu .as ?_
 refine .nil ?_
 refine .seq (.seq (.region ?_))
 refine .pu .mv ?_
 refine .pu .nt ?_
 refine .pu .mv ?_
 refine .or 16 3 (decide ((200 : Int) < (s.length : Int))) (fun hq => ?_) ?_
 ·refine .on (.pu .mv ?_)
  refine .on (.pu .ls ?_)
  refine .on (.pu .cmp ?_)
  exact .fin rfl
 refine .nil ?_
 refine .ite rfl (fun h20 => ?_) (fun h20 => ?_)
 ·refine .seq (.region ?_)
  refine .pu .as ?_
  refine .pu .as ?_
  refine .nil ?_
  refine .ret ?_
  exact ⟨_, .tmp rfl (.tmp rfl .nil), _, _, .refl _ _, ⟨_, 6, rfl, by rw [path_bad (of_decide_eq_false h8) h20]; rfl, rfl, rfl⟩⟩
 refine .skip ?_
 refine .seq (.region ?_)
 obtain ⟨hhd, hpk⟩ := path_rest (of_decide_eq_false h8) (by rw [h20]; simp)
 have htl : s.tail.length ≤ 10000000000 := by rw [List.length_tail]; omega
 obtain ⟨hsp1, hsp2⟩ := spl_part (c := 47) htl
 rw [if_pos hhd]
 refine .pu .mv ?_
 refine .call (split_sp _ _ s.tail 47 htl) ?_; rintro _ _ _ ⟨rfl, rfl⟩
 refine .pu .as ?_
 refine .nil ?_
 refine .seq (.seq (.region ?_))
 refine .pu .mv ?_
 refine .call (right_sp _ _ _ (spl 47 s.tail) (fun x hx => Nat.le_trans (hsp1 x hx) (by decide)) (Nat.le_trans hsp2 (by decide)) (.o .l0)) ?_; rintro _ L P ⟨rfl, rfl, rfl⟩
 refine .pu .nt ?_
 refine .nil ?_
 refine .ite rfl (fun h25 => ?_) (fun h25 => ?_)
 ·refine .seq (.region ?_)
  refine .pu .as ?_
  refine .pu .as ?_
  refine .nil ?_
  refine .ret ?_
  exact ⟨_, .tmp rfl (.tmp rfl .nil), _, _, .d1, ⟨_, 6, rfl, by rw [hpk, ntt h25]; rfl, rfl, rfl⟩⟩
 refine .skip ?_
 refine .seq (.region ?_)
 refine .pu .mv ?_
 refine .pu .as ?_
 refine .pu .as ?_
 refine .nil ?_
 refine .ret ?_
 exact ⟨_, .tmp rfl (.tmp rfl .nil), _, _, .d1, ⟨_, 0, rfl, by rw [hpk, ntf h25]; rfl, rfl, rfl⟩⟩
theorem isPath_sp (L P : List Asn) (s : Bs) (hl : s.length ≤ 10000000000) : Sp SEL 88 [S s] L P (fun r L' P' => r = .bool (pathOk s) ∧ L' = L ∧ P' = P) := by
 refine Sp.body (fn := Tryz.f88) (N := 11) (by kernel_rfl) (by kernel_rfl) rfl (by kernel_rfl) rfl ?_
 refine .seq (.region ?_)
 refine .pu .as ?_
 refine .nil ?_
 refine .seq (.region ?_)
 refine .pu .mv ?_
 refine .call (parse_sp _ _ s hl) ?_; rintro _ L P ⟨v7, e7, rfl, he7, rfl, rfl⟩
 refine .pu .mv ?_
 refine .pu .ex ?_
 refine .pu .ex ?_
 refine .pu .as ?_
 refine .pu .as ?_
 refine .nil ?_
 refine .seq (.region ?_)
 refine .pu .mv ?_
 refine .pu (.cmp (q := decide (e7 = 0))) ?_
 refine .pu .as ?_
 refine .nil ?_
 refine .ret ?_
 exact ⟨_, .tmp rfl .nil, _, _, .refl _ _, by rw [he7]; rfl, rfl, rfl⟩
theorem getD_some {s : Bs} {i : Nat} (h : i < s.length) : s[((i : Nat) : Int).toNat]? = some (s.getD i 0) := by
 rw [List.getD_eq_getElem?_getD, Int.toNat_natCast, List.getElem?_eq_getElem h]
 rfl
end Go.Cis
/- Words of bytes and of numbers, read. -/
namespace Go.Cis
open Go Go.Ax Go.Lx Go.Proofs
set_option maxRecDepth 100000
def hv (c : UInt8) : Int := posI c hexT
theorem hv_fin : ∀ n : Fin 256, hv (UInt8.ofNat n.val) = if 48 ≤ n.val ∧ n.val ≤ 57 then (n.val : Int) - 48 else if 97 ≤ n.val ∧ n.val ≤ 102 then (n.val : Int) - 97 + 10 else -1 := by decide +kernel
theorem hv_eq (c : UInt8) : hv c = if 48 ≤ c.toNat ∧ c.toNat ≤ 57 then (c.toNat : Int) - 48 else if 97 ≤ c.toNat ∧ c.toNat ≤ 102 then (c.toNat : Int) - 97 + 10 else -1 := by
 have h := hv_fin ⟨c.toNat, c.toNat_lt⟩
 rw [show UInt8.ofNat c.toNat = c from UInt8.ofNat_toNat] at h
 exact h
theorem hv_nat {c : UInt8} (h : ¬ hv c < 0) : ∃ n : Nat, hv c = n ∧ n < 16 := by
 have e := hv_eq c
 refine ⟨(hv c).toNat, by omega, ?_⟩
 split at e
 ·omega
 ·split at e <;> omega
def unhex : Bs → Option Bs
 | [] => some []
 | [_] => none
 | x :: y :: s => if hv x < 0 ∨ hv y < 0 then none else (unhex s).map fun t => UInt8.ofNat (16 * (hv x).toNat + (hv y).toNat) :: t
def bytesOf (w : Bs) : Option Bs := if w = [45] then some [] else if w = [] then none else unhex w
theorem unhex_step {w : Bs} {k : Nat} (h : 2 * k + 1 < w.length) : unhex (w.drop (2 * k)) = if hv (w.getD (2 * k) 0) < 0 ∨ hv (w.getD (2 * k + 1) 0) < 0 then none else (unhex (w.drop (2 * (k + 1)))).map fun t => UInt8.ofNat (16 * (hv (w.getD (2 * k) 0)).toNat + (hv (w.getD (2 * k + 1) 0)).toNat) :: t := by
 have e : w.drop (2 * k) = w.getD (2 * k) 0 :: w.getD (2 * k + 1) 0 :: w.drop (2 * (k + 1)) := by
  rw [List.drop_eq_getElem_cons (by omega), List.drop_eq_getElem_cons (by omega), List.getD_eq_getElem?_getD, List.getD_eq_getElem?_getD, List.getElem?_eq_getElem (by omega), List.getElem?_eq_getElem (by omega)]
  rfl
 rw [e]
 rfl
theorem lor_fin : ∀ a b : Fin 16, Nat.lor (a.val * 16) b.val = 16 * a.val + b.val := by decide +kernel
theorem lor16 {a b : Nat} (ha : a < 16) (hb : b < 16) : Nat.lor (a * 16) b = 16 * a + b := lor_fin ⟨a, ha⟩ ⟨b, hb⟩
theorem byL_snoc (b : Bs) {m : Nat} (h : m < 256) : byL b ++ [[Value.int .u8 (m : Nat)]] = byL (b ++ [UInt8.ofNat m]) := by
 rw [byL_append]
 congr 1
 show [[Value.int .u8 (m : Nat)]] = [[Value.int .u8 ((UInt8.ofNat m).toNat : Nat)]]
 rw [UInt8.toNat_ofNat', Nat.mod_eq_of_lt (by omega)]
theorem getD_next {w : Bs} {k : Nat} (h : 2 * k + 1 < w.length) : w[(((2 * k : Nat) : Int) + 1).toNat]? = some (w.getD (2 * k + 1) 0) := by
 rw [show (((2 * k : Nat) : Int) + 1) = ((2 * k + 1 : Nat) : Int) by omega]
 exact getD_some h
theorem bytes_un {w : Bs} (h9 : decide (w = [45]) = false) : bytesOf w = if w = [] then none else unhex w := by
 unfold bytesOf
 rw [if_neg (of_decide_eq_false h9)]
theorem unhex_bad {w b : Bs} {k : Nat} (h9 : decide (w = [45]) = false) (hk : 2 * k ≤ w.length) (hun : unhex w = (unhex (w.drop (2 * k))).map (b ++ ·)) (hlt : 2 * k + 1 < w.length) (h : (decide (hv (w.getD (2 * k) 0) < 0) || decide (hv (w.getD (2 * k + 1) 0) < 0)) = true) : bytesOf w = none := by
 have hw : w ≠ [] := fun e => by subst e; cases hlt
 rw [bytes_un h9, if_neg hw, hun, unhex_step hlt, if_pos (by simpa using h)]
 rfl
theorem none_at {w b : Bs} (h : bytesOf w = none) : ∀ x, bytesOf w = some x → x = b := fun x hx => by rw [h] at hx; cases hx
theorem hv_two {x y : UInt8} (h : (decide (hv x < 0) || decide (hv y < 0)) = false) : ∃ n1 : Nat, hv x = n1 ∧ n1 < 16 ∧ ∃ n2 : Nat, hv y = n2 ∧ n2 < 16 := by
 rw [Bool.or_eq_false_iff, decide_eq_false_iff_not, decide_eq_false_iff_not] at h
 obtain ⟨n1, h1, h2⟩ := hv_nat h.1
 obtain ⟨n2, h3, h4⟩ := hv_nat h.2
 exact ⟨n1, h1, h2, n2, h3, h4⟩
theorem unhex_go {w b : Bs} {k n1 n2 : Nat} (hun : unhex w = (unhex (w.drop (2 * k))).map (b ++ ·)) (hlt : 2 * k + 1 < w.length) (h : (decide (hv (w.getD (2 * k) 0) < 0) || decide (hv (w.getD (2 * k + 1) 0) < 0)) = false) (e1 : hv (w.getD (2 * k) 0) = n1) (e2 : hv (w.getD (2 * k + 1) 0) = n2) : unhex w = (unhex (w.drop (2 * (k + 1)))).map ((b ++ [UInt8.ofNat (16 * n1 + n2)]) ++ ·) := by
 rw [hun, unhex_step hlt, if_neg (by simpa using h), e1, e2, Option.map_map]
 congr 1
 funext t
 simp
theorem unhex_is {w b : Bs} {k : Nat} (h9 : decide (w = [45]) = false) (hk : 2 * k ≤ w.length) (hbl : b.length = k) (hun : unhex w = (unhex (w.drop (2 * k))).map (b ++ ·)) (hge : w.length ≤ 2 * k + 1) : (bytesOf w).isSome = (decide (w ≠ []) && decide (w.length % 2 = 0)) := by
 rw [bytes_un h9]
 by_cases hw : w = []
 ·rw [if_pos hw, decide_eq_false (fun h => h hw)]; rfl
 ·rw [if_neg hw, decide_eq_true hw, hun]
  by_cases h2 : w.length = 2 * k
  ·rw [List.drop_of_length_le (by omega), decide_eq_true (by omega)]; rfl
  ·have h3 : (w.drop (2 * k)).length = 1 := by rw [List.length_drop]; omega
   obtain ⟨x, hx⟩ := List.length_eq_one_iff.1 h3
   rw [hx, decide_eq_false (by omega)]
   rfl
theorem unhex_at {w b : Bs} {k : Nat} (h9 : decide (w = [45]) = false) (hk : 2 * k ≤ w.length) (hbl : b.length = k) (hun : unhex w = (unhex (w.drop (2 * k))).map (b ++ ·)) (hge : w.length ≤ 2 * k + 1) : ∀ x, bytesOf w = some x → x = b := by
 intro x hx
 rw [bytes_un h9] at hx
 by_cases hw : w = []
 ·rw [if_pos hw] at hx; cases hx
 ·rw [if_neg hw, hun] at hx
  by_cases h2 : w.length = 2 * k
  ·rw [List.drop_of_length_le (by omega)] at hx
   cases hx
   simp
  ·have h3 : (w.drop (2 * k)).length = 1 := by rw [List.length_drop]; omega
   obtain ⟨y, hy⟩ := List.length_eq_one_iff.1 h3
   rw [hy] at hx
   cases hx
theorem hex_in_sp (L P : List Asn) (w : Bs) (hl : w.length ≤ 10000000000) : Sp SEL 59 [S w] L P (fun r L' P' => ∃ b : Bs, r = .tuple #[S b, .bool (bytesOf w).isSome] ∧ (∀ x, bytesOf w = some x → x = b) ∧ L' = L ∧ P' = P) := by
 refine Sp.body (fn := Tryz.f59) (N := 49) (by kernel_rfl) (by kernel_rfl) rfl (by kernel_rfl) rfl ?_
 refine .seq (.region ?_)
 refine .pu .as ?_
 refine .pu .as ?_
 refine .nil ?_
 refine .seq (.seq (.region ?_))
 refine .pu .mv ?_
 refine .pu (.seq (q := decide (w = [45]))) ?_
 refine .nil ?_
 refine .ite rfl (fun h9 => ?_) (fun h9 => ?_)
 ·refine .seq (.region ?_)
  refine .pu .as ?_
  refine .pu .as ?_
  refine .nil ?_
  refine .ret ?_
  exact ⟨_, .tmp rfl (.tmp rfl .nil), _, _, .refl _ _, ⟨[], by unfold bytesOf; rw [if_pos (of_decide_eq_true h9)]; rfl, fun x hx => by unfold bytesOf at hx; rw [if_pos (of_decide_eq_true h9)] at hx; cases hx; rfl, rfl, rfl⟩⟩
 refine .skip ?_
 refine .seq (.region ?_)
 refine .pu .as ?_
 refine .nil ?_
 refine .seq (.seq (.region ?_))
 refine .pu .as ?_
 refine .nil ?_
 refine .block (W.loop (fun (p : Value × Nat × Bs) => 2 * p.2.1 ≤ w.length ∧ p.2.2.length = p.2.1 ∧ unhex w = (unhex (w.drop (2 * p.2.1))).map (p.2.2 ++ ·)) (fun p => w.length - 2 * p.2.1) (fun p => [(0, S w), (4, p.1), (5, .int .i64 ((2 * p.2.1 : Nat) : Int))]) (fun p => Ow 1 p.1 (byL p.2.2) :: L) (fun _ => P) (.slice none 0 0, 0, []) ⟨Nat.zero_le _, rfl, by simp⟩ ⟨rfl, rfl, rfl, trivial⟩ .none (fun p hp => ?_))
 obtain ⟨v, k, b⟩ := p
 dsimp only
 obtain ⟨hk, hbl, hun⟩ := hp
 have hk : 2 * k ≤ w.length := hk
 have hbl : b.length = k := hbl
 have hun : unhex w = (unhex (w.drop (2 * k))).map (b ++ ·) := hun
 refine .seq (.seq (.region ?_))
 refine .pu .mv ?_
 refine .pu .add ?_
 refine .pu .mv ?_
 refine .pu .ls ?_
 refine .pu (.cmp (q := decide (((2 * k : Nat) : Int) + 1 < (w.length : Int)))) ?_
 refine .nil ?_
 refine .ite rfl (fun h14 => ?_) (fun h14 => ?_)
 ·refine .skip ?_
  refine .seq (.block (.seq (.drawn (by kernel_rfl) fun base => ?_)))
  refine .pu .mv ?_
  refine .pu .mv ?_
  have hlt : 2 * k + 1 < w.length := by have := of_decide_eq_true h14; omega
  refine .pu (.ix (c := w.getD (2 * k) 0) (getD_some (by omega))) ?_
  refine .call (indexByte_sp _ _ hexT _) ?_; rintro _ L P ⟨rfl, rfl, rfl⟩
  refine .pu .mv ?_
  refine .pu .mv ?_
  refine .pu .add ?_
  refine .pu (.ix (c := w.getD (2 * k + 1) 0) (n := ((2 * k : Nat) : Int) + 1) (getD_next hlt)) ?_
  refine .call (indexByte_sp _ _ hexT _) ?_; rintro _ L P ⟨rfl, rfl, rfl⟩
  refine .pu .as ?_
  refine .pu .as ?_
  refine .nil .nil ?_
  refine .seq (.seq (.region ?_))
  refine .pu .mv ?_
  refine .pu (.cmp (q := decide (hv (w.getD (2 * k) 0) < 0))) ?_
  refine .pu .mv ?_
  refine .or 28 2 (decide (hv (w.getD (2 * k + 1) 0) < 0)) (fun hq => ?_) ?_
  ·refine .on (.pu .mv ?_)
   refine .on (.pu .cmp ?_)
   exact .fin rfl
  refine .nil ?_
  refine .ite rfl (fun h31 => ?_) (fun h31 => ?_)
  ·refine .seq (.region ?_)
   refine .pu .as ?_
   refine .pu .as ?_
   refine .nil ?_
   refine .ret ?_
   exact ⟨_, .tmp rfl (.tmp rfl .nil), _, _, .d1, ⟨[], by rw [unhex_bad h9 hk hun hlt h31]; rfl, none_at (unhex_bad h9 hk hun hlt h31), rfl, rfl⟩⟩
  refine .skip ?_
  refine .region ?_
  refine .pu .mv ?_
  refine .pu .mv ?_
  obtain ⟨n1, e1, l1, n2, e2, l2⟩ := hv_two h31
  rw [show posI (w.getD (2 * k) 0) hexT = n1 from e1, show posI (w.getD (2 * k + 1) 0) hexT = n2 from e2]
  refine .pu (.i_shl (n := 4) (a := (n1 : Int))) ?_
  rw [show (n1 : Int) * ((2 ^ 4 : Nat) : Int) = ((n1 * 16 : Nat) : Int) by omega]
  refine .pu .mv ?_
  refine .pu (.i_or (a := n1 * 16) (b := n2) (hr := by rw [lor16 l1 l2]; simp only [InR]; omega)) ?_
  rw [lor16 l1 l2]
  refine .pu (.ci (hv := by simp only [InR]; omega)) ?_
  refine .bl (k := 1) (es := [[_]]) fun v38 => ?_
  refine .ap (fun v39 => ?_) (hn := by rw [byL_len, hbl]; simp only [List.length_cons, List.length_nil]; omega)
  refine .pu .as ?_
  refine .nil ?_
  refine .region ?_
  refine .pu .mv ?_
  refine .pu (.add (hr := by omega)) ?_
  refine .pu .as ?_
  refine .nil ?_
  refine ⟨(v39, k + 1, b ++ [UInt8.ofNat (16 * n1 + n2)]), ⟨by show 2 * (k + 1) ≤ w.length; omega, by show (b ++ [_]).length = k + 1; rw [List.length_append, hbl]; rfl, ?_⟩, by show w.length - 2 * (k + 1) < w.length - 2 * k; omega, ⟨rfl, rfl, by show some (Value.int .i64 (((2 * k : Nat) : Int) + 2)) = some (Value.int .i64 ((2 * (k + 1) : Nat) : Int)); rw [show ((2 * k : Nat) : Int) + 2 = ((2 * (k + 1) : Nat) : Int) by omega], trivial⟩, ?_⟩
  ·exact unhex_go hun hlt h31 e1 e2
  ·show Ent _ _ (Ow 1 v39 (byL (b ++ [UInt8.ofNat (16 * n1 + n2)])) :: L) _
   rw [← byL_snoc b (by omega)]
   exact .take .z .d1
 refine .exit ?_
 refine .seq (.region ?_)
 refine .pu .mv ?_
 have hge : w.length ≤ 2 * k + 1 := by have := of_decide_eq_false h14; omega
 refine .cs (.o .l0) ?_
 refine .pu .mv ?_
 refine .pu (.sne (q := decide (w ≠ []))) ?_
 refine .pu .mv ?_
 refine .and 44 4 (decide (w.length % 2 = 0)) (fun hq => ?_) ?_
 ·refine .on (.pu .mv ?_)
  refine .on (.pu .ls ?_)
  refine .on (.pu (.i_rem (b := 2)) ?_)
  refine .on (.pu (.cmp (q := decide (((w.length % 2 : Nat) : Int) = 0))) ?_)
  exact .fin (by rw [dec_eq (p := ((w.length % 2 : Nat) : Int) = 0) (q := w.length % 2 = 0) (by omega)]; rfl)
 refine .pu .as ?_
 refine .pu .as ?_
 refine .nil ?_
 refine .ret ?_
 exact ⟨_, .tmp rfl (.tmp rfl .nil), _, _, .d1, ⟨b, by rw [unhex_is h9 hk hbl hun hge]; rfl, unhex_at h9 hk hbl hun hge, rfl, rfl⟩⟩
end Go.Cis
/- Words of numbers, read: the program's way and the document's. -/
namespace Go.Cis
open Go Go.Ax Go.Lx Go.Proofs
set_option maxRecDepth 100000
def dval (acc : Nat) : Bs → Option Nat
 | [] => some acc
 | c :: r => if 48 ≤ c.toNat ∧ c.toNat ≤ 57 then dval (acc * 10 + (c.toNat - 48)) r else none
theorem dval_cons (acc : Nat) (c : UInt8) (r : Bs) : dval acc (c :: r) = if 48 ≤ c.toNat ∧ c.toNat ≤ 57 then dval (acc * 10 + (c.toNat - 48)) r else none := rfl
theorem dval_app : ∀ (a b : Bs) (acc : Nat), dval acc (a ++ b) = (dval acc a).bind fun n => dval n b
 | [], b, acc => rfl
 | c :: a, b, acc => by
  rw [List.cons_append, dval_cons, dval_cons]
  split
  ·exact dval_app a b _
  ·rfl
theorem dval_mono : ∀ {l : Bs} {acc u : Nat}, dval acc l = some u → acc ≤ u
 | [], acc, u, h => by cases h; exact Nat.le_refl _
 | c :: r, acc, u, h => by
  rw [dval_cons] at h
  split at h
  ·have := dval_mono h; omega
  ·cases h
theorem dig_nat {d : Nat} (h : d < 10) : (UInt8.ofNat (48 + d)).toNat = 48 + d := by rw [UInt8.toNat_ofNat', Nat.mod_eq_of_lt (by omega)]
theorem dval_dec (m : Nat) : dval 0 (Lib.decDigits m) = some m := by
 induction m using Nat.strongRecOn with
 | ind m ih =>
  by_cases hm : m < 10
  ·rw [dec_small hm, dval_cons, dig_nat hm, if_pos (by omega)]
   show some (0 * 10 + (48 + m - 48)) = _
   congr 1; omega
  ·rw [dec_big hm, dval_app, ih (m / 10) (by omega)]
   show dval (m / 10) [UInt8.ofNat (48 + m % 10)] = _
   rw [dval_cons, dig_nat (by omega), if_pos (by omega)]
   show some (m / 10 * 10 + (48 + m % 10 - 48)) = _
   congr 1; omega
theorem dec_ne (m : Nat) : Lib.decDigits m ≠ [] := by
 by_cases hm : m < 10
 ·rw [dec_small hm]; simp
 ·rw [dec_big hm]; simp
theorem dec_head (m : Nat) : ∃ c r, Lib.decDigits m = c :: r ∧ 48 ≤ c.toNat ∧ c.toNat ≤ 57 ∧ (r ≠ [] → c.toNat ≠ 48) := by
 induction m using Nat.strongRecOn with
 | ind m ih =>
  by_cases hm : m < 10
  ·exact ⟨_, [], dec_small hm, by rw [dig_nat hm]; omega, by rw [dig_nat hm]; omega, fun h => absurd rfl h⟩
  ·obtain ⟨c, r, h1, h2, h3, h4⟩ := ih (m / 10) (by omega)
   refine ⟨c, r ++ [UInt8.ofNat (48 + m % 10)], by rw [dec_big hm, h1]; rfl, h2, h3, fun _ => ?_⟩
   by_cases hm2 : m / 10 < 10
   ·rw [dec_small hm2] at h1
    cases h1
    rw [dig_nat hm2]
    omega
   ·refine h4 (fun e => ?_)
    subst e
    have := congrArg List.length h1
    rw [dec_big hm2, List.length_append, List.length_singleton, List.length_singleton] at this
    exact dec_ne (m / 10 / 10) (List.length_eq_zero_iff.1 (by omega))
theorem parse_dval : ∀ {l : Bs} {acc u : Nat}, dval acc l = some u → u < 18446744073709551616 → Lib.parseUint10 acc l = .ok u
 | [], acc, u, h, hu => by cases h; rfl
 | c :: r, acc, u, h, hu => by
  rw [dval_cons] at h
  unfold Lib.parseUint10
  split at h
  ·rename_i hd
   have hm := dval_mono h
   rw [if_pos hd, if_neg (by omega), if_neg (by omega)]
   exact parse_dval h hu
  ·cases h
theorem atoi_itoa {v : Int} (h1 : -4611686018427387904 ≤ v) (h2 : v ≤ 4611686018427387904) : Lib.atoiAll (Lib.itoa v) = .ok v := by
 have mag : ∀ m : Nat, m ≤ 4611686018427387904 → Lib.parseMag (Lib.decDigits m) = .ok m := fun m hm => by
  unfold Lib.parseMag
  rw [if_neg (dec_ne m)]
  exact parse_dval (dval_dec m) (by omega)
 unfold Lib.itoa
 by_cases hv : v < 0
 ·rw [if_pos hv]
  unfold Lib.atoiAll
  simp only
  have h45 : (45 : UInt8).toNat = 43 ∨ (45 : UInt8).toNat = 45 := .inr rfl
  rw [if_pos h45, mag _ (by omega)]
  simp only
  have h46 : (45 : UInt8).toNat = 45 := rfl
  rw [if_neg (fun h => h.1 h46), if_neg (by omega), if_pos h46]
  congr 1
  omega
 ·rw [if_neg hv]
  obtain ⟨c, r, h3, h4, h5, _⟩ := dec_head v.toNat
  rw [h3]
  unfold Lib.atoiAll
  simp only
  rw [if_neg (by omega), ← h3, mag _ (by omega)]
  simp only
  rw [if_neg (by omega), if_neg (by omega), if_neg (by omega)]
  congr 1
  omega
def numOf (w : Bs) : Option Int := match Lib.atoiAll w with
 | .ok v => if -4611686018427387904 ≤ v ∧ v ≤ 4611686018427387904 ∧ Lib.itoa v = w then some v else none
 | _ => none
theorem numOf_iff {w : Bs} {v : Int} : numOf w = some v ↔ -4611686018427387904 ≤ v ∧ v ≤ 4611686018427387904 ∧ Lib.itoa v = w := by
 constructor
 ·intro h
  unfold numOf at h
  split at h
  ·split at h
   ·cases h; assumption
   ·cases h
  ·cases h
 ·rintro ⟨h1, h2, h3⟩
  unfold numOf
  rw [← h3, atoi_itoa h1 h2]
  simp only
  rw [if_pos ⟨h1, h2, trivial⟩]
theorem atoi_sp (L P : List Asn) (s : Bs) (hl : s.length ≤ 10000000000) {e6 e7 : Value} (h6 : Ro 6 [e6] ∈ P) (h7 : Ro 7 [e7] ∈ P) (i6 : isIf e6 = true) (i7 : isIf e7 = true) :
  Sp SEL 155 [S s] L P (fun r L' P' => ∃ (n : Int) (v : Value) (b : Bool), r = .tuple #[.int .i64 n, v] ∧ ifB v = some b ∧ (b = true → Lib.atoiAll s = .ok n) ∧ (b = false → ∀ m, Lib.atoiAll s ≠ .ok m) ∧ L' = L ∧ P' = P) :=
 Sp.prim (p := atoiP 6 7 463) (by rfl) (fun S0 s0 hs => by
  have hsz : Nat.ble (⟨⟨s⟩⟩ : ByteArray).size small = true := Nat.ble_eq_true_of_le (by show s.length ≤ 1099511627776; omega)
  have er : rd s0 6 0 = some e6 := rd_ro (.p h6) hs rfl
  have er7 : rd s0 7 0 = some e7 := rd_ro (.p h7) hs rfl
  obtain ⟨g1, g2⟩ := hs.new (A := Any) (o := .dead) (fun _ _ => trivial)
  have g3 : Sat L P (fun k => S0 k ∨ k = s0.nx) (s0.new .dead) := ⟨g1.own.drop, g1.per, g1.ex, g1.fresh⟩
  cases ha : Lib.atoiAll s with
  | ok v =>
   refine ⟨.tuple #[.int .i64 v, .nilIface], s0, S0, L, P, ?_, .refl _ _, hs, v, .nilIface, true, rfl, rfl, fun _ => rfl, fun h => (by cases h), rfl, rfl⟩
   show (bif Nat.ble (⟨⟨s⟩⟩ : ByteArray).size small then _ else none) = _
   rw [hsz, cond_true, ha]
  | range =>
   refine ⟨_, _, _, L, P, ?_, g2, g3, Lib.atoiSat s, .iface 463 (.pointer (some ⟨s0.nx, 0, none⟩)), false, rfl, rfl, fun h => (by cases h), fun _ m h => (by cases h), rfl, rfl⟩
   show (bif Nat.ble (⟨⟨s⟩⟩ : ByteArray).size small then _ else none) = _
   rw [hsz, cond_true, ha]
   simp only
   rw [er7]
   simp only
   rw [i7]
   rfl
  | _ =>
   refine ⟨_, _, _, L, P, ?_, g2, g3, 0, .iface 463 (.pointer (some ⟨s0.nx, 0, none⟩)), false, rfl, rfl, fun h => (by cases h), fun _ m h => (by cases h), rfl, rfl⟩
   show (bif Nat.ble (⟨⟨s⟩⟩ : ByteArray).size small then _ else none) = _
   rw [hsz, cond_true, ha]
   simp only
   rw [er]
   simp only
   rw [i6]
   rfl)
theorem num_eq {s : Bs} {n : Int} {b : Bool} (h1 : b = true → Lib.atoiAll s = .ok n) (h2 : b = false → ∀ m, Lib.atoiAll s ≠ .ok m) : (((b && decide (-4611686018427387904 ≤ n)) && decide (n ≤ 4611686018427387904)) && decide (Lib.itoa n = s)) = (numOf s).isSome := by
 cases b with
 | true =>
  unfold numOf
  rw [h1 rfl]
  simp only
  split
  ·rename_i h
   rw [decide_eq_true h.1, decide_eq_true h.2.1, decide_eq_true h.2.2]; rfl
  ·rename_i h
   by_cases a1 : -4611686018427387904 ≤ n
   ·by_cases a2 : n ≤ 4611686018427387904
    ·have a3 : ¬ Lib.itoa n = s := fun a3 => h ⟨a1, a2, a3⟩
     rw [decide_eq_false a3]; simp
    ·rw [decide_eq_false a2]; simp
   ·rw [decide_eq_false a1]; simp
 | false =>
  have : numOf s = none := by
   unfold numOf
   split
   ·rename_i v hv; exact absurd hv (h2 rfl v)
   ·rfl
  rw [this]
  rfl
theorem num_at {s : Bs} {n : Int} {b : Bool} (h1 : b = true → Lib.atoiAll s = .ok n) (h2 : b = false → ∀ m, Lib.atoiAll s ≠ .ok m) : ∀ x, numOf s = some x → x = n := by
 intro x hx
 unfold numOf at hx
 cases b with
 | true =>
  rw [h1 rfl] at hx
  simp only at hx
  split at hx
  ·cases hx; rfl
  ·cases hx
 | false =>
  split at hx
  ·rename_i v hv; exact absurd hv (h2 rfl v)
  ·cases hx
theorem number_sp (L P : List Asn) (s : Bs) (hl : s.length ≤ 10000000000) {e6 e7 : Value} (h6 : Ro 6 [e6] ∈ P) (h7 : Ro 7 [e7] ∈ P) (i6 : isIf e6 = true) (i7 : isIf e7 = true) (hP : Ro 0 pow10V ∈ P) :
  Sp SEL 91 [S s] L P (fun r L' P' => ∃ n : Int, r = .tuple #[.int .i64 n, .bool (numOf s).isSome] ∧ (∀ x, numOf s = some x → x = n) ∧ L' = L ∧ P' = P) := by
 refine Sp.body (fn := Tryz.f91) (N := 27) (by kernel_rfl) (by kernel_rfl) rfl (by kernel_rfl) rfl ?_
 refine .seq (.region ?_)
 refine .pu .as ?_
 refine .pu .as ?_
 refine .nil ?_
 refine .seq (.region ?_)
 refine .pu .mv ?_
 refine .call (atoi_sp _ _ s hl h6 h7 i6 i7) ?_; rintro _ L P ⟨n, v5, b, rfl, hb, a1, a2, rfl, rfl⟩
 refine .pu .mv ?_
 refine .pu .ex ?_
 refine .pu .ex ?_
 refine .pu .as ?_
 refine .pu .as ?_
 refine .nil ?_
 refine .seq (.region ?_)
 refine .pu .mv ?_
 refine .pu .mv ?_
 refine .pu (.ieq hb) ?_
 refine .pu .mv ?_
 refine .and 14 2 (decide (-4611686018427387904 ≤ n)) (fun hq => ?_) ?_
 ·refine .on (.pu .mv ?_)
  refine .on (.pu .cmp ?_)
  exact .fin rfl
 refine .pu .mv ?_
 refine .and 18 2 (decide (n ≤ 4611686018427387904)) (fun hq => ?_) ?_
 ·refine .on (.pu .mv ?_)
  refine .on (.pu .cmp ?_)
  exact .fin rfl
 refine .pu .mv ?_
 refine .and 22 4 (decide (Lib.itoa n = s)) (fun hq => ?_) ?_
 ·have hq2 : -4611686018427387904 ≤ n ∧ n ≤ 4611686018427387904 := by simp only [Bool.and_eq_true, decide_eq_true_eq] at hq; exact ⟨hq.1.2, hq.2⟩
  refine .on (.pu .mv ?_)
  refine .on ?_; refine .call (itoa_sp _ _ n (by omega) (by omega) hP) ?_; rintro _ L P ⟨rfl, rfl, rfl⟩
  refine .on (.pu .mv ?_)
  refine .on (.pu (.seq (q := decide (Lib.itoa n = s))) ?_)
  exact .fin rfl
 refine .pu .as ?_
 refine .pu .as ?_
 refine .nil ?_
 refine .ret ?_
 exact ⟨_, .tmp rfl (.tmp rfl .nil), _, _, .refl _ _, ⟨n, by rw [num_eq a1 a2]; rfl, num_at a1 a2, rfl, rfl⟩⟩
end Go.Cis
