/- Decimal digits: their count. -/
import Derived.Test.YtcgpmbjoobilcaaGreatDoorLxC
import Derived.Test.YtcgpmbjoobilcaaGreatDoorSeatFin
import Derived.Lib.ItoaNum
import Derived.Lib.BitFns
import Derived.Test.YtcgpmbjoobilcaaGreatDoorLxD
import Derived.Lib.ItoaLen
set_option linter.unusedSimpArgs false
set_option linter.unusedVariables false
namespace Go.Cis
open Go Go.Ax Go.Lx Go.Proofs
set_option maxRecDepth 100000
theorem shr_n (a n : Nat) : Int.fdiv (a : Int) ((2 ^ n : Nat) : Int) = ((a / 2 ^ n : Nat) : Int) := by
 rw [Int.fdiv_eq_ediv_of_nonneg _ (Int.natCast_nonneg _)]
 rfl
abbrev tab8 : Bs := Lib.len8tab.data.toList
theorem tab8_fin : ∀ y : Fin 256, tab8[y.val]? = some (UInt8.ofNat (Lib.bitLen y.val)) := by decide +kernel
theorem tab8_at {y : Nat} (h : y < 256) : tab8[((y : Nat) : Int).toNat]? = some (UInt8.ofNat (Lib.bitLen y)) := tab8_fin ⟨y, h⟩
theorem len8_nat {y : Nat} (h : y < 256) : (UInt8.ofNat (Lib.bitLen y)).toNat = Lib.bitLen y := by
 have := Lib.bitLen_le y 8 (by omega) h
 simp
 omega
theorem len_fin {x r y : Nat} (hy : y < 256) (hr : Lib.bitLen x = r + Lib.bitLen y) : (r : Int) + ((UInt8.ofNat (Lib.bitLen y)).toNat : Int) = (Lib.bitLen x : Nat) := by
 rw [len8_nat hy, hr]
 omega
theorem u8_in (c : UInt8) : InR .i64 (c.toNat : Int) := by
 have := c.toNat_lt
 simp only [InR]
 omega
theorem add_in {r : Int} {c : UInt8} (h : 0 ≤ r ∧ r < 1000) : -9223372036854775808 ≤ r + (c.toNat : Int) ∧ r + (c.toNat : Int) < 9223372036854775808 := by
 have := c.toNat_lt
 omega
theorem len64_sp (L P : List Asn) (x : Nat) (hx : x < 18446744073709551616) : Sp SEL 158 [.int .u64 (x : Nat)] L P (fun r L' P' => r = .int .i64 (Lib.bitLen x : Nat) ∧ L' = L ∧ P' = P) := by
 refine Sp.body (fn := Tryz.f158) (N := 24) (by kernel_rfl) (by kernel_rfl) rfl (by kernel_rfl) rfl ?_
 refine .seq (.region ?_)
 refine .pu .as ?_
 refine .nil ?_
 refine .seq (.seq (.region ?_))
 refine .pu .mv ?_
 refine .pu .cmp ?_
 refine .nil ?_
 refine .ite rfl (fun h1 => ?_) (fun h1 => ?_)
 ·refine .seq (.region ?_)
  refine .pu .mv ?_
  refine .pu (.i_shr (hc := shr_n _ 32)) ?_
  refine .pu .as ?_
  refine .nil ?_
  refine .region ?_
  refine .pu .as ?_
  refine .nil ?_
  refine .seq (.seq (.region ?_))
  refine .pu .mv ?_
  refine .pu .cmp ?_
  refine .nil ?_
  refine .ite rfl (fun h2 => ?_) (fun h2 => ?_)
  ·refine .seq (.region ?_)
   refine .pu .mv ?_
   refine .pu (.i_shr (hc := shr_n _ 16)) ?_
   refine .pu .as ?_
   refine .nil ?_
   refine .region ?_
   refine .pu .mv ?_
   refine .pu .add ?_
   refine .pu .as ?_
   refine .nil ?_
   refine .seq (.seq (.region ?_))
   refine .pu .mv ?_
   refine .pu .cmp ?_
   refine .nil ?_
   refine .ite rfl (fun h3 => ?_) (fun h3 => ?_)
   ·refine .seq (.region ?_)
    refine .pu .mv ?_
    refine .pu (.i_shr (hc := shr_n _ 8)) ?_
    refine .pu .as ?_
    refine .nil ?_
    refine .region ?_
    refine .pu .mv ?_
    refine .pu .add ?_
    refine .pu .as ?_
    refine .nil ?_
    refine .seq (.region ?_)
    refine .pu .mv ?_
    refine .pu .mv ?_
    refine .pu (.ci (hv := by simp only [decide_eq_true_eq, decide_eq_false_iff_not] at h1 h2 h3; simp only [InR]; omega)) ?_
    refine .pu (.ix (a := tab8) (tab8_at (by simp only [decide_eq_true_eq, decide_eq_false_iff_not] at h1 h2 h3; omega)) rfl rfl) ?_
    refine .pu (.ci (hv := u8_in _)) ?_
    refine .pu (.add (hr := add_in (by omega))) ?_
    refine .pu .as ?_
    refine .nil ?_
    refine .ret ?_
    refine ⟨_, .tmp rfl .nil, _, _, .refl _ _, ?_, rfl, rfl⟩
    simp only [decide_eq_true_eq, decide_eq_false_iff_not] at h1 h2 h3
    exact congrArg (Value.int .i64) (len_fin (r := 56) (by omega) (Lib.bitLen_shift56 x (by omega) hx |>.trans (by rw [Nat.div_div_eq_div_mul, Nat.div_div_eq_div_mul])))
   refine .skip ?_
   refine .seq (.region ?_)
   refine .pu .mv ?_
   refine .pu .mv ?_
   refine .pu (.ci (hv := by simp only [decide_eq_true_eq, decide_eq_false_iff_not] at h1 h2 h3; simp only [InR]; omega)) ?_
   refine .pu (.ix (a := tab8) (tab8_at (by simp only [decide_eq_true_eq, decide_eq_false_iff_not] at h1 h2 h3; omega)) rfl rfl) ?_
   refine .pu (.ci (hv := u8_in _)) ?_
   refine .pu (.add (hr := add_in (by omega))) ?_
   refine .pu .as ?_
   refine .nil ?_
   refine .ret ?_
   refine ⟨_, .tmp rfl .nil, _, _, .refl _ _, ?_, rfl, rfl⟩
   simp only [decide_eq_true_eq, decide_eq_false_iff_not] at h1 h2 h3
   exact congrArg (Value.int .i64) (len_fin (r := 48) (by omega) (Lib.bitLen_shift48 x (by omega) hx |>.trans (by rw [Nat.div_div_eq_div_mul])))
  refine .skip ?_
  refine .seq (.seq (.region ?_))
  refine .pu .mv ?_
  refine .pu .cmp ?_
  refine .nil ?_
  refine .ite rfl (fun h3 => ?_) (fun h3 => ?_)
  ·refine .seq (.region ?_)
   refine .pu .mv ?_
   refine .pu (.i_shr (hc := shr_n _ 8)) ?_
   refine .pu .as ?_
   refine .nil ?_
   refine .region ?_
   refine .pu .mv ?_
   refine .pu .add ?_
   refine .pu .as ?_
   refine .nil ?_
   refine .seq (.region ?_)
   refine .pu .mv ?_
   refine .pu .mv ?_
   refine .pu (.ci (hv := by simp only [decide_eq_true_eq, decide_eq_false_iff_not] at h1 h2 h3; simp only [InR]; omega)) ?_
   refine .pu (.ix (a := tab8) (tab8_at (by simp only [decide_eq_true_eq, decide_eq_false_iff_not] at h1 h2 h3; omega)) rfl rfl) ?_
   refine .pu (.ci (hv := u8_in _)) ?_
   refine .pu (.add (hr := add_in (by omega))) ?_
   refine .pu .as ?_
   refine .nil ?_
   refine .ret ?_
   refine ⟨_, .tmp rfl .nil, _, _, .refl _ _, ?_, rfl, rfl⟩
   simp only [decide_eq_true_eq, decide_eq_false_iff_not] at h1 h2 h3
   exact congrArg (Value.int .i64) (len_fin (r := 40) (by omega) (Lib.bitLen_shift40 x (by omega) hx |>.trans (by rw [Nat.div_div_eq_div_mul])))
  refine .skip ?_
  refine .seq (.region ?_)
  refine .pu .mv ?_
  refine .pu .mv ?_
  refine .pu (.ci (hv := by simp only [decide_eq_true_eq, decide_eq_false_iff_not] at h1 h2 h3; simp only [InR]; omega)) ?_
  refine .pu (.ix (a := tab8) (tab8_at (by simp only [decide_eq_true_eq, decide_eq_false_iff_not] at h1 h2 h3; omega)) rfl rfl) ?_
  refine .pu (.ci (hv := u8_in _)) ?_
  refine .pu (.add (hr := add_in (by omega))) ?_
  refine .pu .as ?_
  refine .nil ?_
  refine .ret ?_
  refine ⟨_, .tmp rfl .nil, _, _, .refl _ _, ?_, rfl, rfl⟩
  simp only [decide_eq_true_eq, decide_eq_false_iff_not] at h1 h2 h3
  exact congrArg (Value.int .i64) (len_fin (r := 32) (by omega) (Lib.bitLen_shift32 x (by omega) hx))
 refine .skip ?_
 refine .seq (.seq (.region ?_))
 refine .pu .mv ?_
 refine .pu .cmp ?_
 refine .nil ?_
 refine .ite rfl (fun h2 => ?_) (fun h2 => ?_)
 ·refine .seq (.region ?_)
  refine .pu .mv ?_
  refine .pu (.i_shr (hc := shr_n _ 16)) ?_
  refine .pu .as ?_
  refine .nil ?_
  refine .region ?_
  refine .pu .mv ?_
  refine .pu .add ?_
  refine .pu .as ?_
  refine .nil ?_
  refine .seq (.seq (.region ?_))
  refine .pu .mv ?_
  refine .pu .cmp ?_
  refine .nil ?_
  refine .ite rfl (fun h3 => ?_) (fun h3 => ?_)
  ·refine .seq (.region ?_)
   refine .pu .mv ?_
   refine .pu (.i_shr (hc := shr_n _ 8)) ?_
   refine .pu .as ?_
   refine .nil ?_
   refine .region ?_
   refine .pu .mv ?_
   refine .pu .add ?_
   refine .pu .as ?_
   refine .nil ?_
   refine .seq (.region ?_)
   refine .pu .mv ?_
   refine .pu .mv ?_
   refine .pu (.ci (hv := by simp only [decide_eq_true_eq, decide_eq_false_iff_not] at h1 h2 h3; simp only [InR]; omega)) ?_
   refine .pu (.ix (a := tab8) (tab8_at (by simp only [decide_eq_true_eq, decide_eq_false_iff_not] at h1 h2 h3; omega)) rfl rfl) ?_
   refine .pu (.ci (hv := u8_in _)) ?_
   refine .pu (.add (hr := add_in (by omega))) ?_
   refine .pu .as ?_
   refine .nil ?_
   refine .ret ?_
   refine ⟨_, .tmp rfl .nil, _, _, .refl _ _, ?_, rfl, rfl⟩
   simp only [decide_eq_true_eq, decide_eq_false_iff_not] at h1 h2 h3
   exact congrArg (Value.int .i64) (len_fin (r := 24) (by omega) (Lib.bitLen_shift24 x (by omega) hx |>.trans (by rw [Nat.div_div_eq_div_mul])))
  refine .skip ?_
  refine .seq (.region ?_)
  refine .pu .mv ?_
  refine .pu .mv ?_
  refine .pu (.ci (hv := by simp only [decide_eq_true_eq, decide_eq_false_iff_not] at h1 h2 h3; simp only [InR]; omega)) ?_
  refine .pu (.ix (a := tab8) (tab8_at (by simp only [decide_eq_true_eq, decide_eq_false_iff_not] at h1 h2 h3; omega)) rfl rfl) ?_
  refine .pu (.ci (hv := u8_in _)) ?_
  refine .pu (.add (hr := add_in (by omega))) ?_
  refine .pu .as ?_
  refine .nil ?_
  refine .ret ?_
  refine ⟨_, .tmp rfl .nil, _, _, .refl _ _, ?_, rfl, rfl⟩
  simp only [decide_eq_true_eq, decide_eq_false_iff_not] at h1 h2 h3
  exact congrArg (Value.int .i64) (len_fin (r := 16) (by omega) (Lib.bitLen_shift16 x (by omega) hx))
 refine .skip ?_
 refine .seq (.seq (.region ?_))
 refine .pu .mv ?_
 refine .pu .cmp ?_
 refine .nil ?_
 refine .ite rfl (fun h3 => ?_) (fun h3 => ?_)
 ·refine .seq (.region ?_)
  refine .pu .mv ?_
  refine .pu (.i_shr (hc := shr_n _ 8)) ?_
  refine .pu .as ?_
  refine .nil ?_
  refine .region ?_
  refine .pu .mv ?_
  refine .pu .add ?_
  refine .pu .as ?_
  refine .nil ?_
  refine .seq (.region ?_)
  refine .pu .mv ?_
  refine .pu .mv ?_
  refine .pu (.ci (hv := by simp only [decide_eq_true_eq, decide_eq_false_iff_not] at h1 h2 h3; simp only [InR]; omega)) ?_
  refine .pu (.ix (a := tab8) (tab8_at (by simp only [decide_eq_true_eq, decide_eq_false_iff_not] at h1 h2 h3; omega)) rfl rfl) ?_
  refine .pu (.ci (hv := u8_in _)) ?_
  refine .pu (.add (hr := add_in (by omega))) ?_
  refine .pu .as ?_
  refine .nil ?_
  refine .ret ?_
  refine ⟨_, .tmp rfl .nil, _, _, .refl _ _, ?_, rfl, rfl⟩
  simp only [decide_eq_true_eq, decide_eq_false_iff_not] at h1 h2 h3
  exact congrArg (Value.int .i64) (len_fin (r := 8) (by omega) (Lib.bitLen_shift8 x (by omega) hx))
 refine .skip ?_
 refine .seq (.region ?_)
 refine .pu .mv ?_
 refine .pu .mv ?_
 refine .pu (.ci (hv := by simp only [decide_eq_true_eq, decide_eq_false_iff_not] at h1 h2 h3; simp only [InR]; omega)) ?_
 refine .pu (.ix (a := tab8) (tab8_at (by simp only [decide_eq_true_eq, decide_eq_false_iff_not] at h1 h2 h3; omega)) rfl rfl) ?_
 refine .pu (.ci (hv := u8_in _)) ?_
 refine .pu (.add (hr := add_in (by omega))) ?_
 refine .pu .as ?_
 refine .nil ?_
 refine .ret ?_
 refine ⟨_, .tmp rfl .nil, _, _, .refl _ _, ?_, rfl, rfl⟩
 simp only [decide_eq_true_eq, decide_eq_false_iff_not] at h1 h2 h3
 exact congrArg (Value.int .i64) (len_fin (r := 0) (by omega) ((Nat.zero_add _).symm))
theorem l10_shr (x : Nat) : Int.fdiv ((x : Int) * 78913) ((2 ^ 18 : Nat) : Int) = (Lib.l10 x : Nat) := by
 rw [Int.fdiv_eq_ediv_of_nonneg _ (Int.natCast_nonneg _)]
 unfold Lib.l10
 omega
theorem log10_sp (L P : List Asn) (x : Nat) (hx : x ≤ 64) : Sp SEL 157 [.int .i64 (x : Nat)] L P (fun r L' P' => r = .int .i64 (Lib.l10 x : Nat) ∧ L' = L ∧ P' = P) := by
 refine Sp.body (fn := Tryz.f157) (N := 5) (by kernel_rfl) (by kernel_rfl) rfl (by kernel_rfl) rfl ?_
 refine .seq (.region ?_)
 refine .pu .as ?_
 refine .nil ?_
 refine .seq (.region ?_)
 refine .pu .mv ?_
 refine .pu .mul ?_
 refine .pu (.i_shr (hc := l10_shr _)) ?_
 refine .pu .as ?_
 refine .nil ?_
 refine .ret ?_
 exact ⟨_, .tmp rfl .nil, _, _, .refl _ _, rfl, rfl, rfl⟩
theorem bool2_sp (L P : List Asn) (b : Bool) : Sp SEL 159 [.bool b] L P (fun r L' P' => r = .int .i64 (bif b then 1 else 0) ∧ L' = L ∧ P' = P) := by
 refine Sp.body (fn := Tryz.f159) (N := 3) (by kernel_rfl) (by kernel_rfl) rfl (by kernel_rfl) rfl ?_
 refine .seq (.region ?_)
 refine .pu .as ?_
 refine .nil ?_
 refine .seq (.seq (.region ?_))
 refine .pu .mv ?_
 refine .nil ?_
 refine .ite rfl (fun h => ?_) (fun h => ?_)
 ·refine .seq (.region ?_)
  refine .pu .as ?_
  refine .nil ?_
  refine .ret ?_
  exact ⟨_, .tmp rfl .nil, _, _, .refl _ _, by rw [h]; rfl, rfl, rfl⟩
 refine .skip ?_
 refine .seq (.region ?_)
 refine .pu .as ?_
 refine .nil ?_
 refine .ret ?_
 exact ⟨_, .tmp rfl .nil, _, _, .refl _ _, by rw [h]; rfl, rfl, rfl⟩
def pow10V : List Value := Lib.pow10Tab.map fun z => Value.int .u64 z
theorem pow10_at {q : Nat} (h : q < 20) : pow10V[0 + ((q : Nat) : Int).toNat * 1]? = some (.int .u64 ((10 ^ q : Nat) : Int)) := by
 have e : 0 + ((q : Nat) : Int).toNat * 1 = q := by omega
 rw [e]
 unfold pow10V Lib.pow10Tab
 rw [List.getElem?_map, List.getElem?_map, List.getElem?_range h]
 rfl
theorem add_bit {r : Int} {b : Bool} (h : 0 ≤ r ∧ r < 1000) : -9223372036854775808 ≤ r + (bif b then 1 else 0) ∧ r + (bif b then 1 else 0) < 9223372036854775808 := by
 cases b <;> simp only [cond_true, cond_false] <;> omega
theorem numDigits_sp (L P : List Asn) (u : Nat) (h1 : 1 ≤ u) (h2 : u < 18446744073709551616) (hP : Ro 0 pow10V ∈ P) : Sp SEL 95 [.int .u64 (u : Nat)] L P (fun r L' P' => r = .int .i64 (Lib.nDigits u : Nat) ∧ L' = L ∧ P' = P) := by
 obtain ⟨hnd, h19⟩ := Lib.numDigits_eq u h1 h2
 have hL : Lib.bitLen u ≤ 64 := Lib.bitLen_le u 64 (Nat.le_refl _) h2
 refine Sp.body (fn := Tryz.f95) (N := 14) (by kernel_rfl) (by kernel_rfl) rfl (by kernel_rfl) rfl ?_
 refine .seq (.region ?_)
 refine .pu .as ?_
 refine .nil ?_
 refine .seq (.region ?_)
 refine .pu .mv ?_
 refine .call (len64_sp _ _ _ h2) ?_; rintro _ L P ⟨rfl, rfl, rfl⟩
 refine .call (log10_sp _ _ _ hL) ?_; rintro _ L P ⟨rfl, rfl, rfl⟩
 refine .pu .as ?_
 refine .nil ?_
 refine .seq (.region ?_)
 refine .pu .mv ?_
 refine .pu .mv ?_
 refine .pu .mv ?_
 refine .pu .iaA ?_
 refine .lo .ro ⟨_, .p hP, pow10_at (by omega)⟩ ?_
 refine .pu .cmp ?_
 refine .call (bool2_sp _ _ _) ?_; rintro _ L P ⟨rfl, rfl, rfl⟩
 refine .pu (.add (hr := add_bit (by omega))) ?_
 refine .pu .as ?_
 refine .nil ?_
 refine .ret ?_
 refine ⟨_, .tmp rfl .nil, _, _, .refl _ _, ?_, rfl, rfl⟩
 refine congrArg (Value.int .i64) ?_
 rw [← hnd]
 by_cases hc : 10 ^ Lib.l10 (Lib.bitLen u) ≤ u
 ·rw [if_pos hc, decide_eq_true (by omega)]
  rfl
 ·rw [if_neg hc, decide_eq_false (by omega)]
  rfl
end Go.Cis
/- Decimal digits, written into a row. -/
namespace Go.Cis
open Go Go.Ax Go.Lx Go.Proofs
set_option maxRecDepth 100000
set_option maxHeartbeats 1000000
abbrev smB : Bs := Lib.smalls.data.toList
theorem sm_fin : ∀ x : Fin 100, smB[x.val * 2]? = some (UInt8.ofNat (48 + x.val / 10)) ∧ smB[x.val * 2 + 1]? = some (UInt8.ofNat (48 + x.val % 10)) := by decide +kernel
theorem sm0 {x : Nat} (h : x < 100) : smB[((x * 2 : Nat) : Int).toNat]? = some (UInt8.ofNat (48 + x / 10)) := (sm_fin ⟨x, h⟩).1
theorem sm1 {x : Nat} (h : x < 100) : smB[((x * 2 + 1 : Nat) : Int).toNat]? = some (UInt8.ofNat (48 + x % 10)) := (sm_fin ⟨x, h⟩).2
def dgV (u j : Nat) : Value := .int .u8 ((Lib.dg u j).toNat : Int)
structure Fmt (cs cs' : List Value) (o n u i : Nat) : Prop where
 len : cs'.length = cs.length
 yes : ∀ j, i ≤ j → j < n → cs'[o + j]? = some (dgV u (n - 1 - j))
 no : ∀ k, k < o + i ∨ o + n ≤ k → cs'[k]? = cs[k]?
theorem Fmt.init (cs : List Value) (o n u : Nat) : Fmt cs cs o n u n := ⟨rfl, fun j h1 h2 => by omega, fun _ _ => rfl⟩
theorem Fmt.put {cs cs' : List Value} {o n u i k : Nat} {x : Value} (hn : o + n ≤ cs.length) (hk : k = o + i) (hi : i < n) (hx : x = dgV u (n - 1 - i)) (h : Fmt cs cs' o n u (i + 1)) : Fmt cs (cs'.set k x) o n u i := by
 subst hk hx
 have hl := h.len
 refine ⟨by rw [List.length_set, hl], fun j h1 h2 => ?_, fun k hk => ?_⟩
 ·rw [List.getElem?_set]
  by_cases e : i = j
  ·subst e
   rw [if_pos rfl, if_pos (by omega)]
  ·rw [if_neg (by omega)]
   exact h.yes j (by omega) h2
 ·rw [List.getElem?_set, if_neg (by omega)]
  exact h.no k (by omega)
theorem dgv {u d m t j w : Nat} (hw : u / 10 ^ m = w) (hj : j = m + t) (hd : d = w / 10 ^ t % 10) : Value.int .u8 ((UInt8.ofNat (48 + d)).toNat : Int) = dgV u j := by
 subst hj hd
 unfold dgV Lib.dg
 rw [Nat.pow_add, ← Nat.div_div_eq_div_mul, hw]
theorem dgv0 {u d m t j w : Nat} (hw : u / 10 ^ m = w) (hj : j = m + t) (hd : d = w / 10 ^ t % 10) : Value.int .u8 ((48 + d : Nat) : Int) = dgV u j := by
 rw [← dgv hw hj hd]
 have : d < 10 := by omega
 have e : (UInt8.ofNat (48 + d)).toNat = 48 + d := by simp; omega
 rw [e]
theorem div_next {u w m k : Nat} (hw : u / 10 ^ m = w) : u / 10 ^ (m + k) = w / 10 ^ k := by
 rw [Nat.pow_add, ← Nat.div_div_eq_div_mul, hw]
theorem fmt10_sp (L P : List Asn) (b o n c z : Nat) (cs : List Value) (u : Nat) (hn : o + n ≤ cs.length) (hlen : cs.length ≤ 1099511627776) (hu : u < 10 ^ n) (hu64 : u < 18446744073709551616) : Sp SEL 96 [.slice (some ⟨b, o, none⟩) n c, .int .u64 (u : Nat)] (Pt b cs z :: L) P (fun r L' P' => (∃ cs', L' = Pt b cs' z :: L ∧ Fmt cs cs' o n u 0) ∧ P' = P) := by
 refine Sp.body (fn := Tryz.f96) (N := 166) (by kernel_rfl) (by kernel_rfl) rfl (by kernel_rfl) rfl ?_
 refine .seq (.region ?_)
 refine .pu .mv ?_
 refine .pu .lnV ?_
 refine .pu .as ?_
 refine .nil ?_
 refine .seq (.block (W.loop (fun (p : Nat × List Value) => Fmt cs p.2 o n u p.1 ∧ p.1 ≤ n) (fun p => p.1) (fun p => [(4, .int .i64 (p.1 : Nat)), (1, .int .u64 (u / 10 ^ (n - p.1) : Nat)), (0, .slice (some ⟨b, o, none⟩) n c)]) (fun p => Pt b p.2 z :: L) (fun _ => P) (n, cs) ⟨Fmt.init _ _ _ _, Nat.le_refl _⟩ ⟨rfl, by rw [Nat.sub_self, Nat.pow_zero, Nat.div_one]; rfl, rfl, trivial⟩ (.refl _ _) (fun p hp => ?_)))
 obtain ⟨i, cs1⟩ := p
 obtain ⟨hF, hin⟩ := hp
 have hF : Fmt cs cs1 o n u i := hF
 have hin : i ≤ n := hin
 have hl1 := hF.len
 have hwi : u / 10 ^ (n - i) < 10 ^ i := by
  rw [Nat.div_lt_iff_lt_mul (Nat.pow_pos (by decide)), ← Nat.pow_add]
  rw [show i + (n - i) = n by omega]
  exact hu
 have hw64 : u / 10 ^ (n - i) < 18446744073709551616 := Nat.lt_of_le_of_lt (Nat.div_le_self _ _) hu64
 have hwe : ∃ w, u / 10 ^ (n - i) = w := ⟨_, rfl⟩
 obtain ⟨w, hw⟩ := hwe
 refine .ent (.refl _ _) ?_
 rw [hw] at hwi hw64
 simp only [hw]
 refine .seq (.seq (.region ?_))
 skip
 refine .pu .mv ?_
 refine .pu .cmp ?_
 refine .nil ?_
 refine .ite rfl (fun h => ?_) (fun h => ?_)
 ·refine .skip ?_
  refine .block (.seq (.region ?_))
  refine .pu .mv ?_
  refine .pu (.i_rem (b := 100000000)) ?_
  refine .pu .ci ?_
  refine .pu .as ?_
  refine .nil ?_
  refine .seq (.region ?_)
  refine .pu .mv ?_
  refine .pu (.i_quo (b := 100000000)) ?_
  refine .pu .as ?_
  refine .nil ?_
  refine .seq (.region ?_)
  refine .pu .mv ?_
  refine .pu (.i_quo (b := 10000)) ?_
  refine .pu .mv ?_
  refine .pu (.i_rem (b := 10000)) ?_
  refine .pu .as ?_
  refine .pu .as ?_
  refine .nil ?_
  refine .seq (.region ?_)
  refine .pu .mv ?_
  refine .pu (.i_quo (b := 100)) ?_
  refine .pu (.mulN (b := 2)) ?_
  refine .pu .mv ?_
  refine .pu (.i_rem (b := 100)) ?_
  refine .pu (.mulN (b := 2)) ?_
  refine .pu .as ?_
  refine .pu .as ?_
  refine .nil ?_
  refine .seq (.region ?_)
  refine .pu .mv ?_
  refine .pu (.i_quo (b := 100)) ?_
  refine .pu (.mulN (b := 2)) ?_
  refine .pu .mv ?_
  refine .pu (.i_rem (b := 100)) ?_
  refine .pu (.mulN (b := 2)) ?_
  refine .pu .as ?_
  refine .pu .as ?_
  refine .nil ?_
  refine .seq (.drawn (by kernel_rfl) fun base => ?_)
  refine .pu .mv ?_
  refine .pu .mv ?_
  refine .pu (.subN (b := 1) (hb := by simp only [decide_eq_true_eq, decide_eq_false_iff_not] at *; omega)) ?_
  refine .pu .mv ?_
  refine .pu .mv ?_
  refine .pu (.subN (b := 2) (hb := by simp only [decide_eq_true_eq, decide_eq_false_iff_not] at *; omega)) ?_
  refine .pu .mv ?_
  refine .pu (.addN (b := 1)) ?_
  refine .pu (.ix (a := smB) (sm1 (by omega)) rfl rfl) ?_
  refine .pu .mv ?_
  refine .pu (.ix (a := smB) (sm0 (by omega)) rfl rfl) ?_
  refine .pu (.iaN (hn := by simp only [decide_eq_true_eq, decide_eq_false_iff_not] at *; omega)) ?_
  refine .st (vs := [_]) (hset := setN_one (by (try simp only [List.length_set]); simp only [decide_eq_true_eq, decide_eq_false_iff_not] at *; omega)) ?_
  refine .pu (.iaN (hn := by simp only [decide_eq_true_eq, decide_eq_false_iff_not] at *; omega)) ?_
  refine .st (vs := [_]) (hset := setN_one (by (try simp only [List.length_set]); simp only [decide_eq_true_eq, decide_eq_false_iff_not] at *; omega)) ?_
  refine .nil .nil ?_
  refine .seq (.drawn (by kernel_rfl) fun base => ?_)
  refine .pu .mv ?_
  refine .pu .mv ?_
  refine .pu (.subN (b := 3) (hb := by simp only [decide_eq_true_eq, decide_eq_false_iff_not] at *; omega)) ?_
  refine .pu .mv ?_
  refine .pu .mv ?_
  refine .pu (.subN (b := 4) (hb := by simp only [decide_eq_true_eq, decide_eq_false_iff_not] at *; omega)) ?_
  refine .pu .mv ?_
  refine .pu (.addN (b := 1)) ?_
  refine .pu (.ix (a := smB) (sm1 (by omega)) rfl rfl) ?_
  refine .pu .mv ?_
  refine .pu (.ix (a := smB) (sm0 (by omega)) rfl rfl) ?_
  refine .pu (.iaN (hn := by simp only [decide_eq_true_eq, decide_eq_false_iff_not] at *; omega)) ?_
  refine .st (vs := [_]) (hset := setN_one (by (try simp only [List.length_set]); simp only [decide_eq_true_eq, decide_eq_false_iff_not] at *; omega)) ?_
  refine .pu (.iaN (hn := by simp only [decide_eq_true_eq, decide_eq_false_iff_not] at *; omega)) ?_
  refine .st (vs := [_]) (hset := setN_one (by (try simp only [List.length_set]); simp only [decide_eq_true_eq, decide_eq_false_iff_not] at *; omega)) ?_
  refine .nil .nil ?_
  refine .seq (.drawn (by kernel_rfl) fun base => ?_)
  refine .pu .mv ?_
  refine .pu .mv ?_
  refine .pu (.subN (b := 5) (hb := by simp only [decide_eq_true_eq, decide_eq_false_iff_not] at *; omega)) ?_
  refine .pu .mv ?_
  refine .pu .mv ?_
  refine .pu (.subN (b := 6) (hb := by simp only [decide_eq_true_eq, decide_eq_false_iff_not] at *; omega)) ?_
  refine .pu .mv ?_
  refine .pu (.addN (b := 1)) ?_
  refine .pu (.ix (a := smB) (sm1 (by omega)) rfl rfl) ?_
  refine .pu .mv ?_
  refine .pu (.ix (a := smB) (sm0 (by omega)) rfl rfl) ?_
  refine .pu (.iaN (hn := by simp only [decide_eq_true_eq, decide_eq_false_iff_not] at *; omega)) ?_
  refine .st (vs := [_]) (hset := setN_one (by (try simp only [List.length_set]); simp only [decide_eq_true_eq, decide_eq_false_iff_not] at *; omega)) ?_
  refine .pu (.iaN (hn := by simp only [decide_eq_true_eq, decide_eq_false_iff_not] at *; omega)) ?_
  refine .st (vs := [_]) (hset := setN_one (by (try simp only [List.length_set]); simp only [decide_eq_true_eq, decide_eq_false_iff_not] at *; omega)) ?_
  refine .nil .nil ?_
  refine .seq (.drawn (by kernel_rfl) fun base => ?_)
  refine .pu .mv ?_
  refine .pu .mv ?_
  refine .pu (.subN (b := 7) (hb := by simp only [decide_eq_true_eq, decide_eq_false_iff_not] at *; omega)) ?_
  refine .pu .mv ?_
  refine .pu .mv ?_
  refine .pu (.subN (b := 8) (hb := by simp only [decide_eq_true_eq, decide_eq_false_iff_not] at *; omega)) ?_
  refine .pu .mv ?_
  refine .pu (.addN (b := 1)) ?_
  refine .pu (.ix (a := smB) (sm1 (by omega)) rfl rfl) ?_
  refine .pu .mv ?_
  refine .pu (.ix (a := smB) (sm0 (by omega)) rfl rfl) ?_
  refine .pu (.iaN (hn := by simp only [decide_eq_true_eq, decide_eq_false_iff_not] at *; omega)) ?_
  refine .st (vs := [_]) (hset := setN_one (by (try simp only [List.length_set]); simp only [decide_eq_true_eq, decide_eq_false_iff_not] at *; omega)) ?_
  refine .pu (.iaN (hn := by simp only [decide_eq_true_eq, decide_eq_false_iff_not] at *; omega)) ?_
  refine .st (vs := [_]) (hset := setN_one (by (try simp only [List.length_set]); simp only [decide_eq_true_eq, decide_eq_false_iff_not] at *; omega)) ?_
  refine .nil .nil ?_
  refine .region ?_
  refine .pu .mv ?_
  refine .pu (.subN (b := 8) (hb := by simp only [decide_eq_true_eq, decide_eq_false_iff_not] at *; omega)) ?_
  refine .pu .as ?_
  refine .nil ?_
  have h := of_decide_eq_true h
  refine ⟨(i - 8, _), ⟨?_, by show i - 8 ≤ n; omega⟩, by show i - 8 < i; omega, ⟨rfl, ?_, rfl, trivial⟩, .refl _ _⟩
  ·show Fmt cs _ o n u (i - 8)
   refine .put hn (by omega) (by omega) (dgv (t := 7) hw (by omega) (by omega)) ?_
   refine .put hn (by omega) (by omega) (dgv (t := 6) hw (by omega) (by omega)) ?_
   refine .put hn (by omega) (by omega) (dgv (t := 5) hw (by omega) (by omega)) ?_
   refine .put hn (by omega) (by omega) (dgv (t := 4) hw (by omega) (by omega)) ?_
   refine .put hn (by omega) (by omega) (dgv (t := 3) hw (by omega) (by omega)) ?_
   refine .put hn (by omega) (by omega) (dgv (t := 2) hw (by omega) (by omega)) ?_
   refine .put hn (by omega) (by omega) (dgv (t := 1) hw (by omega) (by omega)) ?_
   refine .put hn (by omega) (by omega) (dgv (t := 0) hw (by omega) (by omega)) ?_
   have e : i - 8 + 1 + 1 + 1 + 1 + 1 + 1 + 1 + 1 = i := by omega
   rw [e]
   exact hF
  ·show some (Value.int .u64 ((w / 100000000 : Nat) : Int)) = some (Value.int .u64 ((u / 10 ^ (n - (i - 8)) : Nat) : Int))
   rw [show n - (i - 8) = (n - i) + 8 by omega, div_next hw]
 refine .exit ?_
 refine .seq (.region ?_)
 have h := of_decide_eq_false h
 have i8 : i < 8 := by omega
 have q7 : i = 7 → w < 10000000 := fun e => by subst e; exact hwi
 have q6 : i = 6 → w < 1000000 := fun e => by subst e; exact hwi
 have q5 : i = 5 → w < 100000 := fun e => by subst e; exact hwi
 have q4 : i = 4 → w < 10000 := fun e => by subst e; exact hwi
 have q3 : i = 3 → w < 1000 := fun e => by subst e; exact hwi
 have q2 : i = 2 → w < 100 := fun e => by subst e; exact hwi
 have q1 : i = 1 → w < 10 := fun e => by subst e; exact hwi
 have q0 : i = 0 → w < 1 := fun e => by subst e; exact hwi
 clear hwi
 refine .pu .mv ?_
 refine .pu .ci ?_
 refine .pu .as ?_
 refine .nil ?_
 refine .seq (.seq (.region ?_))
 refine .pu .mv ?_
 refine .pu .cmp ?_
 refine .nil ?_
 refine .ite rfl (fun h4 => ?_) (fun h4 => ?_)
 ·refine .seq (.region ?_)
  refine .pu .mv ?_
  refine .pu (.i_rem (b := 10000)) ?_
  refine .pu .as ?_
  refine .nil ?_
  refine .seq (.region ?_)
  refine .pu .mv ?_
  refine .pu (.i_quo (b := 10000)) ?_
  refine .pu .as ?_
  refine .nil ?_
  refine .seq (.region ?_)
  refine .pu .mv ?_
  refine .pu (.i_quo (b := 100)) ?_
  refine .pu (.mulN (b := 2)) ?_
  refine .pu .mv ?_
  refine .pu (.i_rem (b := 100)) ?_
  refine .pu (.mulN (b := 2)) ?_
  refine .pu .as ?_
  refine .pu .as ?_
  refine .nil ?_
  refine .seq (.drawn (by kernel_rfl) fun base => ?_)
  refine .pu .mv ?_
  refine .pu .mv ?_
  refine .pu (.subN (b := 1) (hb := by simp only [decide_eq_true_eq, decide_eq_false_iff_not] at *; omega)) ?_
  refine .pu .mv ?_
  refine .pu .mv ?_
  refine .pu (.subN (b := 2) (hb := by simp only [decide_eq_true_eq, decide_eq_false_iff_not] at *; omega)) ?_
  refine .pu .mv ?_
  refine .pu (.addN (b := 1)) ?_
  refine .pu (.ix (a := smB) (sm1 (by omega)) rfl rfl) ?_
  refine .pu .mv ?_
  refine .pu (.ix (a := smB) (sm0 (by omega)) rfl rfl) ?_
  refine .pu (.iaN (hn := by simp only [decide_eq_true_eq, decide_eq_false_iff_not] at *; omega)) ?_
  refine .st (vs := [_]) (hset := setN_one (by (try simp only [List.length_set]); simp only [decide_eq_true_eq, decide_eq_false_iff_not] at *; omega)) ?_
  refine .pu (.iaN (hn := by simp only [decide_eq_true_eq, decide_eq_false_iff_not] at *; omega)) ?_
  refine .st (vs := [_]) (hset := setN_one (by (try simp only [List.length_set]); simp only [decide_eq_true_eq, decide_eq_false_iff_not] at *; omega)) ?_
  refine .nil .nil ?_
  refine .seq (.drawn (by kernel_rfl) fun base => ?_)
  refine .pu .mv ?_
  refine .pu .mv ?_
  refine .pu (.subN (b := 3) (hb := by simp only [decide_eq_true_eq, decide_eq_false_iff_not] at *; omega)) ?_
  refine .pu .mv ?_
  refine .pu .mv ?_
  refine .pu (.subN (b := 4) (hb := by simp only [decide_eq_true_eq, decide_eq_false_iff_not] at *; omega)) ?_
  refine .pu .mv ?_
  refine .pu (.addN (b := 1)) ?_
  refine .pu (.ix (a := smB) (sm1 (by omega)) rfl rfl) ?_
  refine .pu .mv ?_
  refine .pu (.ix (a := smB) (sm0 (by omega)) rfl rfl) ?_
  refine .pu (.iaN (hn := by simp only [decide_eq_true_eq, decide_eq_false_iff_not] at *; omega)) ?_
  refine .st (vs := [_]) (hset := setN_one (by (try simp only [List.length_set]); simp only [decide_eq_true_eq, decide_eq_false_iff_not] at *; omega)) ?_
  refine .pu (.iaN (hn := by simp only [decide_eq_true_eq, decide_eq_false_iff_not] at *; omega)) ?_
  refine .st (vs := [_]) (hset := setN_one (by (try simp only [List.length_set]); simp only [decide_eq_true_eq, decide_eq_false_iff_not] at *; omega)) ?_
  refine .nil .nil ?_
  refine .region ?_
  refine .pu .mv ?_
  refine .pu (.subN (b := 4) (hb := by simp only [decide_eq_true_eq, decide_eq_false_iff_not] at *; omega)) ?_
  refine .pu .as ?_
  refine .nil ?_
  refine .seq (.seq (.region ?_))
  refine .pu .mv ?_
  refine .pu .cmp ?_
  refine .nil ?_
  refine .ite rfl (fun h2 => ?_) (fun h2 => ?_)
  ·refine .seq (.region ?_)
   refine .pu .mv ?_
   refine .pu (.i_rem (b := 100)) ?_
   refine .pu (.mulN (b := 2)) ?_
   refine .pu .as ?_
   refine .nil ?_
   refine .seq (.region ?_)
   refine .pu .mv ?_
   refine .pu (.i_quo (b := 100)) ?_
   refine .pu .as ?_
   refine .nil ?_
   refine .seq (.drawn (by kernel_rfl) fun base => ?_)
   refine .pu .mv ?_
   refine .pu .mv ?_
   refine .pu (.subN (b := 1) (hb := by simp only [decide_eq_true_eq, decide_eq_false_iff_not] at *; omega)) ?_
   refine .pu .mv ?_
   refine .pu .mv ?_
   refine .pu (.subN (b := 2) (hb := by simp only [decide_eq_true_eq, decide_eq_false_iff_not] at *; omega)) ?_
   refine .pu .mv ?_
   refine .pu (.addN (b := 1)) ?_
   refine .pu (.ix (a := smB) (sm1 (by omega)) rfl rfl) ?_
   refine .pu .mv ?_
   refine .pu (.ix (a := smB) (sm0 (by omega)) rfl rfl) ?_
   refine .pu (.iaN (hn := by simp only [decide_eq_true_eq, decide_eq_false_iff_not] at *; omega)) ?_
   refine .st (vs := [_]) (hset := setN_one (by (try simp only [List.length_set]); simp only [decide_eq_true_eq, decide_eq_false_iff_not] at *; omega)) ?_
   refine .pu (.iaN (hn := by simp only [decide_eq_true_eq, decide_eq_false_iff_not] at *; omega)) ?_
   refine .st (vs := [_]) (hset := setN_one (by (try simp only [List.length_set]); simp only [decide_eq_true_eq, decide_eq_false_iff_not] at *; omega)) ?_
   refine .nil .nil ?_
   refine .region ?_
   refine .pu .mv ?_
   refine .pu (.subN (b := 2) (hb := by simp only [decide_eq_true_eq, decide_eq_false_iff_not] at *; omega)) ?_
   refine .pu .as ?_
   refine .nil ?_
   refine .seq (.region ?_)
   refine .pu .mv ?_
   refine .pu .cmp ?_
   refine .nil ?_
   refine .ite rfl (fun h0 => ?_) (fun h0 => ?_)
   ·refine .region ?_
    refine .pu .mv ?_
    refine .pu .mv ?_
    refine .pu (.addN (a := 48)) ?_
    refine .pu (.ci (hv := by simp only [decide_eq_true_eq, decide_eq_false_iff_not] at *; simp only [InR]; omega)) ?_
    refine .pu (.iaN (n := 0) (hn := by simp only [decide_eq_true_eq, decide_eq_false_iff_not] at *; omega)) ?_
    refine .st (vs := [_]) (hset := setN_one (by (try simp only [List.length_set]); simp only [decide_eq_true_eq, decide_eq_false_iff_not] at *; omega)) ?_
    refine .nil ?_
    refine ⟨_, .nil, _, _, .refl _ _, ⟨_, rfl, ?_⟩, rfl⟩
    simp only [decide_eq_true_eq, decide_eq_false_iff_not] at h4 h2 h0
    have e : i = 7 := by omega
    subst e
    refine .put hn (by omega) (by omega) (dgv0 (t := 6) hw (by omega) (by omega)) ?_
    refine .put hn (by omega) (by omega) (dgv (t := 5) hw (by omega) (by omega)) ?_
    refine .put hn (by omega) (by omega) (dgv (t := 4) hw (by omega) (by omega)) ?_
    refine .put hn (by omega) (by omega) (dgv (t := 3) hw (by omega) (by omega)) ?_
    refine .put hn (by omega) (by omega) (dgv (t := 2) hw (by omega) (by omega)) ?_
    refine .put hn (by omega) (by omega) (dgv (t := 1) hw (by omega) (by omega)) ?_
    refine .put hn (by omega) (by omega) (dgv (t := 0) hw (by omega) (by omega)) ?_
    exact hF
   refine .skip ?_
   refine ⟨_, .nil, _, _, .refl _ _, ⟨_, rfl, ?_⟩, rfl⟩
   simp only [decide_eq_true_eq, decide_eq_false_iff_not] at h4 h2 h0
   have e : i = 6 := by omega
   subst e
   refine .put hn (by omega) (by omega) (dgv (t := 5) hw (by omega) (by omega)) ?_
   refine .put hn (by omega) (by omega) (dgv (t := 4) hw (by omega) (by omega)) ?_
   refine .put hn (by omega) (by omega) (dgv (t := 3) hw (by omega) (by omega)) ?_
   refine .put hn (by omega) (by omega) (dgv (t := 2) hw (by omega) (by omega)) ?_
   refine .put hn (by omega) (by omega) (dgv (t := 1) hw (by omega) (by omega)) ?_
   refine .put hn (by omega) (by omega) (dgv (t := 0) hw (by omega) (by omega)) ?_
   exact hF
  refine .skip ?_
  refine .seq (.region ?_)
  refine .pu .mv ?_
  refine .pu .cmp ?_
  refine .nil ?_
  refine .ite rfl (fun h0 => ?_) (fun h0 => ?_)
  ·refine .region ?_
   refine .pu .mv ?_
   refine .pu .mv ?_
   refine .pu (.addN (a := 48)) ?_
   refine .pu (.ci (hv := by simp only [decide_eq_true_eq, decide_eq_false_iff_not] at *; simp only [InR]; omega)) ?_
   refine .pu (.iaN (n := 0) (hn := by simp only [decide_eq_true_eq, decide_eq_false_iff_not] at *; omega)) ?_
   refine .st (vs := [_]) (hset := setN_one (by (try simp only [List.length_set]); simp only [decide_eq_true_eq, decide_eq_false_iff_not] at *; omega)) ?_
   refine .nil ?_
   refine ⟨_, .nil, _, _, .refl _ _, ⟨_, rfl, ?_⟩, rfl⟩
   simp only [decide_eq_true_eq, decide_eq_false_iff_not] at h4 h2 h0
   have e : i = 5 := by omega
   subst e
   refine .put hn (by omega) (by omega) (dgv0 (t := 4) hw (by omega) (by omega)) ?_
   refine .put hn (by omega) (by omega) (dgv (t := 3) hw (by omega) (by omega)) ?_
   refine .put hn (by omega) (by omega) (dgv (t := 2) hw (by omega) (by omega)) ?_
   refine .put hn (by omega) (by omega) (dgv (t := 1) hw (by omega) (by omega)) ?_
   refine .put hn (by omega) (by omega) (dgv (t := 0) hw (by omega) (by omega)) ?_
   exact hF
  refine .skip ?_
  refine ⟨_, .nil, _, _, .refl _ _, ⟨_, rfl, ?_⟩, rfl⟩
  simp only [decide_eq_true_eq, decide_eq_false_iff_not] at h4 h2 h0
  have e : i = 4 := by omega
  subst e
  refine .put hn (by omega) (by omega) (dgv (t := 3) hw (by omega) (by omega)) ?_
  refine .put hn (by omega) (by omega) (dgv (t := 2) hw (by omega) (by omega)) ?_
  refine .put hn (by omega) (by omega) (dgv (t := 1) hw (by omega) (by omega)) ?_
  refine .put hn (by omega) (by omega) (dgv (t := 0) hw (by omega) (by omega)) ?_
  exact hF
 refine .skip ?_
 refine .seq (.seq (.region ?_))
 refine .pu .mv ?_
 refine .pu .cmp ?_
 refine .nil ?_
 refine .ite rfl (fun h2 => ?_) (fun h2 => ?_)
 ·refine .seq (.region ?_)
  refine .pu .mv ?_
  refine .pu (.i_rem (b := 100)) ?_
  refine .pu (.mulN (b := 2)) ?_
  refine .pu .as ?_
  refine .nil ?_
  refine .seq (.region ?_)
  refine .pu .mv ?_
  refine .pu (.i_quo (b := 100)) ?_
  refine .pu .as ?_
  refine .nil ?_
  refine .seq (.drawn (by kernel_rfl) fun base => ?_)
  refine .pu .mv ?_
  refine .pu .mv ?_
  refine .pu (.subN (b := 1) (hb := by simp only [decide_eq_true_eq, decide_eq_false_iff_not] at *; omega)) ?_
  refine .pu .mv ?_
  refine .pu .mv ?_
  refine .pu (.subN (b := 2) (hb := by simp only [decide_eq_true_eq, decide_eq_false_iff_not] at *; omega)) ?_
  refine .pu .mv ?_
  refine .pu (.addN (b := 1)) ?_
  refine .pu (.ix (a := smB) (sm1 (by omega)) rfl rfl) ?_
  refine .pu .mv ?_
  refine .pu (.ix (a := smB) (sm0 (by omega)) rfl rfl) ?_
  refine .pu (.iaN (hn := by simp only [decide_eq_true_eq, decide_eq_false_iff_not] at *; omega)) ?_
  refine .st (vs := [_]) (hset := setN_one (by (try simp only [List.length_set]); simp only [decide_eq_true_eq, decide_eq_false_iff_not] at *; omega)) ?_
  refine .pu (.iaN (hn := by simp only [decide_eq_true_eq, decide_eq_false_iff_not] at *; omega)) ?_
  refine .st (vs := [_]) (hset := setN_one (by (try simp only [List.length_set]); simp only [decide_eq_true_eq, decide_eq_false_iff_not] at *; omega)) ?_
  refine .nil .nil ?_
  refine .region ?_
  refine .pu .mv ?_
  refine .pu (.subN (b := 2) (hb := by simp only [decide_eq_true_eq, decide_eq_false_iff_not] at *; omega)) ?_
  refine .pu .as ?_
  refine .nil ?_
  refine .seq (.region ?_)
  refine .pu .mv ?_
  refine .pu .cmp ?_
  refine .nil ?_
  refine .ite rfl (fun h0 => ?_) (fun h0 => ?_)
  ·refine .region ?_
   refine .pu .mv ?_
   refine .pu .mv ?_
   refine .pu (.addN (a := 48)) ?_
   refine .pu (.ci (hv := by simp only [decide_eq_true_eq, decide_eq_false_iff_not] at *; simp only [InR]; omega)) ?_
   refine .pu (.iaN (n := 0) (hn := by simp only [decide_eq_true_eq, decide_eq_false_iff_not] at *; omega)) ?_
   refine .st (vs := [_]) (hset := setN_one (by (try simp only [List.length_set]); simp only [decide_eq_true_eq, decide_eq_false_iff_not] at *; omega)) ?_
   refine .nil ?_
   refine ⟨_, .nil, _, _, .refl _ _, ⟨_, rfl, ?_⟩, rfl⟩
   simp only [decide_eq_true_eq, decide_eq_false_iff_not] at h4 h2 h0
   have e : i = 3 := by omega
   subst e
   refine .put hn (by omega) (by omega) (dgv0 (t := 2) hw (by omega) (by omega)) ?_
   refine .put hn (by omega) (by omega) (dgv (t := 1) hw (by omega) (by omega)) ?_
   refine .put hn (by omega) (by omega) (dgv (t := 0) hw (by omega) (by omega)) ?_
   exact hF
  refine .skip ?_
  refine ⟨_, .nil, _, _, .refl _ _, ⟨_, rfl, ?_⟩, rfl⟩
  simp only [decide_eq_true_eq, decide_eq_false_iff_not] at h4 h2 h0
  have e : i = 2 := by omega
  subst e
  refine .put hn (by omega) (by omega) (dgv (t := 1) hw (by omega) (by omega)) ?_
  refine .put hn (by omega) (by omega) (dgv (t := 0) hw (by omega) (by omega)) ?_
  exact hF
 refine .skip ?_
 refine .seq (.region ?_)
 refine .pu .mv ?_
 refine .pu .cmp ?_
 refine .nil ?_
 refine .ite rfl (fun h0 => ?_) (fun h0 => ?_)
 ·refine .region ?_
  refine .pu .mv ?_
  refine .pu .mv ?_
  refine .pu (.addN (a := 48)) ?_
  refine .pu (.ci (hv := by simp only [decide_eq_true_eq, decide_eq_false_iff_not] at *; simp only [InR]; omega)) ?_
  refine .pu (.iaN (n := 0) (hn := by simp only [decide_eq_true_eq, decide_eq_false_iff_not] at *; omega)) ?_
  refine .st (vs := [_]) (hset := setN_one (by (try simp only [List.length_set]); simp only [decide_eq_true_eq, decide_eq_false_iff_not] at *; omega)) ?_
  refine .nil ?_
  refine ⟨_, .nil, _, _, .refl _ _, ⟨_, rfl, ?_⟩, rfl⟩
  simp only [decide_eq_true_eq, decide_eq_false_iff_not] at h4 h2 h0
  have e : i = 1 := by omega
  subst e
  refine .put hn (by omega) (by omega) (dgv0 (t := 0) hw (by omega) (by omega)) ?_
  exact hF
 refine .skip ?_
 refine ⟨_, .nil, _, _, .refl _ _, ⟨_, rfl, ?_⟩, rfl⟩
 simp only [decide_eq_true_eq, decide_eq_false_iff_not] at h4 h2 h0
 have e : i = 0 := by omega
 subst e
 exact hF
end Go.Cis
/- Whole numbers in decimal digits. -/
namespace Go.Cis
open Go Go.Ax Go.Lx Go.Proofs
set_option maxRecDepth 100000
theorem Fmt.row {cs cs' : List Value} {o u : Nat} (h : Fmt cs cs' o (Lib.nDigits u) u 0) (hn : o + Lib.nDigits u ≤ cs.length) : (cs'.drop o).take (Lib.nDigits u) = (Lib.decDigits u).map fun c => Value.int .u8 c.toNat := by
 have hl := h.len
 refine List.ext_getElem? fun j => ?_
 rw [List.getElem?_take]
 by_cases hj : j < Lib.nDigits u
 ·rw [if_pos hj, List.getElem?_drop, h.yes j (Nat.zero_le _) hj, Lib.decDigits_eq, List.map_map, List.getElem?_map, List.getElem?_range hj]
  rfl
 ·rw [if_neg hj, List.getElem?_eq_none]
  rw [List.length_map, Lib.decDigits_length]
  omega
theorem Fmt.row1 {cs cs' : List Value} {u : Nat} {v : Value} (h : Fmt cs cs' 1 (Lib.nDigits u) u 0) (hn : 1 + Lib.nDigits u ≤ cs.length) : ((cs'.set 0 v).drop 0).take (1 + Lib.nDigits u) = v :: (Lib.decDigits u).map fun c => Value.int .u8 c.toNat := by
 have hl := h.len
 have hr := h.row hn
 match cs', hl, hr with
 | [], hl, _ => exact absurd hl (by simp; omega)
 | x :: t, hl, hr =>
  rw [List.set_cons_zero, List.drop_zero, Nat.add_comm, List.take_succ_cons]
  exact congrArg (v :: ·) hr
abbrev z24 : List Value := [.int .u8 0, .int .u8 0, .int .u8 0, .int .u8 0, .int .u8 0, .int .u8 0, .int .u8 0, .int .u8 0, .int .u8 0, .int .u8 0, .int .u8 0, .int .u8 0, .int .u8 0, .int .u8 0, .int .u8 0, .int .u8 0, .int .u8 0, .int .u8 0, .int .u8 0, .int .u8 0, .int .u8 0, .int .u8 0, .int .u8 0, .int .u8 0]
theorem z24_len : z24.length = 24 := rfl
abbrev smA : Bs := Lib.digits36.data.toList
theorem small_sp (L P : List Asn) (i : Nat) (hi : i < 100) : Sp SEL 94 [.int .i64 (i : Nat)] L P (fun r L' P' => r = S (Lib.decDigits i) ∧ L' = L ∧ P' = P) := by
 refine Sp.body (fn := Tryz.f94) (N := 14) (by kernel_rfl) (by kernel_rfl) rfl (by kernel_rfl) rfl ?_
 refine .seq (.region ?_)
 refine .pu .as ?_
 refine .nil ?_
 refine .seq (.seq (.region ?_))
 refine .pu .mv ?_
 refine .pu .cmp ?_
 refine .nil ?_
 refine .ite rfl (fun h => ?_) (fun h => ?_)
 ·refine .seq (.region ?_)
  refine .pu .mv ?_
  refine .pu .mv ?_
  refine .pu (.addN (b := 1)) ?_
  refine .pu (.sls (a := smA) (p := i) (q := i + 1) ⟨_, _, rfl, by omega, by omega, by omega⟩ ⟨_, _, rfl, by omega, by rw [show smA.length = 36 from by decide +kernel]; have := of_decide_eq_true h; omega, by omega⟩ rfl rfl (by rw [show smA.length = 36 from by decide +kernel]; have := of_decide_eq_true h; omega)) ?_
  refine .pu .as ?_
  refine .nil ?_
  refine .ret ?_
  exact ⟨_, .tmp rfl .nil, _, _, .refl _ _, by rw [Lib.digits36_piece (by have := of_decide_eq_true h; omega)]; rfl, rfl, rfl⟩
 refine .skip ?_
 refine .seq (.region ?_)
 refine .pu .mv ?_
 refine .pu (.mulN (b := 2)) ?_
 refine .pu .mv ?_
 refine .pu (.mulN (b := 2)) ?_
 refine .pu (.addN (b := 2)) ?_
 refine .pu (.sls (a := smB) (p := i * 2) (q := i * 2 + 2) ⟨_, _, rfl, by omega, by omega, by omega⟩ ⟨_, _, rfl, by omega, by rw [show smB.length = 200 from by decide +kernel]; omega, by omega⟩ rfl rfl (by rw [show smB.length = 200 from by decide +kernel]; omega)) ?_
 refine .pu .as ?_
 refine .nil ?_
 refine .ret ?_
 exact ⟨_, .tmp rfl .nil, _, _, .refl _ _, by rw [Lib.smalls_piece (by have := of_decide_eq_false h; omega) hi]; rfl, rfl, rfl⟩
theorem fiSmall_sp (L P : List Asn) (i : Nat) (hi : i < 100) : Sp SEL 61 [.int .i64 (i : Nat), .int .i64 10] L P (fun r L' P' => r = S (Lib.decDigits i) ∧ L' = L ∧ P' = P) := by
 refine Sp.body (fn := Tryz.f61) (N := 53) (by kernel_rfl) (by kernel_rfl) rfl (by kernel_rfl) rfl ?_
 refine .seq (.region ?_)
 refine .pu .as ?_
 refine .nil ?_
 refine .seq (.seq (.region ?_))
 refine .pu .mv ?_
 refine .pu .cmp ?_
 refine .nil ?_
 refine .yes rfl ?_
 refine .seq (.seq (.region ?_))
 refine .pu .mv ?_
 refine .pu .cy ?_
 refine .pu .mv ?_
 refine .on (.pu .mv ?_)
 refine .on (.pu .cy ?_)
 refine .pu .pk ?_
 refine .nil ?_
 refine .yes rfl ?_
 refine .seq (.region ?_)
 refine .pu .mv ?_
 refine .call (small_sp _ _ _ hi) ?_; rintro _ L P ⟨rfl, rfl, rfl⟩
 refine .pu .as ?_
 refine .nil ?_
 refine .ret ?_
 exact ⟨_, .tmp rfl .nil, _, _, .refl _ _, rfl, rfl, rfl⟩
theorem nd_bound {m : Nat} (h1 : 1 ≤ m) (h2 : m < 18446744073709551616) : 1 ≤ Lib.nDigits m ∧ Lib.nDigits m ≤ 20 := by
 refine ⟨Lib.nDigits_pos m, ?_⟩
 have := Lib.numDigits_eq m h1 h2
 obtain ⟨ha, hb⟩ := this
 rw [← ha]
 split <;> omega
theorem fiPos_sp (L P : List Asn) (m : Nat) (h1 : 100 ≤ m) (h2 : m < 9223372036854775808) (hP : Ro 0 pow10V ∈ P) : Sp SEL 61 [.int .i64 (m : Nat), .int .i64 10] L P (fun r L' P' => r = S (Lib.decDigits m) ∧ L' = L ∧ P' = P) := by
 obtain ⟨n1, n2⟩ := nd_bound (m := m) (by omega) (by omega)
 have hpow := Lib.lt_pow_nDigits m
 refine Sp.body (fn := Tryz.f61) (N := 53) (by kernel_rfl) (by kernel_rfl) rfl (by kernel_rfl) rfl ?_
 refine .seq (.region ?_)
 refine .pu .as ?_
 refine .nil ?_
 refine .seq (.seq (.region ?_))
 refine .pu .mv ?_
 refine .pu .cmp ?_
 refine .nil ?_
 refine .yes rfl ?_
 refine .seq (.seq (.region ?_))
 refine .pu .mv ?_
 refine .pu .cy ?_
 refine .pu .mv ?_
 refine .on (.pu .mv ?_)
 refine .on (.pu .cn ?_)
 refine .pu .pk ?_
 refine .nil ?_
 refine .no rfl ?_
 refine .skip ?_
 refine .seq (.region ?_)
 refine .nw (cs := [.int .u8 0, .int .u8 0, .int .u8 0, .int .u8 0, .int .u8 0, .int .u8 0, .int .u8 0, .int .u8 0, .int .u8 0, .int .u8 0, .int .u8 0, .int .u8 0, .int .u8 0, .int .u8 0, .int .u8 0, .int .u8 0, .int .u8 0, .int .u8 0, .int .u8 0, .int .u8 0, .int .u8 0, .int .u8 0, .int .u8 0, .int .u8 0]) fun b5 => ?_
 refine .nil ?_
 refine .seq (.region ?_)
 refine .pu .mv ?_
 refine .pu (.ci (n := (m : Int)) (hv := by simp only [InR]; omega)) ?_
 refine .pu .as ?_
 refine .nil ?_
 refine .seq (.seq (.region ?_))
 refine .pu .mv ?_
 refine .pu .cn ?_
 refine .nil ?_
 refine .no rfl ?_
 refine .skip ?_
 refine .seq (.region ?_)
 refine .pu .mv ?_
 refine .call (numDigits_sp _ _ m (by omega) (by omega) hP) ?_; rintro _ L P ⟨rfl, rfl, rfl⟩
 refine .pu .as ?_
 refine .nil ?_
 refine .seq (.region ?_)
 refine .pu .mv ?_
 refine .pu (.addN (a := 1)) ?_
 refine .pu (.slA (p := 1) (q := 1 + Lib.nDigits m) ⟨_, 1, rfl, by omega, by omega, rfl⟩ ⟨_, _, rfl, by omega, by omega, by omega⟩ rfl rfl (by omega)) ?_
 refine .pu .mv ?_
 refine .call (fmt10_sp _ _ b5 1 (1 + Lib.nDigits m - 1) _ _ z24 m (by rw [z24_len]; omega) (by rw [z24_len]; omega) (by rw [Nat.add_sub_cancel_left]; exact hpow) (by omega)) ?_; rintro _ _ _ ⟨⟨cs5, rfl, hF⟩, rfl⟩
 have hF : Fmt z24 cs5 1 (1 + Lib.nDigits m - 1) m 0 := hF
 rw [Nat.add_sub_cancel_left] at hF
 refine .nil ?_
 refine .seq (.seq (.region ?_))
 refine .pu .mv ?_
 refine .pu .cn ?_
 refine .nil ?_
 refine .no rfl ?_
 refine .skip ?_
 refine .seq (.region ?_)
 refine .pu .mv ?_
 refine .pu (.addN (a := 1)) ?_
 refine .pu (.slA (p := 1) (q := 1 + Lib.nDigits m) ⟨_, 1, rfl, by omega, by omega, rfl⟩ ⟨_, _, rfl, by omega, by omega, by omega⟩ rfl rfl (by omega)) ?_
 refine .csV (o := 1) (n := 1 + Lib.nDigits m - 1) (cs := cs5) (bs := Lib.decDigits m) .l0 (by rw [Nat.add_sub_cancel_left]; exact hF.row (by rw [z24_len]; omega)) (by rw [Nat.add_sub_cancel_left, Lib.decDigits_length]) (by rw [hF.len, z24_len]; omega) ?_
 refine .pu .as ?_
 refine .nil ?_
 refine .ret ?_
 exact ⟨_, .tmp rfl .nil, _, _, .d1, rfl, rfl, rfl⟩
theorem neg_u64 {m : Nat} (h1 : 1 ≤ m) (h2 : m ≤ 9223372036854775808) : wrapA .u64 (-(m : Int)) = ((18446744073709551616 - m : Nat) : Int) := by
 obtain ⟨k, rfl⟩ : ∃ k, m = k + 1 := ⟨m - 1, by omega⟩
 have e : -((k + 1 : Nat) : Int) = Int.negSucc k := rfl
 rw [e]
 show ((18446744073709551616 - 1 - k % 18446744073709551616 : Nat) : Int) = _
 rw [Nat.mod_eq_of_lt (by omega)]
 congr 1
 omega
theorem neg_back {m : Nat} (h1 : 1 ≤ m) (h2 : m ≤ 9223372036854775808) : IntKind.wrap .u64 (0 - ((18446744073709551616 - m : Nat) : Int)) = (m : Int) := by
 rw [← wrapA_eq]
 obtain ⟨k, hk⟩ : ∃ k, 18446744073709551616 - m = k + 1 := ⟨18446744073709551616 - m - 1, by omega⟩
 rw [hk]
 have e : 0 - ((k + 1 : Nat) : Int) = Int.negSucc k := by rw [Int.zero_sub]; rfl
 rw [e]
 show ((18446744073709551616 - 1 - k % 18446744073709551616 : Nat) : Int) = _
 rw [Nat.mod_eq_of_lt (by omega)]
 congr 1
 omega
theorem fiNeg_sp (L P : List Asn) (m : Nat) (h1 : 1 ≤ m) (h2 : m ≤ 9223372036854775808) (hP : Ro 0 pow10V ∈ P) : Sp SEL 61 [.int .i64 (-(m : Int)), .int .i64 10] L P (fun r L' P' => r = S (45 :: Lib.decDigits m) ∧ L' = L ∧ P' = P) := by
 obtain ⟨n1, n2⟩ := nd_bound (m := m) (by omega) (by omega)
 have hpow := Lib.lt_pow_nDigits m
 refine Sp.body (fn := Tryz.f61) (N := 53) (by kernel_rfl) (by kernel_rfl) rfl (by kernel_rfl) rfl ?_
 refine .seq (.region ?_)
 refine .pu .as ?_
 refine .nil ?_
 refine .seq (.seq (.region ?_))
 refine .pu .mv ?_
 refine .pu .cmp ?_
 refine .nil ?_
 refine .yes rfl ?_
 refine .seq (.seq (.region ?_))
 refine .pu .mv ?_
 refine .pu .cn ?_
 refine .pu .mv ?_
 refine .off ?_
 refine .off ?_
 refine .pu .pk ?_
 refine .nil ?_
 refine .no rfl ?_
 refine .skip ?_
 refine .seq (.region ?_)
 refine .nw (cs := [.int .u8 0, .int .u8 0, .int .u8 0, .int .u8 0, .int .u8 0, .int .u8 0, .int .u8 0, .int .u8 0, .int .u8 0, .int .u8 0, .int .u8 0, .int .u8 0, .int .u8 0, .int .u8 0, .int .u8 0, .int .u8 0, .int .u8 0, .int .u8 0, .int .u8 0, .int .u8 0, .int .u8 0, .int .u8 0, .int .u8 0, .int .u8 0]) fun b5 => ?_
 refine .nil ?_
 refine .seq (.region ?_)
 refine .pu .mv ?_
 refine .pu (.ciw (neg_u64 h1 h2)) ?_
 refine .pu .as ?_
 refine .nil ?_
 refine .seq (.seq (.region ?_))
 refine .pu .mv ?_
 refine .pu .cy ?_
 refine .nil ?_
 refine .yes rfl ?_
 refine .region ?_
 refine .pu .mv ?_
 refine .pu (.ngw (neg_back h1 h2)) ?_
 refine .pu .as ?_
 refine .nil ?_
 refine .seq (.region ?_)
 refine .pu .mv ?_
 refine .call (numDigits_sp _ _ m (by omega) (by omega) hP) ?_; rintro _ L P ⟨rfl, rfl, rfl⟩
 refine .pu .as ?_
 refine .nil ?_
 refine .seq (.region ?_)
 refine .pu .mv ?_
 refine .pu (.addN (a := 1)) ?_
 refine .pu (.slA (p := 1) (q := 1 + Lib.nDigits m) ⟨_, 1, rfl, by omega, by omega, rfl⟩ ⟨_, _, rfl, by omega, by omega, by omega⟩ rfl rfl (by omega)) ?_
 refine .pu .mv ?_
 refine .call (fmt10_sp _ _ b5 1 (1 + Lib.nDigits m - 1) _ _ z24 m (by rw [z24_len]; omega) (by rw [z24_len]; omega) (by rw [Nat.add_sub_cancel_left]; exact hpow) (by omega)) ?_; rintro _ _ _ ⟨⟨cs5, rfl, hF⟩, rfl⟩
 have hF : Fmt z24 cs5 1 (1 + Lib.nDigits m - 1) m 0 := hF
 rw [Nat.add_sub_cancel_left] at hF
 refine .nil ?_
 refine .seq (.seq (.region ?_))
 refine .pu .mv ?_
 refine .pu .cy ?_
 refine .nil ?_
 refine .yes rfl ?_
 refine .seq (.region ?_)
 refine .pu .iaA ?_
 refine .st (vs := [_]) (hset := setN_one (by rw [hF.len, z24_len]; decide)) ?_
 refine .nil ?_
 refine .seq (.region ?_)
 refine .pu .mv ?_
 refine .pu (.addN (a := 1)) ?_
 refine .pu (.slA (p := 0) (q := 1 + Lib.nDigits m) rfl ⟨_, _, rfl, by omega, by omega, by omega⟩ rfl rfl (by omega)) ?_
 refine .csV (o := 0) (n := 1 + Lib.nDigits m) (cs := cs5.set 0 (.int .u8 45)) (bs := 45 :: Lib.decDigits m) .l0 (hF.row1 (by rw [z24_len]; omega)) (by rw [List.length_cons, Lib.decDigits_length, Nat.add_comm]) (by rw [List.length_set, hF.len, z24_len]; omega) ?_
 refine .pu .as ?_
 refine .nil ?_
 refine .ret ?_
 exact ⟨_, .tmp rfl .nil, _, _, .d1, rfl, rfl, rfl⟩
theorem formatInt_sp (L P : List Asn) (n : Int) (h1 : -9223372036854775808 ≤ n) (h2 : n ≤ 9223372036854775807) (hP : Ro 0 pow10V ∈ P) : Sp SEL 61 [.int .i64 n, .int .i64 10] L P (fun r L' P' => r = S (Lib.itoa n) ∧ L' = L ∧ P' = P) := by
 unfold Lib.itoa
 by_cases hn : n < 0
 ·obtain ⟨m, rfl⟩ : ∃ m : Nat, n = -(m : Int) := ⟨n.natAbs, by omega⟩
  rw [if_pos hn, show (-(m : Int)).natAbs = m by omega]
  exact fiNeg_sp L P m (by omega) (by omega) hP
 ·obtain ⟨m, rfl⟩ : ∃ m : Nat, n = (m : Int) := ⟨n.toNat, by omega⟩
  rw [if_neg hn, show ((m : Nat) : Int).toNat = m by omega]
  by_cases hm : m < 100
  ·exact fiSmall_sp L P m hm
  ·exact fiPos_sp L P m (by omega) (by omega) hP
theorem itoaI_sp (L P : List Asn) (n : Int) (h1 : -9223372036854775808 ≤ n) (h2 : n ≤ 9223372036854775807) (hP : Ro 0 pow10V ∈ P) : Sp SEL 38 [.int .i64 n] L P (fun r L' P' => r = S (Lib.itoa n) ∧ L' = L ∧ P' = P) := by
 refine Sp.body (fn := Tryz.f38) (N := 4) (by kernel_rfl) (by kernel_rfl) rfl (by kernel_rfl) rfl ?_
 refine .seq (.region ?_)
 refine .pu .as ?_
 refine .nil ?_
 refine .seq (.region ?_)
 refine .pu .mv ?_
 refine .call (formatInt_sp _ _ n h1 h2 hP) ?_; rintro _ L P ⟨rfl, rfl, rfl⟩
 refine .pu .as ?_
 refine .nil ?_
 refine .ret ?_
 exact ⟨_, .tmp rfl .nil, _, _, .refl _ _, rfl, rfl, rfl⟩
theorem itoa_sp (L P : List Asn) (n : Int) (h1 : -9223372036854775808 ≤ n) (h2 : n ≤ 9223372036854775807) (hP : Ro 0 pow10V ∈ P) : Sp SEL 21 [.int .i64 n] L P (fun r L' P' => r = S (Lib.itoa n) ∧ L' = L ∧ P' = P) := by
 refine Sp.body (fn := Tryz.f21) (N := 4) (by kernel_rfl) (by kernel_rfl) rfl (by kernel_rfl) rfl ?_
 refine .seq (.region ?_)
 refine .pu .as ?_
 refine .nil ?_
 refine .seq (.region ?_)
 refine .pu .mv ?_
 refine .call (itoaI_sp _ _ n h1 h2 hP) ?_; rintro _ L P ⟨rfl, rfl, rfl⟩
 refine .pu .as ?_
 refine .nil ?_
 refine .ret ?_
 exact ⟨_, .tmp rfl .nil, _, _, .refl _ _, rfl, rfl, rfl⟩
end Go.Cis
/- strings.Builder: bytes one behind the other, that become a text. -/
namespace Go.Cis
open Go Go.Ax Go.Lx Go.Proofs
set_option maxRecDepth 100000
def pp0 (b : Nat) : Value := .pointer (some ⟨b, 0, none⟩)
theorem noesc_sp (L P : List Asn) (v : Value) : Sp SEL 98 [v] L P (fun r L' P' => r = v ∧ L' = L ∧ P' = P) := Sp.noesc
theorem copyCheck1_sp (L P : List Asn) (b : Nat) (v : Value) : Sp SEL 62 [pp0 b] (Pt b [.pointer none, v] (tz 0 93) :: L) P (fun r L' P' => L' = Pt b [pp0 b, v] (tz 0 93) :: L ∧ P' = P) := by
 refine Sp.body (fn := Tryz.f62) (N := 19) (by kernel_rfl) (by kernel_rfl) rfl (by kernel_rfl) rfl ?_
 refine .seq (.region ?_)
 refine .pu .mv ?_
 refine .pu .nc ?_
 refine .pu .fa ?_
 refine .ld ?_
 refine .pu .peq ?_
 refine .nil ?_
 refine .yes rfl ?_
 refine .region ?_
 refine .pu .mv ?_
 refine .pu .mv ?_
 refine .up ?_
 refine .call (noesc_sp _ _ _) ?_; rintro _ L P ⟨rfl, rfl, rfl⟩
 refine .up ?_
 refine .pu .nc ?_
 refine .pu .fa ?_
 refine .st (vs := [_]) ?_
 refine .nil ?_
 exact ⟨_, .nil, _, _, .refl _ _, rfl, rfl⟩
theorem copyCheck2_sp (L P : List Asn) (b : Nat) (v : Value) : Sp SEL 62 [pp0 b] (Pt b [pp0 b, v] (tz 0 93) :: L) P (fun r L' P' => L' = Pt b [pp0 b, v] (tz 0 93) :: L ∧ P' = P) := by
 refine Sp.body (fn := Tryz.f62) (N := 19) (by kernel_rfl) (by kernel_rfl) rfl (by kernel_rfl) rfl ?_
 refine .seq (.region ?_)
 refine .pu .mv ?_
 refine .pu .nc ?_
 refine .pu .fa ?_
 refine .ld ?_
 refine .pu .peq ?_
 refine .nil ?_
 refine .no rfl ?_
 refine .seq (.region ?_)
 refine .pu .mv ?_
 refine .pu .nc ?_
 refine .pu .fa ?_
 refine .ld ?_
 refine .pu .mv ?_
 refine .pu .pdiff ?_
 refine .nil ?_
 refine .no rfl ?_
 refine .skip ?_
 exact ⟨_, .nil, _, _, .refl _ _, rfl, rfl⟩
theorem copyCheck_sp (L P : List Asn) (b : Nat) (sp v : Value) (h : sp = .pointer none ∨ sp = pp0 b) : Sp SEL 62 [pp0 b] (Pt b [sp, v] (tz 0 93) :: L) P (fun r L' P' => L' = Pt b [pp0 b, v] (tz 0 93) :: L ∧ P' = P) := by
 rcases h with rfl | rfl
 ·exact copyCheck1_sp L P b v
 ·exact copyCheck2_sp L P b v
theorem writeByte_sp (L P : List Asn) (b : Nat) (sp v : Value) (bs : Bs) (c : UInt8) (h : sp = .pointer none ∨ sp = pp0 b) (hl : bs.length ≤ 1099511600000) : Sp SEL 39 [pp0 b, .int .u8 c.toNat] (Pt b [sp, v] (tz 0 93) :: OwZ 5 1 v (byL bs) :: L) P (fun r L' P' => r = .nilIface ∧ (∃ v', L' = Pt b [pp0 b, v'] (tz 0 93) :: OwZ 5 1 v' (byL (bs ++ [c])) :: L) ∧ P' = P) := by
 refine Sp.body (fn := Tryz.f39) (N := 16) (by kernel_rfl) (by kernel_rfl) rfl (by kernel_rfl) rfl ?_
 refine .seq (.region ?_)
 refine .pu .as ?_
 refine .nil ?_
 refine .seq (.region ?_)
 refine .pu .mv ?_
 refine .call (copyCheck_sp _ _ _ _ _ h) ?_; rintro _ _ _ ⟨rfl, rfl⟩
 refine .nil ?_
 refine .seq (.region ?_)
 refine .pu .mv ?_
 refine .pu .mv ?_
 refine .pu .nc ?_
 refine .pu .fa ?_
 refine .ld ?_
 refine .pu .mv ?_
 refine .bl (k := 1) (es := [[_]]) fun v13 => ?_
 refine .apz (.sl (.o .l0)) (fun v14 => ?_) (hn := by rw [byL_len]; simp only [List.length_cons, List.length_nil]; show (bs.length + 1) * 1 ≤ _; omega)
 refine .fact (slc_owz .l0) fun ⟨a14, c14, e14⟩ => ?_
 subst e14
 refine .pu .nc ?_
 refine .pu .fa ?_
 refine .st (vs := [_]) ?_
 refine .nil ?_
 refine .seq (.region ?_)
 refine .pu .as ?_
 refine .nil ?_
 refine .ret ?_
 exact ⟨_, .tmp rfl .nil, _, _, (.take (.s (.s .z)) (.take .z .d1)), rfl, ⟨_, by rw [byL_append]; rfl⟩, rfl⟩
theorem string_sp (L P : List Asn) (b : Nat) (sp v : Value) (bs : Bs) (hne : bs ≠ []) (hl : bs.length ≤ 1099511600000) : Sp SEL 40 [pp0 b] (Pt b [sp, v] (tz 0 93) :: OwZ 5 1 v (byL bs) :: L) P (fun r L' P' => r = S bs ∧ L' = L ∧ P' = P) := by
 refine Sp.body (fn := Tryz.f40) (N := 13) (by kernel_rfl) (by kernel_rfl) rfl (by kernel_rfl) rfl ?_
 refine .fact (slc_owz .l1) fun ⟨a0, c0, e0⟩ => ?_
 subst e0
 refine .seq (.region ?_)
 refine .pu .as ?_
 refine .nil ?_
 refine .seq (.drawn (by kernel_rfl) fun base => ?_)
 refine .pu .mv ?_
 refine .pu .nc ?_
 refine .pu .fa ?_
 refine .lo 0 0 .ld .mk ?_
 refine .wo (.usd rfl .l1 (byL_ne hne) (fun b7 n7 c7 e7 => ?_))
 cases e7
 refine .pu .mv ?_
 refine .pu .nc ?_
 refine .pu .fa ?_
 refine .lo 0 1 .ld .mk ?_
 refine .lk (.lnz .l1) ?_
 refine .wo (.ustr rfl rfl (.s .z) hne (by omega) (by rfl) ?_)
 refine .pu .as ?_
 refine .nil (.cons (.yes .mk (.yes .mk (.skip .nil))) (.cons (.yes .mk (.skip (.skip .nil))) .nil)) ?_
 refine .ret ?_
 exact ⟨_, .tmp rfl .nil, _, _, .d1, rfl, rfl, rfl⟩
end Go.Cis
/- The shell's words: numbers and bytes, as the program tells them and as the document does. -/
namespace Go.Cis
open Go Go.Ax Go.Lx Go.Proofs
set_option maxRecDepth 100000
theorem dec_small {m : Nat} (h : m < 10) : Lib.decDigits m = [UInt8.ofNat (48 + m)] := by rw [Lib.decDigits, dif_pos h]
theorem dec_big {m : Nat} (h : ¬ m < 10) : Lib.decDigits m = Lib.decDigits (m / 10) ++ [UInt8.ofNat (48 + m % 10)] := by rw [Lib.decDigits, dif_neg h]
abbrev hexT : Bs := [48, 49, 50, 51, 52, 53, 54, 55, 56, 57, 97, 98, 99, 100, 101, 102]
def hexD (n : Nat) : UInt8 := hexT.getD n 0
theorem hexT_fin : ∀ n : Fin 16, hexT[n.val]? = some (hexD n.val) := by decide +kernel
theorem hexT_at {n : Nat} (h : n < 16) : hexT[((n : Nat) : Int).toNat]? = some (hexD n) := hexT_fin ⟨n, h⟩
def hexB (c : UInt8) : Bs := [hexD (c.toNat / 16), hexD (c.toNat % 16)]
def hexOf (s : Bs) : Bs := s.flatMap hexB
def wordOf (s : Bs) : Bs := if s = [] then [45] else hexOf s
theorem hexOf_len : ∀ s : Bs, (hexOf s).length = 2 * s.length
 | [] => rfl
 | c :: s => by
  show (hexB c ++ hexOf s).length = _
  rw [List.length_append, hexOf_len s, List.length_cons]
  show 2 + _ = _
  omega
theorem land15 (a : Nat) : Nat.land a 15 = a % 16 := Nat.and_two_pow_sub_one_eq_mod a 4
theorem hexOf_take {s : Bs} {i : Nat} (h : i < s.length) : hexOf (s.take (i + 1)) = hexOf (s.take i) ++ hexB s[i] := by
 rw [List.take_succ_eq_append_getElem h]
 unfold hexOf
 rw [List.flatMap_append]
 simp
theorem at_i {s : Bs} {i : Nat} (h : i < s.length) : s[((i : Nat) : Int).toNat]? = some s[i] := List.getElem?_eq_getElem h
theorem word1_sp (L P : List Asn) (s : Bs) (hne : s ≠ []) (hl : s.length ≤ 100000000000) : Sp SEL 22 [S s] L P (fun r L' P' => r = S (hexOf s) ∧ L' = L ∧ P' = P) := by
 refine Sp.body (fn := Tryz.f22) (N := 25) (by kernel_rfl) (by kernel_rfl) rfl (by kernel_rfl) rfl ?_
 refine .seq (.region ?_)
 refine .pu .as ?_
 refine .nil ?_
 refine .seq (.seq (.region ?_))
 refine .pu .mv ?_
 refine .pu (.seq (q := false) (hq := by simpa using hne)) ?_
 refine .nil ?_
 refine .no rfl ?_
 refine .skip ?_
 refine .seq (.region ?_)
 refine .nw (cs := [.pointer none, .slice none 0 0]) fun b3 => ?_
 refine .nil ?_
 refine .seq (.seq (.region ?_))
 refine .pu .mv ?_
 refine .pu .ls ?_
 refine .pu .mv ?_
 refine .nil ?_
 refine .block (W.loop (fun (p : Nat × Value × Value) => p.1 ≤ s.length ∧ (p.2.1 = .pointer none ∨ p.2.1 = pp0 b3)) (fun p => s.length - p.1) (fun p => [(9, .int .i64 (p.1 : Nat)), (8, .int .i64 (s.length : Nat)), (0, S s), (3, pp0 b3)]) (fun p => Pt b3 [p.2.1, p.2.2] (tz 0 93) :: OwZ 5 1 p.2.2 (byL (hexOf (s.take p.1))) :: L) (fun _ => P) (0, .pointer none, .slice none 0 0) ⟨Nat.zero_le _, .inl rfl⟩ ⟨rfl, rfl, rfl, rfl, trivial⟩ (Ent.nonez.trans .swap) (fun p hp => ?_))
 obtain ⟨i, sp, v⟩ := p
 obtain ⟨hi, hsp⟩ := hp
 have hi : i ≤ s.length := hi
 have hsp : sp = .pointer none ∨ sp = pp0 b3 := hsp
 refine .seq (.region ?_)
 refine .pu .cmp ?_
 refine .nil ?_
 refine .seq (.ite rfl (fun h => ?_) (fun h => ?_))
 ·refine .skip ?_
  refine .seq (.block (.seq (.region ?_)))
  have hlt : i < s.length := by have := of_decide_eq_true h; omega
  have hc8 := s[i].toNat_lt
  have hb1 : (hexOf (s.take i)).length ≤ 200000000000 := by rw [hexOf_len, List.length_take]; omega
  refine .pu .mv ?_
  refine .pu .as ?_
  refine .nil ?_
  refine .seq (.region ?_)
  refine .pu .mv ?_
  refine .pu .mv ?_
  refine .pu (.ix (at_i hlt)) ?_
  refine .pu (.i_shr (hc := shr_n _ 4)) ?_
  refine .pu (.ix (a := hexT) (hexT_at (by omega)) rfl rfl) ?_
  refine .call (writeByte_sp _ _ _ _ _ _ _ hsp (Nat.le_trans hb1 (by decide))) ?_; rintro _ _ _ ⟨rfl, ⟨v1, rfl⟩, rfl⟩
  refine .nil ?_
  refine .region ?_
  refine .pu .mv ?_
  refine .pu .mv ?_
  refine .pu (.ix (at_i hlt)) ?_
  refine .pu (.i_and (b := 15) (hr := by rw [land15]; simp only [InR]; omega)) ?_
  refine .pu (.ix (a := hexT) (hexT_at (by rw [land15]; omega)) rfl rfl) ?_
  refine .call (writeByte_sp _ _ b3 _ _ (hexOf (s.take i) ++ [hexD (s[i].toNat / 2 ^ 4)]) _ (.inr rfl) (by rw [List.length_append]; exact Nat.le_trans (Nat.add_le_add_right hb1 1) (by decide))) ?_; rintro _ _ _ ⟨rfl, ⟨v2, rfl⟩, rfl⟩
  refine .nil ?_
  refine .region ?_
  refine .pu .add ?_
  refine .pu .mv ?_
  refine .nil ?_
  refine ⟨(i + 1, pp0 b3, v2), ⟨hlt, .inr rfl⟩, by show s.length - (i + 1) < s.length - i; omega, ⟨rfl, rfl, rfl, rfl, trivial⟩, ?_⟩
  show Ent _ _ (Pt b3 [pp0 b3, v2] _ :: OwZ _ 1 v2 (byL (hexOf (s.take (i + 1)))) :: L) _
  have e : hexOf (s.take (i + 1)) = hexOf (s.take i) ++ [hexD (s[i].toNat / 2 ^ 4)] ++ [hexD (Nat.land s[i].toNat 15)] := by
   rw [hexOf_take hlt, land15, List.append_assoc]
   rfl
  rw [e]
  exact .refl _ _
 refine .exit ?_
 refine .seq (.region ?_)
 have hi2 : i = s.length := by have := of_decide_eq_false h; omega
 have e2 : hexOf (s.take i) = hexOf s := by rw [hi2, List.take_length]
 have hx : hexOf s ≠ [] := fun e => hne (by have := congrArg List.length e; rw [hexOf_len] at this; exact List.length_eq_zero_iff.1 (by have h0 : 2 * s.length = 0 := this; omega))
 refine .call (string_sp _ _ b3 _ _ (hexOf (s.take i)) (by rw [e2]; exact hx) (by rw [e2, hexOf_len]; omega)) ?_; rintro _ L P ⟨rfl, rfl, rfl⟩
 refine .pu .as ?_
 refine .nil ?_
 refine .ret ?_
 exact ⟨_, .tmp rfl .nil, _, _, .refl _ _, by rw [e2]; rfl, rfl, rfl⟩
theorem word0_sp (L P : List Asn) : Sp SEL 22 [S []] L P (fun r L' P' => r = S [45] ∧ L' = L ∧ P' = P) := by
 refine Sp.body (fn := Tryz.f22) (N := 25) (by kernel_rfl) (by kernel_rfl) rfl (by kernel_rfl) rfl ?_
 refine .seq (.region ?_)
 refine .pu .as ?_
 refine .nil ?_
 refine .seq (.seq (.region ?_))
 refine .pu .mv ?_
 refine .pu (.seq (q := true) (hq := rfl)) ?_
 refine .nil ?_
 refine .yes rfl ?_
 refine .seq (.region ?_)
 refine .pu .as ?_
 refine .nil ?_
 refine .ret ?_
 exact ⟨_, .tmp rfl .nil, _, _, .refl _ _, rfl, rfl, rfl⟩
theorem word_sp (L P : List Asn) (s : Bs) (hl : s.length ≤ 100000000000) : Sp SEL 22 [S s] L P (fun r L' P' => r = S (wordOf s) ∧ L' = L ∧ P' = P) := by
 unfold wordOf
 by_cases h : s = []
 ·subst h
  rw [if_pos rfl]
  exact word0_sp L P
 ·rw [if_neg h]
  exact word1_sp L P s h hl
end Go.Cis
/- What is told: any number. -/
namespace Go.Cis
open Go Go.Ax Go.Lx Go.Proofs
set_option maxRecDepth 100000
section
variable {E : Env} {al : Al}
end
end Go.Cis
