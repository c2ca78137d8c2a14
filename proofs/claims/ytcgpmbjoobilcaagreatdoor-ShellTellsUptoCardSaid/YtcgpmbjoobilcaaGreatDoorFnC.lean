/- Replies as texts, the program's way. -/
import Derived.Test.YtcgpmbjoobilcaaGreatDoorFnA
set_option linter.unusedSimpArgs false
set_option linter.unusedVariables false
namespace Go.Cis
open Go Go.Ax Go.Lx Go.Proofs
set_option maxRecDepth 100000
theorem join_sp (L P : List Asn) (v : Value) (xs : List Bs) (sep : Bs) (hv : IsSl 1 v (xs.map fun x => [S x]) L P) (hl : (Lib.join xs sep).length ≤ 1099511627776) (hn : xs.length ≤ 1099511627776) : Sp SEL 23 [v, S sep] L P (fun r L' P' => r = S (Lib.join xs sep) ∧ L' = L ∧ P' = P) := Sp.join rfl hv hl hn
theorem join2 (a b : Bs) : (Lib.join [a, b] [32]).length = a.length + 1 + b.length := by
  simp [Lib.join, List.intercalate]
  omega
theorem wordOf_len (d : Bs) : (wordOf d).length ≤ 2 * d.length + 1 := by
  unfold wordOf
  split
  · simp
  · rw [hexOf_len]; omega
theorem ones_S (xs : List Bs) : ∀ f ∈ xs.map (fun x => [S x]), ones f = true := fun f hf => by
  obtain ⟨x, _, rfl⟩ := List.mem_map.1 hf
  rfl
theorem In_below {A B : Asn} {L P : List Asn} (h : In A L P) : In A (B :: L) P := by
  cases h with
  | l h => exact .l (.tail _ h)
  | p h => exact .p h
theorem _root_.Go.Lx.IsSl.below {k : Nat} {v : Value} {es : List (List Value)} {B : Asn} {L P : List Asn} (h : IsSl k v es L P) : IsSl k v es (B :: L) P := by
  cases h with
  | s h => exact .s (In_below h)
  | o h => exact .o (In_below h)
  | r h => exact .r (In_below h)
abbrev okB : Bs := [111, 107]
/-- A reply, as its cells. -/
abbrev repV (e n : Int) (d : Bs) (vn vm : Value) : Value := .agg ⟨[.int .i64 e, .int .i64 n, S d, vn, vm]⟩
/-- The words of a reply. -/
def wordsOf (k n : Int) (d : Bs) (names : List Bs) (nums : List Int) : List Bs :=
  if k = 3 ∨ k = 17 ∨ k = 18 ∨ k = 20 ∨ k = 21 then [Lib.itoa n] else if k = 5 then [wordOf d] else if k = 12 then names else if k = 13 ∨ k = 22 then nums.map Lib.itoa else []
def tellOf (e k n : Int) (d : Bs) (names : List Bs) (nums : List Int) : Bs :=
  if e ≠ 0 then [101, 114, 114, 111, 114, 32] ++ Lib.itoa e else Lib.join (okB :: wordsOf k n d names nums) [32]
theorem tellE_sp (L P : List Asn) (e k n : Int) (d : Bs) (vn vm : Value) (he : e ≠ 0) (h1 : -9223372036854775808 ≤ e) (h2 : e ≤ 9223372036854775807) (hP : Ro 0 pow10V ∈ P) : Sp SEL 9 [.int .i64 k, repV e n d vn vm] L P (fun r L' P' => r = S ([101, 114, 114, 111, 114, 32] ++ Lib.itoa e) ∧ L' = L ∧ P' = P) := by
  refine Sp.body (fn := Tryz.f9) (N := 59) (by kernel_rfl) (by kernel_rfl) rfl (by kernel_rfl) rfl ?_
  refine .seq (.region ?_)
  refine .bx (cs := [_, _, _, _, _]) fun b3 => ?_
  refine .pu .as ?_
  refine .nil ?_
  refine .seq (.seq (.region ?_))
  refine .pu .fa ?_
  refine .ld ?_
  refine .pu .cy ?_
  refine .nil ?_
  refine .yes rfl ?_
  refine .seq (.region ?_)
  refine .pu .fa ?_
  refine .ld ?_
  refine .call (failed_sp _ _ e h1 h2 hP) ?_; rintro _ _ _ ⟨rfl, rfl, rfl⟩
  refine .pu .as ?_
  refine .nil ?_
  refine .ret ?_
  exact ⟨_, .tmp rfl .nil, _, _, .d1, rfl, rfl, rfl⟩
theorem tell3_sp (L P : List Asn) (n : Int) (d : Bs) (vn vm : Value) (h1 : -9223372036854775808 ≤ n) (h2 : n ≤ 9223372036854775807) (hP : Ro 0 pow10V ∈ P) : Sp SEL 9 [.int .i64 3, repV 0 n d vn vm] L P (fun r L' P' => r = S (Lib.join (okB :: [Lib.itoa n]) [32]) ∧ L' = L ∧ P' = P) := by
  refine Sp.body (fn := Tryz.f9) (N := 59) (by kernel_rfl) (by kernel_rfl) rfl (by kernel_rfl) rfl ?_
  refine .seq (.region ?_)
  refine .bx (cs := [_, _, _, _, _]) fun b3 => ?_
  refine .pu .as ?_
  refine .nil ?_
  refine .seq (.seq (.region ?_))
  refine .pu .fa ?_
  refine .ld ?_
  refine .pu (.cn (hq := by simp [Go.Lx.cmpP])) ?_
  refine .nil ?_
  refine .no rfl ?_
  refine .skip ?_
  refine .seq (.region ?_)
  refine .bl (k := 1) (es := [[S okB]]) fun v14 => ?_
  refine .pu .as ?_
  refine .nil ?_
  refine .seq (.seq (.region ?_))
  refine .pu .mv ?_
  refine .nil ?_
  refine .block (.seq (.seq (.region ?_)))
  refine .pu (.cy (hq := by simp [Go.Lx.cmpP])) ?_
  refine .pu .as ?_
  refine .nil ?_
  refine .yes rfl ?_
  refine .skip ?_
  refine .yes rfl ?_
  refine .region ?_
  refine .pu .mv ?_
  refine .pu .fa ?_
  refine .ld ?_
  refine .call (itoa_sp _ _ n h1 h2 hP) ?_; rintro _ _ _ ⟨rfl, rfl, rfl⟩
  refine .bl (k := 1) (es := [[_]]) fun v26 => ?_
  refine .ap fun v27 => ?_
  refine .pu .as ?_
  refine .nil ?_
  refine .seq (.region ?_)
  refine .pu .mv ?_
  refine .call (join_sp _ _ _ [okB, Lib.itoa n] _ (.o .l0) (by rw [join2]; have := Lib.itoa_length_le n h1 h2; simp only [List.length_cons, List.length_nil]; omega) (by show (2 : Nat) ≤ 1099511627776; decide)) ?_; rintro _ _ _ ⟨rfl, rfl, rfl⟩
  refine .pu .as ?_
  refine .nil ?_
  refine .ret ?_
  exact ⟨_, .tmp rfl .nil, _, _, .d3, rfl, rfl, rfl⟩
theorem tell17_sp (L P : List Asn) (n : Int) (d : Bs) (vn vm : Value) (h1 : -9223372036854775808 ≤ n) (h2 : n ≤ 9223372036854775807) (hP : Ro 0 pow10V ∈ P) : Sp SEL 9 [.int .i64 17, repV 0 n d vn vm] L P (fun r L' P' => r = S (Lib.join (okB :: [Lib.itoa n]) [32]) ∧ L' = L ∧ P' = P) := by
  refine Sp.body (fn := Tryz.f9) (N := 59) (by kernel_rfl) (by kernel_rfl) rfl (by kernel_rfl) rfl ?_
  refine .seq (.region ?_)
  refine .bx (cs := [_, _, _, _, _]) fun b3 => ?_
  refine .pu .as ?_
  refine .nil ?_
  refine .seq (.seq (.region ?_))
  refine .pu .fa ?_
  refine .ld ?_
  refine .pu (.cn (hq := by simp [Go.Lx.cmpP])) ?_
  refine .nil ?_
  refine .no rfl ?_
  refine .skip ?_
  refine .seq (.region ?_)
  refine .bl (k := 1) (es := [[S okB]]) fun v14 => ?_
  refine .pu .as ?_
  refine .nil ?_
  refine .seq (.seq (.region ?_))
  refine .pu .mv ?_
  refine .nil ?_
  refine .block (.seq (.seq (.region ?_)))
  refine .pu (.cn (hq := by simp [Go.Lx.cmpP])) ?_
  refine .pu .as ?_
  refine .nil ?_
  refine .no rfl ?_
  refine .seq (.region ?_)
  refine .pu (.cy (hq := by simp [Go.Lx.cmpP])) ?_
  refine .pu .as ?_
  refine .nil ?_
  refine .yes rfl ?_
  refine .skip ?_
  refine .yes rfl ?_
  refine .region ?_
  refine .pu .mv ?_
  refine .pu .fa ?_
  refine .ld ?_
  refine .call (itoa_sp _ _ n h1 h2 hP) ?_; rintro _ _ _ ⟨rfl, rfl, rfl⟩
  refine .bl (k := 1) (es := [[_]]) fun v26 => ?_
  refine .ap fun v27 => ?_
  refine .pu .as ?_
  refine .nil ?_
  refine .seq (.region ?_)
  refine .pu .mv ?_
  refine .call (join_sp _ _ _ [okB, Lib.itoa n] _ (.o .l0) (by rw [join2]; have := Lib.itoa_length_le n h1 h2; simp only [List.length_cons, List.length_nil]; omega) (by show (2 : Nat) ≤ 1099511627776; decide)) ?_; rintro _ _ _ ⟨rfl, rfl, rfl⟩
  refine .pu .as ?_
  refine .nil ?_
  refine .ret ?_
  exact ⟨_, .tmp rfl .nil, _, _, .d3, rfl, rfl, rfl⟩
theorem tell18_sp (L P : List Asn) (n : Int) (d : Bs) (vn vm : Value) (h1 : -9223372036854775808 ≤ n) (h2 : n ≤ 9223372036854775807) (hP : Ro 0 pow10V ∈ P) : Sp SEL 9 [.int .i64 18, repV 0 n d vn vm] L P (fun r L' P' => r = S (Lib.join (okB :: [Lib.itoa n]) [32]) ∧ L' = L ∧ P' = P) := by
  refine Sp.body (fn := Tryz.f9) (N := 59) (by kernel_rfl) (by kernel_rfl) rfl (by kernel_rfl) rfl ?_
  refine .seq (.region ?_)
  refine .bx (cs := [_, _, _, _, _]) fun b3 => ?_
  refine .pu .as ?_
  refine .nil ?_
  refine .seq (.seq (.region ?_))
  refine .pu .fa ?_
  refine .ld ?_
  refine .pu (.cn (hq := by simp [Go.Lx.cmpP])) ?_
  refine .nil ?_
  refine .no rfl ?_
  refine .skip ?_
  refine .seq (.region ?_)
  refine .bl (k := 1) (es := [[S okB]]) fun v14 => ?_
  refine .pu .as ?_
  refine .nil ?_
  refine .seq (.seq (.region ?_))
  refine .pu .mv ?_
  refine .nil ?_
  refine .block (.seq (.seq (.region ?_)))
  refine .pu (.cn (hq := by simp [Go.Lx.cmpP])) ?_
  refine .pu .as ?_
  refine .nil ?_
  refine .no rfl ?_
  refine .seq (.region ?_)
  refine .pu (.cn (hq := by simp [Go.Lx.cmpP])) ?_
  refine .pu .as ?_
  refine .nil ?_
  refine .no rfl ?_
  refine .seq (.region ?_)
  refine .pu (.cy (hq := by simp [Go.Lx.cmpP])) ?_
  refine .pu .as ?_
  refine .nil ?_
  refine .yes rfl ?_
  refine .skip ?_
  refine .yes rfl ?_
  refine .region ?_
  refine .pu .mv ?_
  refine .pu .fa ?_
  refine .ld ?_
  refine .call (itoa_sp _ _ n h1 h2 hP) ?_; rintro _ _ _ ⟨rfl, rfl, rfl⟩
  refine .bl (k := 1) (es := [[_]]) fun v26 => ?_
  refine .ap fun v27 => ?_
  refine .pu .as ?_
  refine .nil ?_
  refine .seq (.region ?_)
  refine .pu .mv ?_
  refine .call (join_sp _ _ _ [okB, Lib.itoa n] _ (.o .l0) (by rw [join2]; have := Lib.itoa_length_le n h1 h2; simp only [List.length_cons, List.length_nil]; omega) (by show (2 : Nat) ≤ 1099511627776; decide)) ?_; rintro _ _ _ ⟨rfl, rfl, rfl⟩
  refine .pu .as ?_
  refine .nil ?_
  refine .ret ?_
  exact ⟨_, .tmp rfl .nil, _, _, .d3, rfl, rfl, rfl⟩
theorem tell20_sp (L P : List Asn) (n : Int) (d : Bs) (vn vm : Value) (h1 : -9223372036854775808 ≤ n) (h2 : n ≤ 9223372036854775807) (hP : Ro 0 pow10V ∈ P) : Sp SEL 9 [.int .i64 20, repV 0 n d vn vm] L P (fun r L' P' => r = S (Lib.join (okB :: [Lib.itoa n]) [32]) ∧ L' = L ∧ P' = P) := by
  refine Sp.body (fn := Tryz.f9) (N := 59) (by kernel_rfl) (by kernel_rfl) rfl (by kernel_rfl) rfl ?_
  refine .seq (.region ?_)
  refine .bx (cs := [_, _, _, _, _]) fun b3 => ?_
  refine .pu .as ?_
  refine .nil ?_
  refine .seq (.seq (.region ?_))
  refine .pu .fa ?_
  refine .ld ?_
  refine .pu (.cn (hq := by simp [Go.Lx.cmpP])) ?_
  refine .nil ?_
  refine .no rfl ?_
  refine .skip ?_
  refine .seq (.region ?_)
  refine .bl (k := 1) (es := [[S okB]]) fun v14 => ?_
  refine .pu .as ?_
  refine .nil ?_
  refine .seq (.seq (.region ?_))
  refine .pu .mv ?_
  refine .nil ?_
  refine .block (.seq (.seq (.region ?_)))
  refine .pu (.cn (hq := by simp [Go.Lx.cmpP])) ?_
  refine .pu .as ?_
  refine .nil ?_
  refine .no rfl ?_
  refine .seq (.region ?_)
  refine .pu (.cn (hq := by simp [Go.Lx.cmpP])) ?_
  refine .pu .as ?_
  refine .nil ?_
  refine .no rfl ?_
  refine .seq (.region ?_)
  refine .pu (.cn (hq := by simp [Go.Lx.cmpP])) ?_
  refine .pu .as ?_
  refine .nil ?_
  refine .no rfl ?_
  refine .seq (.region ?_)
  refine .pu (.cy (hq := by simp [Go.Lx.cmpP])) ?_
  refine .pu .as ?_
  refine .nil ?_
  refine .yes rfl ?_
  refine .skip ?_
  refine .yes rfl ?_
  refine .region ?_
  refine .pu .mv ?_
  refine .pu .fa ?_
  refine .ld ?_
  refine .call (itoa_sp _ _ n h1 h2 hP) ?_; rintro _ _ _ ⟨rfl, rfl, rfl⟩
  refine .bl (k := 1) (es := [[_]]) fun v26 => ?_
  refine .ap fun v27 => ?_
  refine .pu .as ?_
  refine .nil ?_
  refine .seq (.region ?_)
  refine .pu .mv ?_
  refine .call (join_sp _ _ _ [okB, Lib.itoa n] _ (.o .l0) (by rw [join2]; have := Lib.itoa_length_le n h1 h2; simp only [List.length_cons, List.length_nil]; omega) (by show (2 : Nat) ≤ 1099511627776; decide)) ?_; rintro _ _ _ ⟨rfl, rfl, rfl⟩
  refine .pu .as ?_
  refine .nil ?_
  refine .ret ?_
  exact ⟨_, .tmp rfl .nil, _, _, .d3, rfl, rfl, rfl⟩
theorem tell21_sp (L P : List Asn) (n : Int) (d : Bs) (vn vm : Value) (h1 : -9223372036854775808 ≤ n) (h2 : n ≤ 9223372036854775807) (hP : Ro 0 pow10V ∈ P) : Sp SEL 9 [.int .i64 21, repV 0 n d vn vm] L P (fun r L' P' => r = S (Lib.join (okB :: [Lib.itoa n]) [32]) ∧ L' = L ∧ P' = P) := by
  refine Sp.body (fn := Tryz.f9) (N := 59) (by kernel_rfl) (by kernel_rfl) rfl (by kernel_rfl) rfl ?_
  refine .seq (.region ?_)
  refine .bx (cs := [_, _, _, _, _]) fun b3 => ?_
  refine .pu .as ?_
  refine .nil ?_
  refine .seq (.seq (.region ?_))
  refine .pu .fa ?_
  refine .ld ?_
  refine .pu (.cn (hq := by simp [Go.Lx.cmpP])) ?_
  refine .nil ?_
  refine .no rfl ?_
  refine .skip ?_
  refine .seq (.region ?_)
  refine .bl (k := 1) (es := [[S okB]]) fun v14 => ?_
  refine .pu .as ?_
  refine .nil ?_
  refine .seq (.seq (.region ?_))
  refine .pu .mv ?_
  refine .nil ?_
  refine .block (.seq (.seq (.region ?_)))
  refine .pu (.cn (hq := by simp [Go.Lx.cmpP])) ?_
  refine .pu .as ?_
  refine .nil ?_
  refine .no rfl ?_
  refine .seq (.region ?_)
  refine .pu (.cn (hq := by simp [Go.Lx.cmpP])) ?_
  refine .pu .as ?_
  refine .nil ?_
  refine .no rfl ?_
  refine .seq (.region ?_)
  refine .pu (.cn (hq := by simp [Go.Lx.cmpP])) ?_
  refine .pu .as ?_
  refine .nil ?_
  refine .no rfl ?_
  refine .seq (.region ?_)
  refine .pu (.cn (hq := by simp [Go.Lx.cmpP])) ?_
  refine .pu .as ?_
  refine .nil ?_
  refine .no rfl ?_
  refine .region ?_
  refine .pu (.cy (hq := by simp [Go.Lx.cmpP])) ?_
  refine .pu .as ?_
  refine .nil ?_
  refine .yes rfl ?_
  refine .region ?_
  refine .pu .mv ?_
  refine .pu .fa ?_
  refine .ld ?_
  refine .call (itoa_sp _ _ n h1 h2 hP) ?_; rintro _ _ _ ⟨rfl, rfl, rfl⟩
  refine .bl (k := 1) (es := [[_]]) fun v26 => ?_
  refine .ap fun v27 => ?_
  refine .pu .as ?_
  refine .nil ?_
  refine .seq (.region ?_)
  refine .pu .mv ?_
  refine .call (join_sp _ _ _ [okB, Lib.itoa n] _ (.o .l0) (by rw [join2]; have := Lib.itoa_length_le n h1 h2; simp only [List.length_cons, List.length_nil]; omega) (by show (2 : Nat) ≤ 1099511627776; decide)) ?_; rintro _ _ _ ⟨rfl, rfl, rfl⟩
  refine .pu .as ?_
  refine .nil ?_
  refine .ret ?_
  exact ⟨_, .tmp rfl .nil, _, _, .d3, rfl, rfl, rfl⟩
theorem tell5_sp (L P : List Asn) (n : Int) (d : Bs) (vn vm : Value) (hd : d.length ≤ 100000000000) : Sp SEL 9 [.int .i64 5, repV 0 n d vn vm] L P (fun r L' P' => r = S (Lib.join (okB :: [wordOf d]) [32]) ∧ L' = L ∧ P' = P) := by
  refine Sp.body (fn := Tryz.f9) (N := 59) (by kernel_rfl) (by kernel_rfl) rfl (by kernel_rfl) rfl ?_
  refine .seq (.region ?_)
  refine .bx (cs := [_, _, _, _, _]) fun b3 => ?_
  refine .pu .as ?_
  refine .nil ?_
  refine .seq (.seq (.region ?_))
  refine .pu .fa ?_
  refine .ld ?_
  refine .pu (.cn (hq := by simp [Go.Lx.cmpP])) ?_
  refine .nil ?_
  refine .no rfl ?_
  refine .skip ?_
  refine .seq (.region ?_)
  refine .bl (k := 1) (es := [[S okB]]) fun v14 => ?_
  refine .pu .as ?_
  refine .nil ?_
  refine .seq (.seq (.region ?_))
  refine .pu .mv ?_
  refine .nil ?_
  refine .block (.seq (.seq (.region ?_)))
  refine .pu (.cn (hq := by simp [Go.Lx.cmpP])) ?_
  refine .pu .as ?_
  refine .nil ?_
  refine .no rfl ?_
  refine .seq (.region ?_)
  refine .pu (.cn (hq := by simp [Go.Lx.cmpP])) ?_
  refine .pu .as ?_
  refine .nil ?_
  refine .no rfl ?_
  refine .seq (.region ?_)
  refine .pu (.cn (hq := by simp [Go.Lx.cmpP])) ?_
  refine .pu .as ?_
  refine .nil ?_
  refine .no rfl ?_
  refine .seq (.region ?_)
  refine .pu (.cn (hq := by simp [Go.Lx.cmpP])) ?_
  refine .pu .as ?_
  refine .nil ?_
  refine .no rfl ?_
  refine .region ?_
  refine .pu (.cn (hq := by simp [Go.Lx.cmpP])) ?_
  refine .pu .as ?_
  refine .nil ?_
  refine .no rfl ?_
  refine .seq (.region ?_)
  refine .pu (.cy (hq := by simp [Go.Lx.cmpP])) ?_
  refine .pu .as ?_
  refine .nil ?_
  refine .yes rfl ?_
  refine .region ?_
  refine .pu .mv ?_
  refine .pu .fa ?_
  refine .ld ?_
  refine .call (word_sp _ _ d hd) ?_; rintro _ _ _ ⟨rfl, rfl, rfl⟩
  refine .bl (k := 1) (es := [[_]]) fun v34 => ?_
  refine .ap fun v35 => ?_
  refine .pu .as ?_
  refine .nil ?_
  refine .seq (.region ?_)
  refine .pu .mv ?_
  refine .call (join_sp _ _ _ [okB, wordOf d] _ (.o .l0) (by rw [join2]; have := wordOf_len d; simp only [List.length_cons, List.length_nil]; omega) (by show (2 : Nat) ≤ 1099511627776; decide)) ?_; rintro _ _ _ ⟨rfl, rfl, rfl⟩
  refine .pu .as ?_
  refine .nil ?_
  refine .ret ?_
  exact ⟨_, .tmp rfl .nil, _, _, .d3, rfl, rfl, rfl⟩
theorem tell12_sp (L P : List Asn) (n : Int) (d : Bs) (vn vm : Value) (names : List Bs) (hv : IsSl 1 vn (names.map fun x => [S x]) L P) (hl : (Lib.join (okB :: names) [32]).length ≤ 1099511627776) (hn : names.length ≤ 10000000000) : Sp SEL 9 [.int .i64 12, repV 0 n d vn vm] L P (fun r L' P' => r = S (Lib.join (okB :: names) [32]) ∧ L' = L ∧ P' = P) := by
  refine Sp.body (fn := Tryz.f9) (N := 59) (by kernel_rfl) (by kernel_rfl) rfl (by kernel_rfl) rfl ?_
  refine .seq (.region ?_)
  refine .bx (cs := [_, _, _, _, _]) fun b3 => ?_
  refine .pu .as ?_
  refine .nil ?_
  refine .seq (.seq (.region ?_))
  refine .pu .fa ?_
  refine .ld ?_
  refine .pu (.cn (hq := by simp [Go.Lx.cmpP])) ?_
  refine .nil ?_
  refine .no rfl ?_
  refine .skip ?_
  refine .seq (.region ?_)
  refine .bl (k := 1) (es := [[S okB]]) fun v14 => ?_
  refine .pu .as ?_
  refine .nil ?_
  refine .seq (.seq (.region ?_))
  refine .pu .mv ?_
  refine .nil ?_
  refine .block (.seq (.seq (.region ?_)))
  refine .pu (.cn (hq := by simp [Go.Lx.cmpP])) ?_
  refine .pu .as ?_
  refine .nil ?_
  refine .no rfl ?_
  refine .seq (.region ?_)
  refine .pu (.cn (hq := by simp [Go.Lx.cmpP])) ?_
  refine .pu .as ?_
  refine .nil ?_
  refine .no rfl ?_
  refine .seq (.region ?_)
  refine .pu (.cn (hq := by simp [Go.Lx.cmpP])) ?_
  refine .pu .as ?_
  refine .nil ?_
  refine .no rfl ?_
  refine .seq (.region ?_)
  refine .pu (.cn (hq := by simp [Go.Lx.cmpP])) ?_
  refine .pu .as ?_
  refine .nil ?_
  refine .no rfl ?_
  refine .region ?_
  refine .pu (.cn (hq := by simp [Go.Lx.cmpP])) ?_
  refine .pu .as ?_
  refine .nil ?_
  refine .no rfl ?_
  refine .seq (.region ?_)
  refine .pu (.cn (hq := by simp [Go.Lx.cmpP])) ?_
  refine .pu .as ?_
  refine .nil ?_
  refine .no rfl ?_
  refine .seq (.region ?_)
  refine .pu (.cy (hq := by simp [Go.Lx.cmpP])) ?_
  refine .pu .as ?_
  refine .nil ?_
  refine .yes rfl ?_
  refine .region ?_
  refine .pu .mv ?_
  refine .pu .fa ?_
  refine .ld ?_
  refine .ap (hw := hv.below.below) (fun v41 => ?_) (hn := by rw [List.length_map]; simp only [List.length_cons, List.length_nil]; omega) (ho := ones_S names)
  refine .pu .as ?_
  refine .nil ?_
  refine .seq (.region ?_)
  refine .pu .mv ?_
  refine .call (join_sp _ _ _ (okB :: names) _ (.o .l0) hl (by simp only [List.length_cons]; omega)) ?_; rintro _ _ _ ⟨rfl, rfl, rfl⟩
  refine .pu .as ?_
  refine .nil ?_
  refine .ret ?_
  exact ⟨_, .tmp rfl .nil, _, _, .d2, rfl, rfl, rfl⟩
theorem tell13_sp (L P : List Asn) (n : Int) (d : Bs) (vn vm : Value) (nums : List Int) (hv : IsSl 1 vm (nums.map fun x => [Value.int .i64 x]) L P) (hr : ∀ x ∈ nums, -9223372036854775808 ≤ x ∧ x ≤ 9223372036854775807) (hl : (Lib.join (okB :: nums.map Lib.itoa) [32]).length ≤ 1099511627776) (hn : nums.length ≤ 10000000000) (hP : Ro 0 pow10V ∈ P) : Sp SEL 9 [.int .i64 13, repV 0 n d vn vm] L P (fun r L' P' => r = S (Lib.join (okB :: (nums.map Lib.itoa)) [32]) ∧ L' = L ∧ P' = P) := by
  refine Sp.body (fn := Tryz.f9) (N := 59) (by kernel_rfl) (by kernel_rfl) rfl (by kernel_rfl) rfl ?_
  refine .seq (.region ?_)
  refine .bx (cs := [_, _, _, _, _]) fun b3 => ?_
  refine .pu .as ?_
  refine .nil ?_
  refine .seq (.seq (.region ?_))
  refine .pu .fa ?_
  refine .ld ?_
  refine .pu (.cn (hq := by simp [Go.Lx.cmpP])) ?_
  refine .nil ?_
  refine .no rfl ?_
  refine .skip ?_
  refine .seq (.region ?_)
  refine .bl (k := 1) (es := [[S okB]]) fun v14 => ?_
  refine .pu .as ?_
  refine .nil ?_
  refine .seq (.seq (.region ?_))
  refine .pu .mv ?_
  refine .nil ?_
  refine .block (.seq (.seq (.region ?_)))
  refine .pu (.cn (hq := by simp [Go.Lx.cmpP])) ?_
  refine .pu .as ?_
  refine .nil ?_
  refine .no rfl ?_
  refine .seq (.region ?_)
  refine .pu (.cn (hq := by simp [Go.Lx.cmpP])) ?_
  refine .pu .as ?_
  refine .nil ?_
  refine .no rfl ?_
  refine .seq (.region ?_)
  refine .pu (.cn (hq := by simp [Go.Lx.cmpP])) ?_
  refine .pu .as ?_
  refine .nil ?_
  refine .no rfl ?_
  refine .seq (.region ?_)
  refine .pu (.cn (hq := by simp [Go.Lx.cmpP])) ?_
  refine .pu .as ?_
  refine .nil ?_
  refine .no rfl ?_
  refine .region ?_
  refine .pu (.cn (hq := by simp [Go.Lx.cmpP])) ?_
  refine .pu .as ?_
  refine .nil ?_
  refine .no rfl ?_
  refine .seq (.region ?_)
  refine .pu (.cn (hq := by simp [Go.Lx.cmpP])) ?_
  refine .pu .as ?_
  refine .nil ?_
  refine .no rfl ?_
  refine .seq (.region ?_)
  refine .pu (.cn (hq := by simp [Go.Lx.cmpP])) ?_
  refine .pu .as ?_
  refine .nil ?_
  refine .no rfl ?_
  refine .seq (.seq (.region ?_))
  refine .pu (.cy (hq := by simp [Go.Lx.cmpP])) ?_
  refine .pu .as ?_
  refine .nil ?_
  refine .yes rfl ?_
  refine .skip ?_
  refine .yes rfl ?_
  refine .seq (.region ?_)
  refine .pu .fa ?_
  refine .ld ?_
  refine .lk (.ln (hm := hv.below.below)) ?_
  refine .pu .mv ?_
  refine .nil ?_
  refine .block (W.loop (fun (p : Nat × Value) => p.1 ≤ nums.length) (fun p => nums.length - p.1) (fun p => [(48, .int .i64 (p.1 : Nat)), (47, .int .i64 ((nums.map fun x => [Value.int .i64 x]).length : Nat)), (46, vm), (5, p.2)]) (fun p => Ow 1 p.2 ((okB :: (nums.take p.1).map Lib.itoa).map fun x => [S x]) :: Pt b3 [.int .i64 0, .int .i64 n, S d, vn, vm] (tz 0 28) :: L) (fun _ => P) (0, v14) (Nat.zero_le _) ⟨rfl, rfl, rfl, rfl, trivial⟩ (.refl _ _) (fun p hi => ?_))
  obtain ⟨i, v⟩ := p
  have hi : i ≤ nums.length := hi
  refine .seq (.region ?_)
  refine .pu .cmp ?_
  refine .nil ?_
  refine .seq (.ite rfl (fun h => ?_) (fun h => ?_))
  · refine .skip ?_
    refine .seq (.block (.seq (.region ?_)))
    have hlt : i < nums.length := by have := of_decide_eq_true h; rw [List.length_map] at this; omega
    have hx := hr nums[i] (List.getElem_mem hlt)
    refine .lk (.ia (hm := hv.below.below) (hn := by rw [List.length_map]; omega)) ?_
    refine .le (by rw [List.getElem?_map]; exact congrArg _ (List.getElem?_eq_getElem (i := ((i : Nat) : Int).toNat) hlt)) ?_ (hm := hv.below.below)
    refine .pu .as ?_
    refine .nil ?_
    refine .region ?_
    refine .pu .mv ?_
    refine .pu .mv ?_
    refine .call (itoa_sp _ _ nums[i] hx.1 hx.2 hP) ?_; rintro _ _ _ ⟨rfl, rfl, rfl⟩
    refine .bl (k := 1) (es := [[_]]) fun v55 => ?_
    refine .ap (fun v56 => ?_) (hn := by rw [List.length_map, List.length_cons, List.length_map, List.length_take]; simp only [List.length_cons, List.length_nil]; omega)
    refine .pu .as ?_
    refine .nil ?_
    refine .region ?_
    refine .pu .add ?_
    refine .pu .mv ?_
    refine .nil ?_
    refine ⟨(i + 1, v56), hlt, by show nums.length - (i + 1) < nums.length - i; omega, ⟨rfl, rfl, rfl, rfl, trivial⟩, ?_⟩
    show Ent _ _ (Ow 1 v56 ((okB :: (nums.take (i + 1)).map Lib.itoa).map fun x => [S x]) :: _) _
    have e : ((okB :: (nums.take (i + 1)).map Lib.itoa).map fun x => [S x]) = ((okB :: (nums.take i).map Lib.itoa).map fun x => [S x]) ++ [[S (Lib.itoa nums[i])]] := by
      rw [List.take_succ_eq_append_getElem hlt, List.map_append, ← List.cons_append, List.map_append]
      rfl
    rw [e]
    exact .take .z .d1
  refine .exit ?_
  refine .seq (.region ?_)
  have hi2 : i = nums.length := by have := of_decide_eq_false h; rw [List.length_map] at this; omega
  subst hi2
  rw [List.take_length]
  refine .pu .mv ?_
  refine .call (join_sp _ _ _ (okB :: nums.map Lib.itoa) _ (.o .l0) hl (by simp only [List.length_cons, List.length_map]; omega)) ?_; rintro _ _ _ ⟨rfl, rfl, rfl⟩
  refine .pu .as ?_
  refine .nil ?_
  refine .ret ?_
  exact ⟨_, .tmp rfl .nil, _, _, .d2, rfl, rfl, rfl⟩
theorem tell22_sp (L P : List Asn) (n : Int) (d : Bs) (vn vm : Value) (nums : List Int) (hv : IsSl 1 vm (nums.map fun x => [Value.int .i64 x]) L P) (hr : ∀ x ∈ nums, -9223372036854775808 ≤ x ∧ x ≤ 9223372036854775807) (hl : (Lib.join (okB :: nums.map Lib.itoa) [32]).length ≤ 1099511627776) (hn : nums.length ≤ 10000000000) (hP : Ro 0 pow10V ∈ P) : Sp SEL 9 [.int .i64 22, repV 0 n d vn vm] L P (fun r L' P' => r = S (Lib.join (okB :: (nums.map Lib.itoa)) [32]) ∧ L' = L ∧ P' = P) := by
  refine Sp.body (fn := Tryz.f9) (N := 59) (by kernel_rfl) (by kernel_rfl) rfl (by kernel_rfl) rfl ?_
  refine .seq (.region ?_)
  refine .bx (cs := [_, _, _, _, _]) fun b3 => ?_
  refine .pu .as ?_
  refine .nil ?_
  refine .seq (.seq (.region ?_))
  refine .pu .fa ?_
  refine .ld ?_
  refine .pu (.cn (hq := by simp [Go.Lx.cmpP])) ?_
  refine .nil ?_
  refine .no rfl ?_
  refine .skip ?_
  refine .seq (.region ?_)
  refine .bl (k := 1) (es := [[S okB]]) fun v14 => ?_
  refine .pu .as ?_
  refine .nil ?_
  refine .seq (.seq (.region ?_))
  refine .pu .mv ?_
  refine .nil ?_
  refine .block (.seq (.seq (.region ?_)))
  refine .pu (.cn (hq := by simp [Go.Lx.cmpP])) ?_
  refine .pu .as ?_
  refine .nil ?_
  refine .no rfl ?_
  refine .seq (.region ?_)
  refine .pu (.cn (hq := by simp [Go.Lx.cmpP])) ?_
  refine .pu .as ?_
  refine .nil ?_
  refine .no rfl ?_
  refine .seq (.region ?_)
  refine .pu (.cn (hq := by simp [Go.Lx.cmpP])) ?_
  refine .pu .as ?_
  refine .nil ?_
  refine .no rfl ?_
  refine .seq (.region ?_)
  refine .pu (.cn (hq := by simp [Go.Lx.cmpP])) ?_
  refine .pu .as ?_
  refine .nil ?_
  refine .no rfl ?_
  refine .region ?_
  refine .pu (.cn (hq := by simp [Go.Lx.cmpP])) ?_
  refine .pu .as ?_
  refine .nil ?_
  refine .no rfl ?_
  refine .seq (.region ?_)
  refine .pu (.cn (hq := by simp [Go.Lx.cmpP])) ?_
  refine .pu .as ?_
  refine .nil ?_
  refine .no rfl ?_
  refine .seq (.region ?_)
  refine .pu (.cn (hq := by simp [Go.Lx.cmpP])) ?_
  refine .pu .as ?_
  refine .nil ?_
  refine .no rfl ?_
  refine .seq (.seq (.region ?_))
  refine .pu (.cn (hq := by simp [Go.Lx.cmpP])) ?_
  refine .pu .as ?_
  refine .nil ?_
  refine .no rfl ?_
  refine .region ?_
  refine .pu (.cy (hq := by simp [Go.Lx.cmpP])) ?_
  refine .pu .as ?_
  refine .nil ?_
  refine .yes rfl ?_
  refine .seq (.region ?_)
  refine .pu .fa ?_
  refine .ld ?_
  refine .lk (.ln (hm := hv.below.below)) ?_
  refine .pu .mv ?_
  refine .nil ?_
  refine .block (W.loop (fun (p : Nat × Value) => p.1 ≤ nums.length) (fun p => nums.length - p.1) (fun p => [(48, .int .i64 (p.1 : Nat)), (47, .int .i64 ((nums.map fun x => [Value.int .i64 x]).length : Nat)), (46, vm), (5, p.2)]) (fun p => Ow 1 p.2 ((okB :: (nums.take p.1).map Lib.itoa).map fun x => [S x]) :: Pt b3 [.int .i64 0, .int .i64 n, S d, vn, vm] (tz 0 28) :: L) (fun _ => P) (0, v14) (Nat.zero_le _) ⟨rfl, rfl, rfl, rfl, trivial⟩ (.refl _ _) (fun p hi => ?_))
  obtain ⟨i, v⟩ := p
  have hi : i ≤ nums.length := hi
  refine .seq (.region ?_)
  refine .pu .cmp ?_
  refine .nil ?_
  refine .seq (.ite rfl (fun h => ?_) (fun h => ?_))
  · refine .skip ?_
    refine .seq (.block (.seq (.region ?_)))
    have hlt : i < nums.length := by have := of_decide_eq_true h; rw [List.length_map] at this; omega
    have hx := hr nums[i] (List.getElem_mem hlt)
    refine .lk (.ia (hm := hv.below.below) (hn := by rw [List.length_map]; omega)) ?_
    refine .le (by rw [List.getElem?_map]; exact congrArg _ (List.getElem?_eq_getElem (i := ((i : Nat) : Int).toNat) hlt)) ?_ (hm := hv.below.below)
    refine .pu .as ?_
    refine .nil ?_
    refine .region ?_
    refine .pu .mv ?_
    refine .pu .mv ?_
    refine .call (itoa_sp _ _ nums[i] hx.1 hx.2 hP) ?_; rintro _ _ _ ⟨rfl, rfl, rfl⟩
    refine .bl (k := 1) (es := [[_]]) fun v55 => ?_
    refine .ap (fun v56 => ?_) (hn := by rw [List.length_map, List.length_cons, List.length_map, List.length_take]; simp only [List.length_cons, List.length_nil]; omega)
    refine .pu .as ?_
    refine .nil ?_
    refine .region ?_
    refine .pu .add ?_
    refine .pu .mv ?_
    refine .nil ?_
    refine ⟨(i + 1, v56), hlt, by show nums.length - (i + 1) < nums.length - i; omega, ⟨rfl, rfl, rfl, rfl, trivial⟩, ?_⟩
    show Ent _ _ (Ow 1 v56 ((okB :: (nums.take (i + 1)).map Lib.itoa).map fun x => [S x]) :: _) _
    have e : ((okB :: (nums.take (i + 1)).map Lib.itoa).map fun x => [S x]) = ((okB :: (nums.take i).map Lib.itoa).map fun x => [S x]) ++ [[S (Lib.itoa nums[i])]] := by
      rw [List.take_succ_eq_append_getElem hlt, List.map_append, ← List.cons_append, List.map_append]
      rfl
    rw [e]
    exact .take .z .d1
  refine .exit ?_
  refine .seq (.region ?_)
  have hi2 : i = nums.length := by have := of_decide_eq_false h; rw [List.length_map] at this; omega
  subst hi2
  rw [List.take_length]
  refine .pu .mv ?_
  refine .call (join_sp _ _ _ (okB :: nums.map Lib.itoa) _ (.o .l0) hl (by simp only [List.length_cons, List.length_map]; omega)) ?_; rintro _ _ _ ⟨rfl, rfl, rfl⟩
  refine .pu .as ?_
  refine .nil ?_
  refine .ret ?_
  exact ⟨_, .tmp rfl .nil, _, _, .d2, rfl, rfl, rfl⟩
theorem tellO_sp (L P : List Asn) (k : Int) (hk : k ≠ 3 ∧ k ≠ 17 ∧ k ≠ 18 ∧ k ≠ 20 ∧ k ≠ 21 ∧ k ≠ 5 ∧ k ≠ 12 ∧ k ≠ 13 ∧ k ≠ 22) (n : Int) (d : Bs) (vn vm : Value) : Sp SEL 9 [.int .i64 k, repV 0 n d vn vm] L P (fun r L' P' => r = S (Lib.join (okB :: []) [32]) ∧ L' = L ∧ P' = P) := by
  refine Sp.body (fn := Tryz.f9) (N := 59) (by kernel_rfl) (by kernel_rfl) rfl (by kernel_rfl) rfl ?_
  refine .seq (.region ?_)
  refine .bx (cs := [_, _, _, _, _]) fun b3 => ?_
  refine .pu .as ?_
  refine .nil ?_
  refine .seq (.seq (.region ?_))
  refine .pu .fa ?_
  refine .ld ?_
  refine .pu (.cn (hq := by simp [Go.Lx.cmpP])) ?_
  refine .nil ?_
  refine .no rfl ?_
  refine .skip ?_
  refine .seq (.region ?_)
  refine .bl (k := 1) (es := [[S okB]]) fun v14 => ?_
  refine .pu .as ?_
  refine .nil ?_
  refine .seq (.seq (.region ?_))
  refine .pu .mv ?_
  refine .nil ?_
  refine .block (.seq (.seq (.region ?_)))
  refine .pu .cn ?_
  refine .pu .as ?_
  refine .nil ?_
  refine .no rfl ?_
  refine .seq (.region ?_)
  refine .pu .cn ?_
  refine .pu .as ?_
  refine .nil ?_
  refine .no rfl ?_
  refine .seq (.region ?_)
  refine .pu .cn ?_
  refine .pu .as ?_
  refine .nil ?_
  refine .no rfl ?_
  refine .seq (.region ?_)
  refine .pu .cn ?_
  refine .pu .as ?_
  refine .nil ?_
  refine .no rfl ?_
  refine .region ?_
  refine .pu .cn ?_
  refine .pu .as ?_
  refine .nil ?_
  refine .no rfl ?_
  refine .seq (.region ?_)
  refine .pu .cn ?_
  refine .pu .as ?_
  refine .nil ?_
  refine .no rfl ?_
  refine .seq (.region ?_)
  refine .pu .cn ?_
  refine .pu .as ?_
  refine .nil ?_
  refine .no rfl ?_
  refine .seq (.seq (.region ?_))
  refine .pu .cn ?_
  refine .pu .as ?_
  refine .nil ?_
  refine .no rfl ?_
  refine .region ?_
  refine .pu .cn ?_
  refine .pu .as ?_
  refine .nil ?_
  refine .no rfl ?_
  refine .skip ?_
  refine .seq (.region ?_)
  refine .pu .mv ?_
  refine .call (join_sp _ _ _ [okB] [32] (.o .l0) (by rw [Lib.join_one]; show (2 : Nat) ≤ 1099511627776; decide) (by show (1 : Nat) ≤ 1099511627776; decide)) ?_; rintro _ _ _ ⟨rfl, rfl, rfl⟩
  refine .pu .as ?_
  refine .nil ?_
  refine .ret ?_
  exact ⟨_, .tmp rfl .nil, _, _, .d2, rfl, rfl, rfl⟩
end Go.Cis
/- Replies as texts, the document's way. -/
namespace Go.Cis
open Go Go.Ax Go.Lx Go.Proofs
set_option maxRecDepth 100000
/-- The text so far. -/
def soFar (xs : List Bs) (i : Nat) : Bs := okB ++ Lib.joinTail [32] (xs.take i)
theorem soFar_zero (xs : List Bs) : soFar xs 0 = okB := rfl
theorem soFar_all (xs : List Bs) : soFar xs xs.length = Lib.join (okB :: xs) [32] := by
  unfold soFar
  rw [List.take_length, Lib.join_cons]
theorem soFar_succ {xs : List Bs} {i : Nat} (h : i < xs.length) : soFar xs (i + 1) = soFar xs i ++ [32] ++ xs[i] := by
  unfold soFar Lib.joinTail
  rw [List.take_succ_eq_append_getElem h, List.map_append, List.flatten_append]
  simp
theorem soFar_le (xs : List Bs) : ∀ (d i : Nat), i + d ≤ xs.length → (soFar xs i).length ≤ (soFar xs (i + d)).length
  | 0, i, _ => Nat.le_refl _
  | d + 1, i, h => by
    have := soFar_le xs d i (by omega)
    rw [show i + (d + 1) = (i + d) + 1 by omega, soFar_succ (by omega), List.length_append, List.length_append]
    omega
theorem soFar_len {xs : List Bs} {i : Nat} (h : i < xs.length) (hl : (Lib.join (okB :: xs) [32]).length ≤ 1099511627776) : (soFar xs i).length + 1 + (xs[i]).length ≤ 1099511627776 := by
  rw [← soFar_all] at hl
  have h1 := soFar_le xs (xs.length - (i + 1)) (i + 1) (by omega)
  rw [show i + 1 + (xs.length - (i + 1)) = xs.length by omega, soFar_succ h, List.length_append, List.length_append] at h1
  simp only [List.length_cons, List.length_nil] at h1
  omega
theorem join2' (a b : Bs) : Lib.join [a, b] [32] = a ++ [32] ++ b := by
  rw [Lib.join_cons]
  simp [Lib.joinTail]
abbrev errB : Bs := [101, 114, 114, 111, 114, 32]
theorem rtellE_sp (L P : List Asn) (e k n : Int) (d : Bs) (vn vm : Value) (he : e ≠ 0) (h1 : -9223372036854775808 ≤ e) (h2 : e ≤ 9223372036854775807) : Sp SEL 10 [.int .i64 k, repV e n d vn vm] L P (fun r L' P' => r = S ([101, 114, 114, 111, 114, 32] ++ Lib.itoa e) ∧ L' = L ∧ P' = P) := by
  refine Sp.body (fn := Tryz.f10) (N := 72) (by kernel_rfl) (by kernel_rfl) rfl (by kernel_rfl) rfl ?_
  refine .seq (.region ?_)
  refine .bx (cs := [_, _, _, _, _]) fun b3 => ?_
  refine .pu .as ?_
  refine .nil ?_
  refine .seq (.seq (.region ?_))
  refine .pu .fa ?_
  refine .ld ?_
  refine .pu .cy ?_
  refine .nil ?_
  refine .yes rfl ?_
  refine .seq (.region ?_)
  refine .pu .fa ?_
  refine .ld ?_
  refine .call (told_sp _ _ e h1 h2) ?_; rintro _ _ _ ⟨rfl, rfl, rfl⟩
  refine .pu (.cat rfl rfl (by have := Lib.itoa_length_le e h1 h2; simp only [List.length_cons, List.length_nil]; omega)) ?_
  refine .pu .as ?_
  refine .nil ?_
  refine .ret ?_
  exact ⟨_, .tmp rfl .nil, _, _, .d1, rfl, rfl, rfl⟩
theorem rtell3_sp (L P : List Asn) (n : Int) (d : Bs) (vn vm : Value) (h1 : -9223372036854775808 ≤ n) (h2 : n ≤ 9223372036854775807) : Sp SEL 10 [.int .i64 3, repV 0 n d vn vm] L P (fun r L' P' => r = S (Lib.join (okB :: [Lib.itoa n]) [32]) ∧ L' = L ∧ P' = P) := by
  refine Sp.body (fn := Tryz.f10) (N := 72) (by kernel_rfl) (by kernel_rfl) rfl (by kernel_rfl) rfl ?_
  refine .seq (.region ?_)
  refine .bx (cs := [_, _, _, _, _]) fun b3 => ?_
  refine .pu .as ?_
  refine .nil ?_
  refine .seq (.seq (.region ?_))
  refine .pu .fa ?_
  refine .ld ?_
  refine .pu (.cn (hq := by simp [Go.Lx.cmpP])) ?_
  refine .nil ?_
  refine .no rfl ?_
  refine .skip ?_
  refine .seq (.region ?_)
  refine .pu .as ?_
  refine .nil ?_
  refine .seq (.seq (.region ?_))
  refine .pu .mv ?_
  refine .nil ?_
  refine .block (.seq (.seq (.region ?_)))
  refine .pu (.cy (hq := by simp [Go.Lx.cmpP])) ?_
  refine .pu .as ?_
  refine .nil ?_
  refine .yes rfl ?_
  refine .skip ?_
  refine .yes rfl ?_
  refine .region ?_
  refine .pu .mv ?_
  refine .pu (.cat rfl rfl (by simp only [List.length_cons, List.length_nil]; omega)) ?_
  refine .pu .fa ?_
  refine .ld ?_
  refine .call (told_sp _ _ n h1 h2) ?_; rintro _ _ _ ⟨rfl, rfl, rfl⟩
  refine .pu (.cat rfl rfl (by have := Lib.itoa_length_le n h1 h2; simp only [List.length_append, List.length_cons, List.length_nil]; omega)) ?_
  refine .pu .as ?_
  refine .nil ?_
  refine .seq (.region ?_)
  refine .pu .mv ?_
  refine .pu .as ?_
  refine .nil ?_
  refine .ret ?_
  exact ⟨_, .tmp rfl .nil, _, _, .d1, by rw [join2']; rfl, rfl, rfl⟩
theorem rtell17_sp (L P : List Asn) (n : Int) (d : Bs) (vn vm : Value) (h1 : -9223372036854775808 ≤ n) (h2 : n ≤ 9223372036854775807) : Sp SEL 10 [.int .i64 17, repV 0 n d vn vm] L P (fun r L' P' => r = S (Lib.join (okB :: [Lib.itoa n]) [32]) ∧ L' = L ∧ P' = P) := by
  refine Sp.body (fn := Tryz.f10) (N := 72) (by kernel_rfl) (by kernel_rfl) rfl (by kernel_rfl) rfl ?_
  refine .seq (.region ?_)
  refine .bx (cs := [_, _, _, _, _]) fun b3 => ?_
  refine .pu .as ?_
  refine .nil ?_
  refine .seq (.seq (.region ?_))
  refine .pu .fa ?_
  refine .ld ?_
  refine .pu (.cn (hq := by simp [Go.Lx.cmpP])) ?_
  refine .nil ?_
  refine .no rfl ?_
  refine .skip ?_
  refine .seq (.region ?_)
  refine .pu .as ?_
  refine .nil ?_
  refine .seq (.seq (.region ?_))
  refine .pu .mv ?_
  refine .nil ?_
  refine .block (.seq (.seq (.region ?_)))
  refine .pu (.cn (hq := by simp [Go.Lx.cmpP])) ?_
  refine .pu .as ?_
  refine .nil ?_
  refine .no rfl ?_
  refine .seq (.region ?_)
  refine .pu (.cy (hq := by simp [Go.Lx.cmpP])) ?_
  refine .pu .as ?_
  refine .nil ?_
  refine .yes rfl ?_
  refine .skip ?_
  refine .yes rfl ?_
  refine .region ?_
  refine .pu .mv ?_
  refine .pu (.cat rfl rfl (by simp only [List.length_cons, List.length_nil]; omega)) ?_
  refine .pu .fa ?_
  refine .ld ?_
  refine .call (told_sp _ _ n h1 h2) ?_; rintro _ _ _ ⟨rfl, rfl, rfl⟩
  refine .pu (.cat rfl rfl (by have := Lib.itoa_length_le n h1 h2; simp only [List.length_append, List.length_cons, List.length_nil]; omega)) ?_
  refine .pu .as ?_
  refine .nil ?_
  refine .seq (.region ?_)
  refine .pu .mv ?_
  refine .pu .as ?_
  refine .nil ?_
  refine .ret ?_
  exact ⟨_, .tmp rfl .nil, _, _, .d1, by rw [join2']; rfl, rfl, rfl⟩
theorem rtell18_sp (L P : List Asn) (n : Int) (d : Bs) (vn vm : Value) (h1 : -9223372036854775808 ≤ n) (h2 : n ≤ 9223372036854775807) : Sp SEL 10 [.int .i64 18, repV 0 n d vn vm] L P (fun r L' P' => r = S (Lib.join (okB :: [Lib.itoa n]) [32]) ∧ L' = L ∧ P' = P) := by
  refine Sp.body (fn := Tryz.f10) (N := 72) (by kernel_rfl) (by kernel_rfl) rfl (by kernel_rfl) rfl ?_
  refine .seq (.region ?_)
  refine .bx (cs := [_, _, _, _, _]) fun b3 => ?_
  refine .pu .as ?_
  refine .nil ?_
  refine .seq (.seq (.region ?_))
  refine .pu .fa ?_
  refine .ld ?_
  refine .pu (.cn (hq := by simp [Go.Lx.cmpP])) ?_
  refine .nil ?_
  refine .no rfl ?_
  refine .skip ?_
  refine .seq (.region ?_)
  refine .pu .as ?_
  refine .nil ?_
  refine .seq (.seq (.region ?_))
  refine .pu .mv ?_
  refine .nil ?_
  refine .block (.seq (.seq (.region ?_)))
  refine .pu (.cn (hq := by simp [Go.Lx.cmpP])) ?_
  refine .pu .as ?_
  refine .nil ?_
  refine .no rfl ?_
  refine .seq (.region ?_)
  refine .pu (.cn (hq := by simp [Go.Lx.cmpP])) ?_
  refine .pu .as ?_
  refine .nil ?_
  refine .no rfl ?_
  refine .seq (.region ?_)
  refine .pu (.cy (hq := by simp [Go.Lx.cmpP])) ?_
  refine .pu .as ?_
  refine .nil ?_
  refine .yes rfl ?_
  refine .skip ?_
  refine .yes rfl ?_
  refine .region ?_
  refine .pu .mv ?_
  refine .pu (.cat rfl rfl (by simp only [List.length_cons, List.length_nil]; omega)) ?_
  refine .pu .fa ?_
  refine .ld ?_
  refine .call (told_sp _ _ n h1 h2) ?_; rintro _ _ _ ⟨rfl, rfl, rfl⟩
  refine .pu (.cat rfl rfl (by have := Lib.itoa_length_le n h1 h2; simp only [List.length_append, List.length_cons, List.length_nil]; omega)) ?_
  refine .pu .as ?_
  refine .nil ?_
  refine .seq (.region ?_)
  refine .pu .mv ?_
  refine .pu .as ?_
  refine .nil ?_
  refine .ret ?_
  exact ⟨_, .tmp rfl .nil, _, _, .d1, by rw [join2']; rfl, rfl, rfl⟩
theorem rtell20_sp (L P : List Asn) (n : Int) (d : Bs) (vn vm : Value) (h1 : -9223372036854775808 ≤ n) (h2 : n ≤ 9223372036854775807) : Sp SEL 10 [.int .i64 20, repV 0 n d vn vm] L P (fun r L' P' => r = S (Lib.join (okB :: [Lib.itoa n]) [32]) ∧ L' = L ∧ P' = P) := by
  refine Sp.body (fn := Tryz.f10) (N := 72) (by kernel_rfl) (by kernel_rfl) rfl (by kernel_rfl) rfl ?_
  refine .seq (.region ?_)
  refine .bx (cs := [_, _, _, _, _]) fun b3 => ?_
  refine .pu .as ?_
  refine .nil ?_
  refine .seq (.seq (.region ?_))
  refine .pu .fa ?_
  refine .ld ?_
  refine .pu (.cn (hq := by simp [Go.Lx.cmpP])) ?_
  refine .nil ?_
  refine .no rfl ?_
  refine .skip ?_
  refine .seq (.region ?_)
  refine .pu .as ?_
  refine .nil ?_
  refine .seq (.seq (.region ?_))
  refine .pu .mv ?_
  refine .nil ?_
  refine .block (.seq (.seq (.region ?_)))
  refine .pu (.cn (hq := by simp [Go.Lx.cmpP])) ?_
  refine .pu .as ?_
  refine .nil ?_
  refine .no rfl ?_
  refine .seq (.region ?_)
  refine .pu (.cn (hq := by simp [Go.Lx.cmpP])) ?_
  refine .pu .as ?_
  refine .nil ?_
  refine .no rfl ?_
  refine .seq (.region ?_)
  refine .pu (.cn (hq := by simp [Go.Lx.cmpP])) ?_
  refine .pu .as ?_
  refine .nil ?_
  refine .no rfl ?_
  refine .seq (.region ?_)
  refine .pu (.cy (hq := by simp [Go.Lx.cmpP])) ?_
  refine .pu .as ?_
  refine .nil ?_
  refine .yes rfl ?_
  refine .skip ?_
  refine .yes rfl ?_
  refine .region ?_
  refine .pu .mv ?_
  refine .pu (.cat rfl rfl (by simp only [List.length_cons, List.length_nil]; omega)) ?_
  refine .pu .fa ?_
  refine .ld ?_
  refine .call (told_sp _ _ n h1 h2) ?_; rintro _ _ _ ⟨rfl, rfl, rfl⟩
  refine .pu (.cat rfl rfl (by have := Lib.itoa_length_le n h1 h2; simp only [List.length_append, List.length_cons, List.length_nil]; omega)) ?_
  refine .pu .as ?_
  refine .nil ?_
  refine .seq (.region ?_)
  refine .pu .mv ?_
  refine .pu .as ?_
  refine .nil ?_
  refine .ret ?_
  exact ⟨_, .tmp rfl .nil, _, _, .d1, by rw [join2']; rfl, rfl, rfl⟩
theorem rtell21_sp (L P : List Asn) (n : Int) (d : Bs) (vn vm : Value) (h1 : -9223372036854775808 ≤ n) (h2 : n ≤ 9223372036854775807) : Sp SEL 10 [.int .i64 21, repV 0 n d vn vm] L P (fun r L' P' => r = S (Lib.join (okB :: [Lib.itoa n]) [32]) ∧ L' = L ∧ P' = P) := by
  refine Sp.body (fn := Tryz.f10) (N := 72) (by kernel_rfl) (by kernel_rfl) rfl (by kernel_rfl) rfl ?_
  refine .seq (.region ?_)
  refine .bx (cs := [_, _, _, _, _]) fun b3 => ?_
  refine .pu .as ?_
  refine .nil ?_
  refine .seq (.seq (.region ?_))
  refine .pu .fa ?_
  refine .ld ?_
  refine .pu (.cn (hq := by simp [Go.Lx.cmpP])) ?_
  refine .nil ?_
  refine .no rfl ?_
  refine .skip ?_
  refine .seq (.region ?_)
  refine .pu .as ?_
  refine .nil ?_
  refine .seq (.seq (.region ?_))
  refine .pu .mv ?_
  refine .nil ?_
  refine .block (.seq (.seq (.region ?_)))
  refine .pu (.cn (hq := by simp [Go.Lx.cmpP])) ?_
  refine .pu .as ?_
  refine .nil ?_
  refine .no rfl ?_
  refine .seq (.region ?_)
  refine .pu (.cn (hq := by simp [Go.Lx.cmpP])) ?_
  refine .pu .as ?_
  refine .nil ?_
  refine .no rfl ?_
  refine .seq (.region ?_)
  refine .pu (.cn (hq := by simp [Go.Lx.cmpP])) ?_
  refine .pu .as ?_
  refine .nil ?_
  refine .no rfl ?_
  refine .seq (.region ?_)
  refine .pu (.cn (hq := by simp [Go.Lx.cmpP])) ?_
  refine .pu .as ?_
  refine .nil ?_
  refine .no rfl ?_
  refine .region ?_
  refine .pu (.cy (hq := by simp [Go.Lx.cmpP])) ?_
  refine .pu .as ?_
  refine .nil ?_
  refine .yes rfl ?_
  refine .region ?_
  refine .pu .mv ?_
  refine .pu (.cat rfl rfl (by simp only [List.length_cons, List.length_nil]; omega)) ?_
  refine .pu .fa ?_
  refine .ld ?_
  refine .call (told_sp _ _ n h1 h2) ?_; rintro _ _ _ ⟨rfl, rfl, rfl⟩
  refine .pu (.cat rfl rfl (by have := Lib.itoa_length_le n h1 h2; simp only [List.length_append, List.length_cons, List.length_nil]; omega)) ?_
  refine .pu .as ?_
  refine .nil ?_
  refine .seq (.region ?_)
  refine .pu .mv ?_
  refine .pu .as ?_
  refine .nil ?_
  refine .ret ?_
  exact ⟨_, .tmp rfl .nil, _, _, .d1, by rw [join2']; rfl, rfl, rfl⟩
theorem rtell5_sp (L P : List Asn) (n : Int) (d : Bs) (vn vm : Value) (hd : d.length ≤ 100000000000) : Sp SEL 10 [.int .i64 5, repV 0 n d vn vm] L P (fun r L' P' => r = S (Lib.join (okB :: [wordOf d]) [32]) ∧ L' = L ∧ P' = P) := by
  refine Sp.body (fn := Tryz.f10) (N := 72) (by kernel_rfl) (by kernel_rfl) rfl (by kernel_rfl) rfl ?_
  refine .seq (.region ?_)
  refine .bx (cs := [_, _, _, _, _]) fun b3 => ?_
  refine .pu .as ?_
  refine .nil ?_
  refine .seq (.seq (.region ?_))
  refine .pu .fa ?_
  refine .ld ?_
  refine .pu (.cn (hq := by simp [Go.Lx.cmpP])) ?_
  refine .nil ?_
  refine .no rfl ?_
  refine .skip ?_
  refine .seq (.region ?_)
  refine .pu .as ?_
  refine .nil ?_
  refine .seq (.seq (.region ?_))
  refine .pu .mv ?_
  refine .nil ?_
  refine .block (.seq (.seq (.region ?_)))
  refine .pu (.cn (hq := by simp [Go.Lx.cmpP])) ?_
  refine .pu .as ?_
  refine .nil ?_
  refine .no rfl ?_
  refine .seq (.region ?_)
  refine .pu (.cn (hq := by simp [Go.Lx.cmpP])) ?_
  refine .pu .as ?_
  refine .nil ?_
  refine .no rfl ?_
  refine .seq (.region ?_)
  refine .pu (.cn (hq := by simp [Go.Lx.cmpP])) ?_
  refine .pu .as ?_
  refine .nil ?_
  refine .no rfl ?_
  refine .seq (.region ?_)
  refine .pu (.cn (hq := by simp [Go.Lx.cmpP])) ?_
  refine .pu .as ?_
  refine .nil ?_
  refine .no rfl ?_
  refine .region ?_
  refine .pu (.cn (hq := by simp [Go.Lx.cmpP])) ?_
  refine .pu .as ?_
  refine .nil ?_
  refine .no rfl ?_
  refine .seq (.region ?_)
  refine .pu (.cy (hq := by simp [Go.Lx.cmpP])) ?_
  refine .pu .as ?_
  refine .nil ?_
  refine .yes rfl ?_
  refine .region ?_
  refine .pu .mv ?_
  refine .pu (.cat rfl rfl (by simp only [List.length_cons, List.length_nil]; omega)) ?_
  refine .pu .fa ?_
  refine .ld ?_
  refine .call (hex_sp _ _ d hd) ?_; rintro _ _ _ ⟨rfl, rfl, rfl⟩
  refine .pu (.cat rfl rfl (by have := wordOf_len d; simp only [List.length_append, List.length_cons, List.length_nil]; omega)) ?_
  refine .pu .as ?_
  refine .nil ?_
  refine .seq (.region ?_)
  refine .pu .mv ?_
  refine .pu .as ?_
  refine .nil ?_
  refine .ret ?_
  exact ⟨_, .tmp rfl .nil, _, _, .d1, by rw [join2']; rfl, rfl, rfl⟩
theorem rtell12_sp (L P : List Asn) (n : Int) (d : Bs) (vn vm : Value) (names : List Bs) (hv : IsSl 1 vn (names.map fun x => [S x]) L P) (hl : (Lib.join (okB :: names) [32]).length ≤ 1099511627776) (hn : names.length ≤ 10000000000) : Sp SEL 10 [.int .i64 12, repV 0 n d vn vm] L P (fun r L' P' => r = S (Lib.join (okB :: names) [32]) ∧ L' = L ∧ P' = P) := by
  refine Sp.body (fn := Tryz.f10) (N := 72) (by kernel_rfl) (by kernel_rfl) rfl (by kernel_rfl) rfl ?_
  refine .seq (.region ?_)
  refine .bx (cs := [_, _, _, _, _]) fun b3 => ?_
  refine .pu .as ?_
  refine .nil ?_
  refine .seq (.seq (.region ?_))
  refine .pu .fa ?_
  refine .ld ?_
  refine .pu (.cn (hq := by simp [Go.Lx.cmpP])) ?_
  refine .nil ?_
  refine .no rfl ?_
  refine .skip ?_
  refine .seq (.region ?_)
  refine .pu .as ?_
  refine .nil ?_
  refine .seq (.seq (.region ?_))
  refine .pu .mv ?_
  refine .nil ?_
  refine .block (.seq (.seq (.region ?_)))
  refine .pu (.cn (hq := by simp [Go.Lx.cmpP])) ?_
  refine .pu .as ?_
  refine .nil ?_
  refine .no rfl ?_
  refine .seq (.region ?_)
  refine .pu (.cn (hq := by simp [Go.Lx.cmpP])) ?_
  refine .pu .as ?_
  refine .nil ?_
  refine .no rfl ?_
  refine .seq (.region ?_)
  refine .pu (.cn (hq := by simp [Go.Lx.cmpP])) ?_
  refine .pu .as ?_
  refine .nil ?_
  refine .no rfl ?_
  refine .seq (.region ?_)
  refine .pu (.cn (hq := by simp [Go.Lx.cmpP])) ?_
  refine .pu .as ?_
  refine .nil ?_
  refine .no rfl ?_
  refine .region ?_
  refine .pu (.cn (hq := by simp [Go.Lx.cmpP])) ?_
  refine .pu .as ?_
  refine .nil ?_
  refine .no rfl ?_
  refine .seq (.region ?_)
  refine .pu (.cn (hq := by simp [Go.Lx.cmpP])) ?_
  refine .pu .as ?_
  refine .nil ?_
  refine .no rfl ?_
  refine .seq (.region ?_)
  refine .pu (.cy (hq := by simp [Go.Lx.cmpP])) ?_
  refine .pu .as ?_
  refine .nil ?_
  refine .yes rfl ?_
  refine .seq (.region ?_)
  refine .pu .as ?_
  refine .nil ?_
  refine .block (W.loop (fun (i : Nat) => i ≤ names.length) (fun i => names.length - i) (fun i => [(6, .int .i64 (i : Nat)), (3, pp0 b3), (5, S (soFar names i))]) (fun _ => Pt b3 [.int .i64 0, .int .i64 n, S d, vn, vm] (tz 0 26) :: L) (fun _ => P) 0 (Nat.zero_le _) ⟨rfl, rfl, rfl, trivial⟩ (.refl _ _) (fun i hi => ?_))
  have hi : i ≤ names.length := hi
  refine .seq (.seq (.region ?_))
  refine .pu .mv ?_
  refine .pu .fa ?_
  refine .ld ?_
  refine .lk (.ln (hm := hv.below)) ?_
  refine .pu .cmp ?_
  refine .nil ?_
  refine .ite rfl (fun h => ?_) (fun h => ?_)
  · refine .skip ?_
    refine .seq (.block (.region ?_))
    refine .pu .mv ?_
    have hlt : i < names.length := by have := of_decide_eq_true h; rw [List.length_map] at this; omega
    have hb := soFar_len (xs := names) hlt hl
    refine .pu (.cat rfl rfl (by simp only [List.length_cons, List.length_nil]; omega)) ?_
    refine .pu .fa ?_
    refine .ld ?_
    refine .pu .mv ?_
    refine .lk (.ia (hm := hv.below) (hn := by rw [List.length_map]; omega)) ?_
    refine .le (by rw [List.getElem?_map]; exact congrArg _ (List.getElem?_eq_getElem (i := ((i : Nat) : Int).toNat) hlt)) ?_ (hm := hv.below)
    refine .pu (.cat rfl rfl (by simp only [List.length_append, List.length_cons, List.length_nil]; show _ + _ + (names[i]).length < _; omega)) ?_
    refine .pu .as ?_
    refine .nil ?_
    refine .region ?_
    refine .pu .mv ?_
    refine .pu .add ?_
    refine .pu .as ?_
    refine .nil ?_
    refine ⟨i + 1, hlt, by show names.length - (i + 1) < names.length - i; omega, ⟨rfl, rfl, ?_, trivial⟩, .refl _ _⟩
    rw [soFar_succ hlt]
    rfl
  refine .exit ?_
  refine .seq (.region ?_)
  have hi2 : i = names.length := by have := of_decide_eq_false h; rw [List.length_map] at this; omega
  refine .pu .mv ?_
  refine .pu .as ?_
  refine .nil ?_
  refine .ret ?_
  exact ⟨_, .tmp rfl .nil, _, _, .d1, by rw [hi2, soFar_all]; rfl, rfl, rfl⟩
theorem rtell13_sp (L P : List Asn) (n : Int) (d : Bs) (vn vm : Value) (nums : List Int) (hv : IsSl 1 vm (nums.map fun x => [Value.int .i64 x]) L P) (hr : ∀ x ∈ nums, -9223372036854775808 ≤ x ∧ x ≤ 9223372036854775807) (hl : (Lib.join (okB :: nums.map Lib.itoa) [32]).length ≤ 1099511627776) (hn : nums.length ≤ 10000000000) : Sp SEL 10 [.int .i64 13, repV 0 n d vn vm] L P (fun r L' P' => r = S (Lib.join (okB :: (nums.map Lib.itoa)) [32]) ∧ L' = L ∧ P' = P) := by
  refine Sp.body (fn := Tryz.f10) (N := 72) (by kernel_rfl) (by kernel_rfl) rfl (by kernel_rfl) rfl ?_
  refine .seq (.region ?_)
  refine .bx (cs := [_, _, _, _, _]) fun b3 => ?_
  refine .pu .as ?_
  refine .nil ?_
  refine .seq (.seq (.region ?_))
  refine .pu .fa ?_
  refine .ld ?_
  refine .pu (.cn (hq := by simp [Go.Lx.cmpP])) ?_
  refine .nil ?_
  refine .no rfl ?_
  refine .skip ?_
  refine .seq (.region ?_)
  refine .pu .as ?_
  refine .nil ?_
  refine .seq (.seq (.region ?_))
  refine .pu .mv ?_
  refine .nil ?_
  refine .block (.seq (.seq (.region ?_)))
  refine .pu (.cn (hq := by simp [Go.Lx.cmpP])) ?_
  refine .pu .as ?_
  refine .nil ?_
  refine .no rfl ?_
  refine .seq (.region ?_)
  refine .pu (.cn (hq := by simp [Go.Lx.cmpP])) ?_
  refine .pu .as ?_
  refine .nil ?_
  refine .no rfl ?_
  refine .seq (.region ?_)
  refine .pu (.cn (hq := by simp [Go.Lx.cmpP])) ?_
  refine .pu .as ?_
  refine .nil ?_
  refine .no rfl ?_
  refine .seq (.region ?_)
  refine .pu (.cn (hq := by simp [Go.Lx.cmpP])) ?_
  refine .pu .as ?_
  refine .nil ?_
  refine .no rfl ?_
  refine .region ?_
  refine .pu (.cn (hq := by simp [Go.Lx.cmpP])) ?_
  refine .pu .as ?_
  refine .nil ?_
  refine .no rfl ?_
  refine .seq (.region ?_)
  refine .pu (.cn (hq := by simp [Go.Lx.cmpP])) ?_
  refine .pu .as ?_
  refine .nil ?_
  refine .no rfl ?_
  refine .seq (.region ?_)
  refine .pu (.cn (hq := by simp [Go.Lx.cmpP])) ?_
  refine .pu .as ?_
  refine .nil ?_
  refine .no rfl ?_
  refine .seq (.seq (.region ?_))
  refine .pu (.cy (hq := by simp [Go.Lx.cmpP])) ?_
  refine .pu .as ?_
  refine .nil ?_
  refine .yes rfl ?_
  refine .skip ?_
  refine .yes rfl ?_
  refine .seq (.region ?_)
  refine .pu .as ?_
  refine .nil ?_
  refine .block (W.loop (fun (i : Nat) => i ≤ nums.length) (fun i => nums.length - i) (fun i => [(7, .int .i64 (i : Nat)), (3, pp0 b3), (5, S (soFar (nums.map Lib.itoa) i))]) (fun _ => Pt b3 [.int .i64 0, .int .i64 n, S d, vn, vm] (tz 0 26) :: L) (fun _ => P) 0 (Nat.zero_le _) ⟨rfl, rfl, rfl, trivial⟩ (.refl _ _) (fun i hi => ?_))
  have hi : i ≤ nums.length := hi
  refine .seq (.seq (.region ?_))
  refine .pu .mv ?_
  refine .pu .fa ?_
  refine .ld ?_
  refine .lk (.ln (hm := hv.below)) ?_
  refine .pu .cmp ?_
  refine .nil ?_
  refine .ite rfl (fun h => ?_) (fun h => ?_)
  · refine .skip ?_
    refine .seq (.block (.region ?_))
    refine .pu .mv ?_
    have hlt : i < nums.length := by have := of_decide_eq_true h; rw [List.length_map] at this; omega
    have hlt' : i < (nums.map Lib.itoa).length := by rw [List.length_map]; exact hlt
    have hb := soFar_len (xs := nums.map Lib.itoa) hlt' hl
    have hx := hr nums[i] (List.getElem_mem hlt)
    refine .pu (.cat rfl rfl (by simp only [List.length_cons, List.length_nil]; omega)) ?_
    refine .pu .fa ?_
    refine .ld ?_
    refine .pu .mv ?_
    refine .lk (.ia (hm := hv.below) (hn := by rw [List.length_map]; omega)) ?_
    refine .le (by rw [List.getElem?_map]; exact congrArg _ (List.getElem?_eq_getElem (i := ((i : Nat) : Int).toNat) hlt)) ?_ (hm := hv.below)
    refine .call (told_sp _ _ nums[i] hx.1 hx.2) ?_; rintro _ _ _ ⟨rfl, rfl, rfl⟩
    refine .pu (.cat rfl rfl (by have := Lib.itoa_length_le nums[i] hx.1 hx.2; simp only [List.length_append, List.length_cons, List.length_nil]; omega)) ?_
    refine .pu .as ?_
    refine .nil ?_
    refine .region ?_
    refine .pu .mv ?_
    refine .pu .add ?_
    refine .pu .as ?_
    refine .nil ?_
    refine ⟨i + 1, hlt, by show nums.length - (i + 1) < nums.length - i; omega, ⟨rfl, rfl, ?_, trivial⟩, .refl _ _⟩
    rw [soFar_succ hlt', List.getElem_map]
    rfl
  refine .exit ?_
  refine .seq (.region ?_)
  have hi2 : i = (nums.map Lib.itoa).length := by have := of_decide_eq_false h; rw [List.length_map] at this; rw [List.length_map]; omega
  refine .pu .mv ?_
  refine .pu .as ?_
  refine .nil ?_
  refine .ret ?_
  exact ⟨_, .tmp rfl .nil, _, _, .d1, by rw [hi2, soFar_all]; rfl, rfl, rfl⟩
theorem rtell22_sp (L P : List Asn) (n : Int) (d : Bs) (vn vm : Value) (nums : List Int) (hv : IsSl 1 vm (nums.map fun x => [Value.int .i64 x]) L P) (hr : ∀ x ∈ nums, -9223372036854775808 ≤ x ∧ x ≤ 9223372036854775807) (hl : (Lib.join (okB :: nums.map Lib.itoa) [32]).length ≤ 1099511627776) (hn : nums.length ≤ 10000000000) : Sp SEL 10 [.int .i64 22, repV 0 n d vn vm] L P (fun r L' P' => r = S (Lib.join (okB :: (nums.map Lib.itoa)) [32]) ∧ L' = L ∧ P' = P) := by
  refine Sp.body (fn := Tryz.f10) (N := 72) (by kernel_rfl) (by kernel_rfl) rfl (by kernel_rfl) rfl ?_
  refine .seq (.region ?_)
  refine .bx (cs := [_, _, _, _, _]) fun b3 => ?_
  refine .pu .as ?_
  refine .nil ?_
  refine .seq (.seq (.region ?_))
  refine .pu .fa ?_
  refine .ld ?_
  refine .pu (.cn (hq := by simp [Go.Lx.cmpP])) ?_
  refine .nil ?_
  refine .no rfl ?_
  refine .skip ?_
  refine .seq (.region ?_)
  refine .pu .as ?_
  refine .nil ?_
  refine .seq (.seq (.region ?_))
  refine .pu .mv ?_
  refine .nil ?_
  refine .block (.seq (.seq (.region ?_)))
  refine .pu (.cn (hq := by simp [Go.Lx.cmpP])) ?_
  refine .pu .as ?_
  refine .nil ?_
  refine .no rfl ?_
  refine .seq (.region ?_)
  refine .pu (.cn (hq := by simp [Go.Lx.cmpP])) ?_
  refine .pu .as ?_
  refine .nil ?_
  refine .no rfl ?_
  refine .seq (.region ?_)
  refine .pu (.cn (hq := by simp [Go.Lx.cmpP])) ?_
  refine .pu .as ?_
  refine .nil ?_
  refine .no rfl ?_
  refine .seq (.region ?_)
  refine .pu (.cn (hq := by simp [Go.Lx.cmpP])) ?_
  refine .pu .as ?_
  refine .nil ?_
  refine .no rfl ?_
  refine .region ?_
  refine .pu (.cn (hq := by simp [Go.Lx.cmpP])) ?_
  refine .pu .as ?_
  refine .nil ?_
  refine .no rfl ?_
  refine .seq (.region ?_)
  refine .pu (.cn (hq := by simp [Go.Lx.cmpP])) ?_
  refine .pu .as ?_
  refine .nil ?_
  refine .no rfl ?_
  refine .seq (.region ?_)
  refine .pu (.cn (hq := by simp [Go.Lx.cmpP])) ?_
  refine .pu .as ?_
  refine .nil ?_
  refine .no rfl ?_
  refine .seq (.seq (.region ?_))
  refine .pu (.cn (hq := by simp [Go.Lx.cmpP])) ?_
  refine .pu .as ?_
  refine .nil ?_
  refine .no rfl ?_
  refine .region ?_
  refine .pu (.cy (hq := by simp [Go.Lx.cmpP])) ?_
  refine .pu .as ?_
  refine .nil ?_
  refine .yes rfl ?_
  refine .seq (.region ?_)
  refine .pu .as ?_
  refine .nil ?_
  refine .block (W.loop (fun (i : Nat) => i ≤ nums.length) (fun i => nums.length - i) (fun i => [(7, .int .i64 (i : Nat)), (3, pp0 b3), (5, S (soFar (nums.map Lib.itoa) i))]) (fun _ => Pt b3 [.int .i64 0, .int .i64 n, S d, vn, vm] (tz 0 26) :: L) (fun _ => P) 0 (Nat.zero_le _) ⟨rfl, rfl, rfl, trivial⟩ (.refl _ _) (fun i hi => ?_))
  have hi : i ≤ nums.length := hi
  refine .seq (.seq (.region ?_))
  refine .pu .mv ?_
  refine .pu .fa ?_
  refine .ld ?_
  refine .lk (.ln (hm := hv.below)) ?_
  refine .pu .cmp ?_
  refine .nil ?_
  refine .ite rfl (fun h => ?_) (fun h => ?_)
  · refine .skip ?_
    refine .seq (.block (.region ?_))
    refine .pu .mv ?_
    have hlt : i < nums.length := by have := of_decide_eq_true h; rw [List.length_map] at this; omega
    have hlt' : i < (nums.map Lib.itoa).length := by rw [List.length_map]; exact hlt
    have hb := soFar_len (xs := nums.map Lib.itoa) hlt' hl
    have hx := hr nums[i] (List.getElem_mem hlt)
    refine .pu (.cat rfl rfl (by simp only [List.length_cons, List.length_nil]; omega)) ?_
    refine .pu .fa ?_
    refine .ld ?_
    refine .pu .mv ?_
    refine .lk (.ia (hm := hv.below) (hn := by rw [List.length_map]; omega)) ?_
    refine .le (by rw [List.getElem?_map]; exact congrArg _ (List.getElem?_eq_getElem (i := ((i : Nat) : Int).toNat) hlt)) ?_ (hm := hv.below)
    refine .call (told_sp _ _ nums[i] hx.1 hx.2) ?_; rintro _ _ _ ⟨rfl, rfl, rfl⟩
    refine .pu (.cat rfl rfl (by have := Lib.itoa_length_le nums[i] hx.1 hx.2; simp only [List.length_append, List.length_cons, List.length_nil]; omega)) ?_
    refine .pu .as ?_
    refine .nil ?_
    refine .region ?_
    refine .pu .mv ?_
    refine .pu .add ?_
    refine .pu .as ?_
    refine .nil ?_
    refine ⟨i + 1, hlt, by show nums.length - (i + 1) < nums.length - i; omega, ⟨rfl, rfl, ?_, trivial⟩, .refl _ _⟩
    rw [soFar_succ hlt', List.getElem_map]
    rfl
  refine .exit ?_
  refine .seq (.region ?_)
  have hi2 : i = (nums.map Lib.itoa).length := by have := of_decide_eq_false h; rw [List.length_map] at this; rw [List.length_map]; omega
  refine .pu .mv ?_
  refine .pu .as ?_
  refine .nil ?_
  refine .ret ?_
  exact ⟨_, .tmp rfl .nil, _, _, .d1, by rw [hi2, soFar_all]; rfl, rfl, rfl⟩
theorem rtellO_sp (L P : List Asn) (k : Int) (hk : k ≠ 3 ∧ k ≠ 17 ∧ k ≠ 18 ∧ k ≠ 20 ∧ k ≠ 21 ∧ k ≠ 5 ∧ k ≠ 12 ∧ k ≠ 13 ∧ k ≠ 22) (n : Int) (d : Bs) (vn vm : Value) : Sp SEL 10 [.int .i64 k, repV 0 n d vn vm] L P (fun r L' P' => r = S (Lib.join (okB :: []) [32]) ∧ L' = L ∧ P' = P) := by
  refine Sp.body (fn := Tryz.f10) (N := 72) (by kernel_rfl) (by kernel_rfl) rfl (by kernel_rfl) rfl ?_
  refine .seq (.region ?_)
  refine .bx (cs := [_, _, _, _, _]) fun b3 => ?_
  refine .pu .as ?_
  refine .nil ?_
  refine .seq (.seq (.region ?_))
  refine .pu .fa ?_
  refine .ld ?_
  refine .pu (.cn (hq := by simp [Go.Lx.cmpP])) ?_
  refine .nil ?_
  refine .no rfl ?_
  refine .skip ?_
  refine .seq (.region ?_)
  refine .pu .as ?_
  refine .nil ?_
  refine .seq (.seq (.region ?_))
  refine .pu .mv ?_
  refine .nil ?_
  refine .block (.seq (.seq (.region ?_)))
  refine .pu .cn ?_
  refine .pu .as ?_
  refine .nil ?_
  refine .no rfl ?_
  refine .seq (.region ?_)
  refine .pu .cn ?_
  refine .pu .as ?_
  refine .nil ?_
  refine .no rfl ?_
  refine .seq (.region ?_)
  refine .pu .cn ?_
  refine .pu .as ?_
  refine .nil ?_
  refine .no rfl ?_
  refine .seq (.region ?_)
  refine .pu .cn ?_
  refine .pu .as ?_
  refine .nil ?_
  refine .no rfl ?_
  refine .region ?_
  refine .pu .cn ?_
  refine .pu .as ?_
  refine .nil ?_
  refine .no rfl ?_
  refine .seq (.region ?_)
  refine .pu .cn ?_
  refine .pu .as ?_
  refine .nil ?_
  refine .no rfl ?_
  refine .seq (.region ?_)
  refine .pu .cn ?_
  refine .pu .as ?_
  refine .nil ?_
  refine .no rfl ?_
  refine .seq (.seq (.region ?_))
  refine .pu .cn ?_
  refine .pu .as ?_
  refine .nil ?_
  refine .no rfl ?_
  refine .region ?_
  refine .pu .cn ?_
  refine .pu .as ?_
  refine .nil ?_
  refine .no rfl ?_
  refine .skip ?_
  refine .seq (.region ?_)
  refine .pu .mv ?_
  refine .pu .as ?_
  refine .nil ?_
  refine .ret ?_
  exact ⟨_, .tmp rfl .nil, _, _, .d1, by rw [Lib.join_one]; rfl, rfl, rfl⟩
end Go.Cis
/- ShellTells: for all replies both tell the same. -/
namespace Go.Cis
open Go Go.Ax Go.Lx Go.Proofs
set_option maxRecDepth 100000
/-- What is asked of a reply: no number is out of range, no text too long. -/
structure RepOk (e n : Int) (d : Bs) (names : List Bs) (nums : List Int) : Prop where
  e1 : -9223372036854775808 ≤ e
  e2 : e ≤ 9223372036854775807
  n1 : -9223372036854775808 ≤ n
  n2 : n ≤ 9223372036854775807
  dl : d.length ≤ 100000000000
  jn : (Lib.join (okB :: names) [32]).length ≤ 1099511627776
  nn : names.length ≤ 10000000000
  jm : (Lib.join (okB :: nums.map Lib.itoa) [32]).length ≤ 1099511627776
  nm : nums.length ≤ 10000000000
  r : ∀ x ∈ nums, -9223372036854775808 ≤ x ∧ x ≤ 9223372036854775807
theorem tell_sp (L P : List Asn) (e k n : Int) (d : Bs) (vn vm : Value) (names : List Bs) (nums : List Int) (ok : RepOk e n d names nums) (hvn : IsSl 1 vn (names.map fun x => [S x]) L P) (hvm : IsSl 1 vm (nums.map fun x => [Value.int .i64 x]) L P) (hP : Ro 0 pow10V ∈ P) : Sp SEL 9 [.int .i64 k, repV e n d vn vm] L P (fun r L' P' => r = S (tellOf e k n d names nums) ∧ L' = L ∧ P' = P) := by
  unfold tellOf
  by_cases he : e = 0
  · subst he
    rw [if_neg (by simp)]
    unfold wordsOf
    by_cases h1 : k = 3 ∨ k = 17 ∨ k = 18 ∨ k = 20 ∨ k = 21
    · rw [if_pos h1]
      rcases h1 with rfl | rfl | rfl | rfl | rfl
      · exact tell3_sp L P n d vn vm ok.n1 ok.n2 hP
      · exact tell17_sp L P n d vn vm ok.n1 ok.n2 hP
      · exact tell18_sp L P n d vn vm ok.n1 ok.n2 hP
      · exact tell20_sp L P n d vn vm ok.n1 ok.n2 hP
      · exact tell21_sp L P n d vn vm ok.n1 ok.n2 hP
    · rw [if_neg h1]
      by_cases h5 : k = 5
      · subst h5
        rw [if_pos rfl]
        exact tell5_sp L P n d vn vm ok.dl
      · rw [if_neg h5]
        by_cases h12 : k = 12
        · subst h12
          rw [if_pos rfl]
          exact tell12_sp L P n d vn vm names hvn ok.jn ok.nn
        · rw [if_neg h12]
          by_cases h13 : k = 13 ∨ k = 22
          · rw [if_pos h13]
            rcases h13 with rfl | rfl
            · exact tell13_sp L P n d vn vm nums hvm ok.r ok.jm ok.nm hP
            · exact tell22_sp L P n d vn vm nums hvm ok.r ok.jm ok.nm hP
          · rw [if_neg h13]
            exact tellO_sp L P k (by omega) n d vn vm
  · rw [if_pos he]
    exact tellE_sp L P e k n d vn vm he ok.e1 ok.e2 hP
theorem rtell_sp (L P : List Asn) (e k n : Int) (d : Bs) (vn vm : Value) (names : List Bs) (nums : List Int) (ok : RepOk e n d names nums) (hvn : IsSl 1 vn (names.map fun x => [S x]) L P) (hvm : IsSl 1 vm (nums.map fun x => [Value.int .i64 x]) L P) : Sp SEL 10 [.int .i64 k, repV e n d vn vm] L P (fun r L' P' => r = S (tellOf e k n d names nums) ∧ L' = L ∧ P' = P) := by
  unfold tellOf
  by_cases he : e = 0
  · subst he
    rw [if_neg (by simp)]
    unfold wordsOf
    by_cases h1 : k = 3 ∨ k = 17 ∨ k = 18 ∨ k = 20 ∨ k = 21
    · rw [if_pos h1]
      rcases h1 with rfl | rfl | rfl | rfl | rfl
      · exact rtell3_sp L P n d vn vm ok.n1 ok.n2
      · exact rtell17_sp L P n d vn vm ok.n1 ok.n2
      · exact rtell18_sp L P n d vn vm ok.n1 ok.n2
      · exact rtell20_sp L P n d vn vm ok.n1 ok.n2
      · exact rtell21_sp L P n d vn vm ok.n1 ok.n2
    · rw [if_neg h1]
      by_cases h5 : k = 5
      · subst h5
        rw [if_pos rfl]
        exact rtell5_sp L P n d vn vm ok.dl
      · rw [if_neg h5]
        by_cases h12 : k = 12
        · subst h12
          rw [if_pos rfl]
          exact rtell12_sp L P n d vn vm names hvn ok.jn ok.nn
        · rw [if_neg h12]
          by_cases h13 : k = 13 ∨ k = 22
          · rw [if_pos h13]
            rcases h13 with rfl | rfl
            · exact rtell13_sp L P n d vn vm nums hvm ok.r ok.jm ok.nm
            · exact rtell22_sp L P n d vn vm nums hvm ok.r ok.jm ok.nm
          · rw [if_neg h13]
            exact rtellO_sp L P k (by omega) n d vn vm
  · rw [if_pos he]
    exact rtellE_sp L P e k n d vn vm he ok.e1 ok.e2
theorem ones_I (xs : List Int) : ∀ f ∈ xs.map (fun x => [Value.int .i64 x]), ones f = true := fun f hf => by
  obtain ⟨x, _, rfl⟩ := List.mem_map.1 hf
  rfl
theorem tells_sp (L P : List Asn) (hT : RoN 2 tabV ∈ P) (hN : Top ∈ P) (e k n : Int) (d : Bs) (vn vm : Value) (names : List Bs) (nums : List Int) (ok : RepOk e n d names nums) (hvn : IsSl 1 vn (names.map fun x => [S x]) L P) (hvm : IsSl 1 vm (nums.map fun x => [Value.int .i64 x]) L P) (hP : Ro 0 pow10V ∈ P) : Sp SEL 3 [.int .i64 k, repV e n d vn vm] L P (fun r L' P' => r = .bool true) := by
  refine Sp.body (fn := Tryz.f3) (N := 29) (by kernel_rfl) (by kernel_rfl) rfl (by kernel_rfl) rfl ?_
  refine .fact (slc_sl hvn) fun ⟨an, cn, en⟩ => ?_
  refine .fact (slc_sl hvm) fun ⟨am, cm, em⟩ => ?_
  subst en em
  have q1 := ok.nn
  have q2 := ok.nm
  refine .seq (.region ?_)
  refine .bx (cs := [_, _, _, _, _]) fun b3 => ?_
  refine .pu .as ?_
  refine .nil ?_
  refine .seq (.seq (.region ?_))
  refine .call (known_sp _ _ hT hN) ?_; rintro _ _ _ ⟨rfl, rfl, rfl⟩
  refine .pu .nt ?_
  refine .nil ?_
  refine .no rfl ?_
  refine .skip ?_
  refine .seq (.drawn (by kernel_rfl) fun base => ?_)
  refine .pu .fa ?_
  refine .lo 0 2 .ld .mk ?_
  refine .pu .fa ?_
  refine .lo 0 2 .ld .mk ?_
  refine .pu .fa ?_
  refine .lo 0 2 .ld .mk ?_
  refine .bl (k := 1) (es := []) fun b14 => ?_
  refine .pu .fa ?_
  refine .lo 0 0 .ld .mk ?_
  refine .ap hvn.below.below .z (fun v17 => ?_) (hn := by rw [List.length_map, List.length_nil]; show (0 + names.length) * 16 ≤ _; omega) (ho := ones_S names)
  refine .fact (slc_ow .l0) fun ⟨a17, c17, e17⟩ => ?_
  subst e17
  refine .bl (k := 1) (es := []) (hlt := by show ∀ x ∈ ([] : NewL), _; simp) fun b18 => ?_
  refine .pu .fa ?_
  refine .lo 0 1 .ld .mk ?_
  refine .ap hvm.below.below.below .z (fun v21 => ?_) (hn := by rw [List.length_map, List.length_nil]; show (0 + nums.length) * 8 ≤ _; omega) (ho := ones_I nums)
  refine .fact (slc_ow .l0) fun ⟨a21, c21, e21⟩ => ?_
  subst e21
  refine .pu (.bd (vs := [_, _, _, _, _])) ?_
  refine .nw (cs := [.int .i64 0, .int .i64 0, S [], .slice none 0 0, .slice none 0 0]) (hlt := by show ∀ x ∈ ([] : NewL), _; simp) fun b5 => ?_
  refine .st (vs := [_, _, _, _, _]) ?_
  refine .nil (.cons (.yes .mk (.yes .mk (.skip (.skip .nil)))) (.cons (.yes .mk (.skip (.skip (.skip .nil)))) (.cons (.yes .mk (.yes .mk (.yes .mk (.skip .nil)))) (.cons (.yes .mk (.yes .mk (.yes .mk (.skip .nil)))) (.cons (.yes .mk (.yes .mk (.yes .mk (.skip .nil)))) .nil))))) ?_
  refine .seq (.drawn (by kernel_rfl) fun base => ?_)
  refine .pu .mv ?_
  refine .lo 0 0 .ld .mk ?_
  refine .call (tell_sp _ _ e k n d _ _ names nums ok (.o (.l2)) (.o .l1) hP) ?_; rintro _ _ _ ⟨rfl, rfl, rfl⟩
  refine .pu .mv ?_
  refine .lo 0 1 .ld .mk ?_
  refine .call (rtell_sp _ _ e k n d _ _ names nums ok hvn.below.below.below.below hvm.below.below.below.below) ?_; rintro _ _ _ ⟨rfl, rfl, rfl⟩
  refine .pu (.seq (q := true) (hq := by simp)) ?_
  refine .pu .as ?_
  refine .nil (.cons (.yes .mk (.yes .mk (.skip .nil))) (.cons (.yes .mk (.skip (.skip .nil))) .nil)) ?_
  refine .ret ?_
  exact ⟨_, .tmp rfl .nil, _, _, .refl _ _, rfl⟩
end Go.Cis
