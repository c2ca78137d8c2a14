/- Replies as texts, the program's way. -/
import Derived.Test.YtcgpmbjoobilcaaGreatDoorFnA
set_option linter.unusedSimpArgs false
set_option linter.unusedVariables false
namespace Go.Cis
open Go Go.Ax Go.Lx Go.Proofs
set_option maxRecDepth 100000
theorem join_sp (L P : List Asn) (v : Value) (xs : List Bs) (sep : Bs) (hv : IsSl 1 v (xs.map fun x => [S x]) L P) (hl : (Lib.join xs sep).length ≤ 1099511627776) (hn : xs.length ≤ 1099511627776) : Sp SEL 23 [v, S sep] L P (fun r L' P' => r = S (Lib.join xs sep) ∧ L' = L ∧ P' = P) := Sp.join rfl hv hl hn
theorem join2 (a b : Bs) : (Lib.join [a, b] [32]).length = a.length + 1 + b.length := by
 simp [Lib.join, List.intercalate]
 omega
theorem wordOf_len (d : Bs) : (wordOf d).length ≤ 2 * d.length + 1 := by
 unfold wordOf
 split
 ·simp
 ·rw [hexOf_len]; omega
abbrev okB : Bs := [111, 107]
abbrev repV (e n : Int) (d : Bs) (vn vm : Value) : Value := .agg ⟨[.int .i64 e, .int .i64 n, S d, vn, vm]⟩
theorem tell5_sp (L P : List Asn) (n : Int) (d : Bs) (vn vm : Value) (hd : d.length ≤ 100000000000) : Sp SEL 9 [.int .i64 5, repV 0 n d vn vm] L P (fun r L' P' => r = S (Lib.join (okB :: [wordOf d]) [32]) ∧ L' = L ∧ P' = P) := by
 refine Sp.body (fn := Tryz.f9) (N := 59) (by kernel_rfl) (by kernel_rfl) rfl (by kernel_rfl) rfl ?_
 refine .seq (.region ?_)
 refine .bx (cs := [_, _, _, _, _]) fun b3 => ?_
 refine .pu .as ?_
 refine .nil ?_
 refine .seq (.seq (.region ?_))
 refine .pu .fa ?_
 refine .ld ?_
 refine .pu (.cn (hq := by simp [Go.Lx.cmpP])) ?_
 refine .nil ?_
 refine .no rfl ?_
 refine .skip ?_
 refine .seq (.region ?_)
 refine .bl (k := 1) (es := [[S okB]]) fun v14 => ?_
 refine .pu .as ?_
 refine .nil ?_
 refine .seq (.seq (.region ?_))
 refine .pu .mv ?_
 refine .nil ?_
 refine .block (.seq (.seq (.region ?_)))
 refine .pu (.cn (hq := by simp [Go.Lx.cmpP])) ?_
 refine .pu .as ?_
 refine .nil ?_
 refine .no rfl ?_
 refine .seq (.region ?_)
 refine .pu (.cn (hq := by simp [Go.Lx.cmpP])) ?_
 refine .pu .as ?_
 refine .nil ?_
 refine .no rfl ?_
 refine .seq (.region ?_)
 refine .pu (.cn (hq := by simp [Go.Lx.cmpP])) ?_
 refine .pu .as ?_
 refine .nil ?_
 refine .no rfl ?_
 refine .seq (.region ?_)
 refine .pu (.cn (hq := by simp [Go.Lx.cmpP])) ?_
 refine .pu .as ?_
 refine .nil ?_
 refine .no rfl ?_
 refine .region ?_
 refine .pu (.cn (hq := by simp [Go.Lx.cmpP])) ?_
 refine .pu .as ?_
 refine .nil ?_
 refine .no rfl ?_
 refine .seq (.region ?_)
 refine .pu (.cy (hq := by simp [Go.Lx.cmpP])) ?_
 refine .pu .as ?_
 refine .nil ?_
 refine .yes rfl ?_
 refine .region ?_
 refine .pu .mv ?_
 refine .pu .fa ?_
 refine .ld ?_
 refine .call (word_sp _ _ d hd) ?_; rintro _ L P ⟨rfl, rfl, rfl⟩
 refine .bl (k := 1) (es := [[_]]) fun v34 => ?_
 refine .ap fun v35 => ?_
 refine .pu .as ?_
 refine .nil ?_
 refine .seq (.region ?_)
 refine .pu .mv ?_
 refine .call (join_sp _ _ _ [okB, wordOf d] _ (.o .l0) (by rw [join2]; have := wordOf_len d; simp only [List.length_cons, List.length_nil]; omega) (by show (2 : Nat) ≤ 1099511627776; decide)) ?_; rintro _ L P ⟨rfl, rfl, rfl⟩
 refine .pu .as ?_
 refine .nil ?_
 refine .ret ?_
 exact ⟨_, .tmp rfl .nil, _, _, .d3, rfl, rfl, rfl⟩
end Go.Cis
/- Replies as texts, the document's way. -/
namespace Go.Cis
open Go Go.Ax Go.Lx Go.Proofs
set_option maxRecDepth 100000
end Go.Cis
/- ShellTells: for all replies both tell the same. -/
namespace Go.Cis
open Go Go.Ax Go.Lx Go.Proofs
set_option maxRecDepth 100000
end Go.Cis
