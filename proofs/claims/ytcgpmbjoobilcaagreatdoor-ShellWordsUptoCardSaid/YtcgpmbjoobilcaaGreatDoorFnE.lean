/- Words of numbers, the document's walk. -/
import Derived.Test.YtcgpmbjoobilcaaGreatDoorFnD
import Derived.Test.YtcgpmbjoobilcaaGreatDoorLxE
set_option linter.unusedSimpArgs false
set_option linter.unusedVariables false
namespace Go.Cis
open Go Go.Ax Go.Lx Go.Proofs
set_option maxRecDepth 100000
end Go.Cis
/- Fields of lines: read and written. -/
namespace Go.Cis
open Go Go.Ax Go.Lx Go.Proofs
set_option maxRecDepth 100000
structure OpD where
 k : Int
 p : Bs
 t : Bs
 h : Int
 o : Int
 n : Int
 d : Bs
def opC (x : OpD) : List Value := [.int .i64 x.k, S x.p, S x.t, .int .i64 x.h, .int .i64 x.o, .int .i64 x.n, S x.d]
inductive Fd where
 | P | Q | H | O | N | B
def setF (f : Fd) (x : OpD) (w : Bs) : Option OpD := match f with
 | .P => if pathOk w then some { x with p := w } else none
 | .Q => if pathOk w then some { x with t := w } else none
 | .H => (numOf w).map fun n => { x with h := n }
 | .O => (numOf w).map fun n => { x with o := n }
 | .N => (numOf w).map fun n => { x with n := n }
 | .B => (bytesOf w).map fun b => { x with d := b }
def wrF (f : Fd) (x : OpD) : Bs := match f with
 | .P => x.p
 | .Q => x.t
 | .H => Lib.itoa x.h
 | .O => Lib.itoa x.o
 | .N => Lib.itoa x.n
 | .B => wordOf x.d
abbrev ppt (b o : Nat) : Value := .pointer (some ⟨b, o, none⟩)
theorem acP_sp (L P : List Asn) (b : Nat) : Sp SEL 52 [ppt b 0] L P (fun r L' P' => r = ppt b 1 ∧ L' = L ∧ P' = P) := by
 refine Sp.body (fn := Tryz.f52) (N := 5) (by kernel_rfl) (by kernel_rfl) rfl (by kernel_rfl) rfl ?_
 refine .seq (.region ?_)
 refine .pu .as ?_
 refine .nil ?_
 refine .seq (.region ?_)
 refine .pu .mv ?_
 refine .pu .nc ?_
 refine .pu .fa ?_
 refine .pu .as ?_
 refine .nil ?_
 refine .ret ?_
 exact ⟨_, .tmp rfl .nil, _, _, .refl _ _, rfl, rfl, rfl⟩
theorem acQ_sp (L P : List Asn) (b : Nat) : Sp SEL 53 [ppt b 0] L P (fun r L' P' => r = ppt b 2 ∧ L' = L ∧ P' = P) := by
 refine Sp.body (fn := Tryz.f53) (N := 5) (by kernel_rfl) (by kernel_rfl) rfl (by kernel_rfl) rfl ?_
 refine .seq (.region ?_)
 refine .pu .as ?_
 refine .nil ?_
 refine .seq (.region ?_)
 refine .pu .mv ?_
 refine .pu .nc ?_
 refine .pu .fa ?_
 refine .pu .as ?_
 refine .nil ?_
 refine .ret ?_
 exact ⟨_, .tmp rfl .nil, _, _, .refl _ _, rfl, rfl, rfl⟩
theorem acH_sp (L P : List Asn) (b : Nat) : Sp SEL 55 [ppt b 0] L P (fun r L' P' => r = ppt b 3 ∧ L' = L ∧ P' = P) := by
 refine Sp.body (fn := Tryz.f55) (N := 5) (by kernel_rfl) (by kernel_rfl) rfl (by kernel_rfl) rfl ?_
 refine .seq (.region ?_)
 refine .pu .as ?_
 refine .nil ?_
 refine .seq (.region ?_)
 refine .pu .mv ?_
 refine .pu .nc ?_
 refine .pu .fa ?_
 refine .pu .as ?_
 refine .nil ?_
 refine .ret ?_
 exact ⟨_, .tmp rfl .nil, _, _, .refl _ _, rfl, rfl, rfl⟩
theorem acO_sp (L P : List Asn) (b : Nat) : Sp SEL 56 [ppt b 0] L P (fun r L' P' => r = ppt b 4 ∧ L' = L ∧ P' = P) := by
 refine Sp.body (fn := Tryz.f56) (N := 5) (by kernel_rfl) (by kernel_rfl) rfl (by kernel_rfl) rfl ?_
 refine .seq (.region ?_)
 refine .pu .as ?_
 refine .nil ?_
 refine .seq (.region ?_)
 refine .pu .mv ?_
 refine .pu .nc ?_
 refine .pu .fa ?_
 refine .pu .as ?_
 refine .nil ?_
 refine .ret ?_
 exact ⟨_, .tmp rfl .nil, _, _, .refl _ _, rfl, rfl, rfl⟩
theorem acN_sp (L P : List Asn) (b : Nat) : Sp SEL 57 [ppt b 0] L P (fun r L' P' => r = ppt b 5 ∧ L' = L ∧ P' = P) := by
 refine Sp.body (fn := Tryz.f57) (N := 5) (by kernel_rfl) (by kernel_rfl) rfl (by kernel_rfl) rfl ?_
 refine .seq (.region ?_)
 refine .pu .as ?_
 refine .nil ?_
 refine .seq (.region ?_)
 refine .pu .mv ?_
 refine .pu .nc ?_
 refine .pu .fa ?_
 refine .pu .as ?_
 refine .nil ?_
 refine .ret ?_
 exact ⟨_, .tmp rfl .nil, _, _, .refl _ _, rfl, rfl, rfl⟩
def Acc (g off : Nat) : Prop := ∀ (L P : List Asn) (b : Nat), Sp SEL g [ppt b 0] L P (fun r L' P' => r = ppt b off ∧ L' = L ∧ P' = P)
abbrev fnc (g : Nat) : Value := .func (.func g) #[] #[]
theorem pf1_sp (L P : List Asn) {b bx z zx off g : Nat} {cs cs' : List Value} (w : Bs) (hl : w.length ≤ 10000000000) (hg : Acc g off) (hb : Pt bx [fnc g] zx ∈ P) (hs : SetN cs off [S w] cs') : Sp SEL 87 [ppt b 0, S w, ppt bx 0] (Pt b cs z :: L) P (fun r L' P' => r = .bool (pathOk w) ∧ L' = Pt b cs' z :: L ∧ P' = P) := by
 refine Sp.body (fn := Tryz.f87) (N := 12) (by kernel_rfl) (by kernel_rfl) rfl (by kernel_rfl) rfl ?_
 refine .seq (.region ?_)
 refine .pu .as ?_
 refine .nil ?_
 refine .seq (.region ?_)
 refine .ld ?_
 refine .pu .mv ?_
 refine .call (hg _ _ b) ?_; rintro _ L P ⟨rfl, rfl, rfl⟩
 refine .pu .mv ?_
 refine .pu .nc ?_
 refine .st (vs := [S w]) ?_ (hset := hs)
 refine .nil ?_
 refine .seq (.region ?_)
 refine .pu .mv ?_
 refine .call (isPath_sp _ _ w hl) ?_; rintro _ L P ⟨rfl, rfl, rfl⟩
 refine .pu .as ?_
 refine .nil ?_
 refine .ret ?_
 exact ⟨_, .tmp rfl .nil, _, _, .refl _ _, rfl, rfl, rfl⟩
theorem nf1_sp (L P : List Asn) {b bx z zx off g : Nat} {cs : List Value} (w : Bs) (hl : w.length ≤ 10000000000) (hg : Acc g off) (hb : Pt bx [fnc g] zx ∈ P) (hs : ∀ n : Int, ∃ cs', SetN cs off [.int .i64 n] cs') {e6 e7 : Value} (h6 : Ro 6 [e6] ∈ P) (h7 : Ro 7 [e7] ∈ P) (i6 : isIf e6 = true) (i7 : isIf e7 = true) (hP : Ro 0 pow10V ∈ P) :
  Sp SEL 90 [ppt b 0, S w, ppt bx 0] (Pt b cs z :: L) P (fun r L' P' => ∃ n cs', r = .bool (numOf w).isSome ∧ (∀ x, numOf w = some x → x = n) ∧ SetN cs off [.int .i64 n] cs' ∧ L' = Pt b cs' z :: L ∧ P' = P) := by
 refine Sp.body (fn := Tryz.f90) (N := 18) (by kernel_rfl) (by kernel_rfl) rfl (by kernel_rfl) rfl ?_
 refine .seq (.region ?_)
 refine .pu .as ?_
 refine .nil ?_
 refine .seq (.region ?_)
 refine .pu .mv ?_
 refine .call (number_sp _ _ w hl h6 h7 i6 i7 hP) ?_; rintro _ L P ⟨n, rfl, hn, rfl, rfl⟩
 refine .pu .mv ?_
 refine .pu .ex ?_
 refine .pu .ex ?_
 refine .pu .as ?_
 refine .pu .as ?_
 refine .nil ?_
 refine .seq (.region ?_)
 obtain ⟨cs', hset⟩ := hs n
 refine .ld ?_
 refine .pu .mv ?_
 refine .call (hg _ _ b) ?_; rintro _ L P ⟨rfl, rfl, rfl⟩
 refine .pu .mv ?_
 refine .pu .nc ?_
 refine .st (vs := [.int .i64 n]) ?_ (hset := hset)
 refine .nil ?_
 refine .seq (.region ?_)
 refine .pu .mv ?_
 refine .pu .as ?_
 refine .nil ?_
 refine .ret ?_
 exact ⟨_, .tmp rfl .nil, _, _, .refl _ _, ⟨n, cs', rfl, hn, hset, rfl, rfl⟩⟩
theorem bf1_sp (L P : List Asn) {b z : Nat} {x : OpD} (w : Bs) (hl : w.length ≤ 10000000000) : Sp SEL 58 [ppt b 0, S w] (Pt b (opC x) z :: L) P (fun r L' P' => ∃ d, r = .bool (bytesOf w).isSome ∧ (∀ y, bytesOf w = some y → y = d) ∧ L' = Pt b (opC { x with d := d }) z :: L ∧ P' = P) := by
 refine Sp.body (fn := Tryz.f58) (N := 16) (by kernel_rfl) (by kernel_rfl) rfl (by kernel_rfl) rfl ?_
 refine .seq (.region ?_)
 refine .pu .as ?_
 refine .nil ?_
 refine .seq (.region ?_)
 refine .pu .mv ?_
 refine .call (hex_in_sp _ _ w hl) ?_; rintro _ L P ⟨d, rfl, hd, rfl, rfl⟩
 refine .pu .mv ?_
 refine .pu .ex ?_
 refine .pu .ex ?_
 refine .pu .as ?_
 refine .pu .as ?_
 refine .nil ?_
 refine .seq (.region ?_)
 refine .pu .mv ?_
 refine .pu .mv ?_
 refine .pu .nc ?_
 refine .pu .fa ?_
 refine .st (vs := [_]) ?_
 refine .nil ?_
 refine .seq (.region ?_)
 refine .pu .mv ?_
 refine .pu .as ?_
 refine .nil ?_
 refine .ret ?_
 exact ⟨_, .tmp rfl .nil, _, _, .refl _ _, ⟨d, rfl, hd, rfl, rfl⟩⟩
theorem pf2_sp (L P : List Asn) {bx zx off g : Nat} {x : OpD} {w : Bs} (hg : Acc g off) (hb : Pt bx [fnc g] zx ∈ P) (hv : (opC x)[off]? = some (S w)) : Sp SEL 89 [.agg ⟨opC x⟩, ppt bx 0] L P (fun r L' P' => r = S w ∧ L' = L ∧ P' = P) := by
 refine Sp.body (fn := Tryz.f89) (N := 7) (by kernel_rfl) (by kernel_rfl) rfl (by kernel_rfl) rfl ?_
 refine .seq (.region ?_)
 refine .bx (cs := [_, _, _, _, _, _, _]) fun b2 => ?_
 refine .pu .as ?_
 refine .nil ?_
 refine .seq (.region ?_)
 refine .ld ?_
 refine .call (hg _ _ _) ?_; rintro _ L P ⟨rfl, rfl, rfl⟩
 refine .pu .nc ?_
 refine .ld (cs := opC x) ?_ (hv := hv)
 refine .pu .as ?_
 refine .nil ?_
 refine .ret ?_
 exact ⟨_, .tmp rfl .nil, _, _, .d1, rfl, rfl, rfl⟩
theorem nf2_sp (L P : List Asn) {bx zx off g : Nat} {x : OpD} {n : Int} (hg : Acc g off) (hb : Pt bx [fnc g] zx ∈ P) (hv : (opC x)[off]? = some (.int .i64 n)) (h1 : -9223372036854775808 ≤ n) (h2 : n ≤ 9223372036854775807) (hP : Ro 0 pow10V ∈ P) : Sp SEL 92 [.agg ⟨opC x⟩, ppt bx 0] L P (fun r L' P' => r = S (Lib.itoa n) ∧ L' = L ∧ P' = P) := by
 refine Sp.body (fn := Tryz.f92) (N := 8) (by kernel_rfl) (by kernel_rfl) rfl (by kernel_rfl) rfl ?_
 refine .seq (.region ?_)
 refine .bx (cs := [_, _, _, _, _, _, _]) fun b2 => ?_
 refine .pu .as ?_
 refine .nil ?_
 refine .seq (.region ?_)
 refine .ld ?_
 refine .call (hg _ _ _) ?_; rintro _ L P ⟨rfl, rfl, rfl⟩
 refine .pu .nc ?_
 refine .ld (cs := opC x) ?_ (hv := hv)
 refine .call (itoa_sp _ _ n h1 h2 hP) ?_; rintro _ L P ⟨rfl, rfl, rfl⟩
 refine .pu .as ?_
 refine .nil ?_
 refine .ret ?_
 exact ⟨_, .tmp rfl .nil, _, _, .d1, rfl, rfl, rfl⟩
theorem bf2_sp (L P : List Asn) {x : OpD} (hl : x.d.length ≤ 100000000000) : Sp SEL 60 [.agg ⟨opC x⟩] L P (fun r L' P' => r = S (wordOf x.d) ∧ L' = L ∧ P' = P) := by
 refine Sp.body (fn := Tryz.f60) (N := 5) (by kernel_rfl) (by kernel_rfl) rfl (by kernel_rfl) rfl ?_
 refine .seq (.region ?_)
 refine .bx (cs := [_, _, _, _, _, _, _]) fun b1 => ?_
 refine .pu .as ?_
 refine .nil ?_
 refine .seq (.region ?_)
 refine .pu .fa ?_
 refine .ld ?_
 refine .call (word_sp _ _ x.d hl) ?_; rintro _ L P ⟨rfl, rfl, rfl⟩
 refine .pu .as ?_
 refine .nil ?_
 refine .ret ?_
 exact ⟨_, .tmp rfl .nil, _, _, .d1, rfl, rfl, rfl⟩
end Go.Cis
/- The table of verbs, as the program makes it. -/
namespace Go.Cis
open Go Go.Ax Go.Lx Go.Proofs
set_option maxRecDepth 100000
def rdV (B : Fd → Nat) : Fd → Value
 | .P => .func (.func 87) #[] #[ppt (B .P) 0]
 | .Q => .func (.func 87) #[] #[ppt (B .Q) 0]
 | .H => .func (.func 90) #[] #[ppt (B .H) 0]
 | .O => .func (.func 90) #[] #[ppt (B .O) 0]
 | .N => .func (.func 90) #[] #[ppt (B .N) 0]
 | .B => .func (.func 58) #[] #[]
def wtV (B : Fd → Nat) : Fd → Value
 | .P => .func (.func 89) #[] #[ppt (B .P) 0]
 | .Q => .func (.func 89) #[] #[ppt (B .Q) 0]
 | .H => .func (.func 92) #[] #[ppt (B .H) 0]
 | .O => .func (.func 92) #[] #[ppt (B .O) 0]
 | .N => .func (.func 92) #[] #[ppt (B .N) 0]
 | .B => .func (.func 60) #[] #[]
def fdV (B : Fd → Nat) (f : Fd) : List Value := [rdV B f, wtV B f]
def acF : Fd → Nat
 | .P => 52
 | .Q => 53
 | .H => 55
 | .O => 56
 | .N => 57
 | .B => 0
def bx (a b c d e : Nat) : Fd → Nat
 | .P => a
 | .Q => b
 | .H => c
 | .O => d
 | .N => e
 | .B => 0
def vtab : List (Bs × List Fd) := [
 ([99, 114, 101, 97, 116, 101], [.P]),
 ([109, 107, 100, 105, 114], [.P]),
 ([111, 112, 101, 110], [.P]),
 ([99, 108, 111, 115, 101], [.H]),
 ([114, 101, 97, 100], [.H, .O, .N]),
 ([119, 114, 105, 116, 101], [.H, .O, .B]),
 ([116, 114, 117, 110, 99, 97, 116, 101], [.H, .N]),
 ([114, 101, 110, 97, 109, 101], [.P, .Q]),
 ([117, 110, 108, 105, 110, 107], [.P]),
 ([114, 109, 100, 105, 114], [.P]),
 ([108, 105, 110, 107], [.P, .Q]),
 ([108, 105, 115, 116], [.P]),
 ([115, 116, 97, 116], [.P]),
 ([102, 115, 121, 110, 99], [.H]),
 ([115, 121, 110, 99], []),
 ([102, 108, 117, 115, 104], []),
 ([117, 112, 108, 111, 97, 100], []),
 ([101, 118, 105, 99, 116], []),
 ([99, 104, 101, 99, 107], []),
 ([103, 99], []),
 ([116, 105, 99, 107], [.N]),
 ([115, 116, 97, 116, 117, 115], [])]
def VRow (P : List Asn) (B : Fd → Nat) (row : List Value) (x : Bs × List Fd) : Prop := ∃ v, row = [S x.1, v] ∧ Sl 2 v (x.2.map (fdV B)) ∈ P
inductive VRows (P : List Asn) (B : Fd → Nat) : List (List Value) → List (Bs × List Fd) → Prop
 | nil : VRows P B [] []
 | cons {row : List Value} {x : Bs × List Fd} {rows : List (List Value)} {l : List (Bs × List Fd)} (h : VRow P B row x) (hr : VRows P B rows l) : VRows P B (row :: rows) (x :: l)
structure VTab (P : List Asn) (B : Fd → Nat) (r : Value) : Prop where
 rows : ∃ rows, Sl 2 r rows ∈ P ∧ VRows P B rows vtab
 bP : ∃ z, Pt (B .P) [fnc (acF .P)] z ∈ P
 bQ : ∃ z, Pt (B .Q) [fnc (acF .Q)] z ∈ P
 bH : ∃ z, Pt (B .H) [fnc (acF .H)] z ∈ P
 bO : ∃ z, Pt (B .O) [fnc (acF .O)] z ∈ P
 bN : ∃ z, Pt (B .N) [fnc (acF .N)] z ∈ P
theorem pathField_sp (L P : List Asn) (g : Nat) : Sp SEL 51 [fnc g] L P (fun r L' P' => ∃ b z, r = .agg ⟨[.func (.func 87) #[] #[ppt b 0], .func (.func 89) #[] #[ppt b 0]]⟩ ∧ L' = L ∧ P' = Pt b [fnc g] z :: P) := by
 refine Sp.body (fn := Tryz.f51) (N := 5) (by kernel_rfl) (by kernel_rfl) rfl (by kernel_rfl) rfl ?_
 refine .seq (.region ?_)
 refine .bx (cs := [_]) fun b1 => ?_
 refine .ent .pt ?_
 refine .nw (cs := [.nilFunc, .nilFunc]) fun b2 => ?_
 refine .nil ?_
 refine .seq (.region ?_)
 refine .pu .mf ?_
 refine .pu .mf ?_
 refine .pu (.bd (vs := [_, _])) ?_
 refine .st (vs := [_, _]) ?_
 refine .nil ?_
 refine .ret ?_
 exact ⟨_, .cell rfl .l0 rfl .nil, _, _, .d1, _, _, rfl, rfl, rfl⟩
theorem numberField_sp (L P : List Asn) (g : Nat) : Sp SEL 54 [fnc g] L P (fun r L' P' => ∃ b z, r = .agg ⟨[.func (.func 90) #[] #[ppt b 0], .func (.func 92) #[] #[ppt b 0]]⟩ ∧ L' = L ∧ P' = Pt b [fnc g] z :: P) := by
 refine Sp.body (fn := Tryz.f54) (N := 5) (by kernel_rfl) (by kernel_rfl) rfl (by kernel_rfl) rfl ?_
 refine .seq (.region ?_)
 refine .bx (cs := [_]) fun b1 => ?_
 refine .ent .pt ?_
 refine .nw (cs := [.nilFunc, .nilFunc]) fun b2 => ?_
 refine .nil ?_
 refine .seq (.region ?_)
 refine .pu .mf ?_
 refine .pu .mf ?_
 refine .pu (.bd (vs := [_, _])) ?_
 refine .st (vs := [_, _]) ?_
 refine .nil ?_
 refine .ret ?_
 exact ⟨_, .cell rfl .l0 rfl .nil, _, _, .d1, _, _, rfl, rfl, rfl⟩
theorem verbs_sp (L P : List Asn) : Sp SEL 34 [] L P (fun r L' P' => ∃ B, VTab P' B r ∧ L' = L ∧ ∀ a ∈ P, a ∈ P') := by
 refine Sp.body (fn := Tryz.f34) (N := 72) (by kernel_rfl) (by kernel_rfl) rfl (by kernel_rfl) rfl ?_
 refine .seq (.region ?_)
 refine .pu .as ?_
 refine .nil ?_
 refine .seq (.region ?_)
 refine .call (pathField_sp _ _ 52) ?_; rintro _ L P ⟨p1, z1, rfl, rfl, rfl⟩
 refine .nw (cs := [.nilFunc, .nilFunc]) fun b1 => ?_
 refine .st (vs := [_, _]) ?_
 refine .nil ?_
 refine .seq (.region ?_)
 refine .call (pathField_sp _ _ 53) ?_; rintro _ L P ⟨p2, z2, rfl, rfl, rfl⟩
 refine .nw (cs := [.nilFunc, .nilFunc]) fun b2 => ?_
 refine .st (vs := [_, _]) ?_
 refine .nil ?_
 refine .seq (.region ?_)
 refine .call (numberField_sp _ _ 55) ?_; rintro _ L P ⟨p3, z3, rfl, rfl, rfl⟩
 refine .nw (cs := [.nilFunc, .nilFunc]) fun b3 => ?_
 refine .st (vs := [_, _]) ?_
 refine .nil ?_
 refine .seq (.region ?_)
 refine .call (numberField_sp _ _ 56) ?_; rintro _ L P ⟨p4, z4, rfl, rfl, rfl⟩
 refine .nw (cs := [.nilFunc, .nilFunc]) fun b4 => ?_
 refine .st (vs := [_, _]) ?_
 refine .nil ?_
 refine .seq (.region ?_)
 refine .call (numberField_sp _ _ 57) ?_; rintro _ L P ⟨p5, z5, rfl, rfl, rfl⟩
 refine .nw (cs := [.nilFunc, .nilFunc]) fun b5 => ?_
 refine .st (vs := [_, _]) ?_
 refine .nil ?_
 refine .seq (.region ?_)
 refine .pu (.bd (vs := [_, _])) ?_
 refine .nw (cs := [.nilFunc, .nilFunc]) fun b6 => ?_
 refine .st (vs := [_, _]) ?_
 refine .nil ?_
 refine .seq (.region ?_)
 refine .ent (Ent.none (k := 2)) ?_
 refine .ent .sl ?_
 refine .lda (vs := [_, _]) ?_
 refine .bl (k := 2) (es := [[_, _]]) (hk := lenk rfl) fun v14 => ?_
 refine .fact (slc_ow .l0) fun hv => ?_
 obtain ⟨a14, c14, rfl⟩ := hv
 refine .ent .sl ?_
 refine .pu (.bd (vs := [_, _])) ?_
 refine .lda (vs := [_, _]) ?_
 refine .bl (k := 2) (es := [[_, _]]) (hk := lenk rfl) fun v17 => ?_
 refine .fact (slc_ow .l0) fun hv => ?_
 obtain ⟨a17, c17, rfl⟩ := hv
 refine .ent .sl ?_
 refine .pu (.bd (vs := [_, _])) ?_
 refine .lda (vs := [_, _]) ?_
 refine .bl (k := 2) (es := [[_, _]]) (hk := lenk rfl) fun v20 => ?_
 refine .fact (slc_ow .l0) fun hv => ?_
 obtain ⟨a20, c20, rfl⟩ := hv
 refine .ent .sl ?_
 refine .pu (.bd (vs := [_, _])) ?_
 refine .lda (vs := [_, _]) ?_
 refine .bl (k := 2) (es := [[_, _]]) (hk := lenk rfl) fun v23 => ?_
 refine .fact (slc_ow .l0) fun hv => ?_
 obtain ⟨a23, c23, rfl⟩ := hv
 refine .ent .sl ?_
 refine .pu (.bd (vs := [_, _])) ?_
 refine .lda (vs := [_, _]) ?_
 refine .lda (vs := [_, _]) ?_
 refine .lda (vs := [_, _]) ?_
 refine .bl (k := 2) (es := [[_, _], [_, _], [_, _]]) (hk := lenk rfl) fun v28 => ?_
 refine .fact (slc_ow .l0) fun hv => ?_
 obtain ⟨a28, c28, rfl⟩ := hv
 refine .ent .sl ?_
 refine .pu (.bd (vs := [_, _])) ?_
 refine .lda (vs := [_, _]) ?_
 refine .lda (vs := [_, _]) ?_
 refine .lda (vs := [_, _]) ?_
 refine .bl (k := 2) (es := [[_, _], [_, _], [_, _]]) (hk := lenk rfl) fun v33 => ?_
 refine .fact (slc_ow .l0) fun hv => ?_
 obtain ⟨a33, c33, rfl⟩ := hv
 refine .ent .sl ?_
 refine .pu (.bd (vs := [_, _])) ?_
 refine .lda (vs := [_, _]) ?_
 refine .lda (vs := [_, _]) ?_
 refine .bl (k := 2) (es := [[_, _], [_, _]]) (hk := lenk rfl) fun v37 => ?_
 refine .fact (slc_ow .l0) fun hv => ?_
 obtain ⟨a37, c37, rfl⟩ := hv
 refine .ent .sl ?_
 refine .pu (.bd (vs := [_, _])) ?_
 refine .lda (vs := [_, _]) ?_
 refine .lda (vs := [_, _]) ?_
 refine .bl (k := 2) (es := [[_, _], [_, _]]) (hk := lenk rfl) fun v41 => ?_
 refine .fact (slc_ow .l0) fun hv => ?_
 obtain ⟨a41, c41, rfl⟩ := hv
 refine .ent .sl ?_
 refine .pu (.bd (vs := [_, _])) ?_
 refine .lda (vs := [_, _]) ?_
 refine .bl (k := 2) (es := [[_, _]]) (hk := lenk rfl) fun v44 => ?_
 refine .fact (slc_ow .l0) fun hv => ?_
 obtain ⟨a44, c44, rfl⟩ := hv
 refine .ent .sl ?_
 refine .pu (.bd (vs := [_, _])) ?_
 refine .lda (vs := [_, _]) ?_
 refine .bl (k := 2) (es := [[_, _]]) (hk := lenk rfl) fun v47 => ?_
 refine .fact (slc_ow .l0) fun hv => ?_
 obtain ⟨a47, c47, rfl⟩ := hv
 refine .ent .sl ?_
 refine .pu (.bd (vs := [_, _])) ?_
 refine .lda (vs := [_, _]) ?_
 refine .lda (vs := [_, _]) ?_
 refine .bl (k := 2) (es := [[_, _], [_, _]]) (hk := lenk rfl) fun v51 => ?_
 refine .fact (slc_ow .l0) fun hv => ?_
 obtain ⟨a51, c51, rfl⟩ := hv
 refine .ent .sl ?_
 refine .pu (.bd (vs := [_, _])) ?_
 refine .lda (vs := [_, _]) ?_
 refine .bl (k := 2) (es := [[_, _]]) (hk := lenk rfl) fun v54 => ?_
 refine .fact (slc_ow .l0) fun hv => ?_
 obtain ⟨a54, c54, rfl⟩ := hv
 refine .ent .sl ?_
 refine .pu (.bd (vs := [_, _])) ?_
 refine .lda (vs := [_, _]) ?_
 refine .bl (k := 2) (es := [[_, _]]) (hk := lenk rfl) fun v57 => ?_
 refine .fact (slc_ow .l0) fun hv => ?_
 obtain ⟨a57, c57, rfl⟩ := hv
 refine .ent .sl ?_
 refine .pu (.bd (vs := [_, _])) ?_
 refine .lda (vs := [_, _]) ?_
 refine .bl (k := 2) (es := [[_, _]]) (hk := lenk rfl) fun v60 => ?_
 refine .fact (slc_ow .l0) fun hv => ?_
 obtain ⟨a60, c60, rfl⟩ := hv
 refine .ent .sl ?_
 refine .pu (.bd (vs := [_, _])) ?_
 refine .pu (.bd (vs := [_, _])) ?_
 refine .pu (.bd (vs := [_, _])) ?_
 refine .pu (.bd (vs := [_, _])) ?_
 refine .pu (.bd (vs := [_, _])) ?_
 refine .pu (.bd (vs := [_, _])) ?_
 refine .pu (.bd (vs := [_, _])) ?_
 refine .lda (vs := [_, _]) ?_
 refine .bl (k := 2) (es := [[_, _]]) (hk := lenk rfl) fun v69 => ?_
 refine .fact (slc_ow .l0) fun hv => ?_
 obtain ⟨a69, c69, rfl⟩ := hv
 refine .ent .sl ?_
 refine .pu (.bd (vs := [_, _])) ?_
 refine .pu (.bd (vs := [_, _])) ?_
 refine .bl (k := 2) (es := [[S [99, 114, 101, 97, 116, 101], .slice a14 1 c14], [S [109, 107, 100, 105, 114], .slice a17 1 c17], [S [111, 112, 101, 110], .slice a20 1 c20], [S [99, 108, 111, 115, 101], .slice a23 1 c23], [S [114, 101, 97, 100], .slice a28 3 c28], [S [119, 114, 105, 116, 101], .slice a33 3 c33], [S [116, 114, 117, 110, 99, 97, 116, 101], .slice a37 2 c37], [S [114, 101, 110, 97, 109, 101], .slice a41 2 c41], [S [117, 110, 108, 105, 110, 107], .slice a44 1 c44], [S [114, 109, 100, 105, 114], .slice a47 1 c47], [S [108, 105, 110, 107], .slice a51 2 c51], [S [108, 105, 115, 116], .slice a54 1 c54], [S [115, 116, 97, 116], .slice a57 1 c57], [S [102, 115, 121, 110, 99], .slice a60 1 c60], [S [115, 121, 110, 99], .slice none 0 0], [S [102, 108, 117, 115, 104], .slice none 0 0], [S [117, 112, 108, 111, 97, 100], .slice none 0 0], [S [101, 118, 105, 99, 116], .slice none 0 0], [S [99, 104, 101, 99, 107], .slice none 0 0], [S [103, 99], .slice none 0 0], [S [116, 105, 99, 107], .slice a69 1 c69], [S [115, 116, 97, 116, 117, 115], .slice none 0 0]]) (hf := by kernel_rfl) (hk := lenk rfl) fun v72 => ?_
 refine .fact (slc_ow .l0) fun hv => ?_
 obtain ⟨a72, c72, rfl⟩ := hv
 refine .ent .sl ?_
 refine .pu .as ?_
 refine .nil ?_
 refine .ret ?_
 refine ⟨_, .tmp rfl .nil, _, _, .d6, bx p1 p2 p3 p4 p5, ⟨⟨_, List.Mem.head _, ?_⟩, ⟨z1, ?_⟩, ⟨z2, ?_⟩, ⟨z3, ?_⟩, ⟨z4, ?_⟩, ⟨z5, ?_⟩⟩, rfl, ?_⟩
 ·unfold vtab
  repeat (first | exact .nil | refine .cons ⟨_, rfl, by (repeat (first | exact List.Mem.head _ | assumption | refine List.Mem.tail _ ?_))⟩ ?_)
 all_goals first | (intro a h; (repeat (first | exact h | refine List.Mem.tail _ ?_))) | (repeat (first | exact List.Mem.head _ | assumption | refine List.Mem.tail _ ?_))
end Go.Cis
/- A line is parsed, the program's way. -/
namespace Go.Cis
open Go Go.Ax Go.Lx Go.Proofs
set_option maxRecDepth 100000
structure Kn (P : List Asn) : Prop where
 num : ∃ e6 e7, Ro 6 [e6] ∈ P ∧ Ro 7 [e7] ∈ P ∧ isIf e6 = true ∧ isIf e7 = true
 pow : Ro 0 pow10V ∈ P
theorem Kn.mono {P P2 : List Asn} (h : Kn P) (hs : ∀ a ∈ P, a ∈ P2) : Kn P2 := by
 obtain ⟨⟨e6, e7, h6, h7, i6, i7⟩, hp⟩ := h
 exact ⟨⟨e6, e7, hs _ h6, hs _ h7, i6, i7⟩, hs _ hp⟩
theorem VRows.mono {P P2 : List Asn} {B : Fd → Nat} (hs : ∀ a ∈ P, a ∈ P2) : ∀ {rows : List (List Value)} {l : List (Bs × List Fd)}, VRows P B rows l → VRows P2 B rows l := fun h => by
 induction h with
 | nil => exact .nil
 | cons h hr ih =>
  obtain ⟨v, e, hv⟩ := h
  exact .cons ⟨v, e, hs _ hv⟩ ih
theorem VTab.mono {P P2 : List Asn} {B : Fd → Nat} {r : Value} (h : VTab P B r) (hs : ∀ a ∈ P, a ∈ P2) : VTab P2 B r := by
 obtain ⟨⟨rows, h1, h2⟩, ⟨z1, hp⟩, ⟨z2, hq⟩, ⟨z3, hh⟩, ⟨z4, ho⟩, ⟨z5, hn⟩⟩ := h
 exact ⟨⟨rows, hs _ h1, h2.mono hs⟩, ⟨z1, hs _ hp⟩, ⟨z2, hs _ hq⟩, ⟨z3, hs _ hh⟩, ⟨z4, hs _ ho⟩, ⟨z5, hs _ hn⟩⟩
theorem VRows.len {P : List Asn} {B : Fd → Nat} : ∀ {rows : List (List Value)} {l : List (Bs × List Fd)}, VRows P B rows l → rows.length = l.length := fun h => by
 induction h with
 | nil => rfl
 | cons h hr ih => rw [List.length_cons, List.length_cons, ih]
theorem VRows.get {P : List Asn} {B : Fd → Nat} : ∀ {rows : List (List Value)} {l : List (Bs × List Fd)}, VRows P B rows l → ∀ {i : Nat} {x : Bs × List Fd}, l[i]? = some x → ∃ v, rows[i]? = some [S x.1, v] ∧ Sl 2 v (x.2.map (fdV B)) ∈ P := fun h => by
 induction h with
 | nil => intro i x e; cases e
 | cons h hr ih =>
  intro i x e
  cases i with
  | zero =>
   obtain ⟨v, e1, hv⟩ := h
   cases e
   exact ⟨v, by rw [e1]; rfl, hv⟩
  | succ i => exact ih e
def vix (w : Bs) : List (Bs × List Fd) → Option (Nat × List Fd)
 | [] => none
 | x :: l => if x.1 = w then some (0, x.2) else (vix w l).map fun p => (p.1 + 1, p.2)
def vixI (w : Bs) (l : List (Bs × List Fd)) : Int := match vix w l with
 | none => -1
 | some p => (p.1 : Nat)
theorem vix_get {w : Bs} : ∀ {l : List (Bs × List Fd)} {i : Nat} {f : List Fd}, vix w l = some (i, f) → l[i]? = some (w, f)
 | [], _, _, h => by cases h
 | x :: l, i, f, h => by
  unfold vix at h
  split at h
  ·rename_i e; cases h; rw [← e]; rfl
  ·cases hv : vix w l with
   | none => rw [hv] at h; cases h
   | some p =>
   rw [hv] at h
   obtain ⟨i0, f0⟩ := p
   have e : some (i0 + 1, f0) = some (i, f) := h
   obtain ⟨rfl, rfl⟩ := Prod.mk.inj (Option.some.inj e)
   exact vix_get (l := l) hv
theorem vix_app {w : Bs} : ∀ (a b : List (Bs × List Fd)), vix w a = none → vix w (a ++ b) = (vix w b).map fun p => (p.1 + a.length, p.2)
 | [], b, _ => by
  show vix w b = _
  cases vix w b <;> rfl
 | x :: a, b, h => by
  unfold vix at h
  split at h
  ·cases h
  ·rename_i e
   have h : vix w a = none := by
    cases hv : vix w a with
    | none => rfl
    | some p => rw [hv] at h; cases h
   show (if x.1 = w then _ else (vix w (a ++ b)).map _) = _
   rw [if_neg e, vix_app a b h]
   cases vix w b with
   | none => rfl
   | some p => show some (p.1 + a.length + 1, p.2) = some (p.1 + (a.length + 1), p.2); rw [Nat.add_assoc]
theorem vix_here {w : Bs} {l : List (Bs × List Fd)} {i : Nat} {x : Bs × List Fd} (hn : vix w (l.take i) = none) (hx : l[i]? = some x) (he : x.1 = w) : vix w l = some (i, x.2) := by
 obtain ⟨hi, hg⟩ := List.getElem?_eq_some_iff.1 hx
 have : l = l.take i ++ x :: l.drop (i + 1) := by rw [← hg, ← List.drop_eq_getElem_cons hi, List.take_append_drop]
 rw [this, vix_app _ _ hn]
 unfold vix
 rw [if_pos he]
 show some (0 + (l.take i).length, x.2) = _
 rw [List.length_take, Nat.zero_add, Nat.min_eq_left (by omega)]
theorem vix_next {w : Bs} {l : List (Bs × List Fd)} {i : Nat} {x : Bs × List Fd} (hn : vix w (l.take i) = none) (hx : l[i]? = some x) (he : x.1 ≠ w) : vix w (l.take (i + 1)) = none := by
 obtain ⟨hi, hg⟩ := List.getElem?_eq_some_iff.1 hx
 rw [List.take_add_one, hx, vix_app _ _ hn]
 show ((vix w [x]).map _) = _
 unfold vix
 rw [if_neg he]
 rfl
def setFs : List Fd → OpD → List Bs → Option OpD
 | [], x, _ => some x
 | _ :: _, _, [] => none
 | f :: fs, x, w :: ws => (setF f x w).bind fun y => setFs fs y ws
abbrev op0 (k : Int) : OpD := ⟨k, [], [], 0, 0, 0, []⟩
def parseW : List Bs → Option OpD
 | [] => none
 | w :: ws => match vix w vtab with
  | none => none
  | some (i, fs) => if fs.length = ws.length then setFs fs (op0 ((i : Nat) + 1)) ws else none
def parseOp (s : Bs) : Option OpD := parseW (spl 32 s)
def opR (o : Option OpD) : List Value := opC (o.getD (op0 0))
def fnR : Fd → Nat
 | .P => 87
 | .Q => 87
 | .H => 90
 | .O => 90
 | .N => 90
 | .B => 58
def fnW : Fd → Nat
 | .P => 89
 | .Q => 89
 | .H => 92
 | .O => 92
 | .N => 92
 | .B => 60
def capB (B : Fd → Nat) : Fd → List Value
 | .B => []
 | f => [ppt (B f) 0]
theorem fdV_eq (B : Fd → Nat) (f : Fd) : fdV B f = [.func (.func (fnR f)) #[] ⟨capB B f⟩, .func (.func (fnW f)) #[] ⟨capB B f⟩] := by cases f <;> rfl
theorem num_sn (x : OpD) (f : Fd) (hf : f = .H ∨ f = .O ∨ f = .N) : ∃ off, Acc (acF f) off ∧ ∀ n : Int, SetN (opC x) off [.int .i64 n] (opC (match f with | .H => { x with h := n } | .O => { x with o := n } | _ => { x with n := n })) := by
 rcases hf with rfl | rfl | rfl
 ·exact ⟨3, acH_sp, fun n => by (repeat (first | exact SetN.nil | apply SetN.here | apply SetN.skip))⟩
 ·exact ⟨4, acO_sp, fun n => by (repeat (first | exact SetN.nil | apply SetN.here | apply SetN.skip))⟩
 ·exact ⟨5, acN_sp, fun n => by (repeat (first | exact SetN.nil | apply SetN.here | apply SetN.skip))⟩
theorem rd_sp (f : Fd) (L P : List Asn) {B : Fd → Nat} {tv : Value} {b z : Nat} {x : OpD} (w : Bs) (hl : w.length ≤ 10000000000) (hT : VTab P B tv) (hK : Kn P) : Sp SEL (fnR f) ([ppt b 0, S w] ++ capB B f) (Pt b (opC x) z :: L) P (fun r L' P' => ∃ y, r = .bool (setF f x w).isSome ∧ (∀ x', setF f x w = some x' → x' = y) ∧ L' = Pt b (opC y) z :: L ∧ P' = P) := by
 obtain ⟨⟨e6, e7, h6, h7, i6, i7⟩, hp⟩ := hK
 have hnum : ∀ f : Fd, (hf : f = .H ∨ f = .O ∨ f = .N) → (∃ z, Pt (B f) [fnc (acF f)] z ∈ P) → Sp SEL 90 [ppt b 0, S w, ppt (B f) 0] (Pt b (opC x) z :: L) P (fun r L' P' => ∃ y, r = .bool (setF f x w).isSome ∧ (∀ x', setF f x w = some x' → x' = y) ∧ L' = Pt b (opC y) z :: L ∧ P' = P) := fun f hf hb => by
  obtain ⟨zb, hb⟩ := hb
  obtain ⟨off, ha, hs⟩ := num_sn x f hf
  refine (nf1_sp L P w hl ha hb (fun n => ⟨_, hs n⟩) h6 h7 i6 i7 hp).mono ?_
  rintro r L' P' ⟨n, cs', e1, e2, e3, e4, e5⟩
  have hcs : cs' = _ := SetN.uniq e3 (hs n)
  refine ⟨_, ?_, ?_, by rw [e4, hcs], e5⟩
  ·rw [e1]; rcases hf with rfl | rfl | rfl <;> (show _ = Value.bool ((numOf w).map _).isSome; rw [Option.isSome_map])
  ·intro x' hx
   rcases hf with rfl | rfl | rfl <;> (
    have hx : (numOf w).map _ = some x' := hx
    cases hn : numOf w with
    | none => rw [hn] at hx; cases hx
    | some m => rw [hn] at hx; cases hx; rw [e2 m hn])
 cases f with
 | P =>
  obtain ⟨zb, hb⟩ := hT.bP
  refine (pf1_sp (cs' := opC { x with p := w }) L P w hl acP_sp hb (by (repeat (first | exact SetN.nil | apply SetN.here | apply SetN.skip)))).mono ?_
  rintro r L' P' ⟨e1, e2, e3⟩
  refine ⟨_, ?_, ?_, e2, e3⟩
  ·rw [e1]; show _ = Value.bool (if pathOk w then some _ else none).isSome; cases pathOk w <;> rfl
  ·intro x' hx
   have hx : (if pathOk w then some { x with p := w } else none) = some x' := hx
   split at hx <;> cases hx
   rfl
 | Q =>
  obtain ⟨zb, hb⟩ := hT.bQ
  refine (pf1_sp (cs' := opC { x with t := w }) L P w hl acQ_sp hb (by (repeat (first | exact SetN.nil | apply SetN.here | apply SetN.skip)))).mono ?_
  rintro r L' P' ⟨e1, e2, e3⟩
  refine ⟨_, ?_, ?_, e2, e3⟩
  ·rw [e1]; show _ = Value.bool (if pathOk w then some _ else none).isSome; cases pathOk w <;> rfl
  ·intro x' hx
   have hx : (if pathOk w then some { x with t := w } else none) = some x' := hx
   split at hx <;> cases hx
   rfl
 | H => exact hnum .H (.inl rfl) hT.bH
 | O => exact hnum .O (.inr (.inl rfl)) hT.bO
 | N => exact hnum .N (.inr (.inr rfl)) hT.bN
 | B =>
  refine (bf1_sp L P w hl).mono ?_
  rintro r L' P' ⟨d, e1, e2, e3, e4⟩
  refine ⟨_, ?_, ?_, e3, e4⟩
  ·rw [e1]; show _ = Value.bool ((bytesOf w).map _).isSome; rw [Option.isSome_map]
  ·intro x' hx
   have hx : (bytesOf w).map _ = some x' := hx
   cases hn : bytesOf w with
   | none => rw [hn] at hx; cases hx
   | some m => rw [hn] at hx; cases hx; rw [e2 m hn]
end Go.Cis
/- The walk of shell.Parse. -/
namespace Go.Cis
open Go Go.Ax Go.Lx Go.Proofs
set_option maxRecDepth 100000
theorem vixI_no {w : Bs} {l : List (Bs × List Fd)} (h : vix w l = none) : vixI w l = -1 := by
 unfold vixI; rw [h]
theorem vixI_some {w : Bs} {l : List (Bs × List Fd)} {i : Nat} {f : List Fd} (h : vix w l = some (i, f)) : vixI w l = (i : Nat) := by
 unfold vixI; rw [h]
theorem vixI_end {w : Bs} {i : Nat} (h : decide ((i : Int) < (22 : Nat)) = false) (hi : i ≤ 22) (h2 : vix w (vtab.take i) = none) : vixI w vtab = -1 := by
 have : i = 22 := by have := of_decide_eq_false h; omega
 subst this
 exact vixI_no h2
theorem vix_lt {w : Bs} {i : Nat} {f : List Fd} (h : vix w vtab = some (i, f)) : i < 22 := (List.getElem?_eq_some_iff.1 (vix_get h)).1
theorem opR_none {s : Bs} (h : parseOp s = none) : opR (parseOp s) = opC (op0 0) := by rw [h]; rfl
theorem opR_some {s : Bs} {y : OpD} (h : parseOp s = some y) : opR (parseOp s) = opC y := by rw [h]; rfl
def flen (w : Bs) : Nat := match vix w vtab with
 | none => 0
 | some p => p.2.length
theorem veq_rd (B : Fd → Nat) (f : Fd) : veq (.func (.func (fnR f)) #[] ⟨capB B f⟩) (.func (.func (fnR f)) #[] ⟨capB B f⟩) = true := by
 show (fnR f == fnR f && true && veqs (veqF (veqF veq1)) (capB B f) (capB B f)) = true
 rw [beq_self_eq_true, veqs_one (e := veqF veq1) (fun v hv => by
  cases f <;> simp [capB] at hv <;> (subst hv; rfl))]
 rfl
theorem flen_some {w : Bs} {i : Nat} {f : List Fd} (h : vix w vtab = some (i, f)) : flen w = f.length := by
 unfold flen; rw [h]
theorem vixI_pos {w : Bs} (h : decide (vixI w vtab < 0) = false) : ∃ i fs, vix w vtab = some (i, fs) := by
 rcases hh : vix w vtab with _ | ⟨i, fs⟩
 ·rw [vixI_no hh] at h; exact absurd h (by decide)
 ·exact ⟨i, fs, rfl⟩
theorem parseW_cons (w : Bs) (ws : List Bs) : parseW (w :: ws) = match vix w vtab with
  | none => none
  | some (i, fs) => if fs.length = ws.length then setFs fs (op0 ((i : Nat) + 1)) ws else none := rfl
theorem parse_bad {s w0 : Bs} {ws : List Bs} (hs : spl 32 s = w0 :: ws) (h : (decide (vixI w0 vtab < 0) || decide ((flen w0 : Int) ≠ ws.length)) = true) : parseOp s = none := by
 unfold parseOp
 rw [hs]
 rw [parseW_cons]
 rcases hh : vix w0 vtab with _ | ⟨i, fs⟩
 ·rfl
 ·rw [vixI_some hh, flen_some hh] at h
  have h1 : decide (((i : Nat) : Int) < 0) = false := decide_eq_false (by omega)
  rw [h1, Bool.false_or] at h
  have := of_decide_eq_true h
  show (if fs.length = ws.length then _ else none) = none
  rw [if_neg (by omega)]
theorem parse_good {s w0 : Bs} {ws : List Bs} (hs : spl 32 s = w0 :: ws) (h : (decide (vixI w0 vtab < 0) || decide ((flen w0 : Int) ≠ ws.length)) = false) : ∃ i fs, vix w0 vtab = some (i, fs) ∧ fs.length = ws.length ∧ parseOp s = setFs fs (op0 ((i : Nat) + 1)) ws := by
 rw [Bool.or_eq_false_iff] at h
 obtain ⟨i, fs, hv⟩ := vixI_pos h.1
 rw [flen_some hv] at h
 have := of_decide_eq_false h.2
 have hl : fs.length = ws.length := by omega
 refine ⟨i, fs, hv, hl, ?_⟩
 unfold parseOp
 rw [hs]
 rw [parseW_cons]
 rw [hv]
 show (if fs.length = ws.length then _ else none) = _
 rw [if_pos hl]
theorem isSome_none {α : Type} {o : Option α} (h : o = none) : (if o.isSome then (0 : Int) else 2) = 2 := by rw [h]; rfl
theorem isSome_some {α : Type} {o : Option α} {x : α} (h : o = some x) : (if o.isSome then (0 : Int) else 2) = 0 := by rw [h]; rfl
theorem parse_rn {s : Bs} (h : parseOp s = none) : packA [.agg ⟨opC (op0 0)⟩, .int .i64 2] = .tuple #[.agg ⟨opR (parseOp s)⟩, .int .i64 (if (parseOp s).isSome then 0 else 2)] := by
 rw [opR_none h, isSome_none h]; rfl
theorem parse_rs {s : Bs} {y : OpD} (h : parseOp s = some y) : packA [.agg ⟨opC y⟩, .int .i64 0] = .tuple #[.agg ⟨opR (parseOp s)⟩, .int .i64 (if (parseOp s).isSome then 0 else 2)] := by
 rw [opR_some h, isSome_some h]; rfl
structure PJ (s : Bs) (fs : List Fd) (ws : List Bs) (k : Nat) (y : OpD) : Prop where
 le : k ≤ fs.length
 e : parseOp s = setFs (fs.drop k) y (ws.drop k)
theorem PJ.step {s : Bs} {fs : List Fd} {ws : List Bs} {k : Nat} {y : OpD} {f : Fd} {w : Bs} (h : PJ s fs ws k y) (hf : fs[k]? = some f) (hw : ws[k]? = some w) : parseOp s = (setF f y w).bind fun y => setFs (fs.drop (k + 1)) y (ws.drop (k + 1)) := by
 obtain ⟨h1, g1⟩ := List.getElem?_eq_some_iff.1 hf
 obtain ⟨h2, g2⟩ := List.getElem?_eq_some_iff.1 hw
 rw [h.e, List.drop_eq_getElem_cons h1, List.drop_eq_getElem_cons h2, g1, g2]
 rfl
theorem PJ.done {s : Bs} {fs : List Fd} {ws : List Bs} {k : Nat} {y : OpD} {B : Fd → Nat} (h : PJ s fs ws k y) (hk : decide ((k : Int) < ((fs.map (fdV B)).length : Nat)) = false) : parseOp s = some y := by
 have h1 := of_decide_eq_false hk
 rw [List.length_map] at h1
 have h2 := h.le
 have : k = fs.length := by omega
 rw [h.e, this, List.drop_length]
 rfl
theorem spl_lens (c : UInt8) : ∀ (s : Bs), ∀ w ∈ spl c s, w.length ≤ s.length
 | [], w, h => by
  cases h with
  | head => exact Nat.le_refl _
  | tail _ h => cases h
 | x :: s, w, h => by
  rw [spl_cons] at h
  split at h
  ·cases h with
   | head => exact Nat.zero_le _
   | tail _ h => have := spl_lens c s w h; rw [List.length_cons]; omega
  ·split at h
   ·rename_i v r e
    cases h with
    | head => have := spl_lens c s v (by rw [e]; exact .head _); rw [List.length_cons, List.length_cons]; omega
    | tail _ h => have := spl_lens c s w (by rw [e]; exact .tail _ h); rw [List.length_cons]; omega
   ·cases h with
    | head => rw [List.length_cons]; exact Nat.le_add_left ..
    | tail _ h => cases h
theorem vword_sp (L P : List Asn) {c z : Nat} {w0 : Bs} {ws : List Bs} {wv v : Value} {n : Bs} (hc : Pt c [wv] z ∈ P) (hw : Sl 1 wv (sv (w0 :: ws)) ∈ P) : Sp SEL 36 [.agg ⟨[S n, v]⟩, ppt c 0] L P (fun r L' P' => r = .bool (decide (n = w0)) ∧ L' = L ∧ P' = P) := by
 refine Sp.body (fn := Tryz.f36) (N := 9) (by kernel_rfl) (by kernel_rfl) rfl (by kernel_rfl) rfl ?_
 refine .seq (.region ?_)
 refine .bx (cs := [_, _]) fun b2 => ?_
 refine .pu .as ?_
 refine .nil ?_
 refine .seq (.quiet (by kernel_rfl) ?_)
 refine .pu .fa ?_
 refine .ld ?_
 refine .ld ?_
 refine .lk (.ia (n := (0 : Nat)) (hn := by rw [sv_len, List.length_cons]; omega)) ?_
 refine .le (w := S w0) rfl ?_
 refine .pu (.seq (q := decide (n = w0))) ?_
 refine .pu .as ?_
 refine .nil ?_
 refine .ret ?_
 exact ⟨_, .tmp rfl .nil, _, _, .d1, rfl, rfl, rfl⟩
theorem vfind_sp (L P : List Asn) {c z : Nat} {w0 : Bs} {ws : List Bs} {wv tv : Value} {B : Fd → Nat} (hc : Pt c [wv] z ∈ P) (hw : Sl 1 wv (sv (w0 :: ws)) ∈ P) (hT : VTab P B tv) : Sp SEL 35 [tv, .func (.func 36) #[] #[ppt c 0]] L P (fun r L' P' => r = .int .i64 (vixI w0 vtab) ∧ L' = L ∧ P' = P) := by
 refine Sp.body (fn := Tryz.f35) (N := 18) (by kernel_rfl) (by kernel_rfl) rfl (by kernel_rfl) rfl ?_
 obtain ⟨⟨rows, ht, hr⟩, _⟩ := hT
 have hlen : rows.length = 22 := hr.len
 refine .seq (.region ?_)
 refine .pu .as ?_
 refine .nil ?_
 refine .seq (.seq (.region ?_))
 refine .pu .mv ?_
 refine .lk .ln ?_
 refine .pu .mv ?_
 refine .nil ?_
 refine .block (W.loop (fun (i : Nat) => i ≤ 22 ∧ vix w0 (vtab.take i) = none) (fun i => 22 - i) (fun i => [(0, tv), (1, .func (.func 36) #[] #[ppt c 0]), (7, .int .i64 (22 : Nat)), (8, .int .i64 (i : Nat))]) (fun _ => L) (fun _ => P) 0 ⟨Nat.zero_le _, rfl⟩ ⟨rfl, rfl, by rw [← hlen]; rfl, rfl, trivial⟩ (.refl _ _) (fun i hi => ?_))
 obtain ⟨hi1, hi2⟩ := hi
 refine .seq (.region ?_)
 refine .pu (.cmp (q := decide ((i : Int) < (22 : Nat)))) ?_
 refine .nil ?_
 refine .seq (.ite rfl (fun h9 => ?_) (fun h9 => ?_))
 ·refine .skip ?_
  refine .seq (.block (.seq (.region ?_)))
  refine .pu .mv ?_
  refine .pu .as ?_
  refine .nil ?_
  refine .seq (.region ?_)
  refine .pu .mv ?_
  refine .pu .mv ?_
  refine .pu .mv ?_
  have hi : i < 22 := by have := of_decide_eq_true h9; omega
  obtain ⟨x, hx⟩ : ∃ x, vtab[i]? = some x := ⟨vtab[i]'hi, List.getElem?_eq_getElem (l := vtab) hi⟩
  obtain ⟨v, hrow, _⟩ := hr.get hx
  refine .lk (.ia (n := (i : Nat)) (hn := by rw [hlen]; omega)) ?_
  refine .la hrow ?_
  refine .call (vword_sp _ _ (n := x.1) (v := v) hc hw) ?_; rintro _ L P ⟨rfl, rfl, rfl⟩
  refine .nil ?_
  refine .ite rfl (fun h16 => ?_) (fun h16 => ?_)
  ·refine .seq (.region ?_)
   refine .pu .mv ?_
   refine .pu .as ?_
   refine .nil ?_
   refine .ret ?_
   exact ⟨_, .tmp rfl .nil, _, _, .refl _ _, congrArg (Value.int .i64) (vixI_some (vix_here hi2 hx (of_decide_eq_true h16))).symm, rfl, rfl⟩
  refine .skip ?_
  refine .region ?_
  refine .pu (.add (hr := by omega)) ?_
  refine .pu .mv ?_
  refine .nil ?_
  exact ⟨i + 1, ⟨hi, vix_next hi2 hx (of_decide_eq_false h16)⟩, by show 22 - (i + 1) < 22 - i; omega, ⟨rfl, rfl, rfl, rfl, trivial⟩, .refl _ _⟩
 refine .exit ?_
 refine .seq (.region ?_)
 refine .pu .as ?_
 refine .nil ?_
 refine .ret ?_
 exact ⟨_, .tmp rfl .nil, _, _, .refl _ _, congrArg (Value.int .i64) (vixI_end h9 hi1 hi2).symm, rfl, rfl⟩
theorem lparse_sp (L P : List Asn) (s : Bs) (hl : s.length ≤ 10000000000) (hK : Kn P) : Sp SEL 13 [S s] L P (fun r L' P' => r = .tuple #[.agg ⟨opR (parseOp s)⟩, .int .i64 (if (parseOp s).isSome then 0 else 2)] ∧ L' = L ∧ P' = P) := by
 refine Sp.body (fn := Tryz.f13) (N := 56) (by kernel_rfl) (by kernel_rfl) rfl (by kernel_rfl) rfl ?_
 refine .seq (.region ?_)
 refine .nw (cs := [.int .i64 0, S [], S [], .int .i64 0, .int .i64 0, .int .i64 0, S []]) fun b2 => ?_
 refine .pu .as ?_
 refine .nil ?_
 refine .seq (.region ?_)
 refine .pu .mv ?_
 refine .call (split_sp _ _ s 32 hl) ?_; rintro wv L1 P ⟨rfl, rfl⟩
 refine .fact (slc_ow .l0) fun hv => ?_
 obtain ⟨a11, c11, rfl⟩ := hv
 refine .ent .sl ?_
 refine .nw (cs := [.slice none 0 0]) fun b4 => ?_
 refine .st (vs := [_]) ?_
 refine .ent .pt ?_
 refine .nil ?_
 refine .seq (.region ?_)
 refine .call (verbs_sp _ _) ?_; rintro tv L2 P2 ⟨B, hT, rfl, hsub⟩
 obtain ⟨w0, ws, hspl⟩ : ∃ w0 ws, spl 32 s = w0 :: ws := by
  rcases hh : spl 32 s with _ | ⟨w0, ws⟩
  ·exact absurd hh (spl_ne 32 s)
  ·exact ⟨w0, ws, rfl⟩
 rw [hspl] at hsub
 have hlens := spl_lens 32 s
 have hslen := spl_len 32 s
 rw [hspl] at hlens hslen
 rw [List.length_cons] at hslen
 have hK2 : Kn P2 := hK.mono fun a h => hsub a (.tail _ (.tail _ h))
 have hc := hsub _ (.head _)
 have hw := hsub _ (.tail _ (.head _))
 have hless : ∀ a ∈ P, a ∈ P2 := fun a h => hsub a (.tail _ (.tail _ h))
 refine .pu .as ?_
 refine .nil ?_
 refine .seq (.region ?_)
 refine .pu .mv ?_
 refine .pu .mf ?_
 refine .call (vfind_sp _ _ hc hw hT) ?_; rintro _ L P2 ⟨rfl, rfl, rfl⟩
 refine .pu .as ?_
 refine .nil ?_
 refine .seq (.seq (.quiet (by kernel_rfl) ?_))
 refine .pu .mv ?_
 refine .pu (.cmp (q := decide (vixI w0 vtab < 0))) ?_
 refine .pu .mv ?_
 refine .or 18 10 (decide ((flen w0 : Int) ≠ ws.length)) (fun hq => ?_) ?_
 ·obtain ⟨i, fs, hv⟩ := vixI_pos hq
  obtain ⟨rows, ht, hr⟩ := hT.rows
  obtain ⟨v, hrow, hfs⟩ := hr.get (vix_get hv)
  have hrow : rows[i]? = some [S w0, v] := hrow
  have hfs : Sl 2 v (fs.map (fdV B)) ∈ P2 := hfs
  have hlen : rows.length = 22 := hr.len
  have hi := vix_lt hv
  rw [vixI_some hv, flen_some hv]
  refine .on (.pu .mv ?_)
  refine .on (.pu .mv ?_)
  refine .on (.lk (.ia (n := (i : Nat)) (hn := by rw [hlen]; omega)) ?_)
  refine .on (.pu .fa ?_)
  refine .on (.lf (j := 1) hrow ?_)
  refine .on (.lk .ln ?_)
  refine .on (.ld ?_)
  refine .on (.lk .ln ?_)
  refine .on (.pu (.sub (hr := by rw [sv_len, List.length_cons]; omega)) ?_)
  refine .on (.pu (.cmp (q := decide ((fs.length : Int) ≠ ws.length)) (hq := by rw [sv_len, List.length_map, List.length_cons]; show some (decide _) = _; congr 1; exact dec_eq (by omega))) ?_)
  exact .fin rfl
 refine .nil ?_
 refine .ite rfl (fun h29 => ?_) (fun h29 => ?_)
 ·refine .seq (.region ?_)
  refine .pu (.bd (vs := [_, _, _, _, _, _, _])) ?_
  refine .st (vs := [_, _, _, _, _, _, _]) ?_
  refine .pu .as ?_
  refine .nil ?_
  refine .ret ?_
  exact ⟨_, .cell rfl .l0 rfl (.tmp rfl .nil), _, _, (Ent.d1.trans (Ent.less hless)), parse_rn (parse_bad hspl h29), rfl, rfl⟩
 refine .skip ?_
 refine .seq (.region ?_)
 refine .pu .mv ?_
 obtain ⟨i, fs, hv, hfl, hpe⟩ := parse_good hspl h29
 obtain ⟨rows, ht, hr⟩ := hT.rows
 obtain ⟨v, hrow, hfs⟩ := hr.get (vix_get hv)
 have hrow : rows[i]? = some [S w0, v] := hrow
 have hfs : Sl 2 v (fs.map (fdV B)) ∈ P2 := hfs
 have hlen : rows.length = 22 := hr.len
 have hi := vix_lt hv
 rw [vixI_some hv]
 refine .pu (.add (hr := by omega)) ?_
 refine .pu (.bd (vs := [_, _, _, _, _, _, _])) ?_
 refine .nw (cs := [.int .i64 0, S [], S [], .int .i64 0, .int .i64 0, .int .i64 0, S []]) fun b7 => ?_
 refine .st (vs := [_, _, _, _, _, _, _]) ?_
 refine .nil ?_
 refine .seq (.seq (.region ?_))
 refine .pu .mv ?_
 refine .pu .mv ?_
 refine .lk (.ia (n := (i : Nat)) (hn := by rw [hlen]; omega)) ?_
 refine .pu .fa ?_
 refine .lf (j := 1) hrow ?_
 refine .lk .ln ?_
 refine .pu .mv ?_
 refine .nil ?_
 refine .block (W.loop (fun (p : Nat × OpD) => PJ s fs ws p.1 p.2) (fun p => fs.length - p.1) (fun p => [(38, v), (39, .int .i64 ((fs.map (fdV B)).length : Nat)), (40, .int .i64 (p.1 : Nat)), (7, ppt b7 0), (4, ppt b4 0), (2, ppt b2 0)]) (fun p => Pt b7 (opC p.2) (tz 0 45) :: Pt b2 (opC (op0 0)) (tz 0 45) :: L) (fun _ => P2) (0, op0 ((i : Nat) + 1)) ⟨Nat.zero_le _, hpe⟩ ⟨rfl, rfl, rfl, rfl, rfl, rfl, trivial⟩ (.refl _ _) (fun p hj => ?_))
 obtain ⟨k, y⟩ := p
 dsimp only
 have hj : PJ s fs ws k y := hj
 have hjk := hj.le
 refine .seq (.region ?_)
 refine .pu (.cmp (q := decide ((k : Int) < ((fs.map (fdV B)).length : Nat)))) ?_
 refine .nil ?_
 refine .seq (.ite rfl (fun h41 => ?_) (fun h41 => ?_))
 ·refine .skip ?_
  refine .seq (.block (.seq (.region ?_)))
  refine .pu .mv ?_
  have hk : k < fs.length := by have := of_decide_eq_true h41; rw [List.length_map] at this; omega
  obtain ⟨f, hf⟩ : ∃ f, fs[k]? = some f := ⟨fs[k], List.getElem?_eq_getElem hk⟩
  obtain ⟨w, hwk⟩ : ∃ w, ws[k]? = some w := ⟨ws[k]'(by omega), List.getElem?_eq_getElem (by omega)⟩
  have hwl : w.length ≤ 10000000000 := by have := hlens w (.tail _ (List.mem_of_getElem? hwk)); omega
  have hrowf : (fs.map (fdV B))[k]? = some [.func (.func (fnR f)) #[] ⟨capB B f⟩, .func (.func (fnW f)) #[] ⟨capB B f⟩] := by rw [List.getElem?_map, hf]; exact congrArg some (fdV_eq B f)
  refine .lk (.ia (n := (k : Nat)) (hn := by rw [List.length_map]; omega)) ?_
  refine .la hrowf ?_
  refine .nw (cs := [.nilFunc, .nilFunc]) fun b9 => ?_
  refine .pu .as ?_
  refine .st (vs := [_, _]) ?_
  refine .ent .pt ?_
  refine .nil ?_
  refine .seq (.drawn (by kernel_rfl) fun base => ?_)
  refine .pu .fa ?_
  refine .lo 0 0 .ld .mk ?_ (hq := .c (veq_rd B f))
  refine .lo 0 0 .ld .mk ?_
  refine .pu .mv ?_
  refine .pu (.add (hr := by omega)) ?_
  refine .lk (.ia (n := (k : Nat) + 1) (hn := by rw [sv_len, List.length_cons]; omega)) ?_
  refine .lo 0 0 .le (.mk (show (sv (w0 :: ws))[k + 1]? = some [S w] by rw [List.getElem?_map, List.getElem?_cons_succ, hwk]; rfl)) ?_
  refine .call (rd_sp f _ _ w hwl (hT.mono fun a h => .tail _ h) (hK2.mono fun a h => .tail _ h)) ?_; rintro _ L P ⟨y', rfl, hy', rfl, rfl⟩
  refine .pu .nt ?_
  refine .nil (.cons (.yes (.mk (show (sv (w0 :: ws))[k + 1]? = some [S w] by rw [List.getElem?_map, List.getElem?_cons_succ, hwk]; rfl)) (.skip .nil)) (.cons (.yes .mk (.skip .nil)) (.cons (.yes .mk (.skip .nil)) .nil))) ?_
  refine .ite rfl (fun h53 => ?_) (fun h53 => ?_)
  ·refine .seq (.region ?_)
   refine .pu (.bd (vs := [_, _, _, _, _, _, _])) ?_
   refine .st (vs := [_, _, _, _, _, _, _]) ?_
   refine .pu .as ?_
   refine .nil ?_
   refine .ret ?_
   exact ⟨_, .cell rfl .l1 rfl (.tmp rfl .nil), _, _, Ent.d2.trans (Ent.less fun a h => .tail _ (hless a h)), parse_rn (by rw [hj.step hf hwk]; cases hs : setF f y w with | none => rfl | some z => rw [hs] at h53; cases h53), rfl, rfl⟩
  refine .skip ?_
  refine .region ?_
  refine .pu (.add (hr := by omega)) ?_
  refine .pu .mv ?_
  refine .nil ?_
  refine ⟨(k + 1, y'), ⟨hk, ?_⟩, by show fs.length - (k + 1) < fs.length - k; omega, ⟨rfl, rfl, rfl, rfl, rfl, rfl, trivial⟩, .forget⟩
  rw [hj.step hf hwk]
  cases hs : setF f y w with
  | none => rw [hs] at h53; cases h53
  | some z => rw [hy' z hs]; rfl
 refine .exit ?_
 refine .seq (.region ?_)
 refine .lda (vs := [_, _, _, _, _, _, _]) ?_
 refine .st (vs := [_, _, _, _, _, _, _]) ?_
 refine .pu .as ?_
 refine .nil ?_
 refine .ret ?_
 exact ⟨_, .cell rfl .l1 rfl (.tmp rfl .nil), _, _, Ent.d2.trans (Ent.less hless), parse_rs (hj.done h41), rfl, rfl⟩
end Go.Cis
/- Operations compared. -/
namespace Go.Cis
open Go Go.Ax Go.Lx Go.Proofs
set_option maxRecDepth 100000
noncomputable def flds (u : TypeId) : Array Field := match SEL.P.underlying u with
 | some (.struct F) => F
 | _ => #[]
def opT : List (Bool × TypeId × Nat) := [(false, 3, 0), (false, 9, 1), (false, 9, 2), (false, 3, 3), (false, 3, 4), (false, 3, 5), (false, 9, 6)]
theorem und45 : SEL.P.underlying 45 = some (.struct (flds 45)) := by kernel_rfl
theorem und3 : SEL.P.underlying 3 = some (.int .i64) := by kernel_rfl
theorem und9 : SEL.P.underlying 9 = some .string := by kernel_rfl
theorem fld45 : (flds 45).toList.map (fun f => (f.name == "_", f.type, f.offset)) = opT := by kernel_rfl
theorem so45 : SEL.P.stoodInHeld 45 = false := by kernel_rfl
theorem gt45 : SEL.P.eqGuardType SEL.P.depth 45 = false := by kernel_rfl
instance : DecidableEq OpD := fun x y => decidable_of_iff (x.k = y.k ∧ x.p = y.p ∧ x.t = y.t ∧ x.h = y.h ∧ x.o = y.o ∧ x.n = y.n ∧ x.d = y.d) (by
 obtain ⟨k, p, t, h, o, n, d⟩ := x
 obtain ⟨k', p', t', h', o', n', d'⟩ := y
 simp only [OpD.mk.injEq])
theorem ba_eq (a b : Bs) : ((⟨⟨a⟩⟩ : ByteArray) == ⟨⟨b⟩⟩) = decide (a = b) := by
 by_cases h : a = b
 ·subst h; simp
 ·rw [decide_eq_false h]
  exact beq_eq_false_iff_ne.2 (fun e => h (by cases e; rfl))
theorem opB (x y : OpD) : [x.k == y.k, (⟨⟨x.p⟩⟩ : ByteArray) == ⟨⟨y.p⟩⟩, (⟨⟨x.t⟩⟩ : ByteArray) == ⟨⟨y.t⟩⟩, x.h == y.h, x.o == y.o, x.n == y.n, (⟨⟨x.d⟩⟩ : ByteArray) == ⟨⟨y.d⟩⟩].all id = decide (x = y) := by
 obtain ⟨k, p, t, h, o, n, d⟩ := x
 obtain ⟨k', p', t', h', o', n', d'⟩ := y
 simp only [ba_eq, OpD.mk.injEq, List.all_cons, List.all_nil, id, Bool.and_true, Bool.decide_and]
 simp only [← Bool.beq_eq_decide_eq]
theorem op_eqT (x y : OpD) : EqTs SEL.P 9999 ⟨opC x⟩ ⟨opC y⟩ opT [x.k == y.k, (⟨⟨x.p⟩⟩ : ByteArray) == ⟨⟨y.p⟩⟩, (⟨⟨x.t⟩⟩ : ByteArray) == ⟨⟨y.t⟩⟩, x.h == y.h, x.o == y.o, x.n == y.n, (⟨⟨x.d⟩⟩ : ByteArray) == ⟨⟨y.d⟩⟩] :=
 .cons (eqt_int und3 rfl rfl) (.cons (eqt_str und9 rfl rfl) (.cons (eqt_str und9 rfl rfl) (.cons (eqt_int und3 rfl rfl) (.cons (eqt_int und3 rfl rfl) (.cons (eqt_int und3 rfl rfl) (.cons (eqt_str und9 rfl rfl) .nil))))))
theorem opNe {al : Al} {x y : Operand} {r : Nat} (a b : OpD) (hx : evl al x = some (.agg ⟨opC a⟩) := by rfl) (hy : evl al y = some (.agg ⟨opC b⟩) := by rfl) : Pu SEL al (.binOp .neq 45 x y r) (.bool (decide (a ≠ b))) :=
 .bin_struct_neq (EqTs.fs fld45 (op_eqT a b)) (by rw [opB]; simp) und45 so45 gt45 (by kernel_rfl) rfl rfl hx hy
end Go.Cis
