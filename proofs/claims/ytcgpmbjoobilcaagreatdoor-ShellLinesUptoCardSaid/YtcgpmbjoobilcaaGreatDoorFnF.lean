/- The walk of shell.Line. -/
import Derived.Test.YtcgpmbjoobilcaaGreatDoorFnE
import Derived.Test.YtcgpmbjoobilcaaGreatDoorFnC
import Derived.Test.YtcgpmbjoobilcaaGreatDoorFnA
set_option linter.unusedSimpArgs false
set_option linter.unusedVariables false
namespace Go.Cis
open Go Go.Ax Go.Lx Go.Proofs
set_option maxRecDepth 100000
structure OpOk (x : OpD) : Prop where
 p : x.p.length ≤ 100000000
 t : x.t.length ≤ 100000000
 d : x.d.length ≤ 100000000
 h1 : -9223372036854775808 ≤ x.h
 h2 : x.h ≤ 9223372036854775807
 o1 : -9223372036854775808 ≤ x.o
 o2 : x.o ≤ 9223372036854775807
 n1 : -9223372036854775808 ≤ x.n
 n2 : x.n ≤ 9223372036854775807
theorem wr_len {x : OpD} (hx : OpOk x) (f : Fd) : (wrF f x).length ≤ 200000001 := by
 cases f with
 | P => have := hx.p; show x.p.length ≤ _; omega
 | Q => have := hx.t; show x.t.length ≤ _; omega
 | H => have := Lib.itoa_length_le x.h hx.h1 hx.h2; show (Lib.itoa x.h).length ≤ _; omega
 | O => have := Lib.itoa_length_le x.o hx.o1 hx.o2; show (Lib.itoa x.o).length ≤ _; omega
 | N => have := Lib.itoa_length_le x.n hx.n1 hx.n2; show (Lib.itoa x.n).length ≤ _; omega
 | B => have := wordOf_len x.d; have := hx.d; show (wordOf x.d).length ≤ _; omega
theorem join_cons2 (a b : Bs) (l : List Bs) (s : Bs) : Lib.join (a :: b :: l) s = a ++ s ++ Lib.join (b :: l) s := by
 simp [Lib.join, List.intercalate, List.intersperse]
theorem join_one (a s : Bs) : Lib.join [a] s = a := by simp [Lib.join, List.intercalate, List.intersperse]
theorem join_len {m : Nat} : ∀ {l : List Bs}, (∀ w ∈ l, w.length ≤ m) → (Lib.join l [32]).length ≤ l.length * (m + 1)
 | [], _ => by simp [Lib.join, List.intercalate, List.intersperse]
 | [a], h => by rw [join_one]; have := h a (.head _); simp only [List.length_cons, List.length_nil]; omega
 | a :: b :: l, h => by
  rw [join_cons2, List.length_append, List.length_append, List.length_cons (a := a), Nat.succ_mul]
  have h1 := h a (.head _)
  have h2 := join_len (l := b :: l) (fun w hw => h w (.tail _ hw))
  simp only [List.length_cons, List.length_nil] at h2 ⊢
  omega
def wordsL (n : Bs) (fs : List Fd) (x : OpD) : List Bs := n :: fs.map fun f => wrF f x
def lineT (n : Bs) (fs : List Fd) (x : OpD) : Bs := Lib.join (wordsL n fs x) [32]
def lineOp (x : OpD) : Option Bs := if x.k < 1 ∨ 22 < x.k then none else match vtab[(x.k - 1).toNat]? with
 | none => none
 | some r => if parseOp (lineT r.1 r.2 x) = some x then some (lineT r.1 r.2 x) else none
theorem vtab_ok : ∀ r ∈ vtab, r.1.length ≤ 8 ∧ r.2.length ≤ 3 := by decide
theorem lineT_len {x : OpD} (hx : OpOk x) {i : Nat} {r : Bs × List Fd} (hr : vtab[i]? = some r) : (lineT r.1 r.2 x).length ≤ 4 * 200000002 := by
 have h1 := vtab_ok r (List.mem_of_getElem? hr)
 have h2 := join_len (l := wordsL r.1 r.2 x) (m := 200000001) (fun w hw => by
  cases hw with
  | head => omega
  | tail _ h =>
   obtain ⟨f, _, rfl⟩ := List.mem_map.1 h
   exact wr_len hx f)
 have h3 : (wordsL r.1 r.2 x).length ≤ 4 := by unfold wordsL; rw [List.length_cons, List.length_map]; omega
 exact Nat.le_trans h2 (Nat.mul_le_mul_right _ h3)
theorem wordsL_len {x : OpD} {i : Nat} {r : Bs × List Fd} (hr : vtab[i]? = some r) : (wordsL r.1 r.2 x).length ≤ 4 := by
 have h1 := vtab_ok r (List.mem_of_getElem? hr)
 unfold wordsL; rw [List.length_cons, List.length_map]; omega
theorem wr_sp (f : Fd) (L P : List Asn) {B : Fd → Nat} {tv : Value} {x : OpD} (hx : OpOk x) (hT : VTab P B tv) (hK : Kn P) : Sp SEL (fnW f) ([.agg ⟨opC x⟩] ++ capB B f) L P (fun r L' P' => r = S (wrF f x) ∧ L' = L ∧ P' = P) := by
 cases f with
 | P => obtain ⟨z, hb⟩ := hT.bP; exact pf2_sp L P acP_sp hb rfl
 | Q => obtain ⟨z, hb⟩ := hT.bQ; exact pf2_sp L P acQ_sp hb rfl
 | H => obtain ⟨z, hb⟩ := hT.bH; exact nf2_sp L P acH_sp hb rfl hx.h1 hx.h2 hK.pow
 | O => obtain ⟨z, hb⟩ := hT.bO; exact nf2_sp L P acO_sp hb rfl hx.o1 hx.o2 hK.pow
 | N => obtain ⟨z, hb⟩ := hT.bN; exact nf2_sp L P acN_sp hb rfl hx.n1 hx.n2 hK.pow
 | B => exact bf2_sp L P (by have := hx.d; omega)
theorem line_out {x : OpD} (h : (decide (x.k < 1) || decide (x.k > 22)) = true) : lineOp x = none := by
 unfold lineOp
 rw [if_pos (by simpa [Bool.or_eq_true] using h)]
theorem line_in {x : OpD} (h : (decide (x.k < 1) || decide (x.k > 22)) = false) : ∃ (i : Nat) (n : Bs) (fs : List Fd), x.k - 1 = (i : Int) ∧ i < 22 ∧ vtab[i]? = some (n, fs) ∧ lineOp x = if parseOp (lineT n fs x) = some x then some (lineT n fs x) else none := by
 rw [Bool.or_eq_false_iff] at h
 have h1 := of_decide_eq_false h.1
 have h2 := of_decide_eq_false h.2
 have hi : (x.k - 1).toNat < vtab.length := by show _ < 22; omega
 refine ⟨(x.k - 1).toNat, (vtab[(x.k - 1).toNat]).1, (vtab[(x.k - 1).toNat]).2, by omega, by omega, List.getElem?_eq_getElem hi, ?_⟩
 unfold lineOp
 rw [if_neg (by omega), List.getElem?_eq_getElem hi]
theorem line_bad {x : OpD} {l : Bs} (h : (decide ((if (parseOp l).isSome then (0 : Int) else 2) ≠ 0) || decide ((parseOp l).getD (op0 0) ≠ x)) = true) : ¬ parseOp l = some x := fun e => by
 rw [e] at h
 simp at h
theorem line_good {x : OpD} {l : Bs} (h : (decide ((if (parseOp l).isSome then (0 : Int) else 2) ≠ 0) || decide ((parseOp l).getD (op0 0) ≠ x)) = false) : parseOp l = some x := by
 rw [Bool.or_eq_false_iff] at h
 cases hp : parseOp l with
 | none => rw [hp] at h; exact absurd h.1 (by decide)
 | some y =>
  rw [hp] at h
  have := of_decide_eq_false h.2
  simpa using this
theorem line_rn {x : OpD} (h : lineOp x = none) : packA [S [], .int .i64 2] = .tuple #[S ((lineOp x).getD []), .int .i64 (if (lineOp x).isSome then 0 else 2)] := by rw [h]; rfl
theorem line_rs {x : OpD} {l : Bs} (h : lineOp x = some l) : packA [S l, .int .i64 0] = .tuple #[S ((lineOp x).getD []), .int .i64 (if (lineOp x).isSome then 0 else 2)] := by rw [h]; rfl
theorem line_sp (L P : List Asn) {x : OpD} (hx : OpOk x) (hK : Kn P) : Sp SEL 15 [.agg ⟨opC x⟩] L P (fun r L' P' => r = .tuple #[S ((lineOp x).getD []), .int .i64 (if (lineOp x).isSome then 0 else 2)] ∧ L' = L ∧ P' = P) := by
 refine Sp.body (fn := Tryz.f15) (N := 64) (by kernel_rfl) (by kernel_rfl) rfl (by kernel_rfl) rfl ?_
 refine .seq (.region ?_)
 refine .bx (cs := [_, _, _, _, _, _, _]) fun b1 => ?_
 refine .ent .pt ?_
 refine .pu .as ?_
 refine .pu .as ?_
 refine .nil ?_
 refine .seq (.region ?_)
 refine .call (verbs_sp _ _) ?_; rintro tv L P2 ⟨B, hT, rfl, hsub⟩
 have hb1 := hsub _ (.head _)
 have hless : ∀ a ∈ P, a ∈ P2 := fun a h => hsub a (.tail _ h)
 have hK2 : Kn P2 := hK.mono hless
 obtain ⟨rows, ht, hr⟩ := hT.rows
 have hlen : rows.length = 22 := hr.len
 refine .pu .as ?_
 refine .nil ?_
 refine .seq (.seq (.region ?_))
 refine .pu .fa ?_
 refine .ld ?_
 refine .pu (.cmp (q := decide (x.k < 1))) ?_
 refine .pu .mv ?_
 refine .or 15 5 (decide (x.k > 22)) (fun hq => ?_) ?_
 ·refine .on (.pu .fa ?_)
  refine .on (.ld ?_)
  refine .on (.pu .mv ?_)
  refine .on (.lk .ln ?_)
  refine .on (.pu (.cmp (q := decide (x.k > 22)) (hq := by rw [hlen]; rfl)) ?_)
  exact .fin rfl
 refine .nil ?_
 refine .ite rfl (fun h21 => ?_) (fun h21 => ?_)
 ·refine .seq (.region ?_)
  refine .pu .as ?_
  refine .pu .as ?_
  refine .nil ?_
  refine .ret ?_
  exact ⟨_, .tmp rfl (.tmp rfl .nil), _, _, (Ent.less hless), line_rn (line_out h21), rfl, rfl⟩
 refine .skip ?_
 refine .seq (.region ?_)
 refine .pu .mv ?_
 obtain ⟨i, n, fs, hki, hi, hvt, hline⟩ := line_in h21
 obtain ⟨v, hrow, hfs⟩ := hr.get hvt
 have hrow : rows[i]? = some [S n, v] := hrow
 have hfs : Sl 2 v (fs.map (fdV B)) ∈ P2 := hfs
 have hvl : fs.length ≤ 3 := (vtab_ok _ (List.mem_of_getElem? hvt)).2
 refine .pu .fa ?_
 refine .ld ?_
 refine .pu (.sub (hr := by omega)) ?_
 rw [hki]
 refine .lk (.ia (n := (i : Nat)) (hn := by rw [hlen]; omega)) ?_
 refine .pu .fa ?_
 refine .lf (j := 0) hrow ?_
 refine .bl (k := 1) (es := [[S n]]) fun v29 => ?_
 refine .pu .as ?_
 refine .nil ?_
 refine .seq (.seq (.region ?_))
 refine .pu .mv ?_
 refine .pu .fa ?_
 refine .ld ?_
 refine .pu (.sub (hr := by omega)) ?_
 rw [hki]
 refine .lk (.ia (n := (i : Nat)) (hn := by rw [hlen]; omega)) ?_
 refine .pu .fa ?_
 refine .lf (j := 1) hrow ?_
 refine .lk .ln ?_
 refine .pu .mv ?_
 refine .nil ?_
 refine .block (W.loop (fun (p : Nat × Value) => p.1 ≤ fs.length) (fun p => fs.length - p.1) (fun p => [(36, v), (37, .int .i64 ((fs.map (fdV B)).length : Nat)), (38, .int .i64 (p.1 : Nat)), (5, p.2), (1, ppt b1 0)]) (fun p => Ow 1 p.2 (sv (wordsL n (fs.take p.1) x)) :: L) (fun _ => P2) (0, v29) (Nat.zero_le _) ⟨rfl, rfl, rfl, rfl, rfl, trivial⟩ (.refl _ _) (fun p hj => ?_))
 obtain ⟨k, v5⟩ := p
 dsimp only
 have hjk : k ≤ fs.length := hj
 refine .seq (.region ?_)
 refine .pu (.cmp (q := decide ((k : Int) < ((fs.map (fdV B)).length : Nat)))) ?_
 refine .nil ?_
 refine .seq (.ite rfl (fun h39 => ?_) (fun h39 => ?_))
 ·refine .skip ?_
  refine .seq (.block (.seq (.region ?_)))
  have hk : k < fs.length := by have := of_decide_eq_true h39; rw [List.length_map] at this; omega
  obtain ⟨f, hf⟩ : ∃ f, fs[k]? = some f := ⟨fs[k], List.getElem?_eq_getElem hk⟩
  have hrowf : (fs.map (fdV B))[k]? = some [.func (.func (fnR f)) #[] ⟨capB B f⟩, .func (.func (fnW f)) #[] ⟨capB B f⟩] := by rw [List.getElem?_map, hf]; exact congrArg some (fdV_eq B f)
  refine .lk (.ia (n := (k : Nat)) (hn := by rw [List.length_map]; omega)) ?_
  refine .la hrowf ?_
  refine .nw (cs := [.nilFunc, .nilFunc]) fun b7 => ?_
  refine .st (vs := [_, _]) ?_
  refine .ent .pt ?_
  refine .nil ?_
  refine .region ?_
  refine .pu .mv ?_
  refine .pu .fa ?_
  refine .ld ?_
  refine .lda (vs := [_, _, _, _, _, _, _]) ?_
  refine .call (wr_sp f _ _ hx (hT.mono fun a h => .tail _ h) (hK2.mono fun a h => .tail _ h)) ?_; rintro _ L P ⟨rfl, rfl, rfl⟩
  refine .bl (k := 1) (es := [[_]]) fun v47 => ?_
  refine .ap (fun v48 => ?_) (hn := by unfold wordsL; rw [sv_len, List.length_cons, List.length_map, List.length_take]; simp only [List.length_cons, List.length_nil]; omega)
  refine .pu .as ?_
  refine .nil ?_
  refine .region ?_
  refine .pu (.add (hr := by omega)) ?_
  refine .pu .mv ?_
  refine .nil ?_
  refine ⟨(k + 1, v48), hk, by show fs.length - (k + 1) < fs.length - k; omega, ⟨rfl, rfl, rfl, rfl, rfl, trivial⟩, ?_⟩
  show Ent _ _ (Ow 1 v48 (sv (wordsL n (fs.take (k + 1)) x)) :: L) _
  rw [show sv (wordsL n (fs.take (k + 1)) x) = sv (wordsL n (fs.take k) x) ++ [[S (wrF f x)]] by unfold wordsL sv; rw [List.take_add_one, hf]; simp]
  exact (Ent.take .z .d1).trans .forget
 refine .exit ?_
 refine .seq (.region ?_)
 refine .pu .mv ?_
 have hke : k = fs.length := by have := of_decide_eq_false h39; rw [List.length_map] at this; omega
 rw [show fs.take k = fs by rw [hke, List.take_length]]
 have hwl := wordsL_len (x := x) hvt
 have hll := lineT_len hx hvt
 refine .call (join_sp _ _ _ (wordsL n fs x) [32] (.o .l0) (by unfold lineT at hll; dsimp only at hll; omega) (by dsimp only at hwl; omega)) ?_; rintro _ L P2 ⟨rfl, rfl, rfl⟩
 refine .pu .as ?_
 refine .nil ?_
 refine .seq (.seq (.region ?_))
 refine .pu .mv ?_
 refine .call (lparse_sp _ _ (lineT n fs x) (by dsimp only at hll; omega) hK2) ?_; rintro _ L P2 ⟨rfl, rfl, rfl⟩
 refine .pu .mv ?_
 refine .pu .ex ?_
 refine .pu .ex ?_
 refine .nw (cs := [.int .i64 0, S [], S [], .int .i64 0, .int .i64 0, .int .i64 0, S []]) fun b9 => ?_
 refine .st (vs := [_, _, _, _, _, _, _]) ?_
 refine .pu .as ?_
 refine .nil ?_
 refine .seq (.region ?_)
 refine .pu .mv ?_
 refine .pu (.cmp (q := decide ((if (parseOp (lineT n fs x)).isSome then (0 : Int) else 2) ≠ 0))) ?_
 refine .pu .mv ?_
 refine .or 59 3 (decide ((parseOp (lineT n fs x)).getD (op0 0) ≠ x)) (fun hq => ?_) ?_
 ·refine .on (.lda (vs := [_, _, _, _, _, _, _]) ?_)
  refine .on (.lda (vs := [_, _, _, _, _, _, _]) ?_)
  refine .on (.pu (opNe ((parseOp (lineT n fs x)).getD (op0 0)) x) ?_)
  exact .fin rfl
 refine .nil ?_
 refine .ite rfl (fun h63 => ?_) (fun h63 => ?_)
 ·refine .seq (.region ?_)
  refine .pu .as ?_
  refine .pu .as ?_
  refine .nil ?_
  refine .ret ?_
  exact ⟨_, .tmp rfl (.tmp rfl .nil), _, _, (Ent.d2.trans (Ent.less hless)), line_rn (by rw [hline, if_neg (line_bad h63)]), rfl, rfl⟩
 refine .skip ?_
 refine .seq (.region ?_)
 refine .pu .mv ?_
 refine .pu .as ?_
 refine .pu .as ?_
 refine .nil ?_
 refine .ret ?_
 exact ⟨_, .tmp rfl (.tmp rfl .nil), _, _, (Ent.d2.trans (Ent.less hless)), line_rs (by rw [hline, if_pos (line_good h63)]; rfl), rfl, rfl⟩
end Go.Cis
/- The document's table, words and fields. -/
namespace Go.Cis
open Go Go.Ax Go.Lx Go.Proofs
set_option maxRecDepth 100000
def chF : Fd → UInt8
 | .P => 80
 | .Q => 81
 | .H => 72
 | .O => 79
 | .N => 78
 | .B => 66
def rtab : List (Bs × Bs) := ([], []) :: vtab.map fun r => (r.1, r.2.map chF)
def RRow (P : List Asn) (row : List Value) (x : Bs × Bs) : Prop := ∃ v, row = [v] ∧ Sl 1 v [[S x.1], [S x.2]] ∈ P
inductive RRows (P : List Asn) : List (List Value) → List (Bs × Bs) → Prop
 | nil : RRows P [] []
 | cons {row : List Value} {x : Bs × Bs} {rows : List (List Value)} {l : List (Bs × Bs)} (h : RRow P row x) (hr : RRows P rows l) : RRows P (row :: rows) (x :: l)
theorem RRows.len {P : List Asn} : ∀ {rows : List (List Value)} {l : List (Bs × Bs)}, RRows P rows l → rows.length = l.length := fun h => by
 induction h with
 | nil => rfl
 | cons h hr ih => rw [List.length_cons, List.length_cons, ih]
theorem RRows.get {P : List Asn} : ∀ {rows : List (List Value)} {l : List (Bs × Bs)}, RRows P rows l → ∀ {i : Nat} {x : Bs × Bs}, l[i]? = some x → ∃ v, rows[i]? = some [v] ∧ Sl 1 v [[S x.1], [S x.2]] ∈ P := fun h => by
 induction h with
 | nil => intro i x e; cases e
 | cons h hr ih =>
  intro i x e
  cases i with
  | zero =>
   obtain ⟨v, e1, hv⟩ := h
   cases e
   exact ⟨v, by rw [e1]; rfl, hv⟩
  | succ i => exact ih e
theorem rtab_eq : rtab = [([], []), ([99, 114, 101, 97, 116, 101], [80]), ([109, 107, 100, 105, 114], [80]), ([111, 112, 101, 110], [80]), ([99, 108, 111, 115, 101], [72]), ([114, 101, 97, 100], [72, 79, 78]), ([119, 114, 105, 116, 101], [72, 79, 66]), ([116, 114, 117, 110, 99, 97, 116, 101], [72, 78]), ([114, 101, 110, 97, 109, 101], [80, 81]), ([117, 110, 108, 105, 110, 107], [80]), ([114, 109, 100, 105, 114], [80]), ([108, 105, 110, 107], [80, 81]), ([108, 105, 115, 116], [80]), ([115, 116, 97, 116], [80]), ([102, 115, 121, 110, 99], [72]), ([115, 121, 110, 99], []), ([102, 108, 117, 115, 104], []), ([117, 112, 108, 111, 97, 100], []), ([101, 118, 105, 99, 116], []), ([99, 104, 101, 99, 107], []), ([103, 99], []), ([116, 105, 99, 107], [78]), ([115, 116, 97, 116, 117, 115], [])] := rfl
theorem rverbs_sp (L P : List Asn) : Sp SEL 31 [] L P (fun r L' P' => (∃ rows, Sl 1 r rows ∈ P' ∧ RRows P' rows rtab) ∧ L' = L ∧ ∀ a ∈ P, a ∈ P') := by
 refine Sp.body (fn := Tryz.f31) (N := 24) (by kernel_rfl) (by kernel_rfl) rfl (by kernel_rfl) rfl ?_
 refine .seq (.region ?_)
 refine .pu .as ?_
 refine .nil ?_
 refine .seq (.region ?_)
 refine .bl (k := 1) (es := [[S []], [S []]]) (hk := lenk rfl) fun v1 => ?_
 refine .fact (slc_ow .l0) fun hv => ?_
 obtain ⟨a1, c1, rfl⟩ := hv
 refine .ent .sl ?_
 refine .bl (k := 1) (es := [[S [99, 114, 101, 97, 116, 101]], [S [80]]]) (hk := lenk rfl) fun v2 => ?_
 refine .fact (slc_ow .l0) fun hv => ?_
 obtain ⟨a2, c2, rfl⟩ := hv
 refine .ent .sl ?_
 refine .bl (k := 1) (es := [[S [109, 107, 100, 105, 114]], [S [80]]]) (hk := lenk rfl) fun v3 => ?_
 refine .fact (slc_ow .l0) fun hv => ?_
 obtain ⟨a3, c3, rfl⟩ := hv
 refine .ent .sl ?_
 refine .bl (k := 1) (es := [[S [111, 112, 101, 110]], [S [80]]]) (hk := lenk rfl) fun v4 => ?_
 refine .fact (slc_ow .l0) fun hv => ?_
 obtain ⟨a4, c4, rfl⟩ := hv
 refine .ent .sl ?_
 refine .bl (k := 1) (es := [[S [99, 108, 111, 115, 101]], [S [72]]]) (hk := lenk rfl) fun v5 => ?_
 refine .fact (slc_ow .l0) fun hv => ?_
 obtain ⟨a5, c5, rfl⟩ := hv
 refine .ent .sl ?_
 refine .bl (k := 1) (es := [[S [114, 101, 97, 100]], [S [72, 79, 78]]]) (hk := lenk rfl) fun v6 => ?_
 refine .fact (slc_ow .l0) fun hv => ?_
 obtain ⟨a6, c6, rfl⟩ := hv
 refine .ent .sl ?_
 refine .bl (k := 1) (es := [[S [119, 114, 105, 116, 101]], [S [72, 79, 66]]]) (hk := lenk rfl) fun v7 => ?_
 refine .fact (slc_ow .l0) fun hv => ?_
 obtain ⟨a7, c7, rfl⟩ := hv
 refine .ent .sl ?_
 refine .bl (k := 1) (es := [[S [116, 114, 117, 110, 99, 97, 116, 101]], [S [72, 78]]]) (hk := lenk rfl) fun v8 => ?_
 refine .fact (slc_ow .l0) fun hv => ?_
 obtain ⟨a8, c8, rfl⟩ := hv
 refine .ent .sl ?_
 refine .bl (k := 1) (es := [[S [114, 101, 110, 97, 109, 101]], [S [80, 81]]]) (hk := lenk rfl) fun v9 => ?_
 refine .fact (slc_ow .l0) fun hv => ?_
 obtain ⟨a9, c9, rfl⟩ := hv
 refine .ent .sl ?_
 refine .bl (k := 1) (es := [[S [117, 110, 108, 105, 110, 107]], [S [80]]]) (hk := lenk rfl) fun v10 => ?_
 refine .fact (slc_ow .l0) fun hv => ?_
 obtain ⟨a10, c10, rfl⟩ := hv
 refine .ent .sl ?_
 refine .bl (k := 1) (es := [[S [114, 109, 100, 105, 114]], [S [80]]]) (hk := lenk rfl) fun v11 => ?_
 refine .fact (slc_ow .l0) fun hv => ?_
 obtain ⟨a11, c11, rfl⟩ := hv
 refine .ent .sl ?_
 refine .bl (k := 1) (es := [[S [108, 105, 110, 107]], [S [80, 81]]]) (hk := lenk rfl) fun v12 => ?_
 refine .fact (slc_ow .l0) fun hv => ?_
 obtain ⟨a12, c12, rfl⟩ := hv
 refine .ent .sl ?_
 refine .bl (k := 1) (es := [[S [108, 105, 115, 116]], [S [80]]]) (hk := lenk rfl) fun v13 => ?_
 refine .fact (slc_ow .l0) fun hv => ?_
 obtain ⟨a13, c13, rfl⟩ := hv
 refine .ent .sl ?_
 refine .bl (k := 1) (es := [[S [115, 116, 97, 116]], [S [80]]]) (hk := lenk rfl) fun v14 => ?_
 refine .fact (slc_ow .l0) fun hv => ?_
 obtain ⟨a14, c14, rfl⟩ := hv
 refine .ent .sl ?_
 refine .bl (k := 1) (es := [[S [102, 115, 121, 110, 99]], [S [72]]]) (hk := lenk rfl) fun v15 => ?_
 refine .fact (slc_ow .l0) fun hv => ?_
 obtain ⟨a15, c15, rfl⟩ := hv
 refine .ent .sl ?_
 refine .bl (k := 1) (es := [[S [115, 121, 110, 99]], [S []]]) (hk := lenk rfl) fun v16 => ?_
 refine .fact (slc_ow .l0) fun hv => ?_
 obtain ⟨a16, c16, rfl⟩ := hv
 refine .ent .sl ?_
 refine .bl (k := 1) (es := [[S [102, 108, 117, 115, 104]], [S []]]) (hk := lenk rfl) fun v17 => ?_
 refine .fact (slc_ow .l0) fun hv => ?_
 obtain ⟨a17, c17, rfl⟩ := hv
 refine .ent .sl ?_
 refine .bl (k := 1) (es := [[S [117, 112, 108, 111, 97, 100]], [S []]]) (hk := lenk rfl) fun v18 => ?_
 refine .fact (slc_ow .l0) fun hv => ?_
 obtain ⟨a18, c18, rfl⟩ := hv
 refine .ent .sl ?_
 refine .bl (k := 1) (es := [[S [101, 118, 105, 99, 116]], [S []]]) (hk := lenk rfl) fun v19 => ?_
 refine .fact (slc_ow .l0) fun hv => ?_
 obtain ⟨a19, c19, rfl⟩ := hv
 refine .ent .sl ?_
 refine .bl (k := 1) (es := [[S [99, 104, 101, 99, 107]], [S []]]) (hk := lenk rfl) fun v20 => ?_
 refine .fact (slc_ow .l0) fun hv => ?_
 obtain ⟨a20, c20, rfl⟩ := hv
 refine .ent .sl ?_
 refine .bl (k := 1) (es := [[S [103, 99]], [S []]]) (hk := lenk rfl) fun v21 => ?_
 refine .fact (slc_ow .l0) fun hv => ?_
 obtain ⟨a21, c21, rfl⟩ := hv
 refine .ent .sl ?_
 refine .bl (k := 1) (es := [[S [116, 105, 99, 107]], [S [78]]]) (hk := lenk rfl) fun v22 => ?_
 refine .fact (slc_ow .l0) fun hv => ?_
 obtain ⟨a22, c22, rfl⟩ := hv
 refine .ent .sl ?_
 refine .bl (k := 1) (es := [[S [115, 116, 97, 116, 117, 115]], [S []]]) (hk := lenk rfl) fun v23 => ?_
 refine .fact (slc_ow .l0) fun hv => ?_
 obtain ⟨a23, c23, rfl⟩ := hv
 refine .ent .sl ?_
 refine .bl (k := 1) (es := [[.slice a1 2 c1], [.slice a2 2 c2], [.slice a3 2 c3], [.slice a4 2 c4], [.slice a5 2 c5], [.slice a6 2 c6], [.slice a7 2 c7], [.slice a8 2 c8], [.slice a9 2 c9], [.slice a10 2 c10], [.slice a11 2 c11], [.slice a12 2 c12], [.slice a13 2 c13], [.slice a14 2 c14], [.slice a15 2 c15], [.slice a16 2 c16], [.slice a17 2 c17], [.slice a18 2 c18], [.slice a19 2 c19], [.slice a20 2 c20], [.slice a21 2 c21], [.slice a22 2 c22], [.slice a23 2 c23]]) (hf := by kernel_rfl) (hk := lenk rfl) fun v24 => ?_
 refine .ent .sl ?_
 refine .pu .as ?_
 refine .nil ?_
 refine .ret ?_
 refine ⟨_, .tmp rfl .nil, _, _, .refl _ _, ⟨_, List.Mem.head _, ?_⟩, rfl, ?_⟩
 ·rw [rtab_eq]
  repeat (first | exact .nil | refine .cons ⟨_, rfl, by (repeat (first | exact List.Mem.head _ | assumption | refine List.Mem.tail _ ?_))⟩ ?_)
 ·intro a h
  (repeat (first | exact h | refine List.Mem.tail _ ?_))
def glue (c : Bs) : List Bs → List Bs
 | [] => [c]
 | w :: r => (c ++ w) :: r
theorem glue_nil : ∀ {l : List Bs}, l ≠ [] → glue [] l = l
 | [], h => absurd rfl h
 | w :: r, _ => rfl
def wordsR (s : Bs) : List Bs := if [] ∈ spl 32 s then [] else spl 32 s
structure WJ (s : Bs) (i : Nat) (d : List Bs) (c : Bs) : Prop where
 le : i ≤ s.length
 e : spl 32 s = d ++ glue c (spl 32 (s.drop i))
 ne : [] ∉ d
 cl : c.length ≤ i
 dl : d.length ≤ i
theorem WJ.sp {s : Bs} {i : Nat} {d : List Bs} {c : Bs} (h : WJ s i d c) (hi : i < s.length) (hc : s.getD i 0 = 32) (hn : c ≠ []) : WJ s (i + 1) (d ++ [c]) [] := by
 obtain ⟨h1, h2, h3, h4, h5⟩ := h
 rw [List.drop_eq_getElem_cons hi, spl_cons, if_pos (by rw [← hc, List.getD_eq_getElem?_getD, List.getElem?_eq_getElem hi]; rfl)] at h2
 refine ⟨hi, ?_, ?_, Nat.zero_le _, by rw [List.length_append, List.length_singleton]; omega⟩
 ·rw [h2, glue_nil (spl_ne _ _)]; simp [glue]
 ·intro h; rcases List.mem_append.1 h with h | h
  ·exact h3 h
  ·cases h with
   | head => exact hn rfl
   | tail _ h => cases h
theorem WJ.bad {s : Bs} {i : Nat} {d : List Bs} (h : WJ s i d []) (hi : i < s.length) (hc : s.getD i 0 = 32) : wordsR s = [] := by
 obtain ⟨h1, h2, h3, h4, h5⟩ := h
 rw [List.drop_eq_getElem_cons hi, spl_cons, if_pos (by rw [← hc, List.getD_eq_getElem?_getD, List.getElem?_eq_getElem hi]; rfl)] at h2
 unfold wordsR
 rw [if_pos]
 rw [h2]
 exact List.mem_append_right _ (.head _)
theorem WJ.ch {s : Bs} {i : Nat} {d : List Bs} {c : Bs} (h : WJ s i d c) (hi : i < s.length) (hc : s.getD i 0 ≠ 32) : WJ s (i + 1) d (c ++ [s.getD i 0]) := by
 obtain ⟨h1, h2, h3, h4, h5⟩ := h
 have hg : s.getD i 0 = s[i] := by rw [List.getD_eq_getElem?_getD, List.getElem?_eq_getElem hi]; rfl
 rw [List.drop_eq_getElem_cons hi, spl_cons, if_neg (by rw [← hg]; exact hc)] at h2
 refine ⟨hi, ?_, h3, by rw [List.length_append, List.length_singleton]; omega, by omega⟩
 rw [h2]
 rcases hs : spl 32 (s.drop (i + 1)) with _ | ⟨w, r⟩
 ·exact absurd hs (spl_ne _ _)
 ·rw [hg]; simp [glue]
theorem WJ.endB {s : Bs} {i : Nat} {d : List Bs} (h : WJ s i d []) (hi : i = s.length) : wordsR s = [] := by
 obtain ⟨h1, h2, h3, h4, h5⟩ := h
 rw [hi, List.drop_length] at h2
 unfold wordsR
 rw [if_pos]
 rw [h2]
 exact List.mem_append_right _ (.head _)
theorem WJ.endG {s : Bs} {i : Nat} {d : List Bs} {c : Bs} (h : WJ s i d c) (hi : i = s.length) (hn : c ≠ []) : wordsR s = d ++ [c] := by
 obtain ⟨h1, h2, h3, h4, h5⟩ := h
 rw [hi, List.drop_length] at h2
 have h2 : spl 32 s = d ++ [c ++ []] := h2
 rw [List.append_nil] at h2
 unfold wordsR
 rw [if_neg, h2]
 rw [h2]
 intro h; rcases List.mem_append.1 h with h | h
 ·exact h3 h
 ·cases h with
  | head => exact hn rfl
  | tail _ h => cases h
theorem take_one {s : Bs} {i : Nat} (h : i < s.length) : (s.drop i).take (i + 1 - i) = [s.getD i 0] := by
 rw [List.drop_eq_getElem_cons h, show i + 1 - i = 1 by omega, List.getD_eq_getElem?_getD, List.getElem?_eq_getElem h]
 rfl
theorem rwords_sp (L P : List Asn) (s : Bs) (hl : s.length ≤ 10000000000) : Sp SEL 30 [S s] L P (fun r L' P' => L' = Ow 1 r (sv (wordsR s)) :: L ∧ P' = P) := by
 refine Sp.body (fn := Tryz.f30) (N := 34) (by kernel_rfl) (by kernel_rfl) rfl (by kernel_rfl) rfl ?_
 refine .seq (.region ?_)
 refine .pu .as ?_
 refine .nil ?_
 refine .seq (.region ?_)
 refine .pu .as ?_
 refine .nil ?_
 refine .seq (.region ?_)
 refine .pu .as ?_
 refine .nil ?_
 refine .seq (.seq (.region ?_))
 refine .pu .as ?_
 refine .nil ?_
 refine .block (W.loop (fun (p : Value × List Bs × Bs × Nat) => WJ s p.2.2.2 p.2.1 p.2.2.1) (fun p => s.length - p.2.2.2) (fun p => [(0, S s), (3, p.1), (4, S p.2.2.1), (5, .int .i64 (p.2.2.2 : Nat))]) (fun p => Ow 1 p.1 (sv p.2.1) :: L) (fun _ => P) (.slice none 0 0, [], [], 0) ⟨Nat.zero_le _, (glue_nil (spl_ne _ _)).symm, (fun h => by cases h), Nat.le_refl _, Nat.le_refl _⟩ ⟨rfl, rfl, rfl, rfl, trivial⟩ .none (fun p hj => ?_))
 obtain ⟨v, d, c, i⟩ := p
 dsimp only
 have hj : WJ s i d c := hj
 have hil := hj.le
 have hcl := hj.cl
 have hdl := hj.dl
 refine .seq (.seq (.region ?_))
 refine .pu .mv ?_
 refine .pu .mv ?_
 refine .pu .ls ?_
 refine .pu (.cmp (q := decide ((i : Int) < (s.length : Nat)))) ?_
 refine .nil ?_
 refine .ite rfl (fun h9 => ?_) (fun h9 => ?_)
 ·refine .skip ?_
  refine .seq (.block (.seq (.region ?_)))
  refine .pu .mv ?_
  refine .pu .mv ?_
  have hi : i < s.length := by have := of_decide_eq_true h9; omega
  refine .pu (.ix (c := s.getD i 0) (getD_some hi)) ?_
  refine .pu (.cmp (q := decide (((s.getD i 0).toNat : Int) = 32))) ?_
  refine .nil ?_
  refine .ite rfl (fun h15 => ?_) (fun h15 => ?_)
  ·refine .seq (.seq (.region ?_))
   refine .pu .mv ?_
   have hc32 : s.getD i 0 = 32 := UInt8.toNat_inj.1 (by have := of_decide_eq_true h15; show (s.getD i 0).toNat = 32; omega)
   refine .pu (.seq (q := decide (c = []))) ?_
   refine .nil ?_
   refine .ite rfl (fun h17 => ?_) (fun h17 => ?_)
   ·refine .seq (.region ?_)
    refine .pu .as ?_
    refine .nil ?_
    refine .ret ?_
    exact ⟨_, .tmp rfl .nil, _, _, (Ent.d1.trans .none), by have hc0 : c = [] := of_decide_eq_true h17; subst hc0; rw [hj.bad hi hc32]; rfl, rfl⟩
   refine .skip ?_
   refine .seq (.region ?_)
   refine .pu .mv ?_
   refine .pu .mv ?_
   have hcn : c ≠ [] := of_decide_eq_false h17
   refine .bl (k := 1) (es := [[_]]) fun v20 => ?_
   refine .ap (fun v21 => ?_) (hn := by rw [sv_len]; simp only [List.length_cons, List.length_nil]; omega)
   refine .pu .as ?_
   refine .nil ?_
   refine .region ?_
   refine .pu .as ?_
   refine .nil ?_
   refine .region ?_
   refine .pu .mv ?_
   refine .pu (.add (hr := by omega)) ?_
   refine .pu .as ?_
   refine .nil ?_
   refine ⟨(v21, d ++ [c], [], i + 1), hj.sp hi hc32 hcn, by show s.length - (i + 1) < s.length - i; omega, ⟨rfl, rfl, rfl, rfl, trivial⟩, ?_⟩
   show Ent _ _ (Ow 1 v21 (sv (d ++ [c])) :: L) _
   rw [show sv (d ++ [c]) = sv d ++ [[S c]] from List.map_append]
   exact .take .z .d1
  refine .region ?_
  refine .pu .mv ?_
  refine .pu .mv ?_
  refine .pu .mv ?_
  refine .pu .mv ?_
  have hcn : s.getD i 0 ≠ 32 := fun e => by rw [e] at h15; exact absurd h15 (by decide)
  refine .pu (.add (hr := by omega)) ?_
  refine .pu (.sls (a := s) (p := i) (q := i + 1) ⟨_, _, rfl, by omega, by omega, by omega⟩ ⟨_, _, rfl, by omega, by omega, by omega⟩ rfl rfl (by omega)) ?_
  rw [take_one hi]
  refine .pu (.cat (hr := by rw [List.length_singleton]; omega)) ?_
  refine .pu .as ?_
  refine .nil ?_
  refine .region ?_
  refine .pu .mv ?_
  refine .pu (.add (hr := by omega)) ?_
  refine .pu .as ?_
  refine .nil ?_
  exact ⟨(v, d, c ++ [s.getD i 0], i + 1), hj.ch hi hcn, by show s.length - (i + 1) < s.length - i; omega, ⟨rfl, rfl, rfl, rfl, trivial⟩, .refl _ _⟩
 refine .exit ?_
 refine .seq (.seq (.region ?_))
 refine .pu .mv ?_
 have hie : i = s.length := by have := of_decide_eq_false h9; omega
 refine .pu (.seq (q := decide (c = []))) ?_
 refine .nil ?_
 refine .ite rfl (fun h30 => ?_) (fun h30 => ?_)
 ·refine .seq (.region ?_)
  refine .pu .as ?_
  refine .nil ?_
  refine .ret ?_
  exact ⟨_, .tmp rfl .nil, _, _, (Ent.d1.trans .none), by have hc0 : c = [] := of_decide_eq_true h30; subst hc0; rw [hj.endB hie]; rfl, rfl⟩
 refine .skip ?_
 refine .seq (.region ?_)
 refine .pu .mv ?_
 refine .pu .mv ?_
 have hcn : c ≠ [] := of_decide_eq_false h30
 refine .bl (k := 1) (es := [[_]]) fun v33 => ?_
 refine .ap (fun v34 => ?_) (hn := by rw [sv_len]; simp only [List.length_cons, List.length_nil]; omega)
 refine .pu .as ?_
 refine .nil ?_
 refine .ret ?_
 exact ⟨_, .tmp rfl .nil, _, _, (.take .z .d1), by rw [hj.endG hie hcn]; show _ = Ow 1 v34 (sv (d ++ [c])) :: L; rw [show sv (d ++ [c]) = sv d ++ [[S c]] from List.map_append], rfl⟩
end Go.Cis
/- A line is parsed, the document's way. -/
namespace Go.Cis
open Go Go.Ax Go.Lx Go.Proofs
set_option maxRecDepth 100000
theorem chF_inj (f g : Fd) : decide (((chF f).toNat : Int) = ((chF g).toNat : Int)) = true → f = g := by cases f <;> cases g <;> first | (intro; rfl) | (intro h; exact absurd h (by decide))
theorem setP_s (x : OpD) (w : Bs) : (setF .P x w).isSome = pathOk w := by
 show (if pathOk w then some _ else none).isSome = _
 cases pathOk w <;> rfl
theorem setP_e (x x' : OpD) (w : Bs) (h : setF .P x w = some x') : x' = { x with p := w } := by
 have h : (if pathOk w then some { x with p := w } else none) = some x' := h
 split at h <;> cases h
 rfl
theorem setQ_s (x : OpD) (w : Bs) : (setF .Q x w).isSome = pathOk w := by
 show (if pathOk w then some _ else none).isSome = _
 cases pathOk w <;> rfl
theorem setQ_e (x x' : OpD) (w : Bs) (h : setF .Q x w = some x') : x' = { x with t := w } := by
 have h : (if pathOk w then some { x with t := w } else none) = some x' := h
 split at h <;> cases h
 rfl
theorem setM_s {α : Type} (o : Option α) (g : α → OpD) : (o.map g).isSome = o.isSome := Option.isSome_map ..
theorem setM_e {α : Type} {o : Option α} {g : α → OpD} {n : α} {x' : OpD} (hn : ∀ m, o = some m → m = n) (h : o.map g = some x') : x' = g n := by
 cases ho : o with
 | none => rw [ho] at h; cases h
 | some m => rw [ho] at h; cases h; rw [hn m ho]
theorem put_sp (f : Fd) (L P : List Asn) {b z : Nat} {x : OpD} (w : Bs) (hl : w.length ≤ 10000000000) : Sp SEL 32 [ppt b 0, .int .u8 ((chF f).toNat : Nat), S w] (Pt b (opC x) z :: L) P (fun r L' P' => ∃ y, r = .bool (setF f x w).isSome ∧ (∀ x', setF f x w = some x' → x' = y) ∧ L' = Pt b (opC y) z :: L ∧ P' = P) := by
 refine Sp.body (fn := Tryz.f32) (N := 70) (by kernel_rfl) (by kernel_rfl) rfl (by kernel_rfl) rfl ?_
 refine .seq (.region ?_)
 refine .pu .as ?_
 refine .nil ?_
 refine .seq (.region ?_)
 refine .pu .mv ?_
 refine .call (rparse_sp _ _ w hl) ?_; rintro _ L P ⟨v, e, rfl, he, rfl, rfl⟩
 refine .pu .mv ?_
 refine .pu .ex ?_
 refine .pu .ex ?_
 refine .pu .as ?_
 refine .pu .as ?_
 refine .nil ?_
 refine .seq (.region ?_)
 refine .pu .mv ?_
 refine .call (rnumber_sp _ _ w hl) ?_; rintro _ L P ⟨n, rfl, hn, rfl, rfl⟩
 refine .pu .mv ?_
 refine .pu .ex ?_
 refine .pu .ex ?_
 refine .pu .as ?_
 refine .pu .as ?_
 refine .nil ?_
 refine .seq (.region ?_)
 refine .pu .mv ?_
 refine .call (rbytes_sp _ _ w hl) ?_; rintro _ L P ⟨d, rfl, hd, rfl, rfl⟩
 refine .pu .mv ?_
 refine .pu .ex ?_
 refine .pu .ex ?_
 refine .pu .as ?_
 refine .pu .as ?_
 refine .nil ?_
 refine .seq (.seq (.region ?_))
 refine .pu .mv ?_
 refine .nil ?_
 refine .block (.seq (.region ?_))
 refine .pu (.cmp (q := decide (((chF f).toNat : Int) = ((chF .P).toNat : Int)))) ?_
 refine .pu .as ?_
 refine .nil ?_
 refine .ite rfl (fun h29 => ?_) (fun h29 => ?_)
 ·refine .seq (.region ?_)
  refine .pu .mv ?_
  refine .pu .mv ?_
  obtain rfl := chF_inj _ _ h29
  refine .pu .nc ?_
  refine .pu .fa ?_
  refine .st (vs := [_]) ?_
  refine .nil ?_
  refine .seq (.region ?_)
  refine .pu .mv ?_
  refine .pu (.cmp (q := decide (e = 0))) ?_
  refine .pu .as ?_
  refine .nil ?_
  refine .ret ?_
  exact ⟨_, .tmp rfl .nil, _, _, .refl _ _, ⟨_, congrArg Value.bool (he.trans (setP_s x w).symm), fun x' h => setP_e x x' w h, rfl, rfl⟩⟩
 refine .seq (.region ?_)
 refine .pu (.cmp (q := decide (((chF f).toNat : Int) = ((chF .Q).toNat : Int)))) ?_
 refine .pu .as ?_
 refine .nil ?_
 refine .ite rfl (fun h37 => ?_) (fun h37 => ?_)
 ·refine .seq (.region ?_)
  refine .pu .mv ?_
  refine .pu .mv ?_
  obtain rfl := chF_inj _ _ h37
  refine .pu .nc ?_
  refine .pu .fa ?_
  refine .st (vs := [_]) ?_
  refine .nil ?_
  refine .seq (.region ?_)
  refine .pu .mv ?_
  refine .pu (.cmp (q := decide (e = 0))) ?_
  refine .pu .as ?_
  refine .nil ?_
  refine .ret ?_
  exact ⟨_, .tmp rfl .nil, _, _, .refl _ _, ⟨_, congrArg Value.bool (he.trans (setQ_s x w).symm), fun x' h => setQ_e x x' w h, rfl, rfl⟩⟩
 refine .seq (.region ?_)
 refine .pu (.cmp (q := decide (((chF f).toNat : Int) = ((chF .H).toNat : Int)))) ?_
 refine .pu .as ?_
 refine .nil ?_
 refine .ite rfl (fun h45 => ?_) (fun h45 => ?_)
 ·refine .region ?_
  refine .pu .mv ?_
  refine .pu .mv ?_
  obtain rfl := chF_inj _ _ h45
  refine .pu .nc ?_
  refine .pu .fa ?_
  refine .st (vs := [_]) ?_
  refine .nil ?_
  refine .seq (.region ?_)
  refine .pu .mv ?_
  refine .pu .as ?_
  refine .nil ?_
  refine .ret ?_
  exact ⟨_, .tmp rfl .nil, _, _, .refl _ _, ⟨_, congrArg Value.bool (setM_s (numOf w) _).symm, fun x' h => setM_e hn h, rfl, rfl⟩⟩
 refine .seq (.region ?_)
 refine .pu (.cmp (q := decide (((chF f).toNat : Int) = ((chF .O).toNat : Int)))) ?_
 refine .pu .as ?_
 refine .nil ?_
 refine .ite rfl (fun h51 => ?_) (fun h51 => ?_)
 ·refine .region ?_
  refine .pu .mv ?_
  refine .pu .mv ?_
  obtain rfl := chF_inj _ _ h51
  refine .pu .nc ?_
  refine .pu .fa ?_
  refine .st (vs := [_]) ?_
  refine .nil ?_
  refine .seq (.region ?_)
  refine .pu .mv ?_
  refine .pu .as ?_
  refine .nil ?_
  refine .ret ?_
  exact ⟨_, .tmp rfl .nil, _, _, .refl _ _, ⟨_, congrArg Value.bool (setM_s (numOf w) _).symm, fun x' h => setM_e hn h, rfl, rfl⟩⟩
 refine .seq (.region ?_)
 refine .pu (.cmp (q := decide (((chF f).toNat : Int) = ((chF .N).toNat : Int)))) ?_
 refine .pu .as ?_
 refine .nil ?_
 refine .ite rfl (fun h57 => ?_) (fun h57 => ?_)
 ·refine .region ?_
  refine .pu .mv ?_
  refine .pu .mv ?_
  obtain rfl := chF_inj _ _ h57
  refine .pu .nc ?_
  refine .pu .fa ?_
  refine .st (vs := [_]) ?_
  refine .nil ?_
  refine .seq (.region ?_)
  refine .pu .mv ?_
  refine .pu .as ?_
  refine .nil ?_
  refine .ret ?_
  exact ⟨_, .tmp rfl .nil, _, _, .refl _ _, ⟨_, congrArg Value.bool (setM_s (numOf w) _).symm, fun x' h => setM_e hn h, rfl, rfl⟩⟩
 refine .seq (.region ?_)
 refine .pu (.cmp (q := decide (((chF f).toNat : Int) = ((chF .B).toNat : Int)))) ?_
 refine .pu .as ?_
 refine .nil ?_
 refine .ite rfl (fun h63 => ?_) (fun h63 => ?_)
 ·refine .seq (.region ?_)
  refine .pu .mv ?_
  refine .pu .mv ?_
  obtain rfl := chF_inj _ _ h63
  refine .pu .nc ?_
  refine .pu .fa ?_
  refine .st (vs := [_]) ?_
  refine .nil ?_
  refine .seq (.region ?_)
  refine .pu .mv ?_
  refine .pu .as ?_
  refine .nil ?_
  refine .ret ?_
  exact ⟨_, .tmp rfl .nil, _, _, .refl _ _, ⟨_, congrArg Value.bool (setM_s (bytesOf w) _).symm, fun x' h => setM_e hd h, rfl, rfl⟩⟩
 refine .skip ?_
 refine .seq (.region ?_)
 refine .pu .mv ?_
 refine .pu .as ?_
 refine .nil ?_
 refine .ret ?_
 exfalso; cases f <;> first | exact absurd h29 (by decide) | exact absurd h37 (by decide) | exact absurd h45 (by decide) | exact absurd h51 (by decide) | exact absurd h57 (by decide) | exact absurd h63 (by decide)
theorem setF_nil (f : Fd) (x : OpD) : setF f x [] = none := by cases f <;> rfl
theorem setFs_nil : ∀ {fs : List Fd} {x : OpD} {ws : List Bs}, fs.length = ws.length → [] ∈ ws → setFs fs x ws = none
 | [], _, [], _, h => by cases h
 | [], _, _ :: _, e, _ => by cases e
 | _ :: _, _, [], e, _ => by cases e
 | f :: fs, x, w :: ws, e, h => by
  show (setF f x w).bind _ = none
  cases h with
  | head => rw [setF_nil]; rfl
  | tail _ h =>
   cases setF f x w with
   | none => rfl
   | some y => exact setFs_nil (by simpa using e) h
theorem vix_nil : vix [] vtab = none := by decide
theorem parse_empty {s : Bs} (h : wordsR s = []) : parseOp s = none := by
 have hm : [] ∈ spl 32 s := by
  unfold wordsR at h
  split at h
  ·assumption
  ·exact absurd h (spl_ne _ _)
 unfold parseOp
 rcases hs : spl 32 s with _ | ⟨w, ws⟩
 ·rfl
 ·rw [hs] at hm
  rw [parseW_cons]
  cases hm with
  | head => rw [vix_nil]
  | tail _ hm =>
   rcases vix w vtab with _ | ⟨i, fs⟩
   ·rfl
   ·show (if fs.length = ws.length then _ else none) = none
    split
    ·rename_i e; exact setFs_nil e hm
    ·rfl
theorem wordsR_spl {s w : Bs} {ws : List Bs} (h : wordsR s = w :: ws) : spl 32 s = w :: ws := by
 unfold wordsR at h
 split at h
 ·cases h
 ·exact h
instance : DecidableEq Fd := fun a b => decidable_of_iff ((chF a).toNat = (chF b).toNat) ⟨fun h => by cases a <;> cases b <;> first | rfl | exact absurd h (by decide), fun h => by rw [h]⟩
theorem vix_all : ∀ j : Fin 22, vix (vtab[j.1]'j.2).1 vtab = some (j.1, (vtab[j.1]'j.2).2) := by decide
theorem vix_uniq {j : Nat} {w : Bs} {fs : List Fd} (h : vtab[j]? = some (w, fs)) : vix w vtab = some (j, fs) := by
 obtain ⟨hj, hg⟩ := List.getElem?_eq_some_iff.1 h
 have this : vix (vtab[j]'hj).1 vtab = some (j, (vtab[j]'hj).2) := vix_all ⟨j, hj⟩
 rw [hg] at this
 exact this
theorem parse_try {s w : Bs} {ws : List Bs} {j : Nat} {fs : List Fd} (h : wordsR s = w :: ws) (hv : vtab[j]? = some (w, fs)) (hl : fs.length = ws.length) : parseOp s = setFs fs (op0 ((j : Nat) + 1)) ws := by
 unfold parseOp
 rw [wordsR_spl h, parseW_cons, vix_uniq hv]
 exact if_pos hl
structure OJ (s : Bs) (j : Nat) : Prop where
 le : j ≤ 22
 no : ∀ j' < j, ∀ w ws fs, wordsR s = w :: ws → vtab[j']? = some (w, fs) → fs.length = ws.length → parseOp s = none
theorem OJ.end22 {s : Bs} (h : OJ s 22) : parseOp s = none := by
 rcases hw : wordsR s with _ | ⟨w, ws⟩
 ·exact parse_empty hw
 ·unfold parseOp
  rw [wordsR_spl hw, parseW_cons]
  rcases hv : vix w vtab with _ | ⟨i, fs⟩
  ·rfl
  ·show (if fs.length = ws.length then _ else none) = none
   split
   ·rename_i e
    have := h.no i (vix_lt hv) w ws fs hw (vix_get hv) e
    unfold parseOp at this
    rw [wordsR_spl hw, parseW_cons, hv] at this
    rw [← this]
    exact (if_pos e).symm
   ·rfl
theorem OJ.next {s : Bs} {j : Nat} (h : OJ s j) (hj : j < 22) (hn : ∀ w ws fs, wordsR s = w :: ws → vtab[j]? = some (w, fs) → fs.length = ws.length → parseOp s = none) : OJ s (j + 1) :=
 ⟨hj, fun j' hj' w ws fs h1 h2 h3 => by
  rcases Nat.lt_or_ge j' j with hlt | hge
  ·exact h.no j' hlt w ws fs h1 h2 h3
  ·obtain rfl : j' = j := by omega
   exact hn w ws fs h1 h2 h3⟩
theorem OJ.out {s : Bs} {j : Nat} (h : OJ s j) (h21 : (decide (((j + 1 : Nat) : Int) < 23) && decide (((sv (wordsR s)).length : Int) > 0)) = false) : parseOp s = none := by
 rw [Bool.and_eq_false_iff] at h21
 rcases h21 with h1 | h1
 ·have := of_decide_eq_false h1
  have := h.le
  have : j = 22 := by omega
  subst this
  exact h.end22
 ·have := of_decide_eq_false h1
  rw [sv_len] at this
  exact parse_empty (List.length_eq_zero_iff.1 (by omega))
structure RJ (fs : List Fd) (ws : List Bs) (x : OpD) (k : Nat) (y : OpD) (ok : Bool) : Prop where
 le : k ≤ fs.length
 t : ok = true → setFs fs x ws = setFs (fs.drop k) y (ws.drop k)
 f : ok = false → setFs fs x ws = none
theorem RJ.step {fs : List Fd} {ws : List Bs} {x y y' : OpD} {k : Nat} {ok : Bool} {f : Fd} {w : Bs} (h : RJ fs ws x k y ok) (hk : k < fs.length) (hf : fs[k]? = some f) (hw : ws[k]? = some w) (hy : ∀ x', setF f y w = some x' → x' = y') : RJ fs ws x (k + 1) y' ((setF f y w).isSome && ok) := by
 obtain ⟨h1, g1⟩ := List.getElem?_eq_some_iff.1 hf
 obtain ⟨h2, g2⟩ := List.getElem?_eq_some_iff.1 hw
 have e : setFs (fs.drop k) y (ws.drop k) = (setF f y w).bind fun y => setFs (fs.drop (k + 1)) y (ws.drop (k + 1)) := by
  rw [List.drop_eq_getElem_cons h1, List.drop_eq_getElem_cons h2, g1, g2]
  rfl
 refine ⟨hk, fun ht => ?_, fun hf' => ?_⟩
 ·rw [Bool.and_eq_true] at ht
  rw [h.t ht.2, e]
  cases hs : setF f y w with
  | none => rw [hs] at ht; cases ht.1
  | some z => rw [hy z hs]; rfl
 ·cases hok : ok with
  | false => exact h.f hok
  | true =>
   rw [hok, Bool.and_true] at hf'
   rw [h.t hok, e]
   cases hs : setF f y w with
   | none => rfl
   | some z => rw [hs] at hf'; cases hf'
theorem RJ.done {fs : List Fd} {ws : List Bs} {x y : OpD} {k : Nat} (h : RJ fs ws x k y true) (hk : k = fs.length) : setFs fs x ws = some y := by
 rw [h.t rfl, hk, List.drop_length]
 rfl
theorem rtab_get {j : Nat} {n : Bs} {fs : List Fd} (h : vtab[j]? = some (n, fs)) : rtab[j + 1]? = some (n, fs.map chF) := by
 unfold rtab
 rw [List.getElem?_cons_succ, List.getElem?_map, h]
 rfl
theorem rlparse_sp (L P : List Asn) (s : Bs) (hl : s.length ≤ 10000000000) : Sp SEL 12 [S s] L P (fun r L' P' => r = .tuple #[.agg ⟨opR (parseOp s)⟩, .int .i64 (if (parseOp s).isSome then 0 else 2)] ∧ L' = L ∧ P' = P) := by
 refine Sp.body (fn := Tryz.f12) (N := 74) (by kernel_rfl) (by kernel_rfl) rfl (by kernel_rfl) rfl ?_
 refine .seq (.region ?_)
 refine .nw (cs := [.int .i64 0, S [], S [], .int .i64 0, .int .i64 0, .int .i64 0, S []]) fun b2 => ?_
 refine .pu .as ?_
 refine .nil ?_
 refine .seq (.region ?_)
 refine .pu .mv ?_
 refine .call (rwords_sp _ _ s hl) ?_; rintro wv L1 P ⟨rfl, rfl⟩
 refine .fact (slc_ow .l0) fun hv => ?_
 obtain ⟨a11, c11, rfl⟩ := hv
 refine .ent .sl ?_
 refine .pu .as ?_
 refine .nil ?_
 refine .seq (.region ?_)
 refine .call (rverbs_sp _ _) ?_; rintro tv L2 P2 ⟨⟨rows, ht, hr⟩, rfl, hsub⟩
 have hlen : rows.length = 23 := hr.len
 have hw := hsub _ (.head _)
 have hless : ∀ a ∈ P, a ∈ P2 := fun a h => hsub a (.tail _ h)
 refine .pu .as ?_
 refine .nil ?_
 refine .seq (.seq (.region ?_))
 refine .pu .as ?_
 refine .nil ?_
 refine .block (W.loop (fun (j : Nat) => OJ s j) (fun j => 22 - j) (fun j => [(5, tv), (6, .int .i64 ((j + 1 : Nat) : Int)), (4, .slice a11 (sv (wordsR s)).length c11), (2, ppt b2 0)]) (fun _ => Pt b2 (opC (op0 0)) (tz 0 42) :: L) (fun _ => P2) 0 ⟨Nat.zero_le _, fun j' h => absurd h (Nat.not_lt_zero _)⟩ ⟨rfl, rfl, rfl, rfl, trivial⟩ (.refl _ _) (fun j hj => ?_))
 have hjle := hj.le
 refine .seq (.seq (.region ?_))
 refine .pu .mv ?_
 refine .pu .mv ?_
 refine .lk .ln ?_
 refine .pu (.cmp (q := decide (((j + 1 : Nat) : Int) < 23)) (hq := by rw [hlen]; rfl)) ?_
 refine .pu .mv ?_
 refine .and 17 3 (decide (((sv (wordsR s)).length : Int) > 0)) (fun hq => ?_) ?_
 ·refine .on (.pu .mv ?_)
  refine .on (.lk .ln ?_)
  refine .on (.pu .cmp ?_)
  exact .fin rfl
 refine .nil ?_
 refine .ite rfl (fun h21 => ?_) (fun h21 => ?_)
 ·refine .skip ?_
  refine .seq (.block (.seq (.seq (.quiet (by kernel_rfl) ?_))))
  refine .pu .mv ?_
  refine .pu .mv ?_
  obtain ⟨h1, h2⟩ : j < 22 ∧ wordsR s ≠ [] := by
   rw [Bool.and_eq_true] at h21
   have h1 := of_decide_eq_true h21.1
   have h2 := of_decide_eq_true h21.2
   refine ⟨by omega, fun e => ?_⟩
   rw [e] at h2
   exact absurd h2 (by decide)
  obtain ⟨w0, ws, hws⟩ : ∃ w0 ws, wordsR s = w0 :: ws := by
   rcases hh : wordsR s with _ | ⟨w0, ws⟩
   ·exact absurd hh h2
   ·exact ⟨w0, ws, rfl⟩
  have hspl := wordsR_spl hws
  have hlens := spl_lens 32 s
  have hslen := spl_len 32 s
  rw [hspl] at hlens hslen
  rw [List.length_cons] at hslen
  rw [hws] at hw ⊢
  obtain ⟨⟨n, fs⟩, hvt⟩ : ∃ r, vtab[j]? = some r := ⟨vtab[j]'h1, List.getElem?_eq_getElem (l := vtab) h1⟩
  obtain ⟨v, hrow, hvs⟩ := hr.get (rtab_get hvt)
  have hvs : Sl 1 v [[S n], [S (fs.map chF)]] ∈ P2 := hvs
  have hfl : fs.length ≤ 3 := (vtab_ok _ (List.mem_of_getElem? hvt)).2
  refine .lk (.ia (n := ((j + 1 : Nat) : Int)) (hn := by rw [hlen]; omega)) ?_
  refine .le hrow ?_
  refine .lk (.ia (k := 1) (es := [[S n], [S (fs.map chF)]]) (n := (0 : Nat)) (hn := by simp)) ?_
  refine .le (w := S n) (es := [[S n], [S (fs.map chF)]]) (i := 0) rfl ?_
  refine .pu .mv ?_
  refine .lk (.ia (n := (0 : Nat)) (hn := by rw [sv_len, List.length_cons]; omega)) ?_
  refine .le (w := S w0) (es := sv (w0 :: ws)) (i := 0) rfl ?_
  refine .pu (.sne (q := decide (n ≠ w0))) ?_
  refine .pu .mv ?_
  refine .or 34 11 (decide (ws.length ≠ fs.length)) (fun hq => ?_) ?_
  ·refine .on (.pu .mv ?_)
   refine .on (.lk .ln ?_)
   refine .on (.pu .mv ?_)
   refine .on (.pu .mv ?_)
   refine .on (.lk (.ia (n := ((j + 1 : Nat) : Int)) (hn := by rw [hlen]; omega)) ?_)
   refine .on (.le hrow ?_)
   refine .on (.lk (.ia (k := 1) (es := [[S n], [S (fs.map chF)]]) (n := (1 : Nat)) (hn := by simp)) ?_)
   refine .on (.le (w := S (fs.map chF)) (es := [[S n], [S (fs.map chF)]]) (i := 1) rfl ?_)
   refine .on (.pu .ls ?_)
   refine .on (.pu (.add (hr := by rw [List.length_map]; omega)) ?_)
   refine .on (.pu (.cmp (q := decide (ws.length ≠ fs.length)) (hq := by rw [sv_len, List.length_map, List.length_cons]; show some (decide _) = _; congr 1; exact dec_eq (by omega))) ?_)
   exact .fin rfl
  refine .nil ?_
  refine .ite rfl (fun h46 => ?_) (fun h46 => ?_)
  ·refine .exit ?_
   refine .region ?_
   refine .pu .mv ?_
   refine .pu (.add (hr := by omega)) ?_
   refine .pu .as ?_
   refine .nil ?_
   exact ⟨j + 1, hj.next h1 (fun w ws' fs' e1 e2 e3 => by
    rw [hws] at e1
    cases e1
    rw [hvt] at e2
    cases e2
    exfalso
    rw [Bool.or_eq_true] at h46
    rcases h46 with h | h
    ·exact of_decide_eq_true h rfl
    ·exact of_decide_eq_true h e3.symm), by show 22 - (j + 1) < 22 - j; omega, ⟨rfl, rfl, rfl, rfl, trivial⟩, .refl _ _⟩
  refine .skip ?_
  refine .seq (.region ?_)
  refine .pu .mv ?_
  obtain ⟨hn0, hfw⟩ : n = w0 ∧ fs.length = ws.length := by
   rw [Bool.or_eq_false_iff] at h46
   have e1 := of_decide_eq_false h46.1
   have e2 := of_decide_eq_false h46.2
   exact ⟨Decidable.not_not.1 e1, by omega⟩
  subst hn0
  have hpt := parse_try hws hvt hfw
  refine .pu (.bd (vs := [_, _, _, _, _, _, _])) ?_
  refine .nw (cs := [.int .i64 0, S [], S [], .int .i64 0, .int .i64 0, .int .i64 0, S []]) fun b7 => ?_
  refine .st (vs := [_, _, _, _, _, _, _]) ?_
  refine .pu .as ?_
  refine .nil ?_
  refine .seq (.seq (.region ?_))
  refine .pu .as ?_
  refine .nil ?_
  refine .block (W.loop (fun (p : Nat × OpD × Bool) => RJ fs ws (op0 ((j : Nat) + 1)) p.1 p.2.1 p.2.2) (fun p => fs.length - p.1) (fun p => [(5, tv), (6, .int .i64 ((j + 1 : Nat) : Int)), (4, .slice a11 (sv (n :: ws)).length c11), (2, ppt b2 0), (7, ppt b7 0), (8, .bool p.2.2), (9, .int .i64 ((p.1 + 1 : Nat) : Int))]) (fun p => Pt b7 (opC p.2.1) (tz 0 42) :: Pt b2 (opC (op0 0)) (tz 0 42) :: L) (fun _ => P2) (0, op0 ((j : Nat) + 1), true) ⟨Nat.zero_le _, fun _ => rfl, fun h => by cases h⟩ ⟨rfl, rfl, rfl, rfl, rfl, rfl, rfl, trivial⟩ (.refl _ _) (fun p hp => ?_))
  obtain ⟨k, y, ok⟩ := p
  dsimp only
  have hp : RJ fs ws (op0 ((j : Nat) + 1)) k y ok := hp
  have hkle := hp.le
  refine .seq (.seq (.region ?_))
  refine .pu .mv ?_
  refine .pu .mv ?_
  refine .lk .ln ?_
  refine .pu (.cmp (q := decide (((k + 1 : Nat) : Int) < ((sv (n :: ws)).length : Nat)))) ?_
  refine .nil ?_
  refine .ite rfl (fun h52 => ?_) (fun h52 => ?_)
  ·refine .skip ?_
   refine .seq (.block (.drawn (by kernel_rfl) fun base => ?_))
   refine .pu .mv ?_
   refine .pu .mv ?_
   have hk : k < fs.length := by have := of_decide_eq_true h52; rw [sv_len, List.length_cons] at this; omega
   obtain ⟨f, hf⟩ : ∃ f, fs[k]? = some f := ⟨fs[k], List.getElem?_eq_getElem hk⟩
   obtain ⟨w, hwk⟩ : ∃ w, ws[k]? = some w := ⟨ws[k]'(by omega), List.getElem?_eq_getElem (by omega)⟩
   have hwl : w.length ≤ 10000000000 := by have := hlens w (.tail _ (List.mem_of_getElem? hwk)); omega
   refine .lk (.ia (n := ((j + 1 : Nat) : Int)) (hn := by rw [hlen]; omega)) ?_
   refine .lo 0 0 .le (.mk hrow) ?_
   refine .lk (.ia (k := 1) (es := [[S n], [S (fs.map chF)]]) (n := (1 : Nat)) (hn := by simp)) ?_
   refine .lo 0 0 .le (.mk (w := S (fs.map chF)) (es := [[S n], [S (fs.map chF)]]) (i := 1) rfl) ?_
   refine .pu .mv ?_
   refine .pu (.sub (hr := by omega)) ?_
   rw [show ((k + 1 : Nat) : Int) - 1 = (k : Nat) by omega]
   refine .pu (.ix (c := chF f) (show (fs.map chF)[k]? = some (chF f) by rw [List.getElem?_map, hf]; rfl)) ?_
   refine .pu .mv ?_
   refine .pu .mv ?_
   refine .lk (.ia (n := ((k + 1 : Nat) : Int)) (hn := by rw [sv_len, List.length_cons]; omega)) ?_
   refine .lo 0 0 .le (.mk (show (sv (n :: ws))[k + 1]? = some [S w] by rw [List.getElem?_map, List.getElem?_cons_succ, hwk]; rfl)) ?_
   refine .call (put_sp f _ _ w hwl) ?_; rintro _ L' P2 ⟨y', rfl, hy', rfl, rfl⟩
   refine WD.imp (K' := fun al' L' P' => SubA ([(5, tv), (6, .int .i64 ((j + 1 : Nat) : Int)), (4, .slice a11 (sv (n :: ws)).length c11), (2, ppt b2 0), (7, ppt b7 0), (8, .bool ((setF f y w).isSome && ok)), (9, .int .i64 ((k + 1 : Nat) : Int))]) al' ∧ L' = Pt b7 (opC y') (tz 0 42) :: Pt b2 (opC (op0 0)) (tz 0 42) :: L ∧ P' = P2) ?_ (fun al' L' P' ⟨hjs, hjL, hjP⟩ => ?_)
   ·cases hr : (setF f y w).isSome
    ·refine .pu .mv ?_
     refine .off ?_
     refine .pu .pk ?_
     refine .pu .as ?_
     refine .nil (.cons (.yes (.mk (show (sv (n :: ws))[k + 1]? = some [S w] by rw [List.getElem?_map, List.getElem?_cons_succ, hwk]; rfl)) (.skip .nil)) (.cons (.yes (.mk (w := S (fs.map chF)) (es := [[S n], [S (fs.map chF)]]) (i := 1) rfl) (.skip .nil)) (.cons (.yes (.mk hrow) (.skip .nil)) .nil))) ?_
     exact ⟨(by (repeat (first | exact True.intro | refine And.intro rfl ?_))), rfl, rfl⟩
    ·refine .pu .mv ?_
     refine .pu .mv ?_
     refine .pu .pk ?_
     refine .pu .as ?_
     refine .nil (.cons (.yes (.mk (show (sv (n :: ws))[k + 1]? = some [S w] by rw [List.getElem?_map, List.getElem?_cons_succ, hwk]; rfl)) (.skip .nil)) (.cons (.yes (.mk (w := S (fs.map chF)) (es := [[S n], [S (fs.map chF)]]) (i := 1) rfl) (.skip .nil)) (.cons (.yes (.mk hrow) (.skip .nil)) .nil))) ?_
     exact ⟨(by (repeat (first | exact True.intro | refine And.intro rfl ?_))), rfl, rfl⟩
   subst hjL hjP
   refine W.keep hjs ?_
   refine .region ?_
   refine .pu .mv ?_
   refine .pu (.add (hr := by omega)) ?_
   refine .pu .as ?_
   refine .nil ?_
   exact ⟨(k + 1, y', (setF f y w).isSome && ok), hp.step hk hf hwk hy', by show fs.length - (k + 1) < fs.length - k; omega, ⟨rfl, rfl, rfl, rfl, rfl, rfl, rfl, trivial⟩, .refl _ _⟩
  refine .exit ?_
  refine .seq (.region ?_)
  refine .pu .mv ?_
  refine .nil ?_
  refine .ite rfl (fun h72 => ?_) (fun h72 => ?_)
  ·refine .seq (.region ?_)
   have hke : k = fs.length := by have := of_decide_eq_false h52; rw [sv_len, List.length_cons] at this; omega
   subst h72
   refine .lda (vs := [_, _, _, _, _, _, _]) ?_
   refine .st (vs := [_, _, _, _, _, _, _]) ?_
   refine .pu .as ?_
   refine .nil ?_
   refine .ret ?_
   exact ⟨_, .cell rfl .l1 rfl (.tmp rfl .nil), _, _, Ent.d2.trans (Ent.less hless), parse_rs (hpt.trans (hp.done hke)), rfl, rfl⟩
  refine .skip ?_
  refine .region ?_
  refine .pu .mv ?_
  refine .pu (.add (hr := by omega)) ?_
  refine .pu .as ?_
  refine .nil ?_
  exact ⟨j + 1, hj.next h1 (fun w ws' fs' e1 e2 e3 => hpt.trans (hp.f h72)), by show 22 - (j + 1) < 22 - j; omega, ⟨rfl, rfl, rfl, rfl, trivial⟩, .d1⟩
 refine .exit ?_
 refine .seq (.region ?_)
 refine .pu (.bd (vs := [_, _, _, _, _, _, _])) ?_
 refine .st (vs := [_, _, _, _, _, _, _]) ?_
 refine .pu .as ?_
 refine .nil ?_
 refine .ret ?_
 exact ⟨_, .cell rfl .l0 rfl (.tmp rfl .nil), _, _, (Ent.d1.trans (Ent.less hless)), parse_rn (hj.out h21), rfl, rfl⟩
end Go.Cis
/- A line is written, the document's way. -/
namespace Go.Cis
open Go Go.Ax Go.Lx Go.Proofs
set_option maxRecDepth 100000
theorem opNe42 {al : Al} {x y : Operand} {r : Nat} (a b : OpD) (hx : evl al x = some (.agg ⟨opC a⟩) := by rfl) (hy : evl al y = some (.agg ⟨opC b⟩) := by rfl) : Pu SEL al (.binOp .neq 42 x y r) (.bool (decide (a ≠ b))) :=
 .bin_struct_neq (EqTs.fs fld42 (op_eqT a b)) (by rw [opB]; simp) und42 so42 gt42 (by kernel_rfl) rfl rfl hx hy
abbrev inB (n : Int) : Prop := -4611686018427387904 ≤ n ∧ n ≤ 4611686018427387904
theorem numOf_b {w : Bs} {n : Int} (h : numOf w = some n) : inB n := ⟨(numOf_iff.1 h).1, (numOf_iff.1 h).2.1⟩
structure InB (x : OpD) : Prop where
 h : inB x.h
 o : inB x.o
 n : inB x.n
theorem setF_b {f : Fd} {x y : OpD} {w : Bs} (hx : InB x) (h : setF f x w = some y) : InB y := by
 cases f with
 | P => have := setP_e _ _ _ h; subst this; exact ⟨hx.h, hx.o, hx.n⟩
 | Q => have := setQ_e _ _ _ h; subst this; exact ⟨hx.h, hx.o, hx.n⟩
 | H =>
  have h : (numOf w).map _ = some y := h
  cases hn : numOf w with
  | none => rw [hn] at h; cases h
  | some m => rw [hn] at h; cases h; exact ⟨numOf_b hn, hx.o, hx.n⟩
 | O =>
  have h : (numOf w).map _ = some y := h
  cases hn : numOf w with
  | none => rw [hn] at h; cases h
  | some m => rw [hn] at h; cases h; exact ⟨hx.h, numOf_b hn, hx.n⟩
 | N =>
  have h : (numOf w).map _ = some y := h
  cases hn : numOf w with
  | none => rw [hn] at h; cases h
  | some m => rw [hn] at h; cases h; exact ⟨hx.h, hx.o, numOf_b hn⟩
 | B =>
  have h : (bytesOf w).map _ = some y := h
  cases hn : bytesOf w with
  | none => rw [hn] at h; cases h
  | some m => rw [hn] at h; cases h; exact ⟨hx.h, hx.o, hx.n⟩
theorem setFs_b : ∀ {fs : List Fd} {x y : OpD} {ws : List Bs}, InB x → setFs fs x ws = some y → InB y
 | [], x, y, ws, hx, h => by cases h; exact hx
 | _ :: _, _, _, [], _, h => by cases h
 | f :: fs, x, y, w :: ws, hx, h => by
  have h : (setF f x w).bind _ = some y := h
  cases hs : setF f x w with
  | none => rw [hs] at h; cases h
  | some z => rw [hs] at h; exact setFs_b (setF_b hx hs) h
theorem zero_b : inB 0 := ⟨by decide, by decide⟩
theorem parse_b {s : Bs} {y : OpD} (h : parseOp s = some y) : InB y := by
 unfold parseOp at h
 rcases hs : spl 32 s with _ | ⟨w, ws⟩
 ·rw [hs] at h; cases h
 ·rw [hs, parseW_cons] at h
  rcases hv : vix w vtab with _ | ⟨i, fs⟩
  ·rw [hv] at h; cases h
  ·rw [hv] at h
   have h : (if fs.length = ws.length then setFs fs (op0 ((i : Nat) + 1)) ws else none) = some y := h
   split at h
   ·exact setFs_b (x := op0 ((i : Nat) + 1)) ⟨zero_b, zero_b, zero_b⟩ h
   ·cases h
theorem line_b {x : OpD} (h : ¬ InB x) : lineOp x = none := by
 unfold lineOp
 split
 ·rfl
 ·split
  ·rfl
  ·split
   ·rename_i e; exact absurd (parse_b e) h
   ·rfl
theorem join_snoc (a b : Bs) : ∀ (l : List Bs), Lib.join (a :: (l ++ [b])) [32] = Lib.join (a :: l) [32] ++ [32] ++ b
 | [] => by rw [List.nil_append, join_cons2, join_one, join_one]
 | c :: l => by
  rw [List.cons_append, join_cons2, join_cons2, join_snoc c b l]
  simp
structure NJ (x : OpD) (k : Nat) : Prop where
 le : k ≤ 3
 ok : ∀ j < k, inB ([x.h, x.o, x.n].getD j 0)
theorem NJ.step {x : OpD} {k : Nat} (h : NJ x k) (hk : k < 3) (h1 : (decide ([x.h, x.o, x.n].getD k 0 < -4611686018427387904) || decide ([x.h, x.o, x.n].getD k 0 > 4611686018427387904)) = false) : NJ x (k + 1) := by
 rw [Bool.or_eq_false_iff] at h1
 have e1 := of_decide_eq_false h1.1
 have e2 := of_decide_eq_false h1.2
 refine ⟨hk, fun j hj => ?_⟩
 rcases Nat.lt_or_ge j k with hlt | hge
 ·exact h.ok j hlt
 ·obtain rfl : j = k := by omega
  exact ⟨by omega, by omega⟩
theorem NJ.bad {x : OpD} {k : Nat} (hk : k < 3) (h1 : (decide ([x.h, x.o, x.n].getD k 0 < -4611686018427387904) || decide ([x.h, x.o, x.n].getD k 0 > 4611686018427387904)) = true) : lineOp x = none := by
 refine line_b fun hb => ?_
 have h3 : inB ([x.h, x.o, x.n].getD k 0) := by
  have : k = 0 ∨ k = 1 ∨ k = 2 := by omega
  rcases this with rfl | rfl | rfl
  ·exact hb.h
  ·exact hb.o
  ·exact hb.n
 rw [Bool.or_eq_true] at h1
 rcases h1 with h | h
 ·have := of_decide_eq_true h; have := h3.1; omega
 ·have := of_decide_eq_true h; have := h3.2; omega
theorem NJ.row {x : OpD} {k : Nat} (hk : k < 3) : ([[.int .i64 x.h], [.int .i64 x.o], [.int .i64 x.n]] : List (List Value))[k]? = some [.int .i64 ([x.h, x.o, x.n].getD k 0)] := by
 have : k = 0 ∨ k = 1 ∨ k = 2 := by omega
 rcases this with rfl | rfl | rfl <;> rfl
theorem NJ.all {x : OpD} {k : Nat} (h : NJ x k) (hk : ¬ k < 3) : InB x := by
 have h3 := h.le
 have : k = 3 := by omega
 subst this
 exact ⟨h.ok 0 (by decide), h.ok 1 (by decide), h.ok 2 (by decide)⟩
theorem rline_in {x : OpD} (h : (decide (x.k < 1) || decide (x.k > 22)) = false) : ∃ (i : Nat) (n : Bs) (fs : List Fd), x.k = ((i + 1 : Nat) : Int) ∧ i < 22 ∧ vtab[i]? = some (n, fs) ∧ lineOp x = if parseOp (lineT n fs x) = some x then some (lineT n fs x) else none := by
 obtain ⟨i, n, fs, h1, h2, h3, h4⟩ := line_in h
 exact ⟨i, n, fs, by omega, h2, h3, h4⟩
def lineK (n : Bs) (fs : List Fd) (x : OpD) (k : Nat) : Bs := Lib.join (wordsL n (fs.take k) x) [32]
theorem lineK_len {x : OpD} (hx : OpOk x) {n : Bs} {fs : List Fd} (hn : n.length ≤ 8) (hf : fs.length ≤ 3) (k : Nat) : (lineK n fs x k).length ≤ 4 * 200000002 := by
 have h2 := join_len (l := wordsL n (fs.take k) x) (m := 200000001) (fun w hw => by
  cases hw with
  | head => omega
  | tail _ h =>
   obtain ⟨f, _, rfl⟩ := List.mem_map.1 h
   exact wr_len hx f)
 have h3 : (wordsL n (fs.take k) x).length ≤ 4 := by unfold wordsL; rw [List.length_cons, List.length_map, List.length_take]; omega
 exact Nat.le_trans h2 (Nat.mul_le_mul_right _ h3)
theorem lineK_zero (n : Bs) (fs : List Fd) (x : OpD) : lineK n fs x 0 = n := join_one n [32]
theorem lineK_end {n : Bs} {fs : List Fd} {x : OpD} {k : Nat} (h : k = fs.length) : lineK n fs x k = lineT n fs x := by
 unfold lineK lineT
 rw [h, List.take_length]
theorem lineK_step {n : Bs} {fs : List Fd} {x : OpD} {k : Nat} {f : Fd} (hf : fs[k]? = some f) : lineK n fs x (k + 1) = lineK n fs x k ++ [32] ++ wrF f x := by
 unfold lineK wordsL
 rw [List.take_add_one, hf, List.map_append]
 exact join_snoc _ _ _
theorem rline_sp (L P : List Asn) {x : OpD} (hx : OpOk x) : Sp SEL 14 [.agg ⟨opC x⟩] L P (fun r L' P' => r = .tuple #[S ((lineOp x).getD []), .int .i64 (if (lineOp x).isSome then 0 else 2)] ∧ L' = L ∧ P' = P) := by
 refine Sp.body (fn := Tryz.f14) (N := 108) (by kernel_rfl) (by kernel_rfl) rfl (by kernel_rfl) rfl ?_
 refine .seq (.region ?_)
 refine .bx (cs := [_, _, _, _, _, _, _]) fun b1 => ?_
 refine .ent .pt ?_
 refine .pu .as ?_
 refine .pu .as ?_
 refine .nil ?_
 refine .seq (.seq (.region ?_))
 refine .pu .fa ?_
 refine .ld ?_
 refine .pu (.cmp (q := decide (x.k < 1))) ?_
 refine .pu .mv ?_
 refine .or 15 3 (decide (x.k > 22)) (fun hq => ?_) ?_
 ·refine .on (.pu .fa ?_)
  refine .on (.ld ?_)
  refine .on (.pu (.cmp (q := decide (x.k > 22))) ?_)
  exact .fin rfl
 refine .nil ?_
 refine .ite rfl (fun h19 => ?_) (fun h19 => ?_)
 ·refine .seq (.region ?_)
  refine .pu .as ?_
  refine .pu .as ?_
  refine .nil ?_
  refine .ret ?_
  exact ⟨_, .tmp rfl (.tmp rfl .nil), _, _, .forget, line_rn (line_out h19), rfl, rfl⟩
 refine .skip ?_
 refine .seq (.drawn (by kernel_rfl) fun base => ?_)
 obtain ⟨i, n, fs, hki, hi, hvt, hline⟩ := rline_in h19
 refine .call (rverbs_sp _ _) ?_; rintro tv L P2 ⟨⟨rows, ht, hr⟩, rfl, hsub⟩
 have hb1 := hsub _ (.head _)
 have hless : ∀ a ∈ P, a ∈ P2 := fun a h => hsub a (.tail _ h)
 have hlen : rows.length = 23 := hr.len
 obtain ⟨v, hrow, hvs⟩ := hr.get (rtab_get hvt)
 have hvs : Sl 1 v [[S n], [S (fs.map chF)]] ∈ P2 := hvs
 have hnl : n.length ≤ 8 := (vtab_ok _ (List.mem_of_getElem? hvt)).1
 have hfl : fs.length ≤ 3 := (vtab_ok _ (List.mem_of_getElem? hvt)).2
 have hkn : x.k.toNat = i + 1 := by omega
 rw [← hkn] at hrow
 refine .pu .fa ?_
 refine .lo 0 1 .ld .mk ?_
 refine .lk (.ia (n := x.k) (hn := by rw [hlen]; omega)) ?_
 refine .lo 1 1 .le (.mk hrow) ?_
 refine .pu .as ?_
 refine .nil (.cons (.skip (.yes ?w1 .nil)) (.cons (.yes (.mk (hm := .p0)) (.yes (.mk (hm := .p hb1)) .nil)) .nil)) ?_
 case w1 => exact .mk hrow
 refine .seq (.region ?_)
 refine .pu .fa ?_
 refine .ld ?_
 refine .pu .fa ?_
 refine .ld ?_
 refine .pu .fa ?_
 refine .ld ?_
 refine .bl (k := 1) (es := [[.int .i64 x.h], [.int .i64 x.o], [.int .i64 x.n]]) fun v31 => ?_
 refine .pu .as ?_
 refine .nil ?_
 refine .seq (.seq (.region ?_))
 refine .pu .as ?_
 refine .nil ?_
 refine .block (W.loop (fun (k : Nat) => NJ x k) (fun k => 3 - k) (fun k => [(5, v31), (6, .int .i64 (k : Nat)), (4, v), (1, ppt b1 0)]) (fun _ => Ow 1 v31 [[.int .i64 x.h], [.int .i64 x.o], [.int .i64 x.n]] :: L) (fun _ => P2) 0 ⟨Nat.zero_le _, fun j h => absurd h (Nat.not_lt_zero _)⟩ ⟨rfl, rfl, rfl, rfl, trivial⟩ (.refl _ _) (fun k hj => ?_))
 have hjle := hj.le
 refine .seq (.seq (.region ?_))
 refine .pu .mv ?_
 refine .pu (.cmp (q := decide ((k : Int) < 3))) ?_
 refine .nil ?_
 refine .ite rfl (fun h33 => ?_) (fun h33 => ?_)
 ·refine .skip ?_
  refine .seq (.block (.seq (.region ?_)))
  refine .pu .mv ?_
  refine .pu .mv ?_
  have hk : k < 3 := by have := of_decide_eq_true h33; omega
  obtain ⟨a, ha⟩ : ∃ a, a = [x.h, x.o, x.n].getD k 0 := ⟨_, rfl⟩
  have hra := NJ.row (x := x) hk
  rw [← ha] at hra
  obtain ⟨qa, hqa⟩ : ∃ q, q = decide (a < -4611686018427387904) := ⟨_, rfl⟩
  obtain ⟨qb, hqb⟩ : ∃ q, q = decide (a > 4611686018427387904) := ⟨_, rfl⟩
  refine .lk (.ia (es := [[.int .i64 x.h], [.int .i64 x.o], [.int .i64 x.n]]) (n := (k : Nat)) (hn := by simp only [List.length_cons, List.length_nil]; omega)) ?_
  refine .le hra ?_
  refine .pu (.cmp (q := qa) (hq := by rw [hqa]; rfl)) ?_
  refine .pu .mv ?_
  refine .or 41 5 (qb) (fun hq => ?_) ?_
  ·refine .on (.pu .mv ?_)
   refine .on (.pu .mv ?_)
   refine .on (.lk (.ia (es := [[.int .i64 x.h], [.int .i64 x.o], [.int .i64 x.n]]) (n := (k : Nat)) (hn := by simp only [List.length_cons, List.length_nil]; omega)) ?_)
   refine .on (.le hra ?_)
   refine .on (.pu (.cmp (q := qb) (hq := by rw [hqb]; rfl)) ?_)
   exact .fin rfl
  refine .nil ?_
  refine .ite rfl (fun h47 => ?_) (fun h47 => ?_)
  ·refine .seq (.region ?_)
   refine .pu .as ?_
   refine .pu .as ?_
   refine .nil ?_
   refine .ret ?_
   exact ⟨_, .tmp rfl (.tmp rfl .nil), _, _, (Ent.d1.trans (Ent.less hless)), line_rn (NJ.bad hk (by rw [← ha, ← hqa, ← hqb]; exact h47)), rfl, rfl⟩
  refine .skip ?_
  refine .region ?_
  refine .pu .mv ?_
  refine .pu (.add (hr := by omega)) ?_
  refine .pu .as ?_
  refine .nil ?_
  exact ⟨k + 1, hj.step hk (by rw [← ha, ← hqa, ← hqb]; exact h47), by show 3 - (k + 1) < 3 - k; omega, ⟨rfl, rfl, rfl, rfl, trivial⟩, .refl _ _⟩
 refine .exit ?_
 refine .seq (.region ?_)
 refine .pu .mv ?_
 have hb := hj.all (by have := of_decide_eq_false h33; omega)
 refine .lk (.ia (k := 1) (es := [[S n], [S (fs.map chF)]]) (n := (0 : Nat)) (hn := by simp)) ?_
 refine .le (w := S n) (es := [[S n], [S (fs.map chF)]]) (i := 0) rfl ?_
 refine .pu .as ?_
 refine .nil ?_
 refine .seq (.seq (.region ?_))
 refine .pu .as ?_
 refine .nil ?_
 refine .block (W.loop (fun (q : Nat) => q ≤ fs.length) (fun q => fs.length - q) (fun q => [(4, v), (8, .int .i64 (q : Nat)), (7, S (lineK n fs x q)), (1, ppt b1 0)]) (fun _ => Ow 1 v31 [[.int .i64 x.h], [.int .i64 x.o], [.int .i64 x.n]] :: L) (fun _ => P2) 0 (Nat.zero_le _) ⟨rfl, rfl, by rw [lineK_zero]; rfl, rfl, trivial⟩ (.refl _ _) (fun q hqle => ?_))
 have hqle : q ≤ fs.length := hqle
 have hlk := lineK_len hx hnl hfl q
 refine .seq (.seq (.region ?_))
 refine .pu .mv ?_
 refine .pu .mv ?_
 refine .lk (.ia (k := 1) (es := [[S n], [S (fs.map chF)]]) (n := (1 : Nat)) (hn := by simp)) ?_
 refine .le (w := S (fs.map chF)) (es := [[S n], [S (fs.map chF)]]) (i := 1) rfl ?_
 refine .pu .ls ?_
 refine .pu (.cmp (q := decide ((q : Int) < ((fs.map chF).length : Nat)))) ?_
 refine .nil ?_
 refine .ite rfl (fun h56 => ?_) (fun h56 => ?_)
 ·refine .skip ?_
  refine .seq (.block (.seq (.region ?_)))
  refine .pu .as ?_
  refine .nil ?_
  have hq : q < fs.length := by have := of_decide_eq_true h56; rw [List.length_map] at this; omega
  obtain ⟨f, hf⟩ : ∃ f, fs[q]? = some f := ⟨fs[q], List.getElem?_eq_getElem hq⟩
  have hwl := wr_len hx f
  refine W.cutS ([(4, v), (8, .int .i64 (q : Nat)), (7, S (lineK n fs x q)), (1, ppt b1 0), (9, S (wrF f x))]) (Ow 1 v31 [[.int .i64 x.h], [.int .i64 x.o], [.int .i64 x.n]] :: L) (P2) ?_ ?_
  ·refine .seq (.region ?_)
   refine .pu .mv ?_
   refine .lk (.ia (k := 1) (es := [[S n], [S (fs.map chF)]]) (n := (1 : Nat)) (hn := by simp)) ?_
   refine .le (w := S (fs.map chF)) (es := [[S n], [S (fs.map chF)]]) (i := 1) rfl ?_
   refine .pu .mv ?_
   refine .pu (.ix (c := chF f) (show (fs.map chF)[q]? = some (chF f) by rw [List.getElem?_map, hf]; rfl)) ?_
   refine .nil ?_
   refine .block (.seq (.region ?_))
   refine .pu (.cmp (q := decide (((chF f).toNat : Int) = ((chF .P).toNat : Int)))) ?_
   refine .pu .as ?_
   refine .nil ?_
   refine .ite rfl (fun h64 => ?_) (fun h64 => ?_)
   ·refine .region ?_
    obtain rfl := chF_inj _ _ h64
    refine .pu .fa ?_
    refine .ld ?_
    refine .pu .as ?_
    refine .nil ?_
    exact ⟨(by (repeat (first | exact True.intro | refine And.intro rfl ?_))), .refl _ _⟩
   refine .seq (.region ?_)
   refine .pu (.cmp (q := decide (((chF f).toNat : Int) = ((chF .Q).toNat : Int)))) ?_
   refine .pu .as ?_
   refine .nil ?_
   refine .ite rfl (fun h68 => ?_) (fun h68 => ?_)
   ·refine .region ?_
    obtain rfl := chF_inj _ _ h68
    refine .pu .fa ?_
    refine .ld ?_
    refine .pu .as ?_
    refine .nil ?_
    exact ⟨(by (repeat (first | exact True.intro | refine And.intro rfl ?_))), .refl _ _⟩
   refine .seq (.region ?_)
   refine .pu (.cmp (q := decide (((chF f).toNat : Int) = ((chF .H).toNat : Int)))) ?_
   refine .pu .as ?_
   refine .nil ?_
   refine .ite rfl (fun h72 => ?_) (fun h72 => ?_)
   ·refine .region ?_
    obtain rfl := chF_inj _ _ h72
    refine .pu .fa ?_
    refine .ld ?_
    refine .call (digits_sp _ _ x.h (by have := hb.h.1; omega) (by have := hb.h.2; omega)) ?_; rintro _ L' P' ⟨rfl, rfl, rfl⟩
    refine .pu .as ?_
    refine .nil ?_
    exact ⟨(by (repeat (first | exact True.intro | refine And.intro rfl ?_))), .refl _ _⟩
   refine .seq (.region ?_)
   refine .pu (.cmp (q := decide (((chF f).toNat : Int) = ((chF .O).toNat : Int)))) ?_
   refine .pu .as ?_
   refine .nil ?_
   refine .ite rfl (fun h77 => ?_) (fun h77 => ?_)
   ·refine .region ?_
    obtain rfl := chF_inj _ _ h77
    refine .pu .fa ?_
    refine .ld ?_
    refine .call (digits_sp _ _ x.o (by have := hb.o.1; omega) (by have := hb.o.2; omega)) ?_; rintro _ L' P' ⟨rfl, rfl, rfl⟩
    refine .pu .as ?_
    refine .nil ?_
    exact ⟨(by (repeat (first | exact True.intro | refine And.intro rfl ?_))), .refl _ _⟩
   refine .seq (.region ?_)
   refine .pu (.cmp (q := decide (((chF f).toNat : Int) = ((chF .N).toNat : Int)))) ?_
   refine .pu .as ?_
   refine .nil ?_
   refine .ite rfl (fun h82 => ?_) (fun h82 => ?_)
   ·refine .region ?_
    obtain rfl := chF_inj _ _ h82
    refine .pu .fa ?_
    refine .ld ?_
    refine .call (digits_sp _ _ x.n (by have := hb.n.1; omega) (by have := hb.n.2; omega)) ?_; rintro _ L' P' ⟨rfl, rfl, rfl⟩
    refine .pu .as ?_
    refine .nil ?_
    exact ⟨(by (repeat (first | exact True.intro | refine And.intro rfl ?_))), .refl _ _⟩
   refine .seq (.region ?_)
   refine .pu (.cmp (q := decide (((chF f).toNat : Int) = ((chF .B).toNat : Int)))) ?_
   refine .pu .as ?_
   refine .nil ?_
   refine .ite rfl (fun h87 => ?_) (fun h87 => ?_)
   ·refine .region ?_
    obtain rfl := chF_inj _ _ h87
    refine .pu .fa ?_
    refine .ld ?_
    refine .call (hex_sp _ _ x.d (by have := hx.d; omega)) ?_; rintro _ L' P' ⟨rfl, rfl, rfl⟩
    refine .pu .as ?_
    refine .nil ?_
    exact ⟨(by (repeat (first | exact True.intro | refine And.intro rfl ?_))), .refl _ _⟩
   refine .skip ?_
   exfalso; cases f <;> first | exact absurd h64 (by decide) | exact absurd h68 (by decide) | exact absurd h72 (by decide) | exact absurd h77 (by decide) | exact absurd h82 (by decide) | exact absurd h87 (by decide)
  refine .region ?_
  refine .pu .mv ?_
  refine .pu (.cat (hr := by rw [List.length_singleton]; omega)) ?_
  refine .pu .mv ?_
  refine .pu (.cat (hr := by rw [List.length_append, List.length_singleton]; omega)) ?_
  refine .pu .as ?_
  refine .nil ?_
  refine .region ?_
  refine .pu .mv ?_
  refine .pu (.add (hr := by omega)) ?_
  refine .pu .as ?_
  refine .nil ?_
  exact ⟨q + 1, hq, by show fs.length - (q + 1) < fs.length - q; omega, ⟨rfl, rfl, by rw [lineK_step hf]; rfl, rfl, trivial⟩, .refl _ _⟩
 refine .exit ?_
 refine .seq (.region ?_)
 refine .pu .mv ?_
 have hqe : q = fs.length := by have := of_decide_eq_false h56; rw [List.length_map] at this; omega
 rw [lineK_end hqe] at hlk ⊢
 refine .call (rlparse_sp _ _ (lineT n fs x) (by omega)) ?_; rintro _ L P2 ⟨rfl, rfl, rfl⟩
 refine .pu .mv ?_
 refine .pu .ex ?_
 refine .pu .ex ?_
 refine .nw (cs := [.int .i64 0, S [], S [], .int .i64 0, .int .i64 0, .int .i64 0, S []]) fun b10 => ?_
 refine .st (vs := [_, _, _, _, _, _, _]) ?_
 refine .pu .as ?_
 refine .nil ?_
 refine .seq (.seq (.region ?_))
 refine .pu .mv ?_
 refine .pu (.cmp (q := decide ((if (parseOp (lineT n fs x)).isSome then (0 : Int) else 2) ≠ 0))) ?_
 refine .pu .mv ?_
 refine .or 103 3 (decide ((parseOp (lineT n fs x)).getD (op0 0) ≠ x)) (fun hq => ?_) ?_
 ·refine .on (.lda (vs := [_, _, _, _, _, _, _]) ?_)
  refine .on (.lda (vs := [_, _, _, _, _, _, _]) ?_)
  refine .on (.pu (opNe42 ((parseOp (lineT n fs x)).getD (op0 0)) x) ?_)
  exact .fin rfl
 refine .nil ?_
 refine .ite rfl (fun h107 => ?_) (fun h107 => ?_)
 ·refine .seq (.region ?_)
  refine .pu .as ?_
  refine .pu .as ?_
  refine .nil ?_
  refine .ret ?_
  exact ⟨_, .tmp rfl (.tmp rfl .nil), _, _, (Ent.d2.trans (Ent.less hless)), line_rn (by rw [hline, if_neg (line_bad h107)]), rfl, rfl⟩
 refine .skip ?_
 refine .seq (.region ?_)
 refine .pu .mv ?_
 refine .pu .as ?_
 refine .pu .as ?_
 refine .nil ?_
 refine .ret ?_
 exact ⟨_, .tmp rfl (.tmp rfl .nil), _, _, (Ent.d2.trans (Ent.less hless)), line_rs (by rw [hline, if_pos (line_good h107)]), rfl, rfl⟩
end Go.Cis
