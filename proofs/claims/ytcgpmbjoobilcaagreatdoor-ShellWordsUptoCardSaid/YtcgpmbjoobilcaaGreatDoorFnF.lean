/- The walk of shell.Line. -/
import Derived.Test.YtcgpmbjoobilcaaGreatDoorFnE
import Derived.Test.YtcgpmbjoobilcaaGreatDoorFnC
import Derived.Test.YtcgpmbjoobilcaaGreatDoorFnA
set_option linter.unusedSimpArgs false
set_option linter.unusedVariables false
namespace Go.Cis
open Go Go.Ax Go.Lx Go.Proofs
set_option maxRecDepth 100000
structure OpOk (x : OpD) : Prop where
 p : x.p.length ≤ 100000000
 t : x.t.length ≤ 100000000
 d : x.d.length ≤ 100000000
 h1 : -9223372036854775808 ≤ x.h
 h2 : x.h ≤ 9223372036854775807
 o1 : -9223372036854775808 ≤ x.o
 o2 : x.o ≤ 9223372036854775807
 n1 : -9223372036854775808 ≤ x.n
 n2 : x.n ≤ 9223372036854775807
theorem wr_len {x : OpD} (hx : OpOk x) (f : Fd) : (wrF f x).length ≤ 200000001 := by
 cases f with
 | P => have := hx.p; show x.p.length ≤ _; omega
 | Q => have := hx.t; show x.t.length ≤ _; omega
 | H => have := Lib.itoa_length_le x.h hx.h1 hx.h2; show (Lib.itoa x.h).length ≤ _; omega
 | O => have := Lib.itoa_length_le x.o hx.o1 hx.o2; show (Lib.itoa x.o).length ≤ _; omega
 | N => have := Lib.itoa_length_le x.n hx.n1 hx.n2; show (Lib.itoa x.n).length ≤ _; omega
 | B => have := wordOf_len x.d; have := hx.d; show (wordOf x.d).length ≤ _; omega
theorem join_cons2 (a b : Bs) (l : List Bs) (s : Bs) : Lib.join (a :: b :: l) s = a ++ s ++ Lib.join (b :: l) s := by
 simp [Lib.join, List.intercalate, List.intersperse]
theorem join_one (a s : Bs) : Lib.join [a] s = a := by simp [Lib.join, List.intercalate, List.intersperse]
theorem join_len {m : Nat} : ∀ {l : List Bs}, (∀ w ∈ l, w.length ≤ m) → (Lib.join l [32]).length ≤ l.length * (m + 1)
 | [], _ => by simp [Lib.join, List.intercalate, List.intersperse]
 | [a], h => by rw [join_one]; have := h a (.head _); simp only [List.length_cons, List.length_nil]; omega
 | a :: b :: l, h => by
  rw [join_cons2, List.length_append, List.length_append, List.length_cons (a := a), Nat.succ_mul]
  have h1 := h a (.head _)
  have h2 := join_len (l := b :: l) (fun w hw => h w (.tail _ hw))
  simp only [List.length_cons, List.length_nil] at h2 ⊢
  omega
def wordsL (n : Bs) (fs : List Fd) (x : OpD) : List Bs := n :: fs.map fun f => wrF f x
def lineT (n : Bs) (fs : List Fd) (x : OpD) : Bs := Lib.join (wordsL n fs x) [32]
def lineOp (x : OpD) : Option Bs := if x.k < 1 ∨ 22 < x.k then none else match vtab[(x.k - 1).toNat]? with
 | none => none
 | some r => if parseOp (lineT r.1 r.2 x) = some x then some (lineT r.1 r.2 x) else none
theorem vtab_ok : ∀ r ∈ vtab, r.1.length ≤ 8 ∧ r.2.length ≤ 3 := by decide
theorem lineT_len {x : OpD} (hx : OpOk x) {i : Nat} {r : Bs × List Fd} (hr : vtab[i]? = some r) : (lineT r.1 r.2 x).length ≤ 4 * 200000002 := by
 have h1 := vtab_ok r (List.mem_of_getElem? hr)
 have h2 := join_len (l := wordsL r.1 r.2 x) (m := 200000001) (fun w hw => by
  cases hw with
  | head => omega
  | tail _ h =>
   obtain ⟨f, _, rfl⟩ := List.mem_map.1 h
   exact wr_len hx f)
 have h3 : (wordsL r.1 r.2 x).length ≤ 4 := by unfold wordsL; rw [List.length_cons, List.length_map]; omega
 exact Nat.le_trans h2 (Nat.mul_le_mul_right _ h3)
theorem wordsL_len {x : OpD} {i : Nat} {r : Bs × List Fd} (hr : vtab[i]? = some r) : (wordsL r.1 r.2 x).length ≤ 4 := by
 have h1 := vtab_ok r (List.mem_of_getElem? hr)
 unfold wordsL; rw [List.length_cons, List.length_map]; omega
theorem wr_sp (f : Fd) (L P : List Asn) {B : Fd → Nat} {tv : Value} {x : OpD} (hx : OpOk x) (hT : VTab P B tv) (hK : Kn P) : Sp SEL (fnW f) ([.agg ⟨opC x⟩] ++ capB B f) L P (fun r L' P' => r = S (wrF f x) ∧ L' = L ∧ P' = P) := by
 cases f with
 | P => obtain ⟨z, hb⟩ := hT.bP; exact pf2_sp L P acP_sp hb rfl
 | Q => obtain ⟨z, hb⟩ := hT.bQ; exact pf2_sp L P acQ_sp hb rfl
 | H => obtain ⟨z, hb⟩ := hT.bH; exact nf2_sp L P acH_sp hb rfl hx.h1 hx.h2 hK.pow
 | O => obtain ⟨z, hb⟩ := hT.bO; exact nf2_sp L P acO_sp hb rfl hx.o1 hx.o2 hK.pow
 | N => obtain ⟨z, hb⟩ := hT.bN; exact nf2_sp L P acN_sp hb rfl hx.n1 hx.n2 hK.pow
 | B => exact bf2_sp L P (by have := hx.d; omega)
theorem line_out {x : OpD} (h : (decide (x.k < 1) || decide (x.k > 22)) = true) : lineOp x = none := by
 unfold lineOp
 rw [if_pos (by simpa [Bool.or_eq_true] using h)]
theorem line_in {x : OpD} (h : (decide (x.k < 1) || decide (x.k > 22)) = false) : ∃ (i : Nat) (n : Bs) (fs : List Fd), x.k - 1 = (i : Int) ∧ i < 22 ∧ vtab[i]? = some (n, fs) ∧ lineOp x = if parseOp (lineT n fs x) = some x then some (lineT n fs x) else none := by
 rw [Bool.or_eq_false_iff] at h
 have h1 := of_decide_eq_false h.1
 have h2 := of_decide_eq_false h.2
 have hi : (x.k - 1).toNat < vtab.length := by show _ < 22; omega
 refine ⟨(x.k - 1).toNat, (vtab[(x.k - 1).toNat]).1, (vtab[(x.k - 1).toNat]).2, by omega, by omega, List.getElem?_eq_getElem hi, ?_⟩
 unfold lineOp
 rw [if_neg (by omega), List.getElem?_eq_getElem hi]
theorem line_bad {x : OpD} {l : Bs} (h : (decide ((if (parseOp l).isSome then (0 : Int) else 2) ≠ 0) || decide ((parseOp l).getD (op0 0) ≠ x)) = true) : ¬ parseOp l = some x := fun e => by
 rw [e] at h
 simp at h
theorem line_good {x : OpD} {l : Bs} (h : (decide ((if (parseOp l).isSome then (0 : Int) else 2) ≠ 0) || decide ((parseOp l).getD (op0 0) ≠ x)) = false) : parseOp l = some x := by
 rw [Bool.or_eq_false_iff] at h
 cases hp : parseOp l with
 | none => rw [hp] at h; exact absurd h.1 (by decide)
 | some y =>
  rw [hp] at h
  have := of_decide_eq_false h.2
  simpa using this
theorem line_rn {x : OpD} (h : lineOp x = none) : packA [S [], .int .i64 2] = .tuple #[S ((lineOp x).getD []), .int .i64 (if (lineOp x).isSome then 0 else 2)] := by rw [h]; rfl
theorem line_rs {x : OpD} {l : Bs} (h : lineOp x = some l) : packA [S l, .int .i64 0] = .tuple #[S ((lineOp x).getD []), .int .i64 (if (lineOp x).isSome then 0 else 2)] := by rw [h]; rfl
theorem line_sp (L P : List Asn) {x : OpD} (hx : OpOk x) (hK : Kn P) : Sp SEL 15 [.agg ⟨opC x⟩] L P (fun r L' P' => r = .tuple #[S ((lineOp x).getD []), .int .i64 (if (lineOp x).isSome then 0 else 2)] ∧ L' = L ∧ P' = P) := by
 refine Sp.body (fn := Tryz.f15) (N := 64) (by kernel_rfl) (by kernel_rfl) rfl (by kernel_rfl) rfl ?_
 refine .seq (.region ?_)
 refine .bx (cs := [_, _, _, _, _, _, _]) fun b1 => ?_
 refine .ent .pt ?_
 refine .pu .as ?_
 refine .pu .as ?_
 refine .nil ?_
 refine .seq (.region ?_)
 refine .call (verbs_sp _ _) ?_; rintro tv L P2 ⟨B, hT, rfl, hsub⟩
 have hb1 := hsub _ (.head _)
 have hless : ∀ a ∈ P, a ∈ P2 := fun a h => hsub a (.tail _ h)
 have hK2 : Kn P2 := hK.mono hless
 obtain ⟨rows, ht, hr⟩ := hT.rows
 have hlen : rows.length = 22 := hr.len
 refine .pu .as ?_
 refine .nil ?_
 refine .seq (.seq (.region ?_))
 refine .pu .fa ?_
 refine .ld ?_
 refine .pu (.cmp (q := decide (x.k < 1))) ?_
 refine .pu .mv ?_
 refine .or 15 5 (decide (x.k > 22)) (fun hq => ?_) ?_
 ·refine .on (.pu .fa ?_)
  refine .on (.ld ?_)
  refine .on (.pu .mv ?_)
  refine .on (.lk .ln ?_)
  refine .on (.pu (.cmp (q := decide (x.k > 22)) (hq := by rw [hlen]; rfl)) ?_)
  exact .fin rfl
 refine .nil ?_
 refine .ite rfl (fun h21 => ?_) (fun h21 => ?_)
 ·refine .seq (.region ?_)
  refine .pu .as ?_
  refine .pu .as ?_
  refine .nil ?_
  refine .ret ?_
  exact ⟨_, .tmp rfl (.tmp rfl .nil), _, _, (Ent.less hless), line_rn (line_out h21), rfl, rfl⟩
 refine .skip ?_
 refine .seq (.region ?_)
 refine .pu .mv ?_
 obtain ⟨i, n, fs, hki, hi, hvt, hline⟩ := line_in h21
 obtain ⟨v, hrow, hfs⟩ := hr.get hvt
 have hrow : rows[i]? = some [S n, v] := hrow
 have hfs : Sl 2 v (fs.map (fdV B)) ∈ P2 := hfs
 have hvl : fs.length ≤ 3 := (vtab_ok _ (List.mem_of_getElem? hvt)).2
 refine .pu .fa ?_
 refine .ld ?_
 refine .pu (.sub (hr := by omega)) ?_
 rw [hki]
 refine .lk (.ia (n := (i : Nat)) (hn := by rw [hlen]; omega)) ?_
 refine .pu .fa ?_
 refine .lf (j := 0) hrow ?_
 refine .bl (k := 1) (es := [[S n]]) fun v29 => ?_
 refine .pu .as ?_
 refine .nil ?_
 refine .seq (.seq (.region ?_))
 refine .pu .mv ?_
 refine .pu .fa ?_
 refine .ld ?_
 refine .pu (.sub (hr := by omega)) ?_
 rw [hki]
 refine .lk (.ia (n := (i : Nat)) (hn := by rw [hlen]; omega)) ?_
 refine .pu .fa ?_
 refine .lf (j := 1) hrow ?_
 refine .lk .ln ?_
 refine .pu .mv ?_
 refine .nil ?_
 refine .block (W.loop (fun (p : Nat × Value) => p.1 ≤ fs.length) (fun p => fs.length - p.1) (fun p => [(36, v), (37, .int .i64 ((fs.map (fdV B)).length : Nat)), (38, .int .i64 (p.1 : Nat)), (5, p.2), (1, ppt b1 0)]) (fun p => Ow 1 p.2 (sv (wordsL n (fs.take p.1) x)) :: L) (fun _ => P2) (0, v29) (Nat.zero_le _) ⟨rfl, rfl, rfl, rfl, rfl, trivial⟩ (.refl _ _) (fun p hj => ?_))
 obtain ⟨k, v5⟩ := p
 dsimp only
 have hjk : k ≤ fs.length := hj
 refine .seq (.region ?_)
 refine .pu (.cmp (q := decide ((k : Int) < ((fs.map (fdV B)).length : Nat)))) ?_
 refine .nil ?_
 refine .seq (.ite rfl (fun h39 => ?_) (fun h39 => ?_))
 ·refine .skip ?_
  refine .seq (.block (.seq (.region ?_)))
  have hk : k < fs.length := by have := of_decide_eq_true h39; rw [List.length_map] at this; omega
  obtain ⟨f, hf⟩ : ∃ f, fs[k]? = some f := ⟨fs[k], List.getElem?_eq_getElem hk⟩
  have hrowf : (fs.map (fdV B))[k]? = some [.func (.func (fnR f)) #[] ⟨capB B f⟩, .func (.func (fnW f)) #[] ⟨capB B f⟩] := by rw [List.getElem?_map, hf]; exact congrArg some (fdV_eq B f)
  refine .lk (.ia (n := (k : Nat)) (hn := by rw [List.length_map]; omega)) ?_
  refine .la hrowf ?_
  refine .nw (cs := [.nilFunc, .nilFunc]) fun b7 => ?_
  refine .st (vs := [_, _]) ?_
  refine .ent .pt ?_
  refine .nil ?_
  refine .region ?_
  refine .pu .mv ?_
  refine .pu .fa ?_
  refine .ld ?_
  refine .lda (vs := [_, _, _, _, _, _, _]) ?_
  refine .call (wr_sp f _ _ hx (hT.mono fun a h => .tail _ h) (hK2.mono fun a h => .tail _ h)) ?_; rintro _ L P ⟨rfl, rfl, rfl⟩
  refine .bl (k := 1) (es := [[_]]) fun v47 => ?_
  refine .ap (fun v48 => ?_) (hn := by unfold wordsL; rw [sv_len, List.length_cons, List.length_map, List.length_take]; simp only [List.length_cons, List.length_nil]; omega)
  refine .pu .as ?_
  refine .nil ?_
  refine .region ?_
  refine .pu (.add (hr := by omega)) ?_
  refine .pu .mv ?_
  refine .nil ?_
  refine ⟨(k + 1, v48), hk, by show fs.length - (k + 1) < fs.length - k; omega, ⟨rfl, rfl, rfl, rfl, rfl, trivial⟩, ?_⟩
  show Ent _ _ (Ow 1 v48 (sv (wordsL n (fs.take (k + 1)) x)) :: L) _
  rw [show sv (wordsL n (fs.take (k + 1)) x) = sv (wordsL n (fs.take k) x) ++ [[S (wrF f x)]] by unfold wordsL sv; rw [List.take_add_one, hf]; simp]
  exact (Ent.take .z .d1).trans .forget
 refine .exit ?_
 refine .seq (.region ?_)
 refine .pu .mv ?_
 have hke : k = fs.length := by have := of_decide_eq_false h39; rw [List.length_map] at this; omega
 rw [show fs.take k = fs by rw [hke, List.take_length]]
 have hwl := wordsL_len (x := x) hvt
 have hll := lineT_len hx hvt
 refine .call (join_sp _ _ _ (wordsL n fs x) [32] (.o .l0) (by unfold lineT at hll; dsimp only at hll; omega) (by dsimp only at hwl; omega)) ?_; rintro _ L P2 ⟨rfl, rfl, rfl⟩
 refine .pu .as ?_
 refine .nil ?_
 refine .seq (.seq (.region ?_))
 refine .pu .mv ?_
 refine .call (lparse_sp _ _ (lineT n fs x) (by dsimp only at hll; omega) hK2) ?_; rintro _ L P2 ⟨rfl, rfl, rfl⟩
 refine .pu .mv ?_
 refine .pu .ex ?_
 refine .pu .ex ?_
 refine .nw (cs := [.int .i64 0, S [], S [], .int .i64 0, .int .i64 0, .int .i64 0, S []]) fun b9 => ?_
 refine .st (vs := [_, _, _, _, _, _, _]) ?_
 refine .pu .as ?_
 refine .nil ?_
 refine .seq (.region ?_)
 refine .pu .mv ?_
 refine .pu (.cmp (q := decide ((if (parseOp (lineT n fs x)).isSome then (0 : Int) else 2) ≠ 0))) ?_
 refine .pu .mv ?_
 refine .or 59 3 (decide ((parseOp (lineT n fs x)).getD (op0 0) ≠ x)) (fun hq => ?_) ?_
 ·refine .on (.lda (vs := [_, _, _, _, _, _, _]) ?_)
  refine .on (.lda (vs := [_, _, _, _, _, _, _]) ?_)
  refine .on (.pu (opNe ((parseOp (lineT n fs x)).getD (op0 0)) x) ?_)
  exact .fin rfl
 refine .nil ?_
 refine .ite rfl (fun h63 => ?_) (fun h63 => ?_)
 ·refine .seq (.region ?_)
  refine .pu .as ?_
  refine .pu .as ?_
  refine .nil ?_
  refine .ret ?_
  exact ⟨_, .tmp rfl (.tmp rfl .nil), _, _, (Ent.d2.trans (Ent.less hless)), line_rn (by rw [hline, if_neg (line_bad h63)]), rfl, rfl⟩
 refine .skip ?_
 refine .seq (.region ?_)
 refine .pu .mv ?_
 refine .pu .as ?_
 refine .pu .as ?_
 refine .nil ?_
 refine .ret ?_
 exact ⟨_, .tmp rfl (.tmp rfl .nil), _, _, (Ent.d2.trans (Ent.less hless)), line_rs (by rw [hline, if_pos (line_good h63)]; rfl), rfl, rfl⟩
end Go.Cis
/- The document's table, words and fields. -/
namespace Go.Cis
open Go Go.Ax Go.Lx Go.Proofs
set_option maxRecDepth 100000
def chF : Fd → UInt8
 | .P => 80
 | .Q => 81
 | .H => 72
 | .O => 79
 | .N => 78
 | .B => 66
end Go.Cis
/- A line is parsed, the document's way. -/
namespace Go.Cis
open Go Go.Ax Go.Lx Go.Proofs
set_option maxRecDepth 100000
instance : DecidableEq Fd := fun a b => decidable_of_iff ((chF a).toNat = (chF b).toNat) ⟨fun h => by cases a <;> cases b <;> first | rfl | exact absurd h (by decide), fun h => by rw [h]⟩
end Go.Cis
/- A line is written, the document's way. -/
namespace Go.Cis
open Go Go.Ax Go.Lx Go.Proofs
set_option maxRecDepth 100000
theorem join_snoc (a b : Bs) : ∀ (l : List Bs), Lib.join (a :: (l ++ [b])) [32] = Lib.join (a :: l) [32] ++ [32] ++ b
 | [] => by rw [List.nil_append, join_cons2, join_one, join_one]
 | c :: l => by
  rw [List.cons_append, join_cons2, join_cons2, join_snoc c b l]
  simp
end Go.Cis
