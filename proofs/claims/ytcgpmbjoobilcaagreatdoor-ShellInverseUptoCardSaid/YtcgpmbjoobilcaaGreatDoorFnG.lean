/- The laws of lines. -/
import Derived.Test.YtcgpmbjoobilcaaGreatDoorFnF
import Derived.Test.YtcgpmbjoobilcaaGreatDoorFnC
set_option linter.unusedSimpArgs false
set_option linter.unusedVariables false
namespace Go.Cis
open Go Go.Ax Go.Lx Go.Proofs
set_option maxRecDepth 100000
theorem to_sp (L P : List Asn) (x : OpD) : Sp SEL 16 [.agg ⟨opC x⟩] L P (fun r L' P' => r = .agg ⟨opC x⟩ ∧ L' = L ∧ P' = P) := by
 refine Sp.body (fn := Tryz.f16) (N := 17) (by kernel_rfl) (by kernel_rfl) rfl (by kernel_rfl) rfl ?_
 refine .seq (.region ?_)
 refine .bx (cs := [_, _, _, _, _, _, _]) fun b1 => ?_
 refine .nw (cs := [.int .i64 0, S [], S [], .int .i64 0, .int .i64 0, .int .i64 0, S []]) fun b2 => ?_
 refine .nil ?_
 refine .seq (.region ?_)
 refine .pu .fa ?_
 refine .ld ?_
 refine .pu .fa ?_
 refine .ld ?_
 refine .pu .fa ?_
 refine .ld ?_
 refine .pu .fa ?_
 refine .ld ?_
 refine .pu .fa ?_
 refine .ld ?_
 refine .pu .fa ?_
 refine .ld ?_
 refine .pu .fa ?_
 refine .ld ?_
 refine .pu (.bd (vs := [_, _, _, _, _, _, _])) ?_
 refine .st (vs := [_, _, _, _, _, _, _]) ?_
 refine .nil ?_
 refine .ret ?_
 exact ⟨_, .cell rfl .l0 rfl .nil, _, _, .d2, rfl, rfl, rfl⟩
theorem of_sp (L P : List Asn) (x : OpD) : Sp SEL 17 [.agg ⟨opC x⟩] L P (fun r L' P' => r = .agg ⟨opC x⟩ ∧ L' = L ∧ P' = P) := by
 refine Sp.body (fn := Tryz.f17) (N := 17) (by kernel_rfl) (by kernel_rfl) rfl (by kernel_rfl) rfl ?_
 refine .seq (.region ?_)
 refine .bx (cs := [_, _, _, _, _, _, _]) fun b1 => ?_
 refine .nw (cs := [.int .i64 0, S [], S [], .int .i64 0, .int .i64 0, .int .i64 0, S []]) fun b2 => ?_
 refine .nil ?_
 refine .seq (.region ?_)
 refine .pu .fa ?_
 refine .ld ?_
 refine .pu .fa ?_
 refine .ld ?_
 refine .pu .fa ?_
 refine .ld ?_
 refine .pu .fa ?_
 refine .ld ?_
 refine .pu .fa ?_
 refine .ld ?_
 refine .pu .fa ?_
 refine .ld ?_
 refine .pu .fa ?_
 refine .ld ?_
 refine .pu (.bd (vs := [_, _, _, _, _, _, _])) ?_
 refine .st (vs := [_, _, _, _, _, _, _]) ?_
 refine .nil ?_
 refine .ret ?_
 exact ⟨_, .cell rfl .l0 rfl .nil, _, _, .d2, rfl, rfl, rfl⟩
theorem opEqT {al : Al} {x y : Operand} {r : Nat} (a : OpD) (hx : evl al x = some (.agg ⟨opC a⟩) := by rfl) (hy : evl al y = some (.agg ⟨opC a⟩) := by rfl) : Pu SEL al (.binOp .eql 42 x y r) (.bool true) := by
 have := opEq42 (r := r) a a hx hy
 rwa [decide_eq_true rfl] at this
end Go.Cis
/- What is read is what is written. -/
namespace Go.Cis
open Go Go.Ax Go.Lx Go.Proofs
set_option maxRecDepth 100000
theorem hexD_fin : ∀ n : Fin 256, ¬ hv (UInt8.ofNat n.val) < 0 → (hv (UInt8.ofNat n.val)).toNat < 16 ∧ hexD (hv (UInt8.ofNat n.val)).toNat = UInt8.ofNat n.val := by decide +kernel
theorem hexD_hv {c : UInt8} (h : ¬ hv c < 0) : (hv c).toNat < 16 ∧ hexD (hv c).toNat = c := by
 have := hexD_fin ⟨c.toNat, c.toNat_lt⟩
 rw [show UInt8.ofNat c.toNat = c from UInt8.ofNat_toNat] at this
 exact this h
theorem unhex_cons (x y : UInt8) (s : Bs) : unhex (x :: y :: s) = if hv x < 0 ∨ hv y < 0 then none else (unhex s).map fun t => UInt8.ofNat (16 * (hv x).toNat + (hv y).toNat) :: t := rfl
theorem unhex_hex : ∀ {w b : Bs}, unhex w = some b → hexOf b = w
 | [], b, h => by cases h; rfl
 | [_], b, h => by cases h
 | x :: y :: s, b, h => by
  rw [unhex_cons] at h
  split at h
  ·cases h
  ·rename_i hn
   cases hs : unhex s with
   | none => rw [hs] at h; cases h
   | some t =>
    rw [hs] at h
    cases h
    obtain ⟨a1, a2⟩ := hexD_hv (c := x) (fun e => hn (.inl e))
    obtain ⟨b1, b2⟩ := hexD_hv (c := y) (fun e => hn (.inr e))
    show hexB _ ++ hexOf t = _
    rw [unhex_hex hs]
    unfold hexB
    rw [UInt8.toNat_ofNat', Nat.mod_eq_of_lt (by omega)]
    rw [show (16 * (hv x).toNat + (hv y).toNat) / 16 = (hv x).toNat by omega, show (16 * (hv x).toNat + (hv y).toNat) % 16 = (hv y).toNat by omega, a2, b2]
    rfl
theorem bytes_word {w b : Bs} (h : bytesOf w = some b) : wordOf b = w := by
 unfold bytesOf at h
 split at h
 ·cases h; rename_i e; rw [e]; rfl
 ·split at h
  ·cases h
  ·rename_i h1 h2
   have e := unhex_hex h
   unfold wordOf
   rw [if_neg (fun hb => h2 (by rw [← e, hb]; rfl)), e]
theorem setF_wr {f : Fd} {x y : OpD} {w : Bs} (h : setF f x w = some y) : wrF f y = w ∧ y.k = x.k ∧ ∀ g, g ≠ f → wrF g y = wrF g x := by
 cases f with
 | P => have := setP_e _ _ _ h; subst this; exact ⟨rfl, rfl, fun g hg => by cases g <;> first | rfl | exact absurd rfl hg⟩
 | Q => have := setQ_e _ _ _ h; subst this; exact ⟨rfl, rfl, fun g hg => by cases g <;> first | rfl | exact absurd rfl hg⟩
 | H =>
  have h : (numOf w).map _ = some y := h
  cases hn : numOf w with
  | none => rw [hn] at h; cases h
  | some m => rw [hn] at h; cases h; exact ⟨(numOf_iff.1 hn).2.2, rfl, fun g hg => by cases g <;> first | rfl | exact absurd rfl hg⟩
 | O =>
  have h : (numOf w).map _ = some y := h
  cases hn : numOf w with
  | none => rw [hn] at h; cases h
  | some m => rw [hn] at h; cases h; exact ⟨(numOf_iff.1 hn).2.2, rfl, fun g hg => by cases g <;> first | rfl | exact absurd rfl hg⟩
 | N =>
  have h : (numOf w).map _ = some y := h
  cases hn : numOf w with
  | none => rw [hn] at h; cases h
  | some m => rw [hn] at h; cases h; exact ⟨(numOf_iff.1 hn).2.2, rfl, fun g hg => by cases g <;> first | rfl | exact absurd rfl hg⟩
 | B =>
  have h : (bytesOf w).map _ = some y := h
  cases hn : bytesOf w with
  | none => rw [hn] at h; cases h
  | some m => rw [hn] at h; cases h; exact ⟨bytes_word hn, rfl, fun g hg => by cases g <;> first | rfl | exact absurd rfl hg⟩
theorem setFs_keep : ∀ {fs : List Fd} {x y : OpD} {ws : List Bs}, setFs fs x ws = some y → y.k = x.k ∧ ∀ g, g ∉ fs → wrF g y = wrF g x
 | [], x, y, ws, h => by cases h; exact ⟨rfl, fun _ _ => rfl⟩
 | _ :: _, _, _, [], h => by cases h
 | f :: fs, x, y, w :: ws, h => by
  have h : (setF f x w).bind _ = some y := h
  cases hs : setF f x w with
  | none => rw [hs] at h; cases h
  | some z =>
   rw [hs] at h
   obtain ⟨h1, h2, h3⟩ := setF_wr hs
   obtain ⟨g1, g2⟩ := setFs_keep (fs := fs) (x := z) h
   exact ⟨g1.trans h2, fun g hg => (g2 g (fun e => hg (.tail _ e))).trans (h3 g (fun e => hg (by rw [e]; exact .head _)))⟩
theorem setFs_wr : ∀ {fs : List Fd} {x y : OpD} {ws : List Bs}, fs.Nodup → fs.length = ws.length → setFs fs x ws = some y → fs.map (fun f => wrF f y) = ws
 | [], x, y, [], _, _, h => rfl
 | [], x, y, _ :: _, _, e, h => by cases e
 | _ :: _, _, _, [], _, e, h => by cases e
 | f :: fs, x, y, w :: ws, hd, e, h => by
  have h : (setF f x w).bind _ = some y := h
  obtain ⟨hd1, hd2⟩ := List.nodup_cons.1 hd
  cases hs : setF f x w with
  | none => rw [hs] at h; cases h
  | some z =>
   rw [hs] at h
   rw [List.map_cons, setFs_wr (fs := fs) (x := z) hd2 (by simpa using e) h, (setFs_keep (fs := fs) (x := z) h).2 f hd1, (setF_wr hs).1]
theorem join_spl (c : UInt8) : ∀ s : Bs, Lib.join (spl c s) [c] = s
 | [] => join_one [] [c]
 | x :: s => by
  rw [spl_cons]
  have ih := join_spl c s
  split
  ·rename_i e
   rcases hs : spl c s with _ | ⟨w, r⟩
   ·exact absurd hs (spl_ne _ _)
   ·rw [join_cons2, ← hs, ih, e]; rfl
  ·rcases hs : spl c s with _ | ⟨w, r⟩
   ·exact absurd hs (spl_ne _ _)
   ·rw [hs] at ih
    show Lib.join ((x :: w) :: r) [c] = x :: s
    rw [← ih]
    cases r with
    | nil => rw [join_one, join_one]
    | cons v r => rw [join_cons2, join_cons2]; rfl
theorem vtab_nd : ∀ r ∈ vtab, r.2.Nodup := by decide
theorem parse_split {s : Bs} {y : OpD} (h : parseOp s = some y) : ∃ i w ws fs, spl 32 s = w :: ws ∧ vtab[i]? = some (w, fs) ∧ i < 22 ∧ fs.length = ws.length ∧ setFs fs (op0 ((i : Nat) + 1)) ws = some y := by
 unfold parseOp at h
 rcases hs : spl 32 s with _ | ⟨w, ws⟩
 ·rw [hs] at h; cases h
 ·rw [hs, parseW_cons] at h
  rcases hv : vix w vtab with _ | ⟨i, fs⟩
  ·rw [hv] at h; cases h
  ·rw [hv] at h
   have h : (if fs.length = ws.length then setFs fs (op0 ((i : Nat) + 1)) ws else none) = some y := h
   split at h
   ·rename_i e; exact ⟨i, w, ws, fs, rfl, vix_get hv, vix_lt hv, e, h⟩
   ·cases h
theorem line_parse {s : Bs} {y : OpD} (h : parseOp s = some y) : lineOp y = some s := by
 obtain ⟨i, w, ws, fs, h1, h2, h3, h4, h5⟩ := parse_split h
 have hk : y.k = (i : Nat) + 1 := (setFs_keep h5).1
 have hm := setFs_wr (vtab_nd _ (List.mem_of_getElem? h2)) h4 h5
 have hl : lineT w fs y = s := by
  unfold lineT wordsL
  rw [hm, ← h1]
  exact join_spl 32 s
 unfold lineOp
 rw [if_neg (by omega), show (y.k - 1).toNat = i by omega, h2]
 simp only
 rw [hl, if_pos h]
def OpL (m : Nat) (x : OpD) : Prop := x.p.length ≤ m ∧ x.t.length ≤ m ∧ x.d.length ≤ m
end Go.Cis
/- The law of inverses. -/
namespace Go.Cis
open Go Go.Ax Go.Lx Go.Proofs
set_option maxRecDepth 100000
theorem bytes_len {w b : Bs} (h : bytesOf w = some b) : b.length ≤ w.length := by
 rw [← bytes_word h]
 unfold wordOf
 split
 ·rename_i e; rw [e]; exact Nat.zero_le _
 ·rw [hexOf_len]; omega
theorem setF_len {m : Nat} {f : Fd} {x y : OpD} {w : Bs} (hw : w.length ≤ m) (hx : OpL m x) (h : setF f x w = some y) : OpL m y := by
 obtain ⟨h1, h2, h3⟩ := hx
 cases f with
 | P => have := setP_e _ _ _ h; subst this; exact ⟨hw, h2, h3⟩
 | Q => have := setQ_e _ _ _ h; subst this; exact ⟨h1, hw, h3⟩
 | H =>
  have h : (numOf w).map _ = some y := h
  cases hn : numOf w with
  | none => rw [hn] at h; cases h
  | some m => rw [hn] at h; cases h; exact ⟨h1, h2, h3⟩
 | O =>
  have h : (numOf w).map _ = some y := h
  cases hn : numOf w with
  | none => rw [hn] at h; cases h
  | some m => rw [hn] at h; cases h; exact ⟨h1, h2, h3⟩
 | N =>
  have h : (numOf w).map _ = some y := h
  cases hn : numOf w with
  | none => rw [hn] at h; cases h
  | some m => rw [hn] at h; cases h; exact ⟨h1, h2, h3⟩
 | B =>
  have h : (bytesOf w).map _ = some y := h
  cases hn : bytesOf w with
  | none => rw [hn] at h; cases h
  | some b => rw [hn] at h; cases h; exact ⟨h1, h2, Nat.le_trans (bytes_len hn) hw⟩
theorem setFs_len {m : Nat} : ∀ {fs : List Fd} {x y : OpD} {ws : List Bs}, (∀ w ∈ ws, w.length ≤ m) → OpL m x → setFs fs x ws = some y → OpL m y
 | [], x, y, ws, _, hx, h => by cases h; exact hx
 | _ :: _, _, _, [], _, _, h => by cases h
 | f :: fs, x, y, w :: ws, hw, hx, h => by
  have h : (setF f x w).bind _ = some y := h
  cases hs : setF f x w with
  | none => rw [hs] at h; cases h
  | some z => rw [hs] at h; exact setFs_len (fs := fs) (fun v hv => hw v (.tail _ hv)) (setF_len (hw w (.head _)) hx hs) h
theorem parse_ok {s : Bs} {y : OpD} (hl : s.length ≤ 100000000) (h : parseOp s = some y) : OpOk y := by
 obtain ⟨i, w, ws, fs, h1, h2, h3, h4, h5⟩ := parse_split h
 have hb := parse_b h
 have hlens := spl_lens 32 s
 rw [h1] at hlens
 obtain ⟨a1, a2, a3⟩ := setFs_len (m := 100000000) (fun v hv => Nat.le_trans (hlens v (.tail _ hv)) hl) ⟨Nat.zero_le _, Nat.zero_le _, Nat.zero_le _⟩ h5
 have := hb.h; have := hb.o; have := hb.n
 exact ⟨a1, a2, a3, by omega, by omega, by omega, by omega, by omega, by omega⟩
theorem lineOp_is {x : OpD} {l : Bs} (hx : OpOk x) (h : lineOp x = some l) : parseOp l = some x ∧ l.length ≤ 4 * 200000002 := by
 unfold lineOp at h
 split at h
 ·cases h
 ·split at h
  ·cases h
  ·rename_i r hr
   split at h
   ·rename_i e
    cases h
    exact ⟨e, lineT_len hx hr⟩
   ·cases h
theorem op_ne_f {al : Al} {x y : Operand} {r : Nat} (a b : OpD) (e : a = b) (hx : evl al x = some (.agg ⟨opC a⟩) := by rfl) (hy : evl al y = some (.agg ⟨opC b⟩) := by rfl) : Pu SEL al (.binOp .neq 45 x y r) (.bool false) := by
 have := opNe (r := r) a b hx hy
 rwa [decide_eq_false (fun h => h e)] at this
theorem inverse_sp (L P : List Asn) (hT : RoN 2 tabV ∈ P) (hN : Top ∈ P) (hK : Kn P) (s : Bs) (hl : s.length ≤ 100000000) {x : OpD} (hx : OpOk x) : Sp SEL 6 [S s, .agg ⟨opC x⟩] L P (fun r L' P' => r = .bool true) := by
 refine Sp.body (fn := Tryz.f6) (N := 66) (by kernel_rfl) (by kernel_rfl) rfl (by kernel_rfl) rfl ?_
 refine .seq (.region ?_)
 refine .bx (cs := [_, _, _, _, _, _, _]) fun b3 => ?_
 refine .ent .pt ?_
 refine .pu .as ?_
 refine .nil ?_
 refine .seq (.seq (.region ?_))
 refine .call (known_sp _ _ (.tail _ hT) (.tail _ hN)) ?_; rintro _ L P' ⟨rfl, rfl, rfl⟩
 have hK2 : Kn (Pt b3 (opC x) (tz 0 42) :: P) := hK.mono fun a h => .tail _ h
 refine .pu .nt ?_
 refine .nil ?_
 refine .no rfl ?_
 refine .skip ?_
 refine .seq (.region ?_)
 refine .pu .mv ?_
 refine .call (lparse_sp _ _ s (by omega) hK2) ?_; rintro _ L P' ⟨rfl, rfl, rfl⟩
 refine .pu .mv ?_
 refine .pu .ex ?_
 refine .pu .ex ?_
 refine .nw (cs := [.int .i64 0, S [], S [], .int .i64 0, .int .i64 0, .int .i64 0, S []]) fun b5 => ?_
 refine .st (vs := [_, _, _, _, _, _, _]) ?_
 refine .pu .as ?_
 refine .nil ?_
 refine W.cutS ([(3, ppt b3 0)]) (Pt b5 (opC ((parseOp s).getD (op0 0))) (tz 0 45) :: L) (Pt b3 (opC x) (tz 0 42) :: P) ?_ ?_
 ·refine .seq (.region ?_)
  refine .pu .mv ?_
  refine .pu (.cmp (q := decide ((if (parseOp s).isSome then (0 : Int) else 2) = 0))) ?_
  refine .nil ?_
  refine .ite rfl (fun h20 => ?_) (fun h20 => ?_)
  ·refine .seq (.region ?_)
   refine .lda (vs := [_, _, _, _, _, _, _]) ?_
   obtain ⟨y, hp⟩ : ∃ y, parseOp s = some y := by
    cases hh : parseOp s with
    | none => rw [hh] at h20; simp at h20
    | some y => exact ⟨y, rfl⟩
   have hlp := line_parse hp
   rw [hp]
   refine .call (line_sp _ _ (parse_ok hl hp) hK2) ?_; rintro _ L P' ⟨rfl, rfl, rfl⟩
   rw [hlp]
   refine .pu .mv ?_
   refine .pu .ex ?_
   refine .pu .ex ?_
   refine .pu .as ?_
   refine .pu .as ?_
   refine .nil ?_
   refine .seq (.region ?_)
   refine .pu .mv ?_
   refine .pu (.cn (hq := rfl)) ?_
   refine .pu .mv ?_
   refine .or 28 3 (false) (fun hq => ?_) ?_
   ·refine .on (.pu .mv ?_)
    refine .on (.pu .mv ?_)
    refine .on (.pu (.sne (q := false) (hq := by simp)) ?_)
    exact .fin rfl
   refine .nil ?_
   refine .no rfl ?_
   refine .skip ?_
   exact ⟨(by (repeat (first | exact True.intro | refine And.intro rfl ?_))), .refl _ _⟩
  refine .seq (.region ?_)
  refine .lda (vs := [_, _, _, _, _, _, _]) ?_
  refine .pu (.bd (vs := [_, _, _, _, _, _, _])) ?_
  have hp : parseOp s = none := by
   cases hh : parseOp s with
   | none => rfl
   | some y => rw [hh] at h20; simp at h20
  rw [hp]
  refine .pu (op_ne_f (op0 0) (op0 0) rfl) ?_
  refine .pu .mv ?_
  refine .or 36 2 (false) (fun hq => ?_) ?_
  ·refine .on (.pu .mv ?_)
   refine .on (.pu (.cn (hq := rfl)) ?_)
   exact .fin rfl
  refine .nil ?_
  refine .no rfl ?_
  refine .skip ?_
  exact ⟨(by (repeat (first | exact True.intro | refine And.intro rfl ?_))), .refl _ _⟩
 refine .seq (.region ?_)
 refine .lda (vs := [_, _, _, _, _, _, _]) ?_
 refine .call (to_sp _ _ x) ?_; rintro _ L P' ⟨rfl, rfl, rfl⟩
 refine .call (line_sp _ _ hx hK2) ?_; rintro _ L P' ⟨rfl, rfl, rfl⟩
 refine .pu .mv ?_
 refine .pu .ex ?_
 refine .pu .ex ?_
 refine .pu .as ?_
 refine .pu .as ?_
 refine .nil ?_
 refine .seq (.seq (.region ?_))
 refine .pu .mv ?_
 refine .pu (.cmp (q := decide ((if (lineOp x).isSome then (0 : Int) else 2) ≠ 0))) ?_
 refine .nil ?_
 refine .ite rfl (fun h47 => ?_) (fun h47 => ?_)
 ·refine .seq (.region ?_)
  refine .pu .mv ?_
  have hln : lineOp x = none := by
   cases hh : lineOp x with
   | none => rfl
   | some y => rw [hh] at h47; simp at h47
  rw [hln]
  refine .pu (.seq (q := true)) ?_
  refine .pu .mv ?_
  refine .and 50 2 (true) (fun hq => ?_) ?_
  ·refine .on (.pu .mv ?_)
   refine .on (.pu (.cy (hq := rfl)) ?_)
   exact .fin rfl
  refine .pu .as ?_
  refine .nil ?_
  refine .ret ?_
  exact ⟨_, .tmp rfl .nil, _, _, .refl _ _, rfl⟩
 refine .skip ?_
 refine .seq (.region ?_)
 refine .pu .mv ?_
 obtain ⟨l, hln⟩ : ∃ l, lineOp x = some l := by
  cases hh : lineOp x with
  | none => rw [hh] at h47; simp at h47
  | some y => exact ⟨y, rfl⟩
 obtain ⟨hpl, hll⟩ := lineOp_is hx hln
 rw [hln]
 refine .call (lparse_sp _ _ l (by omega) hK2) ?_; rintro _ L P' ⟨rfl, rfl, rfl⟩
 rw [hpl]
 refine .pu .mv ?_
 refine .pu .ex ?_
 refine .pu .ex ?_
 refine .nw (cs := [.int .i64 0, S [], S [], .int .i64 0, .int .i64 0, .int .i64 0, S []]) fun b10 => ?_
 refine .st (vs := [_, _, _, _, _, _, _]) ?_
 refine .pu .as ?_
 refine .nil ?_
 refine .seq (.drawn (by kernel_rfl) fun base => ?_)
 refine .pu .mv ?_
 refine .pu (.cy (hq := rfl)) ?_
 refine .pu .mv ?_
 refine .lo 0 0 .ld .mk ?_
 refine .call (of_sp _ _ x) ?_; rintro _ L P' ⟨rfl, rfl, rfl⟩
 refine .lo 0 1 .ld .mk ?_
 refine .pu (opEqT x) ?_
 refine .pu .pk ?_
 refine .pu .as ?_
 refine .nil (.cons (.yes .mk (.yes .mk .nil)) (.cons (.yes .mk (.skip .nil)) .nil)) ?_
 refine .ret ?_
 exact ⟨_, .tmp rfl .nil, _, _, .refl _ _, rfl⟩
end Go.Cis
