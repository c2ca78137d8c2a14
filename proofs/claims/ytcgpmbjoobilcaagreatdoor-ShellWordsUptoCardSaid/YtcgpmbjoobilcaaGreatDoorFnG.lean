/- The laws of lines. -/
import Derived.Test.YtcgpmbjoobilcaaGreatDoorFnF
import Derived.Test.YtcgpmbjoobilcaaGreatDoorFnC
set_option linter.unusedSimpArgs false
set_option linter.unusedVariables false
namespace Go.Cis
open Go Go.Ax Go.Lx Go.Proofs
set_option maxRecDepth 100000
end Go.Cis
/- What is read is what is written. -/
namespace Go.Cis
open Go Go.Ax Go.Lx Go.Proofs
set_option maxRecDepth 100000
theorem hv_hexD : ∀ n : Fin 16, hv (hexD n.val) = (n.val : Int) := by decide +kernel
theorem unhex_cons (x y : UInt8) (s : Bs) : unhex (x :: y :: s) = if hv x < 0 ∨ hv y < 0 then none else (unhex s).map fun t => UInt8.ofNat (16 * (hv x).toNat + (hv y).toNat) :: t := rfl
theorem hex_unhex : ∀ s : Bs, unhex (hexOf s) = some s
 | [] => rfl
 | c :: s => by
  have h1 : c.toNat / 16 < 16 := by have := c.toNat_lt; omega
  have h2 : c.toNat % 16 < 16 := by omega
  have e1 := hv_hexD ⟨c.toNat / 16, h1⟩
  have e2 := hv_hexD ⟨c.toNat % 16, h2⟩
  show unhex (hexD (c.toNat / 16) :: hexD (c.toNat % 16) :: hexOf s) = _
  rw [unhex_cons, if_neg (by rw [e1, e2]; simp only; omega), hex_unhex s, e1, e2]
  show some (UInt8.ofNat (16 * (((c.toNat / 16 : Nat) : Int)).toNat + (((c.toNat % 16 : Nat) : Int)).toNat) :: s) = _
  rw [Int.toNat_natCast, Int.toNat_natCast, show 16 * (c.toNat / 16) + c.toNat % 16 = c.toNat by omega, UInt8.ofNat_toNat]
theorem word_bytes (s : Bs) : bytesOf (wordOf s) = some s := by
 cases s with
 | nil => rfl
 | cons c s =>
  have e : wordOf (c :: s) = hexOf (c :: s) := rfl
  rw [e]
  have hl := hexOf_len (c :: s)
  unfold bytesOf
  rw [if_neg, if_neg, hex_unhex]
  ·intro h; rw [h] at hl; simp at hl
  ·intro h; rw [h] at hl; simp at hl; omega
end Go.Cis
/- The law of inverses. -/
namespace Go.Cis
open Go Go.Ax Go.Lx Go.Proofs
set_option maxRecDepth 100000
end Go.Cis
/- The law of words. -/
namespace Go.Cis
open Go Go.Ax Go.Lx Go.Proofs
set_option maxRecDepth 100000
theorem dval_no32 : ∀ {w : Bs} {a n : Nat}, dval a w = some n → (32 : UInt8) ∉ w
 | [], _, _, _, h => by cases h
 | c :: r, a, n, h, hm => by
  rw [dval_cons] at h
  split at h
  ·rename_i hc
   cases hm with
   | head => exact absurd hc.1 (by decide)
   | tail _ hm => exact dval_no32 h hm
  ·cases h
theorem itoa_no32 (n : Int) : (32 : UInt8) ∉ Lib.itoa n := by
 unfold Lib.itoa
 split
 ·intro h
  cases h with
  | tail _ h => exact dval_no32 (dval_dec _) h
 ·exact dval_no32 (dval_dec _)
theorem hexD_no32 : ∀ n : Fin 16, hexD n.val ≠ 32 := by decide +kernel
theorem hexOf_no32 : ∀ s : Bs, (32 : UInt8) ∉ hexOf s
 | [], h => by cases h
 | c :: s, h => by
  have h1 : c.toNat / 16 < 16 := by have := c.toNat_lt; omega
  have h2 : c.toNat % 16 < 16 := by omega
  have h : (32 : UInt8) ∈ hexD (c.toNat / 16) :: hexD (c.toNat % 16) :: hexOf s := h
  rcases List.mem_cons.1 h with h | h
  ·exact hexD_no32 ⟨_, h1⟩ h.symm
  rcases List.mem_cons.1 h with h | h
  ·exact hexD_no32 ⟨_, h2⟩ h.symm
  ·exact hexOf_no32 s h
theorem word_no32 (s : Bs) : (32 : UInt8) ∉ wordOf s := by
 unfold wordOf
 split
 ·decide
 ·exact hexOf_no32 s
theorem spl_no {c : UInt8} : ∀ {w : Bs}, c ∉ w → spl c w = [w]
 | [], _ => rfl
 | x :: w, h => by
  rw [spl_cons, if_neg (fun e => h (by rw [e]; exact .head _)), spl_no (fun e => h (.tail _ e))]
theorem spl_app {c : UInt8} (t : Bs) : ∀ {w : Bs}, c ∉ w → spl c (w ++ c :: t) = w :: spl c t
 | [], _ => by rw [List.nil_append, spl_cons, if_pos rfl]
 | x :: w, h => by
  rw [List.cons_append, spl_cons, if_neg (fun e => h (by rw [e]; exact .head _)), spl_app t (fun e => h (.tail _ e))]
theorem spl_join : ∀ {l : List Bs}, l ≠ [] → (∀ w ∈ l, (32 : UInt8) ∉ w) → spl 32 (Lib.join l [32]) = l
 | [], h, _ => absurd rfl h
 | [a], _, h => by rw [join_one, spl_no (h a (.head _))]
 | a :: b :: l, _, h => by
  rw [join_cons2, List.append_assoc]
  show spl 32 (a ++ 32 :: Lib.join (b :: l) [32]) = _
  rw [spl_app _ (h a (.head _)), spl_join (by simp) (fun w hw => h w (.tail _ hw))]
abbrev opW (n : Nat) (s : Bs) : OpD := ⟨6, [], [], (n : Nat), 0, 0, s⟩
abbrev wrN : Bs := [119, 114, 105, 116, 101]
def lineW (n : Nat) (s : Bs) : Bs := lineT wrN [.H, .O, .B] (opW n s)
theorem vtab5 : vtab[5]? = some (wrN, [.H, .O, .B]) := rfl
theorem vix5 : vix wrN vtab = some (5, [.H, .O, .B]) := by decide
theorem num_itoa {n : Int} (h1 : -4611686018427387904 ≤ n) (h2 : n ≤ 4611686018427387904) : numOf (Lib.itoa n) = some n := numOf_iff.2 ⟨h1, h2, rfl⟩
theorem lineW_parse {n : Nat} (hn : n < 1000) (s : Bs) : parseOp (lineW n s) = some (opW n s) := by
 have hs : spl 32 (lineW n s) = [wrN, Lib.itoa (n : Nat), Lib.itoa 0, wordOf s] := spl_join (l := [wrN, Lib.itoa (n : Nat), Lib.itoa 0, wordOf s]) (by simp) (fun w hw => by
  rcases List.mem_cons.1 hw with rfl | hw
  ·decide
  rcases List.mem_cons.1 hw with rfl | hw
  ·exact itoa_no32 _
  rcases List.mem_cons.1 hw with rfl | hw
  ·exact itoa_no32 _
  rcases List.mem_cons.1 hw with rfl | hw
  ·exact word_no32 s
  ·cases hw)
 unfold parseOp
 rw [hs, parseW_cons, vix5]
 show setFs [.H, .O, .B] (op0 (((5 : Nat) : Int) + 1)) [Lib.itoa (n : Nat), Lib.itoa 0, wordOf s] = _
 show ((numOf (Lib.itoa (n : Nat))).map _).bind _ = _
 rw [num_itoa (by omega) (by omega)]
 show ((numOf (Lib.itoa 0)).map _).bind _ = _
 rw [num_itoa (by omega) (by omega)]
 show ((bytesOf (wordOf s)).map _).bind _ = _
 rw [word_bytes]
 rfl
theorem lineW_line {n : Nat} (hn : n < 1000) (s : Bs) : lineOp (opW n s) = some (lineW n s) := by
 unfold lineOp
 rw [if_neg (by show ¬ ((6 : Int) < 1 ∨ (22 : Int) < 6); decide), show ((opW n s).k - 1).toNat = 5 from rfl, vtab5]
 simp only
 exact if_pos (lineW_parse hn s)
theorem lineW_end (n : Nat) (s : Bs) : lineW n s = Lib.join [wrN, Lib.itoa (n : Nat), Lib.itoa 0] [32] ++ [32] ++ wordOf s := join_snoc wrN (wordOf s) [Lib.itoa (n : Nat), Lib.itoa 0]
theorem wordOf_size (s : Bs) : ((wordOf s).length : Int) = if 1 > 2 * (s.length : Int) then 1 else 2 * (s.length : Int) := by
 unfold wordOf
 split
 ·rename_i e; subst e; rfl
 ·rename_i h
  have := List.length_pos_iff.2 h
  rw [hexOf_len, if_neg (by omega)]
  omega
theorem opW_ok {n : Nat} (hn : n < 1000) {s : Bs} (hs : s.length ≤ 5000) : OpOk (opW n s) := ⟨Nat.zero_le _, Nat.zero_le _, by show s.length ≤ _; omega, by show (_ : Int) ≤ ((n : Nat) : Int); omega, by show ((n : Nat) : Int) ≤ _; omega, (by decide : (-9223372036854775808 : Int) ≤ 0), (by decide : (0 : Int) ≤ 9223372036854775807), (by decide : (-9223372036854775808 : Int) ≤ 0), (by decide : (0 : Int) ≤ 9223372036854775807)⟩
theorem tail_of (a b : Bs) : ((a ++ b).drop a.length).take ((a ++ b).length - a.length) = b := by
 rw [List.drop_left, List.length_append, show a.length + b.length - a.length = b.length by omega, List.take_length]
theorem words_sp (L P : List Asn) (hT : RoN 2 tabV ∈ P) (hN : Top ∈ P) (hK : Kn P) (s : Bs) (n : Int) : Sp SEL 7 [S s, .int .i64 n] L P (fun r L' P' => r = .bool true) := by
 refine Sp.body (fn := Tryz.f7) (N := 83) (by kernel_rfl) (by kernel_rfl) rfl (by kernel_rfl) rfl ?_
 refine .seq (.region ?_)
 refine .pu .as ?_
 refine .nil ?_
 refine .seq (.seq (.region ?_))
 refine .call (known_sp _ _ hT hN) ?_; rintro _ L P ⟨rfl, rfl, rfl⟩
 refine .pu .nt ?_
 refine .pu .mv ?_
 refine .or 13 3 (decide ((s.length : Int) > 5000)) (fun hq => ?_) ?_
 ·refine .on (.pu .mv ?_)
  refine .on (.pu .ls ?_)
  refine .on (.pu (.cmp (q := decide ((s.length : Int) > 5000))) ?_)
  exact .fin rfl
 refine .nil ?_
 refine .ite rfl (fun h17 => ?_) (fun h17 => ?_)
 ·refine .seq (.region ?_)
  refine .call (known_sp _ _ hT hN) ?_; rintro _ L P ⟨rfl, rfl, rfl⟩
  refine .pu .as ?_
  refine .nil ?_
  refine .ret ?_
  exact ⟨_, .tmp rfl .nil, _, _, .refl _ _, rfl⟩
 refine .skip ?_
 refine .seq (.region ?_)
 refine .pu .mv ?_
 have hs : s.length ≤ 5000 := by
  have h17 : decide ((s.length : Int) > 5000) = false := h17
  have := of_decide_eq_false h17
  omega
 obtain ⟨u, hu⟩ : ∃ u : Nat, wrapA .u64 n = (u : Int) := ⟨imod n 18446744073709551616, rfl⟩
 obtain ⟨m, hm⟩ : ∃ m, m = u % 1000 := ⟨_, rfl⟩
 have hm1 : m < 1000 := by omega
 refine .pu (.ciw hu) ?_
 refine .pu (.i_rem (a := u) (b := 1000)) ?_
 rw [← hm]
 refine .pu (.ci (hv := by simp only [Go.Lx.InR]; omega)) ?_
 refine .pu .as ?_
 refine .nil ?_
 refine .seq (.region ?_)
 refine .pu .mv ?_
 refine .pu .mv ?_
 refine .pu (.bd (vs := [_, _, _, _, _, _, _])) ?_
 refine .call (line_sp _ _ (opW_ok hm1 hs) hK) ?_; rintro _ L P ⟨rfl, rfl, rfl⟩
 rw [lineW_line hm1 s, show (some (lineW m s)).getD [] = lineW m s from rfl]
 refine .pu .mv ?_
 refine .pu .ex ?_
 refine .pu .ex ?_
 refine .pu .as ?_
 refine .pu .as ?_
 refine .nil ?_
 refine .seq (.region ?_)
 refine .pu .mv ?_
 have hlw : (lineW m s).length ≤ 4 * 200000002 := lineT_len (opW_ok hm1 hs) vtab5
 refine .call (lparse_sp _ _ (lineW m s) (by omega) hK) ?_; rintro _ L P ⟨rfl, rfl, rfl⟩
 rw [lineW_parse hm1 s]
 refine .pu .mv ?_
 refine .pu .ex ?_
 refine .pu .ex ?_
 refine .nw (cs := [.int .i64 0, S [], S [], .int .i64 0, .int .i64 0, .int .i64 0, S []]) fun b7 => ?_
 refine .st (vs := [_, _, _, _, _, _, _]) ?_
 refine .pu .as ?_
 refine .nil ?_
 refine .seq (.region ?_)
 refine .pu .mv ?_
 refine .pu (.bd (vs := [_, _, _, _, _])) ?_
 refine .call (tell5_sp _ _ 0 s _ _ (by omega)) ?_; rintro _ L P ⟨rfl, rfl, rfl⟩
 have hwz := wordOf_size s
 have hwn := wordOf_len s
 have htl : Lib.join (okB :: [wordOf s]) [32] = [111, 107, 32] ++ wordOf s := by rw [join_cons2, join_one]; rfl
 obtain ⟨tt, htt⟩ : ∃ t : Bs, t = [111, 107, 32] ++ wordOf s := ⟨_, rfl⟩
 have ht3 : tt.length = 3 + (wordOf s).length := by rw [htt, List.length_append]; rfl
 have hdr : (tt.drop 3).take (tt.length - 3) = wordOf s := by rw [htt]; exact tail_of [111, 107, 32] (wordOf s)
 rw [htl, ← htt]
 have hle := lineW_end m s
 obtain ⟨pre, hpre⟩ : ∃ pre, pre = Lib.join [wrN, Lib.itoa (m : Nat), Lib.itoa 0] [32] ++ [32] := ⟨_, rfl⟩
 rw [← hpre] at hle
 have hll : (lineW m s).length = pre.length + (wordOf s).length := by rw [hle, List.length_append]
 refine .pu .as ?_
 refine .nil ?_
 refine .seq (.region ?_)
 refine .pu .mv ?_
 refine .pu .ls ?_
 refine .pu (.mul (hr := by omega)) ?_
 refine .pu (.max (c := ((wordOf s).length : Nat)) (hc := hwz)) ?_
 refine .pu .as ?_
 refine .nil ?_
 refine .seq (.quiet (by kernel_rfl) ?_)
 refine .pu .mv ?_
 refine .pu (.cy (hq := rfl)) ?_
 refine .pu .mv ?_
 refine .on (.pu .mv ?_)
 refine .on (.pu (.cy (hq := rfl)) ?_)
 refine .pu .pk ?_
 refine .pu .mv ?_
 refine .on (.pu .fa ?_)
 refine .on (.ld ?_)
 refine .on (.pu .mv ?_)
 refine .on (.pu (.seq (q := true) (hq := by simp)) ?_)
 refine .pu .pk ?_
 refine .pu .mv ?_
 refine .on (.pu .fa ?_)
 refine .on (.ld ?_)
 refine .on (.pu .mv ?_)
 refine .on (.pu (.cy (hq := rfl)) ?_)
 refine .pu .pk ?_
 refine .pu .mv ?_
 refine .on (.pu .mv ?_)
 refine .on (.pu .ls ?_)
 refine .on (.pu .mv ?_)
 refine .on (.pu (.add (hr := by omega)) ?_)
 refine .on (.pu (.cy (hq := by show ((tt.length : Nat) : Int) = 3 + (((wordOf s).length : Nat) : Int); omega)) ?_)
 refine .pu .pk ?_
 refine .pu .mv ?_
 refine .on (.pu .mv ?_)
 refine .on (.pu .ls ?_)
 refine .on (.pu .mv ?_)
 refine .on (.pu (.cy (hq := by show (((wordOf s).length : Nat) : Int) ≤ _; omega)) ?_)
 refine .pu .pk ?_
 refine .pu .mv ?_
 refine .on (.pu .mv ?_)
 refine .on (.pu .mv ?_)
 refine .on (.pu .ls ?_)
 refine .on (.pu .mv ?_)
 refine .on (.pu (.sub (hr := by omega)) ?_)
 refine .on (.pu (.sls (a := lineW m s) (p := pre.length) (q := (lineW m s).length) ⟨_, _, rfl, by omega, by omega, by omega⟩ rfl rfl rfl (Nat.le_refl _)) ?_)
 rw [show ((lineW m s).drop pre.length).take ((lineW m s).length - pre.length) = wordOf s by rw [hle]; exact tail_of pre (wordOf s)]
 refine .on (.pu .mv ?_)
 refine .on (.pu (.sls (a := tt) (p := 3) (q := tt.length) ⟨_, _, rfl, by omega, by omega, by omega⟩ rfl rfl rfl (Nat.le_refl _)) ?_)
 rw [hdr]
 refine .on (.pu (.seq (q := true) (hq := by simp)) ?_)
 refine .pu .pk ?_
 refine .pu .as ?_
 refine .nil ?_
 refine .ret ?_
 exact ⟨_, .tmp rfl .nil, _, _, .refl _ _, rfl⟩
end Go.Cis
