/- strconv.Atoi: what the machine knows of it. -/
import Derived.Test.YtcgpmbjoobilcaaGreatDoorLxD
import Derived.Test.YtcgpmbjoobilcaaGreatDoorAxF
import Derived.Lib.AtoiAll
import Derived.Lib.AtoiErrMem
import Derived.Test.YtcgpmbjoobilcaaGreatDoorLxC
set_option linter.unusedSimpArgs false
set_option linter.unusedVariables false
namespace Go.Ax
open Go Go.RowKit
noncomputable section
def isIf : Value → Bool
 | .nilIface => true
 | .iface _ _ => true
 | _ => false
def atoiP (gS gR te : Nat) : List Value → AS → Option (Value × AS)
 | [.string b], s => bif Nat.ble b.size small then (match Lib.atoiAll b.data.toList with
  | .ok v => some (.tuple #[.int .i64 v, .nilIface], s)
  | .range => match rd s gR 0 with
   | some e => bif isIf e then some (.tuple #[.int .i64 (Lib.atoiSat b.data.toList), .iface te (.pointer (some ⟨s.nx, 0, none⟩))], s.new .dead) else none
   | none => none
  | _ => match rd s gS 0 with
   | some e => bif isIf e then some (.tuple #[.int .i64 0, .iface te (.pointer (some ⟨s.nx, 0, none⟩))], s.new .dead) else none
   | none => none) else none
 | _, _ => none
structure AtoiC (P : Program) (f gS gR te : Nat) : Prop where
 ok : ∀ (s : ByteArray) (v : Int) (w : World), s.size ≤ 9223372036854775806 → Lib.atoiAll s.data.toList = .ok v → Calls P f #[.string s] w fun e w' => e = .returned (.tuple #[.int .i64 v, .nilIface]) ∧ Below w.heap.size w w'
 syn : ∀ (s : ByteArray) (ev : Value) (w : World), s.size ≤ 281474976710656 → (∀ v, Lib.atoiAll s.data.toList ≠ .ok v) → Lib.atoiAll s.data.toList ≠ .range → w.cell? ⟨gS, 0, none⟩ = some ev → (ev = .nilIface ∨ ∃ te pe, ev = .iface te pe) →
  Calls P f #[.string s] w fun e w' => ∃ N x, e = .returned (.tuple #[.int .i64 0, .iface te (.pointer (some ⟨N, 0, none⟩))]) ∧ w.heap.size ≤ N ∧ w'.heap[N]? = some x ∧ Below w.heap.size w w'
 ran : ∀ (s : ByteArray) (ev : Value) (w : World), s.size ≤ 281474976710656 → Lib.atoiAll s.data.toList = .range → w.cell? ⟨gR, 0, none⟩ = some ev → (ev = .nilIface ∨ ∃ te pe, ev = .iface te pe) →
  Calls P f #[.string s] w fun e w' => ∃ N x, e = .returned (.tuple #[.int .i64 (Lib.atoiSat s.data.toList), .iface te (.pointer (some ⟨N, 0, none⟩))]) ∧ w.heap.size ≤ N ∧ w'.heap[N]? = some x ∧ Below w.heap.size w w'
theorem if_at {i : Io} {s : AS} {w : World} (hR : Rel i s w) (hg : Gl i) {g : Nat} (hlt : g < 1000) {e : Value} (h : rd s g 0 = some e) (he : isIf e = true) : ∃ ev, w.cell? ⟨g, 0, none⟩ = some ev ∧ (ev = .nilIface ∨ ∃ te pe, ev = .iface te pe) := by
 obtain ⟨v', h1, h2⟩ := hR.rd h (hg g hlt)
 refine ⟨v', h1, ?_⟩
 cases h2 with
 | nilIface => exact .inl rfl
 | iface t h => exact .inr ⟨_, _, rfl⟩
 | _ => cases he
theorem FSim.newB {P : Program} {f : FuncId} {fn : Func} (hf : P.funcs[f]? = some fn) (hn : (fn.name == "runtime.NumGoroutine") = false) (hb : fn.body.isNone = false) {args' : List Value} {i : Io} {s : AS} {w : World} {n : Int} {te : Nat}
  (hR : Rel i s w) (hc : Calls P f ⟨args'⟩ w fun e w' => ∃ N x, e = .returned (.tuple #[.int .i64 n, .iface te (.pointer (some ⟨N, 0, none⟩))]) ∧ w.heap.size ≤ N ∧ w'.heap[N]? = some x ∧ Below w.heap.size w w') :
  FSim P f args' i s w (.tuple #[.int .i64 n, .iface te (.pointer (some ⟨s.nx, 0, none⟩))]) (s.new .dead) := by
 have hn' : fn.name ≠ "runtime.NumGoroutine" := by simpa using hn
 have hb' : fn.body ≠ none := fun e => by rw [e] at hb; cases hb
 refine .inr ⟨?_, Calls.mono hc (fun e w' he => ?_)⟩
 ·unfold callFunc
  simp [hf, hn', hb']
 ·obtain ⟨N, x, rfl, h1, h2, h3⟩ := he
  obtain ⟨g1, g2⟩ := hR.newAt (o := .dead) (lm := (0, 0)) h3 h1 h2 trivial
  exact ⟨_, .tuple (.cons (.int _ _) (.cons (.iface _ (.ptr (ext_same _ _ _))) .nil)), g1, g2⟩
theorem atoi_ok {P : Program} {f : FuncId} {fn : Func} {gS gR te : Nat} (hf : P.funcs[f]? = some fn) (hn : (fn.name == "runtime.NumGoroutine") = false) (hb : fn.body.isNone = false) (hS : gS < 1000) (hRr : gR < 1000) (C : AtoiC P f gS gR te) : POk P f (atoiP gS gR te) := by
 intro args s v s' h i w args' hR hg ha
 unfold atoiP at h
 split at h
 ·rename_i b
  cases ha with | cons a1 ha =>
  cases ha
  cases a1
  cases hsz : Nat.ble b.size small with
  | false => rw [hsz] at h; cases h
  | true =>
   rw [hsz, cond_true] at h
   have hle := Nat.le_of_ble_eq_true hsz
   have hsm : small = 1099511627776 := rfl
   split at h
   ·rename_i n hok
    cases h
    exact FSim.below hf hn hb hR (C.ok b n w (by omega) hok) (.tuple (.cons (.int _ _) (.cons .nilIface .nil)))
   ·rename_i hra
    split at h
    ·rename_i e he
     cases hi : isIf e with
     | false => rw [hi] at h; cases h
     | true =>
      rw [hi, cond_true] at h
      cases h
      obtain ⟨ev, h1, h2⟩ := if_at hR hg hRr he hi
      exact FSim.newB hf hn hb hR (C.ran b ev w (by omega) hra h1 h2)
    ·cases h
   ·rename_i hsa hsb
    split at h
    ·rename_i e he
     cases hi : isIf e with
     | false => rw [hi] at h; cases h
     | true =>
      rw [hi, cond_true] at h
      cases h
      obtain ⟨ev, h1, h2⟩ := if_at hR hg hS he hi
      exact FSim.newB hf hn hb hR (C.syn b ev w (by omega) (fun v e => hsa v e) (fun e => hsb e) h1 h2)
    ·cases h
 ·cases h
end
end Go.Ax
/- Stores into rows that are owned; parts of rows; ranges over texts. -/
namespace Go.Lx
open Go Go.Ax
variable {E : Env} {N : Nat} {ops l : List Oper} {al : Al} {L P : List Asn} {Q : Al → List Asn → List Asn → Prop}
theorem elems_set {k o i j : Nat} {t : T Value} {es : List (List Value)} {e e' vs : List Value} (h : Elems k o t es) (he : es[i]? = some e) (hs : SetN e j vs e') : Elems k o (t.fill (o + i * k + j) vs) (es.set i e') := by
 obtain ⟨s1, s2, s3⟩ := hs.spec
 intro i' f hf
 have hi := (List.getElem?_eq_some_iff.1 he).1
 obtain ⟨hk, hg⟩ := h i e he
 rw [List.getElem?_set] at hf
 by_cases hii : i = i'
 ·subst hii
  rw [if_pos rfl, if_pos hi] at hf
  cases hf
  refine ⟨by omega, fun m hm => ?_⟩
  rw [T.get_fill, s3 m]
  by_cases hc : j ≤ m ∧ m < j + vs.length
  ·rw [if_pos hc, if_pos (by omega)]
   congr 1
   omega
  ·rw [if_neg hc, if_neg (by omega)]
   exact hg m hm
 ·rw [if_neg hii] at hf
  obtain ⟨g1, g2⟩ := h i' f hf
  refine ⟨g1, fun m hm => ?_⟩
  rw [T.get_fill, if_neg]
  ·exact g2 m hm
  ·rintro ⟨a1, a2⟩
   rcases Nat.lt_or_gt_of_ne hii with h1 | h1
   ·have : (i + 1) * k ≤ i' * k := Nat.mul_le_mul_right _ h1
    rw [Nat.add_mul] at this
    omega
   ·have : (i' + 1) * k ≤ i * k := Nat.mul_le_mul_right _ h1
    rw [Nat.add_mul] at this
    omega
theorem WO.se {x y : Operand} {u k i j : Nat} {v w : Value} {es : List (List Value)} {e e' : List Value} {ti : TI} {L' : List Asn} {Q : Value → List Asn → List Asn → Prop} (he : es[i]? = some e) (hset : SetN e j w.cells.toList e')
  (hx : evl al x = some (.pointer (some ⟨(bs v).1, (bs v).2 + i * k + j, none⟩))) (hy : evl al y = some w) (hi : E.ty.get u = some ti) (hsz : w.cells.toList.length = ti.size) (ho : ones w.cells.toList = true) (hu : Upd (Ow k v es) (Ow k v (es.set i e')) L L') (h : Q (.tuple #[]) L' P) : WO E (.store u x y) al L P Q := by
 intro S s tm hs ha
 obtain ⟨U, hU, _⟩ := (In.l hu.mem : In _ L P).holds hs
 have hlt := (List.getElem?_eq_some_iff.1 he).1
 rcases hU with ⟨h0, _⟩ | ⟨b, c, m, z, t, rfl, g1, g2, g3, g4, g5, g6⟩
 ·subst h0; simp at hlt
 obtain ⟨hk, _⟩ := g6 i e he
 obtain ⟨s1, s2, _⟩ := hset.spec
 have hle : (bs (.slice (some ⟨b, 0, none⟩) es.length c)).2 + i * k + j + w.cells.toList.length ≤ m := by
  show 0 + i * k + j + w.cells.toList.length ≤ m
  have a1 : (i + 1) * k ≤ es.length * k := Nat.mul_le_mul_right _ hlt
  have a2 := Nat.mul_le_mul_right k g3
  rw [Nat.add_mul] at a1
  omega
 have hel : (es.set i e').length = es.length := List.length_set ..
 obtain ⟨h3, h4⟩ := hs.upd hu (b := b) (fun U h hp => by
   rcases hp with ⟨h0, _⟩ | ⟨b', c', m', z', t', e1, g1', _⟩
   ·subst h0; simp at hlt
   ·cases e1; exact g1') (o := .cells (t.fill (0 + i * k + j) w.cells.toList) m z) (fun h hg => .inr ⟨b, c, m, z, _, by rw [hel], rfl, hg, by rw [hel]; exact g3, g4, g5, elems_set g6 he hset⟩)
 refine ⟨_, _, S, L', P, ⟨0, 0, ?_⟩, h4, h3, h⟩
 show hStore u x y E tm s = _
 unfold hStore
 rw [hi, evl_ev ha hx, evl_ev ha hy]
 simp only
 have e1 : Nat.beq w.cells.toList.length ti.size = true := by rw [hsz]; exact Nat.beq_refl _
 rw [e1]
 simp only [cond_true]
 unfold wrN
 have hb : (bs (.slice (some ⟨b, 0, none⟩) es.length c)).1 = b := rfl
 rw [hb, g2]
 simp only
 have e2 : Nat.ble ((bs (.slice (some ⟨b, 0, none⟩) es.length c)).2 + i * k + j + w.cells.toList.length) m = true := Nat.ble_eq_true_of_le hle
 rw [e2, ho]
 rfl
theorem setN_all : ∀ {e vs : List Value}, e.length = vs.length → SetN e 0 vs vs
 | [], [], _ => .nil
 | _ :: _, _ :: _, h => .here (setN_all (by simpa using h))
theorem WR.se {x y : Operand} {u k i t : Nat} {v w : Value} {es : List (List Value)} {e vs : List Value} {ti : TI} {L' : List Asn} {pos : String} {af : Array Edge} (he : es[i]? = some e) (h : WR E N ops l al L' P Q)
  (hx : evl al x = some (.pointer (some ⟨(bs v).1, (bs v).2 + i * k, none⟩)) := by rfl) (hy : evl al y = some w := by rfl) (hc : w.cells.toList = vs := by rfl) (hi : E.ty.get u = some ti := by rfl) (hl : e.length = vs.length := by rfl) (hsz : vs.length = ti.size := by rfl) (ho : ones vs = true := by rfl)
  (hu : Upd (Ow k v es) (Ow k v (es.set i vs)) L L' := by first | exact .z | exact .s .z | exact .s (.s .z) | exact .s (.s (.s .z)) | exact .s (.s (.s (.s .z))) | exact .s (.s (.s (.s (.s .z))))) : WR E N ops (⟨none, .store u x y, t, pos, af, none⟩ :: l) al L P Q := by
 subst hc
 exact WR.op0 rfl rfl (WO.se (j := 0) he (setN_all hl) hx hy hi hsz ho hu h)
def slc (v : Value) (p q k : Nat) : Value := match v with
 | .slice a n c => .slice (a.map fun a => ⟨a.block, a.off + p * k, none⟩) (q - p) (2 * (c / 2 - p) + c % 2)
 | v => v
theorem elems_part {k o p q : Nat} {t : T Value} {es : List (List Value)} (h : Elems k o t es) : Elems k (o + p * k) t ((es.drop p).take (q - p)) := fun i e he => by
 have he' : es[p + i]? = some e := by
  rw [List.getElem?_take] at he
  split at he
  ·rw [List.getElem?_drop] at he; exact he
  ·cases he
 obtain ⟨h1, h2⟩ := h (p + i) e he'
 refine ⟨h1, fun j hj => ?_⟩
 rw [← h2 j hj, Nat.add_mul]
 congr 1
 omega
theorem Ow.part {k q : Nat} {v : Value} {es : List (List Value)} {S : Nat → Prop} {h : T AObj} (H : (Ow k v es).p S h) (hq : q ≤ es.length) : (Ow k (slc v 0 q k) (es.take q)).p S h := by
 rcases H with ⟨rfl, a, c, rfl, h1, h2⟩ | ⟨b, c, m, z, t, rfl, g1, g2, g3, g4, g5, g6⟩
 ·have : q = 0 := by simpa using hq
  subst this
  refine .inl ⟨rfl, a.map fun a => ⟨a.block, a.off + 0 * k, none⟩, 2 * (c / 2 - 0) + c % 2, rfl, by omega, h2.imp (fun h => by rw [h]; rfl) (fun h => by omega)⟩
 ·refine .inr ⟨b, 2 * (c / 2 - 0) + c % 2, m, z, t, ?_, g1, g2, ?_, ?_, by omega, ?_⟩
  ·show Value.slice (some ⟨b, 0 + 0 * k, none⟩) (q - 0) _ = _
   rw [List.length_take, Nat.min_eq_left hq, Nat.zero_mul, Nat.sub_zero]
  ·rw [List.length_take]; omega
  ·rw [show (2 * (c / 2 - 0) + c % 2) / 2 = c / 2 by omega]; exact g4
  ·have := elems_part (p := 0) (q := q) g6
   rw [Nat.zero_mul, Nat.add_zero, List.drop_zero, Nat.sub_zero] at this
   exact this
theorem Ent.owp {k q : Nat} {v : Value} {es : List (List Value)} (hq : q ≤ es.length) : Ent (Ow k v es :: L) P (Ow k (slc v 0 q k) (es.take q) :: L) P := fun S s hs => by
 obtain ⟨S1, S2, h1, h2, h3, h4, h5⟩ := hs.own
 exact ⟨S, fun _ h => h, ⟨⟨S1, S2, h1, h2, h3, Ow.part h4 hq, h5⟩, hs.per, hs.ex, hs.fresh⟩⟩
def CutP (k : Nat) (v : Value) (n : Nat) (s : AS) : Prop := ∃ a c, v = .slice a n c ∧ n ≤ c / 2 ∧ (n = 0 ∨ c % 2 = 1 ∨ unitOk s a k = true)
theorem unit_of {s : AS} {b o k m z : Nat} {t : T Value} (h : s.h.get b = some (.cells t m z)) (hz : zs z = k) : unitOk s (some ⟨b, o, none⟩) k = true := by
 unfold unitOk
 simp only
 rw [h]
 simp only
 rw [hz]
 exact Nat.beq_refl _
theorem IsSl.cut {k : Nat} {v : Value} {es : List (List Value)} (h : IsSl k v es L P) {S : Nat → Prop} {s : AS} (hs : Sat L P S s) : CutP k v es.length s := by
 have key : ∀ {U : Nat → Prop}, (Sl k v es).p U s.h → CutP k v es.length s := fun {U} H => by
  obtain ⟨a, c, h1, h2, h3⟩ := H
  refine ⟨a, c, h1, h2, ?_⟩
  rcases h3 with h3 | ⟨b, o, m, z, t, rfl, _, g2, g3, _⟩
  ·subst h3; exact .inl rfl
  ·exact .inr (g3.imp id (unit_of g2))
 cases h with
 | s h => obtain ⟨U, h1, _⟩ := h.holds hs; exact key h1
 | o h => obtain ⟨U, h1, _⟩ := h.holds hs; exact key (Ow.sl h1)
 | r h =>
  obtain ⟨U, ⟨a, c, h1, h2, h3⟩, _⟩ := h.holds hs
  refine ⟨a, c, h1, h2, ?_⟩
  rcases h3 with h3 | ⟨b, o, m, t, rfl, _, _, g3, _⟩
  ·subst h3; exact .inl rfl
  ·exact .inr (.inl g3)
theorem WO.sl {x : Operand} {lo hi : Option Operand} {u k p q : Nat} {v : Value} {es : List (List Value)} {e : TypeId} {j : TI} {Q : Value → List Asn → List Asn → Prop} (hm : IsSl k v es L P) (hp : bdl al 0 q lo p) (hq : ∀ c, es.length ≤ c → bdl al es.length c hi q) (hqe : q ≤ es.length) (hpq : p ≤ q) (hx : evl al x = some v) (hu : slT E u = some (e, j)) (hk : j.size = k) (h : Q (slc v p q k) L P) : WO E (.slice u x lo hi none) al L P Q :=
 WO.see (fun call tm S s hs ha => by
  obtain ⟨a, c, rfl, h1, h2⟩ := hm.cut hs
  obtain ⟨i, g1, g2, g3⟩ := slT_spec hu
  show hSlice u x lo hi none E tm s = _
  unfold hSlice
  rw [evl_ev ha hx]
  simp only
  have hb : bnds tm es.length (c / 2) lo hi none = some (p, q, c / 2) := by
   unfold bnds
   simp only [Option.isSome_none, Bool.false_and, cond_false]
   rw [show bnd tm (c / 2) (c / 2) none = some (c / 2) from rfl]
   simp only
   rw [bdl_bnd (hq _ h1) ha]
   simp only
   rw [Nat.ble_eq_true_of_le (by omega : q ≤ c / 2)]
   simp only [cond_true]
   rw [bdl_bnd hp ha]
  have : sliceA E s tm u (.slice a es.length c) lo hi none = some (slc (.slice a es.length c) p q k) := by
   unfold sliceA
   rw [g1]
   simp only
   rw [g2]
   simp only
   rw [g3]
   simp only
   rw [hb]
   simp only
   have hor : (Option.isSome (Option.none : Option Operand) || Nat.beq (c % 2) 1 || Nat.beq p 0 || unitOk s a j.size) = true := by
    rcases h2 with h2 | h2 | h2
    ·have : p = 0 := by omega
     subst this
     simp
    ·rw [h2]; simp
    ·rw [hk, h2]; simp
   rw [hor]
   simp only [cond_true]
   rw [hk]
   rfl
  rw [this]) h
theorem WR.sl {x : Operand} {lo hi : Option Operand} {u k p q d t : Nat} {v : Value} {es : List (List Value)} {e : TypeId} {j : TI} {pos : String} {af : Array Edge} (hm : IsSl k v es L P) (hp : bdl al 0 q lo p) (hq : ∀ c, es.length ≤ c → bdl al es.length c hi q) (h : WR E N ops l ((d, slc v p q k) :: al) L P Q) (hqe : q ≤ es.length := by omega) (hpq : p ≤ q := by omega) (hx : evl al x = some v := by rfl) (hu : slT E u = some (e, j) := by rfl) (hk : j.size = k := by rfl) (hN : Nat.ble d N = true := by rfl) : WR E N ops (⟨some d, .slice u x lo hi none, t, pos, af, none⟩ :: l) al L P Q :=
 WR.op rfl rfl hN (WO.sl hm hp hq hqe hpq hx hu hk h)
def It (r : Nat) (b : Bs) (p : Nat) : Asn where
 p := fun S h => S r ∧ h.get r = some (.iter ⟨⟨b⟩⟩ p)
 loc := fun S h h' e ⟨h1, h2⟩ => ⟨h1, by rw [e r h1]; exact h2⟩
theorem WR.rg {x : Operand} {u d t : Nat} {b : Bs} {pos : String} {af : Array Edge} (h : ∀ r, WR E N ops l ((d, .pointer (some ⟨r, 0, none⟩)) :: al) (It r b 0 :: L) P Q) (hx : evl al x = some (S b) := by rfl) (hu : isS E u = true := by rfl) (hN : Nat.ble d N = true := by rfl) : WR E N ops (⟨some d, .range u x, t, pos, af, none⟩ :: l) al L P Q :=
 WR.op rfl rfl hN (fun S s tm hs ha => by
  obtain ⟨i, g1, g2⟩ := isS_spec hu
  obtain ⟨h1, h2⟩ := hs.new (A := It s.nx b 0) (o := .iter ⟨⟨b⟩⟩ 0) (fun h hg => ⟨rfl, hg⟩)
  refine ⟨_, _, _, _, P, ⟨0, 0, ?_⟩, h2, h1, h s.nx⟩
  show hRange u x E tm s = _
  unfold hRange
  rw [g1, evl_ev ha hx]
  simp only
  rw [g2])
noncomputable def rune (b : Bs) (p : Nat) : Nat × Nat := Utf8.decode ⟨⟨b⟩⟩ p
theorem WR.nx {x : Operand} {d t r p : Nat} {b : Bs} {pos : String} {af : Array Edge} (hp : p < b.length) (h : WR E N ops l ((d, .tuple #[.bool true, .int .i64 p, .int .i32 ((rune b p).1 : Nat)]) :: al) (It r b (p + (rune b p).2) :: L) P Q) (hx : evl al x = some (.pointer (some ⟨r, 0, none⟩)) := by rfl) (hN : Nat.ble d N = true := by rfl) : WR E N ops (⟨some d, .next x true, t, pos, af, none⟩ :: l) al (It r b p :: L) P Q :=
 WR.op rfl rfl hN (fun S s tm hs ha => by
  obtain ⟨U, ⟨_, hg⟩, _⟩ := (In.l0 : In (It r b p) (It r b p :: L) P).holds hs
  obtain ⟨h3, h4⟩ := hs.upd (A := It r b p) (B := It r b (p + (rune b p).2)) .z (b := r) (fun U h hp => hp.1) (o := .iter ⟨⟨b⟩⟩ (p + (rune b p).2)) (fun h hg => ⟨rfl, hg⟩)
  refine ⟨_, _, S, _, P, ⟨0, 0, ?_⟩, h4, h3, h⟩
  show hNext x true E tm s = _
  unfold hNext
  rw [evl_ev ha hx]
  simp only
  rw [hg]
  simp only
  have hsz : (⟨⟨b⟩⟩ : ByteArray).size = b.length := rfl
  rw [hsz, if_pos hp]
  rfl)
theorem WR.nxE {x : Operand} {d t r p : Nat} {b : Bs} {pos : String} {af : Array Edge} (hp : b.length ≤ p) (h : WR E N ops l ((d, .tuple #[.bool false]) :: al) (It r b p :: L) P Q) (hx : evl al x = some (.pointer (some ⟨r, 0, none⟩)) := by rfl) (hN : Nat.ble d N = true := by rfl) : WR E N ops (⟨some d, .next x true, t, pos, af, none⟩ :: l) al (It r b p :: L) P Q :=
 WR.op rfl rfl hN (WO.see (fun call tm S s hs ha => by
  obtain ⟨U, ⟨_, hg⟩, _⟩ := (In.l0 : In (It r b p) (It r b p :: L) P).holds hs
  show hNext x true E tm s = _
  unfold hNext
  rw [evl_ev ha hx]
  simp only
  rw [hg]
  simp only
  have hsz : (⟨⟨b⟩⟩ : ByteArray).size = b.length := rfl
  rw [hsz, if_neg (by omega)]) h)
end Go.Lx
/- Conditions of more than one part: what stands behind 'and' and 'or' is done or not; both come to one. -/
namespace Go.Lx
open Go Go.Ax
variable {E : Env} {N : Nat} {ops l : List Oper} {al : Al} {L P : List Asn} {Q : Al → List Asn → List Asn → Prop}
theorem runL_app {call : CallF} : ∀ {l1 l2 : List Oper} {tm tm1 : Tm} {s s1 : AS} {r : Option (Tm × AS)}, runL E call N ops l1 tm s = some (tm1, s1) → runL E call N ops l2 tm1 s1 = r → runL E call N ops (l1 ++ l2) tm s = r
 | [], l2, tm, tm1, s, s1, r, h, h2 => by
  have h : some (tm, s) = some (tm1, s1) := h
  cases h
  exact h2
 | o :: l1, l2, tm, tm1, s, s1, r, h, h2 => by
  show runL E call N ops (o :: (l1 ++ l2)) tm s = r
  rw [runL_cons] at h ⊢
  cases hw : wantedA ops tm o with
  | none => rw [hw] at h; cases h
  | some b =>
   rw [hw] at h
   cases b with
   | false =>
    simp only at h ⊢
    cases hp : putA N tm o.dst undef with
    | none => rw [hp] at h; cases h
    | some tm' => rw [hp] at h; exact runL_app h h2
   | true =>
    simp only at h ⊢
    cases hx : execA o.op E call tm s with
    | none => rw [hx] at h; cases h
    | some p =>
     obtain ⟨v, s'⟩ := p
     rw [hx] at h
     simp only at h ⊢
     cases hp : putA N tm o.dst v with
     | none => rw [hp] at h; cases h
     | some tm' => rw [hp] at h; exact runL_app h h2
theorem WR.app {l1 l2 : List Oper} (h : WR E N ops l1 al L P (fun al' L' P' => WR E N ops l2 al' L' P' Q)) : WR E N ops (l1 ++ l2) al L P Q := by
 intro S s tm hs ha
 obtain ⟨tm1, s1, S1, al1, L1, P1, ⟨F, D, e⟩, ht, ha1, hs1, hq⟩ := h S s tm hs ha
 obtain ⟨tm2, s2, S2, al2, L2, P2, ⟨G, H, e2⟩, ht2, hr⟩ := hq S1 s1 tm1 hs1 ha1
 refine ⟨tm2, s2, S2, al2, L2, P2, ⟨max F G, max D H, ?_⟩, ht.trans ht2, hr⟩
 exact runL_app (runL_mono (callA_mono D (max D H) F (max F G) (by omega) (by omega)) _ e) (runL_mono (callA_mono H (max D H) G (max F G) (by omega) (by omega)) _ e2)
def offB (ops : List Oper) (N : Nat) : Al → List Oper → Option Al
 | al, [] => some al
 | al, o :: l => match o.guard, o.dst with
  | some (j, w), some d => match gd ops al j with
   | some (.bool b) => bif b == w then none else bif Nat.ble d N then offB ops N ((d, undef) :: al) l else none
   | some v => bif Nat.ble d N then offB ops N ((d, undef) :: al) l else none
   | none => none
  | _, _ => none
def wantV (v : Value) (w : Bool) : Option Bool := match v with
 | .bool b => some (b == w)
 | _ => some false
theorem gd_wanted {o : Oper} {j : Nat} {w : Bool} {v : Value} (hg : o.guard = some (j, w)) (h : gd ops al j = some v) {tm : Tm} (ha : Has al tm) : wantedA ops tm o = wantV v w := by
 unfold gd at h
 unfold wantedA
 rw [hg]
 simp only
 cases ho : ops[j]? with
 | none => rw [ho] at h; cases h
 | some o' =>
  rw [ho] at h
  simp only at h ⊢
  cases hd : o'.dst with
  | none => rw [hd] at h; cases h
  | some d =>
   rw [hd] at h
   simp only at h ⊢
   rw [ha d v h]
   cases v <;> rfl
theorem WR.skip1 {o : Oper} {d j : Nat} {w : Bool} {v : Value} (hg : o.guard = some (j, w)) (hd : o.dst = some d) (h : gd ops al j = some v) (hv : wantV v w = some false) (hN : Nat.ble d N = true) (hk : WR E N ops l ((d, undef) :: al) L P Q) : WR E N ops (o :: l) al L P Q := by
 intro S s tm hs ha
 obtain ⟨tm2, s2, S2, al2, L2, P2, ⟨G, H, e2⟩, hr⟩ := hk S s (tm.set d undef) hs (ha.set d undef)
 refine ⟨tm2, s2, S2, al2, L2, P2, ⟨G, H, ?_⟩, hr⟩
 rw [runL_cons, gd_wanted hg h ha, hv]
 simp only
 have hp : putA N tm o.dst undef = some (tm.set d undef) := by unfold putA; rw [hd]; simp only [hN, cond_true]
 rw [hp]
 exact e2
theorem WR.skips : ∀ {l : List Oper} {al al' : Al}, offB ops N al l = some al' → Q al' L P → WR E N ops l al L P Q
 | [], al, al', h, hq => by
  have h : some al = some al' := h
  cases h
  exact .nil hq
 | o :: l, al, al', h, hq => by
  unfold offB at h
  cases hg : o.guard with
  | none => rw [hg] at h; cases h
  | some p =>
   obtain ⟨j, w⟩ := p
   cases hd : o.dst with
   | none => rw [hg, hd] at h; cases h
   | some d =>
    rw [hg, hd] at h
    simp only at h
    cases hv : gd ops al j with
    | none => rw [hv] at h; cases h
    | some v =>
     rw [hv] at h
     have key : wantV v w = some false ∧ Nat.ble d N = true ∧ offB ops N ((d, undef) :: al) l = some al' := by
      have two : ∀ (X : Option Al), (bif Nat.ble d N then X else none) = some al' → Nat.ble d N = true ∧ X = some al' := fun X hX => by
       cases hN : Nat.ble d N with
       | true => rw [hN] at hX; exact ⟨rfl, hX⟩
       | false => rw [hN] at hX; cases hX
      cases v with
      | bool b =>
       simp only at h
       cases hb : (b == w) with
       | true => rw [hb] at h; cases h
       | false =>
        rw [hb] at h
        exact ⟨by unfold wantV; simp only [hb], two _ h⟩
      | _ => exact ⟨rfl, two _ h⟩
     exact WR.skip1 hg hd hv key.1 key.2.1 (WR.skips key.2.2 hq)
def SubK (i : Nat) : List Nat → Al → Al → Prop
 | [], _, _ => True
 | k :: ks, l, al => (Nat.beq k i = true ∨ lk al k = lk l k) ∧ SubK i ks l al
def SubX (i : Nat) (l al : Al) : Prop := SubK i (l.map (·.1)) l al
theorem lk_mem : ∀ {l : Al} {k : Nat} {u : Value}, lk l k = some u → k ∈ l.map (·.1)
 | [], k, u, h => by cases h
 | (j, v) :: l, k, u, h => by
  have h : (bif Nat.beq j k then some v else lk l k) = some u := h
  cases hb : Nat.beq j k with
  | true =>
   obtain rfl := Nat.eq_of_beq_eq_true hb
   exact List.mem_cons_self ..
  | false =>
   rw [hb] at h
   exact List.mem_cons_of_mem _ (lk_mem h)
theorem SubK.at {i k : Nat} {l al : Al} : ∀ {ks : List Nat}, SubK i ks l al → k ∈ ks → Nat.beq k i = true ∨ lk al k = lk l k
 | j :: ks, ⟨h1, h2⟩, h => by
  rcases List.mem_cons.1 h with rfl | h
  ·exact h1
  ·exact SubK.at h2 h
theorem SubX.lk {i : Nat} {l al : Al} {k : Nat} {u : Value} (h : SubX i l al) (hk : Nat.beq k i = false) (e : Go.Lx.lk l k = some u) : Go.Lx.lk al k = some u := by
 rcases SubK.at h (lk_mem e) with h1 | h1
 ·rw [h1] at hk; cases hk
 ·rw [h1]; exact e
theorem SubX.has {i : Nat} {v : Value} {tm : Tm} (hi : tm.get i = some v) {l al : Al} (h : SubX i l al) (hv : ∀ u, Go.Lx.lk l i = some u → u = v) (ha : Has al tm) : ∀ k u, Go.Lx.lk l k = some u → tm.get k = some u := fun k u e => by
 cases hb : Nat.beq k i with
 | true =>
  obtain rfl := Nat.eq_of_beq_eq_true hb
  rw [hi, hv u e]
 | false => exact ha _ _ (h.lk hb e)
def gX (ops : List Oper) (i : Nat) (al : Al) : Option (Nat × Bool) → Bool
 | none => true
 | some (j, w) => match ops[j]? with
  | some o => match o.dst with
   | some d => bif Nat.beq d i then false else match Go.Lx.lk al d with
    | some (.bool b) => b == w
    | _ => false
   | none => false
  | none => false
theorem gX_ok {i : Nat} {al al' : Al} {g : Option (Nat × Bool)} (h : gX ops i al g = true) (hs : SubX i al al') : gOk ops al' g = true := by
 cases g with
 | none => rfl
 | some p =>
  obtain ⟨j, w⟩ := p
  unfold gX at h
  unfold gOk gd
  simp only at h ⊢
  cases ho : ops[j]? with
  | none => rw [ho] at h; cases h
  | some o =>
   rw [ho] at h
   simp only at h ⊢
   cases hd : o.dst with
   | none => rw [hd] at h; cases h
   | some d =>
    rw [hd] at h
    simp only at h ⊢
    cases hb : Nat.beq d i with
    | true => rw [hb] at h; cases h
    | false =>
     rw [hb] at h
     simp only [cond_false] at h
     cases hv : Go.Lx.lk al d with
     | none => rw [hv] at h; cases h
     | some v =>
      rw [hv] at h
      rw [hs.lk hb hv]
      cases v with
      | bool b => exact h
      | _ => cases h
theorem WR.imp {Q' : Al → List Asn → List Asn → Prop} (h : WR E N ops l al L P Q) (hq : ∀ al L P, Q al L P → Q' al L P) : WR E N ops l al L P Q' := fun S s tm hs ha => by
 obtain ⟨tm1, s1, S1, al1, L1, P1, e, ht, h1, h2, h3⟩ := h S s tm hs ha
 exact ⟨tm1, s1, S1, al1, L1, P1, e, ht, h1, h2, hq _ _ _ h3⟩
theorem WR.sc (n : Nat) {i d t : Nat} {pos : String} {af : Array Edge} {x y : Operand} {g : Option (Nat × Bool)} {w q r : Bool} {l2 : List Oper}
  (hon : q = w → WR E N ops (l.take n) ((i, .bool w) :: al) L P (fun al' L' P' => SubX i al al' ∧ Go.Lx.lk al' i = some (.bool w) ∧ evl al' (bif w then x else y) = some (.bool r) ∧ L' = L ∧ P' = P))
  (hoff : q = (!w) → ∃ al', offB ops N ((i, .bool (!w)) :: al) (l.take n) = some al' ∧ SubX i al al' ∧ Go.Lx.lk al' i = some (.bool (!w)) ∧ evl al' (bif !w then x else y) = some (.bool r))
  (h : WR E N ops l2 ((d, .bool r) :: al) L P Q) (hl : l.drop n = ⟨some d, .pick (.tmp i) x y, t, pos, af, g⟩ :: l2 := by rfl) (hi : Go.Lx.lk al i = some (.bool q) := by rfl) (hg : gX ops i al g = true := by rfl) (hN : Nat.ble d N = true := by rfl) : WR E N ops l al L P Q := by
 rw [← List.take_append_drop n l, hl]
 refine WR.app ?_
 have mid : WR E N ops (l.take n) al L P (fun al' L' P' => ∃ b, q = b ∧ SubX i al al' ∧ Go.Lx.lk al' i = some (.bool b) ∧ evl al' (bif b then x else y) = some (.bool r) ∧ L' = L ∧ P' = P) := by
  by_cases hq : q = w
  ·intro S s tm hs ha
   have ha' : Has ((i, .bool w) :: al) tm := by
    intro k v e
    have e : (bif Nat.beq i k then some (Value.bool w) else Go.Lx.lk al k) = some v := e
    cases hb : Nat.beq i k with
    | true =>
     rw [hb] at e
     cases e
     obtain rfl := Nat.eq_of_beq_eq_true hb
     rw [← hq]
     exact ha _ _ hi
    | false => rw [hb] at e; exact ha _ _ e
   obtain ⟨tm1, s1, S1, al1, L1, P1, e, ht, ha1, hs1, k1, k2, k3, k4, k5⟩ := hon hq S s tm hs ha'
   exact ⟨tm1, s1, S1, al1, L1, P1, e, ht, ha1, hs1, w, hq, k1, k2, k3, k4, k5⟩
  ·have hq' : q = (!w) := by cases q <;> cases w <;> first | rfl | exact absurd rfl hq
   obtain ⟨al', k1, k2, k3, k4⟩ := hoff hq'
   intro S s tm hs ha
   have ha' : Has ((i, .bool (!w)) :: al) tm := by
    intro k v e
    have e : (bif Nat.beq i k then some (Value.bool (!w)) else Go.Lx.lk al k) = some v := e
    cases hb : Nat.beq i k with
    | true =>
     rw [hb] at e
     cases e
     obtain rfl := Nat.eq_of_beq_eq_true hb
     rw [← hq']
     exact ha _ _ hi
    | false => rw [hb] at e; exact ha _ _ e
   obtain ⟨tm1, s1, S1, al1, L1, P1, e, ht, ha1, hs1, k⟩ := (WR.skips (E := E) (L := L) (P := P) (Q := fun a L' P' => a = al' ∧ L' = L ∧ P' = P) k1 ⟨rfl, rfl, rfl⟩) S s tm hs ha'
   obtain ⟨rfl, rfl, rfl⟩ := k
   exact ⟨tm1, s1, S1, _, _, _, e, ht, ha1, hs1, !w, hq', k2, k3, k4, rfl, rfl⟩
 refine WR.imp mid (fun al1 L1 P1 ⟨b, hb, k1, k2, k3, e1, e2⟩ => ?_)
 subst hb e1 e2
 intro S s tm hs ha1
 have hkeep : Has al tm := SubX.has (v := .bool q) (ha1 _ _ k2) k1 (fun u hu => by rw [hi] at hu; cases hu; rfl) ha1
 have hpick : ∀ call, execA (.pick (.tmp i) x y) E call tm s = some (.bool r, s) := fun call => by
  show hPick (.tmp i) x y E tm s = _
  have h1 : ev tm (.tmp i) = some (.bool q) := ha1 _ _ k2
  have h2 := evl_ev ha1 k3
  unfold hPick
  rw [h1]
  simp only
  rw [h2]
 obtain ⟨tm2, s2, S2, al2, L2, P2, ⟨G, H, e2⟩, hr⟩ := h S s (tm.set d (.bool r)) hs (hkeep.set d _)
 refine ⟨tm2, s2, S2, al2, L2, P2, ⟨G, H, ?_⟩, hr⟩
 have hgd : gOk ops al1 g = true := gX_ok hg k1
 have hw : wantedA ops tm ⟨some d, .pick (.tmp i) x y, t, pos, af, g⟩ = some true := gOk_w (o := ⟨some d, .pick (.tmp i) x y, t, pos, af, g⟩) hgd tm ha1
 rw [runL_cons, hw]
 simp only
 rw [hpick]
 simp only
 have hp : putA N tm (some d) (.bool r) = some (tm.set d (.bool r)) := by unfold putA; simp only [hN, cond_true]
 rw [hp]
 exact e2
theorem WR.fin {i : Nat} {al al' : Al} {x : Operand} {w r : Bool} (he : evl al' x = some (.bool r)) (hx : SubX i al al' := by (repeat (first | exact True.intro | refine And.intro (Or.inr rfl) ?_ | refine And.intro (Or.inl rfl) ?_))) (h1 : Go.Lx.lk al' i = some (.bool w) := by rfl) : WR E N ops [] al' L P (fun al' L' P' => SubX i al al' ∧ Go.Lx.lk al' i = some (.bool w) ∧ evl al' x = some (.bool r) ∧ L' = L ∧ P' = P) := .nil ⟨hx, h1, he, rfl, rfl⟩
theorem WR.and (i n : Nat) {d t : Nat} {pos : String} {af : Array Edge} {x : Operand} {g : Option (Nat × Bool)} {q : Bool} (r : Bool) {l2 : List Oper} {al0 : Al}
  (hon : q = true → WR E N ops (l.take n) ((i, .bool true) :: al) L P (fun al' L' P' => SubX i al al' ∧ Go.Lx.lk al' i = some (.bool true) ∧ evl al' x = some (.bool r) ∧ L' = L ∧ P' = P))
  (h : WR E N ops l2 ((d, .bool (q && r)) :: al) L P Q) (k1 : offB ops N ((i, .bool false) :: al) (l.take n) = some al0 := by rfl) (k2 : SubX i al al0 := by (repeat (first | exact True.intro | refine And.intro (Or.inr rfl) ?_ | refine And.intro (Or.inl rfl) ?_))) (k3 : Go.Lx.lk al0 i = some (.bool false) := by rfl)
  (hl : l.drop n = ⟨some d, .pick (.tmp i) x (.const (.bool false)), t, pos, af, g⟩ :: l2 := by rfl) (hi : Go.Lx.lk al i = some (.bool q) := by rfl) (hg : gX ops i al g = true := by rfl) (hN : Nat.ble d N = true := by rfl) : WR E N ops l al L P Q :=
 WR.sc n (w := true) (r := (q && r)) (fun hq => by
   subst hq
   exact hon rfl) (fun hq => by
   subst hq
   exact ⟨al0, k1, k2, k3, rfl⟩) h hl hi hg hN
theorem WR.or (i n : Nat) {d t : Nat} {pos : String} {af : Array Edge} {y : Operand} {g : Option (Nat × Bool)} {q : Bool} (r : Bool) {l2 : List Oper} {al0 : Al}
  (hon : q = false → WR E N ops (l.take n) ((i, .bool false) :: al) L P (fun al' L' P' => SubX i al al' ∧ Go.Lx.lk al' i = some (.bool false) ∧ evl al' y = some (.bool r) ∧ L' = L ∧ P' = P))
  (h : WR E N ops l2 ((d, .bool (q || r)) :: al) L P Q) (k1 : offB ops N ((i, .bool true) :: al) (l.take n) = some al0 := by rfl) (k2 : SubX i al al0 := by (repeat (first | exact True.intro | refine And.intro (Or.inr rfl) ?_ | refine And.intro (Or.inl rfl) ?_))) (k3 : Go.Lx.lk al0 i = some (.bool true) := by rfl)
  (hl : l.drop n = ⟨some d, .pick (.tmp i) (.const (.bool true)) y, t, pos, af, g⟩ :: l2 := by rfl) (hi : Go.Lx.lk al i = some (.bool q) := by rfl) (hg : gX ops i al g = true := by rfl) (hN : Nat.ble d N = true := by rfl) : WR E N ops l al L P Q :=
 WR.sc n (w := false) (r := (q || r)) (fun hq => by
   subst hq
   exact hon rfl) (fun hq => by
   subst hq
   exact ⟨al0, k1, k2, k3, rfl⟩) h hl hi hg hN
end Go.Lx
/- Comparisons of truth values, of errors with nil, of structs of plain values. -/
namespace Go.Lx
open Go Go.Ax
variable {E : Env} {N : Nat} {al : Al} {L P : List Asn}
noncomputable def isBoolD (E : Env) (u : TypeId) : Bool := match E.ty.get u with
 | some i => match i.desc with
  | .bool => true
  | _ => false
 | none => false
theorem isBoolD_spec {u : TypeId} (h : isBoolD E u = true) : ∃ i, E.ty.get u = some i ∧ i.desc = .bool := by
 unfold isBoolD at h
 cases hi : E.ty.get u with
 | none => rw [hi] at h; cases h
 | some i =>
  rw [hi] at h
  simp only at h
  cases hd : i.desc with
  | bool => exact ⟨i, rfl, hd⟩
  | _ => rw [hd] at h; cases h
theorem eqA_bool {u : TypeId} (h : isBoolD E u = true) (s : AS) (a b : Bool) : eqA E s u (.bool a) (.bool b) = some (a == b) := by
 obtain ⟨i, h1, h2⟩ := isBoolD_spec h
 unfold eqA
 rw [h1]
 simp only
 rw [h2]
 rfl
theorem Pu.bin_bool_eql {x y : Operand} {u r : Nat} {a b : Bool} (hx : evl al x = some (.bool a) := by rfl) (hy : evl al y = some (.bool b) := by rfl) (hu : isBoolD E u = true := by rfl) : Pu E al (.binOp .eql u x y r) (.bool (a == b)) :=
 ⟨fun _ _ _ => rfl, fun tm s ha => by
  show hBin .eql u x y E tm s = _
  unfold hBin
  rw [evl_ev ha hx, evl_ev ha hy]
  simp only
  have : binA E s .eql u x y (.bool a) (.bool b) = some (.bool (a == b)) := by
   show eqBin E s .eql u x y (.bool a) (.bool b) false = _
   unfold eqBin
   rw [eqA_bool hu]
   simp only
   cases a <;> cases b <;> rfl
  rw [this]⟩
noncomputable def isIfD (E : Env) (u : TypeId) : Bool := match E.ty.get u with
 | some i => match i.desc with
  | .interface _ => true
  | _ => false
 | none => false
theorem isIfD_spec {u : TypeId} (h : isIfD E u = true) : ∃ d z s b n, E.ty.get u = some ⟨.interface d, z, s, b⟩ ∧ n = 0 := by
 unfold isIfD at h
 cases hi : E.ty.get u with
 | none => rw [hi] at h; cases h
 | some i =>
  rw [hi] at h
  simp only at h
  obtain ⟨d, z, s, b⟩ := i
  cases d with
  | interface d => exact ⟨d, z, s, b, 0, rfl, rfl⟩
  | _ => cases h
def ifB : Value → Option Bool
 | .nilIface => some true
 | .iface _ _ => some false
 | _ => none
theorem hBin_if {op : BinOp} {u : TypeId} {x : Operand} {v : Value} {b : Bool} (hx : evl al x = some v) (hb : ifB v = some b) (hu : isIfD E u = true) (tm : Tm) (s : AS) (ha : Has al tm) {q : Bool} (hop : (op = .eql ∧ q = b) ∨ (op = .neq ∧ q = !b)) : hBin op u x (.const .nilIface) E tm s = some (.bool q, s) := by
 obtain ⟨d, z, sz, by', _, hi, _⟩ := isIfD_spec hu
 have h2 : ev tm (.const .nilIface) = some .nilIface := rfl
 unfold hBin
 rw [evl_ev ha hx, h2]
 simp only
 have : binA E s op u x (.const .nilIface) v .nilIface = some (.bool q) := by
  cases v with
  | nilIface =>
   cases hb
   show binOther E s op u x (.const .nilIface) .nilIface .nilIface = _
   unfold binOther
   simp only [isNilI, Bool.and_self, cond_true, isConstO, Bool.or_true]
   rw [hi]
   rcases hop with ⟨rfl, rfl⟩ | ⟨rfl, rfl⟩ <;> rfl
  | iface t w =>
   cases hb
   show binOther E s op u x (.const .nilIface) (.iface t w) .nilIface = _
   unfold binOther
   simp only [isNilI, Bool.false_and, cond_false]
   have he : eqA E s u (.iface t w) .nilIface = some false := by
    unfold eqA
    rw [hi]
    rfl
   rcases hop with ⟨rfl, rfl⟩ | ⟨rfl, rfl⟩ <;> simp only <;> unfold eqBin <;> rw [he] <;> rfl
  | _ => cases hb
 rw [this]
theorem Pu.ieq {x : Operand} {u r : Nat} {v : Value} {b : Bool} (hb : ifB v = some b) (hx : evl al x = some v := by rfl) (hu : isIfD E u = true := by rfl) : Pu E al (.binOp .eql u x (.const .nilIface) r) (.bool b) :=
 ⟨fun _ _ _ => rfl, fun tm s ha => hBin_if hx hb hu tm s ha (.inl ⟨rfl, rfl⟩)⟩
theorem Pu.min {x y : Operand} {ts : Array TypeId} {a b c : Int} (hx : evl al x = some (.int .i64 a) := by rfl) (hy : evl al y = some (.int .i64 b) := by rfl) (hc : c = if b < a then b else a := by omega) : Pu E al (.call ⟨.builtin .min, #[x, y], ts⟩) (.int .i64 c) :=
 ⟨fun _ _ _ => rfl, fun tm s ha => by
  subst hc
  refine hCall_bi (vs := [.int .i64 a, .int .i64 b]) ha (by show (match evl al x with | none => none | some v => match (match evl al y with | none => none | some v => some [v]) with | none => none | some vs => some (v :: vs)) = _; rw [hx, hy]) ?_
  unfold builtinA
  rfl⟩
theorem Pu.max {x y : Operand} {ts : Array TypeId} {a b c : Int} (hx : evl al x = some (.int .i64 a) := by rfl) (hy : evl al y = some (.int .i64 b) := by rfl) (hc : c = if b > a then b else a := by omega) : Pu E al (.call ⟨.builtin .max, #[x, y], ts⟩) (.int .i64 c) :=
 ⟨fun _ _ _ => rfl, fun tm s ha => by
  subst hc
  refine hCall_bi (vs := [.int .i64 a, .int .i64 b]) ha (by show (match evl al x with | none => none | some v => match (match evl al y with | none => none | some v => some [v]) with | none => none | some vs => some (v :: vs)) = _; rw [hx, hy]) ?_
  unfold builtinA
  rfl⟩
end Go.Lx
/- Entailments inside regions; membership. -/
namespace Go.Lx
open Go Go.Ax
variable {E : Env} {N : Nat} {ops l : List Oper} {al : Al} {L P : List Asn} {Q : Al → List Asn → List Asn → Prop}
theorem WR.ent {L' P' : List Asn} (h : Ent L P L' P') (hk : WR E N ops l al L' P' Q) : WR E N ops l al L P Q := by
 intro S s tm hs ha
 obtain ⟨S', h1, h2⟩ := h S s hs
 obtain ⟨tm1, s1, S1, al1, L1, P1, e, ht, hr⟩ := hk S' s tm h2 ha
 exact ⟨tm1, s1, S1, al1, L1, P1, e, (tr_sub h1).trans ht, hr⟩
theorem Ent.pt {b z : Nat} {cs : List Value} : Ent (Pt b cs z :: L) P L (Pt b cs z :: P) := Ent.last (fun _ _ h => h)
theorem Ent.less {P2 : List Asn} (h : ∀ a ∈ P, a ∈ P2) : Ent L P2 L P := fun S s hs => ⟨S, fun _ e => e, ⟨hs.own, fun B hb => hs.per B (h _ hb), hs.ex, hs.fresh⟩⟩
theorem lenk {k : Nat} : ∀ {es : List (List Value)}, es.all (fun e => Nat.beq e.length k) = true → ∀ e ∈ es, e.length = k
 | [], _, _, h => by cases h
 | x :: es, h, e, he => by
  rw [List.all_cons, Bool.and_eq_true] at h
  cases he with
  | head => exact Nat.eq_of_beq_eq_true h.1
  | tail _ h' => exact lenk h.2 e h'
theorem SetN.uniq {cs vs c1 c2 : List Value} {o : Nat} (h1 : SetN cs o vs c1) (h2 : SetN cs o vs c2) : c1 = c2 :=
 List.ext_getElem? fun k => by rw [h1.spec.2.2 k, h2.spec.2.2 k]
end Go.Lx
/- Structs of plain values compared. -/
namespace Go.Lx
open Go Go.Ax
theorem pr_bind (P : Program) {α β : Type} (m : Sem α) (f : α → Sem β) : pureRun P (m >>= f) = (pureRun P m).bind fun a => pureRun P (f a) := by
 show pureRun P (Sem.bind m f) = _
 induction m with
 | pure a => rfl
 | program k ih => exact ih P
 | mark m k ih => exact ih
 | _ => rfl
theorem pr_und {P : Program} {t : TypeId} {d : TypeDesc} (h : P.underlying t = some d) : pureRun P (underlying t) = some d := by
 show pureRun P (match P.underlying t with
  | some d => pure d
  | none => stuck "no such type") = _
 rw [h]
 rfl
theorem pr_int {P : Program} {t n : Nat} {k : IntKind} (h : P.underlying t = some (.int k)) (K : IntKind) (a b : Int) : pureRun P (Op.equalIn (n + 1) t (.int K a) (.int K b)) = some (a == b) := by
 unfold Op.equalIn
 rw [pr_bind, pr_und h]
 show pureRun P (if K = K then pure (a == b) else _) = _
 rw [if_pos rfl]
 rfl
theorem pr_str {P : Program} {t n : Nat} (h : P.underlying t = some .string) (a b : ByteArray) : pureRun P (Op.equalIn (n + 1) t (.string a) (.string b)) = some (a == b) := by
 unfold Op.equalIn
 rw [pr_bind, pr_und h]
 rfl
theorem pr_part {P : Program} {t off : Nat} {d : TypeDesc} {cs : Array Value} {v : Value} (h : P.underlying t = some d) (hd : isAggD d = false) (hv : cs[off]? = some v) : pureRun P (part t cs off) = some v := by
 unfold part isAgg
 rw [pr_bind, pr_bind, pr_und h]
 cases d <;> first | (cases hd; done) | skip
 all_goals (simp only [Option.bind_some, hv]; rfl)
noncomputable def isStructD (E : Env) (u : TypeId) : Bool := match E.ty.get u with
 | some i => match i.desc with
  | .struct _ => true
  | _ => false
 | none => false
theorem eqA_struct {E : Env} {u : TypeId} {s : AS} {x y : Array Value} (h : isStructD E u = true) : eqA E s u (.agg x) (.agg y) = none := by
 unfold isStructD at h
 unfold eqA
 cases hi : E.ty.get u with
 | none => rfl
 | some i =>
  rw [hi] at h
  simp only at h ⊢
  cases hd : i.desc with
  | struct F => rfl
  | _ => rw [hd] at h; cases h
structure EqF (P : Program) (n : Nat) (xs ys : Array Value) (f : Field) (b : Bool) : Prop where
 nm : f.name ≠ "_"
 eq : pureRun P (do Op.equalIn n f.type (← part f.type xs f.offset) (← part f.type ys f.offset)) = some b
inductive EqFs (P : Program) (n : Nat) (xs ys : Array Value) : List Field → List Bool → Prop
 | nil : EqFs P n xs ys [] []
 | cons {f : Field} {b : Bool} {fs : List Field} {bs : List Bool} (h : EqF P n xs ys f b) (hr : EqFs P n xs ys fs bs) : EqFs P n xs ys (f :: fs) (b :: bs)
theorem pr_loop {P : Program} {n : Nat} {xs ys : Array Value} {G : Field → (Option Bool × Unit) → Sem (ForInStep (Option Bool × Unit))} (hG : ∀ f b, EqF P n xs ys f b → pureRun P (G f (none, ())) = some (if b = true then .yield (none, ()) else .done (some false, ()))) : ∀ {F : List Field} {bs : List Bool}, EqFs P n xs ys F bs → pureRun P (forIn F (none, ()) G) = some (if bs.all id = true then (none, ()) else (some false, ())) := fun h => by
 induction h with
 | nil => rfl
 | @cons f b fs bs h hr ih =>
  rw [List.forIn_cons, pr_bind, hG f b h]
  cases b with
  | false => rfl
  | true =>
   show pureRun P (forIn fs (none, ()) G) = _
   rw [ih]
   rfl
theorem pr_struct {P : Program} {t n : Nat} {F : Array Field} {xs ys : Array Value} {bs : List Bool} (hu : P.underlying t = some (.struct F)) (hs : P.stoodInHeld t = false) (hf : EqFs P n xs ys F.toList bs) : pureRun P (Op.equalIn (n + 1) t (.agg xs) (.agg ys)) = some (bs.all id) := by
 obtain ⟨F⟩ := F
 unfold Op.equalIn
 rw [pr_bind, pr_und hu]
 simp only [Option.bind_some]
 rw [pr_bind]
 show pureRun P (if P.stoodInHeld t = true then _ else _) = _
 rw [if_neg (by rw [hs]; decide), pr_bind, List.forIn_toArray, pr_loop (fun f b h => ?_) hf]
 ·cases bs.all id <;> rfl
 ·rw [if_pos h.nm]
  have he := h.eq
  rw [pr_bind] at he ⊢
  cases h1 : pureRun P (part f.type xs f.offset) with
  | none => rw [h1] at he; cases he
  | some v =>
   rw [h1] at he
   simp only [Option.bind_some] at he ⊢
   rw [pr_bind] at he ⊢
   cases h2 : pureRun P (part f.type ys f.offset) with
   | none => rw [h2] at he; cases he
   | some w =>
    rw [h2] at he
    simp only [Option.bind_some] at he ⊢
    rw [pr_bind, he]
    cases b <;> rfl
theorem pr_guard {P : Program} {t : TypeId} {op : BinOp} {ox oy : Operand} {xs ys : Array Value} (hg : P.eqGuardType P.depth t = false) : pureRun P (eqGuard op t ox oy (.agg xs) (.agg ys)) = some () := by
 unfold eqGuard
 cases op <;> first | rfl | skip
 all_goals (show pureRun P (if (!P.eqGuardType P.depth t) = true then pure () else _) = some (); rw [hg]; rfl)
theorem Pu.bin_struct_neq {E : Env} {al : Al} {x y : Operand} {u r : Nat} {xs ys : List Value} {F : Array Field} {bs : List Bool} {q : Bool} (hf : EqFs E.P 9999 ⟨xs⟩ ⟨ys⟩ F.toList bs) (hq : q = !(bs.all id)) (hu : E.P.underlying u = some (.struct F)) (hs : E.P.stoodInHeld u = false) (hg : E.P.eqGuardType E.P.depth u = false) (hd : isStructD E u = true) (hp : xs.all plain.plain1 = true) (hp' : ys.all plain.plain1 = true)
  (hx : evl al x = some (.agg ⟨xs⟩) := by rfl) (hy : evl al y = some (.agg ⟨ys⟩) := by rfl) : Pu E al (.binOp .neq u x y r) (.bool q) :=
 ⟨fun _ _ _ => rfl, fun tm s ha => by
  show hBin .neq u x y E tm s = _
  unfold hBin
  rw [evl_ev ha hx, evl_ev ha hy]
  simp only
  have : binA E s .neq u x y (.agg ⟨xs⟩) (.agg ⟨ys⟩) = some (.bool q) := by
   show eqBin E s .neq u x y (.agg ⟨xs⟩) (.agg ⟨ys⟩) true = _
   unfold eqBin
   rw [eqA_struct hd]
   show pureBin E .neq u x y _ _ = _
   unfold pureBin
   have h1 : plain (.agg ⟨xs⟩) = true := hp
   have h2 : plain (.agg ⟨ys⟩) = true := hp'
   rw [h1, h2, pr_bind, pr_guard hg]
   show (match pureRun E.P (binOp .neq u (.agg ⟨xs⟩) (.agg ⟨ys⟩)) with
    | some v => bif plain v then some v else none
    | none => none) = _
   have h3 : pureRun E.P (binOp .neq u (.agg ⟨xs⟩) (.agg ⟨ys⟩)) = some (.bool q) := by
    show pureRun E.P (do pure (Value.bool (!(← Op.equal u (.agg ⟨xs⟩) (.agg ⟨ys⟩))))) = _
    rw [pr_bind]
    show Option.bind (pureRun E.P (Op.equalIn (9999 + 1) u (.agg ⟨xs⟩) (.agg ⟨ys⟩))) _ = _
    rw [pr_struct hu hs hf, hq]
    rfl
   rw [h3]
   rfl
  rw [this]⟩
inductive EqTs (P : Program) (n : Nat) (xs ys : Array Value) : List (Bool × TypeId × Nat) → List Bool → Prop
 | nil : EqTs P n xs ys [] []
 | cons {t o : Nat} {b : Bool} {fs : List (Bool × TypeId × Nat)} {bs : List Bool} (h : pureRun P (do Op.equalIn n t (← part t xs o) (← part t ys o)) = some b) (hr : EqTs P n xs ys fs bs) : EqTs P n xs ys ((false, t, o) :: fs) (b :: bs)
theorem EqTs.fs {P : Program} {n : Nat} {xs ys : Array Value} : ∀ {F : List Field} {l : List (Bool × TypeId × Nat)} {bs : List Bool}, F.map (fun f => (f.name == "_", f.type, f.offset)) = l → EqTs P n xs ys l bs → EqFs P n xs ys F bs
 | [], _, _, h, e => by
  subst h
  cases e
  exact .nil
 | f :: F, l, bs, h, e => by
  subst h
  rw [List.map_cons] at e
  generalize hn : (f.name == "_") = nm at e
  cases e with
  | cons h hr => exact .cons ⟨by simpa using hn, h⟩ (EqTs.fs rfl hr)
theorem eqt_int {P : Program} {t o n : Nat} {k K : IntKind} {xs ys : Array Value} {a b : Int} (h : P.underlying t = some (.int k)) (hx : xs[o]? = some (.int K a)) (hy : ys[o]? = some (.int K b)) : pureRun P (do Op.equalIn (n + 1) t (← part t xs o) (← part t ys o)) = some (a == b) := by
 rw [pr_bind, pr_part h rfl hx]
 simp only [Option.bind_some]
 rw [pr_bind, pr_part h rfl hy]
 exact pr_int h K a b
theorem eqt_str {P : Program} {t o n : Nat} {xs ys : Array Value} {a b : ByteArray} (h : P.underlying t = some .string) (hx : xs[o]? = some (.string a)) (hy : ys[o]? = some (.string b)) : pureRun P (do Op.equalIn (n + 1) t (← part t xs o) (← part t ys o)) = some (a == b) := by
 rw [pr_bind, pr_part h rfl hx]
 simp only [Option.bind_some]
 rw [pr_bind, pr_part h rfl hy]
 exact pr_str h a b
end Go.Lx
