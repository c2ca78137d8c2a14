/- Functions that are known by what they come to. -/
import Derived.Test.YtcgpmbjoobilcaaGreatDoorAxD
import Derived.Laws.Externs
import Derived.Lib.Overlaps
import Derived.Lib.Bytealg
import Derived.Laws.IdiomCopy
set_option linter.unusedSimpArgs false
set_option linter.unusedVariables false
namespace Go.Ax
open Go
theorem FSim.same {P : Program} {f : FuncId} {fn : Func} (hf : P.funcs[f]? = some fn) (hn : (fn.name == "runtime.NumGoroutine") = false) (hb : fn.body.isNone = false) {args' : List Value} {i : Io} {s : AS} {w : World} {v v' : Value}
  (hR : Rel i s w) (hc : Calls P f ⟨args'⟩ w fun e w' => e = .returned v' ∧ w' = w) (hv : VR i v v') : FSim P f args' i s w v s := by
 have hn' : fn.name ≠ "runtime.NumGoroutine" := by simpa using hn
 have hb' : fn.body ≠ none := fun e => by rw [e] at hb; cases hb
 refine .inr ⟨?_, Calls.mono hc (fun e w' he => ?_)⟩
 ·unfold callFunc
  simp [hf, hn', hb']
 ·obtain ⟨rfl, rfl⟩ := he
  exact ⟨i, hv, hR, .refl _ _ _⟩
theorem Rel.bytes {i : Io} {s : AS} {w : World} (hR : Rel i s w) {b o n q t : Nat} {l : List Value} {bs : List UInt8} (hr : Go.Ax.rdN s b o n = some l) (hi : i b = some (q, t)) (hl : l = bs.map fun c => Value.int .u8 c.toNat) :
  bs.length = n ∧ ∀ k (h : k < bs.length), w.cell? ⟨q, t + o + k, none⟩ = some (.int .u8 (bs[k].toNat : Nat)) := by
 obtain ⟨l', _, h2, h3⟩ := hR.rdN (P := default) hr hi
 have hn : bs.length = n := by rw [← h3, hl, List.length_map]
 refine ⟨hn, fun k hk => ?_⟩
 have hrd : Go.Ax.rd s b (o + k) = some (.int .u8 (bs[k].toNat : Nat)) := by
  unfold Go.Ax.rdN at hr
  unfold Go.Ax.rd
  have key : ∀ (c : T Value) (m : Nat), (bif Nat.ble (o + n) m then c.list n o else none) = some l → (bif Nat.blt (o + k) m then c.get (o + k) else none) = some (.int .u8 (bs[k].toNat : Nat)) := by
   intro c m hc
   cases hb : Nat.ble (o + n) m with
   | false => rw [hb] at hc; cases hc
   | true =>
    rw [hb, cond_true] at hc
    have hle : o + n ≤ m := by simpa using hb
    have hlt : Nat.blt (o + k) m = true := by rw [Nat.blt_eq]; omega
    rw [hlt, cond_true, (T.list_some c n o l hc).2 k (by omega), hl]
    simp [hk]
  split at hr
  ·rename_i c m z hg
   exact key c m hr
  ·rename_i c m hg
   exact key c m hr
  ·cases hr
 obtain ⟨v', g1, g2⟩ := hR.rd hrd hi
 cases g2
 rw [Nat.add_assoc]
 exact g1
end Go.Ax
/- The checksum and the trimmed bytes, as the machine's prims: quick in the kernel, and what the lists' words say. -/
namespace Go.Ax
open Go
def crc1 (x : Nat) : Nat := if x % 2 = 1 then (x / 2) ^^^ 3988292384 else x / 2
def crcN : Nat → Nat → Nat
 | 0, x => x
 | j + 1, x => crc1 (crcN j x)
def crcL : Nat → List UInt8 → Nat
 | x, [] => x
 | x, c :: l => crcL (crcN 8 (x ^^^ c.toNat)) l
def trimN (c : Nat) (l : List UInt8) : Nat := (l.reverse.dropWhile fun x => x.toNat == c).length
noncomputable section
def kc1 (x : Nat) : Nat := bif Nat.beq (x % 2) 1 then Nat.xor (x / 2) 3988292384 else x / 2
def kc8 (x : Nat) : Nat := natK (kc1 x) fun x => natK (kc1 x) fun x => natK (kc1 x) fun x => natK (kc1 x) fun x => natK (kc1 x) fun x => natK (kc1 x) fun x => natK (kc1 x) fun x => kc1 x
def kcL (l : List Value) : Nat → Option Nat :=
 List.rec (motive := fun _ => Nat → Option Nat) (fun x => some x) (fun v _ ih x => match v with
  | .int .u8 (.ofNat b) => bif Nat.blt b 256 then natK (kc8 (Nat.xor x b)) ih else none
  | _ => none) l
theorem kc1_eq (x : Nat) : kc1 x = crc1 x := by
 unfold kc1 crc1
 rcases Nat.mod_two_eq_zero_or_one x with h | h
 ·rw [h]; rfl
 ·rw [h]; rfl
theorem kc8_eq (x : Nat) : kc8 x = crcN 8 x := by
 unfold kc8
 simp only [natK_eq, kc1_eq]
 rfl
theorem kcL_spec : ∀ {l : List Value} {x r : Nat}, kcL l x = some r → ∃ bs : List UInt8, l = bs.map (fun c => Value.int .u8 c.toNat) ∧ r = crcL x bs
 | [], x, r, h => by cases h; exact ⟨[], rfl, rfl⟩
 | v :: l, x, r, h => by
  have h' : (match (generalizing := false) v with
   | .int .u8 (.ofNat b) => bif Nat.blt b 256 then natK (kc8 (Nat.xor x b)) (kcL l) else none
   | _ => none) = some r := h
  clear h
  split at h'
  ·rename_i b
   cases hb : Nat.blt b 256 with
   | false => rw [hb] at h'; cases h'
   | true =>
    rw [hb, cond_true, natK_eq, kc8_eq] at h'
    have hlt : b < 256 := by simpa [Nat.blt_eq] using hb
    obtain ⟨bs, h1, h2⟩ := kcL_spec h'
    have e : (UInt8.ofNat b).toNat = b := by simp; omega
    refine ⟨UInt8.ofNat b :: bs, ?_, ?_⟩
    ·rw [List.map_cons, h1, e]; rfl
    ·show r = crcL (crcN 8 (x ^^^ (UInt8.ofNat b).toNat)) bs
     rw [e]
     exact h2
  ·cases h'
def crcP : List Value → AS → Option (Value × AS)
 | [.slice (some a) n c], s => bif Nat.ble n 1000000 then (match rdN s a.block a.off n with
  | none => none
  | some l => match kcL l 4294967295 with
   | none => none
   | some r => natK (Nat.xor r 4294967295) fun r => some (.int .i64 (.ofNat r), s)) else none
 | _, _ => none
end
end Go.Ax
/- The trimmed bytes, as the machine's prim. -/
namespace Go.Ax
open Go
theorem dropWhile_snoc {α : Type} (p : α → Bool) : ∀ (l : List α) (x : α), (l ++ [x]).dropWhile p = if l.dropWhile p = [] then (if p x then [] else [x]) else l.dropWhile p ++ [x]
 | [], x => by simp [List.dropWhile]; split <;> simp_all
 | y :: l, x => by
  rw [List.cons_append, List.dropWhile_cons, List.dropWhile_cons]
  cases hp : p y with
  | true => simp only [if_true]; exact dropWhile_snoc p l x
  | false => simp
theorem trimN_cons (c : Nat) (x : UInt8) (l : List UInt8) : trimN c (x :: l) = if trimN c l = 0 then (if x.toNat = c then 0 else 1) else trimN c l + 1 := by
 unfold trimN
 rw [List.reverse_cons, dropWhile_snoc]
 by_cases h : l.reverse.dropWhile (fun x => x.toNat == c) = []
 ·rw [if_pos h, h]
  simp only [List.length_nil, if_true]
  by_cases hx : x.toNat = c
  ·simp [hx]
  ·simp [hx]
 ·rw [if_neg h]
  have : (l.reverse.dropWhile (fun x => x.toNat == c)).length ≠ 0 := fun e => h (List.eq_nil_of_length_eq_zero e)
  rw [if_neg this, List.length_append]
  rfl
noncomputable section
def kt (c : Nat) (l : List Value) : Nat → Nat → Option Nat :=
 List.rec (motive := fun _ => Nat → Nat → Option Nat) (fun _ best => some best) (fun v _ ih i best => match v with
  | .int .u8 (.ofNat b) => bif Nat.blt b 256 then natK (Nat.succ i) (fun i => ih i (bif Nat.beq b c then best else i)) else none
  | _ => none) l
theorem kt_spec {c : Nat} : ∀ {l : List Value} {i best r : Nat}, kt c l i best = some r → ∃ bs : List UInt8, l = bs.map (fun c => Value.int .u8 c.toNat) ∧ r = if trimN c bs = 0 then best else i + trimN c bs
 | [], i, best, r, h => by cases h; exact ⟨[], rfl, rfl⟩
 | v :: l, i, best, r, h => by
  have h' : (match (generalizing := false) v with
   | .int .u8 (.ofNat b) => bif Nat.blt b 256 then natK (Nat.succ i) (fun i => kt c l i (bif Nat.beq b c then best else i)) else none
   | _ => none) = some r := h
  clear h
  split at h'
  ·rename_i b
   cases hb : Nat.blt b 256 with
   | false => rw [hb] at h'; cases h'
   | true =>
    rw [hb, cond_true, natK_eq] at h'
    have hlt : b < 256 := by simpa [Nat.blt_eq] using hb
    obtain ⟨bs, h1, h2⟩ := kt_spec h'
    have e : (UInt8.ofNat b).toNat = b := by simp; omega
    refine ⟨UInt8.ofNat b :: bs, ?_, ?_⟩
    ·rw [List.map_cons, h1, e]; rfl
    ·rw [trimN_cons, e, h2]
     by_cases h0 : trimN c bs = 0
     ·rw [if_pos h0, if_pos h0]
      by_cases hc : b = c
      ·subst hc; simp
      ·have : Nat.beq b c = false := by
        cases hh : Nat.beq b c with
        | false => rfl
        | true => exact absurd (Nat.eq_of_beq_eq_true hh) hc
       rw [this]
       simp [hc]
     ·rw [if_neg h0, if_neg h0, if_neg (by omega)]
      simp only [Nat.succ_eq_add_one]
      omega
  ·cases h'
end
end Go.Ax
/- Functions without a body: what the machine knows of them. -/
namespace Go.Ax
open Go
theorem FSim.ext {P : Program} {f : FuncId} {fn : Func} {e : Array Value → Sem Value} (hf : P.funcs[f]? = some fn) (hname : (fn.name == "runtime.NumGoroutine") = false) (hb : fn.body.isNone = true) (hn : Extern.findNext fn = none) (he : Extern.find fn = some e)
  {args' : List Value} {i : Io} {s s' : AS} {w : World} {v : Value} (h : ∃ v' w' i', (e ⟨args'⟩).run P w = .ok v' w' ∧ VR i' v v' ∧ Rel i' s' w' ∧ Fr i s w i' s' w') : FSim P f args' i s w v s' := by
 obtain ⟨v', w', i', h1, h2, h3, h4⟩ := h
 refine .inl ⟨v', w', i', ?_, h2, h3, h4⟩
 rw [run_callFunc_extern hf hname hb hn he, h1]
 rfl
def POk (P : Program) (f : FuncId) (p : List Value → AS → Option (Value × AS)) : Prop :=
 ∀ args s v s', p args s = some (v, s') → ∀ i w args', Rel i s w → Gl i → VRs i args args' → FSim P f args' i s w v s'
noncomputable section
def noEscP : List Value → AS → Option (Value × AS)
 | [v], s => some (v, s)
 | _, _ => none
theorem noEsc_ok {P : Program} {f : FuncId} {fn : Func} (hf : P.funcs[f]? = some fn) (hname : (fn.name == "runtime.NumGoroutine") = false) (hb : fn.body.isNone = true) (hn : Extern.findNext fn = none) (he : Extern.find fn = some Extern.AbiNoEscape.same) : POk P f noEscP := by
 intro args s v s' h i w args' hR hg ha
 unfold noEscP at h
 split at h
 ·cases h
  cases ha with
  | cons h1 h2 =>
   cases h2
   exact FSim.ext hf hname hb hn he ⟨_, w, i, rfl, h1, hR, .refl _ _ _⟩
 ·cases h
def mCloneP : List Value → AS → Option (Value × AS)
 | [.iface t (.map (some r))], s => match s.h.get r with
  | some (.map es) => some (.iface t (.map (some s.nx)), s.new (.map es))
  | _ => none
 | _, _ => none
theorem mClone_ok {P : Program} {f : FuncId} {fn : Func} (hf : P.funcs[f]? = some fn) (hname : (fn.name == "runtime.NumGoroutine") = false) (hb : fn.body.isNone = true) (hn : Extern.findNext fn = none) (he : Extern.find fn = some Extern.MapsClone.clone) : POk P f mCloneP := by
 intro args s v s' h i w args' hR hg ha
 unfold mCloneP at h
 split at h
 ·rename_i t r
  split at h
  ·rename_i es hes
   cases h
   cases ha with
   | cons h1 h2 =>
    cases h2
    cases h1 with | iface _ h1 =>
    cases h1 with | @map _ q hi =>
    obtain ⟨_, es', clk, l, g1, g2, g3, g4⟩ := hR.at (P := P) hes rfl hi
    obtain ⟨k1, k2⟩ := hR.new (lm := (0, 0)) (o := .map es) (x := .map es' clk) ⟨rfl, es', clk, l, rfl, g2, g3.mono (ext_le (hR.fresh s.nx (Nat.le_refl _)).1), g4⟩
    refine FSim.ext hf hname hb hn he ⟨_, _, _, ?_, .iface t (.map (ext_same _ _ _)), k1, k2⟩
    change Sem.run P (α := Value) (do
     let .map entries clock ← getObj q | stuck "maps.clone: a map expected"
     pure (.iface t (.map (some (← newObj (.map entries clock)))))) w = _
    simp only [Sem.run_bind, getMap g1 P, Result.andThen_ok]
    rfl
  ·cases h
 ·cases h
def apartP : List Value → AS → Option (Value × AS)
 | [.slice (some a) _ _, .slice (some b) _ _], s => match s.h.get b.block with
  | some (.cells _ k _) => bif !Nat.beq a.block b.block && live s a.block && Nat.ble 1 k then some (.bool false, s) else none
  | _ => none
 | _, _ => none
def sliceChk (E : Env) (t : TypeId) : Bool :=
 match E.ty.get t with
 | some ti => match ti.desc with
  | .slice e => (E.ty.get e).isSome
  | _ => false
 | none => false
theorem apart_ok {E : Env} (hT : TyOk E) {f : FuncId} {fn : Func} {t r : TypeId} (hf : E.P.funcs[f]? = some fn) (hname : (fn.name == "runtime.NumGoroutine") = false) (hb : fn.body.isNone = true) (hn : Extern.findNext fn = none)
  (he : Extern.find fn = some (Extern.SlicesOverlaps.overlaps #[t, t] #[r])) (hchk : sliceChk E t = true) : POk E.P f apartP := by
 intro args s v s' h i w args' hR hg ha
 have hex : ∃ ti e j, E.ty.get t = some ti ∧ ti.desc = .slice e ∧ E.ty.get e = some j := by
  unfold sliceChk at hchk
  split at hchk
  ·rename_i ti hti
   split at hchk
   ·rename_i e hd
    cases hj : E.ty.get e with
    | none => rw [hj] at hchk; cases hchk
    | some j => exact ⟨ti, e, j, hti, hd, hj⟩
   ·cases hchk
  ·cases hchk
 obtain ⟨ti, e, j, ht, hd, hj⟩ := hex
 have hu : E.P.underlying t = some (.slice e) := by
  obtain ⟨_, _, q2, _⟩ := hT.ty t ti ht
  rw [q2, hd]
 unfold apartP at h
 split at h
 ·rename_i a n c b m c2
  split at h
  ·rename_i cb k zb hblk
   cases hl : (!Nat.beq a.block b.block && live s a.block && Nat.ble 1 k) with
   | false => rw [hl] at h; cases h
   | true =>
    rw [hl] at h
    cases h
    simp only [Bool.and_eq_true, Bool.not_eq_true', Nat.ble_eq] at hl
    obtain ⟨⟨hne, hla⟩, hk1⟩ := hl
    cases ha with
    | cons h1 h2 =>
    cases h2 with
    | cons h2 h3 =>
    cases h3
    cases h1 with
    | @slice ba oa qa ta _ _ pa ca' hia x1 x2 x3 x4 x5 =>
    cases h2 with
    | @slice bb ob qb tb _ _ pb cb' hib y1 y2 y3 y4 y5 =>
    simp only at hne hla hblk
    obtain ⟨csa, ea, fra, w1, w2⟩ := hR.live_cells hla hia
    obtain ⟨csb, eb, frb, w3, w4, _⟩ := hR.at (P := E.P) hblk rfl hib
    have hnb : ba ≠ bb := fun e => by subst e; rw [Nat.beq_refl] at hne; cases hne
    have hlive : ∃ o, s.h.get ba = some o ∧ alive o = true := by
     unfold live at hla
     split at hla
     ·rename_i hgg; exact ⟨_, hgg, rfl⟩
     ·cases hla
    obtain ⟨oa', ha1, ha2⟩ := hlive
    have hqne : qa ≠ qb := fun e => by
     subst e
     exact hnb (hR.inj ba bb oa' _ qa ta tb ha1 hblk ha2 rfl hia hib)
    refine FSim.ext hf hname hb hn he ⟨.bool false, w, i, ?_, .bool _, hR, .refl _ _ _⟩
    exact Lib.run_overlaps_apart w t r e hu j.size (run_size hT hj) ⟨qa, pa, none⟩ ⟨qb, pb, none⟩ n ca' m cb' hqne ea eb csa.size csb.size (by unfold World.shape?; rw [w1]) (by unfold World.shape?; rw [w3]) (by omega) (notFrozen w1 w2 _ _) (notFrozen w1 w2 _ _)
  ·cases h
 ·cases h
end
end Go.Ax
/- A count of bytes in a string: what the machine knows of it. -/
namespace Go.Ax
open Go
noncomputable section
def cntN (k : Nat) (l : List UInt8) : Nat := @List.rec UInt8 (fun _ => Nat) 0 (fun c _ ih => @Bool.rec (fun _ => Nat) ih (Nat.succ ih) (Nat.beq c.toNat k)) l
theorem cntN_eq (k : Nat) (hk : k < 256) : ∀ l : List UInt8, cntN k l = l.count k.toUInt8
 | [] => rfl
 | c :: l => by
  have ih := cntN_eq k hk l
  show @Bool.rec (fun _ => Nat) (cntN k l) (Nat.succ (cntN k l)) (Nat.beq c.toNat k) = _
  rw [List.count_cons, ih]
  have hkk : (k.toUInt8).toNat = k := by simp; omega
  cases h : Nat.beq c.toNat k with
  | true =>
   have : c = k.toUInt8 := by
    have := Nat.eq_of_beq_eq_true h
    exact UInt8.toNat_inj.1 (by rw [hkk]; exact this)
   subst this
   simp
  | false =>
   have : ¬ (c == k.toUInt8) = true := by
    intro hc
    have := eq_of_beq hc
    subst this
    rw [hkk, Nat.beq_refl] at h
    cases h
   rw [if_neg this]
   rfl
def cntP : List Value → AS → Option (Value × AS)
 | [.string b, .int .u8 (.ofNat k)], s => bif Nat.blt k 256 then natK (cntN k b.data.toList) fun r => some (.int .i64 (.ofNat r), s) else none
 | _, _ => none
theorem cnt_ok {P : Program} {f : FuncId} {fn : Func} (hf : P.funcs[f]? = some fn) (hname : (fn.name == "runtime.NumGoroutine") = false) (hb : fn.body.isNone = true) (hn : Extern.findNext fn = none) (he : Extern.find fn = some Extern.BytealgCount.count) : POk P f cntP := by
 intro args s v s' h i w args' hR hg ha
 unfold cntP at h
 split at h
 ·rename_i b k
  cases hk : Nat.blt k 256 with
  | false => rw [hk] at h; cases h
  | true =>
   rw [hk, cond_true, natK_eq] at h
   cases h
   cases ha with
   | cons h1 h2 =>
   cases h2 with
   | cons h2 h3 =>
   cases h3
   cases h1
   cases h2
   have hk' : k < 256 := by rw [Nat.blt_eq] at hk; exact hk
   refine FSim.ext hf hname hb hn he ⟨_, w, i, Lib.run_countString b (.ofNat k) w, ?_, hR, .refl _ _ _⟩
   rw [cntN_eq k hk']
   exact .int _ _
 ·cases h
end
end Go.Ax
/- A new block of the machine for a block of the world that is new, wherever it lies. -/
namespace Go.Ax
open Go Go.RowKit
section
variable {i : Io} {s : AS} {w : World}
theorem Rel.newAt {w' : World} {o : AObj} {x : Obj} {lm : Nat × Nat} {q : Nat} (h : Rel i s w) (hb : Below w.heap.size w w') (hq : w.heap.size ≤ q) (hx : w'.heap[q]? = some x) (hor : OR (ext i s.nx (q, 0) lm) o (some x) 0)
  (hlim : ∀ c n z, o = .cells c n z → lm.1 = zs z ∧ ∀ cs e fr, x = .cells cs e fr → lm.2 ≤ cs.size := by intro _ _ _ h; cases h) :
  Rel (ext i s.nx (q, 0) lm) (s.new o) w' ∧ Fr i s w (ext i s.nx (q, 0) lm) (s.new o) w' := by
 obtain ⟨hR', hF'⟩ := h.below hb
 have hnx := h.fresh s.nx (Nat.le_refl _)
 have hle : Le i (ext i s.nx (q, 0) lm) := ext_le hnx.1
 have get : ∀ k, (s.new o).h.get k = if k = s.nx then some o else s.h.get k := fun k => T.get_set _ _ _ _
 have hlt : ∀ k y q' t, s.h.get k = some y → i k = some (q', t) → q' < w.heap.size := fun k y q' t hk e => h.dom k q' t e (.inl (by rw [hk]; simp))
 refine ⟨⟨?_, ?_, ?_, ?_, ?_⟩, ⟨hle, ?_, hF'.os, hF'.tape, hF'.output, hF'.size, hF'.keep, ?_, Nat.le_succ _, fun k hk e => by rw [ext_ne (by omega)]; exact e, fun k hk _ e => by rw [get, if_neg (by omega)]; exact e, fun k g => by rw [get]; split <;> first | (simp; done) | exact g⟩⟩
 ·intro k y hk ha
  rw [get] at hk
  by_cases e : k = s.nx
  ·rw [if_pos e] at hk
   cases hk
   subst e
   exact ⟨q, 0, ext_same _ _ _, by rw [hx]; exact hor⟩
  ·rw [if_neg e] at hk
   obtain ⟨q', t, e', hr⟩ := hR'.obj k y hk ha
   exact ⟨q', t, by rw [ext_ne e]; exact e', hr.mono hle⟩
 ·intro k k' y y' q1 t t' hk hk' ha ha' e e'
  rw [get] at hk hk'
  by_cases f : k = s.nx <;> by_cases f' : k' = s.nx
  ·rw [f, f']
  ·rw [if_neg f'] at hk'
   rw [ext_ne f'] at e'
   rw [f, ext_same] at e
   cases e
   have := hlt k' y' q t' hk' e'
   omega
  ·rw [if_neg f] at hk
   rw [ext_ne f] at e
   rw [f', ext_same] at e'
   cases e'
   have := hlt k y q t hk e
   omega
  ·rw [if_neg f] at hk
   rw [if_neg f'] at hk'
   rw [ext_ne f] at e
   rw [ext_ne f'] at e'
   exact h.inj k k' y y' q1 t t' hk hk' ha ha' e e'
 ·intro k hk
  have hk' : s.nx + 1 ≤ k := hk
  obtain ⟨g1, g2⟩ := h.fresh k (by omega)
  exact ⟨by rw [ext_ne (by omega)]; exact g1, by rw [get, if_neg (by omega)]; exact g2⟩
 ·intro k c n z q' t' hk e
  rw [get] at hk
  by_cases f : k = s.nx
  ·rw [if_pos f] at hk
   cases hk
   subst f
   rw [ext_same] at e
   cases e
   rw [ext_lim]
   obtain ⟨g1, g2⟩ := hlim c n z rfl
   exact ⟨g1, fun cs e' fr hw => g2 cs e' fr (by rw [hx] at hw; cases hw; rfl)⟩
  ·rw [if_neg f] at hk
   rw [ext_ne f] at e
   rw [ext_lim_ne f]
   exact hR'.lim k c n z q' t' hk e
 ·intro k q' t' e hk
  by_cases f : k = s.nx
  ·subst f
   rw [ext_same] at e
   cases e
   exact (Array.getElem?_eq_some_iff.1 hx).1
  ·rw [ext_ne f] at e
   rw [get, if_neg f] at hk
   exact hR'.dom k q' t' e hk
 ·intro k q' t' e
  by_cases f : k = s.nx
  ·subst f
   rw [ext_same] at e
   cases e
   exact .inr (.inl hq)
  ·rw [ext_ne f] at e
   exact .inl e
 ·intro k y e hf
  rw [get, if_neg (fun f => by subst f; rw [hnx.1] at e; cases e)]
end
end Go.Ax
/- The last of the waiting writes to a sector. -/
namespace Go.Ax
open Go Go.RowKit
theorem rd_of_rdN {s : AS} {b o n : Nat} {l : List Value} (hr : rdN s b o n = some l) : l.length = n ∧ ∀ k, k < n → rd s b (o + k) = l[k]? := by
 unfold rdN at hr
 unfold rd
 have key : ∀ (c : T Value) (m : Nat), (bif Nat.ble (o + n) m then c.list n o else none) = some l → l.length = n ∧ ∀ k, k < n → (bif Nat.blt (o + k) m then c.get (o + k) else none) = l[k]? := by
  intro c m hc
  cases hb : Nat.ble (o + n) m with
  | false => rw [hb] at hc; cases hc
  | true =>
   rw [hb, cond_true] at hc
   have hle : o + n ≤ m := by simpa using hb
   obtain ⟨g1, g2⟩ := T.list_some c n o l hc
   refine ⟨g1, fun k hk => ?_⟩
   have hlt : Nat.blt (o + k) m = true := by rw [Nat.blt_eq]; omega
   rw [hlt, cond_true, g2 k hk]
 split at hr
 ·rename_i c m z hg
  exact key c m hr
 ·rename_i c m hg
  exact key c m hr
 ·cases hr
theorem Rel.cellsN {i : Io} {s : AS} {w : World} (h : Rel i s w) {b o n q t : Nat} {l : List Value} (hr : Go.Ax.rdN s b o n = some l) (hi : i b = some (q, t)) :
  ∃ l' : List Value, VRs i l l' ∧ l'.length = n ∧ ∀ j (hj : j < l'.length), w.cell? ⟨q, t + o + j, none⟩ = some l'[j] := by
 obtain ⟨g1, g2⟩ := rd_of_rdN hr
 have key : ∀ j, j < n → ∃ v v', l[j]? = some v ∧ w.cell? ⟨q, t + o + j, none⟩ = some v' ∧ VR i v v' := by
  intro j hj
  have hv : l[j]? = some (l[j]'(by omega)) := List.getElem?_eq_getElem _
  obtain ⟨v', k1, k2⟩ := h.rd ((g2 j hj).trans hv) hi
  rw [← Nat.add_assoc] at k1
  exact ⟨_, v', hv, k1, k2⟩
 let f : Nat → Value := fun j => if hj : j < n then Classical.choose (Classical.choose_spec (key j hj)) else undef
 have hf : ∀ j, j < n → w.cell? ⟨q, t + o + j, none⟩ = some (f j) ∧ ∀ v, l[j]? = some v → VR i v (f j) := by
  intro j hj
  have := Classical.choose_spec (Classical.choose_spec (key j hj))
  have e : f j = Classical.choose (Classical.choose_spec (key j hj)) := dif_pos hj
  rw [e]
  exact ⟨this.2.1, fun v hv => by rw [this.1] at hv; cases hv; exact this.2.2⟩
 refine ⟨(List.range n).map f, VRs.of_get (by simp [g1]) (fun k v hk => ?_), by simp, fun j hj => ?_⟩
 ·have hkn : k < n := by have := (List.getElem?_eq_some_iff.1 hk).1; omega
  exact ⟨f k, by simp [hkn], (hf k hkn).2 v hk⟩
 ·have hjn : j < n := by simpa using hj
  rw [(hf j hjn).1]
  simp
noncomputable def scanA (s : AS) (k a n : Nat) (x : Option Addr) (r : Option (List Value)) : Option (Option (List Value)) :=
 bif Nat.beq a k then (match x with
  | some ⟨b, o, none⟩ => bif Nat.ble n 1000000 then (match rdN s b o n with
   | some l => bif ones l then some (some l) else none
   | none => none) else none
  | _ => none) else some r
noncomputable def scanS (s : AS) (wb wo k : Nat) (m : Nat) : Option (Option (List Value)) :=
 Nat.rec (motive := fun _ => Option (Option (List Value))) (some none) (fun j ih => match ih with
  | none => none
  | some r => match rdN s wb (wo + 2 * j) 2 with
   | some [.int .i64 (.ofNat a), .slice x n _] => scanA s k a n x r
   | _ => none) m
structure WaitAt (s : AS) (wb wo k j : Nat) (a : Nat) (x : Option Addr) (n c : Nat) : Prop where
 at_ : rdN s wb (wo + 2 * j) 2 = some [.int .i64 (.ofNat a), .slice x n c]
 ok : a = k → ∃ b o l, x = some ⟨b, o, none⟩ ∧ n ≤ 1000000 ∧ rdN s b o n = some l ∧ ones l = true
theorem scanS_spec (s : AS) (wb wo k : Nat) : ∀ (m : Nat) (r : Option (List Value)), scanS s wb wo k m = some r →
  (∀ j, j < m → ∃ a x n c, WaitAt s wb wo k j a x n c) ∧
  (r = none → ∀ j, j < m → ∀ a x n c, WaitAt s wb wo k j a x n c → a ≠ k) ∧
  (∀ l, r = some l → ∃ j0, j0 < m ∧ (∃ b o n c, WaitAt s wb wo k j0 k (some ⟨b, o, none⟩) n c ∧ rdN s b o n = some l) ∧ ∀ j, j0 < j → j < m → ∀ a x n c, WaitAt s wb wo k j a x n c → a ≠ k)
 | 0, r, h => by
  cases h
  exact ⟨fun j hj => by omega, fun _ j hj => by omega, fun l h => by cases h⟩
 | m + 1, r, h => by
  have h' : (match scanS s wb wo k m with
   | none => none
   | some r => match rdN s wb (wo + 2 * m) 2 with
    | some [.int .i64 (.ofNat a), .slice x n _] => scanA s k a n x r
    | _ => none) = some r := h
  split at h'
  ·cases h'
  ·rename_i r0 hr0
   split at h'
   ·rename_i a x n c hrd
    obtain ⟨i1, i2, i3⟩ := scanS_spec s wb wo k m r0 hr0
    have uniq : ∀ a' x' n' c', WaitAt s wb wo k m a' x' n' c' → a' = a := fun a' x' n' c' hw => by
     have := hw.at_.symm.trans hrd
     simp at this
     exact Int.ofNat.inj this.1
    unfold scanA at h'
    cases hak : Nat.beq a k with
    | false =>
     rw [hak, cond_false] at h'
     cases h'
     have hne : a ≠ k := fun e => by subst e; rw [Nat.beq_refl] at hak; cases hak
     have hm : WaitAt s wb wo k m a x n c := ⟨hrd, fun e => absurd e hne⟩
     refine ⟨fun j hj => ?_, fun hr j hj a' x' n' c' hw => ?_, fun l hl => ?_⟩
     ·by_cases e : j = m
      ·subst e; exact ⟨_, _, _, _, hm⟩
      ·exact i1 j (by omega)
     ·by_cases e : j = m
      ·subst e; rw [uniq _ _ _ _ hw]; exact hne
      ·exact i2 hr j (by omega) a' x' n' c' hw
     ·obtain ⟨j0, g1, g2, g3⟩ := i3 l hl
      refine ⟨j0, by omega, g2, fun j hj1 hj2 a' x' n' c' hw => ?_⟩
      by_cases e : j = m
      ·subst e; rw [uniq _ _ _ _ hw]; exact hne
      ·exact g3 j hj1 (by omega) a' x' n' c' hw
    | true =>
     rw [hak, cond_true] at h'
     have hk : a = k := Nat.eq_of_beq_eq_true hak
     subst hk
     split at h'
     ·rename_i b o
      cases hn : Nat.ble n 1000000 with
      | false => rw [hn] at h'; cases h'
      | true =>
       rw [hn, cond_true] at h'
       split at h'
       ·rename_i l hl
        cases ho : ones l with
        | false => rw [ho] at h'; cases h'
        | true =>
         rw [ho, cond_true] at h'
         cases h'
         have hm : WaitAt s wb wo a m a (some ⟨b, o, none⟩) n c := ⟨hrd, fun _ => ⟨b, o, l, rfl, Nat.le_of_ble_eq_true hn, hl, ho⟩⟩
         refine ⟨fun j hj => ?_, (fun hr => nomatch hr), fun l' hl' => ?_⟩
         ·by_cases e : j = m
          ·subst e; exact ⟨_, _, _, _, hm⟩
          ·exact i1 j (by omega)
         ·cases hl'
          exact ⟨m, by omega, ⟨b, o, n, c, hm, hl⟩, fun j hj1 hj2 => by omega⟩
       ·cases h'
     ·cases h'
   ·cases h'
end Go.Ax
/- Cells that are laid into a row of the world. -/
namespace Go.Ax
open Go Go.RowKit
theorem setCell_row {w : World} {b o : Nat} {v : Value} {cs : Array Value} {e : TypeId} {fr : Nat × Nat} (h : w.heap[b]? = some (.cells cs e fr)) :
  (w.setCell ⟨b, o, none⟩ v).heap[b]? = some (.cells (cs.setIfInBounds o v) e fr) := by
 obtain ⟨hlt, hk⟩ := Array.getElem?_eq_some_iff.1 h
 show (w.heap.modify b _)[b]? = _
 rw [Array.getElem?_eq_getElem (by rw [Array.size_modify]; exact hlt), Array.getElem_modify_self, hk]
 rfl
theorem setCells_row {b : Nat} {e : TypeId} {fr : Nat × Nat} : ∀ (vs : List Value) (o : Nat) (w : World) (cs : Array Value), w.heap[b]? = some (.cells cs e fr) →
  ∃ cs', (w.setCells b o vs).heap[b]? = some (.cells cs' e fr) ∧ cs'.size = cs.size ∧ ∀ k, k < cs.size → cs'[k]? = if o ≤ k ∧ k < o + vs.length then vs[k - o]? else cs[k]?
 | [], o, w, cs, h => ⟨cs, h, rfl, fun k _ => by rw [if_neg (by rw [List.length_nil]; omega)]⟩
 | v :: vs, o, w, cs, h => by
  obtain ⟨cs', h1, h2, h3⟩ := setCells_row vs (o + 1) _ _ (setCell_row (o := o) (v := v) h)
  rw [Array.size_setIfInBounds] at h2 h3
  refine ⟨cs', h1, h2, fun k hk => ?_⟩
  rw [h3 k hk]
  by_cases hko : k = o
  ·subst hko
   rw [if_neg (by omega), if_pos (by simp), Nat.sub_self, List.getElem?_cons_zero, Array.getElem?_setIfInBounds, if_pos rfl, if_pos hk]
  ·by_cases hin : o + 1 ≤ k ∧ k < o + 1 + vs.length
   ·rw [if_pos hin, if_pos (by simp; omega)]
    obtain ⟨d, hd⟩ : ∃ d, k - o = d + 1 := ⟨k - o - 1, by omega⟩
    rw [hd, List.getElem?_cons_succ]
    congr 1
    omega
   ·rw [if_neg hin, if_neg (by simp; omega), Array.getElem?_setIfInBounds, if_neg (by omega)]
theorem setCells_other {b : Nat} : ∀ (vs : List Value) (o : Nat) (w : World) (k : Nat), k ≠ b → (w.setCells b o vs).heap[k]? = w.heap[k]?
 | [], _, _, _, _ => rfl
 | v :: vs, o, w, k, h => (setCells_other vs (o + 1) _ k h).trans (Below.heap_setCell w ⟨b, o, none⟩ v k h)
theorem setCells_size {b : Nat} : ∀ (vs : List Value) (o : Nat) (w : World), (w.setCells b o vs).heap.size = w.heap.size
 | [], _, _ => rfl
 | v :: vs, o, w => (setCells_size vs (o + 1) _).trans (by simp [World.setCell])
theorem setCells_rest {b : Nat} : ∀ (vs : List Value) (o : Nat) (w : World), (w.setCells b o vs).os = w.os ∧ (w.setCells b o vs).tape = w.tape ∧ (w.setCells b o vs).output = w.output
 | [], _, _ => ⟨rfl, rfl, rfl⟩
 | v :: vs, o, w => setCells_rest vs (o + 1) _
end Go.Ax
