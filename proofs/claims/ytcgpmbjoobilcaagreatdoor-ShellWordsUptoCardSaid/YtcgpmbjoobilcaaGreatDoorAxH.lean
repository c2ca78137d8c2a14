/- Forgetting: states of fewer blocks, numbered below a bound. -/
import Derived.Test.YtcgpmbjoobilcaaGreatDoorAxG
import Derived.Test.YtcgpmbjoobilcaaGreatDoorAxF
set_option linter.unusedSimpArgs false
set_option linter.unusedVariables false
namespace Go.Ax
open Go Go.RowKit
noncomputable section
def vl1 (n : Nat) : Value → Bool
 | .bool _ | .int _ _ | .float _ _ | .string _ | .nilFunc | .nilIface | .pointer none | .slice none _ _ | .map none => true
 | .pointer (some p) => Nat.blt p.block n
 | .slice (some p) _ _ => Nat.blt p.block n
 | .map (some r) => Nat.blt r n
 | _ => false
def vls (e : Value → Bool) : List Value → Bool
 | [] => true
 | v :: l => bif e v then vls e l else false
def vlF (n : Nat) (e : Value → Bool) : Value → Bool
 | .func _ a c => bif vls e a.toList then vls e c.toList else false
 | .iface _ v => e v
 | .agg a => vls e a.toList
 | .tuple a => vls e a.toList
 | v => vl1 n v
def vl (n : Nat) : Value → Bool := vlF n (vlF n (vl1 n))
def Io.cut (i : Io) (n : Nat) : Io := ⟨fun b => bif Nat.blt b n then i b else none, i.lim⟩
theorem cut_some {i : Io} {n b : Nat} {x : Nat × Nat} (h : (i.cut n) b = some x) : i b = some x ∧ b < n := by
 unfold Io.cut at h
 simp only at h
 cases hb : Nat.blt b n with
 | false => rw [hb] at h; cases h
 | true => rw [hb] at h; exact ⟨h, by simpa using hb⟩
theorem cut_lt {i : Io} {n b : Nat} (h : b < n) : (i.cut n) b = i b := by
 have : Nat.blt b n = true := by simpa using h
 unfold Io.cut
 simp [this]
theorem VR.cut1 {i : Io} {n : Nat} {v v' : Value} (h : VR i v v') (hv : vl1 n v = true) : VR (i.cut n) v v' := by
 unfold vl1 at hv
 cases h with
 | bool b => exact .bool b
 | int k m => exact .int k m
 | float k m => exact .float k m
 | string t => exact .string t
 | nilp => exact .nilp
 | ptr h => exact .ptr (by rw [cut_lt (by simpa using hv)]; exact h)
 | nils h => exact .nils h
 | slice h1 h2 h3 h4 h5 h6 => exact .slice (by rw [cut_lt (by simpa using hv)]; exact h1) h2 h3 h4 h5 h6
 | nilm => exact .nilm
 | map h => exact .map (by rw [cut_lt (by simpa using hv)]; exact h)
 | nilFunc => exact .nilFunc
 | nilIface => exact .nilIface
 | func f h h' => cases hv
 | iface t h => cases hv
 | agg h => cases hv
 | tuple h => cases hv
theorem VRs.cutS {i : Io} {n : Nat} {e : Value → Bool} (he : ∀ {v v' : Value}, VR i v v' → e v = true → VR (i.cut n) v v') : ∀ {l l' : List Value}, VRs i l l' → vls e l = true → VRs (i.cut n) l l'
 | _, _, .nil, _ => .nil
 | v :: l, _, .cons h h', hv => by
  have hv' : (bif e v then vls e l else false) = true := hv
  cases hb : e v with
  | false => rw [hb] at hv'; cases hv'
  | true => rw [hb] at hv'; exact .cons (he h hb) (h'.cutS he hv')
theorem VR.cutF {i : Io} {n : Nat} {e : Value → Bool} (he : ∀ {v v' : Value}, VR i v v' → e v = true → VR (i.cut n) v v') {v v' : Value} (h : VR i v v') (hv : vlF n e v = true) : VR (i.cut n) v v' := by
 cases h with
 | func f h h' =>
  unfold vlF at hv
  simp only at hv
  rename_i a a' c c'
  cases hb : vls e a with
  | false => rw [hb] at hv; cases hv
  | true => rw [hb] at hv; exact .func f (h.cutS he hb) (h'.cutS he hv)
 | iface t h => exact .iface t (he h hv)
 | agg h => exact .agg (h.cutS he hv)
 | tuple h => exact .tuple (h.cutS he hv)
 | bool b => exact .bool b
 | int k m => exact .int k m
 | float k m => exact .float k m
 | string t => exact .string t
 | nilp => exact .nilp
 | ptr h => exact VR.cut1 (.ptr h) hv
 | nils h => exact .nils h
 | slice h1 h2 h3 h4 h5 h6 => exact VR.cut1 (.slice h1 h2 h3 h4 h5 h6) hv
 | nilm => exact .nilm
 | map h => exact VR.cut1 (.map h) hv
 | nilFunc => exact .nilFunc
 | nilIface => exact .nilIface
theorem VR.cut {i : Io} {n : Nat} {v v' : Value} (h : VR i v v') (hv : vl n v = true) : VR (i.cut n) v v' :=
 VR.cutF (fun h hv => VR.cutF (fun h hv => VR.cut1 h hv) h hv) h hv
def vlE (n : Nat) : List (Value × Value) → Bool
 | [] => true
 | e :: l => bif vl n e.2 then vlE n l else false
def osL (n : Nat) : OS → Bool
 | .cells l _ _ => vls (vl n) l
 | .ro l _ => vls (vl n) l
 | .map es => vlE n es
 | .iter _ _ => true
 | .dead => false
def preL (n : Nat) : List (Nat × OS) → Bool
 | [] => true
 | x :: l => bif Nat.blt x.1 n && osL n x.2 then preL n l else false
theorem preL_spec {n : Nat} : ∀ {l : List (Nat × OS)}, preL n l = true → ∀ b x, (b, x) ∈ l → b < n ∧ osL n x = true
 | [], _, b, x, h => by cases h
 | y :: l, h, b, x, hm => by
  have h' : (bif Nat.blt y.1 n && osL n y.2 then preL n l else false) = true := h
  cases hb : Nat.blt y.1 n && osL n y.2 with
  | false => rw [hb] at h'; cases h'
  | true =>
   rw [hb] at h'
   rcases List.mem_cons.1 hm with rfl | hm
   ·simpa using hb
   ·exact preL_spec h' b x hm
theorem vls_get {e : Value → Bool} : ∀ {l : List Value}, vls e l = true → ∀ {k : Nat} {v : Value}, l[k]? = some v → e v = true
 | [], _, k, v, h => by simp at h
 | x :: l, h, k, v, hk => by
  have h' : (bif e x then vls e l else false) = true := h
  cases hb : e x with
  | false => rw [hb] at h'; cases h'
  | true =>
   rw [hb] at h'
   cases k with
   | zero => simp at hk; subst hk; exact hb
   | succ k => exact vls_get h' (by simpa using hk)
theorem MR.cutM {i : Io} {n : Nat} : ∀ {es : List (Value × Value)} {l : List MapEntry}, MR i es l → vlE n es = true → MR (i.cut n) es l
 | _, _, .nil, _ => .nil
 | (k, v) :: es, _, .cons h h1 h', hv => by
  have hv' : (bif vl n v then vlE n es else false) = true := hv
  cases hb : vl n v with
  | false => rw [hb] at hv'; cases hv'
  | true => rw [hb] at hv'; exact .cons h (h1.cut hb) (h'.cutM hv')
theorem OR.cut {i : Io} {n : Nat} {x : OS} (hx : osL n x = true) {o : Option Obj} {t : Nat} (h : OR i x.mk o t) : OR (i.cut n) x.mk o t := by
 cases x with
 | cells l m z =>
  obtain ⟨cs, e, fr, h1, h2, h3, h4, h5⟩ := h
  refine ⟨cs, e, fr, h1, h2, h3, fun k v hk hv => ?_, h5⟩
  obtain ⟨v', g1, g2⟩ := h4 k v hk hv
  rw [T.get_fill] at hv
  split at hv
  ·exact ⟨v', g1, g2.cut (vls_get hx hv)⟩
  ·cases hv
 | ro l m =>
  obtain ⟨cs, e, fr, h1, h2, h4⟩ := h
  refine ⟨cs, e, fr, h1, h2, fun k v hk hv => ?_⟩
  obtain ⟨v', g1, g2⟩ := h4 k v hk hv
  rw [T.get_fill] at hv
  split at hv
  ·exact ⟨v', g1, g2.cut (vls_get hx hv)⟩
  ·cases hv
 | map es =>
  obtain ⟨h0, es', clk, l, h1, h2, h3, h4, h5⟩ := h
  exact ⟨h0, es', clk, l, h1, h2, h3.cutM hx, h4, h5⟩
 | iter s p => exact h
 | dead => cases hx
def stL (pre : List (Nat × OS)) (nx : Nat) : AS := ⟨T.e.lay (mkL pre), nx⟩
theorem stL_get {pre : List (Nat × OS)} {nx b : Nat} {o : AObj} (h : (stL pre nx).h.get b = some o) : ∃ x, (b, x) ∈ pre ∧ o = x.mk := by
 rcases T.lay_get T.e (mkL pre) b with ⟨o', h1, h2⟩ | ⟨_, h2⟩
 ·have : some o = some o' := h.symm.trans h2
  cases this
  exact mkL_mem h1
 ·have : some o = none := h.symm.trans h2
  cases this
theorem osL_alive {n : Nat} {x : OS} (h : osL n x = true) : alive x.mk = true := by
 cases x with
 | dead => cases h
 | _ => rfl
theorem stL_key {pre : List (Nat × OS)} {nx : Nat} {s : AS} (hpre : preL nx pre = true) (hs : ∀ b x, (b, x) ∈ pre → ∃ o, s.h.get b = some o ∧ Wk x.mk o) :
  ∀ b o, (stL pre nx).h.get b = some o → ∃ x o', (b, x) ∈ pre ∧ o = x.mk ∧ s.h.get b = some o' ∧ Wk x.mk o' ∧ alive x.mk = true ∧ osL nx x = true ∧ b < nx := fun b o ho => by
 obtain ⟨x, h1, h2⟩ := stL_get ho
 obtain ⟨o', h3, h4⟩ := hs b x h1
 obtain ⟨h5, h6⟩ := preL_spec hpre b x h1
 exact ⟨x, o', h1, h2, h3, h4, osL_alive h6, h6, h5⟩
theorem Rel.cutS {i : Io} {s : AS} {w : World} (hR : Rel i s w) {pre : List (Nat × OS)} {nx : Nat} (hpre : preL nx pre = true) (hs : ∀ b x, (b, x) ∈ pre → ∃ o, s.h.get b = some o ∧ Wk x.mk o) : Rel (i.cut nx) (stL pre nx) w := by
 have key := stL_key hpre hs
 refine ⟨fun b o ho hal => ?_, fun b b' o o' q t t' ho ho' hal hal' e e' => ?_, fun b hb' => ?_, fun b c n z q t ho e => ?_, fun b q t e hor => ?_⟩
 ·obtain ⟨x, o', h1, rfl, h3, h4, h5, h6, h7⟩ := key b o ho
  obtain ⟨q, t, g1, g2⟩ := hR.obj b o' h3 (h4.live h5)
  exact ⟨q, t, by rw [cut_lt h7]; exact g1, OR.cut h6 (h4.or h5 g2)⟩
 ·obtain ⟨x, p, h1, rfl, h3, h4, h5, h6, h7⟩ := key b o ho
  obtain ⟨x', p', h1', rfl, h3', h4', h5', h6', h7'⟩ := key b' o' ho'
  exact hR.inj b b' p p' q t t' h3 h3' (h4.live h5) (h4'.live h5') (cut_some e).1 (cut_some e').1
 ·have hb'' : nx ≤ b := hb'
  refine ⟨?_, ?_⟩
  ·cases hc : (i.cut nx) b with
   | none => rfl
   | some x => have := (cut_some hc).2; omega
  ·cases hc : (stL pre nx).h.get b with
   | none => rfl
   | some o => obtain ⟨_, _, _, _, _, _, _, _, h⟩ := key b o hc; omega
 ·obtain ⟨x, o', h1, h2, h3, h4, h5, h6, h7⟩ := key b _ ho
  rw [← h2] at h4
  cases o' with
  | cells c' n' z' =>
   obtain ⟨rfl, rfl, _⟩ := h4
   exact hR.lim b c' n z q t h3 (cut_some e).1
  | _ => exact h4.elim
 ·refine hR.dom b q t (cut_some e).1 (hor.imp (fun h => ?_) id)
  cases hc : (stL pre nx).h.get b with
  | none => exact absurd hc h
  | some o =>
   obtain ⟨_, o', _, _, h3, _⟩ := key b o hc
   rw [h3]
   exact fun h => by cases h
end
end Go.Ax
/- A kept call that lays no block that lasts: good wherever these blocks are the same, whatever else was laid since. -/
namespace Go.Ax
open Go Go.RowKit
noncomputable section
def osD (n : Nat) (x : OS) : Bool := @OS.rec (fun _ => Bool) (fun l _ _ => vls (vl n) l) (fun l _ => vls (vl n) l) (fun es => vlE n es) (fun _ _ => true) true x
def postL (n : Nat) : List (Nat × OS) → Bool
 | [] => true
 | x :: l => bif Nat.blt x.1 n && osD n x.2 then postL n l else false
theorem postL_spec {n : Nat} : ∀ {l : List (Nat × OS)}, postL n l = true → ∀ b x, (b, x) ∈ l → b < n ∧ osD n x = true
 | [], _, b, x, h => by cases h
 | y :: l, h, b, x, hm => by
  have h' : (bif Nat.blt y.1 n && osD n y.2 then postL n l else false) = true := h
  cases hb : Nat.blt y.1 n && osD n y.2 with
  | false => rw [hb] at h'; cases h'
  | true =>
   rw [hb] at h'
   rcases List.mem_cons.1 hm with rfl | hm
   ·simpa using hb
   ·exact postL_spec h' b x hm
def keptB (m : MS) : Bool := preL m.nx m.pre && (postL m.nx m.post && (vl m.nx m.ans && (vls (vl m.nx) m.args && Nat.ble 1000 m.nx)))
def fitsN (m : MS) (args : List Value) (s : AS) : Bool := bAnd (Nat.ble m.nx s.nx) (bAnd (eqL m.args args) (lookB s.h m.pre))
def MS.leftN (m : MS) (s : AS) : AS := ⟨s.h.lay (mkL m.post), s.nx⟩
theorem VRs.cutL {i : Io} {n : Nat} {l l' : List Value} (h : VRs i l l') (hv : vls (vl n) l = true) : VRs (i.cut n) l l' := h.cutS (fun h hv => h.cut hv) hv
theorem kept_sim {P : Program} {m : MS} {call : CallF} {f : FuncId} (hC : CallOk P call) (hm : m.memo.Ok call f) (hk : keptB m = true) {args : List Value} {s : AS} (hf : fitsN m args s = true) {i : Io} {w : World} {args' : List Value} (hR : Rel i s w) (hg : Gl i) (ha : VRs i args args') :
  FSim P f args' i s w m.ans (m.leftN s) := by
 unfold keptB at hk
 simp only [Bool.and_eq_true] at hk
 obtain ⟨k1, k2, k3, k4, k5⟩ := hk
 have k5 := Nat.le_of_ble_eq_true k5
 obtain ⟨f1, f2⟩ := bAnd_eq hf
 obtain ⟨f2, f3⟩ := bAnd_eq f2
 have f1 := Nat.le_of_ble_eq_true f1
 have hargs : m.args = args := eqL_eq _ _ f2
 subst hargs
 have hs := lookB_eq s.h m.pre f3
 have key := stL_key k1 hs
 have hR0 : Rel (i.cut m.nx) (stL m.pre m.nx) w := hR.cutS k1 hs
 have hst : m.memo.st = stL m.pre m.nx := rfl
 obtain ⟨t', hrun, hnx, hpost⟩ := hm.run
 rw [hst] at hrun
 have hg0 : Gl (i.cut m.nx) := fun g hg' => by rw [cut_lt (by omega)]; exact hg g hg'
 have hF := hC f m.args _ m.ans t' hrun (i.cut m.nx) w args' hR0 hg0 (ha.cutL k4)
 have fin : ∀ v' w' i', VR i' m.ans v' → Rel i' t' w' → Fr (i.cut m.nx) (stL m.pre m.nx) w i' t' w' → VR i m.ans v' ∧ Rel i (m.leftN s) w' ∧ Fr i s w i (m.leftN s) w' := by
  intro v' w' i' hv hR' hF'
  have agree : ∀ b, b < m.nx → i' b = i b := fun b hb => by
   cases hi : i b with
   | some x => exact hF'.le b x (by rw [cut_lt hb]; exact hi)
   | none => exact hF'.dom b hb (by rw [cut_lt hb]; exact hi)
  have hle : Le (i'.cut m.nx) i := ⟨fun b x e => by
    obtain ⟨e1, e2⟩ := cut_some e
    rw [agree b e2] at e1
    exact e1, fun b x e => by
    obtain ⟨e1, e2⟩ := cut_some e
    have e3 : (i.cut m.nx) b = some x := by rw [cut_lt e2, ← agree b e2]; exact e1
    exact (hF'.le.lim b x e3).symm⟩
  have back : ∀ {v v' : Value}, VR i' v v' → vl m.nx v = true → VR i v v' := fun h hv => (h.cut hv).mono hle
  have inPost : ∀ b x, (b, x) ∈ m.post → b < m.nx ∧ ∃ p o, (b, p) ∈ m.pre ∧ fixed p.mk = false ∧ s.h.get b = some o ∧ Wk p.mk o ∧ alive o = true := fun b x hb => by
   obtain ⟨h1, _⟩ := postL_spec k2 b x hb
   rcases hm.post b x.mk (mem_mkL hb) with h | ⟨o', h, h2⟩
   ·have : m.nx ≤ b := h
    omega
   ·obtain ⟨p, h3, rfl⟩ := mkL_mem h
    obtain ⟨o, h4, h5⟩ := hs b p h3
    exact ⟨h1, p, o, h3, h2, h4, h5, h5.live (hm.live b p.mk h)⟩
  have layGet : ∀ b, (∃ x, (b, x) ∈ m.post ∧ (m.leftN s).h.get b = some x.mk) ∨ ((∀ x, (b, x) ∉ m.post) ∧ (m.leftN s).h.get b = s.h.get b) := fun b => by
   rcases T.lay_get s.h (mkL m.post) b with ⟨o, h1, h2⟩ | ⟨h1, h2⟩
   ·obtain ⟨x, h3, rfl⟩ := mkL_mem h1
    exact .inl ⟨x, h3, h2⟩
   ·exact .inr ⟨fun x hx => h1 _ (mem_mkL hx), h2⟩
  have obEq : ∀ b t q, (i.cut m.nx) b = some (q, t) → fixed (obA s b) = true → fixed (obA (stL m.pre m.nx) b) = true := fun b t q e h => by
   cases hc : (stL m.pre m.nx).h.get b with
   | none => unfold obA; rw [hc]; rfl
   | some o =>
    obtain ⟨x, o', _, rfl, h3, h4, h5, _, _⟩ := key b o hc
    rw [obA_some hc, ← h4.fix h5, ← obA_some h3]
    exact h
  have same : ∀ b o q t, s.h.get b = some o → alive o = true → i b = some (q, t) → (∀ x, (b, x) ∉ m.post) → w'.heap[q]? = w.heap[q]? := fun b o q t ho hal hi hno => by
   refine hF'.keep q (hR.dom b q t hi (.inl (by rw [ho]; simp))) (fun b1 t1 e1 => ?_)
   cases hc : (stL m.pre m.nx).h.get b1 with
   | none => unfold obA; rw [hc]; rfl
   | some o1 =>
    obtain ⟨x, o', h1, rfl, h3, h4, h5, _, _⟩ := key b1 o1 hc
    have hb : b1 = b := hR.inj b1 b o' o q t1 t h3 ho (h4.live h5) hal (cut_some e1).1 hi
    subst hb
    rw [obA_some hc]
    cases hfx : fixed x.mk with
    | true => rfl
    | false =>
     obtain ⟨o2, h6⟩ := hm.pre b1 x.mk (mem_mkL h1) hfx
     obtain ⟨y, h7, _⟩ := mkL_mem h6
     exact absurd h7 (hno y)
  refine ⟨back hv k3, ⟨fun b o ho hal => ?_, fun b b' o o' q t t1 ho ho' hal hal' e e' => ?_, fun b hb => ?_, fun b c n z q t ho e => ?_, fun b q t e hor => ?_⟩,
   ⟨.refl i, fun _ _ _ e => .inl e, hF'.os, hF'.tape, hF'.output, hF'.size, fun q hq hn => ?_, fun b x e hfx => ?_, Nat.le_refl _, fun _ _ e => e, fun b hb hi hn => ?_, fun b hn => ?_⟩⟩
  ·rcases layGet b with ⟨x, h1, h2⟩ | ⟨h1, h2⟩
   ·rw [h2] at ho
    cases ho
    obtain ⟨hb, _⟩ := postL_spec k2 b x h1
    obtain ⟨_, hx⟩ := postL_spec k2 b x h1
    obtain ⟨o', g1, g2⟩ := hpost b x.mk (mem_mkL h1)
    obtain ⟨q, t, g3, g4⟩ := hR'.obj b o' g1 (g2.live hal)
    refine ⟨q, t, by rw [← agree b hb]; exact g3, ?_⟩
    have hx' : osL m.nx x = true := by
     cases x with
     | dead => cases hal
     | _ => exact hx
    exact (OR.cut hx' (g2.or hal g4)).mono hle
   ·rw [h2] at ho
    obtain ⟨q, t, g1, g2⟩ := hR.obj b o ho hal
    exact ⟨q, t, g1, by rw [same b o q t ho hal g1 h1]; exact g2⟩
  ·have up : ∀ b o, (m.leftN s).h.get b = some o → ∃ p, s.h.get b = some p ∧ (alive o = true → alive p = true) := fun b o ho => by
    rcases layGet b with ⟨x, h1, h2⟩ | ⟨h1, h2⟩
    ·obtain ⟨_, p, p', h3, _, h4, _, h5⟩ := inPost b x h1
     exact ⟨p', h4, fun _ => h5⟩
    ·exact ⟨o, by rw [← h2]; exact ho, id⟩
   obtain ⟨p, g1, g2⟩ := up b o ho
   obtain ⟨p', g1', g2'⟩ := up b' o' ho'
   exact hR.inj b b' p p' q t t1 g1 g1' (g2 hal) (g2' hal') e e'
  ·have hb' : s.nx ≤ b := hb
   obtain ⟨h1, h2⟩ := hR.fresh b hb'
   refine ⟨h1, ?_⟩
   rcases layGet b with ⟨x, h3, _⟩ | ⟨_, h4⟩
   ·obtain ⟨_, _, o, _, _, h5, _⟩ := inPost b x h3
    rw [h2] at h5
    cases h5
   ·rw [h4, h2]
  ·rcases layGet b with ⟨x, h1, h2⟩ | ⟨h1, h2⟩
   ·rw [h2] at ho
    injection ho with ho
    obtain ⟨hb, _⟩ := postL_spec k2 b x h1
    obtain ⟨o', g1, g2⟩ := hpost b x.mk (mem_mkL h1)
    rw [ho] at g2
    cases o' with
    | cells c' n' z' =>
     obtain ⟨rfl, rfl, _⟩ := g2
     have e' : i' b = some (q, t) := by rw [agree b hb]; exact e
     obtain ⟨l1, l2⟩ := hR'.lim b c' n z q t g1 e'
     have hl : i.lim b = i'.lim b := (hF'.le.lim b (q, t) (by rw [cut_lt hb]; exact e)).symm
     rw [hl]
     exact ⟨l1, l2⟩
    | _ => exact g2.elim
   ·rw [h2] at ho
    obtain ⟨l1, l2⟩ := hR.lim b c n z q t ho e
    exact ⟨l1, fun cs e' fr hw => l2 cs e' fr (by rw [← same b _ q t ho rfl e h1]; exact hw)⟩
  ·refine Nat.lt_of_lt_of_le (hR.dom b q t e (hor.imp (fun h => ?_) id)) hF'.size
   rcases layGet b with ⟨x, h1, _⟩ | ⟨_, h2⟩
   ·obtain ⟨_, _, o, _, _, h5, _⟩ := inPost b x h1
    rw [h5]
    exact fun h => by cases h
   ·rw [← h2]; exact h
  ·exact hF'.keep q hq (fun b t e => obEq b t q e (hn b t (cut_some e).1))
  ·rcases layGet b with ⟨y, h1, _⟩ | ⟨_, h2⟩
   ·obtain ⟨_, p, o, h3, h4, h5, h6, h7⟩ := inPost b y h1
    rw [obA_some h5] at hfx
    rw [h6.fix (hm.live b p.mk (mem_mkL h3)), h4] at hfx
    cases hfx
   ·exact h2
  ·rcases layGet b with ⟨x, h1, _⟩ | ⟨_, h2⟩
   ·obtain ⟨_, _, o, _, _, h5, _⟩ := inPost b x h1
    rw [hn] at h5
    cases h5
   ·rw [h2]; exact hn
  ·rcases layGet b with ⟨x, _, h2⟩ | ⟨_, h2⟩
   ·rw [h2]; exact fun h => by cases h
   ·rw [h2]; exact hn
 rcases hF with ⟨v', w', i', q1, q2, q3, q4⟩ | ⟨q1, q2⟩
 ·obtain ⟨z1, z2, z3⟩ := fin v' w' i' q2 q3 q4
  exact .inl ⟨v', w', i, q1, z1, z2, z3⟩
 ·refine .inr ⟨q1, Calls.mono q2 (fun e w' he => ?_)⟩
  cases e with
  | returned v' =>
   obtain ⟨i', h1, h2, h3⟩ := he
   exact ⟨i, fin v' w' i' h1 h2 h3⟩
  | panicked c => exact he.elim
  | outgrown => exact he.elim
def keptP (ms : List MS) (els : List Value → AS → R) : List Value → AS → R :=
 @List.rec MS (fun _ => List Value → AS → R) els (fun m _ ih args s => @Bool.rec (fun _ => R) (ih args s) (some (m.ans, m.leftN s)) (fitsN m args s)) ms
theorem keptP_ok {P : Program} {call : CallF} {f : FuncId} (hC : CallOk P call) {els : List Value → AS → R} (he : POk P f els) : ∀ (ms : List MS), (∀ m ∈ ms, m.memo.Ok call f ∧ keptB m = true) → POk P f (keptP ms els)
 | [], _ => he
 | m :: ms, h => by
  intro args s v s' hr i w args' hR hg ha
  have hr' : @Bool.rec (fun _ => R) (keptP ms els args s) (some (m.ans, m.leftN s)) (fitsN m args s) = some (v, s') := hr
  cases hb : fitsN m args s with
  | true =>
   rw [hb] at hr'
   injection hr' with hr'
   cases hr'
   obtain ⟨h1, h2⟩ := h m (List.mem_cons_self ..)
   exact kept_sim hC h1 h2 hb hR hg ha
  | false =>
   rw [hb] at hr'
   exact keptP_ok hC he ms (fun m hm => h m (List.mem_cons_of_mem _ hm)) args s v s' hr' i w args' hR hg ha
end
end Go.Ax
