/- Forgetting: states of fewer blocks, numbered below a bound. -/
import Derived.Test.YtmnckhmmcnbaiaaGreatDoorAxG
import Derived.Test.YtmnckhmmcnbaiaaGreatDoorAxF
import Derived.Test.YtmnckhmmcnbaiaaGreatDoorAxD
import Derived.Test.YtmnckhmmcnbaiaaGreatDoorAxA
set_option linter.unusedSimpArgs false
set_option linter.unusedVariables false
namespace Go.Ax
open Go Go.RowKit

noncomputable section
/-! ### Forgetting -/
/-- Values that speak of no block from n on. -/
def vl1 (n : Nat) : Value → Bool
  | .bool _ | .int _ _ | .float _ _ | .string _ | .nilFunc | .nilIface | .pointer none | .slice none _ _ | .map none => true
  | .pointer (some p) => Nat.blt p.block n
  | .slice (some p) _ _ => Nat.blt p.block n
  | .map (some r) => Nat.blt r n
  | _ => false
def vls (e : Value → Bool) : List Value → Bool
  | [] => true
  | v :: l => bif e v then vls e l else false
def vlF (n : Nat) (e : Value → Bool) : Value → Bool
  | .func _ a c => bif vls e a.toList then vls e c.toList else false
  | .iface _ v => e v
  | .agg a => vls e a.toList
  | .tuple a => vls e a.toList
  | v => vl1 n v
def vl (n : Nat) : Value → Bool := vlF n (vlF n (vl1 n))

def Io.cut (i : Io) (n : Nat) : Io := ⟨fun b => bif Nat.blt b n then i b else none, i.lim⟩
theorem cut_some {i : Io} {n b : Nat} {x : Nat × Nat} (h : (i.cut n) b = some x) : i b = some x ∧ b < n := by
  unfold Io.cut at h
  simp only at h
  cases hb : Nat.blt b n with
  | false => rw [hb] at h; cases h
  | true => rw [hb] at h; exact ⟨h, by simpa using hb⟩
theorem cut_lt {i : Io} {n b : Nat} (h : b < n) : (i.cut n) b = i b := by
  have : Nat.blt b n = true := by simpa using h
  unfold Io.cut
  simp [this]

theorem VR.cut1 {i : Io} {n : Nat} {v v' : Value} (h : VR i v v') (hv : vl1 n v = true) : VR (i.cut n) v v' := by
  unfold vl1 at hv
  cases h with
  | bool b => exact .bool b
  | int k m => exact .int k m
  | float k m => exact .float k m
  | string t => exact .string t
  | nilp => exact .nilp
  | ptr h => exact .ptr (by rw [cut_lt (by simpa using hv)]; exact h)
  | nils h => exact .nils h
  | slice h1 h2 h3 h4 h5 h6 => exact .slice (by rw [cut_lt (by simpa using hv)]; exact h1) h2 h3 h4 h5 h6
  | nilm => exact .nilm
  | map h => exact .map (by rw [cut_lt (by simpa using hv)]; exact h)
  | nilFunc => exact .nilFunc
  | nilIface => exact .nilIface
  | func f h h' => cases hv
  | iface t h => cases hv
  | agg h => cases hv
  | tuple h => cases hv
theorem VRs.cutS {i : Io} {n : Nat} {e : Value → Bool} (he : ∀ {v v' : Value}, VR i v v' → e v = true → VR (i.cut n) v v') : ∀ {l l' : List Value}, VRs i l l' → vls e l = true → VRs (i.cut n) l l'
  | _, _, .nil, _ => .nil
  | v :: l, _, .cons h h', hv => by
    have hv' : (bif e v then vls e l else false) = true := hv
    cases hb : e v with
    | false => rw [hb] at hv'; cases hv'
    | true => rw [hb] at hv'; exact .cons (he h hb) (h'.cutS he hv')
theorem VR.cutF {i : Io} {n : Nat} {e : Value → Bool} (he : ∀ {v v' : Value}, VR i v v' → e v = true → VR (i.cut n) v v') {v v' : Value} (h : VR i v v') (hv : vlF n e v = true) : VR (i.cut n) v v' := by
  cases h with
  | func f h h' =>
    unfold vlF at hv
    simp only at hv
    rename_i a a' c c'
    cases hb : vls e a with
    | false => rw [hb] at hv; cases hv
    | true => rw [hb] at hv; exact .func f (h.cutS he hb) (h'.cutS he hv)
  | iface t h => exact .iface t (he h hv)
  | agg h => exact .agg (h.cutS he hv)
  | tuple h => exact .tuple (h.cutS he hv)
  | bool b => exact .bool b
  | int k m => exact .int k m
  | float k m => exact .float k m
  | string t => exact .string t
  | nilp => exact .nilp
  | ptr h => exact VR.cut1 (.ptr h) hv
  | nils h => exact .nils h
  | slice h1 h2 h3 h4 h5 h6 => exact VR.cut1 (.slice h1 h2 h3 h4 h5 h6) hv
  | nilm => exact .nilm
  | map h => exact VR.cut1 (.map h) hv
  | nilFunc => exact .nilFunc
  | nilIface => exact .nilIface
theorem VR.cut {i : Io} {n : Nat} {v v' : Value} (h : VR i v v') (hv : vl n v = true) : VR (i.cut n) v v' :=
  VR.cutF (fun h hv => VR.cutF (fun h hv => VR.cut1 h hv) h hv) h hv

/-- A block's cells speak of no block from n on. -/
def vlE (n : Nat) : List (Value × Value) → Bool
  | [] => true
  | e :: l => bif vl n e.2 then vlE n l else false
def osL (n : Nat) : OS → Bool
  | .cells l _ _ => vls (vl n) l
  | .ro l _ => vls (vl n) l
  | .map es => vlE n es
  | .iter _ _ => true
  | .dead => false
def preL (n : Nat) : List (Nat × OS) → Bool
  | [] => true
  | x :: l => bif Nat.blt x.1 n && osL n x.2 then preL n l else false
theorem preL_spec {n : Nat} : ∀ {l : List (Nat × OS)}, preL n l = true → ∀ b x, (b, x) ∈ l → b < n ∧ osL n x = true
  | [], _, b, x, h => by cases h
  | y :: l, h, b, x, hm => by
    have h' : (bif Nat.blt y.1 n && osL n y.2 then preL n l else false) = true := h
    cases hb : Nat.blt y.1 n && osL n y.2 with
    | false => rw [hb] at h'; cases h'
    | true =>
      rw [hb] at h'
      rcases List.mem_cons.1 hm with rfl | hm
      · simpa using hb
      · exact preL_spec h' b x hm

theorem vls_get {e : Value → Bool} : ∀ {l : List Value}, vls e l = true → ∀ {k : Nat} {v : Value}, l[k]? = some v → e v = true
  | [], _, k, v, h => by simp at h
  | x :: l, h, k, v, hk => by
    have h' : (bif e x then vls e l else false) = true := h
    cases hb : e x with
    | false => rw [hb] at h'; cases h'
    | true =>
      rw [hb] at h'
      cases k with
      | zero => simp at hk; subst hk; exact hb
      | succ k => exact vls_get h' (by simpa using hk)

theorem MR.cutM {i : Io} {n : Nat} : ∀ {es : List (Value × Value)} {l : List MapEntry}, MR i es l → vlE n es = true → MR (i.cut n) es l
  | _, _, .nil, _ => .nil
  | (k, v) :: es, _, .cons h h1 h', hv => by
    have hv' : (bif vl n v then vlE n es else false) = true := hv
    cases hb : vl n v with
    | false => rw [hb] at hv'; cases hv'
    | true => rw [hb] at hv'; exact .cons h (h1.cut hb) (h'.cutM hv')

theorem OR.cut {i : Io} {n : Nat} {x : OS} (hx : osL n x = true) {o : Option Obj} {t : Nat} (h : OR i x.mk o t) : OR (i.cut n) x.mk o t := by
  cases x with
  | cells l m z =>
    obtain ⟨cs, e, fr, h1, h2, h3, h4, h5⟩ := h
    refine ⟨cs, e, fr, h1, h2, h3, fun k v hk hv => ?_, h5⟩
    obtain ⟨v', g1, g2⟩ := h4 k v hk hv
    rw [T.get_fill] at hv
    split at hv
    · exact ⟨v', g1, g2.cut (vls_get hx hv)⟩
    · cases hv
  | ro l m =>
    obtain ⟨cs, e, fr, h1, h2, h4⟩ := h
    refine ⟨cs, e, fr, h1, h2, fun k v hk hv => ?_⟩
    obtain ⟨v', g1, g2⟩ := h4 k v hk hv
    rw [T.get_fill] at hv
    split at hv
    · exact ⟨v', g1, g2.cut (vls_get hx hv)⟩
    · cases hv
  | map es =>
    obtain ⟨h0, es', clk, l, h1, h2, h3, h4, h5⟩ := h
    exact ⟨h0, es', clk, l, h1, h2, h3.cutM hx, h4, h5⟩
  | iter s p => exact h
  | dead => cases hx

/-- A state out of a list of blocks; slots out of a list. -/
def stL (pre : List (Nat × OS)) (nx : Nat) : AS := ⟨T.e.lay (mkL pre), nx⟩
def tmL (tl : List (Nat × Value)) : Tm := @List.rec (Nat × Value) (fun _ => Tm) T.e (fun x _ ih => T.set ih x.1 x.2) tl
theorem tmL_get : ∀ (tl : List (Nat × Value)) {k : Nat} {v : Value}, (tmL tl).get k = some v → (k, v) ∈ tl
  | [], k, v, h => by cases h
  | x :: tl, k, v, h => by
    have h' : (T.set (tmL tl) x.1 x.2).get k = some v := h
    rw [T.get_set] at h'
    split at h'
    · rename_i e; cases h'; subst e; exact List.mem_cons_self ..
    · exact List.mem_cons_of_mem _ (tmL_get tl h')
theorem stL_get {pre : List (Nat × OS)} {nx b : Nat} {o : AObj} (h : (stL pre nx).h.get b = some o) : ∃ x, (b, x) ∈ pre ∧ o = x.mk := by
  rcases T.lay_get T.e (mkL pre) b with ⟨o', h1, h2⟩ | ⟨_, h2⟩
  · have : some o = some o' := h.symm.trans h2
    cases this
    exact mkL_mem h1
  · have : some o = none := h.symm.trans h2
    cases this

theorem osL_alive {n : Nat} {x : OS} (h : osL n x = true) : alive x.mk = true := by
  cases x with
  | dead => cases h
  | _ => rfl


theorem stL_key {pre : List (Nat × OS)} {nx : Nat} {s : AS} (hpre : preL nx pre = true) (hs : ∀ b x, (b, x) ∈ pre → ∃ o, s.h.get b = some o ∧ Wk x.mk o) :
    ∀ b o, (stL pre nx).h.get b = some o → ∃ x o', (b, x) ∈ pre ∧ o = x.mk ∧ s.h.get b = some o' ∧ Wk x.mk o' ∧ alive x.mk = true ∧ osL nx x = true ∧ b < nx := fun b o ho => by
  obtain ⟨x, h1, h2⟩ := stL_get ho
  obtain ⟨o', h3, h4⟩ := hs b x h1
  obtain ⟨h5, h6⟩ := preL_spec hpre b x h1
  exact ⟨x, o', h1, h2, h3, h4, osL_alive h6, h6, h5⟩
theorem Rel.cutS {i : Io} {s : AS} {w : World} (hR : Rel i s w) {pre : List (Nat × OS)} {nx : Nat} (hpre : preL nx pre = true) (hs : ∀ b x, (b, x) ∈ pre → ∃ o, s.h.get b = some o ∧ Wk x.mk o) : Rel (i.cut nx) (stL pre nx) w := by
  have key := stL_key hpre hs
  refine ⟨fun b o ho hal => ?_, fun b b' o o' q t t' ho ho' hal hal' e e' => ?_, fun b hb' => ?_, fun b c n z q t ho e => ?_, fun b q t e hor => ?_⟩
  · obtain ⟨x, o', h1, rfl, h3, h4, h5, h6, h7⟩ := key b o ho
    obtain ⟨q, t, g1, g2⟩ := hR.obj b o' h3 (h4.live h5)
    exact ⟨q, t, by rw [cut_lt h7]; exact g1, OR.cut h6 (h4.or h5 g2)⟩
  · obtain ⟨x, p, h1, rfl, h3, h4, h5, h6, h7⟩ := key b o ho
    obtain ⟨x', p', h1', rfl, h3', h4', h5', h6', h7'⟩ := key b' o' ho'
    exact hR.inj b b' p p' q t t' h3 h3' (h4.live h5) (h4'.live h5') (cut_some e).1 (cut_some e').1
  · have hb'' : nx ≤ b := hb'
    refine ⟨?_, ?_⟩
    · cases hc : (i.cut nx) b with
      | none => rfl
      | some x => have := (cut_some hc).2; omega
    · cases hc : (stL pre nx).h.get b with
      | none => rfl
      | some o => obtain ⟨_, _, _, _, _, _, _, _, h⟩ := key b o hc; omega
  · obtain ⟨x, o', h1, h2, h3, h4, h5, h6, h7⟩ := key b _ ho
    rw [← h2] at h4
    cases o' with
    | cells c' n' z' =>
      obtain ⟨rfl, rfl, _⟩ := h4
      exact hR.lim b c' n z q t h3 (cut_some e).1
    | _ => exact h4.elim
  · refine hR.dom b q t (cut_some e).1 (hor.imp (fun h => ?_) id)
    cases hc : (stL pre nx).h.get b with
    | none => exact absurd hc h
    | some o =>
      obtain ⟨_, o', _, _, h3, _⟩ := key b o hc
      rw [h3]
      exact fun h => by cases h
end
end Go.Ax
/- A kept call that lays no block that lasts: good wherever these blocks are the same, whatever else was laid since. -/
namespace Go.Ax
open Go Go.RowKit

noncomputable section
/-- The lists are in order: all that it left speaks of the blocks that it found. -/
def osD (n : Nat) (x : OS) : Bool := @OS.rec (fun _ => Bool) (fun l _ _ => vls (vl n) l) (fun l _ => vls (vl n) l) (fun es => vlE n es) (fun _ _ => true) true x
def postL (n : Nat) : List (Nat × OS) → Bool
  | [] => true
  | x :: l => bif Nat.blt x.1 n && osD n x.2 then postL n l else false
theorem postL_spec {n : Nat} : ∀ {l : List (Nat × OS)}, postL n l = true → ∀ b x, (b, x) ∈ l → b < n ∧ osD n x = true
  | [], _, b, x, h => by cases h
  | y :: l, h, b, x, hm => by
    have h' : (bif Nat.blt y.1 n && osD n y.2 then postL n l else false) = true := h
    cases hb : Nat.blt y.1 n && osD n y.2 with
    | false => rw [hb] at h'; cases h'
    | true =>
      rw [hb] at h'
      rcases List.mem_cons.1 hm with rfl | hm
      · simpa using hb
      · exact postL_spec h' b x hm
def keptB (m : MS) : Bool := preL m.nx m.pre && (postL m.nx m.post && (vl m.nx m.ans && (vls (vl m.nx) m.args && Nat.ble 1000 m.nx)))
def fitsN (m : MS) (args : List Value) (s : AS) : Bool := bAnd (Nat.ble m.nx s.nx) (bAnd (eqL m.args args) (lookB s.h m.pre))
def MS.leftN (m : MS) (s : AS) : AS := ⟨s.h.lay (mkL m.post), s.nx⟩

theorem VRs.cutL {i : Io} {n : Nat} {l l' : List Value} (h : VRs i l l') (hv : vls (vl n) l = true) : VRs (i.cut n) l l' := h.cutS (fun h hv => h.cut hv) hv

theorem kept_sim {P : Program} {m : MS} {call : CallF} {f : FuncId} (hC : CallOk P call) (hm : m.memo.Ok call f) (hk : keptB m = true) {args : List Value} {s : AS} (hf : fitsN m args s = true) {i : Io} {w : World} {args' : List Value} (hR : Rel i s w) (hg : Gl i) (ha : VRs i args args') :
    FSim P f args' i s w m.ans (m.leftN s) := by
  unfold keptB at hk
  simp only [Bool.and_eq_true] at hk
  obtain ⟨k1, k2, k3, k4, k5⟩ := hk
  have k5 := Nat.le_of_ble_eq_true k5
  obtain ⟨f1, f2⟩ := bAnd_eq hf
  obtain ⟨f2, f3⟩ := bAnd_eq f2
  have f1 := Nat.le_of_ble_eq_true f1
  have hargs : m.args = args := eqL_eq _ _ f2
  subst hargs
  have hs := lookB_eq s.h m.pre f3
  have key := stL_key k1 hs
  have hR0 : Rel (i.cut m.nx) (stL m.pre m.nx) w := hR.cutS k1 hs
  have hst : m.memo.st = stL m.pre m.nx := rfl
  obtain ⟨t', hrun, hnx, hpost⟩ := hm.run
  rw [hst] at hrun
  have hg0 : Gl (i.cut m.nx) := fun g hg' => by rw [cut_lt (by omega)]; exact hg g hg'
  have hF := hC f m.args _ m.ans t' hrun (i.cut m.nx) w args' hR0 hg0 (ha.cutL k4)
  -- what every end comes to
  have fin : ∀ v' w' i', VR i' m.ans v' → Rel i' t' w' → Fr (i.cut m.nx) (stL m.pre m.nx) w i' t' w' → VR i m.ans v' ∧ Rel i (m.leftN s) w' ∧ Fr i s w i (m.leftN s) w' := by
    intro v' w' i' hv hR' hF'
    have agree : ∀ b, b < m.nx → i' b = i b := fun b hb => by
      cases hi : i b with
      | some x => exact hF'.le b x (by rw [cut_lt hb]; exact hi)
      | none => exact hF'.dom b hb (by rw [cut_lt hb]; exact hi)
    have hle : Le (i'.cut m.nx) i := ⟨fun b x e => by
        obtain ⟨e1, e2⟩ := cut_some e
        rw [agree b e2] at e1
        exact e1, fun b x e => by
        obtain ⟨e1, e2⟩ := cut_some e
        have e3 : (i.cut m.nx) b = some x := by rw [cut_lt e2, ← agree b e2]; exact e1
        exact (hF'.le.lim b x e3).symm⟩
    have back : ∀ {v v' : Value}, VR i' v v' → vl m.nx v = true → VR i v v' := fun h hv => (h.cut hv).mono hle
    -- the blocks that the call left
    have inPost : ∀ b x, (b, x) ∈ m.post → b < m.nx ∧ ∃ p o, (b, p) ∈ m.pre ∧ fixed p.mk = false ∧ s.h.get b = some o ∧ Wk p.mk o ∧ alive o = true := fun b x hb => by
      obtain ⟨h1, _⟩ := postL_spec k2 b x hb
      rcases hm.post b x.mk (mem_mkL hb) with h | ⟨o', h, h2⟩
      · have : m.nx ≤ b := h
        omega
      · obtain ⟨p, h3, rfl⟩ := mkL_mem h
        obtain ⟨o, h4, h5⟩ := hs b p h3
        exact ⟨h1, p, o, h3, h2, h4, h5, h5.live (hm.live b p.mk h)⟩
    have layGet : ∀ b, (∃ x, (b, x) ∈ m.post ∧ (m.leftN s).h.get b = some x.mk) ∨ ((∀ x, (b, x) ∉ m.post) ∧ (m.leftN s).h.get b = s.h.get b) := fun b => by
      rcases T.lay_get s.h (mkL m.post) b with ⟨o, h1, h2⟩ | ⟨h1, h2⟩
      · obtain ⟨x, h3, rfl⟩ := mkL_mem h1
        exact .inl ⟨x, h3, h2⟩
      · exact .inr ⟨fun x hx => h1 _ (mem_mkL hx), h2⟩
    have obEq : ∀ b t q, (i.cut m.nx) b = some (q, t) → fixed (obA s b) = true → fixed (obA (stL m.pre m.nx) b) = true := fun b t q e h => by
      cases hc : (stL m.pre m.nx).h.get b with
      | none => unfold obA; rw [hc]; rfl
      | some o =>
        obtain ⟨x, o', _, rfl, h3, h4, h5, _, _⟩ := key b o hc
        rw [obA_some hc, ← h4.fix h5, ← obA_some h3]
        exact h
    have same : ∀ b o q t, s.h.get b = some o → alive o = true → i b = some (q, t) → (∀ x, (b, x) ∉ m.post) → w'.heap[q]? = w.heap[q]? := fun b o q t ho hal hi hno => by
      refine hF'.keep q (hR.dom b q t hi (.inl (by rw [ho]; simp))) (fun b1 t1 e1 => ?_)
      cases hc : (stL m.pre m.nx).h.get b1 with
      | none => unfold obA; rw [hc]; rfl
      | some o1 =>
        obtain ⟨x, o', h1, rfl, h3, h4, h5, _, _⟩ := key b1 o1 hc
        have hb : b1 = b := hR.inj b1 b o' o q t1 t h3 ho (h4.live h5) hal (cut_some e1).1 hi
        subst hb
        rw [obA_some hc]
        cases hfx : fixed x.mk with
        | true => rfl
        | false =>
          obtain ⟨o2, h6⟩ := hm.pre b1 x.mk (mem_mkL h1) hfx
          obtain ⟨y, h7, _⟩ := mkL_mem h6
          exact absurd h7 (hno y)
    refine ⟨back hv k3, ⟨fun b o ho hal => ?_, fun b b' o o' q t t1 ho ho' hal hal' e e' => ?_, fun b hb => ?_, fun b c n z q t ho e => ?_, fun b q t e hor => ?_⟩,
      ⟨.refl i, fun _ _ _ e => .inl e, hF'.os, hF'.tape, hF'.output, hF'.size, fun q hq hn => ?_, fun b x e hfx => ?_, Nat.le_refl _, fun _ _ e => e, fun b hb hi hn => ?_, fun b hn => ?_⟩⟩
    · rcases layGet b with ⟨x, h1, h2⟩ | ⟨h1, h2⟩
      · rw [h2] at ho
        cases ho
        obtain ⟨hb, _⟩ := postL_spec k2 b x h1
        obtain ⟨_, hx⟩ := postL_spec k2 b x h1
        obtain ⟨o', g1, g2⟩ := hpost b x.mk (mem_mkL h1)
        obtain ⟨q, t, g3, g4⟩ := hR'.obj b o' g1 (g2.live hal)
        refine ⟨q, t, by rw [← agree b hb]; exact g3, ?_⟩
        have hx' : osL m.nx x = true := by
          cases x with
          | dead => cases hal
          | _ => exact hx
        exact (OR.cut hx' (g2.or hal g4)).mono hle
      · rw [h2] at ho
        obtain ⟨q, t, g1, g2⟩ := hR.obj b o ho hal
        exact ⟨q, t, g1, by rw [same b o q t ho hal g1 h1]; exact g2⟩
    · have up : ∀ b o, (m.leftN s).h.get b = some o → ∃ p, s.h.get b = some p ∧ (alive o = true → alive p = true) := fun b o ho => by
        rcases layGet b with ⟨x, h1, h2⟩ | ⟨h1, h2⟩
        · obtain ⟨_, p, p', h3, _, h4, _, h5⟩ := inPost b x h1
          exact ⟨p', h4, fun _ => h5⟩
        · exact ⟨o, by rw [← h2]; exact ho, id⟩
      obtain ⟨p, g1, g2⟩ := up b o ho
      obtain ⟨p', g1', g2'⟩ := up b' o' ho'
      exact hR.inj b b' p p' q t t1 g1 g1' (g2 hal) (g2' hal') e e'
    · have hb' : s.nx ≤ b := hb
      obtain ⟨h1, h2⟩ := hR.fresh b hb'
      refine ⟨h1, ?_⟩
      rcases layGet b with ⟨x, h3, _⟩ | ⟨_, h4⟩
      · obtain ⟨_, _, o, _, _, h5, _⟩ := inPost b x h3
        rw [h2] at h5
        cases h5
      · rw [h4, h2]
    · rcases layGet b with ⟨x, h1, h2⟩ | ⟨h1, h2⟩
      · rw [h2] at ho
        injection ho with ho
        obtain ⟨hb, _⟩ := postL_spec k2 b x h1
        obtain ⟨o', g1, g2⟩ := hpost b x.mk (mem_mkL h1)
        rw [ho] at g2
        cases o' with
        | cells c' n' z' =>
          obtain ⟨rfl, rfl, _⟩ := g2
          have e' : i' b = some (q, t) := by rw [agree b hb]; exact e
          obtain ⟨l1, l2⟩ := hR'.lim b c' n z q t g1 e'
          have hl : i.lim b = i'.lim b := (hF'.le.lim b (q, t) (by rw [cut_lt hb]; exact e)).symm
          rw [hl]
          exact ⟨l1, l2⟩
        | _ => exact g2.elim
      · rw [h2] at ho
        obtain ⟨l1, l2⟩ := hR.lim b c n z q t ho e
        exact ⟨l1, fun cs e' fr hw => l2 cs e' fr (by rw [← same b _ q t ho rfl e h1]; exact hw)⟩
    · refine Nat.lt_of_lt_of_le (hR.dom b q t e (hor.imp (fun h => ?_) id)) hF'.size
      rcases layGet b with ⟨x, h1, _⟩ | ⟨_, h2⟩
      · obtain ⟨_, _, o, _, _, h5, _⟩ := inPost b x h1
        rw [h5]
        exact fun h => by cases h
      · rw [← h2]; exact h
    · exact hF'.keep q hq (fun b t e => obEq b t q e (hn b t (cut_some e).1))
    · rcases layGet b with ⟨y, h1, _⟩ | ⟨_, h2⟩
      · obtain ⟨_, p, o, h3, h4, h5, h6, h7⟩ := inPost b y h1
        rw [obA_some h5] at hfx
        rw [h6.fix (hm.live b p.mk (mem_mkL h3)), h4] at hfx
        cases hfx
      · exact h2
    · rcases layGet b with ⟨x, h1, _⟩ | ⟨_, h2⟩
      · obtain ⟨_, _, o, _, _, h5, _⟩ := inPost b x h1
        rw [hn] at h5
        cases h5
      · rw [h2]; exact hn
    · rcases layGet b with ⟨x, _, h2⟩ | ⟨_, h2⟩
      · rw [h2]; exact fun h => by cases h
      · rw [h2]; exact hn
  rcases hF with ⟨v', w', i', q1, q2, q3, q4⟩ | ⟨q1, q2⟩
  · obtain ⟨z1, z2, z3⟩ := fin v' w' i' q2 q3 q4
    exact .inl ⟨v', w', i, q1, z1, z2, z3⟩
  · refine .inr ⟨q1, Calls.mono q2 (fun e w' he => ?_)⟩
    cases e with
    | returned v' =>
      obtain ⟨i', h1, h2, h3⟩ := he
      exact ⟨i, fin v' w' i' h1 h2 h3⟩
    | panicked c => exact he.elim
    | outgrown => exact he.elim

/-- Kept calls of this kind, and what is done where none of them fits. -/
def keptP (ms : List MS) (els : List Value → AS → R) : List Value → AS → R :=
  @List.rec MS (fun _ => List Value → AS → R) els (fun m _ ih args s => @Bool.rec (fun _ => R) (ih args s) (some (m.ans, m.leftN s)) (fitsN m args s)) ms
theorem keptP_ok {P : Program} {call : CallF} {f : FuncId} (hC : CallOk P call) {els : List Value → AS → R} (he : POk P f els) : ∀ (ms : List MS), (∀ m ∈ ms, m.memo.Ok call f ∧ keptB m = true) → POk P f (keptP ms els)
  | [], _ => he
  | m :: ms, h => by
    intro args s v s' hr i w args' hR hg ha
    have hr' : @Bool.rec (fun _ => R) (keptP ms els args s) (some (m.ans, m.leftN s)) (fitsN m args s) = some (v, s') := hr
    cases hb : fitsN m args s with
    | true =>
      rw [hb] at hr'
      injection hr' with hr'
      cases hr'
      obtain ⟨h1, h2⟩ := h m (List.mem_cons_self ..)
      exact kept_sim hC h1 h2 hb hR hg ha
    | false =>
      rw [hb] at hr'
      exact keptP_ok hC he ms (fun m hm => h m (List.mem_cons_of_mem _ hm)) args s v s' hr' i w args' hR hg ha
end
end Go.Ax
/- The machine within a code that a proof walks itself: where it stands, what may be forgotten, codes cut in two, loops. -/
namespace Go.Ax
open Go Go.RowKit

noncomputable section
/-- Where the machine stands: of its blocks none that turns lies below the start. -/
structure Cfg (i0 : Io) (w0 : World) (N : Nat) (tm : Tm) (s : AS) (a : Act) (w : World) : Prop where
  ex : ∃ i dl, Rel i s w ∧ Gl i ∧ Le i0 i ∧ (∀ b q t, i b = some (q, t) → q < w0.heap.size → fixed (obA s b) = true) ∧ Below w0.heap.size w0 w ∧ DfOk w0.heap.size i s w dl ∧ AR dl i tm N a

theorem up_fr {i i' : Io} {s s' : AS} {w w' : World} {n : Nat} (hn : n ≤ w.heap.size) (h : ∀ b q t, i b = some (q, t) → q < n → fixed (obA s b) = true) (hF : Fr i s w i' s' w') : ∀ b q t, i' b = some (q, t) → q < n → fixed (obA s' b) = true := by
  intro b q t e hq
  rcases hF.new b q t e with e1 | e1 | ⟨b0, t0, e1, e2⟩
  · have := h b q t e1 hq
    rw [obA_same (hF.ro b _ e1 this)]
    exact this
  · omega
  · rw [h b0 q t0 e1 hq] at e2; cases e2
theorem below_fr {i i' : Io} {s s' : AS} {w0 w w' : World} (h0 : Below w0.heap.size w0 w) (h : ∀ b q t, i b = some (q, t) → q < w0.heap.size → fixed (obA s b) = true) (hF : Fr i s w i' s' w') : Below w0.heap.size w0 w' :=
  ⟨hF.os.trans h0.os, hF.tape.trans h0.tape, hF.output.trans h0.output, Nat.le_trans h0.size hF.size, fun k hk => (hF.keep k (Nat.lt_of_lt_of_le hk h0.size) (fun b t e => h b k t e hk)).trans (h0.block k hk)⟩

section
variable {E : Env} {i0 : Io} {w0 : World} {N : Nat} {tm tm' : Tm} {s s' : AS} {a : Act} {w : World}

/-- A code that the machine runs. -/
theorem Cfg.code (hT : TyOk E) (hB : BackOk E) {call : CallF} (hC : CallOk E.P call) (hD : DrawOk E call) {F : Nat} {c : Code} {x : X} {Q : Exit → Act → World → Prop} (hc : Cfg i0 w0 N tm s a w) (h : codeA E call N F c tm s = some (x, tm', s')) (hok : codeOk E.ty c = true)
    (hK : ∀ a' w', Cfg i0 w0 N tm' s' a' w' → Q (exX x) a' w') : c.wp E.P Q a w := by
  obtain ⟨i, dl, hR, hg, hle, hup, hb, hd, ha⟩ := hc.ex
  refine (codeA_wp hT hB hC hD F).1 c h hok hR hg hd ha (fun i' w' a' dl' hR' hF hd' ha' => ?_)
  exact hK a' w' ⟨i', dl', hR', hg.mono hF.le, hle.trans hF.le, up_fr hb.size hup hF, below_fr hb hup hF, hd', ha'⟩

/-! ### Codes cut in two -/
def takeS : Nat → Code → Code
  | 0, _ => .skip
  | n + 1, .seq a b => .seq a (takeS n b)
  | _ + 1, _ => .skip
def dropS : Nat → Code → Code
  | 0, c => c
  | n + 1, .seq _ b => dropS n b
  | _ + 1, c => c
def hasS : Nat → Code → Bool
  | 0, _ => true
  | n + 1, .seq _ b => hasS n b
  | _ + 1, _ => false
/-- So many of its statements, run by the machine. -/
theorem Cfg.pre (hT : TyOk E) (hB : BackOk E) {call : CallF} (hC : CallOk E.P call) (hD : DrawOk E call) {Q : Exit → Act → World → Prop} : ∀ (n F : Nat) (c : Code) {tm tm' : Tm} {s s' : AS} {a : Act} {w : World}, Cfg i0 w0 N tm s a w → hasS n c = true → codeA E call N F (takeS n c) tm s = some (.nor, tm', s') → codeOk E.ty (takeS n c) = true →
    (∀ a' w', Cfg i0 w0 N tm' s' a' w' → (dropS n c).wp E.P Q a' w') → c.wp E.P Q a w
  | 0, 0, c, tm, tm', s, s', a, w, hc, _, h, _, hK => by cases h
  | 0, F + 1, c, tm, tm', s, s', a, w, hc, _, h, _, hK => by
    have h' : cSkip E call N (codeA E call N F) tm s = some (.nor, tm', s') := h
    cases h'
    exact hK a w hc
  | n + 1, 0, c, tm, tm', s, s', a, w, hc, _, h, _, hK => by cases h
  | n + 1, F + 1, c, tm, tm', s, s', a, w, hc, hs, h, hok, hK => by
    cases c with
    | seq c1 c2 =>
      have h' : cSeq c1 (takeS n c2) E call N (codeA E call N F) tm s = some (.nor, tm', s') := h
      unfold cSeq at h'
      have hok' : (codeOk E.ty c1 && codeOk E.ty (takeS n c2)) = true := hok
      rw [Bool.and_eq_true] at hok'
      split at h'
      · cases h'
      · rename_i y tm1 s1 h1
        cases y with
        | nor => exact wp_seq (Cfg.code hT hB hC hD hc h1 hok'.1 (fun a1 w1 hc1 => Cfg.pre hT hB hC hD n F c2 hc1 hs h' hok'.2 hK))
        | exit j => cases h'
        | ret => cases h'
    | _ => cases hs

/-! ### Forgetting -/
/-- What is known may be less. -/
theorem Cfg.weak {pre : List (Nat × OS)} {nx : Nat} {tl : List (Nat × Value)} (hc : Cfg i0 w0 N tm s a w) (h0 : ∀ b x, i0 b = some x → b < nx) (hnx : 1000 ≤ nx) (hpre : preL nx pre = true) (htl : ∀ k v, (k, v) ∈ tl → vl nx v = true)
    (hs : ∀ b x, (b, x) ∈ pre → ∃ o, s.h.get b = some o ∧ Wk x.mk o) (ht : ∀ k v, (k, v) ∈ tl → tm.get k = some v) : Cfg i0 w0 N (tmL tl) (stL pre nx) a w := by
  obtain ⟨i, dl, hR, hg, hi0, hup, hb, hd, ha⟩ := hc.ex
  have key := stL_key hpre hs
  refine ⟨i.cut nx, dl, hR.cutS hpre hs, fun g hg' => by rw [cut_lt (by omega)]; exact hg g hg',
    ⟨fun b x e => by rw [cut_lt (h0 b x e)]; exact hi0 b x e, fun b x e => hi0.lim b x e⟩, fun b q t e hq => ?_, hb, ⟨hd.1, hd.2.1, fun d hd' => ?_⟩, ⟨fun k v hk => ?_, ha.size, ha.defers⟩⟩
  · have h1 := hup b q t (cut_some e).1 hq
    cases hc : (stL pre nx).h.get b with
    | none => unfold obA; rw [hc]; rfl
    | some o =>
      obtain ⟨x, o', _, rfl, h3, h4, h5, _, _⟩ := key b o hc
      rw [obA_some hc]
      rw [obA_some h3] at h1
      rw [← h4.fix h5]
      exact h1
  · obtain ⟨D, e1, e2, e3, e4⟩ := hd.2.2 d hd'
    refine ⟨D, e1, e2, e3, fun b t e => ?_⟩
    have := e4 b t (cut_some e).1
    cases hc : (stL pre nx).h.get b with
    | none => rfl
    | some o =>
      obtain ⟨_, o', _, _, h3, _⟩ := key b o hc
      rw [this] at h3
      cases h3
  · have hm := tmL_get tl hk
    exact (ha.tm k v (ht k v hm)).cut (htl k v hm)

/-! ### A run's outcome, in short -/
def xN : X → Nat
  | .nor => 0
  | .ret => 1
  | .exit j => j + 2
/-- What a run comes to: how it ends, whether its state holds these blocks, these slots. -/
def outK (pre : List (Nat × OS)) (nx : Nat) (sl : List Nat) : KX := fun x tm s => some (.tuple ⟨.int .i64 (xN x) :: .bool (bAnd (lookB s.h pre) (Nat.ble nx s.nx)) :: @List.rec Nat (fun _ => List Value) [] (fun k _ ih => @Option.rec Value (fun _ => Value) undef (fun v => v) (tm.get k) :: ih) sl⟩, ⟨.e, 0⟩)
def slV (sl : List Nat) (tm : Tm) : List Value := @List.rec Nat (fun _ => List Value) [] (fun k _ ih => @Option.rec Value (fun _ => Value) undef (fun v => v) (tm.get k) :: ih) sl
/-- None of them is the value of an empty slot. -/
def noU (v : Value) : Prop := v ≠ undef

theorem slV_mem : ∀ (tl : List (Nat × Value)) (tm : Tm), slV (tl.map (·.1)) tm = tl.map (·.2) → (∀ k v, (k, v) ∈ tl → v ≠ undef) → ∀ k v, (k, v) ∈ tl → tm.get k = some v
  | [], _, _, _, k, v, h => by cases h
  | (k0, v0) :: tl, tm, h, hn, k, v, hm => by
    have h' : @Option.rec Value (fun _ => Value) undef (fun v => v) (tm.get k0) :: slV (tl.map (·.1)) tm = v0 :: tl.map (·.2) := h
    injection h' with h1 h2
    rcases List.mem_cons.1 hm with e | hm
    · cases e
      cases hg : tm.get k0 with
      | none => rw [hg] at h1; exact absurd h1.symm (hn k0 v0 (List.mem_cons_self ..))
      | some u => rw [hg] at h1; exact congrArg some h1
    · exact slV_mem tl tm h2 (fun k v h => hn k v (List.mem_cons_of_mem _ h)) k v hm

theorem out_spec {F D : Nat} {c : Code} {pre : List (Nat × OS)} {nx : Nat} {tl : List (Nat × Value)} {x : X} {z : AS} (h : codeq E (callq E F D) F (mkC E N c) tm s (outK pre nx (tl.map (·.1))) = some (.tuple ⟨.int .i64 (xN x) :: .bool true :: tl.map (·.2)⟩, z))
    (hn : ∀ k v, (k, v) ∈ tl → v ≠ undef) :
    ∃ tm' s', codeA E (callA E F D) N F c tm s = some (x, tm', s') ∧ nx ≤ s'.nx ∧ (∀ b x, (b, x) ∈ pre → ∃ o, s'.h.get b = some o ∧ Wk x.mk o) ∧ ∀ k v, (k, v) ∈ tl → tm'.get k = some v := by
  rw [codeq_eq (call := callA E F D) (fun f xs s k => callq_eq E F D f xs s k) N] at h
  unfold toX at h
  split at h
  · cases h
  · rename_i y tm1 s1 hy
    unfold outK at h
    injection h with h
    injection h with h h2
    injection h with h
    injection h with h
    injection h with h3 h
    injection h with h4 h5
    injection h4 with h4
    obtain ⟨h6, h7⟩ := bAnd_eq h4
    injection h3 with _ h3
    have hx : y = x := by
      have h3' : xN y = xN x := by exact_mod_cast h3
      cases y <;> cases x <;> simp [xN] at h3' <;> first | rfl | omega | (subst h3'; rfl)
    subst hx
    exact ⟨tm1, s1, hy, Nat.le_of_ble_eq_true h7, lookB_eq s1.h pre h6, slV_mem tl tm1 h5 hn⟩
end

/-! ### Loops -/
theorem loop_ind {P : Program} {c : Code} {Q : Exit → Act → World → Prop} (I : Nat → Act → World → Prop)
    (h : ∀ m a w, I m a w → c.wp P (fun ex a' w' => match ex with
      | .normal => ∃ m', m' < m ∧ I m' a' w'
      | e => Q e a' w') a w) : ∀ m a w, I m a w → (Code.loop c).wp P Q a w ∧ LoopWp P c Q a w := by
  intro m
  induction m using Nat.strongRecOn with
  | _ m ih =>
    intro a w hI
    refine loop_both (wp_mono (h m a w hI) (fun e a' w' he => ?_))
    cases e with
    | normal =>
      obtain ⟨m', h1, h2⟩ := he
      exact (ih m' h1 a' w' h2).2
    | _ => exact he

/-! ### A law: from its code to its answer -/
theorem leaves_cfg {P : Program} {fn : Func} {tmps : Array Value} {R : Ending → World → Prop} {n : Nat} {i : Io} {s : AS} {w0 : World} : ∀ {dl : List Deferred} {w : World}, DfOk w0.heap.size i s w dl → Rel i s w → Below w0.heap.size w0 w →
    (∀ w', Rel i s w' → Below w0.heap.size w0 w' → ∃ v, (results fn tmps).run P w' = .ok v w' ∧ R (.returned v) w') → LeavesInM Fence.wide n P fn tmps R dl .returning w
  | [], w, _, hR, hF, h => h w hR hF
  | d :: dl, w, hd, hR, hF, h => by
    obtain ⟨D, rfl, h2, h3, h4⟩ := hd.2.2 d (by simp)
    refine ⟨by simp, .inl ⟨D, w.putObj D (.deferred none), rfl, run_takeDeferred h3, ?_⟩⟩
    have hs : (w.putObj D (.deferred none)).heap.size = w.heap.size := by
      show (w.heap.setIfInBounds D _).size = _
      simp
    have hne : ∀ k, k ≠ D → (w.putObj D (.deferred none)).heap[k]? = w.heap[k]? := fun k hk => by
      show (w.heap.setIfInBounds D _)[k]? = _
      rw [Array.getElem?_setIfInBounds, if_neg (fun e => hk e.symm)]
    refine leaves_cfg ?_ (hR.put _ h4) ⟨hF.os, hF.tape, hF.output, by rw [hs]; exact hF.size, fun q hq => ?_⟩ h
    · refine ⟨by rw [hs]; exact hd.1, (List.nodup_cons.1 hd.2.1).2, fun d' hd' => ?_⟩
      obtain ⟨D', rfl, g2, g3, g4⟩ := hd.2.2 d' (by simp [hd'])
      refine ⟨D', rfl, g2, ?_, g4⟩
      rw [hne D' (fun e => by subst e; exact (List.nodup_cons.1 hd.2.1).1 hd')]
      exact g3
    · rw [hne q (by omega)]
      exact hF.block q hq

/-- A law whose code comes to a return, with true in its one result. -/
theorem law_calls {P : Program} {f : FuncId} {fn : Func} {c : Code} {r : Nat} (hf : P.funcs[f]? = some fn) (hc : fn.body = some c) (hr : fn.results = #[.tmp r]) {args args' : List Value} {i0 : Io} {s0 : AS} {w0 : World} (hR : Rel i0 s0 w0) (hg : Gl i0)
    (hup : ∀ b q t, i0 b = some (q, t) → q < w0.heap.size → fixed (obA s0 b) = true) (ha : VRs i0 args args') (hn : args'.length < fn.ntmps)
    (h : ∀ (Q : Exit → Act → World → Prop) (a : Act), (∀ tm s a' w', Cfg i0 w0 (Nat.pred fn.ntmps) tm s a' w' → tm.get r = some (.bool true) → Q .ret a' w') → Cfg i0 w0 (Nat.pred fn.ntmps) (T.e.fill 0 args) s0 a w0 → c.wp P Q a w0) :
    Calls P f ⟨args'⟩ w0 fun e w' => e = .returned (.bool true) ∧ Below w0.heap.size w0 w' := by
  refine (callsIn_wide (n := 1)).1 (callsIn_of_wp_marks hf hc trivial (wpIn_wide.2 ?_) rfl)
  have hsz : fn.ntmps.pred < ((⟨args'⟩ : Array Value) ++ Array.replicate (fn.ntmps - (⟨args'⟩ : Array Value).size) undef).size := by
    rw [Array.size_append, Array.size_replicate, Nat.pred_eq_sub_one]
    simp only [List.size_toArray]
    omega
  refine h _ _ (fun tm s a' w' hcf hres => ?_) ⟨i0, [], hR, hg, .refl _, hup, .refl _ _, ⟨Nat.le_refl _, List.nodup_nil, fun d hd => by cases hd⟩, ⟨start_tm _ ha, hsz, rfl⟩⟩
  obtain ⟨i, dl, hR', hg', hle, hup', hb, hd, har⟩ := hcf.ex
  have : LeavesInM Fence.wide 1 P fn a'.tmps (fun e w' => e = .returned (.bool true) ∧ Below w0.heap.size w0 w') a'.defers .returning w' := by
    rw [har.defers]
    refine leaves_cfg hd hR' hb (fun w2 hR2 hb2 => ?_)
    have hv := har.tm r _ hres
    generalize hgv : a'.tmps.getD r undef = v' at hv
    cases hv
    refine ⟨.bool true, ?_, rfl, hb2⟩
    unfold results
    rw [hr]
    rw [Array.getD_eq_getD_getElem?] at hgv
    simp [resOf, hgv]
  exact this
end
end Go.Ax
/- Regions one operation at a time, where a value is not known: what each kind of operation comes to. -/
namespace Go.Ax
open Go
noncomputable section
section
variable {E : Env} {call : CallF} {N : Nat} {ops l : List Oper} {o : Oper} {tm tm' : Tm} {s s' : AS} {v : Value}

theorem runL_step (hw : wantedA ops tm o = some true) (he : execA o.op E call tm s = some (v, s')) (hp : putA N tm o.dst v = some tm') : runL E call N ops (o :: l) tm s = runL E call N ops l tm' s' := by
  show (match wantedA ops tm o with
    | none => none
    | some false => match putA N tm o.dst undef with
      | none => none
      | some tm' => runL E call N ops l tm' s
    | some true => match execA o.op E call tm s with
      | none => none
      | some (v, s') => match putA N tm o.dst v with
        | none => none
        | some tm' => runL E call N ops l tm' s') = _
  rw [hw]
  simp only [he, hp]
theorem runL_skip (hw : wantedA ops tm o = some false) (hp : putA N tm o.dst undef = some tm') : runL E call N ops (o :: l) tm s = runL E call N ops l tm' s := by
  show (match wantedA ops tm o with
    | none => none
    | some false => match putA N tm o.dst undef with
      | none => none
      | some tm' => runL E call N ops l tm' s
    | some true => match execA o.op E call tm s with
      | none => none
      | some (v, s') => match putA N tm o.dst v with
        | none => none
        | some tm' => runL E call N ops l tm' s') = _
  rw [hw]
  simp only [hp]
theorem runL_nil : runL E call N ops [] tm s = some (tm, s) := rfl
theorem codeA_region {id : Nat} {os : Array Oper} {F : Nat} (h : runL E call N os.toList os.toList tm s = some (tm', s')) : codeA E call N (F + 1) (.region id os false) tm s = some (.nor, tm', s') := by
  show cRegion os false E call N (codeA E call N F) tm s = _
  unfold cRegion
  rw [cond_false, h]

theorem ex_move {j : Nat} (h : tm.get j = some v) : execA (.move (.tmp j)) E call tm s = some (v, s) := by
  show (match tm.get j with
    | some v => some (v, s)
    | none => none) = _
  rw [h]
theorem ex_assign {j : Nat} (h : tm.get j = some v) : execA (.assign (.tmp j)) E call tm s = some (v, s) := by
  show (match tm.get j with
    | some v => some (v, s)
    | none => none) = _
  rw [h]
theorem ex_len {j : Nat} {t : TypeId} {ts : Array TypeId} {x : Value} (ht : ts.toList.head? = some t) (h : tm.get j = some x) (hl : lenA E s t x = some v) : execA (.call ⟨.builtin .len, #[.tmp j], ts⟩) E call tm s = some (v, s) := by
  obtain ⟨tl⟩ := ts
  cases tl with
  | nil => cases ht
  | cons t' tl =>
    cases ht
    show (match evs tm [.tmp j] with
      | some xs => builtinA E s .len (t :: tl) xs
      | none => none) = _
    have : evs tm [.tmp j] = some [x] := by
      show (match tm.get j with
        | none => none
        | some v => match (some [] : Option (List Value)) with
          | none => none
          | some vs => some (v :: vs)) = _
      rw [h]
    rw [this]
    show (match lenA E s t x with
      | none => none
      | some v => some (v, s)) = _
    rw [hl]
theorem ex_bin {op : BinOp} {t t' : TypeId} {x y : Operand} {k k' : IntKind} {a b : Int} (hx : ev tm x = some (.int k a)) (hy : ev tm y = some (.int k' b)) (h : binII op k a k' b = some v) : execA (.binOp op t x y t') E call tm s = some (v, s) := by
  show (match ev tm x, ev tm y with
    | some a, some b => match binA E s op t x y a b with
      | some v => some (v, s)
      | none => none
    | _, _ => none) = _
  rw [hx, hy]
  show (match binII op k a k' b with
      | some v => some (v, s)
      | none => none) = _
  rw [h]
theorem ex_pick {c x y : Operand} {b : Bool} (hc : ev tm c = some (.bool b)) (h : ev tm (bif b then x else y) = some v) : execA (.pick c x y) E call tm s = some (v, s) := by
  show (match ev tm c with
    | some (.bool t) => match ev tm (bif t then x else y) with
      | some v => some (v, s)
      | none => none
    | _ => none) = _
  rw [hc]
  simp only [h]
theorem wanted_none (h : o.guard = none) : wantedA ops tm o = some true := by unfold wantedA; rw [h]
theorem wanted_some {j d : Nat} {want b : Bool} {o' : Oper} (h : o.guard = some (j, want)) (hj : ops[j]? = some o') (hd : o'.dst = some d) (hb : tm.get d = some (.bool b)) : wantedA ops tm o = some (b == want) := by
  unfold wantedA
  rw [h]
  simp only [hj, hd, hb]
theorem putA_some {d : Nat} (h : Nat.ble d N = true) : putA N tm (some d) v = some (tm.set d v) := by
  show (bif Nat.ble d N then some (tm.set d v) else none) = _
  rw [h, cond_true]
end

/-- 'i < len(xs) && i < K', in eight operations. -/
theorem run_head {E : Env} {call : CallF} {N : Nat} {os : Array Oper} {o1 o2 o3 o4 o5 o6 o7 o8 : Oper} (hos : os.toList = [o1, o2, o3, o4, o5, o6, o7, o8]) {ti ts d t : Nat} {tys : Array TypeId} {u1 u2 u3 : TypeId} {K : Int}
    (h1 : o1.op = .move (.tmp ti) ∧ o1.dst = some d ∧ o1.guard = none) (h2 : o2.op = .move (.tmp ts) ∧ o2.dst = some (d + 1) ∧ o2.guard = none)
    (h3 : o3.op = .call ⟨.builtin .len, #[.tmp (d + 1)], tys⟩ ∧ o3.dst = some (d + 2) ∧ o3.guard = none) (h4 : o4.op = .binOp .lss u1 (.tmp d) (.tmp (d + 2)) u2 ∧ o4.dst = some (d + 3) ∧ o4.guard = none)
    (h5 : o5.op = .move (.tmp (d + 3)) ∧ o5.dst = some (d + 4) ∧ o5.guard = none) (h6 : o6.op = .move (.tmp ti) ∧ o6.dst = some (d + 5) ∧ o6.guard = some (4, true))
    (h7 : o7.op = .binOp .lss u1 (.tmp (d + 5)) (.const (.int .i64 K)) u3 ∧ o7.dst = some (d + 6) ∧ o7.guard = some (4, true)) (h8 : o8.op = .pick (.tmp (d + 4)) (.tmp (d + 6)) (.const (.bool false)) ∧ o8.dst = some (d + 7) ∧ o8.guard = none)
    (hN : Nat.ble (d + 7) N = true) (hti : ti < d) (hts : ts < d) (ht : tys.toList.head? = some t) {tm : Tm} {s : AS} {i n : Int} {sv : Value} (gi : tm.get ti = some (.int .i64 i)) (gs : tm.get ts = some sv) (hl : lenA E s t sv = some (.int .i64 n)) :
    ∃ tm', runL E call N os.toList os.toList tm s = some (tm', s) ∧ tm'.get (d + 7) = some (.bool (ilt i n && ilt i K)) ∧ ∀ k, k < d → tm'.get k = tm.get k := by
  have hN' := Nat.le_of_ble_eq_true hN
  have le : ∀ k, k ≤ 7 → Nat.ble (d + k) N = true := fun k hk => Nat.ble_eq_true_of_le (by omega)
  have le0 : Nat.ble d N = true := le 0 (by omega)
  rw [hos]
  obtain ⟨a1, a2, a3⟩ := h1
  obtain ⟨b1, b2, b3⟩ := h2
  obtain ⟨c1, c2, c3⟩ := h3
  obtain ⟨d1, d2, d3⟩ := h4
  obtain ⟨e1, e2, e3⟩ := h5
  obtain ⟨f1, f2, f3⟩ := h6
  obtain ⟨g1, g2, g3⟩ := h7
  obtain ⟨k1, k2, k3⟩ := h8
  have gg : ∀ (tm : Tm) (a b : Nat) (v : Value), (tm.set a v).get b = if b = a then some v else tm.get b := fun tm a b v => T.get_set _ _ _ _
  rw [runL_step (wanted_none a3) (by rw [a1]; exact ex_move gi) (by rw [a2]; exact putA_some le0)]
  rw [runL_step (wanted_none b3) (by rw [b1]; exact ex_move (v := sv) (by rw [gg, if_neg (by omega)]; exact gs)) (by rw [b2]; exact putA_some (le 1 (by omega)))]
  rw [runL_step (wanted_none c3) (by rw [c1]; exact ex_len (x := sv) ht (by rw [gg, if_pos rfl]) hl) (by rw [c2]; exact putA_some (le 2 (by omega)))]
  rw [runL_step (wanted_none d3) (v := .bool (ilt i n)) (by
    rw [d1]
    exact ex_bin (k := .i64) (k' := .i64) (a := i) (b := n) (by show T.get _ _ = _; rw [gg, if_neg (by omega), gg, if_neg (by omega), gg, if_pos rfl]) (by show T.get _ _ = _; rw [gg, if_pos rfl]) rfl) (by rw [d2]; exact putA_some (le 3 (by omega)))]
  rw [runL_step (wanted_none e3) (by rw [e1]; exact ex_move (v := .bool (ilt i n)) (by rw [gg, if_pos rfl])) (by rw [e2]; exact putA_some (le 4 (by omega)))]
  have w4 : ∀ (tm : Tm) (b : Bool) (o : Oper), o.guard = some (4, true) → tm.get (d + 4) = some (.bool b) → wantedA [o1, o2, o3, o4, o5, o6, o7, o8] tm o = some b := fun tm b o ho hb => by
    rw [wanted_some ho rfl e2 hb]
    cases b <;> rfl
  cases hb : ilt i n with
  | true =>
    rw [runL_step (w4 _ true o6 f3 (by rw [gg, if_pos rfl])) (by rw [f1]; exact ex_move (v := .int .i64 i) (by rw [gg, if_neg (by omega), gg, if_neg (by omega), gg, if_neg (by omega), gg, if_neg (by omega), gg, if_neg (by omega)]; exact gi)) (by rw [f2]; exact putA_some (le 5 (by omega)))]
    rw [runL_step (w4 _ true o7 g3 (by rw [gg, if_neg (by omega), gg, if_pos rfl])) (v := .bool (ilt i K)) (by
      rw [g1]
      exact ex_bin (k := .i64) (k' := .i64) (a := i) (b := K) (by show T.get _ _ = _; rw [gg, if_pos rfl]) rfl rfl) (by rw [g2]; exact putA_some (le 6 (by omega)))]
    rw [runL_step (wanted_none k3) (v := .bool (ilt i K)) (by
      rw [k1]
      exact ex_pick (b := true) (by show T.get _ _ = _; rw [gg, if_neg (by omega), gg, if_neg (by omega), gg, if_pos rfl]) (by show T.get _ _ = _; rw [gg, if_pos rfl])) (by rw [k2]; exact putA_some (le 7 (by omega)))]
    refine ⟨_, runL_nil, by rw [gg, if_pos rfl, Bool.true_and], fun k hk => ?_⟩
    simp only [gg]
    repeat rw [if_neg (by omega)]
  | false =>
    rw [runL_skip (w4 _ false o6 f3 (by rw [gg, if_pos rfl])) (by rw [f2]; exact putA_some (le 5 (by omega)))]
    rw [runL_skip (w4 _ false o7 g3 (by rw [gg, if_neg (by omega), gg, if_pos rfl])) (by rw [g2]; exact putA_some (le 6 (by omega)))]
    rw [runL_step (wanted_none k3) (v := .bool false) (by
      rw [k1]
      exact ex_pick (b := false) (by show T.get _ _ = _; rw [gg, if_neg (by omega), gg, if_neg (by omega), gg, if_pos rfl]) rfl) (by rw [k2]; exact putA_some (le 7 (by omega)))]
    refine ⟨_, runL_nil, by rw [gg, if_pos rfl, Bool.false_and], fun k hk => ?_⟩
    simp only [gg]
    repeat rw [if_neg (by omega)]

/-- 'i++', in three operations. -/
theorem run_inc {E : Env} {call : CallF} {N : Nat} {os : Array Oper} {o1 o2 o3 : Oper} (hos : os.toList = [o1, o2, o3]) {ti d : Nat} {u1 u2 : TypeId}
    (h1 : o1.op = .move (.tmp ti) ∧ o1.dst = some d ∧ o1.guard = none) (h2 : o2.op = .binOp .add u1 (.tmp d) (.const (.int .i64 1)) u2 ∧ o2.dst = some (d + 1) ∧ o2.guard = none) (h3 : o3.op = .assign (.tmp (d + 1)) ∧ o3.dst = some ti ∧ o3.guard = none)
    (hN : Nat.ble (d + 1) N = true) (hti : ti < d) {tm : Tm} {s : AS} {i : Nat} (hi : i < 1000000) (gi : tm.get ti = some (.int .i64 (.ofNat i))) :
    ∃ tm', runL E call N os.toList os.toList tm s = some (tm', s) ∧ tm'.get ti = some (.int .i64 (.ofNat (i + 1))) ∧ ∀ k, k < d → k ≠ ti → tm'.get k = tm.get k := by
  have hN' := Nat.le_of_ble_eq_true hN
  have le : ∀ k, k ≤ d + 1 → Nat.ble k N = true := fun k hk => Nat.ble_eq_true_of_le (by omega)
  rw [hos]
  obtain ⟨a1, a2, a3⟩ := h1
  obtain ⟨b1, b2, b3⟩ := h2
  obtain ⟨c1, c2, c3⟩ := h3
  have gg : ∀ (tm : Tm) (a b : Nat) (v : Value), (tm.set a v).get b = if b = a then some v else tm.get b := fun tm a b v => T.get_set _ _ _ _
  rw [runL_step (wanted_none a3) (by rw [a1]; exact ex_move gi) (by rw [a2]; exact putA_some (le _ (by omega)))]
  have hw : wrapA .i64 (Int.add (.ofNat i) 1) = .ofNat (i + 1) := by
    show wrS 18446744073709551616 9223372036854775808 (.ofNat (i + 1)) = _
    unfold wrS
    rw [natK_eq]
    have : imod (.ofNat (i + 1)) 18446744073709551616 = i + 1 := Nat.mod_eq_of_lt (by omega)
    rw [this]
    have : Nat.blt (i + 1) 9223372036854775808 = true := by rw [Nat.blt_eq]; omega
    rw [this, cond_true]
  rw [runL_step (wanted_none b3) (v := .int .i64 (.ofNat (i + 1))) (by
    rw [b1]
    refine ex_bin (k := .i64) (k' := .i64) (a := .ofNat i) (b := 1) (by show T.get _ _ = _; rw [gg, if_pos rfl]) rfl ?_
    show intV .i64 (Int.add (.ofNat i) 1) = _
    unfold intV
    rw [hw]
    show natK (i + 1) (fun a => some (Value.int .i64 (.ofNat a))) = _
    rw [natK_eq]) (by rw [b2]; exact putA_some (le _ (by omega)))]
  rw [runL_step (wanted_none c3) (by rw [c1]; exact ex_assign (v := .int .i64 (.ofNat (i + 1))) (by rw [gg, if_pos rfl])) (by rw [c2]; exact putA_some (le _ (by omega)))]
  refine ⟨_, runL_nil, by rw [gg, if_pos rfl], fun k hk hne => ?_⟩
  simp only [gg]
  rw [if_neg hne, if_neg (by omega), if_neg (by omega)]

/-- 'k := 1 + int(uint64(xs[i]) % M)', in nine operations. -/
theorem run_pick {E : Env} {call : CallF} {N : Nat} {os : Array Oper} {o1 o2 o3 o4 o5 o6 o7 o8 o9 : Oper} (hos : os.toList = [o1, o2, o3, o4, o5, o6, o7, o8, o9]) {ti ts tk d M : Nat} {T1 t3 t6 e : TypeId} {u1 u2 u3 u4 : TypeId} {iT i3 i6 ie : TI}
    (h1 : o1.op = .move (.tmp ts) ∧ o1.dst = some d ∧ o1.guard = none) (h2 : o2.op = .move (.tmp ti) ∧ o2.dst = some (d + 1) ∧ o2.guard = none)
    (h3 : o3.op = .indexAddr T1 (.tmp d) (.tmp (d + 1)) ∧ o3.dst = some (d + 2) ∧ o3.guard = none) (h4 : o4.op = .load t3 (.tmp (d + 2)) ∧ o4.dst = some (d + 3) ∧ o4.guard = none)
    (h5 : o5.op = .convert t3 t6 (.tmp (d + 3)) ∧ o5.dst = some (d + 4) ∧ o5.guard = none) (h6 : o6.op = .binOp .rem u1 (.tmp (d + 4)) (.const (.int .u64 (.ofNat M))) u2 ∧ o6.dst = some (d + 5) ∧ o6.guard = none)
    (h7 : o7.op = .convert t6 t3 (.tmp (d + 5)) ∧ o7.dst = some (d + 6) ∧ o7.guard = none) (h8 : o8.op = .binOp .add u3 (.const (.int .i64 1)) (.tmp (d + 6)) u4 ∧ o8.dst = some (d + 7) ∧ o8.guard = none)
    (h9 : o9.op = .assign (.tmp (d + 7)) ∧ o9.dst = some tk ∧ o9.guard = none)
    (hN : Nat.ble (d + 7) N = true) (hti : ti < d) (hts : ts < d) (htk : tk < d) (hM : 0 < M) (hM2 : M < 1000000)
    (y1 : E.ty.get T1 = some iT) (y2 : iT.desc = .slice e) (y3 : E.ty.get e = some ie) (y4 : ie.size = 1) (y5 : E.ty.get t3 = some i3) (y6 : i3.desc = .int .i64) (y7 : E.ty.get t6 = some i6) (y8 : i6.desc = .int .u64)
    {tm : Tm} {s : AS} {i n c : Nat} {b : Nat} {v : Int} (gi : tm.get ti = some (.int .i64 (.ofNat i))) (gs : tm.get ts = some (.slice (some ⟨b, 0, none⟩) n c)) (hin : i < n) (hv : rd s b i = some (.int .i64 v)) :
    ∃ tm' r, runL E call N os.toList os.toList tm s = some (tm', s) ∧ r < M ∧ tm'.get tk = some (.int .i64 (.ofNat (1 + r))) ∧ ∀ k, k < d → k ≠ tk → tm'.get k = tm.get k := by
  have hN' := Nat.le_of_ble_eq_true hN
  have le : ∀ k, k ≤ d + 7 → Nat.ble k N = true := fun k hk => Nat.ble_eq_true_of_le (by omega)
  rw [hos]
  obtain ⟨a1, a2, a3⟩ := h1
  obtain ⟨b1, b2, b3⟩ := h2
  obtain ⟨c1, c2, c3⟩ := h3
  obtain ⟨d1, d2, d3⟩ := h4
  obtain ⟨e1, e2, e3⟩ := h5
  obtain ⟨f1, f2, f3⟩ := h6
  obtain ⟨g1, g2, g3⟩ := h7
  obtain ⟨k1, k2, k3⟩ := h8
  obtain ⟨l1, l2, l3⟩ := h9
  have gg : ∀ (tm : Tm) (a b : Nat) (v : Value), (tm.set a v).get b = if b = a then some v else tm.get b := fun tm a b v => T.get_set _ _ _ _
  have iv64 : ∀ r, r < 1000001 → intV .i64 (.ofNat r) = some (.int .i64 (.ofNat r)) := fun r hr => by
    unfold intV
    have hw : wrapA .i64 (.ofNat r) = .ofNat r := by
      show wrS 18446744073709551616 9223372036854775808 (.ofNat r) = _
      unfold wrS
      rw [natK_eq]
      have : imod (.ofNat r) 18446744073709551616 = r := Nat.mod_eq_of_lt (by omega)
      rw [this]
      have : Nat.blt r 9223372036854775808 = true := by rw [Nat.blt_eq]; omega
      rw [this, cond_true]
    rw [hw]
    show natK r (fun a => some (Value.int .i64 (.ofNat a))) = _
    rw [natK_eq]
  rw [runL_step (wanted_none a3) (by rw [a1]; exact ex_move gs) (by rw [a2]; exact putA_some (le _ (by omega)))]
  rw [runL_step (wanted_none b3) (by rw [b1]; exact ex_move (v := .int .i64 (.ofNat i)) (by rw [gg, if_neg (by omega)]; exact gi)) (by rw [b2]; exact putA_some (le _ (by omega)))]
  rw [runL_step (wanted_none c3) (s' := s) (v := .pointer (some ⟨b, i, none⟩)) (by
    rw [c1]
    show hIndexAddr T1 (.tmp d) (.tmp (d + 1)) E _ s = _
    unfold hIndexAddr
    have q1 : ev (T.set (T.set tm d (Value.slice (some ⟨b, 0, none⟩) n c)) (d + 1) (Value.int .i64 (.ofNat i))) (.tmp d) = some (.slice (some ⟨b, 0, none⟩) n c) := by show T.get _ _ = _; rw [gg, if_neg (by omega), gg, if_pos rfl]
    have q2 : ev (T.set (T.set tm d (Value.slice (some ⟨b, 0, none⟩) n c)) (d + 1) (Value.int .i64 (.ofNat i))) (.tmp (d + 1)) = some (.int .i64 (.ofNat i)) := by show T.get _ _ = _; rw [gg, if_pos rfl]
    rw [y1, q1, q2]
    simp only [y2, y3, y4]
    have : inR (.ofNat i) n = true := by show Nat.blt i n = true; rw [Nat.blt_eq]; exact hin
    rw [this, cond_true, natK_eq]
    simp) (by rw [c2]; exact putA_some (le _ (by omega)))]
  rw [runL_step (wanted_none d3) (s' := s) (v := .int .i64 v) (by
    rw [d1]
    show hLoad t3 (.tmp (d + 2)) E _ s = _
    unfold hLoad
    have q1 : ∀ tm : Tm, ev (T.set tm (d + 2) (Value.pointer (some ⟨b, i, none⟩))) (.tmp (d + 2)) = some (.pointer (some ⟨b, i, none⟩)) := fun tm => by show T.get _ _ = _; rw [gg, if_pos rfl]
    rw [y5, q1]
    simp only [y6]
    have : isAggD (.int .i64) = false := rfl
    rw [this, cond_false, hv]) (by rw [d2]; exact putA_some (le _ (by omega)))]
  rw [runL_step (wanted_none e3) (s' := s) (v := .int .u64 (.ofNat (imod v 18446744073709551616))) (by
    rw [e1]
    show hConv t3 t6 (.tmp (d + 3)) E _ s = _
    unfold hConv
    have q1 : ∀ tm : Tm, ev (T.set tm (d + 3) (Value.int .i64 v)) (.tmp (d + 3)) = some (.int .i64 v) := fun tm => by show T.get _ _ = _; rw [gg, if_pos rfl]
    rw [q1]
    show convA E s t3 t6 (.int .i64 v) = _
    unfold convA
    rw [y5, y7]
    simp only [y8]
    have : intV .u64 v = some (.int .u64 (.ofNat (imod v 18446744073709551616))) := by
      unfold intV
      show intK (wrU 18446744073709551616 v) _ = _
      unfold wrU
      show natK (imod v 18446744073709551616) (fun a => some (Value.int .u64 (.ofNat a))) = _
      rw [natK_eq]
    rw [this]) (by rw [e2]; exact putA_some (le _ (by omega)))]
  obtain ⟨r, hr⟩ : ∃ r, r = imod v 18446744073709551616 % M := ⟨_, rfl⟩
  have hrM : r < M := by rw [hr]; exact Nat.mod_lt _ hM
  rw [runL_step (wanted_none f3) (v := .int .u64 (.ofNat r)) (by
    rw [f1]
    refine ex_bin (k := .u64) (k' := .u64) (a := .ofNat (imod v 18446744073709551616)) (b := .ofNat M) (by show T.get _ _ = _; rw [gg, if_pos rfl]) rfl ?_
    show iRem .u64 (.ofNat (imod v 18446744073709551616)) (.ofNat M) = _
    unfold iRem
    have : ieq (.ofNat M) 0 = false := by
      show Nat.beq M 0 = false
      cases M with
      | zero => omega
      | succ m => rfl
    rw [this, cond_false, hr]
    show natK (imod v 18446744073709551616 % M) (fun a => some (Value.int .u64 (.ofNat a))) = _
    rw [natK_eq]) (by rw [f2]; exact putA_some (le _ (by omega)))]
  rw [runL_step (wanted_none g3) (s' := s) (v := .int .i64 (.ofNat r)) (by
    rw [g1]
    show hConv t6 t3 (.tmp (d + 5)) E _ s = _
    unfold hConv
    have q1 : ∀ tm : Tm, ev (T.set tm (d + 5) (Value.int .u64 (.ofNat r))) (.tmp (d + 5)) = some (.int .u64 (.ofNat r)) := fun tm => by show T.get _ _ = _; rw [gg, if_pos rfl]
    rw [q1]
    show convA E s t6 t3 (.int .u64 (.ofNat r)) = _
    unfold convA
    rw [y5, y7]
    simp only [y6]
    rw [iv64 r (by omega)]) (by rw [g2]; exact putA_some (le _ (by omega)))]
  rw [runL_step (wanted_none k3) (v := .int .i64 (.ofNat (1 + r))) (by
    rw [k1]
    refine ex_bin (k := .i64) (k' := .i64) (a := 1) (b := .ofNat r) rfl (by show T.get _ _ = _; rw [gg, if_pos rfl]) ?_
    show intV .i64 (Int.add 1 (.ofNat r)) = _
    exact iv64 (1 + r) (by omega)) (by rw [k2]; exact putA_some (le _ (by omega)))]
  rw [runL_step (wanted_none l3) (by rw [l1]; exact ex_assign (v := .int .i64 (.ofNat (1 + r))) (by rw [gg, if_pos rfl])) (by rw [l2]; exact putA_some (le _ (by omega)))]
  refine ⟨_, r, runL_nil, hrM, by rw [gg, if_pos rfl], fun k hk hne => ?_⟩
  simp only [gg]
  rw [if_neg hne]
  repeat rw [if_neg (by omega)]
end
end Go.Ax
/- Laws that go through a list of numbers that came in: their loops. -/
namespace Go.Ax
open Go Go.RowKit

noncomputable section
/-- What is never written stays. -/
def Keeps (i0 : Io) (s s' : AS) : Prop := ∀ b x, i0 b = some x → fixed (obA s b) = true → s'.h.get b = s.h.get b
theorem Keeps.refl (i0 : Io) (s : AS) : Keeps i0 s s := fun _ _ _ _ => rfl
theorem Keeps.trans {i0 : Io} {s s1 s2 : AS} (h : Keeps i0 s s1) (h' : Keeps i0 s1 s2) : Keeps i0 s s2 := fun b x e hf => by
  have h1 := h b x e hf
  rw [h' b x e (by rw [obA_same h1]; exact hf), h1]

section
variable {E : Env} {i0 : Io} {w0 : World} {N : Nat} {tm tm' : Tm} {s s' : AS} {a : Act} {w : World}
theorem Cfg.code2 (hT : TyOk E) (hB : BackOk E) {call : CallF} (hC : CallOk E.P call) (hD : DrawOk E call) {F : Nat} {c : Code} {x : X} {Q : Exit → Act → World → Prop} (hc : Cfg i0 w0 N tm s a w) (h : codeA E call N F c tm s = some (x, tm', s')) (hok : codeOk E.ty c = true)
    (hK : ∀ a' w', Keeps i0 s s' → Cfg i0 w0 N tm' s' a' w' → Q (exX x) a' w') : c.wp E.P Q a w := by
  obtain ⟨i, dl, hR, hg, hle, hup, hb, hd, ha⟩ := hc.ex
  refine (codeA_wp hT hB hC hD F).1 c h hok hR hg hd ha (fun i' w' a' dl' hR' hF hd' ha' => ?_)
  exact hK a' w' (fun b x e hf => hF.ro b x (hle _ _ e) hf) ⟨i', dl', hR', hg.mono hF.le, hle.trans hF.le, up_fr hb.size hup hF, below_fr hb hup hF, hd', ha'⟩

theorem Cfg.pre2 (hT : TyOk E) (hB : BackOk E) {call : CallF} (hC : CallOk E.P call) (hD : DrawOk E call) {Q : Exit → Act → World → Prop} : ∀ (n F : Nat) (c : Code) {tm tm' : Tm} {s s' : AS} {a : Act} {w : World}, Cfg i0 w0 N tm s a w → hasS n c = true → codeA E call N F (takeS n c) tm s = some (.nor, tm', s') → codeOk E.ty (takeS n c) = true →
    (∀ a' w', Keeps i0 s s' → Cfg i0 w0 N tm' s' a' w' → (dropS n c).wp E.P Q a' w') → c.wp E.P Q a w
  | 0, 0, c, tm, tm', s, s', a, w, hc, _, h, _, hK => by cases h
  | 0, F + 1, c, tm, tm', s, s', a, w, hc, _, h, _, hK => by
    have h' : cSkip E call N (codeA E call N F) tm s = some (.nor, tm', s') := h
    cases h'
    exact hK a w (.refl _ _) hc
  | n + 1, 0, c, tm, tm', s, s', a, w, hc, _, h, _, hK => by cases h
  | n + 1, F + 1, c, tm, tm', s, s', a, w, hc, hs, h, hok, hK => by
    cases c with
    | seq c1 c2 =>
      have h' : cSeq c1 (takeS n c2) E call N (codeA E call N F) tm s = some (.nor, tm', s') := h
      unfold cSeq at h'
      have hok' : (codeOk E.ty c1 && codeOk E.ty (takeS n c2)) = true := hok
      rw [Bool.and_eq_true] at hok'
      split at h'
      · cases h'
      · rename_i y tm1 s1 h1
        cases y with
        | nor => exact wp_seq (Cfg.code2 hT hB hC hD hc h1 hok'.1 (fun a1 w1 hk hc1 => Cfg.pre2 hT hB hC hD n F c2 hc1 hs h' hok'.2 (fun a' w' hk' => hK a' w' (hk.trans hk'))))
        | exit j => cases h'
        | ret => cases h'
    | _ => cases hs
end

theorem Wk.refl : ∀ o : AObj, alive o = true → Wk o o
  | .cells c n z, _ => ⟨rfl, rfl, fun _ _ _ h => h⟩
  | .ro c n, _ => ⟨rfl, fun _ _ _ h => h⟩
  | .map es, _ => rfl
  | .iter s p, _ => ⟨rfl, rfl⟩

/-- Numbers. -/
def intsV (l : List Int) : List Value := l.map fun n => .int .i64 n
theorem vls_ints (n : Nat) : ∀ l : List Int, vls (vl n) (intsV l) = true
  | [] => rfl
  | x :: l => by
    show (bif vl n (.int .i64 x) then vls (vl n) (intsV l) else false) = true
    rw [vls_ints n l]
    rfl
/-- A list of numbers that came in: its value, and the block that it lies in. -/
structure Inp where
  sv : Value
  l : List Int
def Inp.blocks (p : Inp) : List (Nat × OS) := match p.l with
  | [] => []
  | x :: l => [(1000, .ro (intsV (x :: l)) (x :: l).length)]
theorem Inp.blocks_mem {p : Inp} {b : Nat} {x : OS} (h : (b, x) ∈ p.blocks) : b = 1000 ∧ x = .ro (intsV p.l) p.l.length := by
  obtain ⟨sv, l⟩ := p
  cases l with
  | nil => cases h
  | cons y l =>
    have := List.mem_singleton.1 h
    cases this
    exact ⟨rfl, rfl⟩
theorem Inp.blocks_cons {p : Inp} (h : 0 < p.l.length) : p.blocks = [(1000, .ro (intsV p.l) p.l.length)] := by
  obtain ⟨sv, l⟩ := p
  cases l with
  | nil => cases h
  | cons y l => rfl
def Inp.Ok (p : Inp) : Prop := (p.sv = .slice none 0 0 ∧ p.l = []) ∨ p.sv = .slice (some ⟨1000, 0, none⟩) p.l.length (2 * p.l.length)
theorem Inp.Ok.vl {p : Inp} (h : p.Ok) {nx : Nat} (hn : 1000 < nx) : vl nx p.sv = true := by
  have : Nat.blt 1000 nx = true := by rw [Nat.blt_eq]; exact hn
  rcases h with ⟨h, _⟩ | h
  · rw [h]; rfl
  · rw [h]; exact this
theorem Inp.preL (p : Inp) {nx : Nat} (hn : 1000 < nx) {pre : List (Nat × OS)} (hp : preL nx pre = true) : Go.Ax.preL nx (p.blocks ++ pre) = true := by
  have : Nat.blt 1000 nx = true := by rw [Nat.blt_eq]; exact hn
  obtain ⟨sv, l⟩ := p
  cases l with
  | nil => exact hp
  | cons y l =>
    show (bif Nat.blt 1000 nx && vls (Go.Ax.vl nx) (intsV (y :: l)) then Go.Ax.preL nx pre else false) = true
    rw [this, vls_ints, hp]
    rfl
theorem Inp.Ok.len {p : Inp} (h : p.Ok) {E : Env} {s : AS} {t : TypeId} {i : TI} {e : TypeId} (ht : E.ty.get t = some i) (hd : i.desc = .slice e) : lenA E s t p.sv = some (.int .i64 (.ofNat p.l.length)) := by
  unfold lenA
  rw [ht]
  simp only [hd]
  rcases h with ⟨h, h2⟩ | h
  · rw [h, h2]; rfl
  · rw [h]; rfl
/-- What it looks at in the state is what came in. -/
def Inp.In (p : Inp) (s : AS) : Prop := ∀ b x, (b, x) ∈ p.blocks → s.h.get b = some x.mk
theorem Inp.In.stL (p : Inp) (pre : List (Nat × OS)) (nx : Nat) : p.In (stL (p.blocks ++ pre) nx) := by
  intro b x hb
  obtain ⟨rfl, rfl⟩ := Inp.blocks_mem hb
  obtain ⟨sv, l⟩ := p
  cases l with
  | nil => cases hb
  | cons y l =>
    show (T.pk (T.e.lay (mkL pre)) 1000 (some (OS.ro (intsV (y :: l)) (y :: l).length).mk)).get 1000 = _
    rw [T.pk_eq]
    exact (T.get_set _ _ _ _).trans (if_pos rfl)
theorem Inp.In.rd {p : Inp} {s : AS} (h : p.In s) {i : Nat} (hi : i < p.l.length) : ∃ v, rd s 1000 i = some (.int .i64 v) := by
  have hbl := Inp.blocks_cons (p := p) (by omega)
  have := h 1000 (.ro (intsV p.l) p.l.length) (by rw [hbl]; simp)
  unfold Go.Ax.rd
  rw [this]
  show ∃ v, (bif Nat.blt i p.l.length then (T.e.fill 0 (intsV p.l)).get i else none) = _
  have hb : Nat.blt i p.l.length = true := by rw [Nat.blt_eq]; exact hi
  rw [hb, cond_true, T.get_fill]
  refine ⟨p.l[i], ?_⟩
  have hlen : (intsV p.l).length = p.l.length := by unfold intsV; simp
  rw [if_pos (by omega)]
  unfold intsV
  simp [List.getElem?_map, List.getElem?_eq_getElem hi]
theorem Inp.blocks_ro {p : Inp} {b : Nat} {x : OS} (h : (b, x) ∈ p.blocks) : fixed x.mk = true ∧ alive x.mk = true := by
  obtain ⟨rfl, rfl⟩ := Inp.blocks_mem h
  exact ⟨rfl, rfl⟩
theorem Inp.In.keep {p : Inp} {i0 : Io} {s s' : AS} (h : p.In s) (hi0 : ∀ b x, (b, x) ∈ p.blocks → ∃ y, i0 b = some y) (hk : Keeps i0 s s') : p.In s' := fun b x hb => by
  obtain ⟨y, hy⟩ := hi0 b x hb
  rw [hk b y hy (by rw [obA_some (h b x hb)]; exact (Inp.blocks_ro hb).1), h b x hb]

section
variable {E : Env} {i0 : Io} {w0 : World} {N : Nat} {tm tm' : Tm} {s s' : AS} {a : Act} {w : World}
/-- Of the slots fewer may be known. -/
theorem Cfg.slots {tl : List (Nat × Value)} (hc : Cfg i0 w0 N tm s a w) (ht : ∀ k v, (k, v) ∈ tl → tm.get k = some v) : Cfg i0 w0 N (tmL tl) s a w := by
  obtain ⟨i, dl, hR, hg, hle, hup, hb, hd, ha⟩ := hc.ex
  exact ⟨i, dl, hR, hg, hle, hup, hb, hd, ⟨fun k v hk => ha.tm k v (ht k v (tmL_get tl hk)), ha.size, ha.defers⟩⟩
/-- What is known may be less, but for what came in. -/
theorem Cfg.weakI {p : Inp} {pre : List (Nat × OS)} {nx : Nat} {tl : List (Nat × Value)} (hc : Cfg i0 w0 N tm s a w) (h0 : ∀ b x, i0 b = some x → b < nx) (hnx : 1000 < nx) (hpre : preL nx pre = true) (htl : ∀ k v, (k, v) ∈ tl → vl nx v = true)
    (hin : p.In s) (hs : ∀ b x, (b, x) ∈ pre → ∃ o, s.h.get b = some o ∧ Wk x.mk o) (ht : ∀ k v, (k, v) ∈ tl → tm.get k = some v) : Cfg i0 w0 N (tmL tl) (stL (p.blocks ++ pre) nx) a w :=
  hc.weak h0 (by omega) (p.preL hnx hpre) htl (fun b x hb => by
    rcases List.mem_append.1 hb with hb | hb
    · exact ⟨x.mk, hin b x hb, Wk.refl _ (Inp.blocks_ro hb).2⟩
    · exact hs b x hb) ht
end

def HeadOps (os : Array Oper) (ti ts d t : Nat) (K : Int) : Prop := ∃ (o1 o2 o3 o4 o5 o6 o7 o8 : Oper) (tys : Array TypeId) (u1 u2 u3 : TypeId), os.toList = [o1, o2, o3, o4, o5, o6, o7, o8] ∧
    (o1.op = .move (.tmp ti) ∧ o1.dst = some d ∧ o1.guard = none) ∧ (o2.op = .move (.tmp ts) ∧ o2.dst = some (d + 1) ∧ o2.guard = none) ∧
    (o3.op = .call ⟨.builtin .len, #[.tmp (d + 1)], tys⟩ ∧ o3.dst = some (d + 2) ∧ o3.guard = none) ∧ (o4.op = .binOp .lss u1 (.tmp d) (.tmp (d + 2)) u2 ∧ o4.dst = some (d + 3) ∧ o4.guard = none) ∧
    (o5.op = .move (.tmp (d + 3)) ∧ o5.dst = some (d + 4) ∧ o5.guard = none) ∧ (o6.op = .move (.tmp ti) ∧ o6.dst = some (d + 5) ∧ o6.guard = some (4, true)) ∧
    (o7.op = .binOp .lss u1 (.tmp (d + 5)) (.const (.int .i64 K)) u3 ∧ o7.dst = some (d + 6) ∧ o7.guard = some (4, true)) ∧ (o8.op = .pick (.tmp (d + 4)) (.tmp (d + 6)) (.const (.bool false)) ∧ o8.dst = some (d + 7) ∧ o8.guard = none) ∧ tys.toList.head? = some t
def IncOps (os : Array Oper) (ti d : Nat) : Prop := ∃ (o1 o2 o3 : Oper) (u1 u2 : TypeId), os.toList = [o1, o2, o3] ∧
    (o1.op = .move (.tmp ti) ∧ o1.dst = some d ∧ o1.guard = none) ∧ (o2.op = .binOp .add u1 (.tmp d) (.const (.int .i64 1)) u2 ∧ o2.dst = some (d + 1) ∧ o2.guard = none) ∧ (o3.op = .assign (.tmp (d + 1)) ∧ o3.dst = some ti ∧ o3.guard = none)
def PickOps (os : Array Oper) (ti ts tk d M : Nat) (T1 t3 t6 : TypeId) : Prop := ∃ (o1 o2 o3 o4 o5 o6 o7 o8 o9 : Oper) (u1 u2 u3 u4 : TypeId), os.toList = [o1, o2, o3, o4, o5, o6, o7, o8, o9] ∧
    (o1.op = .move (.tmp ts) ∧ o1.dst = some d ∧ o1.guard = none) ∧ (o2.op = .move (.tmp ti) ∧ o2.dst = some (d + 1) ∧ o2.guard = none) ∧
    (o3.op = .indexAddr T1 (.tmp d) (.tmp (d + 1)) ∧ o3.dst = some (d + 2) ∧ o3.guard = none) ∧ (o4.op = .load t3 (.tmp (d + 2)) ∧ o4.dst = some (d + 3) ∧ o4.guard = none) ∧
    (o5.op = .convert t3 t6 (.tmp (d + 3)) ∧ o5.dst = some (d + 4) ∧ o5.guard = none) ∧ (o6.op = .binOp .rem u1 (.tmp (d + 4)) (.const (.int .u64 (.ofNat M))) u2 ∧ o6.dst = some (d + 5) ∧ o6.guard = none) ∧
    (o7.op = .convert t6 t3 (.tmp (d + 5)) ∧ o7.dst = some (d + 6) ∧ o7.guard = none) ∧ (o8.op = .binOp .add u3 (.const (.int .i64 1)) (.tmp (d + 6)) u4 ∧ o8.dst = some (d + 7) ∧ o8.guard = none) ∧
    (o9.op = .assign (.tmp (d + 7)) ∧ o9.dst = some tk ∧ o9.guard = none)

def iv (n : Nat) : Value := .int .i64 (.ofNat n)
/-- The loop's head: its region, and the way out. -/
theorem codeA_head {E : Env} {call : CallF} {N F : Nat} {id e0 c : Nat} {os : Array Oper} {tm tm' : Tm} {s : AS} {b : Bool} (h : runL E call N os.toList os.toList tm s = some (tm', s)) (hb : tm'.get c = some (.bool b)) :
    codeA E call N (F + 3) (.seq (.region id os false) (.cond (.tmp c) .skip (.exit e0))) tm s = some (bif b then .nor else .exit e0, tm', s) := by
  show cSeq (.region id os false) (.cond (.tmp c) .skip (.exit e0)) E call N (codeA E call N (F + 2)) tm s = _
  unfold cSeq
  rw [codeA_region (F := F + 1) h]
  show cCond (.tmp c) .skip (.exit e0) E call N (codeA E call N (F + 1)) tm' s = _
  unfold cCond
  have : ev tm' (.tmp c) = some (.bool b) := hb
  rw [this]
  cases b <;> rfl

theorem tmL_nodup : ∀ (l : List (Nat × Value)), (l.map (·.1)).Nodup → ∀ k v, (k, v) ∈ l → (tmL l).get k = some v
  | [], _, k, v, h => by cases h
  | x :: l, hn, k, v, h => by
    have e : (tmL (x :: l)).get k = if k = x.1 then some x.2 else (tmL l).get k := T.get_set _ _ _ _
    rw [List.map_cons, List.nodup_cons] at hn
    rcases List.mem_cons.1 h with rfl | h
    · rw [e, if_pos rfl]
    · rw [e, if_neg (fun hk => hn.1 (by rw [← hk]; exact List.mem_map.2 ⟨(k, v), h, rfl⟩))]
      exact tmL_nodup l hn.2 k v h

/-- 'for i < len(xs) && i < K { k := 1 + int(uint64(xs[i]) % M); Y; i++ }' -/
theorem loop_pick {E : Env} (hT : TyOk E) (hB : BackOk E) {F D : Nat} (hC : CallOk E.P (callA E F D)) (hD : DrawOk E (callA E F D)) {i0 : Io} {w0 : World} {N : Nat} {id1 id2 id3 e0 e1 ti ts tk d1 d2 d3 M Kc t T1 t3 t6 : Nat} {os1 os2 os3 : Array Oper} {Y : Code}
    (H1 : HeadOps os1 ti ts d1 t (.ofNat Kc)) (H2 : PickOps os2 ti ts tk d2 M T1 t3 t6) (H3 : IncOps os3 ti d3) {tl : List (Nat × Value)} {p : Inp} (hp : p.Ok)
    (hN : Nat.ble (d1 + 7) N = true ∧ Nat.ble (d2 + 7) N = true ∧ Nat.ble (d3 + 1) N = true) (hlow : ti < d1 ∧ ti < d2 ∧ ti < d3 ∧ ts < d1 ∧ ts < d2 ∧ tk < d2) (hM : 0 < M ∧ M < 1000000) (hK : Kc < 1000000)
    (hY0 : ∀ k v, (k, v) ∈ tl → k < d1 ∧ k < d2 ∧ k < d3 ∧ k ≠ ti ∧ k ≠ tk) (htk : tk ≠ ti) (hnd : (ti :: tl.map (·.1)).Nodup) (hts : (ts, p.sv) ∈ tl)
    {iT i3 i6 ie it : TI} {e et : TypeId} (y1 : E.ty.get T1 = some iT) (y2 : iT.desc = .slice e) (y3 : E.ty.get e = some ie) (y4 : ie.size = 1) (y5 : E.ty.get t3 = some i3) (y6 : i3.desc = .int .i64) (y7 : E.ty.get t6 = some i6) (y8 : i6.desc = .int .u64) (y9 : E.ty.get t = some it) (y10 : it.desc = .slice et)
    {pre : List (Nat × OS)} {nx : Nat} (hpre : preL nx pre = true) (hnx : 1000 < nx) (h0 : ∀ b x, i0 b = some x → b < nx) (hin : ∀ b x, (b, x) ∈ p.blocks → ∃ y, i0 b = some y) (hvl : ∀ k v, (k, v) ∈ tl → vl nx v = true)
    (hY : ∀ r, r < M → ∀ i : Nat, ∃ tm' s', codeA E (callA E F D) N F Y (tmL ((tk, iv (1 + r)) :: (ti, iv i) :: tl)) (stL (p.blocks ++ pre) nx) = some (.nor, tm', s') ∧ nx ≤ s'.nx ∧ (∀ b x, (b, x) ∈ pre → ∃ o, s'.h.get b = some o ∧ Wk x.mk o) ∧ ∀ k v, (k, v) ∈ (ti, iv i) :: tl → tm'.get k = some v)
    (hYok : codeOk E.ty Y = true) {Q : Exit → Act → World → Prop} {a : Act} {w : World} (hc : Cfg i0 w0 N (tmL ((ti, iv 0) :: tl)) (stL (p.blocks ++ pre) nx) a w)
    (hQ : ∀ i a' w', Cfg i0 w0 N (tmL ((ti, iv i) :: tl)) (stL (p.blocks ++ pre) nx) a' w' → Q (.exit e0) a' w') :
    (Code.loop (.seq (.seq (.region id1 os1 false) (.cond (.tmp (d1 + 7)) .skip (.exit e0))) (.seq (.block e1 (.seq (.region id2 os2 false) Y)) (.region id3 os3 false)))).wp E.P Q a w := by
  obtain ⟨l1, l2, l3, l4, l5, l6⟩ := hlow
  obtain ⟨hN1, hN2, hN3⟩ := hN
  have gets : ∀ (i : Nat) (k : Nat) (v : Value), (k, v) ∈ (ti, iv i) :: tl → (tmL ((ti, iv i) :: tl)).get k = some v := fun i => tmL_nodup _ hnd
  refine (loop_ind (P := E.P) (Q := Q) (fun m a w => ∃ i, m + i = Kc ∧ Cfg i0 w0 N (tmL ((ti, iv i) :: tl)) (stL (p.blocks ++ pre) nx) a w) ?_ Kc a w ⟨0, by omega, hc⟩).1
  rintro m a w ⟨i, hm, hc⟩
  have gi : (tmL ((ti, iv i) :: tl)).get ti = some (iv i) := gets i _ _ (List.mem_cons_self ..)
  have gt : ∀ k v, (k, v) ∈ tl → (tmL ((ti, iv i) :: tl)).get k = some v := fun k v hk => gets i k v (List.mem_cons_of_mem _ hk)
  obtain ⟨o1, o2, o3, o4, o5, o6, o7, o8, tys, u1, u2, u3, q0, q1, q2, q3, q4, q5, q6, q7, q8, q9⟩ := H1
  obtain ⟨tm1, r1, g1, k1⟩ := run_head (E := E) (call := callA E F D) (N := N) q0 q1 q2 q3 q4 q5 q6 q7 q8 hN1 l1 l4 q9 (tm := tmL ((ti, iv i) :: tl)) (s := stL (p.blocks ++ pre) nx) (i := .ofNat i) (n := .ofNat p.l.length) (sv := p.sv) gi (gt ts p.sv hts) (hp.len y9 y10)
  have gi1 : tm1.get ti = some (iv i) := (k1 ti l1).trans gi
  have gt1 : ∀ k v, (k, v) ∈ tl → tm1.get k = some v := fun k v hk => (k1 k (hY0 k v hk).1).trans (gt k v hk)
  refine wp_seq (hc.code2 hT hB hC hD (codeA_head (F := 0) (e0 := e0) r1 g1) rfl (fun a1 w1 _ hc1 => ?_))
  cases hb : (ilt (.ofNat i) (.ofNat p.l.length) && ilt (.ofNat i) (.ofNat Kc)) with
  | false =>
    rw [cond_false]
    exact hQ i a1 w1 (hc1.slots (fun k v hk => by
      rcases List.mem_cons.1 hk with e | hk
      · cases e; exact gi1
      · exact gt1 k v hk))
  | true =>
    rw [cond_true]
    rw [Bool.and_eq_true] at hb
    have hi : i < p.l.length := by have : Nat.blt i p.l.length = true := hb.1; rw [Nat.blt_eq] at this; exact this
    have hiK : i < Kc := by have : Nat.blt i Kc = true := hb.2; rw [Nat.blt_eq] at this; exact this
    refine wp_seq (wp_block (wp_seq ?_))
    obtain ⟨p1, p2, p3, p4, p5, p6, p7, p8, p9, v1, v2, v3, v4, z0, z1, z2, z3, z4, z5, z6, z7, z8, z9⟩ := H2
    obtain ⟨v, hv⟩ := (Inp.In.stL p pre nx).rd hi
    have hsv : p.sv = .slice (some ⟨1000, 0, none⟩) p.l.length (2 * p.l.length) := by
      rcases hp with ⟨_, h2⟩ | h2
      · rw [h2] at hi; cases hi
      · exact h2
    obtain ⟨tm2, r, r2, hr, g2, k2⟩ := run_pick (E := E) (call := callA E F D) (N := N) z0 z1 z2 z3 z4 z5 z6 z7 z8 z9 hN2 l2 l5 l6 hM.1 hM.2 y1 y2 y3 y4 y5 y6 y7 y8 (tm := tm1) (s := stL (p.blocks ++ pre) nx) (i := i) gi1 (by rw [← hsv]; exact gt1 ts _ hts) hi hv
    refine hc1.code2 hT hB hC hD (codeA_region (F := 0) r2) rfl (fun a2 w2 _ hc2 => ?_)
    have hc3 : Cfg i0 w0 N (tmL ((tk, iv (1 + r)) :: (ti, iv i) :: tl)) (stL (p.blocks ++ pre) nx) a2 w2 := hc2.slots (fun k v hk => by
      rcases List.mem_cons.1 hk with e | hk
      · cases e; exact g2
      rcases List.mem_cons.1 hk with e | hk
      · cases e; exact (k2 ti l2 (Ne.symm htk)).trans gi1
      · obtain ⟨_, x2, _, _, x5⟩ := hY0 k v hk
        exact (k2 k x2 x5).trans (gt1 k v hk))
    obtain ⟨tm3, s3, e3, n3, b3, t3⟩ := hY r hr i
    refine hc3.code2 hT hB hC hD e3 hYok (fun a4 w4 hk4 hc4 => ?_)
    have hin3 : p.In s3 := (Inp.In.stL p pre nx).keep hin hk4
    have hc5 : Cfg i0 w0 N (tmL ((ti, iv i) :: tl)) (stL (p.blocks ++ pre) nx) a4 w4 := hc4.weakI h0 hnx hpre (fun k v hk => by
        rcases List.mem_cons.1 hk with e | hk
        · cases e; rfl
        · exact hvl k v hk) hin3 b3 t3
    obtain ⟨j1, j2, j3, w1', w2', s0, s1, s2, s3'⟩ := H3
    obtain ⟨tm6, r6, g6, k6⟩ := run_inc (E := E) (call := callA E F D) (N := N) s0 s1 s2 s3' hN3 l3 (tm := tmL ((ti, iv i) :: tl)) (s := stL (p.blocks ++ pre) nx) (i := i) (by omega) gi
    refine hc5.code2 hT hB hC hD (codeA_region (F := 0) r6) rfl (fun a7 w7 _ hc7 => ?_)
    refine ⟨m - 1, by omega, i + 1, by omega, hc7.slots (fun k v hk => ?_)⟩
    rcases List.mem_cons.1 hk with e | hk
    · cases e; exact g6
    · obtain ⟨_, _, x3, x4, _⟩ := hY0 k v hk
      exact (k6 k x3 x4).trans (gt k v hk)

/-! ### Parts of codes -/
def headS : Code → Code
  | .seq a _ => a
  | c => c
def tailS : Code → Code
  | .seq _ b => b
  | c => c
def bodyB : Code → Code
  | .block _ b => b
  | .loop b => b
  | c => c
def opsOf : Code → Array Oper
  | .region _ os _ => os
  | _ => #[]
def nthO (os : Array Oper) (k : Nat) : Oper := (os.toList[k]?).getD ⟨none, .move (.tmp 0), 0, "", #[], none⟩
def xTy : Op → TypeId
  | .binOp _ t _ _ _ => t
  | _ => 0
def yTy : Op → TypeId
  | .binOp _ _ _ _ t => t
  | _ => 0
def cTys : Op → Array TypeId
  | .call c => c.argTypes
  | _ => #[]

/-! ### The start: a table that the program lays, and a list of numbers that came in -/
def ioI (o : Option (Nat × Nat × Nat)) : Io := ⟨fun b => if b < 1000 then some (b, 0) else if b = 1000 then o.map (fun x => (x.1, x.2.1)) else none, fun b => match o with
  | some (_, p, c) => if b = 1000 then (1, p + c) else (0, 0)
  | none => (0, 0)⟩
/-- The table of bytes that lies in a variable. -/
def TabAt (w : World) (gb : Nat) (tv : List Value) : Prop := ∃ cs e fr, w.heap[gb]? = some (.cells cs e fr) ∧ cs.toList = tv ∧ ∀ v ∈ tv, ∃ x, v = .int .u8 x
structure Started (i0 : Io) (p : Inp) (gb : Nat) (tv : List Value) (w0 : World) : Prop where
  rel : Rel i0 (stL (p.blocks ++ [(gb, .ro tv tv.length)]) 1001) w0
  gl : Gl i0
  up : ∀ b q t, i0 b = some (q, t) → q < w0.heap.size → fixed (obA (stL (p.blocks ++ [(gb, .ro tv tv.length)]) 1001) b) = true
  lt : ∀ b x, i0 b = some x → b < 1001
  inp : ∀ b x, (b, x) ∈ p.blocks → ∃ y, i0 b = some y

theorem start_get {p : Inp} {gb : Nat} {tv : List Value} {b : Nat} {o : AObj} (h : (stL (p.blocks ++ [(gb, .ro tv tv.length)]) 1001).h.get b = some o) : (b = 1000 ∧ 0 < p.l.length ∧ o = (OS.ro (intsV p.l) p.l.length).mk) ∨ (b = gb ∧ o = (OS.ro tv tv.length).mk) := by
  obtain ⟨x, h1, rfl⟩ := stL_get h
  rcases List.mem_append.1 h1 with h1 | h1
  · left
    obtain ⟨e1, e2⟩ := Inp.blocks_mem h1
    refine ⟨e1, ?_, by rw [e2]⟩
    obtain ⟨sv, l⟩ := p
    cases l with
    | nil => cases h1
    | cons y l => exact Nat.zero_lt_succ _
  · right
    cases List.mem_singleton.1 h1
    exact ⟨rfl, rfl⟩

theorem start_inp {w0 : World} {gb : Nat} {tv : List Value} (hgb : gb < 1000) (hT : TabAt w0 gb tv) {o : Option (Nat × Nat × Nat)} {l : List Int} (ho : o = none → l = [])
    (hq : ∀ q p c, o = some (q, p, c) → q < w0.heap.size ∧ l.length ≤ c ∧ ∀ k z, l[k]? = some z → w0.cell? ⟨q, p + k, none⟩ = some (.int .i64 z)) (sv : Value) : Started (ioI o) ⟨sv, l⟩ gb tv w0 := by
  obtain ⟨cs, e, fr, t1, t2, t3⟩ := hT
  have hlt : gb < w0.heap.size := (Array.getElem?_eq_some_iff.1 t1).1
  have hlow : ∀ b, b < 1000 → (ioI o) b = some (b, 0) := fun b hb => if_pos hb
  have hmid : (ioI o) 1000 = o.map (fun x => (x.1, x.2.1)) := rfl
  have hhigh : ∀ b, 1000 < b → (ioI o) b = none := fun b hb => by
    show (if b < 1000 then _ else if b = 1000 then _ else none) = none
    rw [if_neg (by omega), if_neg (by omega)]
  have hrow : ∀ q p c, o = some (q, p, c) → 0 < l.length → ∃ cs' e' fr', w0.heap[q]? = some (.cells cs' e' fr') ∧ ∀ k z, l[k]? = some z → cs'[p + k]? = some (.int .i64 z) := fun q p c ho hl => by
    obtain ⟨_, _, h3⟩ := hq q p c ho
    have h4 := h3 0 l[0] (List.getElem?_eq_getElem hl)
    unfold World.cell? at h4
    match hw : w0.heap[q]?, h4 with
    | some (.cells cs' e' fr'), h4 =>
      refine ⟨cs', e', fr', rfl, fun k z hk => ?_⟩
      have h5 := h3 k z hk
      unfold World.cell? at h5
      simp only [hw] at h5
      simpa using h5
  refine ⟨⟨fun b ob hb _ => ?_, fun b b' ob ob' q t t' hb hb' _ _ hi hi' => ?_, fun b hb => ?_, fun b c n z q t hb hi => ?_, fun b q t hi hor => ?_⟩, fun g hg => hlow g hg, fun b q t hi hq' => ?_, fun b x hb => ?_, fun b x hb => ?_⟩
  · rcases start_get hb with ⟨rfl, hl, rfl⟩ | ⟨rfl, rfl⟩
    · cases ho' : o with
      | none => rw [ho ho'] at hl; cases hl
      | some x =>
        obtain ⟨q, p, c⟩ := x
        obtain ⟨cs', e', fr', g1, g2⟩ := hrow q p c ho' hl
        refine ⟨q, p, by rw [← ho', hmid, ho']; rfl, cs', e', fr', g1, ?_, fun k v hk hv => ?_⟩
        · have := g2 (l.length - 1) _ (List.getElem?_eq_getElem (by have : 0 < l.length := hl; omega))
          have := (Array.getElem?_eq_some_iff.1 this).1
          have hl' : 0 < l.length := hl
          show p + l.length ≤ cs'.size
          omega
        · have hv' : (T.e.fill 0 (intsV l)).get k = some v := hv
          rw [T.get_fill] at hv'
          split at hv'
          · unfold intsV at hv'
            rw [List.getElem?_map] at hv'
            cases hz : l[k - 0]? with
            | none => rw [hz] at hv'; cases hv'
            | some z =>
              rw [hz] at hv'
              cases hv'
              exact ⟨_, g2 k z hz, .int _ _⟩
          · rw [T.get_e] at hv'; cases hv'
    · refine ⟨b, 0, hlow b hgb, cs, e, fr, t1, ?_, fun k v hk hv => ?_⟩
      · rw [← t2, Array.length_toList]; omega
      · have hv' : (T.e.fill 0 tv).get k = some v := hv
        rw [T.get_fill] at hv'
        split at hv'
        · obtain ⟨x, rfl⟩ := t3 v (List.mem_of_getElem? hv')
          refine ⟨_, ?_, .int _ _⟩
          rw [Nat.zero_add, ← Array.getElem?_toList, t2]
          exact hv'
        · rw [T.get_e] at hv'; cases hv'
  · rcases start_get hb with ⟨rfl, hl, rfl⟩ | ⟨rfl, rfl⟩ <;> rcases start_get hb' with ⟨rfl, hl', rfl⟩ | ⟨rfl, rfl⟩
    · rfl
    · exfalso
      rw [hlow _ hgb] at hi'
      cases hi'
      rw [hmid] at hi
      cases ho' : o with
      | none => rw [ho'] at hi; cases hi
      | some x =>
        obtain ⟨q, p, c⟩ := x
        rw [ho'] at hi
        cases hi
        obtain ⟨cs', e', fr', g1, g2⟩ := hrow _ _ _ ho' hl
        rw [t1] at g1
        cases g1
        have := g2 0 l[0] (List.getElem?_eq_getElem hl)
        rw [← Array.getElem?_toList, t2] at this
        obtain ⟨x, hx⟩ := t3 _ (List.mem_of_getElem? this)
        cases hx
    · exfalso
      rw [hlow _ hgb] at hi
      cases hi
      rw [hmid] at hi'
      cases ho' : o with
      | none => rw [ho'] at hi'; cases hi'
      | some x =>
        obtain ⟨q, p, c⟩ := x
        rw [ho'] at hi'
        cases hi'
        obtain ⟨cs', e', fr', g1, g2⟩ := hrow _ _ _ ho' hl'
        rw [t1] at g1
        cases g1
        have := g2 0 l[0] (List.getElem?_eq_getElem hl')
        rw [← Array.getElem?_toList, t2] at this
        obtain ⟨x, hx⟩ := t3 _ (List.mem_of_getElem? this)
        cases hx
    · rfl
  · have hb' : 1001 ≤ b := hb
    refine ⟨hhigh b (by omega), ?_⟩
    cases hg : (stL ((⟨sv, l⟩ : Inp).blocks ++ [(gb, OS.ro tv tv.length)]) 1001).h.get b with
    | none => rfl
    | some ob => rcases start_get hg with ⟨h, _, _⟩ | ⟨h, _⟩ <;> omega
  · rcases start_get hb with ⟨_, _, h⟩ | ⟨_, h⟩ <;> cases h
  · by_cases h1 : b < 1000
    · rw [hlow b h1] at hi
      cases hi
      rcases hor with hor | hor
      · cases hg : (stL ((⟨sv, l⟩ : Inp).blocks ++ [(gb, OS.ro tv tv.length)]) 1001).h.get b with
        | none => exact absurd hg hor
        | some ob => rcases start_get hg with ⟨h, _, _⟩ | ⟨h, _⟩ <;> omega
      · omega
    · by_cases h2 : b = 1000
      · subst h2
        rw [hmid] at hi
        cases ho' : o with
        | none => rw [ho'] at hi; cases hi
        | some x =>
          obtain ⟨q', p', c'⟩ := x
          rw [ho'] at hi
          cases hi
          exact (hq _ _ _ ho').1
      · rw [hhigh b (by omega)] at hi; cases hi
  · cases hg : (stL ((⟨sv, l⟩ : Inp).blocks ++ [(gb, OS.ro tv tv.length)]) 1001).h.get b with
    | none => unfold obA; rw [hg]; rfl
    | some ob =>
      rw [obA_some hg]
      rcases start_get hg with ⟨_, _, rfl⟩ | ⟨_, rfl⟩ <;> rfl
  · by_cases h1 : b < 1000
    · omega
    · by_cases h2 : b = 1000
      · omega
      · rw [hhigh b (by omega)] at hb; cases hb
  · obtain ⟨rfl, _⟩ := Inp.blocks_mem hb
    cases ho' : o with
    | none =>
      have := ho ho'
      subst this
      cases hb
    | some x => exact ⟨(x.1, x.2.1), rfl⟩
theorem start_vr {q p n c : Nat} (hnc : n ≤ c) : VR (ioI (some (q, p, c))) (.slice (some ⟨1000, 0, none⟩) n (2 * n)) (.slice (some ⟨q, p, none⟩) n c) :=
  .slice (t := p) rfl (by omega) (by omega) (by omega) (.inl (by omega)) (fun _ _ => by show p + c * 1 ≤ p + c; omega)
end
end Go.Ax
