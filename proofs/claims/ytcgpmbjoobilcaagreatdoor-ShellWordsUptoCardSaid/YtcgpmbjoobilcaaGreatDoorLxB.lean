/- Regions that draw their order: in the order of the text, and what is read is the same wherever it may be read. -/
import Derived.Test.YtcgpmbjoobilcaaGreatDoorLxA
import Derived.KernelRfl
set_option linter.unusedSimpArgs false
set_option linter.unusedVariables false
namespace Go.Lx
open Go Go.Ax
variable {E : Env} {N : Nat} {ops l : List Oper} {an : List Nat} {base i : Nat} {al : Al} {L P : List Asn}
structure Chk where
 lo : Nat
 hi : Nat
 ok : List Asn → List Asn → Prop
abbrev Hist := List (List Asn × List Asn)
abbrev NewL := List (Nat × Asn)
def SeeV (E : Env) (op : Op) (tm : Tm) (v : Value) (ok : List Asn → List Asn → Prop) : Prop := ∀ L P S s s', Sat L P S s → Exts s s' → ok L P → opA op E tm s' = some (v, s')
def RecIs (E : Env) (ops : List Oper) (an : List Nat) (r : Rec) (k : Chk) : Prop :=
 k.lo ≤ effIn E.ty ops (an.getD r.i 0) ∧ effNot E.ty ops an r.i ≤ k.hi ∧ (sees r.o.op = true → veq r.v r.v = true) ∧ SeeV E r.o.op r.tm r.v k.ok
def RecT (E : Env) (r : Rec) : Prop := (sees r.o.op = true → veq r.v r.v = true) ∧ ∀ s, opA r.o.op E r.tm s = some (r.v, s)
structure DI (ops : List Oper) (base i : Nat) (L P : List Asn) (NW : NewL) (S : Nat → Prop) (s : AS) (nw : News) : Prop where
 sat : Sat L P S s
 bnx : base + ops.length ≤ s.nx
 none : ∀ j A, (j, A) ∈ NW → s.h.get (base + j) = none ∧ j < ops.length
 nd : nw.Pairwise (fun a b => a.1 ≠ b.1)
 lt : ∀ x ∈ nw, x.1 < i
 ndN : (NW.map (·.1)).Nodup
 news : ∀ j A, (j, A) ∈ NW → ∃ o, (j, o) ∈ nw ∧ ∀ h : T AObj, h.get (base + j) = some o → A.p (fun k => k = base + j) h
 all : ∀ x ∈ nw, (∃ A, (x.1, A) ∈ NW) ∨ s.h.get (base + x.1) ≠ Option.none
 ahead : ∀ j, i ≤ j → j < ops.length → s.h.get (base + j) = Option.none
def HsOk (ss : List AS) (Hs : Hist) : Prop := ss.length = Hs.length ∧ ∀ (m : Nat) (s : AS), ss[m]? = some s → ∃ (H : List Asn × List Asn) (S : Nat → Prop), Hs[m]? = some H ∧ Sat H.1 H.2 S s
def RsOk (E : Env) (ops : List Oper) (an : List Nat) (rs : List Rec) (CK : List Chk) : Prop := ∀ r ∈ rs, RecT E r ∨ ∃ k ∈ CK, RecIs E ops an r k
def CkOk (CK : List Chk) (Hs : Hist) : Prop := ∀ k ∈ CK, ∀ (m : Nat) (H : List Asn × List Asn), k.lo ≤ m → m ≤ k.hi → Hs[m]? = some H → k.ok H.1 H.2
def WD (E : Env) (N : Nat) (ops : List Oper) (an : List Nat) (base : Nat) (l : List Oper) (i : Nat) (al : Al) (L P : List Asn) (NW : NewL) (Hs : Hist) (CK : List Chk) (K : Al → List Asn → List Asn → Prop) : Prop :=
 ∀ S0 s0 S s tm ss rs nw, Tr S0 s0 S s → s0.nx ≤ base → DI ops base i L P NW S s nw → Has al tm → HsOk ss Hs → RsOk E ops an rs CK → ∃ F D tm' s' ss' rs' nw' S' al' L' P', runD E (callA E F D) N ops an base l i tm s ss rs nw = some (tm', s', ss', rs', nw') ∧
  rs'.all (readOk E ops an base ss') = true ∧ Tr S0 s0 S' (laid base (allBits ops.length) nw' s') ∧ Has al' tm' ∧ Sat L' P' S' (laid base (allBits ops.length) nw' s') ∧ K al' L' P'
theorem laid_exts (base bits : Nat) (nw : News) (s : AS) : Exts s (laid base bits nw s) := fun b o h => laid_keeps base bits nw s b o h
theorem readOk_of {ss : List AS} {Hs : Hist} (hh : HsOk ss Hs) {CK : List Chk} (hc : CkOk CK Hs) {r : Rec} (hr : RecT E r ∨ ∃ k ∈ CK, RecIs E ops an r k) : readOk E ops an base ss r = true := by
 unfold readOk
 cases hs : sees r.o.op with
 | false => rfl
 | true =>
  simp only [Bool.not_true, cond_false]
  rw [List.all_eq_true]
  intro x hx
  obtain ⟨s, m⟩ := x
  have hm : ss[m]? = some s := by
   have := List.mem_zipIdx_iff_getElem?.1 hx
   simpa using this
  simp only
  cases hw : (Nat.ble (effIn E.ty ops (an.getD r.i 0)) m && Nat.ble m (effNot E.ty ops an r.i)) with
  | false => rfl
  | true =>
   simp only [cond_true]
   rcases hr with ⟨h1, h2⟩ | ⟨k, hk, h1, h2, h3, h4⟩
   ·rw [h2 _]
    exact h1 hs
   ·rw [Bool.and_eq_true] at hw
    obtain ⟨H, S, g1, g2⟩ := hh.2 m s hm
    have hok := hc k hk m H (Nat.le_trans h1 (Nat.le_of_ble_eq_true hw.1)) (Nat.le_trans (Nat.le_of_ble_eq_true hw.2) h2) g1
    rw [h4 _ _ _ _ _ g2 (laid_exts base (an.getD r.i 0) r.news s) hok]
    exact h3 hs
def pickB (bits : Nat) : NewL → List Asn
 | [] => []
 | (j, A) :: l => bif bits.testBit j then A :: pickB bits l else pickB bits l
def restB (bits : Nat) : NewL → NewL
 | [] => []
 | (j, A) :: l => bif bits.testBit j then restB bits l else (j, A) :: restB bits l
theorem mem_restB {bits : Nat} : ∀ {NW : NewL} {x : Nat × Asn}, x ∈ restB bits NW ↔ x ∈ NW ∧ bits.testBit x.1 = false
 | [], x => by simp [restB]
 | (j, A) :: l, x => by
  unfold restB
  cases hb : bits.testBit j with
  | true =>
   rw [cond_true, mem_restB (NW := l), List.mem_cons]
   constructor
   ·exact fun h => ⟨.inr h.1, h.2⟩
   ·rintro ⟨rfl | h, h2⟩
    ·rw [hb] at h2; cases h2
    ·exact ⟨h, h2⟩
  | false =>
   rw [cond_false, List.mem_cons, mem_restB (NW := l), List.mem_cons]
   constructor
   ·rintro (rfl | h)
    ·exact ⟨.inl rfl, hb⟩
    ·exact ⟨.inr h.1, h.2⟩
   ·rintro ⟨rfl | h, h2⟩
    ·exact .inl rfl
    ·exact .inr ⟨h, h2⟩
theorem restB_nd {bits : Nat} : ∀ {NW : NewL}, (NW.map (·.1)).Nodup → ((restB bits NW).map (·.1)).Nodup
 | [], h => h
 | (j, A) :: l, h => by
  rw [List.map_cons, List.nodup_cons] at h
  unfold restB
  cases bits.testBit j with
  | true => exact restB_nd h.2
  | false =>
   rw [cond_false, List.map_cons, List.nodup_cons]
   refine ⟨fun hm => h.1 ?_, restB_nd h.2⟩
   obtain ⟨x, hx, e⟩ := List.mem_map.1 hm
   exact List.mem_map.2 ⟨x, (mem_restB.1 hx).1, e⟩
theorem laid_get {S : Nat → Prop} {s : AS} {nw : News} {NW : NewL} (h : DI ops base i L P NW S s nw) (bits : Nat) {j : Nat} {A : Asn} (hm : (j, A) ∈ NW) (hb : bits.testBit j = true) : ∃ o, (laid base bits nw s).h.get (base + j) = some o ∧ ∀ h : T AObj, h.get (base + j) = some o → A.p (fun k => k = base + j) h := by
 obtain ⟨o, h1, h2⟩ := h.news j A hm
 exact ⟨o, laid_val base bits nw s h.nd (j, o) h1 hb (h.none j A hm).1, h2⟩
theorem laid_same {S : Nat → Prop} {s : AS} {nw : News} {NW : NewL} (h : DI ops base i L P NW S s nw) (bits : Nat) {k : Nat} (hk : ∀ j A, (j, A) ∈ NW → bits.testBit j = true → k ≠ base + j) : (laid base bits nw s).h.get k = s.h.get k := by
 cases hg : s.h.get k with
 | some o => exact laid_keeps _ _ _ _ _ _ hg
 | none =>
  rw [laid_other _ _ _ _ _ (fun x hx hb e => ?_), hg]
  rcases h.all x hx with ⟨A, hA⟩ | hn
  ·exact hk x.1 A hA hb e
  ·rw [← e] at hn; exact hn hg
theorem laid_own {S : Nat → Prop} {s : AS} {nw : News} {NW : NewL} (h : DI ops base i L P NW S s nw) (bits : Nat) : ∀ (M : NewL), (∀ x ∈ M, x ∈ NW) → (M.map (·.1)).Nodup → Own (pickB bits M ++ L) (fun b => S b ∨ ∃ j A, (j, A) ∈ M ∧ bits.testBit j = true ∧ b = base + j) (laid base bits nw s).h
 | [], _, _ => (h.sat.own.loc (fun b hb => laid_same h bits (fun j A hm _ e => h.sat.ex b hb (by rw [e]; exact (h.none j A hm).1)))).sub (fun b hb => .inl hb)
 | (j, A) :: M, hM, hnd => by
  rw [List.map_cons, List.nodup_cons] at hnd
  have ih := laid_own h bits M (fun x hx => hM x (.tail _ hx)) hnd.2
  unfold pickB
  cases hb : bits.testBit j with
  | false =>
   rw [cond_false]
   exact ih.sub (fun b hb' => hb'.imp id (fun ⟨j', A', h1, h2, h3⟩ => ⟨j', A', .tail _ h1, h2, h3⟩))
  | true =>
   rw [cond_true]
   obtain ⟨o, h1, h2⟩ := laid_get h bits (hM _ (.head _)) hb
   refine ⟨fun k => k = base + j, fun b => S b ∨ ∃ j A, (j, A) ∈ M ∧ bits.testBit j = true ∧ b = base + j, fun k hk => .inr ⟨j, A, .head _, hb, hk⟩, fun b hb' => hb'.imp id (fun ⟨j', A', h1, h2, h3⟩ => ⟨j', A', .tail _ h1, h2, h3⟩), fun k hk hk2 => ?_, h2 _ h1, ih⟩
   subst hk
   rcases hk2 with hk2 | ⟨j', A', g1, _, g3⟩
   ·exact h.sat.ex _ hk2 (h.none j A (hM _ (.head _))).1
   ·have : j = j' := by omega
    subst this
    exact hnd.1 (List.mem_map.2 ⟨_, g1, rfl⟩)
theorem DI.laid {S : Nat → Prop} {s : AS} {nw : News} {NW : NewL} (h : DI ops base i L P NW S s nw) (bits : Nat) : DI ops base i (pickB bits NW ++ L) P (restB bits NW) (fun b => S b ∨ ∃ j A, (j, A) ∈ NW ∧ bits.testBit j = true ∧ b = base + j) (Go.Ax.laid base bits nw s) nw := by
 have hx : ∀ b, s.h.get b ≠ Option.none → (Go.Ax.laid base bits nw s).h.get b = s.h.get b := fun b hb => laid_same h bits (fun j A hm _ e => hb (by rw [e]; exact (h.none j A hm).1))
 refine ⟨⟨laid_own h bits NW (fun _ h => h) h.ndN, fun A hA => ?_, fun b hb => ?_, fun b hb => ?_⟩, by rw [laid_nx]; exact h.bnx, fun j A hm => ?_, h.nd, h.lt, restB_nd h.ndN, fun j A hm => h.news j A (mem_restB.1 hm).1, fun x hx' => ?_, fun j h1 h2 => ?_⟩
 ·obtain ⟨U, hu, hk⟩ := h.sat.per A hA
  refine ⟨U, A.loc _ _ _ (fun b hb => hx b (hk b hb).2) hu, fun b hb => ⟨?_, by rw [hx b (hk b hb).2]; exact (hk b hb).2⟩⟩
  rintro (e | ⟨j, A', h1, _, rfl⟩)
  ·exact (hk b hb).1 e
  ·exact (hk _ hb).2 (h.none j A' h1).1
 ·rcases hb with hb | ⟨j, A, h1, h2, rfl⟩
  ·rw [hx b (h.sat.ex b hb)]
   exact h.sat.ex b hb
  ·obtain ⟨o, g1, _⟩ := laid_get h bits h1 h2
   rw [g1]
   simp
 ·rw [laid_nx] at hb
  rw [laid_same h bits (fun j A hm _ e => by have := (h.none j A hm).2; have := h.bnx; omega)]
  exact h.sat.fresh b hb
 ·obtain ⟨h1, h2⟩ := mem_restB.1 hm
  have h2 : bits.testBit j = false := h2
  refine ⟨?_, (h.none j A h1).2⟩
  rw [laid_same h bits (fun j' A' hm' hb' e => by
   have : j = j' := by omega
   subst this
   rw [h2] at hb'; cases hb')]
  exact (h.none j A h1).1
 ·rcases h.all x hx' with ⟨A, hA⟩ | hn
  ·cases hb : bits.testBit x.1 with
   | false => exact .inl ⟨A, mem_restB.2 ⟨hA, hb⟩⟩
   | true =>
    obtain ⟨o, g1, _⟩ := laid_get h bits hA hb
    exact .inr (by rw [g1]; simp)
  ·exact .inr (by rw [hx _ hn]; exact hn)
 ·rw [laid_same h bits (fun j' A hm _ e => by
   obtain ⟨o, g1, _⟩ := h.news j' A hm
   have := h.lt _ g1
   have : j = j' := by omega
   subst this
   simp only at *
   omega)]
  exact h.ahead j h1 h2
theorem laid_tr {S : Nat → Prop} {s : AS} {nw : News} {NW : NewL} (h : DI ops base i L P NW S s nw) (bits : Nat) {s0 : AS} {S0 : Nat → Prop} (ht : Tr S0 s0 S s) (hb : s0.nx ≤ base) : Tr S0 s0 (fun b => S b ∨ ∃ j A, (j, A) ∈ NW ∧ bits.testBit j = true ∧ b = base + j) (laid base bits nw s) :=
 ⟨by rw [laid_nx]; exact ht.nx, fun b hb' hn => by
  rw [laid_same h bits (fun j A hm _ e => by omega)]
  exact ht.keep b hb' hn, fun b hb' => hb'.elim (ht.sub b) (fun ⟨j, A, _, _, e⟩ => .inr (by omega)), fun b hb' => by
  have := ht.stay b hb'
  cases hg : s.h.get b with
  | none => exact absurd hg this
  | some o => rw [laid_keeps _ _ _ _ _ _ hg]; simp⟩
variable {NW : NewL} {Hs : Hist} {CK : List Chk} {K : Al → List Asn → List Asn → Prop}
theorem DI.step {S : Nat → Prop} {s : AS} {nw : News} (h : DI ops base i L P NW S s nw) : DI ops base (i + 1) L P NW S s nw := ⟨h.sat, h.bnx, h.none, h.nd, fun x hx => Nat.lt_succ_of_lt (h.lt x hx), h.ndN, h.news, h.all, fun j h1 h2 => h.ahead j (by omega) h2⟩
theorem WD.nil (hc : CkOk CK Hs) (h : K al (pickB (allBits ops.length) NW ++ L) P) : WD E N ops an base [] i al L P NW Hs CK K := by
 intro S0 s0 S s tm ss rs nw ht hb hd ha hh hr
 refine ⟨0, 0, tm, s, ss, rs, nw, _, al, _, P, rfl, ?_, laid_tr hd _ ht hb, ha, (hd.laid _).sat, h⟩
 rw [List.all_eq_true]
 exact fun r hr' => readOk_of hh hc (hr r hr')
theorem wanted_none {o : Oper} {tm : Tm} (hg : o.guard = none) : wantedA ops tm o = some true := by unfold wantedA; rw [hg]
theorem put_some {tm : Tm} {d : Nat} {v : Value} (hN : Nat.ble d N = true) : putA N tm (some d) v = some (tm.set d v) := by unfold putA; simp only [hN, cond_true]
theorem WD.lookE {o : Oper} {d : Nat} {v : Value} (hg : ∀ tm, Has al tm → wantedA ops tm o = some true) (hd : o.dst = some d) (hN : Nat.ble d N = true) (hn : isNew o.op = false) (he : eff E.ty o.op = false) (hx : ∀ call tm s, execA o.op E call tm s = opA o.op E tm s) {CK' : List Chk} (hck : ∀ k ∈ CK, k ∈ CK')
  (hrun : ∀ (tm : Tm) (S : Nat → Prop) (s s' : AS), Has al tm → Sat L P S s → Exts s s' → opA o.op E tm s' = some (v, s'))
  (hrec : ∀ (tm : Tm) (nw : News) (S : Nat → Prop) (s : AS), Has al tm → Sat L P S s → RecT E ⟨i, o, tm, v, nw⟩ ∨ ∃ k ∈ CK', RecIs E ops an ⟨i, o, tm, v, nw⟩ k)
  (h : WD E N ops an base l (i + 1) ((d, v) :: al) L P NW Hs CK' K) : WD E N ops an base (o :: l) i al L P NW Hs CK K := by
 intro S0 s0 S s tm ss rs nw ht hb hdi ha hh hr
 obtain ⟨F, D, tm', s', ss', rs', nw', S', al', L', P', e, hall⟩ := h S0 s0 S s (tm.set d v) ss (⟨i, o, tm, v, nw⟩ :: rs) nw ht hb hdi.step (ha.set d v) hh (fun r hr' => by
  cases hr' with
  | head => exact hrec tm nw S s ha hdi.sat
  | tail _ hr' => exact (hr r hr').imp id (fun ⟨k, hk, hx⟩ => ⟨k, hck k hk, hx⟩))
 refine ⟨F, D, tm', s', ss', rs', nw', S', al', L', P', ?_, hall⟩
 rw [runD_cons, hg tm ha]
 simp only
 rw [hn]
 simp only [cond_false]
 rw [hx, hrun tm S s _ ha hdi.sat (laid_exts _ _ _ _)]
 simp only
 rw [hd, put_some hN]
 simp only
 rw [he]
 exact e
theorem WD.actE {o : Oper} (hg : ∀ tm, Has al tm → wantedA ops tm o = some true) (hn : isNew o.op = false) (he : eff E.ty o.op = true) {alF : Value → Al} (hal : ∀ (tm : Tm) (v : Value), Has al tm → ∃ tm', putA N tm o.dst v = some tm' ∧ Has (alF v) tm')
  (h : WO E o.op al (pickB (an.getD i 0) NW ++ L) P (fun v L' P' => WD E N ops an base l (i + 1) (alF v) L' P' (restB (an.getD i 0) NW) (Hs ++ [(L', P')]) CK K)) : WD E N ops an base (o :: l) i al L P NW Hs CK K := by
 intro S0 s0 S s tm ss rs nw ht hb hdi ha hh hr
 have hdl := hdi.laid (an.getD i 0)
 have htl := laid_tr hdi (an.getD i 0) ht hb
 obtain ⟨v, s1, S1, L1, P1, ⟨F1, D1, e1⟩, ht1, hs1, hq⟩ := h _ _ tm hdl.sat ha
 obtain ⟨tm2, hp, ha2⟩ := hal tm v ha
 have hdi1 : DI ops base (i + 1) L1 P1 (restB (an.getD i 0) NW) S1 s1 nw := by
  have hk : ∀ k, k < base + ops.length → (Go.Ax.laid base (an.getD i 0) nw s).h.get k = none → s1.h.get k = none := fun k hk hg0 => by
   rw [ht1.keep k (by have := hdl.bnx; omega) (fun e => hdl.sat.ex k e hg0)]
   exact hg0
  exact ⟨hs1, Nat.le_trans hdl.bnx ht1.nx, fun j A hm => ⟨hk _ (by have := (hdl.none j A hm).2; omega) (hdl.none j A hm).1, (hdl.none j A hm).2⟩, hdl.nd, fun x hx => Nat.lt_succ_of_lt (hdl.lt x hx), hdl.ndN, hdl.news, fun x hx => (hdl.all x hx).imp id (ht1.stay _), fun j h1 h2 => hk _ (by omega) (hdl.ahead j (by omega) h2)⟩
 obtain ⟨F2, D2, tm', s', ss', rs', nw', S', al', L', P', e2, hall⟩ := hq S0 s0 S1 s1 tm2 (ss ++ [s1]) rs nw (htl.trans ht1) hb hdi1 ha2 ⟨by simp [hh.1], fun m s' hm => by
  rcases Nat.lt_or_ge m ss.length with hlt | hge
  ·rw [List.getElem?_append_left hlt] at hm
   obtain ⟨H, S2, g1, g2⟩ := hh.2 m s' hm
   exact ⟨H, S2, by rw [List.getElem?_append_left (by rw [← hh.1]; exact hlt)]; exact g1, g2⟩
  ·rw [List.getElem?_append_right hge] at hm
   have hm0 : m - ss.length = 0 := by
    rcases Nat.eq_zero_or_pos (m - ss.length) with h | h
    ·exact h
    ·rw [List.getElem?_eq_none (by simp; omega)] at hm; cases hm
   rw [hm0] at hm
   cases hm
   exact ⟨(L1, P1), S1, by rw [List.getElem?_append_right (by rw [← hh.1]; exact hge), ← hh.1, hm0]; rfl, hs1⟩⟩ hr
 refine ⟨max F1 F2, max D1 D2, tm', s', ss', rs', nw', S', al', L', P', ?_, hall⟩
 rw [runD_cons, hg tm ha]
 simp only
 rw [hn]
 simp only [cond_false]
 rw [execA_mono (callA_mono D1 (max D1 D2) F1 (max F1 F2) (by omega) (by omega)) e1]
 simp only
 rw [hp]
 simp only
 rw [he]
 simp only [cond_true]
 exact runD_mono (callA_mono D2 (max D1 D2) F2 (max F1 F2) (by omega) (by omega)) _ e2
theorem W.drawn {id : Nat} {os : Array Oper} {Q : X → Al → List Asn → List Asn → Prop} (ha : (os.toList.any fun o => eff E.ty o.op || isNew o.op) = true) (h : ∀ base, WD E N os.toList (ancs os.toList []) base os.toList 0 al L P [] [(L, P)] [] (Q .nor)) : W E N (.region id os true) al L P Q := by
 intro S s tm hs hal
 have hs1 : Sat L P S ⟨s.h, s.nx + os.toList.length⟩ := ⟨hs.own, hs.per, hs.ex, fun b hb => hs.fresh b (by have hb : s.nx + os.toList.length ≤ b := hb; omega)⟩
 obtain ⟨F, D, tm', s', ss', rs', nw', S', al', L', P', e, h1, h2, h3, h4, h5⟩ := h s.nx S s S ⟨s.h, s.nx + os.toList.length⟩ tm [⟨s.h, s.nx + os.toList.length⟩] [] []
  ⟨Nat.le_add_right _ _, fun _ _ _ => rfl, fun _ h => .inl h, fun _ h => h⟩ (Nat.le_refl _)
  ⟨hs1, Nat.le_refl _, fun _ _ h => (by cases h), List.Pairwise.nil, fun _ h => by (cases h), List.nodup_nil, fun _ _ h => (by cases h), fun _ h => by (cases h), fun j _ _ => hs.fresh _ (by omega)⟩ hal
  ⟨rfl, fun m s' hm => by
   cases m with
   | zero => cases hm; exact ⟨(L, P), S, rfl, hs1⟩
   | succ m => cases hm⟩ (fun _ h => (by cases h))
 refine ⟨.nor, tm', _, S', al', L', P', ⟨F, D, 1, ?_⟩, h2, h3, h4, h5⟩
 rw [codeA_region]
 unfold cRegion
 simp only [cond_true]
 unfold drawnA
 rw [ha]
 simp only [cond_true, natK_eq]
 rw [e]
 simp only
 rw [h1]
 rfl
theorem W.quiet {id : Nat} {os : Array Oper} {Q : X → Al → List Asn → List Asn → Prop} (ha : (os.toList.any fun o => eff E.ty o.op || isNew o.op) = false) (h : WR E N os.toList os.toList al L P (Q .nor)) : W E N (.region id os true) al L P Q := by
 intro S s tm hs hal
 obtain ⟨tm1, s1, S1, al1, L1, P1, ⟨F, D, e⟩, hr⟩ := h S s tm hs hal
 refine ⟨.nor, tm1, s1, S1, al1, L1, P1, ⟨F, D, 1, ?_⟩, hr⟩
 rw [codeA_region]
 unfold cRegion
 simp only [cond_true]
 unfold drawnA
 rw [ha]
 simp only [cond_false]
 rw [e]
theorem veq_int (k : IntKind) (n : Int) : veq (.int k n) (.int k n) = true := by simp [veq, veqF, veq1]
theorem veq_bool (b : Bool) : veq (.bool b) (.bool b) = true := by simp [veq, veqF, veq1]
theorem veq_str (b : ByteArray) : veq (.string b) (.string b) = true := by simp [veq, veqF, veq1]
theorem veq_ptr (p : Option Addr) : veq (.pointer p) (.pointer p) = true := by simp [veq, veqF, veq1]
theorem veq_sl (a : Option Addr) (n c : Nat) : veq (.slice a n c) (.slice a n c) = true := by simp [veq, veqF, veq1]
def gOk (ops : List Oper) (al : Al) : Option (Nat × Bool) → Bool
 | none => true
 | some (j, w) => match gd ops al j with
  | some (.bool b) => b == w
  | _ => false
theorem gOk_w {o : Oper} (h : gOk ops al o.guard = true) (tm : Tm) (ha : Has al tm) : wantedA ops tm o = some true := by
 cases hg : o.guard with
 | none => exact wanted_none hg
 | some x =>
  obtain ⟨j, w⟩ := x
  rw [hg] at h
  unfold gOk at h
  simp only at h
  cases hd : gd ops al j with
  | none => rw [hd] at h; cases h
  | some v =>
   rw [hd] at h
   cases v with
   | bool b =>
    rw [wanted_of hg hd ha]
    simp only at h
    rw [h]
   | _ => cases h
theorem WD.pu {d t : Nat} {op : Op} {pos : String} {af : Array Edge} {g : Option (Nat × Bool)} {v : Value} (hp : Pu E al op v) (h : WD E N ops an base l (i + 1) ((d, v) :: al) L P NW Hs CK K)
  (hg : gOk ops al g = true := by rfl) (hN : Nat.ble d N = true := by rfl) (hn : isNew op = false := by rfl) (he : eff E.ty op = false := by first | rfl | kernel_rfl)
  (hq : sees op = true → veq v v = true := by first | exact fun _ => rfl | exact fun _ => Go.Lx.veq_int _ _ | exact fun _ => Go.Lx.veq_bool _ | exact fun _ => Go.Lx.veq_ptr _ | exact fun _ => Go.Lx.veq_str _ | exact fun _ => Go.Lx.veq_sl _ _ _ | exact fun h => nomatch h) : WD E N ops an base (⟨some d, op, t, pos, af, g⟩ :: l) i al L P NW Hs CK K :=
 WD.lookE (gOk_w hg) rfl hN hn he hp.1 (fun _ h => h) (fun tm S s s' ha _ _ => hp.2 tm s' ha) (fun tm nw S s ha _ => .inl ⟨hq, fun s => hp.2 tm s ha⟩) h
theorem WD.lk {d t : Nat} {op : Op} {pos : String} {af : Array Edge} {g : Option (Nat × Bool)} {v : Value} (hp : Lk E al L P op v) (h : WD E N ops an base l (i + 1) ((d, v) :: al) L P NW Hs CK K)
  (hg : gOk ops al g = true := by rfl) (hN : Nat.ble d N = true := by rfl) (hn : isNew op = false := by rfl) (he : eff E.ty op = false := by first | rfl | kernel_rfl)
  (hq : sees op = true → veq v v = true := by first | exact fun _ => rfl | exact fun _ => Go.Lx.veq_int _ _ | exact fun _ => Go.Lx.veq_bool _ | exact fun _ => Go.Lx.veq_ptr _ | exact fun _ => Go.Lx.veq_str _ | exact fun _ => Go.Lx.veq_sl _ _ _ | exact fun h => nomatch h) : WD E N ops an base (⟨some d, op, t, pos, af, g⟩ :: l) i al L P NW Hs CK K :=
 WD.lookE (gOk_w hg) rfl hN hn he hp.1 (fun _ h => h) (fun tm S s s' ha hs _ => hp.2 tm S s ha hs s') (fun tm nw S s ha hs => .inl ⟨hq, hp.2 tm S s ha hs⟩) h
def oneV : Value → Bool
 | .bool _ | .int _ _ | .float _ _ | .string _ | .pointer _ | .slice _ _ _ | .map _ | .nilFunc | .nilIface => true
 | _ => false
theorem veqF_one {e : Value → Value → Bool} {v : Value} (h : oneV v = true) : veqF e v v = true := by
 cases v <;> first | (cases h; done) | simp [veqF, veq1]
theorem veq_one {v : Value} (h : oneV v = true) : veq v v = true := veqF_one h
theorem veqs_one {e : Value → Value → Bool} : ∀ {vs : List Value}, (∀ v ∈ vs, oneV v = true) → veqs (veqF e) vs vs = true
 | [], _ => rfl
 | v :: vs, h => by
  unfold veqs
  rw [veqF_one (h v (.head _)), veqs_one (fun u hu => h u (.tail _ hu))]
  rfl
theorem veq_agg {vs : List Value} (h : ∀ v ∈ vs, oneV v = true) : veq (.agg ⟨vs⟩) (.agg ⟨vs⟩) = true := veqs_one h
theorem IsSl.one {k : Nat} {v : Value} {es : List (List Value)} (h : IsSl k v es L P) {S : Nat → Prop} {s : AS} (hs : Sat L P S s) : oneV v = true := by
 obtain ⟨a, c, rfl, _⟩ := h.holds hs
 rfl
inductive AOk (L P : List Asn) : List Value → Prop
 | nil : AOk L P []
 | one {v : Value} {vs : List Value} (h : oneV v = true) (t : AOk L P vs) : AOk L P (v :: vs)
 | sl {v : Value} {vs : List Value} {k : Nat} {es : List (List Value)} (h : IsSl k v es L P) (t : AOk L P vs) : AOk L P (v :: vs)
inductive VOk (L P : List Asn) : Value → Prop
 | c {v : Value} (h : veq v v = true) : VOk L P v
 | sl {v : Value} {k : Nat} {es : List (List Value)} (h : IsSl k v es L P) : VOk L P v
 | agg {vs : List Value} (h : AOk L P vs) : VOk L P (.agg ⟨vs⟩)
theorem AOk.spec {S : Nat → Prop} {s : AS} (hs : Sat L P S s) {vs : List Value} (h : AOk L P vs) : ∀ v ∈ vs, oneV v = true := by
 induction h with
 | nil => exact fun v hv => by cases hv
 | one h t ih =>
  intro v hv
  cases hv with
  | head => exact h
  | tail _ hv => exact ih v hv
 | sl h t ih =>
  intro v hv
  cases hv with
  | head => exact h.one hs
  | tail _ hv => exact ih v hv
theorem VOk.spec {S : Nat → Prop} {s : AS} (hs : Sat L P S s) {v : Value} (h : VOk L P v) : veq v v = true := by
 cases h with
 | c h => exact h
 | sl h => exact veq_one (h.one hs)
 | agg h => exact veq_agg (h.spec hs)
theorem WD.lo (lo hi : Nat) {d t : Nat} {op : Op} {pos : String} {af : Array Edge} {g : Option (Nat × Bool)} {v : Value} {ok : List Asn → List Asn → Prop} (hp : Ld E al op v ok) (hk : ok L P) (h : WD E N ops an base l (i + 1) ((d, v) :: al) L P NW Hs (⟨lo, hi, ok⟩ :: CK) K)
  (hw : (Nat.ble lo (effIn E.ty ops (an.getD i 0)) && Nat.ble (effNot E.ty ops an i) hi) = true := by kernel_rfl)
  (hg : gOk ops al g = true := by rfl) (hN : Nat.ble d N = true := by rfl) (hn : isNew op = false := by rfl) (he : eff E.ty op = false := by first | rfl | kernel_rfl)
  (hq : VOk L P v := by first | exact .c rfl | exact .c (Go.Lx.veq_int _ _) | exact .c (Go.Lx.veq_ptr _) | exact .c (Go.Lx.veq_str _) | exact .c (Go.Lx.veq_bool _) | exact .c (Go.Lx.veq_sl _ _ _) | exact .c (Go.Lx.veq_map _) | exact .sl (by first | assumption | exact .s .p0 | exact .s .p1 | exact .s .p2 | exact .s .p3 | exact .s (.p (by assumption)) | exact .s (.h1 (by assumption)) | exact .s (.h2 (by assumption)) | exact .o .l0 | exact .o .l1 | exact .o .l2) | exact .agg (by repeat (first | exact AOk.nil | refine AOk.one rfl ?_ | refine AOk.sl (by assumption) ?_)) | exact .c (by assumption)) : WD E N ops an base (⟨some d, op, t, pos, af, g⟩ :: l) i al L P NW Hs CK K :=
 WD.lookE (gOk_w hg) rfl hN hn he hp.1 (fun _ h => .tail _ h) (fun tm S s s' ha hs hx => hp.2 tm ha L P S s s' hs hx hk) (fun tm nw S s ha hs => .inr ⟨_, .head _, by
  rw [Bool.and_eq_true] at hw
  exact ⟨Nat.le_of_ble_eq_true hw.1, Nat.le_of_ble_eq_true hw.2, fun _ => hq.spec hs, fun L P S s s' hs he hk => hp.2 tm ha L P S s s' hs he hk⟩⟩) h
theorem WD.call {x : Operand} {xs : Array Operand} {ts : Array TypeId} {f : FuncId} {fs cs : Array Value} {vs : List Value} {d t : Nat} {pos : String} {af : Array Edge} {g : Option (Nat × Bool)} {Qs : Value → List Asn → List Asn → Prop} (h : Sp E f (fs.toList ++ vs ++ cs.toList) (pickB (an.getD i 0) NW ++ L) P Qs)
  (hk : ∀ v L' P', Qs v L' P' → WD E N ops an base l (i + 1) ((d, v) :: al) L' P' (restB (an.getD i 0) NW) (Hs ++ [(L', P')]) CK K)
  (hf : evl al x = some (.func (.func f) fs cs) := by rfl) (hx : evls al xs.toList = some vs := by rfl) (hg : gOk ops al g = true := by rfl) (hN : Nat.ble d N = true := by rfl) : WD E N ops an base (⟨some d, .call ⟨.value x, xs, ts⟩, t, pos, af, g⟩ :: l) i al L P NW Hs CK K :=
 WD.actE (gOk_w hg) rfl rfl (fun tm v ha => ⟨_, put_some hN, ha.set d v⟩) (WO.call hf hx (h.mono hk))
theorem WD.st {x y : Operand} {u b o z t : Nat} {cs cs' vs : List Value} {pos : String} {af : Array Edge} {g : Option (Nat × Bool)} {v : Value} {ti : TI} {L' : List Asn} (h : WD E N ops an base l (i + 1) al L' P (restB (an.getD i 0) NW) (Hs ++ [(L', P)]) CK K) (hx : evl al x = some (.pointer (some ⟨b, o, none⟩)) := by rfl) (hy : evl al y = some v := by rfl) (hc : v.cells.toList = vs := by rfl) (hi : E.ty.get u = some ti := by rfl)
  (hu : Upd (Pt b cs z) (Pt b cs' z) (pickB (an.getD i 0) NW ++ L) L' := by first | exact .z | exact .s .z | exact .s (.s .z) | exact .s (.s (.s .z)) | exact .s (.s (.s (.s .z))) | exact .s (.s (.s (.s (.s .z)))))
  (hset : SetN cs o vs cs' := by (repeat (first | exact SetN.nil | apply SetN.here | apply SetN.skip))) (hsz : vs.length = ti.size := by rfl) (ho : ones vs = true := by rfl) (hg : gOk ops al g = true := by rfl) : WD E N ops an base (⟨none, .store u x y, t, pos, af, g⟩ :: l) i al L P NW Hs CK K := by
 subst hc
 exact WD.actE (alF := fun _ => al) (gOk_w hg) rfl rfl (fun tm v ha => ⟨tm, by unfold putA; rfl, ha⟩) (WO.store hx hy hi hsz ho hset hu h)
inductive Win (ok : List Asn → List Asn → Prop) (lo hi : Nat) : Nat → Hist → Prop
 | nil {m : Nat} : Win ok lo hi m []
 | yes {m : Nat} {L P : List Asn} {Hs : Hist} (h : ok L P) (t : Win ok lo hi (m + 1) Hs) : Win ok lo hi m ((L, P) :: Hs)
 | skip {m : Nat} {H : List Asn × List Asn} {Hs : Hist} (t : Win ok lo hi (m + 1) Hs) (hb : (Nat.ble lo m && Nat.ble m hi) = false := by rfl) : Win ok lo hi m (H :: Hs)
theorem Win.spec {ok : List Asn → List Asn → Prop} {lo hi m : Nat} {Hs : Hist} (h : Win ok lo hi m Hs) : ∀ (n : Nat) (H : List Asn × List Asn), lo ≤ m + n → m + n ≤ hi → Hs[n]? = some H → ok H.1 H.2 := by
 induction h with
 | nil => intro n H _ _ e; cases e
 | yes h t ih =>
  intro n H h1 h2 e
  cases n with
  | zero => cases e; exact h
  | succ n => exact ih n H (by omega) (by omega) (by simpa using e)
 | skip t hb ih =>
  intro n H h1 h2 e
  cases n with
  | zero =>
   rw [Bool.and_eq_false_iff] at hb
   rcases hb with hb | hb
   ·rw [Nat.ble_eq_true_of_le (by omega)] at hb; cases hb
   ·rw [Nat.ble_eq_true_of_le (by omega)] at hb; cases hb
  | succ n => exact ih n H (by omega) (by omega) (by simpa using e)
theorem CkOk.nil {Hs : Hist} : CkOk [] Hs := fun _ h => by cases h
theorem CkOk.cons {lo hi : Nat} {ok : List Asn → List Asn → Prop} {CK : List Chk} {Hs : Hist} (h : Win ok lo hi 0 Hs) (t : CkOk CK Hs) : CkOk (⟨lo, hi, ok⟩ :: CK) Hs := fun k hk => by
 cases hk with
 | head => exact fun m H h1 h2 e => h.spec m H (by rw [Nat.zero_add]; exact h1) (by rw [Nat.zero_add]; exact h2) e
 | tail _ hk => exact t k hk
end Go.Lx
/- Structs by value, pointers and nil, slices that grow. -/
namespace Go.Lx
open Go Go.Ax
variable {E : Env} {N : Nat} {ops l : List Oper} {al : Al} {L P : List Asn} {Q : Al → List Asn → List Asn → Prop}
def ptl (al : Al) : List (Nat × Operand) → Option (List (Nat × Value))
 | [] => some []
 | (i, x) :: l => match evl al x with
  | none => none
  | some v => match ptl al l with
   | none => none
   | some r => some ((i, v) :: r)
theorem ptl_parts {tm : Tm} (ha : Has al tm) : ∀ {l : List (Nat × Operand)} {r : List (Nat × Value)}, ptl al l = some r → partsOf tm l = some r
 | [], _, e => e
 | (i, x) :: l, r, e => by
  unfold ptl at e
  unfold partsOf
  cases hx : evl al x with
  | none => rw [hx] at e; cases e
  | some v =>
   rw [hx] at e
   rw [evl_ev ha hx]
   cases hl : ptl al l with
   | none => rw [hl] at e; cases e
   | some ws => rw [hl] at e; rw [ptl_parts ha hl]; exact e
noncomputable def bld (E : Env) (al : Al) (t : TypeId) (ps : Array (Nat × Operand)) : Option (List Value) :=
 match E.ty.get t, ptl al ps.toList with
 | some i, some l => match i.desc with
  | .struct fs => match placesOf E fs.toList with
   | none => none
   | some pl => fillA (fun k => pl[k]?) i.zero l
  | _ => none
 | _, _ => none
theorem Pu.bd {u : TypeId} {ps : Array (Nat × Operand)} {vs : List Value} (h : bld E al u ps = some vs := by rfl) : Pu E al (.build u ps) (.agg ⟨vs⟩) :=
 ⟨fun _ _ _ => rfl, fun tm s ha => by
  show hBuild u ps E tm s = _
  unfold hBuild
  unfold bld at h
  cases hi : E.ty.get u with
  | none => rw [hi] at h; cases h
  | some i =>
   cases hp : ptl al ps.toList with
   | none => rw [hi, hp] at h; cases h
   | some r =>
    rw [hi, hp] at h
    rw [ptl_parts ha hp]
    simp only at h ⊢
    cases hd : i.desc with
    | struct fs =>
     rw [hd] at h
     simp only at h ⊢
     cases hpl : placesOf E fs.toList with
     | none => rw [hpl] at h; cases h
     | some pl =>
      rw [hpl] at h
      simp only at h ⊢
      rw [h]
    | _ => rw [hd] at h; cases h⟩
def nilB : Value → Option Bool
 | .pointer p => some p.isNone
 | .slice a _ _ => some a.isNone
 | .map r => some r.isNone
 | _ => none
theorem eqD_nil {d : TypeDesc} {s : AS} {v w : Value} {b : Bool} (hv : nilB v = some b) (hw : (w = .pointer none ∧ ∃ e, d = .pointer e) ∨ (w = .slice none 0 0 ∧ ∃ e, d = .slice e) ∨ (w = .map none ∧ ∃ k e, d = .map k e)) (hk : (∃ p, v = .pointer p ∧ ∃ e, d = .pointer e) ∨ (∃ a n c, v = .slice a n c ∧ ∃ e, d = .slice e) ∨ (∃ r, v = .map r ∧ ∃ k e, d = .map k e)) : eqD E s d v w = some b := by
 rcases hk with ⟨p, rfl, e, rfl⟩ | ⟨a, n, c, rfl, e, rfl⟩ | ⟨r, rfl, k, e, rfl⟩
 ·rcases hw with ⟨rfl, _⟩ | ⟨_, _, h⟩ | ⟨_, _, _, h⟩
  ·cases p with
   | none => cases hv; rfl
   | some p => cases hv; rfl
  ·cases h
  ·cases h
 ·rcases hw with ⟨_, _, h⟩ | ⟨rfl, _⟩ | ⟨_, _, _, h⟩
  ·cases h
  ·cases a with
   | none => cases hv; rfl
   | some p => cases hv; rfl
  ·cases h
 ·rcases hw with ⟨_, _, h⟩ | ⟨_, _, h⟩ | ⟨rfl, _⟩
  ·cases h
  ·cases h
  ·cases r with
   | none => cases hv; rfl
   | some p => cases hv; rfl
noncomputable def nilK (E : Env) (u : TypeId) (v w : Value) : Bool :=
 match E.ty.get u, v, w with
 | some i, .pointer _, .pointer none => (match i.desc with | .pointer _ => true | _ => false)
 | some i, .slice _ _ _, .slice none 0 0 => (match i.desc with | .slice _ => true | _ => false)
 | some i, .map _, .map none => (match i.desc with | .map _ _ => true | _ => false)
 | _, _, _ => false
theorem eqA_nil {u : TypeId} {s : AS} {v w : Value} {b : Bool} (hk : nilK E u v w = true) (hb : nilB v = some b) : eqA E s u v w = some b ∧ plain v = false := by
 unfold nilK at hk
 unfold eqA
 split at hk
 ·rename_i i p hi
  rw [hi]
  simp only at hk ⊢
  split at hk
  ·rename_i e hd
   refine ⟨?_, rfl⟩
   rw [hd]
   exact eqD_nil hb (.inl ⟨rfl, e, rfl⟩) (.inl ⟨_, rfl, e, rfl⟩)
  ·cases hk
 ·rename_i i a n c hi
  rw [hi]
  simp only at hk ⊢
  split at hk
  ·rename_i e hd
   refine ⟨?_, rfl⟩
   rw [hd]
   exact eqD_nil hb (.inr (.inl ⟨rfl, e, rfl⟩)) (.inr (.inl ⟨_, _, _, rfl, e, rfl⟩))
  ·cases hk
 ·rename_i i r hi
  rw [hi]
  simp only at hk ⊢
  split at hk
  ·rename_i k e hd
   refine ⟨?_, rfl⟩
   rw [hd]
   exact eqD_nil hb (.inr (.inr ⟨rfl, k, e, rfl⟩)) (.inr (.inr ⟨_, rfl, k, e, rfl⟩))
  ·cases hk
 ·cases hk
theorem hBin_nil {op : BinOp} {u : TypeId} {x y : Operand} {v w : Value} {b : Bool} (hx : evl al x = some v) (hy : evl al y = some w) (hk : nilK E u v w = true) (hb : nilB v = some b) (tm : Tm) (s : AS) (ha : Has al tm) {q : Bool} (hop : (op = .eql ∧ q = b) ∨ (op = .neq ∧ q = !b)) : hBin op u x y E tm s = some (.bool q, s) := by
 obtain ⟨h1, h2⟩ := eqA_nil (s := s) hk hb
 unfold hBin
 rw [evl_ev ha hx, evl_ev ha hy]
 simp only
 have hv : binA E s op u x y v w = binOther E s op u x y v w := by
  cases v <;> first | rfl | cases hb
 rw [hv]
 have hn : isNilI v = false := by cases v <;> first | rfl | cases hb
 unfold binOther
 rw [hn]
 simp only [Bool.false_and, cond_false]
 rcases hop with ⟨rfl, rfl⟩ | ⟨rfl, rfl⟩
 ·simp only
  unfold eqBin
  rw [h1]
  simp
 ·simp only
  unfold eqBin
  rw [h1]
  simp
theorem Pu.peq {x y : Operand} {u r : Nat} {v w : Value} {b : Bool} (hx : evl al x = some v := by rfl) (hy : evl al y = some w := by rfl) (hk : nilK E u v w = true := by rfl) (hb : nilB v = some b := by rfl) : Pu E al (.binOp .eql u x y r) (.bool b) := ⟨fun _ _ _ => rfl, fun tm s ha => hBin_nil hx hy hk hb tm s ha (.inl ⟨rfl, rfl⟩)⟩
end Go.Lx
/- Slices that are made, and that grow. -/
namespace Go.Lx
open Go Go.Ax
variable {E : Env} {N : Nat} {ops l : List Oper} {al : Al} {L P : List Asn} {Q : Al → List Asn → List Asn → Prop}
theorem flat_len {k : Nat} : ∀ {es : List (List Value)}, (∀ e ∈ es, e.length = k) → es.flatten.length = es.length * k
 | [], _ => by simp
 | e :: es, h => by
  rw [List.flatten_cons, List.length_append, flat_len (fun x hx => h x (.tail _ hx)), h e (.head _), List.length_cons, Nat.add_mul]
  omega
theorem flat_get {k : Nat} : ∀ {es : List (List Value)}, (∀ e ∈ es, e.length = k) → ∀ {i : Nat} {e : List Value}, es[i]? = some e → ∀ j, j < k → es.flatten[i * k + j]? = e[j]?
 | [], _, i, e, h => by simp at h
 | e0 :: es, hk, 0, e, h => fun j hj => by
  simp only [List.getElem?_cons_zero, Option.some.injEq] at h
  subst h
  rw [List.flatten_cons, Nat.zero_mul, Nat.zero_add, List.getElem?_append_left (by rw [hk e0 (.head _)]; exact hj)]
 | e0 :: es, hk, i + 1, e, h => fun j hj => by
  have h0 := hk e0 (.head _)
  have e1 : (i + 1) * k = i * k + k := Nat.succ_mul i k
  rw [List.flatten_cons, List.getElem?_append_right (by omega), show (i + 1) * k + j - e0.length = i * k + j by omega]
  exact flat_get (fun x hx => hk x (.tail _ hx)) (by simpa using h) j hj
theorem elems_flat {k : Nat} {es : List (List Value)} (h : ∀ e ∈ es, e.length = k) : Elems k 0 (T.e.fill 0 es.flatten) es := fun i e he => by
 have hlt : i < es.length := (List.getElem?_eq_some_iff.1 he).1
 have hlen := flat_len h
 refine ⟨h e (List.mem_of_getElem? he), fun j hj => ?_⟩
 have : (i + 1) * k ≤ es.length * k := Nat.mul_le_mul_right _ hlt
 rw [Nat.succ_mul] at this
 rw [T.get_fill, if_pos ⟨Nat.zero_le _, by omega⟩, Nat.zero_add, Nat.sub_zero]
 exact flat_get h he j hj
theorem Elems.len {k o : Nat} {t : T Value} {es : List (List Value)} (h : Elems k o t es) : ∀ e ∈ es, e.length = k := fun e he => by
 obtain ⟨i, hi⟩ := List.getElem?_of_mem he
 exact (h i e hi).1
theorem flat_of {k : Nat} : ∀ {es : List (List Value)}, (∀ e ∈ es, e.length = k) → ∀ n, n < es.length * k → ∃ i j e, n = i * k + j ∧ j < k ∧ es[i]? = some e
 | [], _, n, hn => by simp at hn
 | e0 :: es, hk, n, hn => by
  rcases Nat.lt_or_ge n k with h | h
  ·exact ⟨0, n, e0, by omega, h, rfl⟩
  ·rw [List.length_cons, Nat.succ_mul] at hn
   obtain ⟨i, j, e, h1, h2, h3⟩ := flat_of (fun x hx => hk x (.tail _ hx)) (n - k) (by omega)
   exact ⟨i + 1, j, e, by rw [Nat.succ_mul]; omega, h2, by simpa using h3⟩
theorem Elems.read {k o : Nat} {t : T Value} {es : List (List Value)} (h : Elems k o t es) : t.list (es.length * k) o = some es.flatten := by
 refine T.list_of _ _ _ _ (flat_len h.len) (fun n hn => ?_)
 obtain ⟨i, j, e, rfl, h2, h3⟩ := flat_of h.len n hn
 rw [flat_get h.len h3 j h2, ← (h i e h3).2 j h2]
 congr 1
 omega
theorem rdN_all {k : Nat} {v : Value} {es : List (List Value)} {s : AS} (H : SlP k v es s.h) (hne : es ≠ []) : ∃ b o, v = .slice (some ⟨b, o, none⟩) es.length (match v with | .slice _ _ c => c | _ => 0) ∧ rdN s b o (es.length * k) = some es.flatten := by
 obtain ⟨a, c, rfl, hor⟩ := H
 rcases hor with hor | ⟨b, o, m, z, t, rfl, h1, h2, h3⟩
 ·exact absurd hor hne
 refine ⟨b, o, rfl, ?_⟩
 have hb : Nat.ble (o + es.length * k) m = true := Nat.ble_eq_true_of_le h2
 unfold rdN
 rcases h1 with h1 | h1
 ·rw [h1]
  simp only [hb, cond_true]
  exact h3.read
 ·rw [h1]
  simp only [hb, cond_true]
  exact h3.read
inductive Rem (A : Asn) : List Asn → List Asn → Prop
 | z {L : List Asn} : Rem A (A :: L) L
 | s {B : Asn} {L L' : List Asn} (h : Rem A L L') : Rem A (B :: L) (B :: L')
theorem Rem.perm {A : Asn} {L L' : List Asn} (h : Rem A L L') : L.Perm (A :: L') := by
 induction h with
 | z => exact .refl _
 | @s B L L' h ih => exact (ih.cons B).trans (.swap A B L')
theorem ow_new {k : Nat} {es : List (List Value)} {b z c : Nat} (hc : c = 2 * es.length + 1 ∨ (c = 2 * es.length ∧ zs z = k)) {t : T Value} (ht : Elems k 0 t es) (h : T AObj) (hg : h.get b = some (.cells t (es.length * k) z)) : (Ow k (.slice (some ⟨b, 0, none⟩) es.length c) es).p (fun x => x = b) h := by
 refine .inr ⟨b, c, _, z, t, rfl, rfl, hg, by omega, ?_, by omega, ht⟩
 have : c / 2 = es.length := by omega
 rw [this]
 exact Nat.le_refl _
noncomputable def bls (E : Env) (al : Al) (t : TypeId) (n : Nat) (ps : Array (Nat × Operand)) : Option (List Value) :=
 match slT E t, ptl al ps.toList with
 | some (_, j), some l => bif Nat.ble (n * j.size) 65536 then fillA (fun k => some (k * j.size, j.size)) (rep n j.zero) l else none
 | _, _ => none
theorem WR.bl {u n d t k : Nat} {ps : Array (Nat × Operand)} {pos : String} {af : Array Edge} {es : List (List Value)} (h : ∀ v, WR E N ops l ((d, v) :: al) (Ow k v es :: L) P Q) (hf : bls E al u n ps = some es.flatten := by rfl) (hn : es.length = n := by rfl) (hk : ∀ e ∈ es, e.length = k := by simp) (hN : Nat.ble d N = true := by rfl) : WR E N ops (⟨some d, .buildSlice u n ps, t, pos, af, none⟩ :: l) al L P Q := by
 refine WR.op rfl rfl hN (fun S s tm hs ha => ?_)
 obtain ⟨h1, h2⟩ := hs.new (A := Ow k (.slice (some ⟨s.nx, 0, none⟩) es.length (2 * n + 1)) es) (o := .cells (T.e.fill 0 es.flatten) es.flatten.length 0) (fun h hg => by
  rw [flat_len hk] at hg
  exact ow_new (.inl (by rw [hn])) (elems_flat hk) h hg)
 refine ⟨_, _, _, _, _, ⟨0, 0, ?_⟩, h2, h1, h _⟩
 show hBuildSlice u n ps E tm s = _
 unfold bls at hf
 cases hu : slT E u with
 | none => rw [hu] at hf; cases hf
 | some p =>
  obtain ⟨e, j⟩ := p
  obtain ⟨i, g1, g2, g3⟩ := slT_spec hu
  cases hp : ptl al ps.toList with
  | none => rw [hu, hp] at hf; cases hf
  | some r =>
   rw [hu, hp] at hf
   simp only at hf
   unfold hBuildSlice
   rw [g1, ptl_parts ha hp]
   simp only
   rw [g2]
   simp only
   rw [g3]
   simp only
   cases hb : Nat.ble (n * j.size) 65536 with
   | false => rw [hb] at hf; cases hf
   | true =>
    rw [hb] at hf
    simp only [cond_true] at hf ⊢
    rw [hf]
    simp only
    rw [hn]
    rfl
theorem rep_eq (n : Nat) (z : List Value) : rep n z = (List.replicate n z).flatten := by
 induction n with
 | zero => rfl
 | succ n ih =>
  show z ++ rep n z = _
  rw [ih, List.replicate_succ, List.flatten_cons]
theorem WR.mk {x y : Operand} {u d t k : Nat} {pos : String} {af : Array Edge} {e : TypeId} {j : TI} {n : Int} {K K' : IntKind} {z : List Value} (h : ∀ v, WR E N ops l ((d, v) :: al) (Ow k v (List.replicate n.toNat z) :: L) P Q) (hx : evl al x = some (.int K n) := by rfl) (hy : evl al y = some (.int K' n) := by rfl) (hu : slT E u = some (e, j) := by rfl) (hz : j.zero = z := by rfl) (hk : z.length = k := by rfl)
  (hn : 0 ≤ n ∧ n * (j.bytes : Int) ≤ 1099511627776 ∧ n ≤ 1099511627776 := by omega) (hN : Nat.ble d N = true := by rfl) : WR E N ops (⟨some d, .makeSlice u x y, t, pos, af, none⟩ :: l) al L P Q := by
 refine WR.op rfl rfl hN (fun S s tm hs ha => ?_)
 have hl : ∀ e ∈ List.replicate n.toNat z, e.length = k := fun e he => by rw [List.eq_of_mem_replicate he]; exact hk
 have hlen : (List.replicate n.toNat z).length = n.toNat := List.length_replicate
 obtain ⟨h1, h2⟩ := hs.new (A := Ow k (.slice (some ⟨s.nx, 0, none⟩) (List.replicate n.toNat z).length (2 * n.toNat + 1)) (List.replicate n.toNat z)) (o := .cells (T.e.fill 0 (List.replicate n.toNat z).flatten) (List.replicate n.toNat z).flatten.length 0) (fun h hg => by
  rw [flat_len hl] at hg
  exact ow_new (.inl (by rw [hlen])) (elems_flat hl) h hg)
 refine ⟨_, _, _, _, _, ⟨0, 0, ?_⟩, h2, h1, h _⟩
 show hMakeSlice u x y E tm s = _
 obtain ⟨i, g1, g2, g3⟩ := slT_spec hu
 unfold hMakeSlice
 rw [g1, evl_ev ha hx, evl_ev ha hy]
 simp only
 rw [g2]
 simp only
 rw [g3]
 simp only
 rw [if_pos ⟨hn.1, Int.le_refl _, by show n * (j.bytes : Int) ≤ ((1099511627776 : Nat) : Int); exact hn.2.1, by show n ≤ ((1099511627776 : Nat) : Int); exact hn.2.2⟩, hlen, hz, rep_eq]
 rfl
theorem ones_append : ∀ (a b : List Value), ones (a ++ b) = (ones a && ones b)
 | [], b => rfl
 | x :: a, b => by
  show (oneC x && ones (a ++ b)) = ((oneC x && ones a) && ones b)
  rw [ones_append a b, Bool.and_assoc]
theorem ones_flat : ∀ {es : List (List Value)}, (∀ e ∈ es, ones e = true) → ones es.flatten = true
 | [], _ => rfl
 | e :: es, h => by
  rw [List.flatten_cons, ones_append, h e (.head _), ones_flat (fun x hx => h x (.tail _ hx))]
  rfl
theorem Sat.turn {A : Asn} {B : Nat → Asn} {L' : List Asn} {S : Nat → Prop} {s : AS} (hs : Sat (A :: L') P S s) {o : AObj} (hB : ∀ (b : Nat) (h : T AObj), h.get b = some o → (B b).p (fun x => x = b) h) :
  (∃ S', Sat (B s.nx :: L') P S' (s.new o) ∧ Tr S s S' (s.new o)) ∧ ∀ b, (∀ U h, A.p U h → U b) → ∃ S', Sat (B s.nx :: L') P S' ((s.upd b .dead).new o) ∧ Tr S s S' ((s.upd b .dead).new o) := by
 refine ⟨?_, fun b hb => ?_⟩
 ·obtain ⟨h1, h2⟩ := hs.new (A := B s.nx) (o := o) (hB _)
  exact ⟨_, ⟨h1.own.tail (fun _ h => h.drop), h1.per, h1.ex, h1.fresh⟩, h2⟩
 ·let D : Asn := ⟨fun S h => S b, fun _ _ _ _ h => h⟩
  obtain ⟨h1, h2⟩ := hs.upd (B := D) (L' := D :: L') .z hb (o := .dead) (fun h hg => rfl)
  obtain ⟨h3, h4⟩ := h1.new (A := B (s.upd b .dead).nx) (o := o) (hB _)
  exact ⟨_, ⟨h3.own.tail (fun _ h => h.drop), h3.per, h3.ex, h3.fresh⟩, h2.trans h4⟩
theorem elems_put {k o : Nat} {t : T Value} {es fs : List (List Value)} (h : Elems k o t es) (hf : ∀ f ∈ fs, f.length = k) : Elems k o (t.fill (o + es.length * k) fs.flatten) (es ++ fs) := fun i e he => by
 have hl := flat_len hf
 rcases Nat.lt_or_ge i es.length with hlt | hge
 ·rw [List.getElem?_append_left hlt] at he
  obtain ⟨h1, h2⟩ := h i e he
  refine ⟨h1, fun j hj => ?_⟩
  have : (i + 1) * k ≤ es.length * k := Nat.mul_le_mul_right _ hlt
  rw [Nat.succ_mul] at this
  rw [T.get_fill, if_neg (by omega)]
  exact h2 j hj
 ·rw [List.getElem?_append_right hge] at he
  have hi : i - es.length < fs.length := (List.getElem?_eq_some_iff.1 he).1
  refine ⟨hf e (List.mem_of_getElem? he), fun j hj => ?_⟩
  have e1 : i * k = es.length * k + (i - es.length) * k := by rw [← Nat.add_mul]; congr 1; omega
  have : (i - es.length + 1) * k ≤ fs.length * k := Nat.mul_le_mul_right _ hi
  rw [Nat.succ_mul] at this
  rw [T.get_fill, if_pos (by omega), show o + i * k + j - (o + es.length * k) = (i - es.length) * k + j by omega]
  exact flat_get hf he j hj
noncomputable def appendM (s : AS) (e : TypeId) (j : TI) (x y : Value) : Option (Value × AS) :=
 bif Nat.beq j.size 0 || Nat.beq j.bytes 0 || Nat.ble 524288 j.size then none else
    match x, lenS y with
    | .slice a n c, some m => match shareA s j n c m y with
     | some t => some (.slice (some ⟨s.nx, 0, none⟩) (n + m) (2 * (n + m)), s.new (.cells t (m * j.size) (tz j.size e)))
     | none => match srcA s j.size m y with
     | none => none
     | some new =>
      bif Nat.beq m 0 then some (.slice a n c, s) else
      bif Nat.ble (n + m) (c / 2) then (match a with
       | none => none
       | some a => match wrN s a.block (a.off + n * j.size) new with
        | none => none
        | some s' => some (.slice (some a) (n + m) c, s'))
      else bif Nat.ble ((n + m) * j.bytes) small then (match a with
       | none => some (.slice (some ⟨s.nx, 0, none⟩) (n + m) (2 * (n + m)), s.rowz (tz j.size e) new)
       | some a =>
        bif Nat.beq n 0 && Nat.beq (c % 2) 1 then some (.slice (some ⟨s.nx, 0, none⟩) (n + m) (2 * (n + m)), s.rowz (tz j.size e) new) else
        match rdN s a.block a.off (n * j.size) with
        | none => none
        | some old => match s.h.get a.block with
         | some (.cells _ _ z) => bif Nat.beq (c % 2) 1 then some (.slice (some ⟨s.nx, 0, none⟩) (n + m) (2 * (n + m)), s.rowz (tz j.size e) (old ++ new)) else
          bif Nat.beq (zs z) j.size && ones new then some (.slice (some ⟨s.nx, 0, none⟩) (n + m) (2 * (n + m)), (s.upd a.block .dead).rowz (zg j.size z e) (old ++ new)) else none
         | _ => none)
      else none
    | _, _ => none
theorem appendA_eq {s : AS} {t u : TypeId} {v w : Value} {e : TypeId} {j i ui : TI} (g1 : E.ty.get t = some i) (g2 : i.desc = .slice e) (g3 : E.ty.get e = some j) (hu : E.ty.get u = some ui) (hui : (∃ e', ui.desc = .slice e') ∨ ui.desc = .string) : appendA E s t u v w = appendM s e j v w := by
 unfold appendA
 rw [g1, hu]
 simp only
 rw [g2]
 rcases hui with ⟨e', hui⟩ | hui
 ·rw [hui]
  simp only
  rw [g3]
  rfl
 ·rw [hui]
  simp only
  rw [g3]
  rfl
theorem append_core {k : Nat} {v w : Value} {es fs : List (List Value)} {L' : List Asn} {S : Nat → Prop} {s : AS} (hs : Sat (Ow k v es :: L') P S s) (hfl : ∀ f ∈ fs, f.length = k) (hsrc : srcA s k fs.length w = some fs.flatten) (hlenS : lenS w = some fs.length) (hwh : ∀ tt, fs ≠ [] → wholeA s (fs.length * k) w = some tt → Elems k 0 tt fs)
  {t u : TypeId} {e : TypeId} {j ui : TI} (ht : slT E t = some (e, j)) (hu : E.ty.get u = some ui) (hui : (∃ e', ui.desc = .slice e') ∨ ui.desc = .string) (hk : j.size = k) (hk0 : Nat.beq k 0 = false) (hby : Nat.beq j.bytes 0 = false) (hk1 : Nat.ble 524288 k = false)
  (hn : (es.length + fs.length) * j.bytes ≤ 1099511627776) (hone : ∀ f ∈ fs, ones f = true) : ∃ v' s' S', appendA E s t u v w = some (v', s') ∧ Tr S s S' s' ∧ Sat (Ow k v' (es ++ fs) :: L') P S' s' := by
 obtain ⟨i, g1, g2, g3⟩ := slT_spec ht
 have hsmall : k < 524288 := by
  rcases Nat.lt_or_ge k 524288 with h | h
  ·exact h
  ·rw [Nat.ble_eq_true_of_le h] at hk1; cases hk1
 have hle : Nat.ble ((es.length + fs.length) * j.bytes) small = true := Nat.ble_eq_true_of_le (by unfold small; exact hn)
 have htz : zs (tz k e) = k := tz_zs hsmall
 have share : ∀ {n c : Nat} {tt : T Value}, shareA s j n c fs.length w = some tt → n = 0 ∧ ∃ S', Sat (Ow k (.slice (some ⟨s.nx, 0, none⟩) fs.length (2 * fs.length)) fs :: L') P S' (s.new (.cells tt (fs.length * k) (tz k e))) ∧ Tr S s S' (s.new (.cells tt (fs.length * k) (tz k e))) := by
  intro n c tt hsh
  unfold shareA at hsh
  cases hc : (Nat.beq n 0 && Nat.beq (c % 2) 1 && Nat.blt (c / 2) fs.length && Nat.ble (fs.length * j.bytes) small) with
  | false => rw [hc] at hsh; cases hsh
  | true =>
   rw [hc] at hsh
   simp only [cond_true] at hsh
   simp only [Bool.and_eq_true] at hc
   refine ⟨Nat.eq_of_beq_eq_true hc.1.1.1, ?_⟩
   have hpos : fs ≠ [] := fun e => by subst e; have := nblt.1 hc.1.2; simp at this
   rw [hk] at hsh
   have u4 := hwh tt hpos hsh
   obtain ⟨S', q1, q2⟩ := (hs.turn (B := fun b => Ow k (.slice (some ⟨b, 0, none⟩) fs.length (2 * fs.length)) fs) (o := .cells tt (fs.length * k) (tz k e)) (fun b h hg => ow_new (.inr ⟨rfl, htz⟩) u4 h hg)).1
   exact ⟨S', q1, q2⟩
 rw [appendA_eq g1 g2 g3 hu hui]
 unfold appendM
 rw [hk, hk0, hby, hk1]
 simp only [Bool.or_self, cond_false]
 obtain ⟨S1, S2, o1, o2, o3, o4, o5⟩ := hs.own
 have hmz : ∀ {n : Nat}, Nat.beq fs.length 0 = true → fs = [] := fun h => List.length_eq_zero_iff.1 (Nat.eq_of_beq_eq_true h)
 rcases o4 with ⟨rfl, a, c, rfl, c1, c2⟩ | ⟨b, c, mm, z, tr, rfl, p2, p3, p4, pm, p6, p5⟩
 ·
  rw [hlenS]
  simp only
  cases hsh : shareA s j 0 c fs.length w with
  | some tt =>
   simp only
   obtain ⟨_, S', q1, q2⟩ := share hsh
   exact ⟨_, _, S', by rw [Nat.zero_add], q2, q1⟩
  | none =>
   simp only
   rw [hsrc]
   simp only
   cases hm : Nat.beq fs.length 0 with
   | true =>
    have := hmz (n := 0) hm
    subst this
    exact ⟨_, s, S, rfl, .refl _ _, hs⟩
   | false =>
    have hpos : fs.length ≠ 0 := fun e => by rw [e] at hm; cases hm
    have e1 : Nat.ble (0 + fs.length) (c / 2) = false := by
     cases hb : Nat.ble (0 + fs.length) (c / 2) with
     | false => rfl
     | true => have := Nat.le_of_ble_eq_true hb; omega
    rw [e1]
    simp only [cond_false]
    have hle' : Nat.ble ((0 + fs.length) * j.bytes) small = true := hle
    rw [hle']
    simp only [cond_true]
    obtain ⟨S', q1, q2⟩ := (hs.turn (B := fun b => Ow k (.slice (some ⟨b, 0, none⟩) fs.length (2 * fs.length)) fs) (o := .cells (T.e.fill 0 fs.flatten) fs.flatten.length (tz k e)) (fun b h hg => by
     rw [flat_len hfl] at hg
     exact ow_new (.inr ⟨rfl, htz⟩) (elems_flat hfl) h hg)).1
    cases a with
    | none => exact ⟨_, _, S', by rw [Nat.zero_add]; rfl, q2, q1⟩
    | some a =>
     have hc1 : c = 1 := c2.resolve_left (fun h => by cases h)
     subst hc1
     exact ⟨_, _, S', by rw [Nat.zero_add]; rfl, q2, q1⟩
 ·
  rw [hlenS]
  simp only
  have hin : ∀ U h, (Ow k (.slice (some ⟨b, 0, none⟩) es.length c) es).p U h → U b ∨ (es = [] ∧ c = 1) := fun U h H => by
   rcases H with ⟨h1, a', c', h2, _, h3⟩ | ⟨b', c', m', z', t', h1, h2, _⟩
   ·subst h1
    cases h2
    exact .inr ⟨rfl, h3.resolve_left (fun h => by cases h)⟩
   ·cases h1; exact .inl h2
  have hold : rdN s b 0 (es.length * k) = some es.flatten := by
   unfold rdN
   rw [p3]
   simp only
   rw [Nat.zero_add, Nat.ble_eq_true_of_le (Nat.le_trans (Nat.mul_le_mul_right k p4) pm)]
   simp only [cond_true]
   exact p5.read
  have hel : ∀ x ∈ es ++ fs, x.length = k := fun x hx => (List.mem_append.1 hx).elim (p5.len x) (hfl x)
  have hflat : es.flatten ++ fs.flatten = (es ++ fs).flatten := List.flatten_append.symm
  cases hsh : shareA s j es.length c fs.length w with
  | some tt =>
   simp only
   obtain ⟨h0, S', q1, q2⟩ := share hsh
   have hes : es = [] := List.length_eq_zero_iff.1 h0
   subst hes
   exact ⟨_, _, S', by rw [List.length_nil, Nat.zero_add], q2, q1⟩
  | none =>
   simp only
   rw [hsrc]
   simp only
   cases hm : Nat.beq fs.length 0 with
   | true =>
    have := hmz (n := 0) hm
    subst this
    exact ⟨_, s, S, rfl, .refl _ _, by rw [List.append_nil]; exact hs⟩
   | false =>
    have hpos : fs.length ≠ 0 := fun e => by rw [e] at hm; cases hm
    simp only [cond_false]
    cases hroom : Nat.ble (es.length + fs.length) (c / 2) with
    | true =>
     simp only [cond_true]
     have hroom := Nat.le_of_ble_eq_true hroom
     have hfit : es.length * k + fs.length * k ≤ mm := by
      have := Nat.mul_le_mul_right k hroom
      rw [Nat.add_mul] at this
      omega
     have hwr : wrN s b (0 + es.length * k) fs.flatten = some (s.upd b (.cells (tr.fill (0 + es.length * k) fs.flatten) mm z)) := by
      unfold wrN
      rw [p3]
      simp only
      rw [flat_len hfl, ones_flat hone, Nat.ble_eq_true_of_le (by omega)]
      rfl
     rw [hwr]
     simp only
     have hne : ¬ (es = [] ∧ c = 1) := fun ⟨h1, h2⟩ => by subst h1; subst h2; rw [List.length_nil] at hroom; omega
     obtain ⟨q1, q2⟩ := hs.upd (B := Ow k (.slice (some ⟨b, 0, none⟩) (es.length + fs.length) c) (es ++ fs)) (L' := Ow k (.slice (some ⟨b, 0, none⟩) (es.length + fs.length) c) (es ++ fs) :: L') .z (fun U h H => (hin U h H).resolve_right hne) (o := .cells (tr.fill (0 + es.length * k) fs.flatten) mm z) (fun h hg => .inr ⟨b, c, mm, z, _, by rw [List.length_append], rfl, hg, by rw [List.length_append]; exact hroom, pm, p6, by
      have := elems_put p5 hfl
      exact this⟩)
     exact ⟨_, _, S, rfl, q2, q1⟩
    | false =>
     simp only [cond_false]
     rw [hle]
     simp only [cond_true]
     have hnew : ∀ (zz : Nat), zs zz = k → ∀ (b : Nat) (h : T AObj), h.get b = some (.cells (T.e.fill 0 (es ++ fs).flatten) (es ++ fs).flatten.length zz) → (Ow k (.slice (some ⟨b, 0, none⟩) (es ++ fs).length (2 * (es ++ fs).length)) (es ++ fs)).p (fun x => x = b) h := fun zz hz b h hg => by
      rw [flat_len hel] at hg
      exact ow_new (.inr ⟨rfl, hz⟩) (elems_flat hel) h hg
     cases hz0 : (Nat.beq es.length 0 && Nat.beq (c % 2) 1) with
     | true =>
      simp only [cond_true]
      rw [Bool.and_eq_true] at hz0
      have hes : es = [] := List.length_eq_zero_iff.1 (Nat.eq_of_beq_eq_true hz0.1)
      subst hes
      obtain ⟨S', q1, q2⟩ := (hs.turn (hnew (tz k e) htz)).1
      exact ⟨_, _, S', by simp [AS.rowz], q2, q1⟩
     | false =>
      simp only [cond_false]
      rw [hold]
      simp only
      rw [p3]
      simp only
      cases hc1 : Nat.beq (c % 2) 1 with
      | true =>
       simp only [cond_true]
       obtain ⟨S', q1, q2⟩ := (hs.turn (hnew (tz k e) htz)).1
       exact ⟨_, _, S', by rw [hflat, List.length_append]; rfl, q2, q1⟩
      | false =>
       simp only [cond_false]
       have hzk : zs z = k := p6.resolve_left (fun h => by rw [h] at hc1; cases hc1)
       have hzb : Nat.beq (zs z) k = true := by rw [hzk]; exact Nat.beq_refl _
       rw [hzb, ones_flat hone]
       simp only [Bool.and_self, cond_true]
       have hne : ¬ (es = [] ∧ c = 1) := fun ⟨h1, h2⟩ => by subst h2; cases hc1
       obtain ⟨S', q1, q2⟩ := (hs.turn (hnew (zg k z e) (zg_zs hsmall))).2 b (fun U h H => (hin U h H).resolve_right hne)
       exact ⟨_, _, S', by rw [hflat, List.length_append]; rfl, q2, q1⟩
theorem append_ow {k : Nat} {v w : Value} {es fs : List (List Value)} {L' : List Asn} {S : Nat → Prop} {s : AS} (hs : Sat (Ow k v es :: L') P S s) (hU : SlP k w fs s.h) {t u : TypeId} {e e' : TypeId} {j ui : TI} (ht : slT E t = some (e, j)) (hu : E.ty.get u = some ui) (hui : ui.desc = .slice e') (hk : j.size = k) (hk0 : Nat.beq k 0 = false) (hby : Nat.beq j.bytes 0 = false) (hk1 : Nat.ble 524288 k = false)
  (hn : (es.length + fs.length) * j.bytes ≤ 1099511627776) (hone : ∀ f ∈ fs, ones f = true) : ∃ v' s' S', appendA E s t u v w = some (v', s') ∧ Tr S s S' s' ∧ Sat (Ow k v' (es ++ fs) :: L') P S' s' := by
 have hfl : ∀ f ∈ fs, f.length = k := by
  obtain ⟨a, c, _, hor⟩ := hU
  rcases hor with rfl | ⟨b, o, m, z, t', _, _, _, h⟩
  ·exact fun f hf => by cases hf
  ·exact h.len
 have hsrc : srcA s k fs.length w = some fs.flatten := by
  by_cases hf : fs = []
  ·subst hf
   obtain ⟨a, c, h, _⟩ := hU
   rw [h]
   cases a with
   | none => rfl
   | some a => rfl
  ·obtain ⟨b, o, h1, h2⟩ := rdN_all hU hf
   rw [h1]
   unfold srcA
   simp only
   have : Nat.beq fs.length 0 = false := by
    cases fs with
    | nil => exact absurd rfl hf
    | cons x l => rfl
   rw [this]
   exact h2
 have hlenS : lenS w = some fs.length := by
  obtain ⟨a, c, h, _⟩ := hU
  rw [h]; rfl
 refine append_core hs hfl hsrc hlenS (fun tt hpos hsh => ?_) ht hu (.inl ⟨e', hui⟩) hk hk0 hby hk1 hn hone
 obtain ⟨a', c', hw', hor⟩ := hU
 rcases hor with hor | ⟨b', o', m', z', t', rfl, u2, u3, u4⟩
 ·exact absurd hor hpos
 rw [hw'] at hsh
 unfold wholeA at hsh
 simp only at hsh
 rcases u2 with u2 | u2
 ·rw [u2] at hsh
  simp only at hsh
  cases hq : (Nat.beq o' 0 && Nat.beq m' (fs.length * k)) with
  | false => rw [hq] at hsh; cases hsh
  | true =>
   rw [hq] at hsh
   simp only [cond_true, Option.some.injEq] at hsh
   subst hsh
   rw [Bool.and_eq_true] at hq
   obtain rfl := Nat.eq_of_beq_eq_true hq.1
   exact u4
 ·rw [u2] at hsh
  cases hsh
noncomputable def isSlD (E : Env) (u : TypeId) : Bool := match E.ty.get u with
 | some i => match i.desc with
  | .slice _ => true
  | _ => false
 | none => false
theorem isSlD_spec {u : TypeId} (h : isSlD E u = true) : ∃ i e, E.ty.get u = some i ∧ i.desc = .slice e := by
 unfold isSlD at h
 cases hi : E.ty.get u with
 | none => rw [hi] at h; cases h
 | some i =>
  rw [hi] at h
  simp only at h
  cases hd : i.desc with
  | slice e => exact ⟨i, e, rfl, hd⟩
  | _ => rw [hd] at h; cases h
theorem hCall_append {x y : Operand} {ts : Array TypeId} {t u : TypeId} {v w : Value} {tm : Tm} {s : AS} {r : Value × AS} (ha : Has al tm) (hx : evl al x = some v) (hy : evl al y = some w) (ht : ts.toList = [t, u]) (h : appendA E s t u v w = some r) : hCall ⟨.builtin .append, #[x, y], ts⟩ E tm s = some r := by
 unfold hCall
 simp only
 have : evs tm #[x, y].toList = some [v, w] := by
  show evs tm [x, y] = _
  unfold evs
  rw [evl_ev ha hx]
  simp only
  unfold evs
  rw [evl_ev ha hy]
  rfl
 rw [this, ht]
 exact h
structure ApT (E : Env) (k by' : Nat) (ts : Array TypeId) : Prop where
 ok : ∃ t u e j, ts.toList = [t, u] ∧ slT E t = some (e, j) ∧ isSlD E u = true ∧ j.size = k ∧ Nat.beq k 0 = false ∧ Nat.beq j.bytes 0 = false ∧ Nat.ble 524288 k = false ∧ j.bytes = by'
theorem ApT.mk' {k by' t u e : Nat} {j : TI} (h1 : slT E t = some (e, j) := by rfl) (h2 : isSlD E u = true := by rfl) (h3 : j.size = k := by rfl) (h4 : Nat.beq k 0 = false := by rfl) (h5 : Nat.beq j.bytes 0 = false := by rfl) (h6 : Nat.ble 524288 k = false := by rfl) (h7 : j.bytes = by' := by rfl) : ApT E k by' #[t, u] := ⟨t, u, e, j, rfl, h1, h2, h3, h4, h5, h6, h7⟩
theorem WO.ap {x y : Operand} {ts : Array TypeId} {k by' : Nat} {v w : Value} {es fs : List (List Value)} {L' : List Asn} {Q : Value → List Asn → List Asn → Prop} (hx : evl al x = some v) (hy : evl al y = some w) (ht : ApT E k by' ts) (hr : Rem (Ow k v es) L L') (hw : IsSl k w fs L P) (hn : (es.length + fs.length) * by' ≤ 1099511627776) (ho : ∀ f ∈ fs, ones f = true) (h : ∀ v', Q v' (Ow k v' (es ++ fs) :: L') P) : WO E (.call ⟨.builtin .append, #[x, y], ts⟩) al L P Q := by
 intro S s tm hs ha
 obtain ⟨t, u, e, j, h0, h1, h2, h3, h4, h5, h6, rfl⟩ := ht.ok
 obtain ⟨ui, e', g1, g2⟩ := isSlD_spec h2
 obtain ⟨v', s', S', k1, k2, k3⟩ := append_ow ⟨hs.own.perm hr.perm, hs.per, hs.ex, hs.fresh⟩ (hw.holds hs) h1 g1 g2 h3 h4 h5 h6 hn ho
 exact ⟨v', s', S', _, _, ⟨0, 0, hCall_append ha hx hy h0 k1⟩, k2, k3, h v'⟩
theorem WR.ap {x y : Operand} {ts : Array TypeId} {d t k by' : Nat} {pos : String} {af : Array Edge} {v w : Value} {es fs : List (List Value)} {L' : List Asn} (h : ∀ v', WR E N ops l ((d, v') :: al) (Ow k v' (es ++ fs) :: L') P Q) (hx : evl al x = some v := by rfl) (hy : evl al y = some w := by rfl)
  (hr : Rem (Ow k v es) L L' := by first | exact .z | exact .s .z | exact .s (.s .z) | exact .s (.s (.s .z)) | exact .s (.s (.s (.s .z))))
  (hw : IsSl k w fs L P := by first | assumption | exact .o .l0 | exact .o .l1 | exact .o .l2 | exact .o .l3 | exact .s .p0 | exact .s .p1 | exact .s .p2 | exact .s .p3 | exact .s (.p (by assumption)) | exact .s (.h1 (by assumption)) | exact .s (.h2 (by assumption)))
  (ht : ApT E k by' ts := by exact ApT.mk') (hn : (es.length + fs.length) * by' ≤ 1099511627776 := by (simp only [List.length_cons, List.length_nil]; omega)) (ho : ∀ f ∈ fs, ones f = true := by simp [Go.Ax.ones, Go.Ax.oneC]) (hN : Nat.ble d N = true := by rfl) : WR E N ops (⟨some d, .call ⟨.builtin .append, #[x, y], ts⟩, t, pos, af, none⟩ :: l) al L P Q :=
 WR.op rfl rfl hN (WO.ap hx hy ht hr hw hn ho h)
theorem Ent.none {k : Nat} : Ent L P (Ow k (.slice none 0 0) [] :: L) P := fun S s hs => ⟨S, fun _ h => h, ⟨⟨fun _ => False, S, fun _ h => h.elim, fun _ h => h, fun _ h _ => h.elim, .inl ⟨rfl, _, _, rfl, by omega, .inl rfl⟩, hs.own⟩, hs.per, hs.ex, hs.fresh⟩⟩
end Go.Lx
