/- Maps whose keys are numbers: the sorted keys, and one map laid into another. -/
import Derived.Test.YtcgpmbjoobilcaaGreatDoorAxF
import Derived.Lib.SlKeysI
import Derived.Lib.SlMapMerge
import Derived.Maps.Own
set_option linter.unusedSimpArgs false
set_option linter.unusedVariables false
namespace Go.Ax
open Go Go.Maps Go.RowKit
noncomputable section
def natKey (v : Value) : Option Nat := match v with
 | .int .i64 (.ofNat k) => bif Nat.ble k 1000000000 then some k else none
 | _ => none
def natKeys : List (Value × Value) → Option (List Nat)
 | [] => some []
 | e :: l => match natKey e.1 with
  | some k => match natKeys l with
   | some ks => some (k :: ks)
   | none => none
  | none => none
def insN (k : Nat) : List Nat → List Nat
 | [] => [k]
 | x :: l => bif Nat.ble k x then k :: x :: l else x :: insN k l
def sortN : List Nat → List Nat
 | [] => []
 | k :: l => insN k (sortN l)
def encN (l : List Nat) : List Value := l.map fun n => .int .i64 (.ofNat n)
theorem natKey_spec {v : Value} {k : Nat} (h : natKey v = some k) : v = .int .i64 (.ofNat k) ∧ k ≤ 1000000000 := by
 unfold natKey at h
 split at h
 ·rename_i k'
  cases hb : Nat.ble k' 1000000000 with
  | false => rw [hb] at h; cases h
  | true =>
   rw [hb, cond_true] at h
   cases h
   exact ⟨rfl, Nat.le_of_ble_eq_true hb⟩
 ·cases h
theorem natKeys_spec : ∀ {es : List (Value × Value)} {ks : List Nat}, natKeys es = some ks → es.map (·.1) = encN ks ∧ ∀ k ∈ ks, k ≤ 1000000000
 | [], ks, h => by cases h; exact ⟨rfl, fun k h => by cases h⟩
 | (x, v) :: l, ks, h => by
  have h' : (match natKey x with
   | some k => match natKeys l with
    | some ks => some (k :: ks)
    | none => none
   | none => none) = some ks := h
  split at h'
  ·rename_i k hk
   split at h'
   ·rename_i ks' hks
    cases h'
    obtain ⟨rfl, h0⟩ := natKey_spec hk
    obtain ⟨h1, h2⟩ := natKeys_spec hks
    refine ⟨by simp only [List.map_cons, h1]; rfl, fun k hk => ?_⟩
    rcases List.mem_cons.1 hk with rfl | hk
    ·exact h0
    ·exact h2 k hk
   ·cases h'
  ·cases h'
theorem insN_perm (k : Nat) : ∀ l, (insN k l).Perm (k :: l)
 | [] => .refl _
 | x :: l => by
  unfold insN
  cases Nat.ble k x with
  | true => exact .refl _
  | false => exact ((insN_perm k l).cons x).trans (.swap k x l)
theorem sortN_perm : ∀ l, (sortN l).Perm l
 | [] => .refl _
 | k :: l => (insN_perm k _).trans ((sortN_perm l).cons k)
theorem insN_sorted (k : Nat) : ∀ l, l.Pairwise (· ≤ ·) → (insN k l).Pairwise (· ≤ ·)
 | [], _ => List.pairwise_singleton _ _
 | x :: l, h => by
  unfold insN
  cases hb : Nat.ble k x with
  | true =>
   have hk := Nat.le_of_ble_eq_true hb
   refine List.pairwise_cons.2 ⟨fun y hy => ?_, h⟩
   rcases List.mem_cons.1 hy with rfl | hy
   ·exact hk
   ·exact Nat.le_trans hk ((List.pairwise_cons.1 h).1 y hy)
  | false =>
   have hk : x ≤ k := by
    have : ¬ k ≤ x := fun e => by rw [Nat.ble_eq_true_of_le e] at hb; cases hb
    omega
   refine List.pairwise_cons.2 ⟨fun y hy => ?_, insN_sorted k l (List.pairwise_cons.1 h).2⟩
   rcases List.mem_cons.1 ((insN_perm k l).mem_iff.1 hy) with rfl | hy
   ·exact hk
   ·exact (List.pairwise_cons.1 h).1 y hy
theorem sortN_sorted : ∀ l, (sortN l).Pairwise (· ≤ ·)
 | [] => .nil
 | k :: l => insN_sorted k _ (sortN_sorted l)
theorem sortN_merge (l : List Nat) {ss : List Int} (h : ss.Perm (l.map Int.ofNat)) : (ss.mergeSort leI).map encZ = encN (sortN l) := by
 have tr : ∀ a b c : Int, leI a b = true → leI b c = true → leI a c = true := fun a b c h1 h2 => by simp only [leI, decide_eq_true_eq] at *; exact Int.le_trans h1 h2
 have to : ∀ a b : Int, (leI a b || leI b a) = true := fun a b => by simp only [leI, Bool.or_eq_true, decide_eq_true_eq]; exact Int.le_total a b
 have e : ss.mergeSort leI = (sortN l).map Int.ofNat := by
  refine List.Perm.eq_of_pairwise (le := fun a b => leI a b = true) (fun a b _ _ h1 h2 => ?_) (List.pairwise_mergeSort tr to ss) ?_ (((List.mergeSort_perm ss leI).trans h).trans ((sortN_perm l).map Int.ofNat).symm)
  ·simp only [leI, decide_eq_true_eq] at h1 h2
   exact Int.le_antisymm h1 h2
  ·refine List.pairwise_map.2 ((sortN_sorted l).imp fun {a b} hab => ?_)
   simp only [leI, decide_eq_true_eq]
   exact Int.ofNat_le.2 hab
 rw [e, List.map_map]
 rfl
def rdS (v : Value) : Option (DataW Unit × List MemPlace) := some (match v with | .string s => .lit (.string s.data.toList) | _ => .lit (.bool false), [])
theorem MR.keys' : ∀ {i : Io} {es : List (Value × Value)} {l : List MapEntry}, MR i es l → l.map (·.key) = es.map (·.1)
 | _, _, _, .nil => rfl
 | _, _, _, .cons h _ h' => by simp only [List.map_cons, h, h'.keys']
theorem keyOf_nat {P : Program} {kt : TypeId} (hk : P.underlying kt = some (.int .i64)) {n : Nat} (hn : n ≤ 1000000000) : keyOf P kt (.int .i64 (.ofNat n)) = some (.int .i64 (.ofNat n)) := by
 refine keyOf_int_mk hk ?_
 have h1 : (-9223372036854775808 : Int) ≤ (n : Int) := by omega
 have h2 : (n : Int) ≤ 9223372036854775807 := by omega
 show (decide ((-9223372036854775808 : Int) ≤ (n : Int)) && decide ((n : Int) ≤ 9223372036854775807)) = true
 simp [h1, h2]
theorem encN_nodup {l : List Nat} (h : (encN l).Pairwise KD) : l.Nodup := by
 unfold encN at h
 rw [List.pairwise_map] at h
 refine h.imp fun {a b} hab e => ?_
 subst e
 exact hab.2 rfl
theorem ownsNat {i : Io} {s : AS} {w : World} {P : Program} (hR : Rel i s w) {r q t : Nat} {es : List (Value × Value)} (hes : s.h.get r = some (.map es)) (hi : i r = some (q, t)) {kt : TypeId} (hk : P.underlying kt = some (.int .i64)) {ks : List Nat} (hks : natKeys es = some ks) (hlen : es.length ≤ 1000000) :
  t = 0 ∧ ∃ (es' : Array MapEntry) (clk : Nat), w.heap[q]? = some (.map es' clk) ∧ w.ownsMap P kt rdS q es.length (.map ((es'.toList.map (WideElems.rg P kt rdS)).foldr DataW.insert [])) ∧ es'.toList.length = es.length ∧
   ∃ l : List MapEntry, l.Perm es'.toList ∧ MR i es l ∧ (es'.toList.map fun x => x.key).Perm (encN ks) := by
 obtain ⟨h0, es', clk, l, g1, g2, g3, g4, g5⟩ := hR.at (P := P) hes rfl hi
 obtain ⟨k1, k2⟩ := natKeys_spec hks
 have hkeys : (es'.toList.map fun x => x.key).Perm (encN ks) := by
  have := (g2.map (·.key)).symm
  rw [g3.keys', k1] at this
  exact this
 have hsz : es'.toList.length = es.length := by
  have := hkeys.length_eq
  have h2 := congrArg List.length k1
  simp only [List.length_map, encN] at this h2
  omega
 refine ⟨h0, es', clk, g1, ⟨es', clk, g1, ⟨?_, ⟨g5.1, g5.2, ?_⟩, fun x hx => ?_⟩, ?_, rfl⟩, hsz, l, g2, g3, hkeys⟩
 ·have : es'.size = es.length := by rw [← hsz]; simp
  rw [this]; unfold maxLen; omega
 ·refine hkeys.nodup_iff.2 ?_
  have hp : (encN ks).Pairwise KD := by
   rw [← k1, List.pairwise_map]
   exact g4
  have := encN_nodup hp
  unfold encN
  refine List.pairwise_map.2 (this.imp fun {a b} hab e => hab ?_)
  injection e with _ e
  exact Int.ofNat.inj e
 ·have hx' : x.key ∈ encN ks := hkeys.mem_iff.1 (List.mem_map.2 ⟨x, hx, rfl⟩)
  obtain ⟨n, hn, hx2⟩ := List.mem_map.1 hx'
  unfold WideElems.rd
  rw [← hx2, keyOf_nat hk (k2 n hn)]
  exact ⟨_, rfl⟩
 ·have : es'.size = es.length := by rw [← hsz]; simp
  omega
theorem intKeys_nat {P : Program} {kt : TypeId} (hk : P.underlying kt = some (.int .i64)) {es' : List MapEntry} {ks : List Nat} (h : (es'.map fun x => x.key).Perm (encN ks)) (hb : ∀ k ∈ ks, k ≤ 1000000000) :
  (intKeys (.map ((es'.map (WideElems.rg P kt rdS)).foldr DataW.insert []) : DataW Unit)).Perm (ks.map Int.ofNat) ∧ Maps.size (.map ((es'.map (WideElems.rg P kt rdS)).foldr DataW.insert []) : DataW Unit) = ks.length := by
 have hperm := WideShapes.sorted_perm (es'.map (WideElems.rg P kt rdS))
 have hl : es'.length = ks.length := by have := h.length_eq; simpa [encN] using this
 refine ⟨?_, by rw [Maps.size_eq, hperm.length_eq, List.length_map, hl]⟩
 have h1 : (intKeys (.map ((es'.map (WideElems.rg P kt rdS)).foldr DataW.insert []) : DataW Unit)).Perm (es'.map fun x => intOf (WideElems.rg P kt rdS x).1) := by
  have := hperm.map fun p => intOf p.1
  rw [List.map_map] at this
  exact this
 refine h1.trans ?_
 have h2 : (es'.map fun x => intOf (WideElems.rg P kt rdS x).1) = (es'.map fun x => x.key).map fun v => match v with | .int _ a => a | _ => 0 := by
  rw [List.map_map]
  refine List.map_congr_left fun x hx => ?_
  have hx' : x.key ∈ encN ks := h.mem_iff.1 (List.mem_map.2 ⟨x, hx, rfl⟩)
  obtain ⟨n, hn, hx2⟩ := List.mem_map.1 hx'
  have e : WideElems.rd P kt rdS x = some (.int .i64 (.ofNat n), (match x.val with | .string s => .lit (.string s.data.toList) | _ => .lit (.bool false))) := by
   unfold WideElems.rd
   rw [← hx2, keyOf_nat hk (hb n hn)]
   rfl
  unfold WideElems.rg
  rw [e]
  simp only [Option.getD_some, Function.comp, ← hx2]
  rfl
 rw [h2]
 have h3 := h.map fun v => (match v with | .int _ a => a | _ => 0 : Int)
 refine h3.trans ?_
 unfold encN
 rw [List.map_map]
 exact .refl _
def sortedP (g et : Nat) : List Value → AS → Option (Value × AS)
 | [.func (.func g') ⟨[]⟩ ⟨[.pointer (some p)]⟩], s => bif Nat.beq g' g && Nat.beq p.off 0 then (match s.h.get p.block with
  | some (.cells c n z) => bif Nat.beq (zs z) 0 && !Nat.beq (ze z) 0 && Nat.blt 0 n then (match c.get 0 with
   | some (.map (some r)) => match s.h.get r with
    | some (.map es) => match natKeys es with
     | some l => bif Nat.ble es.length 1000000 then (match l with
      | [] => some (.slice none 0 1, s)
      | k :: l => some (.slice (some ⟨s.nx, 0, none⟩) (encN (sortN (k :: l))).length (2 * (encN (sortN (k :: l))).length), s.rowz (tz 1 et) (encN (sortN (k :: l))))) else none
     | none => none
    | _ => none
   | _ => none) else none
  | _ => none) else none
 | _, _ => none
def SortedC (P : Program) (f g : FuncId) (kt et : TypeId) : Prop :=
 ∀ (Bm q nn : Nat) (D : DataW Unit) (w : World), Bm < w.heap.size → w.cell? ⟨Bm, 0, none⟩ = some (.map (some q)) → w.ownsMap P kt rdS q nn D → Maps.size D ≤ 1000000 →
  Calls P f #[.func (.func g) #[] #[.pointer (some ⟨Bm, 0, none⟩)]] w fun e w' => ∃ (v : Value) (ss : List Int), e = .returned v ∧ ss.Perm (intKeys D) ∧
   w'.ownsRow w.heap.size et 1 v ss.length ((ss.mergeSort leI).map encZ) ∧ (v = .slice none 0 0 ↔ ss = []) ∧ Below w.heap.size w w'
theorem row_sim {i : Io} {s : AS} {w w' : World} (hR : Rel i s w) {l l' : List Value} (hv : VRs i l l') {et : TypeId} (hb : Below w.heap.size w w') {v' : Value} (ho : w'.ownsRow w.heap.size et 1 v' l'.length l') (hn : v' ≠ .slice none 0 0) :
  ∃ i', VR i' (.slice (some ⟨s.nx, 0, none⟩) l.length (2 * l.length)) v' ∧ Rel i' (s.rowz (tz 1 et) l) w' ∧ Fr i s w i' (s.rowz (tz 1 et) l) w' := by
 obtain ⟨_, ho⟩ := ho
 rcases ho with ⟨h, _⟩ | ⟨g, cap, cur, rfl, h2, h3, h4, h5, h6, h7⟩
 ·exact absurd h hn
 ·have hle : Le i (ext i s.nx (g, 0) (1, cap)) := ext_le (hR.fresh s.nx (Nat.le_refl _)).1
  have hcs : ∀ k, k < l.length → cur[0 + k]? = l'[k]? := fun k hk => by
   have hk' : k < l'.length := by rw [← hv.length]; exact hk
   rw [Nat.zero_add, ← Array.getElem?_toList]
   have := congrArg (fun x => x[k]?) h7
   simp only [List.getElem?_take, Nat.mul_one, hk', if_true] at this
   exact this
  have h6' : cur.size = cap := by rw [h6, Nat.mul_one]
  obtain ⟨k1, k2⟩ := hR.newAt (lm := (1, cap)) (o := .cells (T.e.fill 0 l) l.length (tz 1 et)) hb h2 h3 (OR.row (hv.mono hle) cur et (0, 0) (tz 1 et) (fun _ => by rw [tz_ze (by omega)]) (.inl rfl) 0 (by rw [hv.length]; omega) hcs)
   (fun c n z h => by cases h; exact ⟨(tz_zs (by omega)).symm, fun cs e fr h => by cases h; exact Nat.le_of_eq h6'.symm⟩)
  refine ⟨_, ?_, k1, k2⟩
  refine hv.length ▸ ?_
  exact .slice (t := 0) (ext_same _ _ _) (by omega) (by omega) (by rw [hv.length]; omega) (.inl rfl) (fun _ _ => by rw [ext_lim]; omega)
theorem VRs_encN (i : Io) : ∀ l, VRs i (encN l) (encN l)
 | [] => .nil
 | _ :: l => .cons (.int _ _) (VRs_encN i l)
theorem enter_of {P : Program} {f : FuncId} {fn : Func} (hf : P.funcs[f]? = some fn) (hn : (fn.name == "runtime.NumGoroutine") = false) (hb : fn.body.isNone = false) (args : Array Value) (w : World) : (callFunc f args).run P w = .ok (.enter f args) w := by
 unfold callFunc
 have hn' : fn.name ≠ "runtime.NumGoroutine" := by simpa using hn
 have hb' : fn.body ≠ none := fun e => by rw [e] at hb; cases hb
 simp [hf, hn', hb']
theorem sorted_ok {P : Program} {f g : FuncId} {fn : Func} {kt et : TypeId} (hk : P.underlying kt = some (.int .i64)) (hf : P.funcs[f]? = some fn) (hn : (fn.name == "runtime.NumGoroutine") = false) (hb : fn.body.isNone = false) (hC : SortedC P f g kt et) : POk P f (sortedP g et) := by
 intro args s v s' h i w args' hR hg ha
 unfold sortedP at h
 split at h
 ·rename_i g' p
  cases hgb : (Nat.beq g' g && Nat.beq p.off 0) with
  | false => rw [hgb] at h; cases h
  | true =>
   rw [hgb, cond_true] at h
   simp only [Bool.and_eq_true, Nat.beq_eq] at hgb
   obtain ⟨rfl, hp0⟩ := hgb
   split at h
   ·rename_i c n z hblk
    cases hz : (Nat.beq (zs z) 0 && !Nat.beq (ze z) 0 && Nat.blt 0 n) with
    | false => rw [hz] at h; cases h
    | true =>
     rw [hz, cond_true] at h
     simp only [Bool.and_eq_true, Nat.beq_eq, Bool.not_eq_true', Nat.blt_eq] at hz
     obtain ⟨⟨hz1, hz2⟩, hz3⟩ := hz
     have hz2' : ze z ≠ 0 := fun e => by rw [e] at hz2; cases hz2
     split at h
     ·rename_i r hc0
      split at h
      ·rename_i es hes
       split at h
       ·rename_i ks hks
        cases hlb : Nat.ble es.length 1000000 with
        | false => rw [hlb] at h; cases h
        | true =>
         rw [hlb, cond_true] at h
         have hlen := Nat.le_of_ble_eq_true hlb
         cases ha with | cons a1 ha =>
         cases ha
         cases a1 with | @func _ fa fa' fc fc' v1 v2 =>
         cases v1
         cases v2 with | @cons _ u _ l v3 v4 =>
         cases v4
         cases v3 with | @ptr b o q t hi =>
         simp only at hp0 hblk
         subst hp0
         obtain ⟨cs, e, fr, w1, w2, w3, w4, w5⟩ := hR.at (P := P) hblk rfl hi
         obtain rfl := (w5 hz2').2 hz1
         obtain ⟨v', w6, w7⟩ := w4 0 _ hz3 hc0
         cases w7 with | @map _ qm hm =>
         obtain ⟨_, es', clk, g1, g2, g3, l, g4, g5, g6⟩ := ownsNat (P := P) hR hes hm hk hks hlen
         obtain ⟨k1, k2⟩ := natKeys_spec hks
         obtain ⟨q1, q2⟩ := intKeys_nat (P := P) hk g6 k2
         have hcell : w.cell? ⟨q, 0, none⟩ = some (.map (some qm)) := by
          unfold World.cell?
          rw [w1]
          simpa using w6
         have hlk : ks.length = es.length := by have := congrArg List.length k1; simpa [encN] using this.symm
         refine .inr ⟨enter_of hf hn hb _ _, Calls.mono (hC q qm _ _ w (lt_of_some w1) hcell g2 (by rw [q2]; omega)) (fun e w' he => ?_)⟩
         obtain ⟨v', ss, rfl, p1, p2, p3, p4⟩ := he
         have hss : ss.Perm (ks.map Int.ofNat) := p1.trans q1
         rw [sortN_merge ks hss] at p2
         cases ks with
         | nil =>
          cases h
          have : ss = [] := by simpa using hss
          obtain rfl := p3.2 this
          obtain ⟨z1, z2⟩ := hR.below p4
          exact ⟨i, .nils (by decide), z1, z2⟩
         | cons k ks =>
          cases h
          have hne : v' ≠ .slice none 0 0 := fun e => by
           have := p3.1 e
           rw [this] at hss
           have := hss.length_eq
           simp at this
          have hl : ss.length = (encN (sortN (k :: ks))).length := by
           unfold encN
           rw [List.length_map, (sortN_perm _).length_eq, hss.length_eq, List.length_map]
          rw [hl] at p2
          exact row_sim hR (VRs_encN i _) p4 p2 hne
       ·cases h
      ·cases h
     ·cases h
   ·cases h
 ·cases h
end
end Go.Ax
/- One map of texts laid into another: maps.Copy. -/
namespace Go.Ax
open Go Go.Maps Go.RowKit
noncomputable section
def inN (k : Nat) : List Nat → Bool
 | [] => false
 | x :: l => bif Nat.beq k x then true else inN k l
def dropK (kr : List Nat) : List (Value × Value) → List (Value × Value)
 | [] => []
 | e :: l => match natKey e.1 with
  | some k => bif inN k kr then dropK kr l else e :: dropK kr l
  | none => e :: dropK kr l
def isS (v : Value) : Bool := match v with
 | .string _ => true
 | _ => false
def allS : List (Value × Value) → Bool
 | [] => true
 | e :: l => bif isS e.2 then allS l else false
def copyP : List Value → AS → Option (Value × AS)
 | [.map (some d), .map (some r)], s => bif Nat.beq d r then none else (match s.h.get d with
  | some (.map ed) => match s.h.get r with
   | some (.map er) => match natKeys ed with
    | some kd => match natKeys er with
     | some kr => bif allS ed && allS er && Nat.ble ed.length 1000000 && Nat.ble er.length 1000000 then some (.tuple ⟨[]⟩, s.upd d (.map (dropK kr ed ++ er))) else none
     | none => none
    | none => none
   | _ => none
  | _ => none)
 | _, _ => none
theorem inN_iff (k : Nat) : ∀ l, inN k l = true ↔ k ∈ l
 | [] => by simp [inN]
 | x :: l => by
  unfold inN
  cases hb : Nat.beq k x with
  | true => have := Nat.eq_of_beq_eq_true hb; subst this; simp
  | false =>
   have hne : k ≠ x := fun e => by subst e; rw [Nat.beq_refl] at hb; cases hb
   rw [cond_false, inN_iff k l]
   simp [hne]
theorem allS_spec : ∀ {l : List (Value × Value)}, allS l = true → ∀ e ∈ l, ∃ s, e.2 = .string s
 | [], _, e, h => by cases h
 | x :: l, h, e, he => by
  unfold allS at h
  cases hb : isS x.2 with
  | false => rw [hb] at h; cases h
  | true =>
   rw [hb, cond_true] at h
   rcases List.mem_cons.1 he with rfl | he
   ·unfold isS at hb
    split at hb
    ·rename_i s hs; exact ⟨s, hs⟩
    ·cases hb
   ·exact allS_spec h e he
def phi (e : Value × Value) : Lit × DataW Unit := (match e.1 with | .int k n => .int k n | _ => .bool false, match e.2 with | .string s => .lit (.string s.data.toList) | _ => .lit (.bool false))
def Good (e : Value × Value) : Prop := ∃ (n : Nat) (s : ByteArray), n ≤ 1000000000 ∧ e = (.int .i64 (.ofNat n), .string s)
theorem good_of {l : List (Value × Value)} {ks : List Nat} (h : natKeys l = some ks) (hs : allS l = true) : ∀ e ∈ l, Good e := by
 intro e he
 obtain ⟨h1, h2⟩ := natKeys_spec h
 have : e.1 ∈ encN ks := by rw [← h1]; exact List.mem_map.2 ⟨e, he, rfl⟩
 obtain ⟨n, hn, hn2⟩ := List.mem_map.1 this
 obtain ⟨s, hs'⟩ := allS_spec hs e he
 exact ⟨n, s, h2 n hn, Prod.ext hn2.symm hs'⟩
theorem good_key {e : Value × Value} (h : Good e) : ∃ n, natKey e.1 = some n ∧ e.1 = .int .i64 (.ofNat n) := by
 obtain ⟨n, s, h1, rfl⟩ := h
 refine ⟨n, ?_, rfl⟩
 show (bif Nat.ble n 1000000000 then some n else none) = some n
 rw [Nat.ble_eq_true_of_le h1]
 rfl
theorem perm_preimage {α β : Type} {f : α → β} : ∀ {m0 m : List β}, m0.Perm m → ∀ l : List α, l.map f = m0 → ∃ l' : List α, l'.Perm l ∧ l'.map f = m := by
 intro m0 m h
 induction h with
 | nil => intro l hl; exact ⟨l, .refl _, hl⟩
 | cons x _ ih =>
  intro l hl
  cases l with
  | nil => cases hl
  | cons a l =>
   injection hl with h1 h2
   obtain ⟨l', h3, h4⟩ := ih l h2
   exact ⟨a :: l', h3.cons a, by rw [List.map_cons, h1, h4]⟩
 | swap x y _ =>
  intro l hl
  cases l with
  | nil => cases hl
  | cons a l =>
   cases l with
   | nil => cases hl
   | cons b l =>
    injection hl with h1 hl
    injection hl with h2 h3
    exact ⟨b :: a :: l, .swap a b l, by rw [List.map_cons, List.map_cons, h1, h2, h3]⟩
 | trans _ _ ih1 ih2 =>
  intro l hl
  obtain ⟨l1, h1, h2⟩ := ih1 l hl
  obtain ⟨l2, h3, h4⟩ := ih2 l1 h2
  exact ⟨l2, h3.trans h1, h4⟩
def anyK (Es : List (Lit × DataW Unit)) (k : Lit) : Bool := Es.any fun q => k.sameKey q.1
theorem foldput : ∀ (Es E : List (Lit × DataW Unit)), Es.Pairwise (fun p q => p.1.sameKey q.1 = false) → ∃ E', Es.foldl (fun D p => D.put p.1 p.2) (.map E) = (.map E' : DataW Unit) ∧ E'.Perm (E.filter (fun p => !anyK Es p.1) ++ Es)
 | [], E, _ => ⟨E, rfl, by
  have : (E.filter fun p => !anyK [] p.1) = E := List.filter_eq_self.2 (fun _ _ => rfl)
  rw [this, List.append_nil]⟩
 | q :: Es, E, h => by
  obtain ⟨h1, h2⟩ := List.pairwise_cons.1 h
  obtain ⟨E', g1, g2⟩ := foldput Es (DataW.insert q (E.filter fun p => !p.1.sameKey q.1)) h2
  refine ⟨E', g1, g2.trans ?_⟩
  have hp := (WideShapes.insert_perm q (E.filter fun p => !p.1.sameKey q.1)).filter (fun p => !anyK Es p.1)
  refine (hp.append_right Es).trans ?_
  have hq : anyK Es q.1 = false := by
   unfold anyK
   rw [List.any_eq_false]
   intro x hx
   rw [h1 x hx]
   simp
  rw [List.filter_cons, hq]
  simp only [Bool.not_false, if_true, List.filter_filter]
  have e : (E.filter fun a => !anyK Es a.1 && !a.1.sameKey q.1) = E.filter fun p => !anyK (q :: Es) p.1 := by
   refine List.filter_congr fun x _ => ?_
   unfold anyK
   rw [List.any_cons]
   cases x.1.sameKey q.1 <;> simp
  rw [e]
  simpa using (List.perm_middle (a := q) (l₁ := E.filter fun p => !anyK (q :: Es) p.1) (l₂ := Es)).symm
theorem phi_key {e : Value × Value} {n : Nat} (h : e.1 = .int .i64 (.ofNat n)) : (phi e).1 = .int .i64 (.ofNat n) := by
 unfold phi
 rw [h]
theorem same_nat (a b : Nat) : (Lit.int .i64 (.ofNat a)).sameKey (.int .i64 (.ofNat b)) = Nat.beq a b := by
 cases hb : Nat.beq a b with
 | true => have := Nat.eq_of_beq_eq_true hb; subst this; simp [Lit.sameKey]
 | false =>
  have hne : a ≠ b := fun e => by subst e; rw [Nat.beq_refl] at hb; cases hb
  have : ¬ (Int.ofNat a = Int.ofNat b) := fun e => hne (Int.ofNat.inj e)
  simp only [Lit.sameKey]
  simp
  omega
theorem dropK_phi {er : List (Value × Value)} {kr : List Nat} (hr : er.map (·.1) = encN kr) : ∀ {ed : List (Value × Value)}, (∀ e ∈ ed, Good e) → (dropK kr ed).map phi = (ed.map phi).filter fun p => !anyK (er.map phi) p.1
 | [], _ => rfl
 | e :: l, h => by
  have ih := dropK_phi hr (ed := l) (fun e he => h e (List.mem_cons_of_mem _ he))
  obtain ⟨n, h1, h2⟩ := good_key (h e (List.mem_cons_self ..))
  have hany : anyK (er.map phi) (phi e).1 = inN n kr := by
   rw [phi_key h2, Bool.eq_iff_iff, inN_iff]
   unfold anyK
   rw [List.any_eq_true]
   constructor
   ·rintro ⟨q, hq, hs⟩
    obtain ⟨x, hx, rfl⟩ := List.mem_map.1 hq
    have hx1 : x.1 ∈ encN kr := by rw [← hr]; exact List.mem_map.2 ⟨x, hx, rfl⟩
    obtain ⟨m, hm, hm2⟩ := List.mem_map.1 hx1
    rw [phi_key hm2.symm, same_nat] at hs
    have := Nat.eq_of_beq_eq_true hs
    subst this
    exact hm
   ·intro hn
    have : (Value.int .i64 (.ofNat n)) ∈ er.map (·.1) := by rw [hr]; exact List.mem_map.2 ⟨n, hn, rfl⟩
    obtain ⟨x, hx, hx2⟩ := List.mem_map.1 this
    exact ⟨phi x, List.mem_map.2 ⟨x, hx, rfl⟩, by rw [phi_key hx2, same_nat]; exact Nat.beq_refl n⟩
  have hd : dropK kr (e :: l) = bif inN n kr then dropK kr l else e :: dropK kr l := by
   show (match natKey e.1 with
    | some k => bif inN k kr then dropK kr l else e :: dropK kr l
    | none => e :: dropK kr l) = _
   rw [h1]
  rw [hd, List.map_cons, List.filter_cons, hany]
  cases inN n kr with
  | true => simpa using ih
  | false => simp [ih]
theorem rg_phi {P : Program} {kt : TypeId} (hk : P.underlying kt = some (.int .i64)) {i : Io} : ∀ {es : List (Value × Value)} {l : List MapEntry}, MR i es l → (∀ e ∈ es, Good e) → l.map (WideElems.rg P kt rdS) = es.map phi
 | _, _, .nil, _ => rfl
 | _, _, .cons (k := k) (v := v) (e := e) (l := l) (m := m) h1 h2 h3, hg => by
  have ih := rg_phi hk h3 (fun e he => hg e (List.mem_cons_of_mem _ he))
  rw [List.map_cons, List.map_cons, ih]
  obtain ⟨n, s, hn, he⟩ := hg (k, v) (List.mem_cons_self ..)
  cases he
  cases h2' : e.val with
  | string s' =>
   rw [h2'] at h2
   cases h2
   congr 1
   unfold WideElems.rg WideElems.rd
   rw [h1, keyOf_nat hk hn, h2']
   rfl
  | _ => rw [h2'] at h2; cases h2
theorem mr_of_rg {P : Program} {kt : TypeId} (hk : P.underlying kt = some (.int .i64)) {i : Io} : ∀ {M : List (Value × Value)} {l : List MapEntry}, l.map (WideElems.rg P kt rdS) = M.map phi → (∀ e ∈ M, Good e) → (∀ x ∈ l, ∃ y, WideElems.rd P kt rdS x = some y) → MR i M l
 | [], [], _, _, _ => .nil
 | [], _ :: _, h, _, _ => by cases h
 | _ :: _, [], h, _, _ => by cases h
 | e :: M, x :: l, h, hg, hr => by
  injection h with h1 h2
  have ih := mr_of_rg hk h2 (fun e he => hg e (List.mem_cons_of_mem _ he)) (fun x hx => hr x (List.mem_cons_of_mem _ hx)) (i := i)
  obtain ⟨n, s, hn, rfl⟩ := hg e (List.mem_cons_self ..)
  obtain ⟨y, hy⟩ := hr x (List.mem_cons_self ..)
  have hrg : WideElems.rg P kt rdS x = y := by unfold WideElems.rg; rw [hy]; rfl
  rw [hrg] at h1
  subst h1
  unfold WideElems.rd at hy
  simp only [Option.bind_eq_some_iff, Option.map_eq_some_iff] at hy
  obtain ⟨key, hk1, z, hz1, hz2⟩ := hy
  have e1 : key = (Lit.int .i64 (.ofNat n)) := by have := congrArg Prod.fst hz2; exact this
  have e2 : z.1 = (.lit (.string s.data.toList) : DataW Unit) := by have := congrArg Prod.snd hz2; exact this
  subst e1
  obtain ⟨a, ha1, ha2, _⟩ := keyOf_i64 hk hk1
  injection ha2 with _ ha2
  subst ha2
  refine .cons ha1 ?_ ih
  unfold rdS at hz1
  injection hz1 with hz1
  rw [← hz1] at e2
  simp only at e2
  split at e2
  ·rename_i s' hs'
   injection e2 with e2
   injection e2 with e2
   have : s' = s := by
    cases s'; cases s
    congr 1
    exact Array.toList_inj.1 e2
   rw [hs', this]
   exact .string s
  ·injection e2 with e2
   cases e2
def CopyC (P : Program) (f : FuncId) (kt : TypeId) : Prop :=
 ∀ (bd bs nd ns : Nat) (Dd Ds : DataW Unit) (w : World), w.ownsMap P kt rdS bd nd Dd → w.ownsMap P kt rdS bs ns Ds → bd ≠ bs → nd + Maps.size Ds ≤ maxLen →
  Calls P f #[.map (some bd), .map (some bs)] w fun e w' => e = .returned (.tuple #[]) ∧ w'.ownsMap P kt rdS bd (nd + Maps.size Ds) (Lib.mergeD Dd Ds) ∧ w'.ownsMap P kt rdS bs ns Ds ∧ w.grownBy w' (some bd)
theorem copy_ok {P : Program} {f : FuncId} {fn : Func} {kt : TypeId} (hk : P.underlying kt = some (.int .i64)) (hf : P.funcs[f]? = some fn) (hn : (fn.name == "runtime.NumGoroutine") = false) (hb : fn.body.isNone = false) (hC : CopyC P f kt) : POk P f copyP := by
 intro args s v s' h i w args' hR hg ha
 unfold copyP at h
 split at h
 ·rename_i d r
  cases hdr : Nat.beq d r with
  | true => rw [hdr] at h; cases h
  | false =>
  rw [hdr, cond_false] at h
  have hne : d ≠ r := fun e => by subst e; rw [Nat.beq_refl] at hdr; cases hdr
  split at h
  ·rename_i ed hed
   split at h
   ·rename_i er her
    split at h
    ·rename_i kd hkd
     split at h
     ·rename_i kr hkr
      cases hall : (allS ed && allS er && Nat.ble ed.length 1000000 && Nat.ble er.length 1000000) with
      | false => rw [hall] at h; cases h
      | true =>
       rw [hall, cond_true] at h
       cases h
       simp only [Bool.and_eq_true] at hall
       obtain ⟨⟨⟨hs1, hs2⟩, hl1⟩, hl2⟩ := hall
       have hl1 := Nat.le_of_ble_eq_true hl1
       have hl2 := Nat.le_of_ble_eq_true hl2
       cases ha with | cons a1 ha =>
       cases ha with | cons a2 ha =>
       cases ha
       cases a1 with | @map _ qd hid =>
       cases a2 with | @map _ qr hir =>
       obtain ⟨_, esd, clkd, gd1, gd2, gd3, ld, gd4, gd5, gd6⟩ := ownsNat (P := P) hR hed hid hk hkd hl1
       obtain ⟨_, esr, clkr, gr1, gr2, gr3, lr, gr4, gr5, gr6⟩ := ownsNat (P := P) hR her hir hk hkr hl2
       have hqne : qd ≠ qr := fun e => hne (hR.inj d r _ _ qd 0 0 hed her rfl rfl hid (by rw [e]; exact hir))
       have gE := good_of hkd hs1
       have gR := good_of hkr hs2
       have hsz : Maps.size (.map ((esr.toList.map (WideElems.rg P kt rdS)).foldr DataW.insert []) : DataW Unit) = er.length := by
        rw [Maps.size_eq, (WideShapes.sorted_perm _).length_eq, List.length_map, gr3]
       refine .inr ⟨enter_of hf hn hb _ _, Calls.mono (hC qd qr _ _ _ _ w gd2 gr2 hqne (by rw [hsz]; unfold maxLen; omega)) (fun e w' he => ?_)⟩
       obtain ⟨rfl, ⟨es2, clk2, p1, p2, p3, p4⟩, _, hgr⟩ := he
       have permD : ((esd.toList.map (WideElems.rg P kt rdS)).foldr DataW.insert []).Perm (ed.map phi) := (WideShapes.sorted_perm _).trans (((gd4.map _).symm).trans (by rw [rg_phi hk gd5 gE]))
       have permR : ((esr.toList.map (WideElems.rg P kt rdS)).foldr DataW.insert []).Perm (er.map phi) := (WideShapes.sorted_perm _).trans (((gr4.map _).symm).trans (by rw [rg_phi hk gr5 gR]))
       obtain ⟨hkr1, hkr2⟩ := natKeys_spec hkr
       obtain ⟨hkd1, hkd2⟩ := natKeys_spec hkd
       have pwKD : ∀ {es : List (Value × Value)} {r : Nat}, s.h.get r = some (.map es) → ∀ {q t}, i r = some (q, t) → es.Pairwise (fun a b => KD a.1 b.1) := fun hes _ _ hi => by
        obtain ⟨_, _, _, _, _, _, _, g4, _⟩ := hR.at (P := P) hes rfl hi
        exact g4
       have pwR := pwKD her hir
       have pwD := pwKD hed hid
       have apart : ∀ {es : List (Value × Value)}, (∀ e ∈ es, Good e) → es.Pairwise (fun a b => KD a.1 b.1) → (es.map phi).Pairwise (fun p q => p.1.sameKey q.1 = false) := fun {es} hgood hp => by
        rw [List.pairwise_map]
        refine hp.imp_of_mem fun {a b} ha hb hab => ?_
        obtain ⟨n, s1, _, rfl⟩ := hgood a ha
        obtain ⟨m, s2, _, rfl⟩ := hgood b hb
        show (Lit.int .i64 (.ofNat n)).sameKey (.int .i64 (.ofNat m)) = false
        rw [same_nat]
        cases hb : Nat.beq n m with
        | false => rfl
        | true => have := Nat.eq_of_beq_eq_true hb; subst this; exact absurd rfl hab.2
       have symK : ∀ (p q : Lit × DataW Unit), p ∈ er.map phi → q ∈ er.map phi → p.1.sameKey q.1 = false → q.1.sameKey p.1 = false := fun p q hp hq h => by
        obtain ⟨a, ha, rfl⟩ := List.mem_map.1 hp
        obtain ⟨b, hb, rfl⟩ := List.mem_map.1 hq
        obtain ⟨n, s1, _, rfl⟩ := gR a ha
        obtain ⟨m, s2, _, rfl⟩ := gR b hb
        have h' : (Lit.int .i64 (.ofNat n)).sameKey (.int .i64 (.ofNat m)) = false := h
        show (Lit.int .i64 (.ofNat m)).sameKey (.int .i64 (.ofNat n)) = false
        rw [same_nat] at h' ⊢
        cases hb : Nat.beq m n with
        | false => rfl
        | true => have := Nat.eq_of_beq_eq_true hb; subst this; rw [Nat.beq_refl] at h'; cases h'
       have pwEs : ((esr.toList.map (WideElems.rg P kt rdS)).foldr DataW.insert []).Pairwise (fun p q => p.1.sameKey q.1 = false) := by
        have pw0 := apart gR pwR
        have both : (er.map phi).Pairwise (fun p q => p.1.sameKey q.1 = false ∧ q.1.sameKey p.1 = false) := pw0.imp_of_mem fun {p q} hp hq h => ⟨h, symK p q hp hq h⟩
        exact ((permR.pairwise_iff (fun {_ _} h => ⟨h.2, h.1⟩)).2 both).imp fun h => h.1
       obtain ⟨E', f1, f2⟩ := foldput _ ((esd.toList.map (WideElems.rg P kt rdS)).foldr DataW.insert []) pwEs
       have hmd : Lib.mergeD (.map ((esd.toList.map (WideElems.rg P kt rdS)).foldr DataW.insert [])) (.map ((esr.toList.map (WideElems.rg P kt rdS)).foldr DataW.insert [])) = (.map E' : DataW Unit) := f1
       rw [hmd] at p4
       injection p4 with p4
       have hM : (es2.toList.map (WideElems.rg P kt rdS)).Perm ((dropK kr ed ++ er).map phi) := by
        refine (WideShapes.sorted_perm (es2.toList.map (WideElems.rg P kt rdS))).symm.trans ?_
        rw [← p4]
        refine f2.trans ?_
        rw [List.map_append, dropK_phi hkr1 gE]
        have e : (fun p : Lit × DataW Unit => !anyK ((esr.toList.map (WideElems.rg P kt rdS)).foldr DataW.insert []) p.1) = fun p => !anyK (er.map phi) p.1 := by
         funext p
         unfold anyK
         rw [permR.any_eq]
        rw [e]
        exact (permD.filter _).append permR
       obtain ⟨l2, m1, m2⟩ := perm_preimage hM es2.toList rfl
       have gM : ∀ e ∈ dropK kr ed ++ er, Good e := fun e he => by
        rcases List.mem_append.1 he with he | he
        ·have : ∀ (l : List (Value × Value)), ∀ x ∈ dropK kr l, x ∈ l := fun l => by
          induction l with
          | nil => intro x hx; cases hx
          | cons y l ih =>
           intro x hx
           unfold dropK at hx
           split at hx
           ·cases hb : inN _ kr with
            | true => rw [hb] at hx; exact List.mem_cons_of_mem _ (ih x hx)
            | false =>
             rw [hb] at hx
             rcases List.mem_cons.1 hx with rfl | hx
             ·exact List.mem_cons_self ..
             ·exact List.mem_cons_of_mem _ (ih x hx)
           ·rcases List.mem_cons.1 hx with rfl | hx
            ·exact List.mem_cons_self ..
            ·exact List.mem_cons_of_mem _ (ih x hx)
         exact gE e (this ed e he)
        ·exact gR e he
       have mr : MR i (dropK kr ed ++ er) l2 := mr_of_rg hk m2 gM (fun x hx => p2.reads x (m1.mem_iff.1 hx))
       have pw2 : (dropK kr ed ++ er).Pairwise (fun a b => KD a.1 b.1) := by
        have hnd := p2.stamped.2.2
        have : (l2.map (·.key)).Nodup := (m1.map _).nodup_iff.2 hnd
        rw [mr.keys'] at this
        refine (List.pairwise_map.1 this).imp_of_mem fun {a b} ha hb hab => ?_
        obtain ⟨n, s1, _, rfl⟩ := gM a ha
        obtain ⟨m, s2, _, rfl⟩ := gM b hb
        exact ⟨rfl, fun e => hab (by show Value.int .i64 _ = Value.int .i64 _; rw [e])⟩
       obtain ⟨k1, k2⟩ := hR.mapNow (es2 := dropK kr ed ++ er) hed hid gd1 (m' := es2) (clk' := clk2) rfl m1 mr pw2 ⟨p2.stamped.1, p2.stamped.2.1⟩
       have hsame : (setB w qd (.map es2 clk2)).heap[qd]? = some (.map es2 clk2) := setB_same gd1
       have hbel : Below (setB w qd (.map es2 clk2)).heap.size (setB w qd (.map es2 clk2)) w' := by
        have hss : (setB w qd (.map es2 clk2)).heap.size = w.heap.size := setB_size _ _ _
        refine ⟨hgr.os, hgr.tape, hgr.output, by rw [hss]; exact hgr.size, fun k hk' => ?_⟩
        rw [hss] at hk'
        by_cases hkq : k = qd
        ·subst hkq
         rw [p1, hsame]
        ·rw [hgr.block k hk' (fun e => hkq (Option.some.inj e)), setB_ne hkq]
       obtain ⟨z1, z2⟩ := k1.below hbel
       exact ⟨i, .tuple .nil, z1, k2.trans z2⟩
     ·cases h
    ·cases h
   ·cases h
  ·cases h
 ·cases h
end
end Go.Ax
