/- This seat's machine for the laws: known is true wherever it is asked. -/
import Derived.Test.YtcgpmbjoobilcaaGreatDoorSeatKnown
import Derived.Test.YtcgpmbjoobilcaaGreatDoorSeatAtoi
import Derived.Test.YtcgpmbjoobilcaaGreatDoorLxC
set_option linter.unusedSimpArgs false
set_option linter.unusedVariables false
namespace Go.Proofs
open Go Go.RowKit Go.Ax Go.Lx
noncomputable section
def SEL : Env := envOf ((SPrim21.set 8 kKnown).set 155 (atoiP 6 7 463))
theorem SEL_calls (F D : Nat) : CallOk SEL.P (callA SEL F D) := envOf_calls (prim_set (E := SE21) (prim_set (E := SE21) SE21_prim kKnown_ok) Tryz.atoiOk) F D
def tabV : List Value := nbV 64 315684040783403026461198565492879320519372303033823910828724750665742568755751545437592878574175936176031276695822391845783248645128493468529036736594176
end
end Go.Proofs
namespace Go.Lx
open Go Go.Ax Go.Proofs
def Top : Asn := ⟨fun S h => S 1000, fun _ _ _ _ h => h⟩
def RoN (b : Nat) (vs : List Value) : Asn where
 p := fun S h => S b ∧ ∃ t, h.get b = some (.ro t vs.length) ∧ ∀ (k : Nat) (v : Value), vs[k]? = some v → t.get k = some v
 loc := fun S h h' e ⟨h1, t, h2, h3⟩ => ⟨h1, t, by rw [e b h1]; exact h2, h3⟩
theorem Top.nx {L P : List Asn} (h : Top ∈ P) {S : Nat → Prop} {s : AS} (hs : Sat L P S s) : 1001 ≤ s.nx := by
 obtain ⟨U, hu, hk⟩ := hs.per _ h
 exact hs.low (hk 1000 hu).2
theorem bAnd_tt {a b : Bool} (ha : a = true) (hb : b = true) : bAnd a b = true := by subst ha hb; rfl
theorem rowSub_of {c : T Value} : ∀ {l : List Value} {k : Nat}, (∀ v ∈ l, eqV v v = true) → (∀ (j : Nat) (v : Value), l[j]? = some v → c.get (k + j) = some v) → rowSub c l k = true
 | [], _, _, _ => rfl
 | x :: l, k, he, h => by
  show bAnd (@Option.rec _ (fun _ => Bool) false (eqV x) (c.gk k)) (rowSub c l (k + 1)) = true
  have h0 := h 0 x rfl
  rw [Nat.add_zero] at h0
  rw [T.gk_eq, h0]
  refine bAnd_tt (he x (List.mem_cons_self ..)) (rowSub_of (fun v hv => he v (List.mem_cons_of_mem _ hv)) (fun j v hv => ?_))
  have := h (j + 1) v (by simpa using hv)
  rw [show k + (j + 1) = k + 1 + j by omega] at this
  exact this
theorem subO_ro {c : T Value} {l : List Value} {n : Nat} (h : rowSub c l 0 = true) : subO (.ro l n) (.ro c n) = true := by
 show bAnd (Nat.beq n n) (rowSub c l 0) = true
 exact bAnd_tt (Nat.beq_refl n) h
theorem tabV_eq : tabV.all (fun v => eqV v v) = true := by decide +kernel
theorem tabV_len : tabV.length = 64 := by decide +kernel
theorem known_sp (L P : List Asn) (hT : RoN 2 tabV ∈ P) (hN : Top ∈ P) : Sp SEL 8 [] L P (fun r L' P' => r = .bool true ∧ L' = L ∧ P' = P) := by
 refine Sp.prim (p := kKnown) (by rfl) (fun S s hs => ?_)
 have hnx := Top.nx hN hs
 have hf : fitsN kkn [] s = true := by
  obtain ⟨U, ⟨_, t, hg, hv⟩, _⟩ := hs.per _ hT
  refine bAnd_tt (Nat.ble_eq_true_of_le hnx) (bAnd_tt rfl (bAnd_tt ?_ rfl))
  show @Option.rec _ (fun _ => Bool) false (subO (.ro tabV 64)) (s.h.gk 2) = true
  rw [T.gk_eq, hg, tabV_len]
  exact subO_ro (rowSub_of (fun v hv => List.all_eq_true.1 tabV_eq v hv) (fun j v hj => by rw [Nat.zero_add]; exact hv j v hj))
 have e : kKnown [] s = @Bool.rec (fun _ => R) (keptP [] (code21 8) [] s) (some (kkn.ans, kkn.leftN s)) (fitsN kkn [] s) := rfl
 rw [hf] at e
 have hl : kkn.leftN s = s := rfl
 refine ⟨.bool true, s, S, L, P, e, .refl _ _, hs, rfl, rfl, rfl⟩
end Go.Lx
