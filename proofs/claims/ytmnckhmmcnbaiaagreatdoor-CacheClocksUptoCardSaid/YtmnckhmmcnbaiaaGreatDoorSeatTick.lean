/- tick: what it answers, and what it is to the machine: its conditions are data. -/
import Derived.Test.YtmnckhmmcnbaiaaGreatDoorChecked
import Derived.WalkKit
import Derived.Lib.Walk
import Derived.Test.YtmnckhmmcnbaiaaGreatDoorAxF
import Derived.Test.YtmnckhmmcnbaiaaGreatDoorAxI
set_option linter.unusedSimpArgs false
set_option linter.unusedVariables false
namespace Go.Proofs
open Go Go.RowKit Go.Lib Go.Ax

def tickOk (v m : Int) : Bool := decide (0 ≤ v) && decide (v ≤ 100000) && decide (wrap64 (m + v) ≤ 1099511627776)

set_option maxHeartbeats 2000000 in
set_option maxRecDepth 100000 in
theorem tick_gen (qc pc : Nat) (m v : Int) (w : World) (hc : w.cell? ⟨qc, pc + 17, none⟩ = some (.int .i64 m)) (hf : w.frozen? ⟨qc, pc + 17, none⟩ = false) :
    Calls Tryz.prog 52 #[.pointer (some ⟨qc, pc, none⟩), .int .i64 v] w fun e w' => (tickOk v m = true ∧ e = .returned (.tuple #[.int .i64 (wrap64 (m + v)), .int .i64 0]) ∧ w' = w.setCell ⟨qc, pc + 17, none⟩ (.int .i64 (wrap64 (m + v)))) ∨
      (tickOk v m = false ∧ e = .returned (.tuple #[.int .i64 0, .int .i64 1]) ∧ w' = w) := by
  go_enter Tryz.func52, Tryz.ntmps52
  go_wp2
  all_goals go_ret2
  all_goals first
    | (refine .inl ⟨?_, rfl, rfl⟩; unfold tickOk; simp only [Bool.and_eq_true, decide_eq_true_eq]; omega)
    | (refine .inr ⟨?_, rfl, rfl⟩; unfold tickOk; simp only [Bool.and_eq_false_iff, decide_eq_false_iff_not]; omega)

/-- One cell of a block is written. -/
theorem upd_cell {i : Io} {s : AS} {w w' : World} {b q t n z K : Nat} {c : T Value} {cs cs' : Array Value} {e : TypeId} {fr : Nat × Nat} {x : Value} (hR : Rel i s w) (hb : s.h.get b = some (.cells c n z)) (hi : i b = some (q, t)) (h1 : w.heap[q]? = some (.cells cs e fr))
    (hk : ∀ k, k ≠ q → w'.heap[k]? = w.heap[k]?) (hsz : w'.heap.size = w.heap.size) (o1 : w'.os = w.os) (o2 : w'.tape = w.tape) (o3 : w'.output = w.output)
    (h2 : w'.heap[q]? = some (.cells cs' e fr)) (h3 : cs'.size = cs.size) (h4 : ∀ k, k ≠ t + K → cs'[k]? = cs[k]?) (h5 : cs'[t + K]? = some x) (hx : VR i x x) : Rel i (s.upd b (.cells (c.fill K [x]) n z)) w' ∧ Fr i s w i (s.upd b (.cells (c.fill K [x]) n z)) w' := by
  obtain ⟨cs0, e0, fr0, k1, k2, k3, k4, k5⟩ := hR.at (P := Tryz.prog) hb rfl hi
  rw [h1] at k1
  injection k1 with k1
  injection k1 with e1 e2 e3
  subst e1 e2 e3
  refine hR.upd hb rfl rfl hi hk hsz o1 o2 o3 (fun _ => ?_) (fun c' n' z' hz => ?_)
  · rw [h2]
    refine ⟨cs', e, fr, rfl, by rw [h3]; exact k2, by rw [h3]; exact k3, fun k v hkn hg => ?_, k5⟩
    rw [T.get_fill] at hg
    by_cases hkK : k = K
    · subst hkK
      rw [if_pos (by simp)] at hg
      simp at hg
      subst hg
      exact ⟨_, h5, hx⟩
    · rw [if_neg (by simp; omega)] at hg
      rw [h4 _ (by omega)]
      exact k4 k v hkn hg
  · cases hz
    obtain ⟨g1, g2⟩ := hR.lim b _ _ _ _ _ hb hi
    refine ⟨g1, fun cs2 e2 fr2 hw => ?_⟩
    rw [h2] at hw
    cases hw
    rw [h3]
    exact g2 cs e fr h1

noncomputable def tickN (v m : Int) : Int := bif tickOk v m then wrap64 (m + v) else 0
noncomputable def tickE (v m : Int) : Int := .ofNat (bif tickOk v m then 0 else 1)
noncomputable def tickM (v m : Int) : Int := bif tickOk v m then wrap64 (m + v) else m
noncomputable def tickP : List Value → AS → Option (Value × AS)
  | [.pointer (some ⟨b, o, none⟩), .int .i64 v], s => match s.h.get b with
    | some (.cells c n z) => bif Nat.blt (o + 17) n then (match c.get (o + 17) with
      | some (.int .i64 m) => some (.tuple ⟨[.int .i64 (tickN v m), .int .i64 (tickE v m)]⟩, s.upd b (.cells (c.fill (o + 17) [.int .i64 (tickM v m)]) n z))
      | _ => none) else none
    | _ => none
  | _, _ => none
theorem tickP_ok : POk Tryz.prog 52 tickP := by
  intro args s v s' h i w args' hR hg ha
  unfold tickP at h
  split at h
  · rename_i b o v0
    split at h
    · rename_i c n z hb
      cases hn : Nat.blt (o + 17) n with
      | false => rw [hn] at h; cases h
      | true =>
        rw [hn, cond_true] at h
        rw [Nat.blt_eq] at hn
        split at h
        · rename_i m hm
          cases h
          cases ha with | cons a1 ha =>
          cases ha with | cons a2 ha =>
          cases ha
          cases a2
          cases a1 with | @ptr _ _ q t hi =>
          obtain ⟨cs, e, fr, k1, k2, k3, k4, k5⟩ := hR.at (P := Tryz.prog) hb rfl hi
          obtain ⟨v', g1, g2⟩ := k4 (o + 17) _ hn hm
          cases g2
          have hlt : t + (o + 17) < cs.size := (Array.getElem?_eq_some_iff.1 g1).1
          have hc : w.cell? ⟨q, t + o + 17, none⟩ = some (.int .i64 m) := by
            unfold World.cell?
            rw [k1]
            simp only [Nat.add_assoc]
            exact g1
          have hf : w.frozen? ⟨q, t + o + 17, none⟩ = false := by
            unfold World.frozen?
            rw [k1]
            obtain ⟨f1, f2⟩ := fr
            simp only [Bool.and_eq_false_iff, decide_eq_false_iff_not]
            simp only at k3
            rcases k3 with k3 | k3 <;> omega
          refine .inr ⟨enter_of Tryz.func52 (by kernel_rfl) (by kernel_rfl) _ _, Calls.mono (tick_gen q (t + o) m v0 w hc hf) (fun e' w' he => ?_)⟩
          have hq : q < w.heap.size := (Array.getElem?_eq_some_iff.1 k1).1
          rcases he with ⟨hok, rfl, rfl⟩ | ⟨hok, rfl, rfl⟩
          · have e1 : tickN v0 m = wrap64 (m + v0) := by unfold tickN; rw [hok]; rfl
            have e2 : tickE v0 m = 0 := by unfold tickE; rw [hok]; rfl
            have e3 : tickM v0 m = wrap64 (m + v0) := by unfold tickM; rw [hok]; rfl
            rw [e1, e2, e3]
            have hs := setCell_eq (k := t + o + 17) (v := .int .i64 (wrap64 (m + v0))) k1
            obtain ⟨p1, p2⟩ := upd_cell (w' := w.setCell ⟨q, t + o + 17, none⟩ (.int .i64 (wrap64 (m + v0)))) (K := o + 17) (x := .int .i64 (wrap64 (m + v0))) hR hb hi k1 (fun k hk => by rw [hs]; exact setB_ne hk) (by rw [hs]; exact setB_size _ _ _) rfl rfl rfl
              (by rw [hs]; exact setB_same k1) (by simp) (fun k hk => by rw [Array.getElem?_setIfInBounds_ne (by omega)]) (by rw [Nat.add_assoc, Array.getElem?_setIfInBounds_self_of_lt hlt]) (.int _ _)
            exact ⟨i, .tuple (.cons (.int _ _) (.cons (.int _ _) .nil)), p1, p2⟩
          · have e1 : tickN v0 m = 0 := by unfold tickN; rw [hok]; rfl
            have e2 : tickE v0 m = 1 := by unfold tickE; rw [hok]; rfl
            have e3 : tickM v0 m = m := by unfold tickM; rw [hok]; rfl
            rw [e1, e2, e3]
            obtain ⟨p1, p2⟩ := upd_cell (K := o + 17) (x := .int .i64 m) hR hb hi k1 (fun k hk => rfl) rfl rfl rfl rfl k1 rfl (fun k hk => rfl) g1 (.int _ _)
            exact ⟨i, .tuple (.cons (.int _ _) (.cons (.int _ _) .nil)), p1, p2⟩
        · cases h
    · cases h
  · cases h
end Go.Proofs
