/- Functions that are known by what they come to. -/
import Derived.Test.YtmfdkldjinlmnaaGreatDoorAxTop
set_option linter.unusedVariables false
set_option linter.unusedSimpArgs false
namespace Go.Ax
open Go

/-- Of a contract that leaves the world as it was. -/
theorem FSim.same {P : Program} {f : FuncId} {fn : Func} (hf : P.funcs[f]? = some fn) (hn : (fn.name == "runtime.NumGoroutine") = false) (hb : fn.body.isNone = false) {args' : List Value} {i : Io} {s : AS} {w : World} {v v' : Value}
    (hR : Rel i s w) (hc : Calls P f ⟨args'⟩ w fun e w' => e = .returned v' ∧ w' = w) (hv : VR i v v') : FSim P f args' i s w v s := by
  have hn' : fn.name ≠ "runtime.NumGoroutine" := by simpa using hn
  have hb' : fn.body ≠ none := fun e => by rw [e] at hb; cases hb
  refine .inr ⟨?_, Calls.mono hc (fun e w' he => ?_)⟩
  · unfold callFunc
    simp [hf, hn', hb']
  · obtain ⟨rfl, rfl⟩ := he
    exact ⟨i, hv, hR, .refl _ _ _⟩

/-- The bytes that a row of the machine holds, as the world has them. -/
theorem Rel.bytes {i : Io} {s : AS} {w : World} (hR : Rel i s w) {b o n q t : Nat} {l : List Value} {bs : List UInt8} (hr : Go.Ax.rdN s b o n = some l) (hi : i b = some (q, t)) (hl : l = bs.map fun c => Value.int .u8 c.toNat) :
    bs.length = n ∧ ∀ k (h : k < bs.length), w.cell? ⟨q, t + o + k, none⟩ = some (.int .u8 (bs[k].toNat : Nat)) := by
  obtain ⟨l', _, h2, h3⟩ := hR.rdN (P := default) hr hi
  have hn : bs.length = n := by rw [← h3, hl, List.length_map]
  refine ⟨hn, fun k hk => ?_⟩
  have hrd : Go.Ax.rd s b (o + k) = some (.int .u8 (bs[k].toNat : Nat)) := by
    unfold Go.Ax.rdN at hr
    unfold Go.Ax.rd
    have key : ∀ (c : T Value) (m : Nat), (bif Nat.ble (o + n) m then c.list n o else none) = some l → (bif Nat.blt (o + k) m then c.get (o + k) else none) = some (.int .u8 (bs[k].toNat : Nat)) := by
      intro c m hc
      cases hb : Nat.ble (o + n) m with
      | false => rw [hb] at hc; cases hc
      | true =>
        rw [hb, cond_true] at hc
        have hle : o + n ≤ m := by simpa using hb
        have hlt : Nat.blt (o + k) m = true := by rw [Nat.blt_eq]; omega
        rw [hlt, cond_true, (T.list_some c n o l hc).2 k (by omega), hl]
        simp [hk]
    split at hr
    · rename_i c m z hg
      exact key c m hr
    · rename_i c m hg
      exact key c m hr
    · cases hr
  obtain ⟨v', g1, g2⟩ := hR.rd hrd hi
  cases g2
  rw [Nat.add_assoc]
  exact g1

end Go.Ax
