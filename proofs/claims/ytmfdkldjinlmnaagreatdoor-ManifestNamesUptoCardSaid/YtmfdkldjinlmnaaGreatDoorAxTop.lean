/- The abstract machine's start: the program's variables that are laid are there to be read, nothing else; and what a call from there leaves alone. -/
import Derived.Test.YtmfdkldjinlmnaaGreatDoorAxTab
import Derived.Below
set_option linter.unusedVariables false
set_option linter.unusedSimpArgs false
namespace Go.Ax
open Go Go.RowKit

def io0 : Io := ⟨fun b => if b < 1000 then some (b, 0) else none, fun _ => (0, 0)⟩

theorem io0_gl : Gl io0 := fun g hg => if_pos hg

theorem Rel.start {h : T AObj} {w : World} (hro : ∀ b o, h.get b = some o → b < 1000 ∧ b < w.heap.size ∧ (∃ c n, o = .ro c n) ∧ OR io0 o w.heap[b]? 0) : Rel io0 ⟨h, 1000⟩ w := by
  refine ⟨fun b o hb _ => ?_, fun b b' o o' q t t' hb hb' _ _ e e' => ?_, fun b hb => ?_, fun b c n z q t hb _ => ?_, fun b q t e hb => ?_⟩
  · obtain ⟨h1, h2, h3, h4⟩ := hro b o hb
    exact ⟨b, 0, if_pos h1, h4⟩
  · have h1 : io0 b = some (b, 0) := if_pos (hro b o hb).1
    have h2 : io0 b' = some (b', 0) := if_pos (hro b' o' hb').1
    rw [h1] at e
    rw [h2] at e'
    cases e
    cases e'
    rfl
  · have hb' : 1000 ≤ b := hb
    refine ⟨if_neg (by omega), ?_⟩
    cases hg : h.get b with
    | none => rfl
    | some o => have := (hro b o hg).1; omega
  · obtain ⟨_, _, ⟨c', n', h3⟩, _⟩ := hro b _ hb
    cases h3
  · have hlt : b < 1000 := by
      rcases Nat.lt_or_ge b 1000 with h | h
      · exact h
      · have : io0 b = none := if_neg (by omega)
        rw [this] at e; cases e
    have h1 : io0 b = some (b, 0) := if_pos hlt
    rw [h1] at e
    cases e
    rcases hb with hb | hb
    · cases hg : h.get b with
      | none => exact absurd hg hb
      | some o => exact (hro b o hg).2.1
    · omega

theorem below_start {h : T AObj} {w : World} (hro : ∀ b o, h.get b = some o → ∃ c n, o = .ro c n) {i' : Io} {s' : AS} {w' : World} (hf : Fr io0 ⟨h, 1000⟩ w i' s' w') : Below w.heap.size w w' := by
  refine ⟨hf.os, hf.tape, hf.output, hf.size, fun k hk => hf.keep k hk (fun b t _ => ?_)⟩
  unfold obA
  cases hg : h.get b with
  | none => rfl
  | some o =>
    obtain ⟨c, n, rfl⟩ := hro b o hg
    rfl

/-- A call that the machine answers, of a function with a body. -/
theorem calls_of_machine {P : Program} {call : CallF} (hC : CallOk P call) {f : FuncId} {fn : Func} (hf : P.funcs[f]? = some fn) (hn : (fn.name == "runtime.NumGoroutine") = false) (hb : fn.body.isNone = false) {args args' : List Value} {h : T AObj} {v : Value} {s' : AS}
    (hrun : call f args ⟨h, 1000⟩ = some (v, s')) {w : World} (hro : ∀ b o, h.get b = some o → b < 1000 ∧ b < w.heap.size ∧ (∃ c n, o = .ro c n) ∧ OR io0 o w.heap[b]? 0) (ha : VRs io0 args args') :
    Calls P f ⟨args'⟩ w fun e w' => ∃ v' i', e = .returned v' ∧ VR i' v v' ∧ Below w.heap.size w w' := by
  have hF := hC f args _ v s' hrun io0 w args' (Rel.start hro) io0_gl ha
  have hn' : fn.name ≠ "runtime.NumGoroutine" := by simpa using hn
  have hcall : (callFunc f ⟨args'⟩).run P w = .ok (.enter f ⟨args'⟩) w := by
    unfold callFunc
    have hb' : fn.body ≠ none := fun e => by rw [e] at hb; cases hb
    simp [hf, hn', hb']
  rcases hF with ⟨v', w', i', h1, _⟩ | ⟨_, h2⟩
  · rw [hcall] at h1; cases h1
  · refine Calls.mono h2 (fun e w' he => ?_)
    cases e with
    | returned v' =>
      obtain ⟨i', g1, g2, g3⟩ := he
      exact ⟨v', i', rfl, g1, below_start (fun b o hb => (hro b o hb).2.2.1) g3⟩
    | panicked c => exact he.elim
    | outgrown => exact he.elim

end Go.Ax
