/- What the statements of chapter 21 ask first (known) is true: the machine runs it in the kernel, six calls of it kept. It is then a kept call itself, good wherever it is asked. -/
import Derived.Test.YtcgpmbjoobilcaaGreatDoorSeatKnA
import Derived.Test.YtcgpmbjoobilcaaGreatDoorSeatKnB
import Derived.Test.YtcgpmbjoobilcaaGreatDoorSeatKnC
import Derived.Test.YtcgpmbjoobilcaaGreatDoorSeatKnD
import Derived.Test.YtcgpmbjoobilcaaGreatDoorSeatJoin
import Derived.Test.YtcgpmbjoobilcaaGreatDoorAxH
set_option linter.unusedSimpArgs false
set_option linter.unusedVariables false
namespace Go.Proofs
open Go Go.RowKit Go.Ax
noncomputable section
def code21 (f : FuncId) (args : List Value) (s : AS) : R := callq SE21 100000 200 f args s pairK
theorem code21_ok (f : FuncId) : POk Tryz.prog f (code21 f) := by
 intro args s v s' h i w args' hR hG hv
 exact SE21_calls 100000 200 f args s v s' (callA_of_q h) i w args' hR hG hv
def kNew : List Value → AS → R := memoP [k211] (code21 28)
def kDo : List Value → AS → R := memoP [k212, k213, k214, k215, k216] (code21 29)
theorem kNew_ok : POk Tryz.prog 28 kNew := memoP_ok (SE21_calls 100000 200) (code21_ok 28) _ (fun m hm => by
 simp only [List.mem_cons, List.mem_nil_iff, or_false] at hm
 subst hm
 exact k211_ok)
theorem kDo_ok : POk Tryz.prog 29 kDo := memoP_ok (SE21_calls 100000 200) (code21_ok 29) _ (fun m hm => by
 simp only [List.mem_cons, List.mem_nil_iff, or_false] at hm
 rcases hm with rfl | rfl | rfl | rfl | rfl
 ·exact k212_ok
 ·exact k213_ok
 ·exact k214_ok
 ·exact k215_ok
 ·exact k216_ok)
theorem prim_set {E : Env} {t : T (List Value → AS → Option (Value × AS))} (hE : ∀ f p, t.get f = some p → POk Tryz.prog f p) {g : FuncId} {q : List Value → AS → Option (Value × AS)} (hq : POk Tryz.prog g q) : ∀ f p, (t.set g q).get f = some p → POk Tryz.prog f p := by
 intro f p hp
 rw [T.get_set] at hp
 split at hp
 ·rename_i h; subst h; cases hp; exact hq
 ·exact hE f p hp
def envOf (t : T (List Value → AS → Option (Value × AS))) : Env := { P := Tryz.prog, ty := Tryz.tyTab, fn := Tryz.fnTab, prim := t, back := fun g => Nat.beq g 212 }
theorem envOf_ty (t) : TyOk (envOf t) := tyOk_tab Tryz.tyTab_eq
theorem envOf_fn (t) : FnOk (envOf t) := fnOk_tab Tryz.fnTab_eq
theorem envOf_back (t) : BackOk (envOf t) := fun g hg => SE_back g hg
theorem envOf_calls {t} (h : ∀ f p, t.get f = some p → POk Tryz.prog f p) (F D : Nat) : CallOk Tryz.prog (callA (envOf t) F D) := callA_sound (E := envOf t) (by kernel_rfl) (envOf_ty t) (envOf_back t) (envOf_fn t) h F D
def SPrimK : T (List Value → AS → Option (Value × AS)) := (SPrim21.set 28 kNew).set 29 kDo
theorem SPrimK_ok : ∀ f p, SPrimK.get f = some p → POk Tryz.prog f p := prim_set (E := SE21) (prim_set (E := SE21) SE21_prim kNew_ok) kDo_ok
def SEK : Env := envOf SPrimK
def kkn : MS := { args := [], nx := 1001, pre := [(2, .ro (nbV 64 315684040783403026461198565492879320519372303033823910828724750665742568755751545437592878574175936176031276695822391845783248645128493468529036736594176) 64)], ans := .bool true, nx' := 11688, post := [] }
theorem kkn_ran : ranB kkn (callq SEK 100000 200 8 kkn.args kkn.memo.st pairK) = true := by decide +kernel
theorem kkn_ok : kkn.memo.Ok (callA SEK 100000 200) 8 := ms_ok kkn_ran (by decide +kernel)
def kKnown : List Value → AS → R := keptP [kkn] (code21 8)
theorem kKnown_ok : POk Tryz.prog 8 kKnown := keptP_ok (envOf_calls SPrimK_ok 100000 200) (code21_ok 8) _ (fun m hm => by
 simp only [List.mem_cons, List.mem_nil_iff, or_false] at hm
 subst hm
 exact ⟨kkn_ok, by decide +kernel⟩)
end
end Go.Proofs
