/- The machine of CacheHandles: looking up the file is kept. -/
import Derived.Test.YtmnckhmmcnbaiaaGreatDoorSeatBegin
import Derived.Test.YtmnckhmmcnbaiaaGreatDoorSeatKhA
set_option linter.unusedSimpArgs false
set_option linter.unusedVariables false
namespace Go.Proofs
open Go Go.RowKit Go.Ax
noncomputable section
def kLookH : List Value → AS → R := keptP [kh6] (code20 82)
theorem kLookH_ok : POk Tryz.prog 82 kLookH := keptP_ok (SE20_calls 100000 200) (code20_ok 82) _ (fun m hm => by
  simp only [List.mem_cons, List.mem_nil_iff, or_false] at hm
  subst hm
  exact ⟨kh6_ok, by decide +kernel⟩)
def kInfoH : List Value → AS → R := keptP [kh8] (code20 83)
theorem kInfoH_ok : POk Tryz.prog 83 kInfoH := keptP_ok (SE20_calls 100000 200) (code20_ok 83) _ (fun m hm => by
  simp only [List.mem_cons, List.mem_nil_iff, or_false] at hm
  subst hm
  exact ⟨kh8_ok, by decide +kernel⟩)
def SPrimH1 : T (List Value → AS → Option (Value × AS)) := (SPrim20.set 82 kLookH).set 83 kInfoH
theorem SPrimH1_ok : ∀ f p, SPrimH1.get f = some p → POk Tryz.prog f p := prim_set (E := SE20) (prim_set (E := SE20) SE20_prim kLookH_ok) kInfoH_ok
def SEH1 : Env := envOf SPrimH1
theorem SEH1_calls : CallOk Tryz.prog (callA SEH1 100000 200) := envOf_calls SPrimH1_ok 100000 200
theorem SEH1_draw : DrawOk SEH1 (callA SEH1 100000 200) := drawOk (E := SEH1) (by kernel_rfl) (envOf_ty _) SEH1_calls
def codeH (f : FuncId) (args : List Value) (s : AS) : R := callq SEH1 100000 200 f args s pairK
theorem codeH_ok (f : FuncId) : POk Tryz.prog f (codeH f) := by
  intro args s v s' h i w args' hR hG hv
  exact SEH1_calls f args s v s' (callA_of_q h) i w args' hR hG hv
def kDoH0 : List Value → AS → R := memoP [kn2] (codeH 11)
theorem kDoH0_ok : POk Tryz.prog 11 kDoH0 := memoP_ok (SE20_calls 100000 200) (codeH_ok 11) _ (fun m hm => by
  simp only [List.mem_cons, List.mem_nil_iff, or_false] at hm
  subst hm
  exact kn2_ok)
end
end Go.Proofs
