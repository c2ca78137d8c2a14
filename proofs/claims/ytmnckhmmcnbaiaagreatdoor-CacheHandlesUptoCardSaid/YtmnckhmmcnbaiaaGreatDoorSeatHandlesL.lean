/- Handles: whatever list comes in, the law returns true. -/
import Derived.Test.YtmnckhmmcnbaiaaGreatDoorSeatHandles
set_option linter.unusedSimpArgs false
set_option linter.unusedVariables false
namespace Go.Proofs
open Go Go.RowKit Go.Ax

theorem handTl_nu {p : Inp} (hp : p.Ok) : ∀ k v, (k, v) ∈ handTl p → v ≠ undef := by
  intro k v h
  unfold handTl at h
  simp only [List.mem_cons, List.mem_nil_iff, or_false, Prod.mk.injEq] at h
  rcases h with ⟨_, rfl⟩ | ⟨_, rfl⟩
  · exact inp_nu hp
  all_goals exact fun e => by cases e
theorem handTl_vl {p : Inp} (hp : p.Ok) : ∀ k v, (k, v) ∈ handTl p → vl 6378 v = true := by
  intro k v h
  unfold handTl at h
  simp only [List.mem_cons, List.mem_nil_iff, or_false, Prod.mk.injEq] at h
  rcases h with ⟨_, rfl⟩ | ⟨_, rfl⟩
  · exact hp.vl (by omega)
  all_goals rfl
theorem handPre_ok : preL 6378 handPre = true := by decide +kernel

theorem hand_law {w0 : World} {p : Inp} (hp : p.Ok) {i0 : Io} (hs : Started i0 p 0 tabV w0) {sv' : Value} (hv : VR i0 p.sv sv') :
    Calls Tryz.prog 3 ⟨[sv']⟩ w0 fun e w' => e = .returned (.bool true) ∧ Below w0.heap.size w0 w' := by
  have hT : TyOk SEH := envOf_ty _
  have hB : BackOk SEH := envOf_back _
  refine law_calls (P := SEH.P) (f := 3) (fn := Tryz.f3) (r := 2) Tryz.func3 handC_eq (by kernel_rfl) (args := [p.sv]) hs.rel hs.gl hs.up (.cons hv (.nil)) (by rw [show Tryz.f3.ntmps = 173 by kernel_rfl]; simp) (fun Q a hret hc => ?_)
  have hN : Nat.pred Tryz.f3.ntmps = 172 := by kernel_rfl
  rw [hN] at hret hc
  have h0 : ∀ b x, i0 b = some x → b < 6378 := fun b x h => by have := hs.lt b x h; omega
  obtain ⟨tm1, s1, e1, n1, b1, t1⟩ := out_spec (hand_a p) (handTl_nu hp)
  refine hc.pre2 (E := SEH) hT hB SEH_calls SEH_draw 8 100000 handC (by kernel_rfl) e1 (by kernel_rfl) (fun a1 w1 hk1 hc1 => ?_)
  have hc2 := hc1.weakI (p := p) (pre := handPre) (nx := 6378) (tl := handTl p) h0 (by omega) handPre_ok (handTl_vl hp) ((Inp.In.stL p _ _).keep hs.inp hk1) b1 t1
  rw [handD_eq]
  refine wp_seq (wp_seq ?_)
  obtain ⟨tm3, s3, e3, n3, b3, t3⟩ := out_spec (hand_b p) (cons_nu (handTl_nu hp) 8 0)
  refine hc2.code2 hT hB SEH_calls SEH_draw e3 (by kernel_rfl) (fun a3 w3 hk3 hc3 => ?_)
  have hc4 := hc3.weakI (p := p) (pre := handPre) (nx := 6378) (tl := (8, iv 0) :: handTl p) h0 (by omega) handPre_ok (cons_vl (handTl_vl hp) 8 0) ((Inp.In.stL p _ _).keep hs.inp hk3) b3 t3
  refine wp_block ?_
  rw [handB_eq]
  refine loop_pick hT hB SEH_calls SEH_draw handH1 handH2 handH3 (tl := handTl p) hp ⟨by decide, by decide, by decide⟩ (by omega) (by omega) (by omega) ?_ (by decide) (show ([8, 0, 3] : List Nat).Nodup by decide) (by unfold handTl; simp)
    (iT := ⟨.slice 3, 1, zeroL Tryz.t22, Tryz.t22.bytes⟩) (by kernel_rfl) rfl (by kernel_rfl) (ie := ⟨.int .i64, 1, zeroL Tryz.t3, 8⟩) rfl (by kernel_rfl) (i3 := ⟨.int .i64, 1, zeroL Tryz.t3, 8⟩) rfl (by kernel_rfl) (i6 := ⟨.int .u64, 1, zeroL Tryz.t46, 8⟩) rfl (by kernel_rfl) (it := ⟨.slice 3, 1, zeroL Tryz.t22, Tryz.t22.bytes⟩) rfl
    handPre_ok (by omega) h0 hs.inp (handTl_vl hp) (fun r hr i => ?_) (by kernel_rfl) hc4 (fun i a' w' hc5 => ?_)
  · intro k v h
    unfold handTl at h
    simp only [List.mem_cons, List.mem_nil_iff, or_false, Prod.mk.injEq] at h
    rcases h with ⟨rfl, _⟩ | ⟨rfl, _⟩ <;> decide
  · obtain ⟨tm', s', e', n', b', t'⟩ := out_spec (hand_y p i r hr) (cons_nu (handTl_nu hp) 8 i)
    exact ⟨tm', s', e', n', b', t'⟩
  · obtain ⟨tm6, s6, e6, n6, b6, t6⟩ := out_spec (hand_z p i) (fun k v h => by
      cases List.mem_singleton.1 h
      exact fun e => by cases e)
    refine hc5.code2 hT hB SEH_calls SEH_draw e6 (by kernel_rfl) (fun a7 w7 _ hc7 => ?_)
    exact hret tm6 s6 a7 w7 hc7 (t6 2 _ (by simp))
end Go.Proofs
