/- Down: whatever list comes in, the law returns true. -/
import Derived.Test.YtmnckhmmcnbaiaaGreatDoorSeatDown
set_option linter.unusedSimpArgs false
set_option linter.unusedVariables false
namespace Go.Proofs
open Go Go.RowKit Go.Ax

theorem downTl_nu {p : Inp} (hp : p.Ok) {n : Int} : ∀ k v, (k, v) ∈ downTl p n → v ≠ undef := by
  intro k v h
  unfold downTl at h
  simp only [List.mem_cons, List.mem_nil_iff, or_false, Prod.mk.injEq] at h
  rcases h with ⟨_, rfl⟩ | ⟨_, rfl⟩ | ⟨_, rfl⟩ | ⟨_, rfl⟩ | ⟨_, rfl⟩
  · exact inp_nu hp
  all_goals exact fun e => by cases e
theorem downTl_vl {p : Inp} (hp : p.Ok) {n : Int} : ∀ k v, (k, v) ∈ downTl p n → vl 7493 v = true := by
  intro k v h
  unfold downTl at h
  simp only [List.mem_cons, List.mem_nil_iff, or_false, Prod.mk.injEq] at h
  rcases h with ⟨_, rfl⟩ | ⟨_, rfl⟩ | ⟨_, rfl⟩ | ⟨_, rfl⟩ | ⟨_, rfl⟩
  · exact hp.vl (by omega)
  all_goals rfl
theorem downPre_ok : preL 7493 downPre = true := by decide +kernel

theorem down_law {w0 : World} {p : Inp} (hp : p.Ok) (n : Int) {i0 : Io} (hs : Started i0 p 0 tabV w0) {sv' : Value} (hv : VR i0 p.sv sv') :
    Calls Tryz.prog 6 ⟨[sv', .int .i64 n]⟩ w0 fun e w' => e = .returned (.bool true) ∧ Below w0.heap.size w0 w' := by
  have hT : TyOk SED := envOf_ty _
  have hB : BackOk SED := envOf_back _
  refine law_calls (P := SED.P) (f := 6) (fn := Tryz.f6) (r := 4) Tryz.func6 downC_eq (by kernel_rfl) (args := [p.sv, .int .i64 n]) hs.rel hs.gl hs.up (.cons hv (.cons (.int _ _) .nil)) (by rw [show Tryz.f6.ntmps = 134 by kernel_rfl]; simp) (fun Q a hret hc => ?_)
  have hN : Nat.pred Tryz.f6.ntmps = 133 := by kernel_rfl
  rw [hN] at hret hc
  have h0 : ∀ b x, i0 b = some x → b < 7493 := fun b x h => by have := hs.lt b x h; omega
  obtain ⟨tm1, s1, e1, n1, b1, t1⟩ := out_spec (down_a p n) (downTl_nu hp)
  refine hc.pre2 (E := SED) hT hB SED_calls SED_draw 8 100000 downC (by kernel_rfl) e1 (by kernel_rfl) (fun a1 w1 hk1 hc1 => ?_)
  have hc2 := hc1.weakI (p := p) (pre := downPre) (nx := 7493) (tl := downTl p n) h0 (by omega) downPre_ok (downTl_vl hp) ((Inp.In.stL p _ _).keep hs.inp hk1) b1 t1
  rw [downD_eq]
  refine wp_seq (wp_seq ?_)
  obtain ⟨tm3, s3, e3, n3, b3, t3⟩ := out_spec (down_b p n) (cons_nu (downTl_nu hp) 9 0)
  refine hc2.code2 hT hB SED_calls SED_draw e3 (by kernel_rfl) (fun a3 w3 hk3 hc3 => ?_)
  have hc4 := hc3.weakI (p := p) (pre := downPre) (nx := 7493) (tl := (9, iv 0) :: downTl p n) h0 (by omega) downPre_ok (cons_vl (downTl_vl hp) 9 0) ((Inp.In.stL p _ _).keep hs.inp hk3) b3 t3
  refine wp_block ?_
  rw [downB_eq]
  refine loop_pick hT hB SED_calls SED_draw downH1 downH2 downH3 (tl := downTl p n) hp ⟨by decide, by decide, by decide⟩ (by omega) (by omega) (by omega) ?_ (by decide) (show ([9, 0, 1, 5, 7, 8] : List Nat).Nodup by decide) (by unfold downTl; simp)
    (iT := ⟨.slice 3, 1, zeroL Tryz.t22, Tryz.t22.bytes⟩) (by kernel_rfl) rfl (by kernel_rfl) (ie := ⟨.int .i64, 1, zeroL Tryz.t3, 8⟩) rfl (by kernel_rfl) (i3 := ⟨.int .i64, 1, zeroL Tryz.t3, 8⟩) rfl (by kernel_rfl) (i6 := ⟨.int .u64, 1, zeroL Tryz.t46, 8⟩) rfl (by kernel_rfl) (it := ⟨.slice 3, 1, zeroL Tryz.t22, Tryz.t22.bytes⟩) rfl
    downPre_ok (by omega) h0 hs.inp (downTl_vl hp) (fun r hr i => ?_) (by kernel_rfl) hc4 (fun i a' w' hc5 => ?_)
  · intro k v h
    unfold downTl at h
    simp only [List.mem_cons, List.mem_nil_iff, or_false, Prod.mk.injEq] at h
    rcases h with ⟨rfl, _⟩ | ⟨rfl, _⟩ | ⟨rfl, _⟩ | ⟨rfl, _⟩ | ⟨rfl, _⟩ <;> decide
  · obtain ⟨tm', s', e', n', b', t'⟩ := out_spec (down_y p n i r hr) (cons_nu (downTl_nu hp) 9 i)
    exact ⟨tm', s', e', n', b', t'⟩
  · obtain ⟨tm6, s6, e6, n6, b6, t6⟩ := out_spec (down_z p n i) (fun k v h => by
      cases List.mem_singleton.1 h
      exact fun e => by cases e)
    refine hc5.code2 hT hB SED_calls SED_draw e6 (by kernel_rfl) (fun a7 w7 _ hc7 => ?_)
    exact hret tm6 s6 a7 w7 hc7 (t6 4 _ (by simp))
end Go.Proofs
