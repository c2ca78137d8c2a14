/- ShellInverse: for every text and operation of at most 1048576 values and letters, the law returns true and leaves its arguments alone; the package-level variables begin as the program's text lays them. -/
import Derived.Test.YtcgpmbjoobilcaaGreatDoorSeatRoot2
import Derived.Test.YtcgpmbjoobilcaaGreatDoorFnG
import Derived.Test.YtcgpmbjoobilcaaGreatDoorSeatFactShellInverse
import Derived.Deep.DeepHandedRow
import Derived.Deep.DeepWitnessRowRef
import Derived.ChangeMaps5
set_option linter.unusedSimpArgs false
set_option linter.unusedVariables false
namespace Go.Proofs.YtcgpmbjoobilcaaGreatDoor.fnShellInverse
open Go.ChangeShapes Go.WideShapes Go.ChangeAt Go.ChangeMaps Go.RowKit Go.Ax Go.Lx Go.Cis
set_option maxRecDepth 100000
section
open Go.Joins Go.Deep
variable {H : Type} {enc : TypeId × Value → H} {P : Program} {w : World} {base : Nat} {spare : Nat → Bool} {held : Bool}
theorem open_seven {r : Reach} {b0 : Nat} {t : TypeId} {f0 f1 f2 f3 f4 f5 f6 : Field} {v : Value} {d : DataW H} {p : List MemPlace} (hs : P.underlying t = some (.struct #[f0, f1, f2, f3, f4, f5, f6])) (hone : oneCellFields P #[f0, f1, f2, f3, f4, f5, f6] = true) (hC : P.cellsOf t = 7)
  (hv : Value.okWide P w r b0 t v) (h : DataW.Trod enc P w base spare held t v d p) :
  ∃ (v0 v1 v2 v3 v4 v5 v6 : Value) (y0 y1 y2 y3 y4 y5 y6 : DataW H × List MemPlace) (n : Nat), v = .agg #[v0, v1, v2, v3, v4, v5, v6] ∧ d = .agg [y0.1, y1.1, y2.1, y3.1, y4.1, y5.1, y6.1] ∧
   DataW.trod enc P w base spare held n f0.type [v0] = some y0 ∧ DataW.trod enc P w base spare held n f1.type [v1] = some y1 ∧ DataW.trod enc P w base spare held n f2.type [v2] = some y2 ∧ DataW.trod enc P w base spare held n f3.type [v3] = some y3 ∧ DataW.trod enc P w base spare held n f4.type [v4] = some y4 ∧ DataW.trod enc P w base spare held n f5.type [v5] = some y5 ∧ DataW.trod enc P w base spare held n f6.type [v6] = some y6 := by
 obtain ⟨cs, rfl, hsz⟩ := okWide_struct hs hv
 obtain ⟨l⟩ := cs
 match l, hsz.trans hC with
 | [c0, c1, c2, c3, c4, c5, c6], _ =>
  obtain ⟨fuel, hf⟩ := h
  obtain ⟨xs, n, _, hx, _, hlen, hg⟩ := DataW.trod_struct hs hf
  obtain ⟨o0, k0⟩ := hone_of hone 0 f0 rfl
  obtain ⟨o1, k1⟩ := hone_of hone 1 f1 rfl
  obtain ⟨o2, k2⟩ := hone_of hone 2 f2 rfl
  obtain ⟨o3, k3⟩ := hone_of hone 3 f3 rfl
  obtain ⟨o4, k4⟩ := hone_of hone 4 f4 rfl
  obtain ⟨o5, k5⟩ := hone_of hone 5 f5 rfl
  obtain ⟨o6, k6⟩ := hone_of hone 6 f6 rfl
  match xs, hlen with
  | [y0, y1, y2, y3, y4, y5, y6], _ =>
   simp only [Prod.mk.injEq] at hx
   exact ⟨c0, c1, c2, c3, c4, c5, c6, y0, y1, y2, y3, y4, y5, y6, n, rfl, by simpa using hx.1, by simpa [Value.cells, o0, k0] using hg 0 f0 rfl, by simpa [Value.cells, o1, k1] using hg 1 f1 rfl, by simpa [Value.cells, o2, k2] using hg 2 f2 rfl, by simpa [Value.cells, o3, k3] using hg 3 f3 rfl, by simpa [Value.cells, o4, k4] using hg 4 f4 rfl, by simpa [Value.cells, o5, k5] using hg 5 f5 rfl, by simpa [Value.cells, o6, k6] using hg 6 f6 rfl⟩
end
theorem u42 : ∃ f0 f1 f2 f3 f4 f5 f6 : Field, Tryz.prog.underlying 42 = some (.struct #[f0, f1, f2, f3, f4, f5, f6]) ∧ f0.type = 3 ∧ f1.type = 9 ∧ f2.type = 9 ∧ f3.type = 3 ∧ f4.type = 3 ∧ f5.type = 3 ∧ f6.type = 9 ∧ Go.Deep.oneCellFields Tryz.prog #[f0, f1, f2, f3, f4, f5, f6] = true :=
 ⟨_, _, _, _, _, _, _, Tryz.underlying42, rfl, rfl, rfl, rfl, rfl, rfl, rfl, by kernel_rfl⟩
theorem c42 : Tryz.prog.cellsOf 42 = 7 := by kernel_rfl
theorem law (W : World) (hT : LaidW2 W) (s : ByteArray) (k h o n : Int) (p t d : ByteArray) (hs : s.data.toList.length ≤ 2000000) (hx : OpOk ⟨k, p.data.toList, t.data.toList, h, o, n, d.data.toList⟩) :
  Calls Tryz.prog 6 #[.string s, .agg #[.int .i64 k, .string p, .string t, .int .i64 h, .int .i64 o, .int .i64 n, .string d]] W fun r W' => r = .returned (.bool true) ∧ Below W.heap.size W W' := by
 obtain ⟨qs, ms, P, inOk, hK, hT2, hN, start⟩ := hT.start
 have a := calls_of_sp SEL_calls (f := 6) (fn := Tryz.f6) Tryz.func6 (by kernel_rfl) (by kernel_rfl) inOk
  (args := [S s.data.toList, .agg ⟨opC ⟨k, p.data.toList, t.data.toList, h, o, n, d.data.toList⟩⟩]) (args' := [.string s, .agg #[.int .i64 k, .string p, .string t, .int .i64 h, .int .i64 o, .int .i64 n, .string d]])
  (.cons (.string _) (.cons (.agg (.cons (.int _ _) (.cons (.string _) (.cons (.string _) (.cons (.int _ _) (.cons (.int _ _) (.cons (.int _ _) (.cons (.string _) .nil)))))))) .nil))
  (P := P) start (Q := fun v => v = .bool true) (inverse_sp [] _ hT2 hN hK s.data.toList (by omega) hx)
 refine a.mono fun r W' ⟨v, v', i', hv, hr, hvr, hb⟩ => ?_
 subst hv
 cases hvr
 exact ⟨hr, hb⟩
set_option maxRecDepth 100000 in
theorem contract (H : Type) (enc : TypeId × Value → H) (W : World) (base : Nat) (args : Array Value) (ds gs : List (DataW H)) (before : List MemPlace)
  (hval : ∀ (j : Nat) t v, Tryz.f6.params[j]? = some t → args[j]? = some v → Value.okWide Tryz.prog W .any base t v)
  (hW : DataW.Whole enc Tryz.prog Tryz.f6.params.toList Rows.shellInverseSpec.vars false W args.toList ds gs before) (hk : Rows.uptoSmall H (ds ++ gs) = true)
  (hL : laidMetH Tryz.prog Rows.shellInverseUptoRow.laid W) (hsh : W.ShapedOpen Tryz.prog) :
  Calls Tryz.prog 6 args W fun e W' => ∃ v, e = .returned v ∧ Rows.shellInverseSpec.post enc Tryz.prog Tryz.f6 false true false false W args v W' := by
 have hW' := hW
 obtain ⟨p, q, hA0, hV, rfl, hfz, hnd⟩ := hW
 have hA : DataW.TrodAll enc Tryz.prog W 0 (fun _ => true) true Tryz.f6.params.toList args.toList ds p := hA0
 rw [Tryz.params6] at hA hval
 obtain ⟨v0, vs0, d0, ds0, p0, q0, hargs, rfl, rfl, h0, r0⟩ := trodAll_cons hA
 obtain ⟨v1, vs1, d1, ds1, p1, q1, rfl, rfl, rfl, h1, r1⟩ := trodAll_cons r0
 obtain ⟨rfl, rfl, rfl⟩ := trodAll_nil r1
 obtain rfl : args = #[v0, v1] := by cases args; simp_all
 obtain ⟨rfl, rfl⟩ := trodVars_none hV
 obtain ⟨s, rfl, rfl, rfl, ws⟩ := open_string Tryz.underlying9 (hval 0 9 v0 rfl rfl) h0
 obtain ⟨f0, f1, f2, f3, f4, f5, f6, hs, e0, e1, e2, e3, e4, e5, e6, hone⟩ := u42
 have hv1 := hval 1 42 v1 rfl rfl
 obtain ⟨c0, c1, c2, c3, c4, c5, c6, y0, y1, y2, y3, y4, y5, y6, m, rfl, hd, t0, t1, t2, t3, t4, t5, t6⟩ := open_seven hs hone c42 hv1 h1
 rw [e0] at t0; rw [e1] at t1; rw [e2] at t2; rw [e3] at t3; rw [e4] at t4; rw [e5] at t5; rw [e6] at t6
 obtain ⟨k, g0, rfl, wk⟩ := DataW.trod_int Tryz.underlying3 t0
 cases g0
 obtain ⟨p, g1, rfl, wp⟩ := DataW.trod_string Tryz.underlying9 t1
 cases g1
 obtain ⟨t, g2, rfl, wt⟩ := DataW.trod_string Tryz.underlying9 t2
 cases g2
 obtain ⟨h, g3, rfl, wh⟩ := DataW.trod_int Tryz.underlying3 t3
 cases g3
 obtain ⟨o, g4, rfl, wo⟩ := DataW.trod_int Tryz.underlying3 t4
 cases g4
 obtain ⟨n, g5, rfl, wn⟩ := DataW.trod_int Tryz.underlying3 t5
 cases g5
 obtain ⟨d, g6, rfl, wd⟩ := DataW.trod_string Tryz.underlying9 t6
 cases g6
 clear hA0
 simp only [List.append_nil] at hW'
 have hbulk := of_decide_eq_true hk
 simp only [List.append_nil, List.cons_append, List.nil_append, Rows.uptoBulkAll, Rows.uptoBulk, hd] at hbulk
 have hlt : ∀ x ∈ p1, x.block < W.heap.size := fun x hx => hW'.lt x (by simp [hx])
 have bh := bounds_i64 wh
 have bo := bounds_i64 wo
 have bn := bounds_i64 wn
 refine (law W (laidW2_of hL) s k h o n p t d (by omega) ⟨by show p.data.toList.length ≤ _; omega, by show t.data.toList.length ≤ _; omega, by show d.data.toList.length ≤ _; omega, by show _ ≤ h; omega, by show h ≤ _; omega, by show _ ≤ o; omega, by show o ≤ _; omega, by show _ ≤ n; omega, by show n ≤ _; omega⟩).mono fun r W' ⟨he, hb⟩ => ?_
 subst he
 exact ⟨_, rfl, _, _, _, [], _, [], hW', trodAll_mk1 (shut_bool Tryz.underlying4 _), trodAll_cons_mk (shut_string Tryz.underlying9 ws) (trodAll_cons_mk (Below.trod laidOut (by kernel_rfl) (of_decide_eq_true (by kernel_rfl)) h1 hb hlt) trodAll_mk0), rfl, hb.frame _, fun h => by cases h⟩
noncomputable def wits (os : Os) : World := World.laidAll Tryz.prog os Rows.shellInverseUptoRow.laid
def wargs : Array Value := #[.string .empty, .agg #[.int .i64 0, .string .empty, .string .empty, .int .i64 0, .int .i64 0, .int .i64 0, .string .empty]]
theorem laid_met (os : Os) : laidMet Tryz.prog Rows.shellInverseUptoRow.laid ((wits os).forCall (fun _ _ => 0) ⟨#[], wargs, []⟩).memory :=
 laidMet_laidAll wargs (by kernel_rfl) (by kernel_rfl)
theorem reads (os : Os) {H : Type} (enc : TypeId × Value → H) : ∃ places, DataW.whole enc Tryz.prog ((wits os).forCall (fun _ _ => 0) ⟨#[], wargs, []⟩).memory Tryz.f6.params.toList Rows.shellInverseSpec.vars false wargs.toList 8 = some ([.lit (.string []), .agg [.lit (.int .i64 0), .lit (.string []), .lit (.string []), .lit (.int .i64 0), .lit (.int .i64 0), .lit (.int .i64 0), .lit (.string [])]], [], places) :=
 ⟨[], by kernel_rfl⟩
set_option maxRecDepth 100000 in
theorem liftedUpto (os : Os) (started : os.Started) (H : Type) (enc : TypeId × Value → H) (F : Stop.Interp) :
  ReturnsInHanded {} Tryz.checked os 6 .any ((Rows.OpenSpec.upto Rows.shellInverseSpec).preRow enc Tryz.prog Tryz.f6 Rows.shellInverseUptoRow.domain false Rows.shellInverseUptoRow.laid) (((Rows.OpenSpec.upto Rows.shellInverseSpec).at F).post enc Tryz.prog Tryz.f6 false true false false) := by
 obtain ⟨places, hx⟩ := reads os enc
 refine returnsInHanded_of_row (C := Tryz.checked) (s := Rows.OpenSpec.upto Rows.shellInverseSpec) own started (by kernel_rfl) Tryz.func6
  (witness_row_atRef (enc := enc) (C := Tryz.checked) false (wits os) wargs (World.laidAll_os _ _ _) (by kernel_rfl) (by kernel_rfl) (by kernel_rfl)
   (OpenSpec.preRow_of_cond 8 hx (by kernel_rfl) (fun k hk => by cases hk; kernel_rfl) (by kernel_rfl) (by rw [MakeChecks.laidMetH_plain _ _ _ (by kernel_rfl)]; exact laid_met os))) ?_
 intro W base args ds gs before hval hW _ hk _ hL hsh _
 exact contract H enc W base args ds gs before hval hW (hk _ rfl) hL hsh
theorem and2 {a b : Bool} (h : a = true) (g : b = true) : (a && b) = true := by rw [h, g]; rfl
set_option maxRecDepth 100000 in
theorem closed : joinedFacts Tryz.prog 6 Tryz.f6 (Rows.OpenSpec.upto Rows.shellInverseSpec).bare Rows.shellInverseUptoRow = true :=
 (and2 (and2 (and2 (and2 (and2 (and2 (and2 (and2 (and2 (and2 (and2 (and2 (and2 (and2 (and2 (and2 (and2 (and2 (and2 (and2 (and2 (and2 (and2 (and2 (and2 (and2 (and2 (and2 (and2 (and2 (and2 k0 k1) k2) k3) k4) k5) k6) k7) k8) k9) k10) k11) k12) k13) k14) k15) k16) k17) k18) k19) k20) k21) k22) k23) k24) k25) k26) k27) k28) k29) k30) k31)
theorem saidUpto : Rows.ShellInverseUptoSaid :=
 OpenClaim.holds_of_cond 6 Tryz.f6 rfl rfl rfl rfl rfl rfl rfl ⟨rfl, rfl, rfl, rfl, rfl⟩ rfl rfl rfl rfl rfl (by kernel_rfl) Tryz.func6 closed
  (of_decide_eq_true (by kernel_rfl)) (by unfold Func.isWrapper; first | (rw [if_pos (by decide +kernel)]; kernel_rfl) | (rw [if_neg (by decide +kernel)]; exact ⟨rfl, rfl⟩))
  (fun os started H enc _ F => by rw [OpenClaim.pre_eq_preRow]; exact liftedUpto os started H enc F)
end Go.Proofs.YtcgpmbjoobilcaaGreatDoor.fnShellInverse
