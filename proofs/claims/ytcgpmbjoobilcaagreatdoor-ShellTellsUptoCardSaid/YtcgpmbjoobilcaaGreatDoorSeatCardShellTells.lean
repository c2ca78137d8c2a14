/- ShellTells: for every kind and reply that together hold at most 1048576 values and letters, the law returns true and leaves its arguments alone; the package-level variables begin as the program's text lays them. -/
import Derived.Test.YtcgpmbjoobilcaaGreatDoorSeatRoot
import Derived.Test.YtcgpmbjoobilcaaGreatDoorSeatFactShellTells
import Derived.Deep.DeepHandedRow
import Derived.Deep.DeepWitnessRowRef
set_option linter.unusedSimpArgs false
set_option linter.unusedVariables false
namespace Go.Proofs.YtcgpmbjoobilcaaGreatDoor.fnShellTells
open Go.ChangeShapes Go.WideShapes Go.ChangeAt Go.ChangeMaps Go.RowKit Go.Ax Go.Lx Go.Cis
set_option maxRecDepth 100000
section
open Go.Joins Go.Deep
variable {H : Type} {enc : TypeId × Value → H} {P : Program} {w : World} {base : Nat} {spare : Nat → Bool} {held : Bool}
theorem open_five {r : Reach} {b0 : Nat} {t : TypeId} {f0 f1 f2 f3 f4 : Field} {v : Value} {d : DataW H} {p : List MemPlace} (hs : P.underlying t = some (.struct #[f0, f1, f2, f3, f4])) (hone : oneCellFields P #[f0, f1, f2, f3, f4] = true) (hC : P.cellsOf t = 5)
    (hv : Value.okWide P w r b0 t v) (h : DataW.Trod enc P w base spare held t v d p) :
    ∃ (v0 v1 v2 v3 v4 : Value) (y0 y1 y2 y3 y4 : DataW H × List MemPlace) (n : Nat), v = .agg #[v0, v1, v2, v3, v4] ∧ d = .agg [y0.1, y1.1, y2.1, y3.1, y4.1] ∧ p = y0.2 ++ (y1.2 ++ (y2.2 ++ (y3.2 ++ y4.2))) ∧
      DataW.trod enc P w base spare held n f0.type [v0] = some y0 ∧ DataW.trod enc P w base spare held n f1.type [v1] = some y1 ∧ DataW.trod enc P w base spare held n f2.type [v2] = some y2 ∧ DataW.trod enc P w base spare held n f3.type [v3] = some y3 ∧ DataW.trod enc P w base spare held n f4.type [v4] = some y4 := by
  obtain ⟨cs, rfl, hsz⟩ := okWide_struct hs hv
  obtain ⟨l⟩ := cs
  match l, hsz.trans hC with
  | [c0, c1, c2, c3, c4], _ =>
    obtain ⟨fuel, hf⟩ := h
    obtain ⟨xs, n, _, hx, _, hlen, hg⟩ := DataW.trod_struct hs hf
    obtain ⟨o0, k0⟩ := hone_of hone 0 f0 rfl
    obtain ⟨o1, k1⟩ := hone_of hone 1 f1 rfl
    obtain ⟨o2, k2⟩ := hone_of hone 2 f2 rfl
    obtain ⟨o3, k3⟩ := hone_of hone 3 f3 rfl
    obtain ⟨o4, k4⟩ := hone_of hone 4 f4 rfl
    match xs, hlen with
    | [y0, y1, y2, y3, y4], _ =>
      simp only [Prod.mk.injEq] at hx
      exact ⟨c0, c1, c2, c3, c4, y0, y1, y2, y3, y4, n, rfl, by simpa using hx.1, by simpa using hx.2, by simpa [Value.cells, o0, k0] using hg 0 f0 rfl, by simpa [Value.cells, o1, k1] using hg 1 f1 rfl, by simpa [Value.cells, o2, k2] using hg 2 f2 rfl, by simpa [Value.cells, o3, k3] using hg 3 f3 rfl, by simpa [Value.cells, o4, k4] using hg 4 f4 rfl⟩
end
theorem u26 : ∃ f0 f1 f2 f3 f4 : Field, Tryz.prog.underlying 26 = some (.struct #[f0, f1, f2, f3, f4]) ∧ f0.type = 22 ∧ f1.type = 3 ∧ f2.type = 9 ∧ f3.type = 23 ∧ f4.type = 24 ∧ Go.Deep.oneCellFields Tryz.prog #[f0, f1, f2, f3, f4] = true :=
  ⟨_, _, _, _, _, Tryz.underlying26, rfl, rfl, rfl, rfl, rfl, by kernel_rfl⟩
theorem c26 : Tryz.prog.cellsOf 26 = 5 := by kernel_rfl
/-- Texts that came in, in all no more than so many letters. -/
def sumL : List Bs → Nat
  | [] => 0
  | x :: l => x.length + 1 + sumL l
theorem bulk_strs {H : Type} : ∀ l : List Bs, Rows.uptoBulkAll (H := H) (l.map fun x => .lit (.string x)) = sumL l
  | [] => rfl
  | x :: l => by
    show Rows.uptoBulk (H := H) (.lit (.string x)) + Rows.uptoBulkAll (l.map fun x => .lit (.string x)) = _
    rw [bulk_strs l]
    rfl
theorem bulk_ints {H : Type} (k : IntKind) : ∀ l : List Int, Rows.uptoBulkAll (H := H) (l.map fun x => .lit (.int k x)) = l.length
  | [] => rfl
  | x :: l => by
    show Rows.uptoBulk (H := H) (.lit (.int k x)) + Rows.uptoBulkAll (l.map fun x => .lit (.int k x)) = _
    rw [bulk_ints k l]
    show 1 + l.length = l.length + 1
    omega
theorem lens_sumL : ∀ l : List Bs, Lib.lens l + l.length = sumL l
  | [] => rfl
  | x :: l => by
    have := lens_sumL l
    show x.length + Lib.lens l + (l.length + 1) = x.length + 1 + sumL l
    omega
theorem join_okB (l : List Bs) : (Lib.join (okB :: l) [32]).length = sumL l + 2 := by
  rw [Lib.join_length, ← lens_sumL l]
  show 1 * l.length + (2 + Lib.lens l) = _
  omega
theorem itoa_len {n : Int} (h1 : -9223372036854775808 ≤ n) (h2 : n ≤ 9223372036854775807) : (Lib.itoa n).length ≤ 21 := by
  unfold Lib.itoa
  split
  · rw [List.length_cons]
    have := dec_len20 (n := n.natAbs) (by omega)
    omega
  · have := dec_len20 (n := n.toNat) (by omega)
    omega
theorem sum_itoa : ∀ l : List Int, (∀ x ∈ l, -9223372036854775808 ≤ x ∧ x ≤ 9223372036854775807) → sumL (l.map Lib.itoa) ≤ 22 * l.length
  | [], _ => Nat.le_refl _
  | x :: l, h => by
    have h1 := sum_itoa l (fun y hy => h y (List.mem_cons_of_mem _ hy))
    have h2 := itoa_len (h x (List.mem_cons_self ..)).1 (h x (List.mem_cons_self ..)).2
    show (Lib.itoa x).length + 1 + sumL (l.map Lib.itoa) ≤ 22 * (l.length + 1)
    omega
theorem key {W : World} {v : Value} {es : List Value} {q : Nat} (hs : SlIn W v es) (hne : es ≠ []) (hq : q ∈ blk v) : ∃ y ∈ es, ∃ o, W.cell? ⟨q, o, none⟩ = some y := by
  rcases hs with ⟨_, h⟩ | ⟨b, p, c, rfl, _, _, h4⟩
  · exact absurd h hne
  · rcases List.mem_cons.1 hq with rfl | hq
    · cases he : es with
      | nil => exact absurd he hne
      | cons y l => exact ⟨y, List.mem_cons_self .., p + 0, h4 0 y (by rw [he]; rfl)⟩
    · cases hq
/-- The law in whatever world. -/
theorem law (W : World) (hT : LaidW W) (k e n : Int) (d : ByteArray) (vn vm : Value) (names : List Bs) (nums : List Int) (hn : SlIn W vn (names.map S)) (hm : SlIn W vm (nums.map (Value.int .i64)))
    (he : -9223372036854775808 ≤ e ∧ e ≤ 9223372036854775807) (hn1 : -9223372036854775808 ≤ n ∧ n ≤ 9223372036854775807) (hd : d.data.toList.length ≤ 2000000) (hnm : sumL names ≤ 2000000) (hmm : nums.length ≤ 2000000) (hr : ∀ x ∈ nums, -9223372036854775808 ≤ x ∧ x ≤ 9223372036854775807) :
    Calls Tryz.prog 3 #[.int .i64 k, .agg #[.int .i64 e, .int .i64 n, .string d, vn, vm]] W fun r W' => r = .returned (.bool true) ∧ Below W.heap.size W W' := by
  have big : ∀ x ∈ [(vn, names.map S), (vm, nums.map (Value.int .i64))], x.2 ≠ [] → ∀ q ∈ blk x.1, ¬ (q = 0 ∨ q = 2 ∨ q = 5) := by
    intro x hx hne q hq h
    rcases List.mem_cons.1 hx with rfl | hx
    · obtain ⟨y, hy, o, hc⟩ := key hn hne hq
      obtain ⟨s, _, rfl⟩ := List.mem_map.1 hy
      obtain ⟨k, z, h1, _⟩ := hT.small h hc
      cases h1
    rcases List.mem_cons.1 hx with rfl | hx
    · obtain ⟨y, hy, o, hc⟩ := key hm hne hq
      obtain ⟨s, _, rfl⟩ := List.mem_map.1 hy
      obtain ⟨k, z, h1, h2⟩ := hT.small h hc
      cases h1
      exact h2 rfl
    · cases hx
  have ok : SlsOk W gs7 [5] [(vn, names.map S), (vm, nums.map (Value.int .i64))] := by
    refine ⟨low7, hT.cells, ?_, ?_, by simp, fun q hq h5 => ?_, fun q hq hg => ?_⟩
    · intro x hx
      rcases List.mem_cons.1 hx with rfl | hx
      · exact hn
      rcases List.mem_cons.1 hx with rfl | hx
      · exact hm
      · cases hx
    · intro x hx y hy
      rcases List.mem_cons.1 hx with rfl | hx
      · obtain ⟨s, _, rfl⟩ := List.mem_map.1 hy; exact plain_str _
      rcases List.mem_cons.1 hx with rfl | hx
      · obtain ⟨s, _, rfl⟩ := List.mem_map.1 hy; exact plain_int _ s
      · cases hx
    · have : q = 5 := by simpa using hq
      obtain ⟨x, hx, hne, hq⟩ := blks_mem h5
      exact big x hx hne q hq (by omega)
    · have hg' : q = 0 ∨ q = 2 := by simpa using hg
      rcases List.mem_append.1 hq with hq | hq
      · have : q = 5 := by simpa using hq
        omega
      · obtain ⟨x, hx, hne, hq⟩ := blks_mem hq
        exact big x hx hne q hq (by omega)
  obtain ⟨zn, en, Un, un1, un2⟩ := ok.at (v := vn) (es := names.map S) (List.mem_cons_self ..)
  obtain ⟨zm, em, Um, um1, um2⟩ := ok.at (v := vm) (es := nums.map (Value.int .i64)) (List.mem_cons_of_mem _ (List.mem_cons_self ..))
  have inOk := ok.inOk
  have start := hT.start inOk
  rw [List.map_map] at un1 um1
  have lens := lens_sumL names
  have a := calls_of_sp SEL_calls (f := 3) (fn := Tryz.f3) Tryz.func3 (by kernel_rfl) (by kernel_rfl) inOk
    (args := [.int .i64 k, repV e n d.data.toList zn zm]) (args' := [.int .i64 k, .agg #[.int .i64 e, .int .i64 n, .string d, vn, vm]])
    (.cons (.int _ _) (.cons (.agg (.cons (.int _ _) (.cons (.int _ _) (.cons (.string _) (.cons (inV_vr en) (.cons (inV_vr em) .nil)))))) .nil))
    (P := [SlR 1 zn (names.map fun x => [S x]), SlR 1 zm (nums.map fun x => [Value.int .i64 x]), Ro 0 pow10V, RoN 2 tabV, Top])
    (fun A hA => by
      rcases List.mem_cons.1 hA with rfl | hA
      · exact ⟨Un, un1, un2⟩
      rcases List.mem_cons.1 hA with rfl | hA
      · exact ⟨Um, um1, um2⟩
      · exact start A hA)
    (Q := fun v => v = .bool true)
    (tells_sp [] _ (List.mem_cons_of_mem _ (List.mem_cons_of_mem _ (List.mem_cons_of_mem _ (List.mem_cons_self ..)))) (List.mem_cons_of_mem _ (List.mem_cons_of_mem _ (List.mem_cons_of_mem _ (List.mem_cons_of_mem _ (List.mem_cons_self ..))))) e k n d.data.toList zn zm names nums
      ⟨he.1, he.2, hn1.1, hn1.2, by omega, by rw [join_okB]; omega, by omega, by rw [join_okB]; have := sum_itoa nums hr; omega, by omega, hr⟩
      (.r (.p (List.mem_cons_self ..)))
      (.r (.p (List.mem_cons_of_mem _ (List.mem_cons_self ..))))
      (List.mem_cons_of_mem _ (List.mem_cons_of_mem _ (List.mem_cons_self ..))))
  refine a.mono fun r W' ⟨v, v', i', hv, hr, hvr, hb⟩ => ?_
  subst hv
  cases hvr
  exact ⟨hr, hb⟩
theorem slice_ok {W : World} {base : Nat} {t e : TypeId} {a : Addr} {len cap : Nat} (hu : Tryz.prog.underlying t = some (.slice e)) (hok : Cell.okWide Tryz.prog W .any base t (.slice (some a) len cap)) : a = ⟨a.block, a.off, none⟩ ∧ a.block < W.heap.size := by
  obtain ⟨b, off, spot⟩ := a
  simp only [Cell.okWide, hu, Cell.ok, World.has] at hok
  obtain ⟨_, _, _, hspot, row, cells, hshape, _⟩ := hok
  obtain rfl : spot = Option.none := hspot
  refine ⟨rfl, ?_⟩
  rcases Nat.lt_or_ge b W.heap.size with h | h
  · exact h
  · unfold World.shape? at hshape
    simp [Array.getElem?_eq_none h] at hshape
theorem names_in {H : Type} {enc : TypeId × Value → H} {W : World} {base n : Nat} {v : Value} {y : DataW H × List MemPlace} (hok : Cell.okWide Tryz.prog W .any base 23 v) (h : DataW.trod enc Tryz.prog W 0 (fun _ => true) true n 23 [v] = some y) : ∃ names : List Bs, SlIn W v (names.map S) ∧ sumL names ≤ Rows.uptoBulk y.1 := by
  rcases Go.Deep.open_strs Tryz.underlying23 Tryz.underlying9 c9 h with ⟨h1, rfl⟩ | ⟨a, len, cap, m, Sx, h1, _, hl, hm, hmm, rfl, hc⟩
  · cases h1
    exact ⟨[], .inl ⟨rfl, rfl⟩, Nat.zero_le _⟩
  · cases h1
    obtain ⟨ha, hlt⟩ := slice_ok Tryz.underlying23 hok
    refine ⟨(List.range len).map fun i => (Sx i).data.toList, .inr ⟨a.block, a.off, cap, ?_, ?_, hlt, ?_⟩, ?_⟩
    · rw [List.length_map, List.length_map, List.length_range, ← ha]
    · rw [List.length_map, List.length_map, List.length_range]; exact hl
    · intro i y hy
      rw [List.map_map, List.getElem?_map] at hy
      have hmm : m = cap := by simpa using hmm
      cases hi : (List.range len)[i]? with
      | none => rw [hi] at hy; cases hy
      | some j =>
        rw [hi] at hy
        cases hy
        obtain ⟨hj, hj2⟩ := List.getElem?_eq_some_iff.1 hi
        rw [List.length_range] at hj
        have : j = i := by rw [List.getElem_range] at hj2; omega
        subst this
        have := (hc j (by omega)).1
        rw [ha, add_plain] at this
        exact this
    · have e := bulk_strs (H := H) ((List.range len).map fun i => (Sx i).data.toList)
      rw [List.map_map] at e
      show sumL _ ≤ Rows.uptoBulkAll _ + Rows.uptoBulkAll _ + 1
      rw [← e]
      exact Nat.le_trans (Nat.le_add_right _ _) (Nat.le_succ _)
theorem nums_in {H : Type} {enc : TypeId × Value → H} {W : World} {base n : Nat} {v : Value} {y : DataW H × List MemPlace} (hok : Cell.okWide Tryz.prog W .any base 24 v) (h : DataW.trod enc Tryz.prog W 0 (fun _ => true) true n 24 [v] = some y) : ∃ nums : List Int, SlIn W v (nums.map (Value.int .i64)) ∧ nums.length ≤ Rows.uptoBulk y.1 ∧ ∀ x ∈ nums, -9223372036854775808 ≤ x ∧ x ≤ 9223372036854775807 := by
  rcases open_ints Tryz.underlying24 Tryz.underlying3 c3 h with ⟨h1, rfl⟩ | ⟨a, len, cap, zs, h1, _, hl, hm, hz, rfl, hc, hw⟩
  · cases h1
    exact ⟨[], .inl ⟨rfl, rfl⟩, Nat.zero_le _, fun x hx => by cases hx⟩
  · cases h1
    obtain ⟨ha, hlt⟩ := slice_ok Tryz.underlying24 hok
    have hz : zs.length = cap := by simpa using hz
    have hlen : (zs.take len).length = len := by rw [List.length_take]; omega
    refine ⟨zs.take len, .inr ⟨a.block, a.off, cap, ?_, ?_, hlt, ?_⟩, ?_, ?_⟩
    · rw [List.length_map, hlen, ← ha]
    · rw [List.length_map, hlen]; exact hl
    · intro i y hy
      rw [List.getElem?_map] at hy
      cases hi : (zs.take len)[i]? with
      | none => rw [hi] at hy; cases hy
      | some j =>
        rw [hi] at hy
        cases hy
        have hlt := (List.getElem?_eq_some_iff.1 hi).1
        rw [List.getElem?_take, if_pos (by omega)] at hi
        have := hc i (by omega)
        rw [List.getD_eq_getElem?_getD, hi, ha, add_plain] at this
        exact this
    · have e := bulk_ints (H := H) .i64 (zs.take len)
      show _ ≤ Rows.uptoBulkAll _ + Rows.uptoBulkAll _ + 1
      rw [← e]
      exact Nat.le_trans (Nat.le_add_right _ _) (Nat.le_succ _)
    · intro x hx
      have := bounds_i64 (hw x (List.mem_of_mem_take hx))
      omega
theorem ct26 : Tryz.prog.cellTypes Tryz.prog.depth 26 = some [22, 3, 9, 23, 24] := by kernel_rfl
theorem u22 : Tryz.prog.underlying 22 = some (.int .i64) := by kernel_rfl
theorem at26 {W : World} {base : Nat} {v0 v1 v2 v3 v4 : Value} (h : Value.okWide Tryz.prog W .any base 26 (.agg #[v0, v1, v2, v3, v4])) : Cell.okWide Tryz.prog W .any base 23 v3 ∧ Cell.okWide Tryz.prog W .any base 24 v4 := by
  obtain ⟨f0, f1, f2, f3, f4, hs, _⟩ := u26
  unfold Value.okWide at h
  rw [hs] at h
  obtain ⟨cs, hv, _, ts, hts, _, hall⟩ := h
  cases hv
  rw [ct26] at hts
  cases hts
  obtain ⟨u, h1, h2⟩ := hall 3 v3 rfl
  obtain ⟨u', h1', h2'⟩ := hall 4 v4 rfl
  cases h1
  cases h1'
  exact ⟨h2, h2'⟩
set_option maxRecDepth 100000 in
/-- What the walk gives, for all arguments and worlds. -/
theorem contract (H : Type) (enc : TypeId × Value → H) (W : World) (base : Nat) (args : Array Value) (ds gs : List (DataW H)) (before : List MemPlace)
    (hval : ∀ (j : Nat) t v, Tryz.f3.params[j]? = some t → args[j]? = some v → Value.okWide Tryz.prog W .any base t v)
    (hW : DataW.Whole enc Tryz.prog Tryz.f3.params.toList Rows.shellTellsSpec.vars false W args.toList ds gs before) (hk : Rows.uptoSmall H (ds ++ gs) = true)
    (hL : laidMetH Tryz.prog Rows.shellTellsUptoRow.laid W) (hsh : W.ShapedOpen Tryz.prog) :
    Calls Tryz.prog 3 args W fun e W' => ∃ v, e = .returned v ∧ Rows.shellTellsSpec.post enc Tryz.prog Tryz.f3 false true false false W args v W' := by
  have hW' := hW
  obtain ⟨p, q, hA0, hV, rfl, hfz, hnd⟩ := hW
  have hA : DataW.TrodAll enc Tryz.prog W 0 (fun _ => true) true Tryz.f3.params.toList args.toList ds p := hA0
  rw [Tryz.params3] at hA hval
  obtain ⟨v0, vs0, d0, ds0, p0, q0, hargs, rfl, rfl, h0, r0⟩ := trodAll_cons hA
  obtain ⟨v1, vs1, d1, ds1, p1, q1, rfl, rfl, rfl, h1, r1⟩ := trodAll_cons r0
  obtain ⟨rfl, rfl, rfl⟩ := trodAll_nil r1
  obtain rfl : args = #[v0, v1] := by cases args; simp_all
  obtain ⟨rfl, rfl⟩ := trodVars_none hV
  obtain ⟨k, rfl, rfl, rfl, wk⟩ := open_int Tryz.underlying3 (hval 0 3 v0 rfl rfl) h0
  obtain ⟨f0, f1, f2, f3, f4, hs, e0, e1, e2, e3, e4, hone⟩ := u26
  have hv1 := hval 1 26 v1 rfl rfl
  obtain ⟨c0, c1, c2, c3, c4, y0, y1, y2, y3, y4, n, rfl, hd, hp, t0, t1, t2, t3, t4⟩ := open_five hs hone c26 hv1 h1
  rw [e0] at t0; rw [e1] at t1; rw [e2] at t2; rw [e3] at t3; rw [e4] at t4
  obtain ⟨e, g0, rfl, we⟩ := DataW.trod_int u22 t0
  cases g0
  obtain ⟨m, g1, rfl, wm⟩ := DataW.trod_int Tryz.underlying3 t1
  cases g1
  obtain ⟨d, g2, rfl, wd⟩ := DataW.trod_string Tryz.underlying9 t2
  cases g2
  obtain ⟨ok3, ok4⟩ := at26 hv1
  obtain ⟨names, n1, n2⟩ := names_in ok3 t3
  obtain ⟨nums, m1, m2, m3⟩ := nums_in ok4 t4
  clear hA0
  simp only [List.append_nil] at hW'
  have hT := laidW_of hL
  have hbulk := of_decide_eq_true hk
  simp only [List.append_nil, List.cons_append, List.nil_append, Rows.uptoBulkAll, Rows.uptoBulk, hd] at hbulk
  have hlt : ∀ x ∈ p1, x.block < W.heap.size := fun x hx => hW'.lt x (by simp [hx])
  have be := bounds_i64 we
  have bm := bounds_i64 wm
  refine (law W hT k e m d c3 c4 names nums n1 m1 (by omega) (by omega) (by omega) (by omega) (by omega) m3).mono fun r W' ⟨he, hb⟩ => ?_
  subst he
  exact ⟨_, rfl, _, _, _, [], _, [], hW', trodAll_mk1 (shut_bool Tryz.underlying4 _), trodAll_cons_mk (shut_int Tryz.underlying3 wk) (trodAll_cons_mk (Below.trod laidOut (by kernel_rfl) (of_decide_eq_true (by kernel_rfl)) h1 hb hlt) trodAll_mk0), rfl, hb.frame _, fun h => by cases h⟩

/-- The world of the witness: the listed variables laid. -/
noncomputable def wits (os : Os) : World := World.laidAll Tryz.prog os Rows.shellTellsUptoRow.laid
def wargs : Array Value := #[.int .i64 0, .agg #[.int .i64 0, .int .i64 0, .string .empty, .slice none 0 0, .slice none 0 0]]

theorem laid_met (os : Os) : laidMet Tryz.prog Rows.shellTellsUptoRow.laid ((wits os).forCall (fun _ _ => 0) ⟨#[], wargs, []⟩).memory :=
  laidMet_laidAll wargs (by kernel_rfl) (by kernel_rfl)
theorem reads (os : Os) {H : Type} (enc : TypeId × Value → H) : ∃ places, DataW.whole enc Tryz.prog ((wits os).forCall (fun _ _ => 0) ⟨#[], wargs, []⟩).memory Tryz.f3.params.toList Rows.shellTellsSpec.vars false wargs.toList 8 = some ([.lit (.int .i64 0), .agg [.lit (.int .i64 0), .lit (.int .i64 0), .lit (.string []), .nil, .nil]], [], places) :=
  ⟨[], by kernel_rfl⟩

set_option maxRecDepth 100000 in
/-- The row's step. -/
theorem liftedUpto (os : Os) (started : os.Started) (H : Type) (enc : TypeId × Value → H) (F : Stop.Interp) :
    ReturnsInHanded {} Tryz.checked os 3 .any ((Rows.OpenSpec.upto Rows.shellTellsSpec).preRow enc Tryz.prog Tryz.f3 Rows.shellTellsUptoRow.domain false Rows.shellTellsUptoRow.laid) (((Rows.OpenSpec.upto Rows.shellTellsSpec).at F).post enc Tryz.prog Tryz.f3 false true false false) := by
  obtain ⟨places, hx⟩ := reads os enc
  refine returnsInHanded_of_row (C := Tryz.checked) (s := Rows.OpenSpec.upto Rows.shellTellsSpec) own started (by kernel_rfl) Tryz.func3
    (witness_row_atRef (enc := enc) (C := Tryz.checked) false (wits os) wargs (World.laidAll_os _ _ _) (by kernel_rfl) (by kernel_rfl) (by kernel_rfl)
      (OpenSpec.preRow_of_cond 8 hx (by kernel_rfl) (fun k hk => by cases hk; kernel_rfl) (by kernel_rfl) (by rw [MakeChecks.laidMetH_plain _ _ _ (by kernel_rfl)]; exact laid_met os))) ?_
  intro W base args ds gs before hval hW _ hk _ hL hsh _
  exact contract H enc W base args ds gs before hval hW (hk _ rfl) hL hsh

theorem and2 {a b : Bool} (h : a = true) (g : b = true) : (a && b) = true := by rw [h, g]; rfl
set_option maxRecDepth 100000 in
theorem closed : joinedFacts Tryz.prog 3 Tryz.f3 (Rows.OpenSpec.upto Rows.shellTellsSpec).bare Rows.shellTellsUptoRow = true :=
  (and2 (and2 (and2 (and2 (and2 (and2 (and2 (and2 (and2 (and2 (and2 (and2 (and2 (and2 (and2 (and2 (and2 (and2 (and2 (and2 (and2 (and2 (and2 (and2 (and2 (and2 (and2 (and2 (and2 (and2 (and2 k0 k1) k2) k3) k4) k5) k6) k7) k8) k9) k10) k11) k12) k13) k14) k15) k16) k17) k18) k19) k20) k21) k22) k23) k24) k25) k26) k27) k28) k29) k30) k31)

theorem saidUpto : Rows.ShellTellsUptoSaid :=
  OpenClaim.holds_of_cond 3 Tryz.f3 rfl rfl rfl rfl rfl rfl rfl ⟨rfl, rfl, rfl, rfl, rfl⟩ rfl rfl rfl rfl rfl (by kernel_rfl) Tryz.func3 closed
    (of_decide_eq_true (by kernel_rfl)) (by unfold Func.isWrapper; first | (rw [if_pos (by decide +kernel)]; kernel_rfl) | (rw [if_neg (by decide +kernel)]; exact ⟨rfl, rfl⟩))
    (fun os started H enc _ F => by rw [OpenClaim.pre_eq_preRow]; exact liftedUpto os started H enc F)

end Go.Proofs.YtcgpmbjoobilcaaGreatDoor.fnShellTells
