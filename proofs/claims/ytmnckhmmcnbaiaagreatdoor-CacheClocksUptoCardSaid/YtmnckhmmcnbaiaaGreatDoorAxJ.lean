/- 'for i := 0; i < len(xs); i++ { xs[i] = byte(v) }', whatever v is. -/
import Derived.Test.YtmnckhmmcnbaiaaGreatDoorAxH
set_option linter.unusedSimpArgs false
set_option linter.unusedVariables false
namespace Go.Ax
open Go Go.RowKit

noncomputable section
theorem stL_mem : ∀ {pre : List (Nat × OS)} {nx : Nat}, (pre.map (·.1)).Nodup → ∀ {b : Nat} {x : OS}, (b, x) ∈ pre → (stL pre nx).h.get b = some x.mk
  | [], _, _, b, x, h => by cases h
  | y :: pre, nx, hn, b, x, h => by
    have e : (stL (y :: pre) nx).h.get b = if b = y.1 then some y.2.mk else (stL pre nx).h.get b := by
      show (T.pk (T.e.lay (mkL pre)) y.1 (some y.2.mk)).get b = _
      rw [T.pk_eq]
      exact T.get_set _ _ _ _
    rw [List.map_cons, List.nodup_cons] at hn
    rcases List.mem_cons.1 h with rfl | h
    · rw [e, if_pos rfl]
    · rw [e, if_neg (fun hk => hn.1 (by rw [← hk]; exact List.mem_map.2 ⟨(b, x), h, rfl⟩))]
      exact stL_mem hn.2 h

def HeadOps2 (os : Array Oper) (ti ts d t : Nat) : Prop := ∃ (o1 o2 o3 o4 : Oper) (tys : Array TypeId) (u1 u2 : TypeId), os.toList = [o1, o2, o3, o4] ∧
    (o1.op = .move (.tmp ti) ∧ o1.dst = some d ∧ o1.guard = none) ∧ (o2.op = .move (.tmp ts) ∧ o2.dst = some (d + 1) ∧ o2.guard = none) ∧
    (o3.op = .call ⟨.builtin .len, #[.tmp (d + 1)], tys⟩ ∧ o3.dst = some (d + 2) ∧ o3.guard = none) ∧ (o4.op = .binOp .lss u1 (.tmp d) (.tmp (d + 2)) u2 ∧ o4.dst = some (d + 3) ∧ o4.guard = none) ∧ tys.toList.head? = some t
def FillOps (os : Array Oper) (ti ts tf d T1 t3 t5 : Nat) : Prop := ∃ (o1 o2 o3 o4 o5 o6 : Oper), os.toList = [o1, o2, o3, o4, o5, o6] ∧
    (o1.op = .move (.tmp ts) ∧ o1.dst = some d ∧ o1.guard = none) ∧ (o2.op = .move (.tmp ti) ∧ o2.dst = some (d + 1) ∧ o2.guard = none) ∧ (o3.op = .move (.tmp tf) ∧ o3.dst = some (d + 2) ∧ o3.guard = none) ∧
    (o4.op = .convert t3 t5 (.tmp (d + 2)) ∧ o4.dst = some (d + 3) ∧ o4.guard = none) ∧ (o5.op = .indexAddr T1 (.tmp d) (.tmp (d + 1)) ∧ o5.dst = some (d + 4) ∧ o5.guard = none) ∧
    (o6.op = .store t5 (.tmp (d + 4)) (.tmp (d + 3)) ∧ o6.dst = none ∧ o6.guard = none)

theorem run_head2 {E : Env} {call : CallF} {N : Nat} {os : Array Oper} {ti ts d t : Nat} (H : HeadOps2 os ti ts d t) (hN : Nat.ble (d + 3) N = true) (hti : ti < d) (hts : ts < d) {tm : Tm} {s : AS} {i n : Int} {sv : Value}
    (gi : tm.get ti = some (.int .i64 i)) (gs : tm.get ts = some sv) (hl : lenA E s t sv = some (.int .i64 n)) :
    ∃ tm', runL E call N os.toList os.toList tm s = some (tm', s) ∧ tm'.get (d + 3) = some (.bool (ilt i n)) ∧ ∀ k, k < d → tm'.get k = tm.get k := by
  obtain ⟨o1, o2, o3, o4, tys, u1, u2, hos, ⟨a1, a2, a3⟩, ⟨b1, b2, b3⟩, ⟨c1, c2, c3⟩, ⟨d1, d2, d3⟩, ht⟩ := H
  have hN' := Nat.le_of_ble_eq_true hN
  have le : ∀ k, k ≤ d + 3 → Nat.ble k N = true := fun k hk => Nat.ble_eq_true_of_le (by omega)
  rw [hos]
  have gg : ∀ (tm : Tm) (a b : Nat) (v : Value), (tm.set a v).get b = if b = a then some v else tm.get b := fun tm a b v => T.get_set _ _ _ _
  rw [runL_step (wanted_none a3) (by rw [a1]; exact ex_move gi) (by rw [a2]; exact putA_some (le _ (by omega)))]
  rw [runL_step (wanted_none b3) (by rw [b1]; exact ex_move (v := sv) (by rw [gg, if_neg (by omega)]; exact gs)) (by rw [b2]; exact putA_some (le _ (by omega)))]
  rw [runL_step (wanted_none c3) (by rw [c1]; exact ex_len (x := sv) ht (by rw [gg, if_pos rfl]) hl) (by rw [c2]; exact putA_some (le _ (by omega)))]
  rw [runL_step (wanted_none d3) (v := .bool (ilt i n)) (by
    rw [d1]
    exact ex_bin (k := .i64) (k' := .i64) (a := i) (b := n) (by show T.get _ _ = _; rw [gg, if_neg (by omega), gg, if_neg (by omega), gg, if_pos rfl]) (by show T.get _ _ = _; rw [gg, if_pos rfl]) rfl) (by rw [d2]; exact putA_some (le _ (by omega)))]
  refine ⟨_, runL_nil, by rw [gg, if_pos rfl], fun k hk => ?_⟩
  simp only [gg]
  repeat rw [if_neg (by omega)]

theorem run_fill {E : Env} {call : CallF} {N : Nat} {os : Array Oper} {ti ts tf d T1 t3 t5 e : Nat} {iT i3 i5 : TI} (H : FillOps os ti ts tf d T1 t3 t5) (hN : Nat.ble (d + 4) N = true) (hti : ti < d) (hts : ts < d) (htf : tf < d)
    (y1 : E.ty.get T1 = some iT) (y2 : iT.desc = .slice e) (y3 : E.ty.get e = some i5) (y4 : i5.size = 1) (y5 : E.ty.get t3 = some i3) (y6 : E.ty.get t5 = some i5) (y7 : i5.desc = .int .u8)
    {tm : Tm} {s : AS} {i n c0 B z : Nat} {v : Int} {c : T Value} (gi : tm.get ti = some (.int .i64 (.ofNat i))) (gs : tm.get ts = some (.slice (some ⟨B, 0, none⟩) n c0)) (gf : tm.get tf = some (.int .i64 v)) (hin : i < n) (hB : s.h.get B = some (.cells c n z)) :
    ∃ tm', runL E call N os.toList os.toList tm s = some (tm', s.upd B (.cells (c.fill i [.int .u8 (.ofNat (imod v 256))]) n z)) ∧ ∀ k, k < d → tm'.get k = tm.get k := by
  obtain ⟨o1, o2, o3, o4, o5, o6, hos, ⟨a1, a2, a3⟩, ⟨b1, b2, b3⟩, ⟨c1, c2, c3⟩, ⟨d1, d2, d3⟩, ⟨e1, e2, e3⟩, ⟨f1, f2, f3⟩⟩ := H
  have hN' := Nat.le_of_ble_eq_true hN
  have le : ∀ k, k ≤ d + 4 → Nat.ble k N = true := fun k hk => Nat.ble_eq_true_of_le (by omega)
  rw [hos]
  have gg : ∀ (tm : Tm) (a b : Nat) (v : Value), (tm.set a v).get b = if b = a then some v else tm.get b := fun tm a b v => T.get_set _ _ _ _
  rw [runL_step (wanted_none a3) (by rw [a1]; exact ex_move gs) (by rw [a2]; exact putA_some (le _ (by omega)))]
  rw [runL_step (wanted_none b3) (by rw [b1]; exact ex_move (v := .int .i64 (.ofNat i)) (by rw [gg, if_neg (by omega)]; exact gi)) (by rw [b2]; exact putA_some (le _ (by omega)))]
  rw [runL_step (wanted_none c3) (by rw [c1]; exact ex_move (v := .int .i64 v) (by rw [gg, if_neg (by omega), gg, if_neg (by omega)]; exact gf)) (by rw [c2]; exact putA_some (le _ (by omega)))]
  rw [runL_step (wanted_none d3) (s' := s) (v := .int .u8 (.ofNat (imod v 256))) (by
    rw [d1]
    show hConv t3 t5 (.tmp (d + 2)) E _ s = _
    unfold hConv
    have q1 : ∀ tm : Tm, ev (T.set tm (d + 2) (Value.int .i64 v)) (.tmp (d + 2)) = some (.int .i64 v) := fun tm => by show T.get _ _ = _; rw [gg, if_pos rfl]
    rw [q1]
    show convA E s t3 t5 (.int .i64 v) = _
    unfold convA
    rw [y5, y6]
    simp only [y7]
    have : intV .u8 v = some (.int .u8 (.ofNat (imod v 256))) := by
      unfold intV
      show intK (wrU 256 v) _ = _
      unfold wrU
      show natK (imod v 256) (fun a => some (Value.int .u8 (.ofNat a))) = _
      rw [natK_eq]
    rw [this]) (by rw [d2]; exact putA_some (le _ (by omega)))]
  rw [runL_step (wanted_none e3) (s' := s) (v := .pointer (some ⟨B, i, none⟩)) (by
    rw [e1]
    show hIndexAddr T1 (.tmp d) (.tmp (d + 1)) E _ s = _
    unfold hIndexAddr
    have q1 : ∀ tm : Tm, ev (T.set (T.set (T.set (T.set tm d (Value.slice (some ⟨B, 0, none⟩) n c0)) (d + 1) (Value.int .i64 (.ofNat i))) (d + 2) (Value.int .i64 v)) (d + 3) (.int .u8 (.ofNat (imod v 256)))) (.tmp d) = some (.slice (some ⟨B, 0, none⟩) n c0) := fun tm => by show T.get _ _ = _; rw [gg, if_neg (by omega), gg, if_neg (by omega), gg, if_neg (by omega), gg, if_pos rfl]
    have q2 : ∀ tm : Tm, ev (T.set (T.set (T.set (T.set tm d (Value.slice (some ⟨B, 0, none⟩) n c0)) (d + 1) (Value.int .i64 (.ofNat i))) (d + 2) (Value.int .i64 v)) (d + 3) (.int .u8 (.ofNat (imod v 256)))) (.tmp (d + 1)) = some (.int .i64 (.ofNat i)) := fun tm => by show T.get _ _ = _; rw [gg, if_neg (by omega), gg, if_neg (by omega), gg, if_pos rfl]
    rw [y1, q1, q2]
    simp only [y2, y3, y4]
    have : inR (.ofNat i) n = true := by show Nat.blt i n = true; rw [Nat.blt_eq]; exact hin
    rw [this, cond_true, natK_eq]
    simp) (by rw [e2]; exact putA_some (le _ (by omega)))]
  rw [runL_step (wanted_none f3) (s' := s.upd B (.cells (c.fill i [.int .u8 (.ofNat (imod v 256))]) n z)) (v := .tuple #[]) (by
    rw [f1]
    show hStore t5 (.tmp (d + 4)) (.tmp (d + 3)) E _ s = _
    unfold hStore
    have q1 : ∀ tm : Tm, ev (T.set tm (d + 4) (.pointer (some ⟨B, i, none⟩))) (.tmp (d + 4)) = some (.pointer (some ⟨B, i, none⟩)) := fun tm => by show T.get _ _ = _; rw [gg, if_pos rfl]
    have q2 : ∀ (tm : Tm) (u x : Value), ev (T.set (T.set tm (d + 3) u) (d + 4) x) (.tmp (d + 3)) = some u := fun tm u x => by show T.get _ _ = _; rw [gg, if_neg (by omega), gg, if_pos rfl]
    rw [y6, q1, q2]
    simp only [y4]
    show (bif Nat.beq [Value.int .u8 (.ofNat (imod v 256))].length 1 then (match wrN s B i [Value.int .u8 (.ofNat (imod v 256))] with
      | some s' => some (Value.tuple #[], s')
      | none => none) else none) = _
    have hw : wrN s B i [Value.int .u8 (.ofNat (imod v 256))] = some (s.upd B (.cells (c.fill i [.int .u8 (.ofNat (imod v 256))]) n z)) := by
      unfold wrN
      rw [hB]
      have : (Nat.ble (i + [Value.int .u8 (.ofNat (imod v 256))].length) n && ones [Value.int .u8 (.ofNat (imod v 256))]) = true := by
        rw [Bool.and_eq_true]
        exact ⟨Nat.ble_eq_true_of_le (by simp; omega), rfl⟩
      simp only [this, cond_true]
    rw [hw]
    rfl) (by rw [f2]; rfl)]
  refine ⟨_, runL_nil, fun k hk => ?_⟩
  simp only [gg]
  repeat rw [if_neg (by omega)]

theorem fill_get {c : T Value} {i : Nat} {v : Value} (k : Nat) : (c.fill i [v]).get k = if k = i then some v else c.get k := by
  rw [T.get_fill]
  by_cases h : k = i
  · subst h
    rw [if_pos (by simp), if_pos rfl]
    simp
  · rw [if_neg (by simp; omega), if_neg h]

/-- What is known of a state while the loop runs. -/
structure Filling (base : T AObj) (nx B n z r i : Nat) (s : AS) (c : T Value) : Prop where
  nx : s.nx = nx
  blk : s.h.get B = some (.cells c n z)
  done : ∀ k, k < i → c.get k = some (.int .u8 (.ofNat r))
  rest : ∀ b, b ≠ B → s.h.get b = base.get b

theorem loop_fill {E : Env} (hT : TyOk E) (hB : BackOk E) {F D : Nat} (hC : CallOk E.P (callA E F D)) (hD : DrawOk E (callA E F D)) {i0 : Io} {w0 : World} {N : Nat} {id1 id2 id3 e0 e1 ti ts tf d1 d2 d3 t T1 t3 t5 e : Nat} {os1 os2 os3 : Array Oper}
    (H1 : HeadOps2 os1 ti ts d1 t) (H2 : FillOps os2 ti ts tf d2 T1 t3 t5) (H3 : IncOps os3 ti d3) {tl : List (Nat × Value)} (hN : Nat.ble (d1 + 3) N = true ∧ Nat.ble (d2 + 4) N = true ∧ Nat.ble (d3 + 1) N = true)
    (hlow : ti < d1 ∧ ti < d2 ∧ ti < d3 ∧ ts < d1 ∧ ts < d2 ∧ tf < d2) (hY0 : ∀ k v, (k, v) ∈ tl → k < d1 ∧ k < d2 ∧ k < d3 ∧ k ≠ ti) (hnd : (ti :: tl.map (·.1)).Nodup) {B n c0 z nx : Nat} {v : Int} (hts : (ts, Value.slice (some ⟨B, 0, none⟩) n c0) ∈ tl) (htf : (tf, Value.int .i64 v) ∈ tl) (hn : n < 1000000)
    {iT i3 i5 it : TI} {et : TypeId} (y1 : E.ty.get T1 = some iT) (y2 : iT.desc = .slice e) (y3 : E.ty.get e = some i5) (y4 : i5.size = 1) (y5 : E.ty.get t3 = some i3) (y6 : E.ty.get t5 = some i5) (y7 : i5.desc = .int .u8) (y9 : E.ty.get t = some it) (y10 : it.desc = .slice et)
    {base : T AObj} {s0 : AS} {c1 : T Value} {Q : Exit → Act → World → Prop} {a : Act} {w : World} (hs : Filling base nx B n z (imod v 256) 0 s0 c1) (hc : Cfg i0 w0 N (tmL ((ti, iv 0) :: tl)) s0 a w)
    (hQ : ∀ s c a' w', Filling base nx B n z (imod v 256) n s c → Cfg i0 w0 N (tmL ((ti, iv n) :: tl)) s a' w' → Q (.exit e0) a' w') :
    (Code.loop (.seq (.seq (.region id1 os1 false) (.cond (.tmp (d1 + 3)) .skip (.exit e0))) (.seq (.block e1 (.region id2 os2 false)) (.region id3 os3 false)))).wp E.P Q a w := by
  obtain ⟨l1, l2, l3, l4, l5, l6⟩ := hlow
  obtain ⟨hN1, hN2, hN3⟩ := hN
  have gets : ∀ (i : Nat) (k : Nat) (v : Value), (k, v) ∈ (ti, iv i) :: tl → (tmL ((ti, iv i) :: tl)).get k = some v := fun i => tmL_nodup _ hnd
  refine (loop_ind (P := E.P) (Q := Q) (fun m a w => ∃ i s c, m + i = n ∧ Filling base nx B n z (imod v 256) i s c ∧ Cfg i0 w0 N (tmL ((ti, iv i) :: tl)) s a w) ?_ n a w ⟨0, s0, c1, by omega, hs, hc⟩).1
  rintro m a w ⟨i, s, c, hm, hs, hc⟩
  have gi : (tmL ((ti, iv i) :: tl)).get ti = some (iv i) := gets i _ _ (List.mem_cons_self ..)
  have gt : ∀ k v, (k, v) ∈ tl → (tmL ((ti, iv i) :: tl)).get k = some v := fun k v hk => gets i k v (List.mem_cons_of_mem _ hk)
  have hlen : lenA E s t (.slice (some ⟨B, 0, none⟩) n c0) = some (.int .i64 (.ofNat n)) := by
    unfold lenA
    rw [y9]
    simp only [y10]
    rfl
  obtain ⟨tm1, r1, g1, k1⟩ := run_head2 (E := E) (call := callA E F D) H1 hN1 l1 l4 (tm := tmL ((ti, iv i) :: tl)) (s := s) (i := .ofNat i) (n := .ofNat n) gi (gt ts _ hts) hlen
  have gi1 : tm1.get ti = some (iv i) := (k1 ti l1).trans gi
  have gt1 : ∀ k v, (k, v) ∈ tl → tm1.get k = some v := fun k v hk => (k1 k (hY0 k v hk).1).trans (gt k v hk)
  refine wp_seq (hc.code2 hT hB hC hD (codeA_head (F := 0) (e0 := e0) r1 g1) rfl (fun a1 w1 _ hc1 => ?_))
  cases hb : ilt (.ofNat i) (.ofNat n) with
  | false =>
    rw [cond_false]
    have hin : ¬ i < n := by
      intro h
      have : Nat.blt i n = true := by rw [Nat.blt_eq]; exact h
      have hb' : Nat.blt i n = false := hb
      rw [this] at hb'
      cases hb'
    obtain rfl : i = n := by omega
    exact hQ s c a1 w1 hs (hc1.slots (fun k v hk => by
      rcases List.mem_cons.1 hk with e | hk
      · cases e; exact gi1
      · exact gt1 k v hk))
  | true =>
    rw [cond_true]
    have hi : i < n := by have : Nat.blt i n = true := hb; rw [Nat.blt_eq] at this; exact this
    refine wp_seq (wp_block ?_)
    obtain ⟨tm2, r2, k2⟩ := run_fill (E := E) (call := callA E F D) H2 hN2 l2 l5 l6 y1 y2 y3 y4 y5 y6 y7 (tm := tm1) (s := s) gi1 (gt1 ts _ hts) (gt1 tf _ htf) hi hs.blk
    refine hc1.code2 hT hB hC hD (codeA_region (F := 0) r2) rfl (fun a2 w2 _ hc2 => ?_)
    have hc3 : Cfg i0 w0 N (tmL ((ti, iv i) :: tl)) _ a2 w2 := hc2.slots (fun k v hk => by
      rcases List.mem_cons.1 hk with e | hk
      · cases e; exact (k2 ti l2).trans gi1
      · exact (k2 k (hY0 k v hk).2.1).trans (gt1 k v hk))
    obtain ⟨j1, j2, j3, w1', w2', s1, s2, s3, s4⟩ := H3
    obtain ⟨tm6, r6, g6, k6⟩ := run_inc (E := E) (call := callA E F D) (N := N) s1 s2 s3 s4 hN3 l3 (tm := tmL ((ti, iv i) :: tl)) (s := s.upd B (.cells (c.fill i [.int .u8 (.ofNat (imod v 256))]) n z)) (i := i) (by omega) gi
    refine hc3.code2 hT hB hC hD (codeA_region (F := 0) r6) rfl (fun a7 w7 _ hc7 => ?_)
    refine ⟨m - 1, by omega, i + 1, s.upd B (.cells (c.fill i [.int .u8 (.ofNat (imod v 256))]) n z), c.fill i [.int .u8 (.ofNat (imod v 256))], by omega, ⟨hs.nx, (T.get_set _ _ _ _).trans (if_pos rfl), fun k hk => ?_, fun b hb => ((T.get_set _ _ _ _).trans (if_neg hb)).trans (hs.rest b hb)⟩, hc7.slots (fun k v hk => ?_)⟩
    · rw [fill_get]
      by_cases h : k = i
      · rw [if_pos h]
      · rw [if_neg h]
        exact hs.done k (by omega)
    · rcases List.mem_cons.1 hk with e | hk
      · cases e; exact g6
      · obtain ⟨_, _, x3, x4⟩ := hY0 k v hk
        exact (k6 k x3 x4).trans (gt k v hk)

/-- 'int(uint64(x) % M)': the first five operations of a code. -/
theorem run_at {E : Env} {call : CallF} {N : Nat} {ops rest : List Oper} {o1 o2 o3 o4 o5 : Oper} {tp ta d M : Nat} {t3 t6 : TypeId} {u1 u2 : TypeId} {i3 i6 : TI}
    (h1 : o1.op = .move (.tmp tp) ∧ o1.dst = some d ∧ o1.guard = none) (h2 : o2.op = .move (.tmp ta) ∧ o2.dst = some (d + 1) ∧ o2.guard = none)
    (h3 : o3.op = .convert t3 t6 (.tmp (d + 1)) ∧ o3.dst = some (d + 2) ∧ o3.guard = none) (h4 : o4.op = .binOp .rem u1 (.tmp (d + 2)) (.const (.int .u64 (.ofNat M))) u2 ∧ o4.dst = some (d + 3) ∧ o4.guard = none)
    (h5 : o5.op = .convert t6 t3 (.tmp (d + 3)) ∧ o5.dst = some (d + 4) ∧ o5.guard = none)
    (hN : Nat.ble (d + 4) N = true) (hta : ta < d) (hM : 0 < M) (hM2 : M < 1000000)
    (y5 : E.ty.get t3 = some i3) (y6 : i3.desc = .int .i64) (y7 : E.ty.get t6 = some i6) (y8 : i6.desc = .int .u64)
    {tm : Tm} {s : AS} {v : Int} {pv : Value} (gp : tm.get tp = some pv) (ga : tm.get ta = some (.int .i64 v)) :
    ∃ k u, k < M ∧ runL E call N ops (o1 :: o2 :: o3 :: o4 :: o5 :: rest) tm s = runL E call N ops rest (((((tm.set d pv).set (d + 1) (.int .i64 v)).set (d + 2) (.int .u64 u)).set (d + 3) (.int .u64 (.ofNat k))).set (d + 4) (.int .i64 (.ofNat k))) s := by
  have hN' := Nat.le_of_ble_eq_true hN
  have le : ∀ k, k ≤ d + 4 → Nat.ble k N = true := fun k hk => Nat.ble_eq_true_of_le (by omega)
  obtain ⟨a1, a2, a3⟩ := h1
  obtain ⟨b1, b2, b3⟩ := h2
  obtain ⟨e1, e2, e3⟩ := h3
  obtain ⟨f1, f2, f3⟩ := h4
  obtain ⟨g1, g2, g3⟩ := h5
  have gg : ∀ (tm : Tm) (a b : Nat) (v : Value), (tm.set a v).get b = if b = a then some v else tm.get b := fun tm a b v => T.get_set _ _ _ _
  have iv64 : ∀ r, r < 1000001 → intV .i64 (.ofNat r) = some (.int .i64 (.ofNat r)) := fun r hr => by
    unfold intV
    have hw : wrapA .i64 (.ofNat r) = .ofNat r := by
      show wrS 18446744073709551616 9223372036854775808 (.ofNat r) = _
      unfold wrS
      rw [natK_eq]
      have : imod (.ofNat r) 18446744073709551616 = r := Nat.mod_eq_of_lt (by omega)
      rw [this]
      have : Nat.blt r 9223372036854775808 = true := by rw [Nat.blt_eq]; omega
      rw [this, cond_true]
    rw [hw]
    show natK r (fun a => some (Value.int .i64 (.ofNat a))) = _
    rw [natK_eq]
  rw [runL_step (wanted_none a3) (by rw [a1]; exact ex_move gp) (by rw [a2]; exact putA_some (le _ (by omega)))]
  rw [runL_step (wanted_none b3) (by rw [b1]; exact ex_move (v := .int .i64 v) (by rw [gg, if_neg (by omega)]; exact ga)) (by rw [b2]; exact putA_some (le _ (by omega)))]
  rw [runL_step (wanted_none e3) (s' := s) (v := .int .u64 (.ofNat (imod v 18446744073709551616))) (by
    rw [e1]
    show hConv t3 t6 (.tmp (d + 1)) E _ s = _
    unfold hConv
    have q1 : ∀ tm : Tm, ev (T.set tm (d + 1) (Value.int .i64 v)) (.tmp (d + 1)) = some (.int .i64 v) := fun tm => by show T.get _ _ = _; rw [gg, if_pos rfl]
    rw [q1]
    show convA E s t3 t6 (.int .i64 v) = _
    unfold convA
    rw [y5, y7]
    simp only [y8]
    have : intV .u64 v = some (.int .u64 (.ofNat (imod v 18446744073709551616))) := by
      unfold intV
      show intK (wrU 18446744073709551616 v) _ = _
      unfold wrU
      show natK (imod v 18446744073709551616) (fun a => some (Value.int .u64 (.ofNat a))) = _
      rw [natK_eq]
    rw [this]) (by rw [e2]; exact putA_some (le _ (by omega)))]
  obtain ⟨r, hr⟩ : ∃ r, r = imod v 18446744073709551616 % M := ⟨_, rfl⟩
  have hrM : r < M := by rw [hr]; exact Nat.mod_lt _ hM
  rw [runL_step (wanted_none f3) (v := .int .u64 (.ofNat r)) (by
    rw [f1]
    refine ex_bin (k := .u64) (k' := .u64) (a := .ofNat (imod v 18446744073709551616)) (b := .ofNat M) (by show T.get _ _ = _; rw [gg, if_pos rfl]) rfl ?_
    show iRem .u64 (.ofNat (imod v 18446744073709551616)) (.ofNat M) = _
    unfold iRem
    have : ieq (.ofNat M) 0 = false := by
      show Nat.beq M 0 = false
      cases M with
      | zero => omega
      | succ m => rfl
    rw [this, cond_false, hr]
    show natK (imod v 18446744073709551616 % M) (fun a => some (Value.int .u64 (.ofNat a))) = _
    rw [natK_eq]) (by rw [f2]; exact putA_some (le _ (by omega)))]
  rw [runL_step (wanted_none g3) (s' := s) (v := .int .i64 (.ofNat r)) (by
    rw [g1]
    show hConv t6 t3 (.tmp (d + 3)) E _ s = _
    unfold hConv
    have q1 : ∀ tm : Tm, ev (T.set tm (d + 3) (Value.int .u64 (.ofNat r))) (.tmp (d + 3)) = some (.int .u64 (.ofNat r)) := fun tm => by show T.get _ _ = _; rw [gg, if_pos rfl]
    rw [q1]
    show convA E s t6 t3 (.int .u64 (.ofNat r)) = _
    unfold convA
    rw [y5, y7]
    simp only [y6]
    rw [iv64 r (by omega)]) (by rw [g2]; exact putA_some (le _ (by omega)))]
  exact ⟨r, _, hrM, rfl⟩

/-! ### A run in three parts: the rest of a region, the code behind it, the end -/
def isOk (r : R) : Bool := @Option.rec (Value × AS) (fun _ => Bool) false (fun p => @Prod.rec Value AS (fun _ => Bool) (fun v _ => match v with
  | .bool b => b
  | _ => false) p) r
def nxK (k : Tm → AS → R) : KX := fun x tm s => @X.rec (fun _ => R) (k tm s) (fun _ => none) none x
def retK (j : Nat) : KX := fun x tm s => @X.rec (fun _ => R) none (fun _ => none) (@Option.rec Value (fun _ => R) none (fun v => some (v, s)) (tm.get j)) x
theorem run3_spec {E : Env} {F D N : Nat} {ops rest : List Oper} {c1 c2 : Code} {j : Nat} {tm : Tm} {s : AS}
    (h : isOk (runq (rest.map (mkPer E N ops)) E (callq E F D) tm s fun tm s => codeq E (callq E F D) F (mkC E N c1) tm s (nxK fun tm s => codeq E (callq E F D) F (mkC E N c2) tm s (retK j))) = true) :
    ∃ tm1 s1 tm2 s2 tm3 s3, runL E (callA E F D) N ops rest tm s = some (tm1, s1) ∧ codeA E (callA E F D) N F c1 tm1 s1 = some (.nor, tm2, s2) ∧ codeA E (callA E F D) N F c2 tm2 s2 = some (.ret, tm3, s3) ∧ tm3.get j = some (.bool true) := by
  rw [runq_eq (call := callA E F D) (fun f xs s k => callq_eq E F D f xs s k) N] at h
  cases h1 : runL E (callA E F D) N ops rest tm s with
  | none => rw [h1] at h; cases h
  | some p =>
    obtain ⟨tm1, s1⟩ := p
    rw [h1] at h
    simp only at h
    rw [codeq_eq (call := callA E F D) (fun f xs s k => callq_eq E F D f xs s k) N] at h
    unfold toX at h
    cases h2 : codeA E (callA E F D) N F c1 tm1 s1 with
    | none => rw [h2] at h; cases h
    | some p =>
      obtain ⟨x, tm2, s2⟩ := p
      rw [h2] at h
      cases x with
      | exit i => cases h
      | ret => cases h
      | nor =>
        have h' : isOk (codeq E (callq E F D) F (mkC E N c2) tm2 s2 (retK j)) = true := h
        rw [codeq_eq (call := callA E F D) (fun f xs s k => callq_eq E F D f xs s k) N] at h'
        unfold toX at h'
        cases h3 : codeA E (callA E F D) N F c2 tm2 s2 with
        | none => rw [h3] at h'; cases h'
        | some p =>
          obtain ⟨x, tm3, s3⟩ := p
          rw [h3] at h'
          cases x with
          | exit i => cases h'
          | nor => cases h'
          | ret =>
            refine ⟨tm1, s1, tm2, s2, tm3, s3, rfl, h2, h3, ?_⟩
            have h4 : isOk (@Option.rec Value (fun _ => R) none (fun v => some (v, s3)) (tm3.get j)) = true := h'
            cases hv : tm3.get j with
            | none => rw [hv] at h4; cases h4
            | some v =>
              rw [hv] at h4
              cases v with
              | bool b =>
                have : b = true := h4
                rw [this]
              | _ => cases h4
end
end Go.Ax
