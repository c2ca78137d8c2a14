/- The abstract machine's operations and the model's, part 9: builtins. -/
import Derived.Test.YtcgpmbjoobilcaaGreatDoorAxB
import Derived.Deep.AppendSrc
set_option linter.unusedSimpArgs false
set_option linter.unusedVariables false
namespace Go.Ax
open Go
section
variable {E : Env} {i : Io} {s : AS} {w : World}
theorem src_sim {P : Program} (hR : Rel i s w) {size m : Nat} {y y' : Value} (hy : VR i y y') (hm : ∀ k, lenS y = some k → m ≤ k) {l : List Value} (h : srcA s size m y = some l) :
  ∃ l' : List Value, (Builtin.firstCells size m y').run P w = .ok l'.toArray w ∧ VRs i l l' ∧ l.length = m * size := by
 unfold srcA at h
 split at h
 ·cases h
  cases hy
  have := hm 0 rfl
  obtain rfl : m = 0 := by omega
  exact ⟨[], rfl, .nil, by simp⟩
 ·rename_i a n c
  cases hy with
  | @slice b o q t _ _ p c' hib h1 h2 h3 h4 h5 =>
   cases hm0 : Nat.beq m 0 with
   | true =>
    rw [hm0] at h
    cases h
    obtain rfl : m = 0 := by simpa using hm0
    refine ⟨[], ?_, .nil, by simp⟩
    simp only [Builtin.firstCells, Nat.zero_mul]
    rfl
   | false =>
    rw [hm0] at h
    simp only [cond_false] at h
    have hne : m ≠ 0 := fun e => by subst e; cases hm0
    have hmn := hm n rfl
    obtain rfl := h4.resolve_right (by omega)
    exact hR.rdN (P := P) h hib
 ·rename_i bs
  cases h1 : Nat.beq size 1 with
  | false => rw [h1] at h; cases h
  | true =>
   have hex : takeU m bs.data.toList = (bs.extract 0 m).data.toList := by rw [takeU_eq, extract_toList, List.drop_zero, Nat.sub_zero]
   rw [h1, hex] at h
   cases h
   cases hy
   have hs1 : size = 1 := by simpa using h1
   refine ⟨_, ?_, bytesV_refl (i := i) _, ?_⟩
   ·show Result.ok (Array.map _ _) w = _
    congr 1
    apply Array.ext'
    exact Array.toList_map
   ·rw [hs1]
    have := hm _ rfl
    have h2 : (bs.extract 0 m).size = m := by rw [ByteArray.size_extract]; omega
    rw [List.length_map, Array.length_toList, Nat.mul_one]
    exact h2
 ·cases h
theorem lenS_sim {y y' : Value} (hy : VR i y y') {m : Nat} (h : lenS y = some m) (P : Program) (w : World) : (Builtin.lenOf y').run P w = .ok m w := by
 unfold lenS at h
 split at h
 ·cases h; cases hy <;> rfl
 ·cases h; cases hy; rfl
 ·cases h
section
variable {P : Program} {ts : Array TypeId} {t u ty e : TypeId} {d : TypeDesc}
theorem append_room (h0 : ts[0]? = some t) (h1 : ts[1]? = some u) (ht : ∀ w, (underlying t).run P w = .ok (.slice e) w) (hu : ∀ w, (underlying u).run P w = .ok d w) (hd : ∀ k, d ≠ .int k)
  {size : Nat} (hs : ∀ w, (sizeOf e).run P w = .ok size w) {base : Option Addr} {n c m : Nat} {y : Value} (hl : (Builtin.lenOf y).run P w = .ok m w) {l : List Value} (hc : (Builtin.firstCells size m y).run P w = .ok l.toArray w)
  (hroom : n + m ≤ c) {w' : World} (hst : ∀ a, base = some a → (storeCells (a.add (n * size)) l).run P w = .ok () w') (hnone : base = none → w' = w) :
  (Builtin.append_ ts ty #[.slice base n c, y]).run P w = .ok (.slice base (n + m) c) w' := by
 have hz : (match d with | .int _ => true | _ => false) = false := by
  cases d <;> first | rfl | exact absurd rfl (hd _)
 cases base with
 | none =>
  obtain rfl := hnone rfl
  simp [Builtin.append_, h0, h1, ht, hu, hz, hs, hl, hroom, hc]
 | some a =>
  have := hst a rfl
  simp [Builtin.append_, h0, h1, ht, hu, hz, hs, hl, hroom, hc, this]
theorem append_grow (h0 : ts[0]? = some t) (h1 : ts[1]? = some u) (ht : ∀ w, (underlying t).run P w = .ok (.slice e) w) (hu : ∀ w, (underlying u).run P w = .ok d w) (hd : ∀ k, d ≠ .int k)
  {size : Nat} (hs : ∀ w, (sizeOf e).run P w = .ok size w) {info : TypeInfo} (hi : ∀ w, (typeInfo e).run P w = .ok info w) (hb : info.bytes ≠ 0) {zv : Value} (hz : ∀ w, (zeroValue e).run P w = .ok zv w)
  {base : Option Addr} {n c m : Nat} {y : Value} (hl : ∀ w, (Builtin.lenOf y).run P w = .ok m w) {l : List Value} (hc : (Builtin.firstCells size m y).run P w.drew = .ok l.toArray w.drew)
  {olds : List Value} (ho : (Builtin.firstCells size n (.slice base n c)).run P w.drew = .ok olds.toArray w.drew)
  (hroom : c < n + m) (hfit : (n + m) * info.bytes ≤ 140737488355328) :
  (Builtin.append_ ts ty #[.slice base n c, y]).run P w = .ok (.slice (some ⟨w.heap.size, 0, none⟩) (n + m) (grownCap w (n + m) c e))
   (addB w.drew (.cells ((olds ++ l).toArray ++ Builtin.zeroCells zv.cells (grownCap w (n + m) c e - (n + m))) e (0, 0))) := by
 have hzz : (match d with | .int _ => true | _ => false) = false := by
  cases d <;> first | rfl | exact absurd rfl (hd _)
 have hn : ¬ (n + m ≤ c) := by omega
 have h48 : ¬ (281474976710656 < Builtin.nextslicecap (n + m) c * info.bytes) := by
  have := growslice_fits hroom hfit
  omega
 simp [Builtin.append_, h0, h1, ht, hu, hzz, hs, hl, hn, hc, hi, hb, hz, h48, Question.forced, ho, newRow, grownCap, run_askRoom]
 show addB w.drew _ = _
 congr 2
 apply Array.ext'
 simp
end
theorem drew_rel (hR : Rel i s w) : Rel i s w.drew ∧ Fr i s w i s w.drew := ⟨hR.same rfl, Fr.same rfl rfl rfl rfl⟩
theorem grown_row (hR : Rel i s w) {olds olds' l l' : List Value} (ho : VRs i olds olds') (hl : VRs i l l') {need cap size z : Nat} {zv : Array Value} (e : TypeId) (hze : ze z ≠ 0 → e + 1 = ze z) (hlen : (olds ++ l).length = need * size)
  (hzs : zv.size = size) (hcap : need ≤ cap) (hz : zs z = size) :
  let o := Obj.cells ((olds' ++ l').toArray ++ Builtin.zeroCells zv (cap - need)) e (0, 0)
  ∃ i', Rel i' (s.rowz z (olds ++ l)) (addB w o) ∧ Fr i s w i' (s.rowz z (olds ++ l)) (addB w o) ∧ VR i' (.slice (some ⟨s.nx, 0, none⟩) need (2 * need)) (.slice (some ⟨w.heap.size, 0, none⟩) need cap) := by
 have hv := ho.append hl
 have hlen' := hv.length
 have hsz : ((olds' ++ l').toArray ++ Builtin.zeroCells zv (cap - need)).size = cap * size := by
  rw [Array.size_append, List.size_toArray, ← hlen', hlen, size_zeroCells, hzs, ← Nat.add_mul]
  congr 1
  omega
 have hle : need * size ≤ cap * size := Nat.mul_le_mul_right _ hcap
 obtain ⟨g1, g2, g3⟩ := hR.rowz hv z ((olds' ++ l').toArray ++ Builtin.zeroCells zv (cap - need)) e hze (0, 0) (.inl rfl) (by rw [hsz, hlen]; exact hle)
  (fun k hk => by rw [Array.getElem?_append_left (by rw [List.size_toArray, ← hlen']; exact hk)]; simp) (size, cap * size) ⟨hz.symm, Nat.le_of_eq hsz.symm⟩
 refine ⟨_, g1, g2, .slice (ext_same _ _ _) (by omega) (by omega) (by omega) (.inl rfl) (fun _ _ => ?_)⟩
 rw [ext_lim]
 simp
theorem Rel.rdC (hR : Rel i s w) {b o n q t m z : Nat} {c : T Value} {l : List Value} (hb : s.h.get b = some (.cells c m z)) (hr : Go.Ax.rdN s b o n = some l) (hi : i b = some (q, t)) {cs : Array Value} {e : TypeId} {fr : Nat × Nat} (hw : w.heap[q]? = some (.cells cs e fr)) :
  ∃ l' : List Value, VRs i l l' ∧ l.length = n ∧ ∀ k, k < n → cs[t + o + k]? = l'[k]? := by
 unfold Go.Ax.rdN at hr
 rw [hb] at hr
 simp only at hr
 obtain ⟨cs0, e0, fr0, h1, h2, h3, h4, h5⟩ := hR.at (P := default) hb rfl hi
 rw [hw] at h1
 cases h1
 cases hble : Nat.ble (o + n) m with
 | false => rw [hble] at hr; cases hr
 | true =>
  rw [hble] at hr
  have hle : o + n ≤ m := by simpa using hble
  obtain ⟨hl1, hl2⟩ := T.list_some c n o l hr
  let l' : List Value := (List.range n).map fun k => cs.getD (t + o + k) undef
  have hcs : ∀ k, k < n → cs[t + o + k]? = l'[k]? := by
   intro k hk
   simp only [l', List.getElem?_map, List.getElem?_range hk, Option.map_some]
   rw [Array.getD_eq_getD_getElem?]
   have : t + o + k < cs.size := by omega
   simp [Array.getElem?_eq_getElem this]
  refine ⟨l', VRs.of_get (by simp [l', hl1]) (fun k v hk => ?_), hl1, hcs⟩
  have hkn : k < n := by
   have := (List.getElem?_eq_some_iff.1 hk).1
   omega
  have := hl2 k hkn
  rw [hk] at this
  obtain ⟨v', a, b⟩ := h4 (o + k) v (by omega) this
  refine ⟨v', ?_, b⟩
  rw [← hcs k hkn, Nat.add_assoc]
  exact a
theorem share_row (hR : Rel i s w) {b q m z size need cap : Nat} {c : T Value} {z2 : Nat} (hb : s.h.get b = some (.cells c m z2)) {tt : Nat} (hi : i b = some (q, tt)) (hm : m = need * size) {zv : Array Value} (hzs : zv.size = size) (hcap : need ≤ cap) (hz : zs z = size) (e : TypeId) (hze : ze z ≠ 0 → e + 1 = ze z) (P : Program) :
  ∃ l' : List Value, (loadCells ⟨q, tt + 0, none⟩ (need * size)).run P w = .ok l'.toArray w ∧ l'.length = need * size ∧
   (let o := Obj.cells (([] ++ l').toArray ++ Builtin.zeroCells zv (cap - need)) e (0, 0)
   ∃ i', Rel i' (s.new (.cells c (need * size) z)) (addB w o) ∧ Fr i s w i' (s.new (.cells c (need * size) z)) (addB w o) ∧ VR i' (.slice (some ⟨s.nx, 0, none⟩) need (2 * need)) (.slice (some ⟨w.heap.size, 0, none⟩) need cap)) := by
 obtain ⟨cs, e1, fr, h1, h2, h3, h4, h5⟩ := hR.at (P := P) hb rfl hi
 subst hm
 let l' : List Value := (List.range (need * size)).map fun k => cs.getD (tt + k) undef
 have hcs : ∀ k, k < need * size → cs[tt + k]? = l'[k]? := by
  intro k hk
  simp only [l', List.getElem?_map, List.getElem?_range hk, Option.map_some]
  rw [Array.getD_eq_getD_getElem?]
  have : tt + k < cs.size := by omega
  simp [Array.getElem?_eq_getElem this]
 have hlen : l'.length = need * size := by simp [l']
 refine ⟨l', ?_, hlen, ?_⟩
 ·have := run_loadCells_list (P := P) (w := w) ⟨q, tt + 0, none⟩ l' (fun j v hj => by
   have hjn : j < need * size := by
    have := (List.getElem?_eq_some_iff.1 hj).1
    omega
   rw [add_none, cell_of h1, Nat.add_zero, hcs j hjn, hj])
  rw [hlen] at this
  exact this
 ·have hsz : (([] ++ l').toArray ++ Builtin.zeroCells zv (cap - need)).size = cap * size := by
   rw [List.nil_append, Array.size_append, List.size_toArray, hlen, size_zeroCells, hzs, ← Nat.add_mul]
   congr 1
   omega
  have hle : need * size ≤ cap * size := Nat.mul_le_mul_right _ hcap
  have hlei : Le i (ext i s.nx (w.heap.size, 0) (size, cap * size)) := ext_le (hR.fresh s.nx (Nat.le_refl _)).1
  obtain ⟨g1, g2⟩ := hR.new (lm := (size, cap * size)) (o := .cells c (need * size) z) (x := .cells (([] ++ l').toArray ++ Builtin.zeroCells zv (cap - need)) e (0, 0))
   ⟨_, e, (0, 0), rfl, by rw [hsz]; omega, .inl rfl, fun k v hk hv => by
    obtain ⟨v', a1, a2⟩ := h4 k v hk hv
    refine ⟨v', ?_, a2.mono hlei⟩
    rw [Nat.zero_add, Array.getElem?_append_left (by rw [List.nil_append, List.size_toArray, hlen]; exact hk)]
    rw [hcs k hk] at a1
    simpa using a1, fun h => ⟨hze h, fun _ => rfl⟩⟩
   (fun _ _ _ h => by cases h; exact ⟨hz.symm, fun _ _ _ h => by cases h; exact Nat.le_of_eq hsz.symm⟩)
  refine ⟨_, g1, g2, .slice (ext_same _ _ _) (by omega) (by omega) (by omega) (.inl rfl) (fun _ _ => ?_)⟩
  rw [ext_lim]
  simp
theorem append_zero {P : Program} {ts : Array TypeId} {t u ty e : TypeId} {kd : IntKind} (h0 : ts[0]? = some t) (h1 : ts[1]? = some u) (ht : ∀ w, (underlying t).run P w = .ok (.slice e) w) (hu : ∀ w, (underlying u).run P w = .ok (.int kd) w)
  {size : Nat} (hs : ∀ w, (sizeOf e).run P w = .ok size w) (hsz : size ≠ 0) {info : TypeInfo} (hi : ∀ w, (typeInfo e).run P w = .ok info w) (hb : info.bytes ≠ 0) {zv : Value} (hz : ∀ w, (zeroValue e).run P w = .ok zv w)
  {m : Nat} (hm : m ≠ 0) (hfit : m * info.bytes ≤ small) (hms : m ≤ small) (w : World) :
  (Builtin.append_ ts ty #[.slice none 0 0, .int .i64 m]).run P w = .ok (.slice (some ⟨w.heap.size, 0, none⟩) m (grownCap w m 0 e))
   (addB w.drew (.cells (([] ++ (Builtin.zeroCells zv.cells m).toList).toArray ++ Builtin.zeroCells zv.cells (grownCap w m 0 e - m)) e (0, 0))) := by
 unfold small at hfit hms
 have h48 : ¬ (281474976710656 < Builtin.nextslicecap m 0 * info.bytes) := by
  have : Builtin.nextslicecap m 0 = m := by unfold Builtin.nextslicecap; rw [if_pos (by omega)]
  rw [this]
  omega
 have hw : IntKind.i64.wrap (m : Int) = (m : Int) := by rw [IntKind.wrap_i64]; omega
 have hfit2 : ¬ (281474976710656 : Int) < (m : Int) * (info.bytes : Int) := by
  rw [← Int.natCast_mul]
  omega
 have hneg : ¬ ((m : Int) < 0) := by omega
 have hbig : ¬ IntKind.i64.max < (m : Int) := by
  have : IntKind.i64.max = 9223372036854775807 := rfl
  omega
 have hlt : ¬ (m ≤ 0) := by omega
 have hms0 : m * size ≠ 0 := Nat.mul_ne_zero hm hsz
 simp [Builtin.append_, h0, h1, ht, hu, hs, hi, hb, hz, hw, hfit2, hneg, h48, hm, hsz, hms0, hbig, Question.forced, newRow, grownCap, run_askRoom, Builtin.firstCells, asInt, asIntOf]
 rw [if_neg (by omega)]
 rfl
theorem append_sim (hT : TyOk E) (t u : TypeId) (ts : Array TypeId) (ty : TypeId) {x y x' y' : Value} (hR : Rel i s w) (hx : VR i x x') (hy : VR i y y') (h0 : ts[0]? = some t) (h1 : ts[1]? = some u) {v : Value} {s' : AS} (h : appendA E s t u x y = some (v, s')) :
  Sim E i s w (Builtin.append_ ts ty #[x', y']) v s' := by
 unfold appendA at h
 split at h
 ·rename_i ti ui ht hu
  split at h
  ·rename_i e kd hdesc hdescu
   unfold appendZ at h
   split at h
   ·rename_i j a1 a2 m hj
    cases hzero : (Nat.beq j.size 0 || Nat.beq j.bytes 0 || Nat.beq m 0 || Nat.ble 524288 j.size) with
    | true => rw [hzero] at h; cases h
    | false =>
     rw [hzero] at h
     simp only [cond_false] at h
     have hjs : j.size ≠ 0 := fun e => by rw [e] at hzero; cases hzero
     have hjb : j.bytes ≠ 0 := fun e => by rw [e] at hzero; simp at hzero
     have hjz : j.size < 524288 := by
      rcases Nat.lt_or_ge j.size 524288 with h | h
      ·exact h
      ·rw [Nat.ble_eq_true_of_le h] at hzero; simp at hzero
     have hm0 : m ≠ 0 := fun e => by rw [e] at hzero; simp at hzero
     cases hsm : (Nat.ble (m * j.bytes) small && Nat.ble m small) with
     | false => rw [hsm] at h; cases h
     | true =>
      rw [hsm] at h
      cases h
      simp only [Bool.and_eq_true, Nat.ble_eq] at hsm
      have htd : ∀ w, (underlying t).run E.P w = .ok (.slice e) w := fun w => by rw [run_und hT ht, hdesc]
      have hud : ∀ w, (underlying u).run E.P w = .ok (.int kd) w := fun w => by rw [run_und hT hu, hdescu]
      have hs := run_size hT hj
      obtain ⟨info, q1, _, q3, q4, zv, q5, q6, qv, _, _, q7⟩ := hT.ty e j hj
      have hi : ∀ w, (typeInfo e).run E.P w = .ok info w := fun w => by unfold typeInfo; simp [q1]
      have hz : ∀ w, (zeroValue e).run E.P w = .ok zv w := fun w => by unfold zeroValue typeInfo; simp [q1, q5]
      have hzs : zv.cells.size = j.size := by rw [← Array.length_toList, q6]; exact q7
      cases hx with
      | nils hc0 =>
       cases hy
       have hvz : VRs i (rep m j.zero) (Builtin.zeroCells zv.cells m).toList := by
        have h1 : (Builtin.zeroCells zv.cells m).toList = rep m zv.cells.toList := zeros_eq m zv.cells
        rw [h1, ← q6]
        exact VRs.rep m (qv i).cells
       have hrun := append_zero (ty := ty) h0 h1 htd hud hs hjs hi (by rw [q4]; exact hjb) hz hm0 (by rw [q4]; exact hsm.1) hsm.2 w
       obtain ⟨i', g1, g2, g3⟩ := grown_row (drew_rel hR).1 (olds := []) (olds' := []) .nil hvz (z := tz j.size e) (zv := zv.cells) (cap := grownCap w m 0 e) (need := m) e (fun _ => (tz_ze hjz).symm)
        (by rw [List.nil_append, rep_length, q7]) hzs (grownCap_ge _ _ _ _) (tz_zs hjz)
       exact ⟨_, _, i', hrun, g3, g1, (drew_rel hR).2.trans g2⟩
   ·cases h
  ·cases h
  ·rename_i e hdesc hnot
   split at h
   ·cases h
   ·rename_i j hj
    cases hzero : (Nat.beq j.size 0 || Nat.beq j.bytes 0 || Nat.ble 524288 j.size) with
    | true => rw [hzero] at h; cases h
    | false =>
     rw [hzero] at h
     simp only [cond_false] at h
     have hjs : j.size ≠ 0 := fun e => by rw [e] at hzero; cases hzero
     have hjb : j.bytes ≠ 0 := fun e => by rw [e] at hzero; simp at hzero
     have hjz : j.size < 524288 := by
      rcases Nat.lt_or_ge j.size 524288 with h | h
      ·exact h
      ·rw [Nat.ble_eq_true_of_le h] at hzero; simp at hzero
     split at h
     ·rename_i a n c m hm
      split at h
      ·rename_i tsh hsh
       cases h
       unfold shareA at hsh
       cases hcond : (Nat.beq n 0 && Nat.beq (c % 2) 1 && Nat.blt (c / 2) m && Nat.ble (m * j.bytes) small) with
       | false => rw [hcond] at hsh; cases hsh
       | true =>
        rw [hcond, cond_true] at hsh
        simp only [Bool.and_eq_true, Nat.beq_eq, Nat.blt_eq, Nat.ble_eq] at hcond
        obtain ⟨⟨⟨rfl, hodd⟩, hlt⟩, hsm⟩ := hcond
        unfold wholeA at hsh
        split at hsh
        ·rename_i ad na ca
         split at hsh
         ·rename_i c2 m2 z2 hblk
          cases hoff : (Nat.beq ad.off 0 && Nat.beq m2 (m * j.size)) with
          | false => rw [hoff] at hsh; cases hsh
          | true =>
           rw [hoff] at hsh
           cases hsh
           simp only [Bool.and_eq_true, Nat.beq_eq] at hoff
           obtain ⟨ho0, rfl⟩ := hoff
           have hmna : na = m := by
            have := hm
            simp only [lenS, Option.some.injEq] at this
            exact this
           subst hmna
           have htd : ∀ w, (underlying t).run E.P w = .ok (.slice e) w := fun w => by rw [run_und hT ht, hdesc]
           have hud : ∀ w, (underlying u).run E.P w = .ok ui.desc w := run_und hT hu
           have hd : ∀ k, ui.desc ≠ .int k := fun k hk => hnot k hk
           have hs := run_size hT hj
           have hl := fun w => lenS_sim hy hm E.P w
           obtain ⟨info, q1, _, q3, q4, zv, q5, q6, _, _, _, q7⟩ := hT.ty e j hj
           have hi : ∀ w, (typeInfo e).run E.P w = .ok info w := fun w => by unfold typeInfo; simp [q1]
           have hz : ∀ w, (zeroValue e).run E.P w = .ok zv w := fun w => by unfold zeroValue typeInfo; simp [q1, q5]
           have hzs : zv.cells.size = j.size := by rw [← Array.length_toList, q6]; exact q7
           cases hy with
           | @slice b2 o2 q2 t2 _ _ p2 c2' hib2 y1 y2 y3 y4 y5 =>
           simp only at ho0 hblk
           subst ho0
           obtain rfl := y4.resolve_right (by omega)
           have hxs : ∃ bx cx, x' = .slice bx 0 cx ∧ cx < 0 + na := by
            cases hx with
            | nils hc0 => exact ⟨_, _, rfl, by omega⟩
            | slice hib k1 k2 k3 k4 k5 => exact ⟨_, _, rfl, by have := k2 hodd; omega⟩
           obtain ⟨bx, cx, rfl, hcx⟩ := hxs
           have h0na : (0 + na) = na := Nat.zero_add _
           obtain ⟨l', r1, r2, i', g1, g2, g3⟩ := share_row (drew_rel hR).1 hblk hib2 (need := na) (size := j.size) rfl (z := tz j.size e) (zv := zv.cells) (cap := grownCap w (0 + na) cx e) hzs (by have := grownCap_ge w (0 + na) cx e; omega) (tz_zs hjz) e (fun _ => (tz_ze hjz).symm) E.P
           have hrun := append_grow (w := w) (ty := ty) (base := bx) (olds := []) h0 h1 htd hud hd hs hi (by rw [q4]; exact hjb) hz hl (l := l') r1 (by
            cases bx with
            | none => rfl
            | some bb => simp [Builtin.firstCells]; rfl) hcx (by rw [q4, Nat.zero_add]; unfold small at hsm; omega)
           rw [h0na] at hrun ⊢
           rw [h0na] at g1 g2 g3
           exact ⟨_, _, i', hrun, g3, g1, (drew_rel hR).2.trans g2⟩
         ·cases hsh
        ·cases hsh
      rename_i hnosh
      split at h
      ·cases h
      ·rename_i new hnew
       have htd : ∀ w, (underlying t).run E.P w = .ok (.slice e) w := fun w => by rw [run_und hT ht, hdesc]
       have hud : ∀ w, (underlying u).run E.P w = .ok ui.desc w := run_und hT hu
       have hd : ∀ k, ui.desc ≠ .int k := fun k hk => hnot k hk
       have hs := run_size hT hj
       have hl := fun w => lenS_sim hy hm E.P w
       obtain ⟨new', hc, hvn, hnl⟩ := src_sim (P := E.P) hR hy (fun k hk => by rw [hm] at hk; cases hk; exact Nat.le_refl _) hnew
       have hmle : ∀ k, lenS y = some k → m ≤ k := fun k hk => by rw [hm] at hk; cases hk; exact Nat.le_refl _
       obtain ⟨newD, hcD, hvD, _⟩ := src_sim (P := E.P) (drew_rel hR).1 hy hmle hnew
       obtain ⟨info, q1, _, q3, q4, zv, q5, q6, _, _, _, q7⟩ := hT.ty e j hj
       have hi : ∀ w, (typeInfo e).run E.P w = .ok info w := fun w => by unfold typeInfo; simp [q1]
       have hz : ∀ w, (zeroValue e).run E.P w = .ok zv w := fun w => by unfold zeroValue typeInfo; simp [q1, q5]
       have hzs : zv.cells.size = j.size := by rw [← Array.length_toList, q6]; exact q7
       have hgrow : ∀ (s1 : AS) (z : Nat) (olds olds' : List Value) (base : Option Addr) (c' : Nat), Rel i s1 w → Fr i s w i s1 w → VRs i olds olds' → olds.length = n * j.size → zs z = j.size → (ze z ≠ 0 → e + 1 = ze z) → c' < n + m → (n + m) * j.bytes ≤ small →
         (Builtin.firstCells j.size n (.slice base n c')).run E.P w.drew = .ok olds'.toArray w.drew →
         Sim E i s w (Builtin.append_ ts ty #[.slice base n c', y']) (.slice (some ⟨s1.nx, 0, none⟩) (n + m) (2 * (n + m))) (s1.rowz z (olds ++ new)) := by
        intro s1 z olds olds' base c' hR1 hF1 hvo hlo hz2 hz3 hlt hsm hrun
        have hrun2 := append_grow (w := w) (ty := ty) h0 h1 htd hud hd hs hi (by rw [q4]; exact hjb) hz hl hcD hrun hlt (by rw [q4]; unfold small at hsm; omega)
        obtain ⟨i', g1, g2, g3⟩ := grown_row (drew_rel hR1).1 hvo hvD (z := z) (zv := zv.cells) (cap := grownCap w (n + m) c' e) e hz3 (by rw [List.length_append, hlo, hnl, Nat.add_mul]) hzs (grownCap_ge _ _ _ _) hz2
        exact ⟨_, _, i', hrun2, g3, g1, hF1.trans ((drew_rel hR1).2.trans g2)⟩
       cases hm0 : Nat.beq m 0 with
       | true =>
        rw [hm0] at h
        cases h
        obtain rfl : m = 0 := by simpa using hm0
        have hnn : new' = [] := by
         have : new'.length = 0 := by rw [← hvn.length, hnl]; simp
         exact List.eq_nil_of_length_eq_zero this
        subst hnn
        refine Sim.ofPure hR (v' := x') ?_ hx
        cases hx with
        | nils => exact append_room h0 h1 htd hud hd hs (hl w) hc (by omega) (fun a h => by cases h) (fun _ => rfl)
        | slice hib k1 k2 k3 k4 k5 => exact append_room h0 h1 htd hud hd hs (hl w) hc (by omega) (fun a _ => rfl) (fun h => by cases h)
       | false =>
        rw [hm0] at h
        simp only [cond_false] at h
        have hmne : m ≠ 0 := fun e => by subst e; cases hm0
        cases hroom : Nat.ble (n + m) (c / 2) with
        | true =>
         rw [hroom] at h
         simp only [cond_true] at h
         have hle : n + m ≤ c / 2 := by simpa using hroom
         split at h
         ·cases h
         ·rename_i a'
          split at h
          ·cases h
          ·rename_i s2 hw
           cases h
           cases hx with
           | @slice b o q t' _ _ p c' hib k1 k2 k3 k4 k5 =>
            obtain rfl := k4.resolve_right (by omega)
            obtain ⟨w', g1, g2, g3⟩ := hR.wrN (P := E.P) hw hib hvn
            refine ⟨_, w', i, append_room h0 h1 htd hud hd hs (hl w) hc (by omega) (fun a ha => ?_) (fun h => by cases h), .slice hib hle k2 k3 (.inl rfl) k5, g2, g3⟩
            cases ha
            rw [add_none, Nat.add_assoc]
            exact g1
        | false =>
         rw [hroom] at h
         simp only [cond_false] at h
         have hgt : c / 2 < n + m := by
          rcases Nat.lt_or_ge (c / 2) (n + m) with hh | hh
          ·exact hh
          ·rw [show Nat.ble (n + m) (c / 2) = true by simpa using hh] at hroom; cases hroom
         cases hsm : Nat.ble ((n + m) * j.bytes) small with
         | false => rw [hsm] at h; cases h
         | true =>
         rw [hsm] at h
         simp only [cond_true] at h
         have hsm' : (n + m) * j.bytes ≤ small := by simpa using hsm
         split at h
         ·cases h
          cases hx with
          | nils hc0 => exact hgrow s _ [] [] none 0 hR (.refl _ _ _) .nil (by simp) (tz_zs hjz) (fun _ => (tz_ze hjz).symm) (by omega) hsm' rfl
         ·rename_i a'
          cases hx with
          | @slice b o q t' _ _ p c' hib k1 k2 k3 k4 k5 =>
          cases hn0 : (Nat.beq n 0 && Nat.beq (c % 2) 1) with
          | true =>
           rw [hn0] at h
           cases h
           simp only [Bool.and_eq_true, Nat.beq_eq] at hn0
           obtain ⟨rfl, hodd⟩ := hn0
           have := k2 hodd
           exact hgrow s _ [] [] _ c' hR (.refl _ _ _) .nil (by simp) (tz_zs hjz) (fun _ => (tz_ze hjz).symm) (by omega) hsm' (by simp only [Builtin.firstCells, Nat.zero_mul]; rfl)
          | false =>
           rw [hn0] at h
           simp only [cond_false] at h
           split at h
           ·cases h
           ·rename_i old hold
            split at h
            ·rename_i cc mm z hbl
             have hread : ∀ (s1 : AS) (z : Nat), Rel i s1 w → Fr i s w i s1 w → zs z = j.size → (ze z ≠ 0 → e + 1 = ze z) → c' < n + m → Sim E i s w (Builtin.append_ ts ty #[.slice (some ⟨q, p, none⟩) n c', y']) (.slice (some ⟨s1.nx, 0, none⟩) (n + m) (2 * (n + m))) (s1.rowz z (old ++ new)) := by
              intro s1 z hR1 hF1 hz2 hz3 hlt
              obtain ⟨old', r1, r2, r3⟩ := (drew_rel hR).1.rdN (P := E.P) hold hib
              rcases Nat.eq_zero_or_pos n with hn | hn
              ·subst hn
               have : old = [] := List.eq_nil_of_length_eq_zero (by rw [r3]; simp)
               subst this
               exact hgrow s1 z [] [] _ c' hR1 hF1 .nil (by simp) hz2 hz3 hlt hsm' (by simp only [Builtin.firstCells, Nat.zero_mul]; rfl)
              ·obtain rfl := k4.resolve_right (by omega)
               exact hgrow s1 z old old' _ c' hR1 hF1 r2 r3 hz2 hz3 hlt hsm' r1
             cases hodd : Nat.beq (c % 2) 1 with
             | true =>
              rw [hodd] at h
              cases h
              have ho : c % 2 = 1 := by simpa using hodd
              have := k2 ho
              exact hread s _ hR (.refl _ _ _) (tz_zs hjz) (fun _ => (tz_ze hjz).symm) (by omega)
             | false =>
              rw [hodd] at h
              simp only [cond_false] at h
              have hev : c % 2 = 0 := by
               rcases Nat.mod_two_eq_zero_or_one c with hh | hh
               ·exact hh
               ·rw [hh] at hodd; cases hodd
              cases hzz : (Nat.beq (zs z) j.size && ones new) with
              | false => rw [hzz] at h; cases h
              | true =>
               rw [hzz] at h
               cases h
               simp only [Bool.and_eq_true, Nat.beq_eq] at hzz
               obtain ⟨hz2, hones⟩ := hzz
               rcases Nat.lt_or_ge c' (n + m) with hlt | hge
               ·obtain ⟨K1, K2⟩ := hR.kill hbl
                exact hread _ _ K1 K2 (zg_zs hjz) (fun h => (zg_ze hjz h).2.symm) hlt
               ·obtain rfl := k4.resolve_right (by omega)
                obtain ⟨cs, e1, fr, w1, w2, w3, w4, w5⟩ := hR.at (P := E.P) hbl rfl hib
                obtain ⟨L1, L2⟩ := hR.lim _ _ _ _ _ _ hbl hib
                have L3 := L2 cs e1 fr w1
                have L4 := k5 hev (by omega)
                rw [L1, hz2] at L4
                have L5 : (n + m) * j.size ≤ c' * j.size := Nat.mul_le_mul_right _ hge
                have L6 : (n + m) * j.size = n * j.size + m * j.size := Nat.add_mul _ _ _
                have hnl' : new'.length = m * j.size := by rw [← hvn.length, hnl]
                obtain ⟨cs', S1, S2, S3⟩ := run_storeW (P := E.P) q (t' + o + n * j.size) new' 0 w cs e1 fr w1 (by omega) (w3.imp (fun e => Nat.le_of_eq e.symm) (·.2)) (by rw [hvn.ones]; exact hones)
                obtain ⟨old', r1, r2, r3⟩ := hR.rdC hbl hold hib w1
                have hle := ext_le (x := (q, t' + o)) (lm := i.lim b) (hR.fresh s.nx (Nat.le_refl _)).1
                have hol' : old'.length = n * j.size := by rw [← r1.length, r2]
                obtain ⟨G1, G2⟩ := hR.grow (w' := setB w q (.cells cs' e1 fr)) (p := t' + o) (lm := i.lim b) (o := .cells (T.e.fill 0 (old ++ new)) (old ++ new).length (zg j.size z e)) hbl hib (fun k hk => setB_ne hk) (setB_size _ _ _) rfl rfl rfl
                 (by
                  rw [setB_same w1]
                  refine OR.row ((r1.append hvn).mono hle) cs' e1 fr (zg j.size z e) (fun h => by
                   obtain ⟨u1, u2⟩ := zg_ze hjz h
                   rw [u2, ← u1]
                   exact (w5 (by omega)).1) (by rw [S2, zg_odd]; exact w3) _ (by rw [List.length_append, r2, hnl, S2]; omega) (fun k hk => ?_) (.inr (by rw [zg_zs hjz]; exact hjs))
                  rw [List.length_append, r2, hnl] at hk
                  rw [S3]
                  by_cases hk2 : k < n * j.size
                  ·rw [if_neg (by omega), List.getElem?_append_left (by omega)]
                   exact r3 k hk2
                  ·rw [if_pos (by omega), List.getElem?_append_right (by omega)]
                   congr 1
                   omega)
                 (fun c1 n1 z1 hcc => by
                  cases hcc
                  refine ⟨by rw [L1, hz2, zg_zs hjz], fun cs2 e2 fr2 hw2 => ?_⟩
                  rw [setB_same w1] at hw2
                  cases hw2
                  omega)
                refine ⟨_, _, _, append_room h0 h1 htd hud hd hs (hl w) hc hge (w' := setB w q (.cells cs' e1 fr)) (fun a ha => ?_) (fun h => by cases h), ?_, G1, G2⟩
                ·cases ha
                 rw [add_none]
                 exact S1
                ·refine .slice (ext_same _ _ _) (by omega) (by omega) (by omega) (.inl rfl) (fun _ _ => ?_)
                 rw [ext_lim, L1, hz2]
                 omega
            ·cases h
     ·cases h
  ·cases h
 ·cases h
end
end Go.Ax
/- The abstract machine's operations and the model's, part 10: the other builtins. -/
namespace Go.Ax
open Go
section
variable {E : Env} {i : Io} {s : AS} {w : World}
theorem copy_sim (hT : TyOk E) (t : TypeId) (ts : Array TypeId) (ty : TypeId) {x y x' y' : Value} (hR : Rel i s w) (hx : VR i x x') (hy : VR i y y') (h0 : ts[0]? = some t) {v : Value} {s' : AS} (h : copyA E s t x y = some (v, s')) :
  Sim E i s w (Builtin.copy_ ts ty #[x', y']) v s' := by
 unfold copyA at h
 split at h
 ·cases h
 ·rename_i ti ht
  have hd := run_und hT ht w
  split at h
  ·rename_i e hdesc
   split at h
   ·cases h
   ·rename_i j hj
    have hs := run_size hT hj w
    split at h
    ·rename_i a n c m hm
     have hl := lenS_sim hy hm E.P w
     split at h
     ·cases h
     ·rename_i new hnew
      obtain ⟨new', hc, hvn, hnl⟩ := src_sim (P := E.P) hR hy (fun k hk => by rw [hm] at hk; cases hk; exact Nat.min_le_left _ _) hnew
      split at h
      ·cases h
       cases hx
       refine Sim.ofPure hR (v' := .int .i64 (Nat.min m 0 : Nat)) ?_ (.int _ _)
       simp [Builtin.copy_, h0, hd, hdesc, hl, hs] at hc ⊢
       simp [hc, goInt]
      ·rename_i a'
       cases hx with
       | @slice b o q t' _ _ p c' hib k1 k2 k3 k4 k5 =>
        have hrun : ∀ w', (storeCells ⟨q, p, none⟩ new').run E.P w = .ok () w' → (Builtin.copy_ ts ty #[.slice (some ⟨q, p, none⟩) n c', y']).run E.P w = .ok (.int .i64 (Nat.min m n : Nat)) w' := by
         intro w' hst
         simp only [Builtin.copy_, h0, List.getElem?_toArray, List.getElem?_cons_zero, List.getElem?_cons_succ, Sem.run_bind, hd, hdesc, Result.andThen_ok, hl, hs, hc, hst, Sem.run_pure, goInt]
        cases hmin : Nat.beq (Nat.min m n) 0 with
        | true =>
         rw [hmin] at h
         cases h
         have h00 : Nat.min m n = 0 := by simpa using hmin
         have : new' = [] := List.eq_nil_of_length_eq_zero (by rw [← hvn.length, hnl, h00]; simp)
         subst this
         exact Sim.ofPure hR (hrun w rfl) (.int _ _)
        | false =>
         rw [hmin] at h
         simp only [cond_false] at h
         split at h
         ·cases h
         ·rename_i s2 hw
          cases h
          have hne : Nat.min m n ≠ 0 := fun e => by rw [e] at hmin; cases hmin
          have hle : Nat.min m n ≤ n := Nat.min_le_right _ _
          obtain rfl := k4.resolve_right (by omega)
          obtain ⟨w', g1, g2, g3⟩ := hR.wrN (P := E.P) hw hib hvn
          exact ⟨_, w', i, hrun w' g1, .int _ _, g2, g3⟩
    ·cases h
  ·cases h
theorem clear_sim (hT : TyOk E) (t : TypeId) (ts : Array TypeId) (ty : TypeId) {x x' : Value} (hR : Rel i s w) (hx : VR i x x') (h0 : ts[0]? = some t) {v : Value} {s' : AS} (h : clearA E s t x = some (v, s')) :
  Sim E i s w (Builtin.clear_ ts ty #[x']) v s' := by
 unfold clearA at h
 split at h
 ·cases h
 ·rename_i ti ht
  have hd := run_und hT ht w
  split at h
  ·cases h
   cases hx
   exact Sim.ofPure hR (v' := .tuple #[]) (by simp [Builtin.clear_, h0, hd]) (.tuple .nil)
  ·cases h
   cases hx
   exact Sim.ofPure hR (v' := .tuple #[]) (by simp [Builtin.clear_, h0, hd]) (.tuple .nil)
  ·rename_i b _
   split at h
   ·rename_i es hes
    cases h
    cases hx
    rename_i q hib
    obtain ⟨_, es', clk, l, hw1, hw2, hw3, hw4, hw5⟩ := hR.at (P := E.P) hes rfl hib
    obtain ⟨g1, g2⟩ := hR.mapNow (es2 := []) hes hib hw1 (m' := #[]) (clk' := clk) rfl (l := []) (.refl _) .nil .nil (.nil _)
    refine ⟨.tuple #[], _, i, ?_, .tuple .nil, g1, g2⟩
    simp [Builtin.clear_, h0, hd, getMap hw1, setMap hw1]
   ·cases h
  ·rename_i e a n c hdesc
   cases hx with
   | @slice b o q t' _ _ p c' hib k1 k2 k3 k4 k5 =>
    cases hn : Nat.beq n 0 with
    | true =>
     rw [hn] at h
     cases h
     obtain rfl : n = 0 := by simpa using hn
     exact Sim.ofPure hR (v' := .tuple #[]) (by simp [Builtin.clear_, h0, hd, hdesc]) (.tuple .nil)
    | false =>
     rw [hn] at h
     simp only [cond_false] at h
     have hne : n ≠ 0 := fun e => by subst e; cases hn
     split at h
     ·cases h
     ·rename_i j hj
      split at h
      ·cases h
      ·rename_i s2 hw
       cases h
       obtain ⟨zv, hz1, hz2, hz3, _, _, hzl⟩ := run_zero hT hj w
       obtain rfl := k4.resolve_right (by omega)
       have hv : VRs i (rep n j.zero) (Builtin.zeroCells zv.cells n).toList := by
        have := VRs.rep (i := i) n (l := j.zero) (l' := zv.cells.toList) (by rw [← hz2]; exact (hz3 i).cells)
        unfold Builtin.zeroCells
        rw [zeros_eq]
        exact this
       obtain ⟨w', g1, g2, g3⟩ := hR.wrN (P := E.P) hw hib hv
       refine ⟨.tuple #[], w', i, ?_, .tuple .nil, g2, g3⟩
       simp [Builtin.clear_, h0, hd, hdesc, hz1, g1, hne]
  ·cases h
theorem MR.length {es : List (Value × Value)} {l : List MapEntry} (h : MR i es l) : l.length = es.length := by
 have := congrArg List.length h.keys
 simpa using this
theorem len_sim (hT : TyOk E) (t : TypeId) (ts : Array TypeId) (ty : TypeId) {x x' : Value} (hR : Rel i s w) (hx : VR i x x') (h0 : ts[0]? = some t) {v : Value} (h : lenA E s t x = some v) :
  Sim E i s w (Builtin.len_ ts ty #[x']) v s := by
 unfold lenA at h
 split at h
 ·cases h
 ·rename_i ti ht
  have hd := run_und hT ht w
  split at h
  ·rename_i b hdesc
   cases h
   cases hx
   exact Sim.ofPure hR (by simp [Builtin.len_, h0, hd, hdesc, goInt]) (.int _ _)
  ·rename_i n e hdesc
   cases h
   exact Sim.ofPure hR (by simp [Builtin.len_, h0, hd, hdesc, goInt]) (.int _ _)
  ·rename_i e a n c hdesc
   cases h
   cases hx <;> exact Sim.ofPure hR (by simp [Builtin.len_, h0, hd, hdesc, goInt]) (.int _ _)
  ·rename_i e a hdesc
   cases h
   cases hx
   exact Sim.ofPure hR (by simp [Builtin.len_, h0, hd, hdesc, goInt]) (.int _ _)
  ·rename_i e a b hdesc
   split at h
   ·rename_i es hes
    cases h
    cases hx
    rename_i q hib
    obtain ⟨_, es', clk, l, hw1, hw2, hw3, hw4, hw5⟩ := hR.at (P := E.P) hes rfl hib
    have hlen : es'.size = es.length := by rw [← Array.length_toList, ← hw2.length_eq, hw3.length]
    refine Sim.ofPure hR (v' := .int .i64 es.length) ?_ (.int _ _)
    rw [← hlen]
    simp [Builtin.len_, h0, hd, hdesc, goInt, getMap hw1]
   ·cases h
  ·cases h
theorem cap_sim (hT : TyOk E) (t : TypeId) (ts : Array TypeId) (ty : TypeId) {x x' : Value} (hR : Rel i s w) (hx : VR i x x') (h0 : ts[0]? = some t) {v : Value} (h : capA E t x = some v) :
  Sim E i s w (Builtin.cap_ ts ty #[x']) v s := by
 unfold capA at h
 split at h
 ·cases h
 ·rename_i ti ht
  have hd := run_und hT ht w
  split at h
  ·rename_i n e hdesc
   cases h
   exact Sim.ofPure hR (by simp [Builtin.cap_, h0, hd, hdesc, goInt]) (.int _ _)
  ·rename_i e n c hdesc
   cases h
   cases hx with
   | nils hc0 => exact Sim.ofPure hR (by simp [Builtin.cap_, h0, hd, hdesc, goInt]) (.int _ _)
  ·rename_i e a n c hne hdesc
   cases hc : Nat.beq (c % 2) 1 with
   | false => rw [hc] at h; cases h
   | true =>
    rw [hc] at h
    cases h
    have hodd : c % 2 = 1 := by simpa using hc
    cases hx with
    | nils hc0 =>
     rw [hc0]
     exact Sim.ofPure hR (by simp [Builtin.cap_, h0, hd, hdesc, goInt]) (.int _ _)
    | slice hib k1 k2 k3 k4 k5 =>
     rw [← k2 hodd]
     exact Sim.ofPure hR (by simp [Builtin.cap_, h0, hd, hdesc, goInt]) (.int _ _)
  ·cases h
theorem fold_sim {P : Program} {f : Value → Value → Option Value} {g : Value → Value → Sem Value} (hfg : ∀ x y z x' y', f x y = some z → VR i x x' → VR i y y' → ∃ z', (g x' y').run P w = .ok z' w ∧ VR i z z') :
  ∀ {l l' : List Value} {x x' z : Value}, VRs i l l' → VR i x x' → foldA f x l = some z → ∃ z', (l'.foldlM g x').run P w = .ok z' w ∧ VR i z z'
 | _, _, x, x', z, .nil, hx, h => by
  simp only [foldA, Option.some.injEq] at h
  subst h
  exact ⟨x', rfl, hx⟩
 | y :: l, y' :: l', x, x', z, .cons hy hl, hx, h => by
  simp only [foldA] at h
  split at h
  ·cases h
  ·rename_i u hu
   obtain ⟨u', g1, g2⟩ := hfg _ _ _ _ _ hu hx hy
   obtain ⟨z', g3, g4⟩ := fold_sim hfg hl g2 h
   refine ⟨z', ?_, g4⟩
   rw [List.foldlM_cons]
   simp only [Sem.run_bind, g1, Result.andThen_ok, g3]
theorem max2_sim (P : Program) (x y z x' y' : Value) (h : max2A x y = some z) (hx : VR i x x') (hy : VR i y y') : ∃ z', (Builtin.max2 x' y').run P w = .ok z' w ∧ VR i z z' := by
 unfold max2A at h
 split at h
 ·cases h; cases hx; cases hy; exact ⟨_, rfl, .int _ _⟩
 ·cases h
theorem min2_sim (P : Program) (x y z x' y' : Value) (h : min2A x y = some z) (hx : VR i x x') (hy : VR i y y') : ∃ z', (Builtin.min2 x' y').run P w = .ok z' w ∧ VR i z z' := by
 unfold min2A at h
 split at h
 ·cases h; cases hx; cases hy; exact ⟨_, rfl, .int _ _⟩
 ·cases h
end
end Go.Ax
/- The abstract machine's operations and the model's, part 11: all of them. -/
namespace Go.Ax
open Go
section
variable {E : Env} {i : Io} {s : AS} {w : World}
theorem get0 {α : Type} {a : Array α} {x : α} {l : List α} (h : a.toList = x :: l) : a[0]? = some x := by
 rw [← Array.getElem?_toList, h]; rfl
theorem get1 {α : Type} {a : Array α} {x y : α} {l : List α} (h : a.toList = x :: y :: l) : a[1]? = some y := by
 rw [← Array.getElem?_toList, h]; rfl
theorem sData_sim (ts : Array TypeId) (ty : TypeId) {x x' : Value} (hR : Rel i s w) (hx : VR i x x') {v : Value} {s' : AS} (h : sDataA s x = some (v, s')) : Sim E i s w (Builtin.unsafeSliceData_ ts ty #[x']) v s' := by
 unfold sDataA at h
 split at h
 ·cases h
  cases hx
  exact Sim.ofPure hR (v' := .pointer none) rfl .nilp
 ·rename_i a n c
  cases hc : Nat.beq (c / 2) 0 with
  | true => rw [hc] at h; cases h
  | false =>
   rw [hc] at h
   cases h
   have hc0 : c / 2 ≠ 0 := fun e => by rw [e] at hc; cases hc
   cases hx with
   | @slice b o q t _ _ p c' hi h1 h2 h3 h4 h5 =>
    obtain rfl := h4.resolve_right (by omega)
    exact Sim.ofPure hR (Lib.run_unsafeSliceData_row w ts ty _ n c' (by omega)) (.ptr hi)
 ·cases h
theorem run_loadBytesN {P : Program} {w : World} : ∀ (ns : List Int) (q p : Nat) (acc : ByteArray), (∀ j n, ns[j]? = some n → w.cell? ⟨q, p + j, none⟩ = some (.int .u8 n)) →
  (loadBytes ⟨q, p, none⟩ acc ns.length).run P w = .ok ⟨⟨acc.data.toList ++ ns.map fun n => UInt8.ofNat n.toNat⟩⟩ w
 | [], q, p, acc, _ => by simp [loadBytes]
 | n :: ns, q, p, acc, h => by
  have h0 : w.cell? ⟨q, p, none⟩ = some (.int .u8 n) := by simpa using h 0 n rfl
  have ih := run_loadBytesN (P := P) (w := w) ns q (p + 1) (acc.push n.toNat.toUInt8) (fun j m hj => by
   have := h (j + 1) m (by simpa using hj)
   rw [show p + 1 + j = p + (j + 1) by omega]
   exact this)
  simp only [List.length_cons, loadBytes, Sem.run_bind, run_load, h0, Result.andThen_ok, add_none]
  rw [ih]
  congr 2
  apply Array.ext'
  simp [ByteArray.push]
theorem uStr_sim (hT : TyOk E) (t it : TypeId) (ty : TypeId) {x y x' y' : Value} (hR : Rel i s w) (hx : VR i x x') (hy : VR i y y') {v : Value} {s' : AS} (h : uStrA E s t x y = some (v, s')) :
  Sim E i s w (Builtin.unsafeString_ #[t, it] ty #[x', y']) v s' := by
 have hmax : IntKind.i64.max = 9223372036854775807 := rfl
 unfold uStrA at h
 split at h
 ·rename_i m pa ti ht
  cases hy
  cases hm : Nat.beq m 0 with
  | true =>
   rw [hm] at h
   cases h
   obtain rfl : m = 0 := by simpa using hm
   cases hx with
   | nilp => exact Sim.ofPure hR (v' := .string .empty) (Lib.run_unsafeString_none w t it ty none) (.string _)
   | ptr hi => exact Sim.ofPure hR (v' := .string .empty) (Lib.run_unsafeString_none w t it ty _) (.string _)
  | false =>
   rw [hm, cond_false] at h
   have hm0 : m ≠ 0 := fun e => by rw [e] at hm; cases hm
   split at h
   ·rename_i a e hdesc
    split at h
    ·rename_i j c k z hj hb
     cases hcond : (Nat.beq j.size 1 && Nat.beq (ze z) (e + 1) && Nat.ble m small) with
     | false => rw [hcond] at h; cases h
     | true =>
      rw [hcond, cond_true] at h
      simp only [Bool.and_eq_true, Nat.beq_eq, Nat.ble_eq] at hcond
      obtain ⟨⟨k1, k2⟩, k3⟩ := hcond
      split at h
      ·rename_i l hl
       split at h
       ·rename_i bs hbs
        cases h
        cases hx with
        | @ptr b o q tt hi =>
         obtain ⟨cs, e1, fr, g1, g2, g3, g4, g5⟩ := hR.at (P := E.P) hb rfl hi
         obtain ⟨f1, _⟩ := g5 (by rw [k2]; exact Nat.succ_ne_zero _)
         have he : e1 = e := by rw [k2] at f1; exact Nat.succ.inj f1
         subst he
         obtain ⟨info, q1, _, q3, _⟩ := hT.ty e1 j hj
         have hcell : E.P.cellsOf e1 = 1 := by simp [Program.cellsOf, q1, q3, k1]
         obtain ⟨l', r1, r2, r3⟩ := hR.rdC hb hl hi g1
         obtain ⟨ns, s1, s2⟩ := toBytes_spec r1 hbs
         have hnl : ns.length = m := by
          have := r1.length
          rw [s1, List.length_map] at this
          omega
         have hle : tt + o + m ≤ cs.size := by
          have hh := hl
          unfold Go.Ax.rdN at hh
          rw [hb] at hh
          simp only at hh
          cases hbb : Nat.ble (o + m) k with
          | false => rw [hbb] at hh; cases hh
          | true =>
           have := Nat.le_of_ble_eq_true hbb
           omega
         have hload := run_loadBytesN (P := E.P) (w := w) ns q (tt + o) .empty (fun jj n hn => by
          have hjm : jj < m := by
           have := (List.getElem?_eq_some_iff.1 hn).1
           omega
          rw [cell_of g1, r3 jj hjm, s1, List.getElem?_map, hn]
          rfl)
         rw [hnl] at hload
         have hlies : liesAt E.P E.P.depth e1 (cs.size / E.P.cellsOf e1) (tt + o) e1 m = true := by
          have hd1 : E.P.depth = (2 * (E.P.types.size + Made.depth) + 1) + 1 := rfl
          rw [hd1]
          simp only [liesAt, Bool.or_eq_true]
          left
          rw [hd1]
          simp [rowAt, hcell, sameLayout, hle]
          exact .inl (Nat.mod_one _)
         have hsh : w.shape? q = some (e1, cs.size) := by unfold World.shape?; rw [g1]
         have htd : (underlying t).run E.P w = .ok (.pointer e1) w := by rw [run_und hT ht, hdesc]
         have h63 : ¬ (IntKind.i64.max < (m : Int)) := by
          rw [hmax]
          unfold small at k3
          omega
         have hneg : ¬ ((m : Int) < 0) := by omega
         have hupd := hR.upd (w' := w.freeze ⟨q, tt + o, none⟩ m) (o' := .dead) hb rfl rfl hi (fun kk hk => by
           unfold World.freeze
           rw [if_neg hm0]
           show (w.heap.modify q _)[kk]? = _
           rw [Array.getElem?_modify, if_neg (fun e => hk e.symm)])
          (by unfold World.freeze; rw [if_neg hm0]; show (w.heap.modify q _).size = _; simp) (by unfold World.freeze; rw [if_neg hm0]) (by unfold World.freeze; rw [if_neg hm0]) (by unfold World.freeze; rw [if_neg hm0])
          (fun h => by cases h)
         refine ⟨.string ⟨⟨bs⟩⟩, _, i, ?_, .string _, hupd.1, hupd.2⟩
         have htd' : (elemOf t).run E.P w = .ok e1 w := by simp [elemOf, htd]
         have hdef : Builtin.unsafeString_ #[t, it] ty #[.pointer (some ⟨q, tt + o, none⟩), .int .i64 (.ofNat m)] = (do
           let n ← asInt (.int .i64 (.ofNat m))
           if n < 0 then runtimePanic (.error "unsafe.String: len out of range")
           if n > IntKind.i64.max then unsupported (.unsafePointer "String: a length above the largest int")
           if n = 0 then pure (.string .empty)
           else if ← variablesAt ⟨q, tt + o, none⟩ (← elemOf t) n.toNat then do
            let s ← loadBytes ⟨q, tt + o, none⟩ .empty n.toNat
            freeze ⟨q, tt + o, none⟩ n.toNat
            pure (.string s)
           else unsupported (.unsafePointer "String: not so many bytes at ptr")) := rfl
         rw [hdef]
         have hmi : ¬ ((m : Int) = 0) := by omega
         simp [asInt, asIntOf, hneg, htd', variablesAt, hsh, hlies, hload, s2]
         rw [if_neg (by rw [← hmax]; exact h63), if_neg hm0]
       ·cases h
      ·cases h
    ·cases h
   ·cases h
 ·cases h
theorem builtin_sim (hT : TyOk E) (b : Builtin) (ts : Array TypeId) (ty : TypeId) (cs : Array Bool) {xs l' : List Value} (hR : Rel i s w) (hx : VRs i xs l') {v : Value} {s' : AS} (h : builtinA E s b ts.toList xs = some (v, s')) :
  SimN E i s w (builtin b ts ty cs ⟨l'⟩) v s' := by
 unfold builtinA at h
 split at h
 ·rename_i t tl x hts
  obtain _ | ⟨h1, h2⟩ := hx
  cases h2
  split at h
  ·cases h
  ·rename_i v' hv
   cases h
   exact (len_sim hT t ts ty hR h1 (get0 hts) hv).next
 ·rename_i t tl x hts
  obtain _ | ⟨h1, h2⟩ := hx
  cases h2
  split at h
  ·cases h
  ·rename_i v' hv
   cases h
   exact (cap_sim hT t ts ty hR h1 (get0 hts) hv).next
 ·rename_i t u tl x y hts
  obtain _ | ⟨h1, h2⟩ := hx
  obtain _ | ⟨h2, h3⟩ := h2
  cases h3
  exact (append_sim hT t u ts ty hR h1 h2 (get0 hts) (get1 hts) h).next
 ·rename_i t tl x y hts
  obtain _ | ⟨h1, h2⟩ := hx
  obtain _ | ⟨h2, h3⟩ := h2
  cases h3
  exact (copy_sim hT t ts ty hR h1 h2 (get0 hts) h).next
 ·rename_i x
  obtain _ | ⟨h1, h2⟩ := hx
  cases h2
  exact (sData_sim ts ty hR h1 h).next
 ·rename_i t it x y hts
  obtain _ | ⟨h1, h2⟩ := hx
  obtain _ | ⟨h2, h3⟩ := h2
  cases h3
  have : ts = #[t, it] := Array.ext' hts
  subst this
  exact (uStr_sim hT t it ty hR h1 h2 h).next
 ·rename_i t tl x hts
  obtain _ | ⟨h1, h2⟩ := hx
  cases h2
  exact (clear_sim hT t ts ty hR h1 (get0 hts) h).next
 ·rename_i t tl x y hts
  obtain _ | ⟨h1, h2⟩ := hx
  obtain _ | ⟨h2, h3⟩ := h2
  cases h3
  exact (delete_sim hT t ts ty hR h1 h2 (get0 hts) h).next
 ·rename_i x l
  obtain _ | ⟨h1, h2⟩ := hx
  split at h
  ·cases h
  ·rename_i v' hv
   cases h
   obtain ⟨z, g1, g2⟩ := fold_sim (w := w) (max2_sim E.P) h2 h1 hv
   exact (Sim.ofPure hR (m := Builtin.max_ ts ty ⟨_⟩) g1 g2).next
 ·rename_i x l
  obtain _ | ⟨h1, h2⟩ := hx
  split at h
  ·cases h
  ·rename_i v' hv
   cases h
   obtain ⟨z, g1, g2⟩ := fold_sim (w := w) (min2_sim E.P) h2 h1 hv
   exact (Sim.ofPure hR (m := Builtin.min_ ts ty ⟨_⟩) g1 g2).next
 ·cases h
theorem SimN.congr {m m' : Sem Next} {v : Value} {s' : AS} (h : SimN E i s w m v s') (e : m'.run E.P w = m.run E.P w) : SimN E i s w m' v s' := by
 obtain ⟨w', i', h1, h2, h3⟩ := h
 refine ⟨w', i', h1, h2, ?_⟩
 rw [e]
 exact h3
theorem hCall_sim (hT : TyOk E) (c : Call) (o : Oper) (ho : o.op = .call c) {tm : Tm} {ρ : Operand → Value} (hR : Rel i s w) (hρ : TR i tm ρ) {v : Value} {s' : AS} (h : hCall c E tm s = some (v, s')) :
  SimN E i s w (execOp ρ o) v s' := by
 unfold hCall at h
 split at h
 ·rename_i b hb
  split at h
  ·rename_i xs hxs
   have hx := hρ.evs hxs
   refine (builtin_sim hT b c.argTypes o.type (c.args.map fun | .const _ => true | _ => false) hR hx h).congr ?_
   unfold execOp
   rw [ho]
   simp only [resolve, hb, Sem.run_bind, Sem.run_pure, Result.andThen_ok, invoke]
   congr 2
   apply Array.ext'
   simp
  ·cases h
 ·cases h
theorem opA_sim (hT : TyOk E) (o : Oper) {tm : Tm} {ρ : Operand → Value} (hR : Rel i s w) (hρ : TR i tm ρ) {v : Value} {s' : AS} (h : opA o.op E tm s = some (v, s')) :
  SimN E i s w (execOp ρ o) v s' := by
 unfold opA at h
 cases ho : o.op <;> rw [ho] at h <;> simp only at h
 case call c => exact hCall_sim hT c o ho hR hρ h
 case nilCheck x => exact hNilCheck_sim o x hR hρ ho h
 all_goals first
  | (cases h; done)
  | (unfold execOp; rw [ho]; first
    | exact hMove_sim _ hR hρ h
    | exact hPick_sim _ _ _ hR hρ h
    | exact (hAlloc_sim hT _ hR h).next
    | exact (hBox_sim _ _ hR hρ h).next
    | exact (hBuild_sim hT _ _ hR hρ h).next
    | exact (hBuildSlice_sim hT _ _ _ hR hρ h).next
    | exact (hLoad_sim hT _ _ hR hρ h).next
    | (obtain ⟨g, rfl⟩ := hStore_sim hT _ _ _ hR hρ h; exact g.next)
    | exact (hBin_sim hT _ _ _ _ hR hρ h).next
    | exact (hUn_sim _ _ hR hρ h).next
    | exact (hConv_sim hT _ _ _ hR hρ h).next
    | exact (hIface_sim hT _ _ hR hρ h).next
    | exact (hFunc_sim _ _ _ hR hρ h).next
    | exact (hMap_sim hT _ _ hR hρ h).next
    | exact (hMakeSlice_sim hT _ _ _ hR hρ h).next
    | exact (hSlice_sim hT _ _ _ _ _ hR hρ h).next
    | exact (hFieldAddr_sim hT _ _ _ hR hρ h).next
    | exact (hField_sim hT _ _ _ hR hρ h).next
    | exact (hIndexAddr_sim hT _ _ _ hR hρ h).next
    | exact (hIndex_sim hT _ _ _ hR hρ h).next
    | exact (hLookup_sim hT _ _ _ _ hR hρ h).next
    | (obtain ⟨g, rfl⟩ := hMapUpdate_sim hT _ _ _ _ hR hρ h; exact g.next)
    | exact (hRange_sim hT _ _ hR hρ h).next
    | exact (hNext_sim _ _ _ hR hρ h).next
    | exact (hAssert_sim hT _ _ _ _ hR hρ h).next
    | exact (hExtract_sim _ _ hR hρ h).next)
end
end Go.Ax
/- The abstract machine's code and the model's: operations one behind the other, code, calls. -/
namespace Go.Ax
open Go
section
variable {E : Env} {i : Io} {s : AS} {w : World}
def TmR (i : Io) (tm : Tm) (ts : Array Value) : Prop := ∀ k v, tm.get k = some v → VR i v (ts.getD k undef)
theorem TmR.mono {i j : Io} {tm : Tm} {ts : Array Value} (h : TmR i tm ts) (hle : Le i j) : TmR j tm ts := fun k v e => (h k v e).mono hle
theorem cst_sim {v u : Value} (h : cst v = some u) : VR i u v := by
 unfold cst at h
 split at h <;> first | (cases h; done) | skip
 ·cases h; exact .int _ _
 ·cases h; exact .bool _
 ·cases h; exact .string _
 ·cases h; exact .nilp
 ·cases h; exact .nils rfl
 ·cases h; exact .nilm
 ·cases h; exact .nilFunc
 ·cases h; exact .nilIface
 ·cases h; exact .float _ _
theorem TmR.tr {tm : Tm} {a : Act} (hg : Gl i) (h : TmR i tm a.tmps) : TR i tm a.eval := by
 intro x v e
 cases x with
 | tmp k => exact h k v e
 | const c => exact cst_sim e
 | global g =>
  unfold ev at e
  simp only at e
  cases hb : Nat.blt g 1000 with
  | false => rw [hb] at e; cases e
  | true =>
   rw [hb] at e
   cases e
   have hlt : g < 1000 := by simpa [Nat.blt_eq] using hb
   have := VR.ptr (o := 0) (hg g hlt)
   exact this
 | func f => cases e; exact .func _ .nil .nil
theorem TmR.put {tm tm' : Tm} {a : Act} {N : Nat} {dst : Option Tmp} {v v' : Value} (h : TmR i tm a.tmps) (hN : N < a.tmps.size) (hv : VR i v v') (hp : putA N tm dst v = some tm') : TmR i tm' (a.put dst v').tmps := by
 cases dst with
 | none => cases hp; exact h
 | some d =>
  unfold putA at hp
  simp only at hp
  cases hb : Nat.ble d N with
  | false => rw [hb] at hp; cases hp
  | true =>
   rw [hb] at hp
   cases hp
   have hle : LE.le (α := Nat) d N := by simpa using hb
   have hlt : LT.lt (α := Nat) d a.tmps.size := Nat.lt_of_le_of_lt hle hN
   intro k u e
   rw [T.get_set] at e
   show VR i u ((a.tmps.setIfInBounds d v').getD k undef)
   rw [Array.getD_eq_getD_getElem?, Array.getElem?_setIfInBounds]
   by_cases hk : k = d
   ·subst hk
    rw [if_pos rfl] at e
    cases e
    rw [if_pos rfl, if_pos hlt]
    exact hv
   ·rw [if_neg hk] at e
    rw [if_neg (fun h => hk h.symm), ← Array.getD_eq_getD_getElem?]
    exact h k u e
theorem put_size (a : Act) (dst : Option Tmp) (v : Value) : (a.put dst v).tmps.size = a.tmps.size := by
 cases dst <;> simp [Act.put]
theorem put_defers (a : Act) (dst : Option Tmp) (v : Value) : (a.put dst v).defers = a.defers := by
 cases dst <;> rfl
def RetR (i : Io) (s : AS) (w : World) (v : Value) (s' : AS) : Ending → World → Prop
 | .returned v', w' => ∃ i', VR i' v v' ∧ Rel i' s' w' ∧ Fr i s w i' s' w'
 | _, _ => False
def FSim (P : Program) (f : FuncId) (args' : List Value) (i : Io) (s : AS) (w : World) (v : Value) (s' : AS) : Prop :=
 (∃ v' w' i', (callFunc f ⟨args'⟩).run P w = .ok (.value v') w' ∧ VR i' v v' ∧ Rel i' s' w' ∧ Fr i s w i' s' w') ∨
 ((callFunc f ⟨args'⟩).run P w = .ok (.enter f ⟨args'⟩) w ∧ Calls P f ⟨args'⟩ w (RetR i s w v s'))
def CallOk (P : Program) (call : CallF) : Prop :=
 ∀ f args s v s', call f args s = some (v, s') → ∀ i w args', Rel i s w → Gl i → VRs i args args' → FSim P f args' i s w v s'
theorem calls_next {P : Program} {o : Oper} {a : Act} {next : Act → World → Prop} {Q : Exit → Act → World → Prop} {f : FuncId} {args : Array Value} {v : Value} {s' : AS}
  (hc : Calls P f args w (RetR i s w v s')) (hk : ∀ v' w' i', VR i' v v' → Rel i' s' w' → Fr i s w i' s' w' → next (a.put o.dst v') w') : o.upon P a next Q (.ok (.enter f args) w) := by
 refine Calls.mono hc (fun e w'' he => ?_)
 cases e with
 | returned v' =>
  obtain ⟨i', h1, h2, h3⟩ := he
  exact hk v' w'' i' h1 h2 h3
 | panicked c => exact he.elim
 | outgrown => exact he.elim
theorem SimN.wp {o : Oper} {a : Act} {v : Value} {s' : AS} {next : Act → World → Prop} {Q : Exit → Act → World → Prop} (h : SimN E i s w (execOp a.eval o) v s')
  (hk : ∀ v' w' i', VR i' v v' → Rel i' s' w' → Fr i s w i' s' w' → next (a.put o.dst v') w') : o.wp E.P a w next Q := by
 obtain ⟨w', i', h1, h2, h3⟩ := h
 unfold Oper.wp
 rcases h3 with ⟨v', hr, hv⟩ | ⟨hr, hv⟩
 ·rw [hr]
  exact hk v' w' i' hv h1 h2
 ·rw [hr]
  subst hv
  exact hk undef w' i' (.undef i') h1 h2
theorem execA_wp (hT : TyOk E) {call : CallF} (hC : CallOk E.P call) (o : Oper) {tm : Tm} {a : Act} (hR : Rel i s w) (hg : Gl i) (hρ : TR i tm a.eval) {v : Value} {s' : AS} (h : execA o.op E call tm s = some (v, s'))
  {next : Act → World → Prop} {Q : Exit → Act → World → Prop} (hk : ∀ v' w' i', VR i' v v' → Rel i' s' w' → Fr i s w i' s' w' → next (a.put o.dst v') w') : o.wp E.P a w next Q := by
 have hop : ∀ {v s'}, opA o.op E tm s = some (v, s') → (∀ v' w' i', VR i' v v' → Rel i' s' w' → Fr i s w i' s' w' → next (a.put o.dst v') w') → o.wp E.P a w next Q := fun h hk => (opA_sim hT o hR hρ h).wp hk
 cases ho : o.op
 case call c =>
  rw [ho] at h
  unfold execA callC at h
  simp only at h
  split at h
  ·rename_i f hf
   unfold callV at h
   split at h
   ·rename_i g first captured xs hfv hxs
    have h1 := hρ f _ hfv
    generalize hgf : a.eval f = f' at h1
    cases h1 with | @func _ fa fa' fc fc' h1 h2 =>
    have h3 := hρ.evs hxs
    have hargs := (h1.append h3).append h2
    have hF := hC _ _ _ _ _ h i w _ hR hg hargs
    have hrun : (execOp a.eval o).run E.P w = (callFunc g ⟨fa' ++ c.args.toList.map a.eval ++ fc'⟩).run E.P w := by
     unfold execOp
     rw [ho]
     simp only [resolve, hf, hgf, Deferred.ofValue, Sem.run_bind, Sem.run_pure, Result.andThen_ok, invoke]
     congr 2
     apply Array.ext'
     simp
    unfold Oper.wp
    rw [hrun]
    rcases hF with ⟨v', w', i', q1, q2, q3, q4⟩ | ⟨q1, q2⟩
    ·rw [q1]; exact hk v' w' i' q2 q3 q4
    ·rw [q1]; exact calls_next q2 hk
   ·cases h
  ·exact hop (by unfold opA; rw [ho]; exact h) hk
 all_goals
  refine hop ?_ hk
  rw [ho] at h ⊢
  exact h
end
end Go.Ax
