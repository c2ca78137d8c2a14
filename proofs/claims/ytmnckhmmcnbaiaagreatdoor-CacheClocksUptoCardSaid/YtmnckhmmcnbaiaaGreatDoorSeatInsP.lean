/- slices.Insert of pairs, for the machine. -/
import Derived.Test.YtmnckhmmcnbaiaaGreatDoorSeatIns
import Derived.Test.YtmnckhmmcnbaiaaGreatDoorAxF
set_option linter.unusedSimpArgs false
set_option linter.unusedVariables false
namespace Go.Proofs
open Go Go.RowKit Go.Lib Go.Ax

noncomputable def insP : List Value → AS → Option (Value × AS)
  | [.slice (some ⟨a, o, none⟩) n c, .int .i64 (.ofNat k), .slice (some ⟨vb, vo, none⟩) m vc], s => match s.h.get a, s.h.get vb with
    | some (.cells ca na za), some (.cells cv nv zv) =>
      bif Nat.beq (zs za) 2 && (Nat.beq (za % 2) 0 && (Nat.beq (zv % 2) 0 && (Nat.ble 1 m && (Nat.blt k n && (Nat.ble (n + m) 1000000 && (!Nat.beq a vb && (Nat.beq (c % 2) 0 && Nat.ble 1 nv))))))) then
        (match Go.Ax.rdN s a o (n * 2), Go.Ax.rdN s vb vo (m * 2) with
        | some l, some r => bif ones l && ones r then some (.slice (some ⟨s.nx, 0, none⟩) (n + m) (2 * (n + m)), (s.upd a .dead).rowz (zg 2 za 230) (l.take (k * 2) ++ (r ++ l.drop (k * 2)))) else none
        | _, _ => none) else none
    | _, _ => none
  | _, _ => none

/-- The three pieces. -/
theorem three_get {l r : List Value} {n m k : Nat} (hl : l.length = n * 2) (hr : r.length = m * 2) (hk : k < n) (j : Nat) (hj : j < (n + m) * 2) :
    (l.take (k * 2) ++ (r ++ l.drop (k * 2)))[j]? = if j < k * 2 then l[j]? else if j < (k + m) * 2 then r[j - k * 2]? else l[j - m * 2]? := by
  rw [List.getElem?_append, List.length_take, hl]
  have : min (k * 2) (n * 2) = k * 2 := by omega
  rw [this]
  split
  · rw [List.getElem?_take, if_pos (by assumption)]
  · rw [List.getElem?_append, hr]
    split
    · rw [if_pos (by omega)]
    · rw [if_neg (by omega), List.getElem?_drop]
      congr 1
      omega

theorem ones_cell2 {l : List Value} (h : ones l = true) : ∀ u ∈ l, u.oneCell' = true := by
  induction l with
  | nil => intro u hu; cases hu
  | cons v l ih =>
    simp only [ones, Bool.and_eq_true] at h
    intro u hu
    rcases List.mem_cons.1 hu with rfl | hu
    · cases u <;> first | rfl | cases h.1
    · exact ih h.2 u hu
theorem enter250 (args : Array Value) (w : World) : (callFunc 250 args).run Tryz.prog w = .ok (.enter 250 args) w := by
  unfold callFunc
  have hf : Tryz.prog.funcs[250]? = some Tryz.f250 := Tryz.func250
  have hn : Tryz.f250.name ≠ "runtime.NumGoroutine" := by
    have : (Tryz.f250.name == "runtime.NumGoroutine") = false := by kernel_rfl
    simpa using this
  have hb : Tryz.f250.body ≠ none := by
    have : Tryz.f250.body.isNone = false := by kernel_rfl
    intro h; rw [h] at this; cases this
  simp [hf, hn, hb]

theorem VRs.three {i : Io} {l l' r r' : List Value} (hl : VRs i l l') (hr : VRs i r r') (k : Nat) : VRs i (l.take k ++ (r ++ l.drop k)) (l'.take k ++ (r' ++ l'.drop k)) :=
  (hl.take k).append (hr.append (hl.drop k))

theorem ins_ok : POk Tryz.prog 250 insP := by
  intro args s v s' h i w args' hR hg ha
  unfold insP at h
  split at h
  · rename_i a o n c k vb vo m vc
    split at h
    · rename_i ca na za cv nv zv hba hbv
      cases hb : (Nat.beq (zs za) 2 && (Nat.beq (za % 2) 0 && (Nat.beq (zv % 2) 0 && (Nat.ble 1 m && (Nat.blt k n && (Nat.ble (n + m) 1000000 && (!Nat.beq a vb && (Nat.beq (c % 2) 0 && Nat.ble 1 nv)))))))) with
      | false => rw [hb] at h; cases h
      | true =>
        rw [hb, cond_true] at h
        simp only [Bool.and_eq_true, Nat.blt_eq, Nat.ble_eq, Nat.beq_eq, Bool.not_eq_true'] at hb
        obtain ⟨hza, hz2, hzv, hm1, hkn, hnm, hne, hc2, hnv⟩ := hb
        have hne' : a ≠ vb := fun e => by subst e; rw [Nat.beq_refl] at hne; cases hne
        split at h
        · rename_i l r hl hr
          cases ho : (ones l && ones r) with
          | false => rw [ho] at h; cases h
          | true =>
            rw [ho, cond_true] at h
            cases h
            simp only [Bool.and_eq_true] at ho
            cases ha with | cons a1 ha =>
            cases ha with | cons a2 ha =>
            cases ha with | cons a3 ha =>
            cases ha
            cases a2
            cases a1 with | @slice _ _ q t _ _ p c' hia x1 x2 x3 x4 x5 =>
            cases a3 with | @slice _ _ qv tv _ _ pv vc' hiv y1 y2 y3 y4 y5 =>
            have hp : p = t + o := x4.resolve_right (by omega)
            have hpv : pv = tv + vo := y4.resolve_right (by omega)
            subst hp hpv
            obtain ⟨cs, e, fr, h1, h2, h3, h4, h5⟩ := hR.at (P := default) hba rfl hia
            obtain ⟨cs2, e2, fr2, g1, g2, g3, g4, g5⟩ := hR.at (P := default) hbv rfl hiv
            have hfr : fr.1 = fr.2 := h3.resolve_right (fun h => by omega)
            have hfr2 : fr2.1 = fr2.2 := g3.resolve_right (fun h => by omega)
            obtain ⟨l', l1, l2, l3⟩ := hR.rdC hba hl hia h1
            obtain ⟨r', r1, r2, r3⟩ := hR.rdC hbv hr hiv g1
            have hl' : l'.length = n * 2 := by rw [← l1.length]; exact l2
            have hr' : r'.length = m * 2 := by rw [← r1.length]; exact r2
            have hqv : qv ≠ q := fun e => by subst e; exact hne' (hR.inj a vb _ _ _ _ _ hba hbv rfl rfl hia hiv)
            obtain ⟨m1, m2⟩ := hR.lim a ca na za q t hba hia
            have hroomA := m2 cs e fr h1
            have hcell : ∀ (b : Nat) (cs : Array Value) (e : TypeId) (fr : Nat × Nat), w.heap[b]? = some (.cells cs e fr) → ∀ j, w.cell? ⟨b, j, none⟩ = cs[j]? := fun b cs e fr hb j => by simp [World.cell?, hb]
            have hfroz : ∀ (b : Nat) (cs : Array Value) (e : TypeId) (fr : Nat × Nat), w.heap[b]? = some (.cells cs e fr) → fr.1 = fr.2 → ∀ j, w.frozen? ⟨b, j, none⟩ = false := fun b cs e fr hb hf j => by
              unfold World.frozen?
              simp [hb, hf]
              try omega
            have hcs : ∀ j v, l'[j]? = some v → w.cell? ⟨q, t + o + j, none⟩ = some v := fun j v hj => by
              have hjn := (List.getElem?_eq_some_iff.1 hj).1
              rw [hcell q cs e fr h1, l3 j (by omega)]; exact hj
            have hvs : ∀ j v, r'[j]? = some v → w.cell? ⟨qv, tv + vo + j, none⟩ = some v := fun j v hj => by
              have hjn := (List.getElem?_eq_some_iff.1 hj).1
              rw [hcell qv cs2 e2 fr2 g1, r3 j (by omega)]; exact hj
            have hL : ∀ j, j < (n + m) * 2 → (l'.take (k * 2) ++ (r' ++ l'.drop (k * 2)))[j]? = if j < k * 2 then l'[j]? else if j < (k + m) * 2 then r'[j - k * 2]? else l'[j - m * 2]? := fun j hj => three_get hl' hr' hkn j hj
            have hv := VRs.three l1 r1 (k * 2)
            have hLl : (l.take (k * 2) ++ (r ++ l.drop (k * 2))).length = (n + m) * 2 := by
              rw [hv.length]
              simp [hl', hr']
              omega
            obtain ⟨L, hLe⟩ : ∃ L, L = l.take (k * 2) ++ (r ++ l.drop (k * 2)) := ⟨_, rfl⟩
            obtain ⟨L', hLe'⟩ : ∃ L', L' = l'.take (k * 2) ++ (r' ++ l'.drop (k * 2)) := ⟨_, rfl⟩
            rw [← hLe, ← hLe'] at hv
            rw [← hLe] at hLl ⊢
            rw [← hLe'] at hL
            have hdl : (l'.drop (k * 2)).length = (n - k) * 2 := by rw [List.length_drop, hl']; omega
            rcases Nat.lt_or_ge c' (n + m) with hgrow | hroom
            · have hc := ins_grow q (t + o) n c' k qv (tv + vo) m vc' l' r' w hkn hm1 (by omega) hgrow (by omega) hl' hr' (block_lt_of_cell (hcs 0 _ (List.getElem?_eq_getElem (by omega)))) (block_lt_of_cell (hvs 0 _ (List.getElem?_eq_getElem (by omega)))) hcs hvs
                (ones_cell2 (by rw [l1.ones]; exact ho.1)) (ones_cell2 (by rw [r1.ones]; exact ho.2))
              refine .inr ⟨enter250 _ _, Calls.mono hc (fun e w' he => ?_)⟩
              obtain ⟨G, ROW, k1, k2, k3, k4, rfl, rfl⟩ := he
              obtain ⟨hRk, hFk⟩ := hR.kill hba
              obtain ⟨ca1, p1, p2, p3⟩ := setCells_row r' (k * 2) (w.alloc (.cells ROW 230)).drew ROW (World.alloc_heap_new w _)
              obtain ⟨ca2, p4, p5, p6⟩ := setCells_row (l'.drop (k * 2)) ((k + m) * 2) ((w.alloc (.cells ROW 230)).drew.setCells w.heap.size (k * 2) r').drew ca1 p1
              obtain ⟨w', hw'⟩ : ∃ w', w' = (((w.alloc (.cells ROW 230)).drew.setCells w.heap.size (k * 2) r').drew).setCells w.heap.size ((k + m) * 2) (l'.drop (k * 2)) := ⟨_, rfl⟩
              rw [← hw'] at p4 ⊢
              have hbel : Below w.heap.size w w' := by
                rw [hw']
                refine ⟨(setCells_rest _ _ _).1.trans (setCells_rest _ _ _).1, (setCells_rest _ _ _).2.1.trans (setCells_rest _ _ _).2.1, (setCells_rest _ _ _).2.2.trans (setCells_rest _ _ _).2.2, ?_, fun j hj => ?_⟩
                · rw [setCells_size]
                  show w.heap.size ≤ ((w.alloc (.cells ROW 230)).drew.setCells w.heap.size (k * 2) r').heap.size
                  rw [setCells_size]
                  show w.heap.size ≤ (w.alloc (.cells ROW 230)).heap.size
                  rw [World.size_alloc]
                  omega
                · refine (setCells_other _ _ _ j (by omega)).trans ((setCells_other _ _ _ j (by omega)).trans ?_)
                  exact Below.heap_alloc w _ j hj
              have hfin : ∀ j, j < L.length → ca2[0 + j]? = L'[j]? := fun j hj => by
                rw [hLl] at hj
                rw [Nat.zero_add, hL j hj, p6 j (by omega), hdl, p3 j (by omega), hr']
                by_cases j1 : j < k * 2
                · rw [if_neg (by omega), if_neg (by omega), if_pos j1]
                  have hj' : j < l'.length := by omega
                  rw [List.getElem?_eq_getElem hj']
                  exact k4 j _ (by rw [List.getElem?_take, if_pos j1, List.getElem?_eq_getElem hj'])
                · by_cases j2 : j < (k + m) * 2
                  · rw [if_neg (by omega), if_pos (by omega), if_neg j1, if_pos j2]
                  · rw [if_pos (by omega), if_neg j1, if_neg j2, List.getElem?_drop]
                    congr 1
                    omega
              have hle : Le i (ext i s.nx (w.heap.size, 0) (2, G * 2)) := ext_le (hR.fresh s.nx (Nat.le_refl _)).1
              obtain ⟨q1, q2⟩ := hRk.newAt (lm := (2, G * 2)) (o := .cells (T.e.fill 0 L) L.length (zg 2 za 230)) hbel (Nat.le_refl _) p4
                (OR.row (hv.mono hle) ca2 230 (0, 0) (zg 2 za 230) (fun hz => (zg_ze (by omega) hz).2.symm) (.inl rfl) 0 (by omega) hfin)
                (fun c n z h => by cases h; exact ⟨(zg_zs (by omega)).symm, fun cs e fr h => by cases h; show G * 2 ≤ ca2.size; omega⟩)
              exact ⟨_, .slice (t := 0) (ext_same _ _ _) (by omega) (by omega) (by omega) (.inl rfl) (fun _ _ => by rw [ext_lim]; omega), q1, hFk.trans q2⟩
            · have hc2' : t + o + c' * 2 ≤ cs.size := by
                have := x5 hc2 (by omega)
                rw [m1, hza] at this
                omega
              have hc := ins_shift q (t + o) n c' k qv (tv + vo) m vc' l' r' w hkn hm1 hroom hnm hqv hl' hr' hcs
                (fun j hj => by rw [hcell q cs e fr h1, Array.getElem?_eq_getElem (by omega)]; rfl) (fun j hj => hfroz q cs e fr h1 hfr _) hvs
                (ones_cell2 (by rw [l1.ones]; exact ho.1)) (ones_cell2 (by rw [r1.ones]; exact ho.2)) e2 e cs2.size cs.size (by unfold World.shape?; rw [g1]) (by unfold World.shape?; rw [h1]) (by omega) (hfroz qv cs2 e2 fr2 g1 hfr2 _) (hfroz qv cs2 e2 fr2 g1 hfr2 _)
              refine .inr ⟨enter250 _ _, Calls.mono hc (fun e' w' he => ?_)⟩
              obtain ⟨rfl, hw'⟩ := he
              obtain ⟨ca1, p1, p2, p3⟩ := setCells_row (l'.drop (k * 2)) (t + o + (k + m) * 2) w.drew cs (show w.drew.heap[q]? = _ from h1)
              obtain ⟨ca2, p4, p5, p6⟩ := setCells_row r' (t + o + k * 2) (w.drew.setCells q (t + o + (k + m) * 2) (l'.drop (k * 2))) ca1 p1
              rw [← hw'] at p4
              have hfin : ∀ j, j < L.length → ca2[t + o + j]? = L'[j]? := fun j hj => by
                rw [hLl] at hj
                rw [hL j hj, p6 _ (by omega), hr', p3 _ (by omega), hdl]
                by_cases j1 : j < k * 2
                · rw [if_neg (by omega), if_neg (by omega), if_pos j1, l3 j (by omega)]
                · by_cases j2 : j < (k + m) * 2
                  · rw [if_pos (by omega), if_neg j1, if_pos j2]
                    congr 1
                    omega
                  · rw [if_neg (by omega), if_pos (by omega), if_neg j1, if_neg j2, List.getElem?_drop]
                    congr 1
                    omega
              have hle : Le i (ext i s.nx (q, t + o) (i.lim a)) := ext_le (hR.fresh s.nx (Nat.le_refl _)).1
              have hzz : ze (zg 2 za 230) ≠ 0 → e + 1 = ze (zg 2 za 230) := fun hz => by
                obtain ⟨u1, u2⟩ := zg_ze (size := 2) (z := za) (e := 230) (by omega) hz
                rw [u2, ← u1]
                exact (h5 (by rw [u1]; omega)).1
              obtain ⟨q1, q2⟩ := hR.grow (w' := w') (p := t + o) (lm := i.lim a) (o := .cells (T.e.fill 0 L) L.length (zg 2 za 230)) hba hia
                (fun j hj => by rw [hw']; exact (setCells_other _ _ _ j hj).trans (setCells_other _ _ _ j hj))
                (by rw [hw', setCells_size, setCells_size]; rfl)
                (by rw [hw']; exact (setCells_rest _ _ _).1.trans (setCells_rest _ _ _).1) (by rw [hw']; exact (setCells_rest _ _ _).2.1.trans (setCells_rest _ _ _).2.1) (by rw [hw']; exact (setCells_rest _ _ _).2.2.trans (setCells_rest _ _ _).2.2)
                (by rw [p4]; exact OR.row (hv.mono hle) ca2 e fr (zg 2 za 230) hzz (.inl hfr) (t + o) (by omega) hfin (.inr (by rw [zg_zs (by omega)]; omega)))
                (fun c n z h => by cases h; exact ⟨by rw [zg_zs (by omega), m1, hza], fun cs' e' fr' h => by rw [p4] at h; cases h; omega⟩)
              exact ⟨_, .slice (o := 0) (t := t + o) (ext_same _ _ _) (by omega) (by omega) (by omega) (.inl rfl) (fun _ h0 => by rw [ext_lim]; exact x5 hc2 h0), q1, q2⟩
        · cases h
    · cases h
  · cases h
end Go.Proofs
