/- flash.Read, for the machine. -/
import Derived.Test.YtmnckhmmcnbaiaaGreatDoorSeatRead
import Derived.Test.YtmnckhmmcnbaiaaGreatDoorAxF
set_option linter.unusedSimpArgs false
set_option linter.unusedVariables false
namespace Go.Proofs
open Go Go.RowKit Go.Lib Go.Ax

/-- A row that is copied. -/
noncomputable def cpRow (s : AS) (l : List Value) : Value × AS := (.tuple ⟨[.slice (some ⟨s.nx, 0, none⟩) l.length (2 * l.length), .int .i64 (.ofNat 0)]⟩, s.rowz (tz 1 5) l)
noncomputable def errV (n : Nat) : Value := .tuple ⟨[.slice none 0 1, .int .i64 (.ofNat n)]⟩
noncomputable def readP : List Value → AS → Option (Value × AS)
  | [.pointer (some ⟨p, o, none⟩), .int .i64 (.ofNat k)], s => match Go.Ax.rdN s p o 3 with
    | some [.slice (some ⟨sb, so, none⟩) n _, .slice (some ⟨wb, wo, none⟩) m _, .bool false] =>
      bif Nat.blt k n && (Nat.ble m 1000000 && Nat.ble 1 m) then (match Go.Ax.rdN s sb (so + k * 2) 2 with
        | some [.slice x sn _, .bool torn] => match scanS s wb wo k m with
          | none => none
          | some (some l) => some (cpRow s l)
          | some none => bif torn then some (errV 3, s) else (match x with
            | none => bif Nat.beq sn 0 then some (.tuple ⟨[.slice (some ⟨s.nx, 0, none⟩) 256 513, .int .i64 (.ofNat 0)]⟩, s.rowz (tz 1 5) (Go.Ax.rep 256 [.int .u8 (.ofNat 0)])) else none
            | some ⟨b, o, none⟩ => bif Nat.ble sn 1000000 then (match Go.Ax.rdN s b o sn with
              | some l => bif ones l then some (cpRow s l) else none
              | none => none) else none
            | _ => none)
        | _ => none) else none
    | _ => none
  | _, _ => none

theorem cp_sim {i : Io} {s : AS} {w w' : World} (hR : Rel i s w) {l l' : List Value} (hv : VRs i l l') (hb : Below w.heap.size w w') {v' : Value} (ho : w'.ownsRow w.heap.size 5 1 v' l'.length l') (hn : v' ≠ .slice none 0 0) :
    ∃ i', VR i' (cpRow s l).1 (.tuple #[v', .int .i64 0]) ∧ Rel i' (cpRow s l).2 w' ∧ Fr i s w i' (cpRow s l).2 w' := by
  obtain ⟨_, ho⟩ := ho
  rcases ho with ⟨h, _⟩ | ⟨g, cap, cur, rfl, h2, h3, h4, h5, h6, h7⟩
  · exact absurd h hn
  · have hle : Le i (ext i s.nx (g, 0) (1, cap)) := ext_le (hR.fresh s.nx (Nat.le_refl _)).1
    have hcs : ∀ k, k < l.length → cur[0 + k]? = l'[k]? := fun k hk => by
      have hk' : k < l'.length := by rw [← hv.length]; exact hk
      rw [Nat.zero_add, ← Array.getElem?_toList]
      have := congrArg (fun x => x[k]?) h7
      simp only [List.getElem?_take, Nat.mul_one, hk', if_true] at this
      exact this
    have h6' : cur.size = cap := by rw [h6, Nat.mul_one]
    obtain ⟨k1, k2⟩ := hR.newAt (lm := (1, cap)) (o := .cells (T.e.fill 0 l) l.length (tz 1 5)) hb h2 h3 (OR.row (hv.mono hle) cur 5 (0, 0) (tz 1 5) (fun _ => by rw [tz_ze (by omega)]) (.inl rfl) 0 (by rw [hv.length]; omega) hcs)
      (fun c n z h => by cases h; exact ⟨(tz_zs (by omega)).symm, fun cs e fr h => by cases h; exact Nat.le_of_eq h6'.symm⟩)
    refine ⟨_, ?_, k1, k2⟩
    refine .tuple (.cons ?_ (.cons (.int _ _) .nil))
    refine hv.length ▸ ?_
    exact .slice (t := 0) (ext_same _ _ _) (by omega) (by omega) (by rw [hv.length]; omega) (.inl rfl) (fun _ _ => by rw [ext_lim]; omega)

/-- A waiting write, in the world. -/
structure WaitW (i : Io) (s : AS) (w : World) (wb wo q t k j : Nat) (a : Nat) (x : Option Addr) (n c : Nat) (x' : Option Addr) (n' c' : Nat) (zs : List Value) : Prop where
  at_ : WaitAt s wb wo k j a x n c
  c0 : w.cell? ⟨q, t + wo + 2 * j, none⟩ = some (.int .i64 a)
  c1 : w.cell? ⟨q, t + wo + 2 * j + 1, none⟩ = some (.slice x' n' c')
  ok : a = k → ∃ b o l b' o', x = some ⟨b, o, none⟩ ∧ Go.Ax.rdN s b o n = some l ∧ VRs i l zs ∧ x' = some ⟨b', o', none⟩ ∧ n' = zs.length ∧ b' < w.heap.size ∧ zs.length ≤ 1000000 ∧ (∀ u ∈ zs, u.oneCell' = true) ∧ ∀ m (h : m < zs.length), w.cell? ⟨b', o' + m, none⟩ = some zs[m]

theorem ones_cell {l : List Value} (h : ones l = true) : ∀ u ∈ l, u.oneCell' = true := by
  induction l with
  | nil => intro u hu; cases hu
  | cons v l ih =>
    simp only [ones, Bool.and_eq_true] at h
    intro u hu
    rcases List.mem_cons.1 hu with rfl | hu
    · cases u <;> first | rfl | cases h.1
    · exact ih h.2 u hu

/-- The bytes of a slice that the machine can read. -/
theorem sliceRow {i : Io} {s : AS} {w : World} (hR : Rel i s w) {b o n c : Nat} {l : List Value} {v' : Value} (hv : VR i (.slice (some ⟨b, o, none⟩) n c) v') (hr : Go.Ax.rdN s b o n = some l) (ho : ones l = true) (hn : n ≤ 1000000) :
    ∃ b' o' c' zs, v' = .slice (some ⟨b', o', none⟩) zs.length c' ∧ VRs i l zs ∧ b' < w.heap.size ∧ zs.length ≤ 1000000 ∧ (∀ u ∈ zs, u.oneCell' = true) ∧ ∀ m (h : m < zs.length), w.cell? ⟨b', o' + m, none⟩ = some zs[m] := by
  cases hv with
  | @slice _ _ q t _ _ p c' hi x1 x2 x3 x4 x5 =>
    obtain ⟨zs, g1, g2, g3⟩ := hR.cellsN hr hi
    have hq : q < w.heap.size := hR.dom b q t hi (.inl (fun e => by unfold Go.Ax.rdN at hr; rw [e] at hr; cases hr))
    refine ⟨q, p, c', zs, by rw [g2], g1, hq, by omega, ones_cell (by rw [g1.ones]; exact ho), fun m hm => ?_⟩
    rcases x4 with rfl | h0
    · exact g3 m hm
    · omega

theorem waitW {i : Io} {s : AS} {w : World} (hR : Rel i s w) {wb wo q t k j a n c : Nat} {x : Option Addr} (hi : i wb = some (q, t)) (h : WaitAt s wb wo k j a x n c) : ∃ x' n' c' zs, WaitW i s w wb wo q t k j a x n c x' n' c' zs := by
  obtain ⟨l', g1, g2, g3⟩ := hR.cellsN h.at_ hi
  cases g1 with | cons v1 g1 =>
  cases g1 with | @cons _ y _ _ v2 g1 =>
  cases g1
  cases v1
  have e0 := g3 0 (by simp)
  have e1 := g3 1 (by simp)
  simp only [List.getElem_cons_zero, List.getElem_cons_succ, Nat.add_zero] at e0 e1
  have hc0 : w.cell? ⟨q, t + wo + 2 * j, none⟩ = some (.int .i64 a) := by rw [Nat.add_assoc t wo]; exact e0
  by_cases hk : a = k
  · obtain ⟨b, o, l, rfl, hn, hl, ho⟩ := h.ok hk
    obtain ⟨b', o', c', zs, rfl, p1, p2, p3, p4, p5⟩ := sliceRow hR v2 hl ho hn
    exact ⟨some ⟨b', o', none⟩, zs.length, c', zs, h, hc0, by rw [Nat.add_assoc t wo]; exact e1, fun _ => ⟨b, o, l, b', o', rfl, hl, p1, rfl, rfl, p2, p3, p4, p5⟩⟩
  · have hs : ∃ x' n' c', y = .slice x' n' c' := by cases v2 <;> exact ⟨_, _, _, rfl⟩
    obtain ⟨x', n', c', rfl⟩ := hs
    exact ⟨x', n', c', [], h, hc0, by rw [Nat.add_assoc t wo]; exact e1, fun e => absurd e hk⟩

/-- The waiting writes, chosen. -/
theorem waits_all {i : Io} {s : AS} {w : World} (hR : Rel i s w) {wb wo q t k m : Nat} (hi : i wb = some (q, t)) (h : ∀ j, j < m → ∃ a x n c, WaitAt s wb wo k j a x n c) :
    ∃ (fa : Nat → Nat) (fx : Nat → Option Addr) (fn fc : Nat → Nat) (gx : Nat → Option Addr) (gn gc : Nat → Nat) (gz : Nat → List Value), ∀ j, j < m → WaitW i s w wb wo q t k j (fa j) (fx j) (fn j) (fc j) (gx j) (gn j) (gc j) (gz j) := by
  have h' : ∀ j : Nat, ∃ z : Nat × Option Addr × Nat × Nat × Option Addr × Nat × Nat × List Value, j < m → WaitW i s w wb wo q t k j z.1 z.2.1 z.2.2.1 z.2.2.2.1 z.2.2.2.2.1 z.2.2.2.2.2.1 z.2.2.2.2.2.2.1 z.2.2.2.2.2.2.2 := by
    intro j
    by_cases hj : j < m
    · obtain ⟨a, x, n, c, hw⟩ := h j hj
      obtain ⟨x', n', c', zs, hw'⟩ := waitW hR hi hw
      exact ⟨⟨a, x, n, c, x', n', c', zs⟩, fun _ => hw'⟩
    · exact ⟨⟨0, none, 0, 0, none, 0, 0, []⟩, fun e => absurd e hj⟩
  obtain ⟨f, hf⟩ := Classical.axiomOfChoice h'
  exact ⟨fun j => (f j).1, fun j => (f j).2.1, fun j => (f j).2.2.1, fun j => (f j).2.2.2.1, fun j => (f j).2.2.2.2.1, fun j => (f j).2.2.2.2.2.1, fun j => (f j).2.2.2.2.2.2.1, fun j => (f j).2.2.2.2.2.2.2, hf⟩

theorem enter23 (args : Array Value) (w : World) : (callFunc 23 args).run Tryz.prog w = .ok (.enter 23 args) w := by
  unfold callFunc
  have hf : Tryz.prog.funcs[23]? = some Tryz.f23 := Tryz.func23
  have hn : Tryz.f23.name ≠ "runtime.NumGoroutine" := by
    have : (Tryz.f23.name == "runtime.NumGoroutine") = false := by kernel_rfl
    simpa using this
  have hb : Tryz.f23.body ≠ none := by
    have : Tryz.f23.body.isNone = false := by kernel_rfl
    intro h; rw [h] at this; cases this
  simp [hf, hn, hb]

theorem rep_one (v : Value) : ∀ n, Go.Ax.rep n [v] = List.replicate n v
  | 0 => rfl
  | n + 1 => by
    have : Go.Ax.rep (n + 1) [v] = [v] ++ Go.Ax.rep n [v] := rfl
    rw [this, rep_one v n]
    rfl
theorem zer_sim {i : Io} {s : AS} {w w' : World} (hR : Rel i s w) (hb : Below w.heap.size w w') {q : Nat} (hq : w.heap.size ≤ q) (hz : Zer w' q) :
    ∃ i', VR i' (.tuple ⟨[.slice (some ⟨s.nx, 0, none⟩) 256 513, .int .i64 (.ofNat 0)]⟩) (.tuple #[.slice (some ⟨q, 0, none⟩) 256 256, .int .i64 0]) ∧ Rel i' (s.rowz (tz 1 5) (Go.Ax.rep 256 [.int .u8 (.ofNat 0)])) w' ∧ Fr i s w i' (s.rowz (tz 1 5) (Go.Ax.rep 256 [.int .u8 (.ofNat 0)])) w' := by
  obtain ⟨cur, h3, h4, h5⟩ := hz
  obtain ⟨L, hL⟩ : ∃ L, L = Go.Ax.rep 256 [Value.int .u8 (.ofNat 0)] := ⟨_, rfl⟩
  rw [← hL]
  have hl : L.length = 256 ∧ ∀ k v, L[k]? = some v → k < 256 ∧ v = Value.int .u8 0 := by
    rw [hL, rep_one]
    refine ⟨List.length_replicate, fun k v hk => ?_⟩
    rw [List.getElem?_replicate] at hk
    split at hk
    · cases hk; exact ⟨by assumption, rfl⟩
    · cases hk
  clear hL
  have hle : Le i (ext i s.nx (q, 0) (1, 256)) := ext_le (hR.fresh s.nx (Nat.le_refl _)).1
  have hv : VRs (ext i s.nx (q, 0) (1, 256)) L L := VRs.of_get rfl (fun k v hk => ⟨v, hk, by obtain ⟨_, rfl⟩ := hl.2 k v hk; exact .int _ _⟩)
  obtain ⟨k1, k2⟩ := hR.newAt (lm := (1, 256)) (o := .cells (T.e.fill 0 L) L.length (tz 1 5)) hb hq h3
    (OR.row hv cur 5 (0, 0) (tz 1 5) (fun _ => by rw [tz_ze (by omega)]) (.inl rfl) 0 (by omega) (fun k hk => by
      have e : L[k]? = some L[k] := List.getElem?_eq_getElem hk
      obtain ⟨e1, e2⟩ := hl.2 k _ e
      rw [Nat.zero_add, h5 k e1, e, e2]))
    (fun c n z h => by cases h; exact ⟨(tz_zs (by omega)).symm, fun cs e fr h => by cases h; exact Nat.le_of_eq h4.symm⟩)
  exact ⟨_, .tuple (.cons (.slice (t := 0) (ext_same _ _ _) (by omega) (by omega) (by omega) (.inl rfl) (fun h => by omega)) (.cons (.int _ _) .nil)), k1, k2⟩

theorem read_ok : POk Tryz.prog 23 readP := by
  intro args s v s' h i w args' hR hg ha
  unfold readP at h
  split at h
  · rename_i p o k
    split at h
    · rename_i sb so n sc wb wo m wc hdev
      cases hb : (Nat.blt k n && (Nat.ble m 1000000 && Nat.ble 1 m)) with
      | false => rw [hb] at h; cases h
      | true =>
        rw [hb, cond_true] at h
        simp only [Bool.and_eq_true, Nat.blt_eq, Nat.ble_eq] at hb
        obtain ⟨hkn, hm, hm1⟩ := hb
        split at h
        · rename_i x sn sc2 torn hsec
          cases ha with | cons a1 ha =>
          cases ha with | cons a2 ha =>
          cases ha
          cases a2
          cases a1 with | @ptr _ _ qd td hd =>
          obtain ⟨ld, d1, d2, d3⟩ := hR.cellsN hdev hd
          cases d1 with | cons u0 d1 =>
          cases d1 with | cons u1 d1 =>
          cases d1 with | cons u2 d1 =>
          cases d1
          cases u2
          cases u0 with | @slice _ _ qs ts _ _ ps cs' hs y1 y2 y3 y4 y5 =>
          cases u1 with | @slice _ _ qw tw _ _ pw cw' hw z1 z2 z3 z4 z5 =>
          have D0 := d3 0 (by simp)
          have D1 := d3 1 (by simp)
          have D2 := d3 2 (by simp)
          simp only [List.getElem_cons_zero, List.getElem_cons_succ, Nat.add_zero] at D0 D1 D2
          have hps : ps = ts + so := y4.resolve_right (by omega)
          subst hps
          obtain ⟨lS, t1, t2, t3⟩ := hR.cellsN hsec hs
          cases t1 with | @cons _ sv _ _ r0 t1 =>
          cases t1 with | cons r1 t1 =>
          cases t1
          cases r1
          have T0 := t3 0 (by simp)
          have T1 := t3 1 (by simp)
          simp only [List.getElem_cons_zero, List.getElem_cons_succ, Nat.add_zero, ← Nat.add_assoc] at T0 T1
          have hpw : pw = tw + wo := z4.resolve_right (by omega)
          subst hpw
          -- the sector's bytes, in the world
          have hsv : ∃ sx sn' sc', sv = .slice sx sn' sc' := by cases r0 <;> exact ⟨_, _, _, rfl⟩
          obtain ⟨sx, sn', sc', rfl⟩ := hsv
          have hql : qs < w.heap.size := block_lt_of_cell T0
          split at h
          · cases h
          · -- found
            rename_i l hsc
            cases h
            obtain ⟨s1, _, s3⟩ := scanS_spec s wb wo k m (some l) hsc
            obtain ⟨fa, fx, fn, fc, gx, gn, gc, gz, hW⟩ := waits_all hR hw s1
            obtain ⟨j0, j1, ⟨b0, o0, n0, c0, w1, w2⟩, j2⟩ := s3 l rfl
            have uq : ∀ j, j < m → ∀ a x n c, WaitAt s wb wo k j a x n c → a = fa j ∧ x = fx j ∧ n = fn j := fun j hj a x n c h' => by
              have := h'.at_.symm.trans (hW j hj).at_.at_
              simp at this
              exact ⟨Int.ofNat.inj this.1, this.2.1, this.2.2.1⟩
            have hc := read_any qd (td + o) qs (ts + so) n cs' qw (tw + wo) m cw' (fun j => (fa j : Int)) gx gn gc gz k sx sn' sc' torn [] w hkn hm (block_lt_of_cell (hW 0 (by omega)).c0) D0 D1 D2 (fun j hj => ⟨(hW j hj).c0, (hW j hj).c1⟩)
              (fun j hj e => by obtain ⟨_, _, _, b', o', _, _, _, e1, e2, e3, e4, e5, e6⟩ := (hW j hj).ok (by have : (fa j : Int) = k := e; omega); exact ⟨b', o', e1, e2, e3, e4, e5, e6⟩) T0 T1
              (fun hno => absurd (show (fa j0 : Int) = k by have := (uq j0 j1 _ _ _ _ w1).1; omega) (hno ⟨j0, j1⟩)) hql
            refine .inr ⟨enter23 _ _, Calls.mono hc (fun e w' he => ?_)⟩
            · obtain ⟨q1, v', er, rfl, q2 | ⟨q2, _⟩⟩ := he
              · obtain ⟨⟨xx, hxx⟩, q3, q4, rfl, q5, q6⟩ := q2
                have q3' : fa xx = k := by have : (fa xx : Int) = k := q3; omega
                have hj : xx = j0 := by
                  rcases Nat.lt_trichotomy xx j0 with h' | h' | h'
                  · exact absurd (show (fa j0 : Int) = k by have := (uq j0 j1 _ _ _ _ w1).1; omega) (q4 ⟨j0, j1⟩ h')
                  · exact h'
                  · exact absurd q3' (j2 xx h' hxx _ _ _ _ (hW xx hxx).at_)
                subst hj
                obtain ⟨b1, o1, l1, _, _, e0, e1, e2, _⟩ := (hW xx hxx).ok q3'
                obtain ⟨_, u1, u2⟩ := uq xx j1 _ _ _ _ w1
                rw [← u1] at e0
                cases e0
                rw [← u2, w2] at e1
                cases e1
                exact cp_sim hR e2 q1 q6 q5
              · exact absurd (show (fa j0 : Int) = k by have := (uq j0 j1 _ _ _ _ w1).1; omega) (q2 ⟨j0, j1⟩)
          · -- not found
            rename_i hsc
            obtain ⟨s1, s2, _⟩ := scanS_spec s wb wo k m none hsc
            obtain ⟨fa, fx, fn, fc, gx, gn, gc, gz, hW⟩ := waits_all hR hw s1
            have hno : ∀ xx : Fin m, (fa xx.val : Int) ≠ k := fun xx e => s2 rfl xx.val xx.isLt _ _ _ _ (hW xx.val xx.isLt).at_ (by omega)
            have hcs : ∀ sz : List Value, ((∀ xx : Fin m, (fa xx.val : Int) ≠ k) → torn = false → (sx = none ∧ sn' = 0 ∧ sc' = 0) ∨ ∃ b bo, sx = some ⟨b, bo, none⟩ ∧ sn' = sz.length ∧ b < w.heap.size ∧ sz.length ≤ 1000000 ∧ (∀ u ∈ sz, u.oneCell' = true) ∧ ∀ i (h : i < sz.length), w.cell? ⟨b, bo + i, none⟩ = some sz[i]) → _ :=
              fun sz hs => read_any qd (td + o) qs (ts + so) n cs' qw (tw + wo) m cw' (fun j => (fa j : Int)) gx gn gc gz k sx sn' sc' torn sz w hkn hm (block_lt_of_cell (hW 0 (by omega)).c0) D0 D1 D2 (fun j hj => ⟨(hW j hj).c0, (hW j hj).c1⟩)
                (fun j hj e => absurd e (hno ⟨j, hj⟩)) T0 T1 hs hql
            cases torn with
            | true =>
              rw [cond_true] at h
              cases h
              refine .inr ⟨enter23 _ _, Calls.mono (hcs [] (fun _ e => by cases e)) (fun e w' he => ?_)⟩
              obtain ⟨q1, v', er, rfl, ⟨xx, q3, _⟩ | ⟨_, ⟨_, rfl, rfl⟩ | ⟨e, _⟩⟩⟩ := he
              · exact absurd q3 (hno xx)
              · obtain ⟨k1, k2⟩ := hR.below q1
                exact ⟨i, .tuple (.cons (.nils (by decide)) (.cons (.int _ _) .nil)), k1, k2⟩
              · cases e
            | false =>
              rw [cond_false] at h
              split at h
              · -- noughts
                cases hsn : Nat.beq sn 0 with
                | false => rw [hsn] at h; cases h
                | true =>
                  rw [hsn, cond_true] at h
                  cases h
                  cases r0
                  refine .inr ⟨enter23 _ _, Calls.mono (hcs [] (fun _ _ => .inl ⟨rfl, rfl, rfl⟩)) (fun e w' he => ?_)⟩
                  obtain ⟨q1, v', er, rfl, ⟨xx, q3, _⟩ | ⟨_, ⟨e, _⟩ | ⟨_, rfl, ⟨_, q, q2, rfl, q4⟩ | ⟨e, _⟩⟩⟩⟩ := he
                  · exact absurd q3 (hno xx)
                  · cases e
                  · exact zer_sim hR q1 q2 q4
                  · exact absurd rfl e
              · rename_i b1 o1
                cases hn : Nat.ble sn 1000000 with
                | false => rw [hn] at h; cases h
                | true =>
                  rw [hn, cond_true] at h
                  split at h
                  · rename_i l hl
                    cases ho : ones l with
                    | false => rw [ho] at h; cases h
                    | true =>
                      rw [ho, cond_true] at h
                      cases h
                      obtain ⟨b', o', c', zs, e1, p1, p2, p3, p4, p5⟩ := sliceRow hR r0 hl ho (Nat.le_of_ble_eq_true hn)
                      cases e1
                      refine .inr ⟨enter23 _ _, Calls.mono (hcs zs (fun _ _ => .inr ⟨b', o', rfl, rfl, p2, p3, p4, p5⟩)) (fun e w' he => ?_)⟩
                      obtain ⟨q1, v', er, rfl, ⟨xx, q3, _⟩ | ⟨_, ⟨e, _⟩ | ⟨_, rfl, ⟨e, _⟩ | ⟨_, q5, q6⟩⟩⟩⟩ := he
                      · exact absurd q3 (hno xx)
                      · cases e
                      · cases e
                      · exact cp_sim hR p1 q1 q6 q5
                  · cases h
              · cases h
        · cases h
    · cases h
  · cases h
end Go.Proofs
