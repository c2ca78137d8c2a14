/- The abstract machine's operations and the model's: each comes to the like. -/
import Derived.Test.YtmfdkldjinlmnaaGreatDoorAxStep
set_option linter.unusedVariables false
set_option linter.unusedSimpArgs false
namespace Go.Ax
open Go

structure TyOk (E : Env) : Prop where
  ty : ∀ t ti, E.ty.get t = some ti → ∃ info, E.P.info? t = some info ∧ E.P.underlying t = some ti.desc ∧ info.size = ti.size ∧ info.bytes = ti.bytes ∧
    ∃ zv, info.zero = some zv ∧ zv.cells.toList = ti.zero ∧ (∀ i, VR i zv zv) ∧ (isAggD ti.desc = true → zv = .agg ⟨ti.zero⟩) ∧ (isAggD ti.desc = false → ti.zero = [zv]) ∧ ti.zero.length = ti.size

section
variable {E : Env} {i : Io} {s : AS} {w : World}

theorem run_und (hT : TyOk E) {t : TypeId} {ti : TI} (h : E.ty.get t = some ti) (w : World) : (underlying t).run E.P w = .ok ti.desc w := by
  obtain ⟨info, h1, h2, _⟩ := hT.ty t ti h
  unfold underlying
  simp [h2]
theorem run_info (hT : TyOk E) {t : TypeId} {ti : TI} (h : E.ty.get t = some ti) (w : World) : ∃ info, (typeInfo t).run E.P w = .ok info w ∧ info.size = ti.size ∧ info.bytes = ti.bytes := by
  obtain ⟨info, h1, h2, h3, h4, _⟩ := hT.ty t ti h
  refine ⟨info, ?_, h3, h4⟩
  unfold typeInfo
  simp [h1]
theorem run_size (hT : TyOk E) {t : TypeId} {ti : TI} (h : E.ty.get t = some ti) (w : World) : (sizeOf t).run E.P w = .ok ti.size w := by
  obtain ⟨info, h1, h2, h3⟩ := run_info hT h w
  unfold Go.sizeOf
  simp [h1, h2]
theorem run_isAgg (hT : TyOk E) {t : TypeId} {ti : TI} (h : E.ty.get t = some ti) (w : World) : (isAgg t).run E.P w = .ok (isAggD ti.desc) w := by
  unfold isAgg
  simp only [Sem.run_bind, run_und hT h, Result.andThen_ok]
  cases ti.desc <;> rfl
theorem run_zero (hT : TyOk E) {t : TypeId} {ti : TI} (h : E.ty.get t = some ti) (w : World) : ∃ zv, (zeroValue t).run E.P w = .ok zv w ∧ zv.cells.toList = ti.zero ∧ (∀ i, VR i zv zv) ∧ (isAggD ti.desc = true → zv = .agg ⟨ti.zero⟩) ∧ (isAggD ti.desc = false → ti.zero = [zv]) ∧ ti.zero.length = ti.size := by
  obtain ⟨info, h1, h2, h3, h4, zv, h5, h6⟩ := hT.ty t ti h
  refine ⟨zv, ?_, h6⟩
  unfold zeroValue typeInfo
  simp [h1, h5]

/-- What an operand reads as. -/
def TR (i : Io) (tm : Tm) (ρ : Operand → Value) : Prop := ∀ x v, ev tm x = some v → VR i v (ρ x)

theorem TR.evs {tm : Tm} {ρ : Operand → Value} (h : TR i tm ρ) : ∀ {l : List Operand} {vs : List Value}, evs tm l = some vs → VRs i vs (l.map ρ)
  | [], vs, e => by simp only [Go.Ax.evs, Option.some.injEq] at e; subst e; exact .nil
  | x :: l, vs, e => by
    simp only [Go.Ax.evs] at e
    cases h1 : ev tm x with
    | none => rw [h1] at e; cases e
    | some v =>
      rw [h1] at e
      cases h2 : Go.Ax.evs tm l with
      | none => rw [h2] at e; cases e
      | some us => rw [h2] at e; cases e; exact .cons (h x v h1) (h.evs h2)

def Sim (E : Env) (i : Io) (s : AS) (w : World) (m : Sem Value) (v : Value) (s' : AS) : Prop :=
  ∃ v' w' i', m.run E.P w = .ok v' w' ∧ VR i' v v' ∧ Rel i' s' w' ∧ Fr i s w i' s' w'

def SimU (E : Env) (i : Io) (s : AS) (w : World) (m : Sem Unit) (s' : AS) : Prop :=
  ∃ w' i', m.run E.P w = .ok () w' ∧ Rel i' s' w' ∧ Fr i s w i' s' w'

def SimN (E : Env) (i : Io) (s : AS) (w : World) (m : Sem Next) (v : Value) (s' : AS) : Prop :=
  ∃ w' i', Rel i' s' w' ∧ Fr i s w i' s' w' ∧ ((∃ v', m.run E.P w = .ok (.value v') w' ∧ VR i' v v') ∨ (m.run E.P w = .ok .skip w' ∧ v = undef))

theorem Sim.ofPure (h : Rel i s w) {m : Sem Value} {v v' : Value} (hr : m.run E.P w = .ok v' w) (hv : VR i v v') : Sim E i s w m v s :=
  ⟨v', w, i, hr, hv, h, .refl i s w⟩

theorem Sim.next {m : Sem Value} {v : Value} {s' : AS} (h : Sim E i s w m v s') : SimN E i s w (do let v ← m; Pure.pure (Next.value v)) v s' := by
  obtain ⟨v', w', i', h1, h2, h3, h4⟩ := h
  exact ⟨w', i', h3, h4, .inl ⟨v', by simp [h1], h2⟩⟩
theorem SimU.next {m : Sem Unit} {s' : AS} (h : SimU E i s w m s') : SimN E i s w (do m; Pure.pure Next.skip) undef s' := by
  obtain ⟨w', i', h1, h3, h4⟩ := h
  exact ⟨w', i', h3, h4, .inr ⟨by simp [h1], rfl⟩⟩

theorem VR.undef (i : Io) : VR i undef undef := .tuple .nil

/-- A new row of cells. -/
theorem Rel.rowz (h : Rel i s w) {l l' : List Value} (hv : VRs i l l') (z : Nat) (cs : Array Value) (e : TypeId) (hze : ze z ≠ 0 → e + 1 = ze z) (fr : Nat × Nat) (hfr : fr.1 = fr.2 ∨ (z % 2 = 1 ∧ cs.size ≤ fr.1)) (hp : l.length ≤ cs.size) (hcs : ∀ k, k < l.length → cs[k]? = l'[k]?) (lm : Nat × Nat) (hlm : lm.1 = zs z ∧ lm.2 ≤ cs.size) :
    Rel (ext i s.nx (w.heap.size, 0) lm) (s.rowz z l) (addB w (.cells cs e fr)) ∧ Fr i s w (ext i s.nx (w.heap.size, 0) lm) (s.rowz z l) (addB w (.cells cs e fr)) ∧ Le i (ext i s.nx (w.heap.size, 0) lm) := by
  have hle : Le i (ext i s.nx (w.heap.size, 0) lm) := ext_le (h.fresh s.nx (Nat.le_refl _)).1
  obtain ⟨h2, h3⟩ := h.new (o := .cells (T.e.fill 0 l) l.length z) (x := .cells cs e fr) (OR.row (hv.mono hle) _ _ _ z hze hfr 0 (by simpa using hp) (fun k hk => by simpa using hcs k hk)) (fun _ _ _ h => by cases h; exact ⟨hlm.1, fun _ _ _ h => by cases h; exact hlm.2⟩)
  exact ⟨h2, h3, hle⟩

/-- A new row, and its address. -/
theorem Sim.rowz (h : Rel i s w) {l l' : List Value} (hv : VRs i l l') {m : Sem Value} (e : TypeId) (z : Nat) (hze : ze z ≠ 0 → e + 1 = ze z) (hzs : zs z = 0) {w1 : World} (hw1 : w1.heap = w.heap) (ho : w1.os = w.os) (ht : w1.tape = w.tape) (hp : w1.output = w.output)
    (hr : m.run E.P w = .ok (.pointer (some ⟨w.heap.size, 0, none⟩)) (addB w1 (.cells l'.toArray e (0, 0)))) : Sim E i s w m (.pointer (some ⟨s.nx, 0, none⟩)) (s.rowz z l) := by
  have h1 : Rel i s w1 := h.same hw1
  have hle : Le i (ext i s.nx (w1.heap.size, 0)) := ext_le (h.fresh s.nx (Nat.le_refl _)).1
  obtain ⟨h2, h3⟩ := h1.new (o := .cells (T.e.fill 0 l) l.length z) (x := .cells l'.toArray e (0, 0)) (OR.row (hv.mono hle) _ _ _ z hze (.inl rfl) 0 (by simp [hv.length]) (fun k _ => by simp)) (fun _ _ _ h => by cases h; exact ⟨hzs.symm, fun _ _ _ _ => Nat.zero_le _⟩)
  refine ⟨_, _, _, hr, ?_, h2, (Fr.same hw1 ho ht hp).trans h3⟩
  have : (⟨w.heap.size, 0, none⟩ : Addr) = ⟨w1.heap.size, 0 + 0, none⟩ := by rw [hw1]
  rw [this]
  exact .ptr (ext_same _ _ _)
theorem Sim.row (h : Rel i s w) {l l' : List Value} (hv : VRs i l l') {m : Sem Value} (e : TypeId) {w1 : World} (hw1 : w1.heap = w.heap) (ho : w1.os = w.os) (ht : w1.tape = w.tape) (hp : w1.output = w.output)
    (hr : m.run E.P w = .ok (.pointer (some ⟨w.heap.size, 0, none⟩)) (addB w1 (.cells l'.toArray e (0, 0)))) : Sim E i s w m (s.row l).1 (s.row l).2 :=
  Sim.rowz h hv e 0 (fun h => absurd rfl h) rfl hw1 ho ht hp hr

theorem hMove_sim (x : Operand) {tm : Tm} {ρ : Operand → Value} (hR : Rel i s w) (hρ : TR i tm ρ) {v : Value} {s' : AS} (h : hMove x E tm s = some (v, s')) :
    SimN E i s w (Pure.pure (.value (ρ x))) v s' := by
  unfold hMove at h
  split at h
  · rename_i u hu
    cases h
    exact ⟨w, i, hR, .refl _ _ _, .inl ⟨_, rfl, hρ x _ hu⟩⟩
  · cases h

theorem hPick_sim (c a b : Operand) {tm : Tm} {ρ : Operand → Value} (hR : Rel i s w) (hρ : TR i tm ρ) {v : Value} {s' : AS} (h : hPick c a b E tm s = some (v, s')) :
    SimN E i s w (do Pure.pure (Next.value (if ← asBool (ρ c) then ρ a else ρ b))) v s' := by
  unfold hPick at h
  split at h
  · rename_i t ht
    have hc := hρ c _ ht
    generalize hg : ρ c = y at hc
    cases hc
    split at h
    · rename_i u hu
      cases h
      cases t with
      | true => exact ⟨w, i, hR, .refl _ _ _, .inl ⟨ρ a, by simp [asBool], hρ a _ (by simpa using hu)⟩⟩
      | false => exact ⟨w, i, hR, .refl _ _ _, .inl ⟨ρ b, by simp [asBool], hρ b _ (by simpa using hu)⟩⟩
    · cases h
  · cases h

theorem hAlloc_sim (hT : TyOk E) (t : TypeId) {tm : Tm} (hR : Rel i s w) {v : Value} {s' : AS} (h : hAlloc t E tm s = some (v, s')) :
    Sim E i s w (Instr.alloc t true (.tuple #[])) v s' := by
  unfold hAlloc at h
  split at h
  · rename_i ti ht
    cases h
    obtain ⟨zv, h1, h2, h3, _⟩ := run_zero hT ht w
    refine Sim.rowz hR (l' := zv.cells.toList) (by rw [← h2]; exact (h3 i).cells) t (tz 0 t) (fun _ => (tz_ze (by omega)).symm) (tz_zs (by omega)) (w1 := w) rfl rfl rfl rfl ?_
    unfold Instr.alloc newVar newRow
    simp [h1, addB]
  · cases h

theorem hBox_sim (t : TypeId) (x : Operand) {tm : Tm} {ρ : Operand → Value} (hR : Rel i s w) (hρ : TR i tm ρ) {v : Value} {s' : AS} (h : hBox x E tm s = some (v, s')) :
    Sim E i s w (Instr.box t (ρ x)) v s' := by
  unfold hBox at h
  split at h
  · rename_i u hu
    cases h
    refine Sim.row hR (l' := (ρ x).cells.toList) (hρ x _ hu).cells t (w1 := w) rfl rfl rfl rfl ?_
    unfold Instr.box newVar newRow
    simp [addB]
  · cases h

theorem hLoad_sim (hT : TyOk E) (t : TypeId) (a : Operand) {tm : Tm} {ρ : Operand → Value} (hR : Rel i s w) (hρ : TR i tm ρ) {v : Value} {s' : AS} (h : hLoad t a E tm s = some (v, s')) :
    Sim E i s w (Instr.loadAt t (ρ a)) v s' := by
  unfold hLoad at h
  split at h
  · rename_i ti p ht hp
    have hc := hρ a _ hp
    generalize hg : ρ a = y at hc
    cases hc with
    | @ptr b o q t' hi =>
      have hA := run_isAgg hT ht w
      have hS := run_size hT ht w
      cases hagg : isAggD ti.desc with
      | true =>
        rw [hagg] at h hA
        simp only [cond_true] at h
        split at h
        · rename_i l hl
          cases h
          obtain ⟨l', h1, h2, _⟩ := hR.rdN (P := E.P) hl hi
          refine Sim.ofPure hR (v' := .agg l'.toArray) ?_ (.agg h2)
          unfold Instr.loadAt Instr.sureAddr loadVar
          simp [hA, hS, h1]
        · cases h
      | false =>
        rw [hagg] at h hA
        simp only [cond_false] at h
        split at h
        · rename_i u hu
          cases h
          obtain ⟨v', h1, h2⟩ := hR.rd hu hi
          refine Sim.ofPure hR (v' := v') ?_ h2
          unfold Instr.loadAt Instr.sureAddr loadVar
          simp [hA, h1]
        · cases h
  · cases h

theorem hStore_sim (hT : TyOk E) (t : TypeId) (a x : Operand) {tm : Tm} {ρ : Operand → Value} (hR : Rel i s w) (hρ : TR i tm ρ) {v : Value} {s' : AS} (h : hStore t a x E tm s = some (v, s')) :
    SimU E i s w (Instr.storeAt t (ρ a) (ρ x)) s' ∧ v = undef := by
  unfold hStore at h
  split at h
  · rename_i ti p u ht hp hu
    have hc := hρ a _ hp
    generalize hg : ρ a = y at hc
    cases hc with
    | @ptr b o q t' hi =>
      have hx := (hρ x _ hu).cells
      have hS := run_size hT ht w
      cases hb : Nat.beq u.cells.toList.length ti.size with
      | false => rw [hb] at h; cases h
      | true =>
        rw [hb] at h
        simp only [cond_true] at h
        split at h
        · rename_i s1 hs1
          cases h
          obtain ⟨w', h1, h2, h3⟩ := hR.wrN (P := E.P) hs1 hi hx
          refine ⟨⟨w', i, ?_, h2, h3⟩, rfl⟩
          unfold Instr.storeAt Instr.sureAddr storeVar
          have hn : (ρ x).cells.size = ti.size := by
            have := hx.length
            have hb' : u.cells.toList.length = ti.size := by simpa using hb
            simp only [Array.length_toList] at this hb'
            omega
          simp [hS, hn, h1]
        · cases h
  · cases h

theorem hNilCheck_sim (o : Oper) (x : Operand) {tm : Tm} {ρ : Operand → Value} (hR : Rel i s w) (hρ : TR i tm ρ) {v : Value} {s' : AS} (ho : o.op = .nilCheck x) (h : hNilCheck x E tm s = some (v, s')) :
    SimN E i s w (execOp ρ o) v s' := by
  unfold hNilCheck at h
  split at h
  · rename_i p hp
    cases h
    have hc := hρ x _ hp
    generalize hg : ρ x = y at hc
    refine ⟨w, i, hR, .refl _ _ _, .inl ⟨y, ?_, hc⟩⟩
    cases hc
    unfold execOp
    simp [ho, hg]
  · rename_i f a b hp
    cases h
    have hc := hρ x _ hp
    generalize hg : ρ x = y at hc
    refine ⟨w, i, hR, .refl _ _ _, .inl ⟨y, ?_, hc⟩⟩
    cases hc
    unfold execOp
    simp [ho, hg]
  · cases h

theorem hIface_sim (hT : TyOk E) (t : TypeId) (x : Operand) {tm : Tm} {ρ : Operand → Value} (hR : Rel i s w) (hρ : TR i tm ρ) {v : Value} {s' : AS} (h : hIface t x E tm s = some (v, s')) :
    Sim E i s w (Instr.makeInterface t (ρ x)) v s' := by
  unfold hIface at h
  split at h
  · rename_i ti u ht hu
    split at h
    · cases h
    · rename_i hd
      cases h
      refine Sim.ofPure hR (v' := .iface t (ρ x)) ?_ (.iface t (hρ x _ hu))
      unfold Instr.makeInterface
      simp only [Sem.run_bind, run_und hT ht, Result.andThen_ok]
      cases hdd : ti.desc <;> first | rfl | exact absurd hdd (hd _)
  · cases h

theorem hFunc_sim (f : Fn) (a b : Array Operand) {tm : Tm} {ρ : Operand → Value} (hR : Rel i s w) (hρ : TR i tm ρ) {v : Value} {s' : AS} (h : hFunc f a b E tm s = some (v, s')) :
    Sim E i s w (Instr.makeFunc f (a.map ρ) (b.map ρ)) v s' := by
  unfold hFunc at h
  split at h
  · rename_i l r hl hr
    cases h
    refine Sim.ofPure hR (v' := .func f (a.map ρ) (b.map ρ)) rfl ?_
    have e1 : a.map ρ = ⟨a.toList.map ρ⟩ := by simp [← Array.toList_map]
    have e2 : b.map ρ = ⟨b.toList.map ρ⟩ := by simp [← Array.toList_map]
    rw [e1, e2]
    exact .func f (hρ.evs hl) (hρ.evs hr)
  · cases h

theorem hExtract_sim (x : Operand) (k : Nat) {tm : Tm} {ρ : Operand → Value} (hR : Rel i s w) (hρ : TR i tm ρ) {v : Value} {s' : AS} (h : hExtract x k E tm s = some (v, s')) :
    Sim E i s w (Instr.extract (ρ x) k) v s' := by
  unfold hExtract at h
  split at h
  · rename_i vs hvs
    have hc := hρ x _ hvs
    generalize hg : ρ x = y at hc
    cases hc with
    | tuple hh =>
      split at h
      · rename_i u hu
        cases h
        obtain ⟨v', h1, h2⟩ := hh.get hu
        refine Sim.ofPure hR (v' := v') ?_ h2
        unfold Instr.extract
        simp [h1]
      · cases h
  · cases h

end
end Go.Ax
