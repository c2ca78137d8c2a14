/- The abstract machine's operations and the model's, part 11: all of them. -/
import Derived.Test.YtmfdkldjinlmnaaGreatDoorAxSem10
set_option linter.unusedVariables false
set_option linter.unusedSimpArgs false
namespace Go.Ax
open Go

section
variable {E : Env} {i : Io} {s : AS} {w : World}

theorem get0 {α : Type} {a : Array α} {x : α} {l : List α} (h : a.toList = x :: l) : a[0]? = some x := by
  rw [← Array.getElem?_toList, h]; rfl
theorem get1 {α : Type} {a : Array α} {x y : α} {l : List α} (h : a.toList = x :: y :: l) : a[1]? = some y := by
  rw [← Array.getElem?_toList, h]; rfl

theorem sData_sim (ts : Array TypeId) (ty : TypeId) {x x' : Value} (hR : Rel i s w) (hx : VR i x x') {v : Value} {s' : AS} (h : sDataA s x = some (v, s')) : Sim E i s w (Builtin.unsafeSliceData_ ts ty #[x']) v s' := by
  unfold sDataA at h
  split at h
  · cases h
    cases hx
    exact Sim.ofPure hR (v' := .pointer none) rfl .nilp
  · rename_i a n c
    cases hc : Nat.beq (c / 2) 0 with
    | true => rw [hc] at h; cases h
    | false =>
      rw [hc] at h
      cases h
      have hc0 : c / 2 ≠ 0 := fun e => by rw [e] at hc; cases hc
      cases hx with
      | @slice b o q t _ _ p c' hi h1 h2 h3 h4 h5 =>
        obtain rfl := h4.resolve_right (by omega)
        exact Sim.ofPure hR (Lib.run_unsafeSliceData_row w ts ty _ n c' (by omega)) (.ptr hi)
  · cases h

theorem run_loadBytesN {P : Program} {w : World} : ∀ (ns : List Int) (q p : Nat) (acc : ByteArray), (∀ j n, ns[j]? = some n → w.cell? ⟨q, p + j, none⟩ = some (.int .u8 n)) →
    (loadBytes ⟨q, p, none⟩ acc ns.length).run P w = .ok ⟨⟨acc.data.toList ++ ns.map fun n => UInt8.ofNat n.toNat⟩⟩ w
  | [], q, p, acc, _ => by simp [loadBytes]
  | n :: ns, q, p, acc, h => by
    have h0 : w.cell? ⟨q, p, none⟩ = some (.int .u8 n) := by simpa using h 0 n rfl
    have ih := run_loadBytesN (P := P) (w := w) ns q (p + 1) (acc.push n.toNat.toUInt8) (fun j m hj => by
      have := h (j + 1) m (by simpa using hj)
      rw [show p + 1 + j = p + (j + 1) by omega]
      exact this)
    simp only [List.length_cons, loadBytes, Sem.run_bind, run_load, h0, Result.andThen_ok, add_none]
    rw [ih]
    congr 2
    apply Array.ext'
    simp [ByteArray.push]

theorem uStr_sim (hT : TyOk E) (t it : TypeId) (ty : TypeId) {x y x' y' : Value} (hR : Rel i s w) (hx : VR i x x') (hy : VR i y y') {v : Value} {s' : AS} (h : uStrA E s t x y = some (v, s')) :
    Sim E i s w (Builtin.unsafeString_ #[t, it] ty #[x', y']) v s' := by
  have hmax : IntKind.i64.max = 9223372036854775807 := rfl
  unfold uStrA at h
  split at h
  · rename_i m pa ti ht
    cases hy
    cases hm : Nat.beq m 0 with
    | true =>
      rw [hm] at h
      cases h
      obtain rfl : m = 0 := by simpa using hm
      cases hx with
      | nilp => exact Sim.ofPure hR (v' := .string .empty) (Lib.run_unsafeString_none w t it ty none) (.string _)
      | ptr hi => exact Sim.ofPure hR (v' := .string .empty) (Lib.run_unsafeString_none w t it ty _) (.string _)
    | false =>
      rw [hm, cond_false] at h
      have hm0 : m ≠ 0 := fun e => by rw [e] at hm; cases hm
      split at h
      · rename_i a e hdesc
        split at h
        · rename_i j c k z hj hb
          cases hcond : (Nat.beq j.size 1 && Nat.beq (ze z) (e + 1) && Nat.ble m small) with
          | false => rw [hcond] at h; cases h
          | true =>
            rw [hcond, cond_true] at h
            simp only [Bool.and_eq_true, Nat.beq_eq, Nat.ble_eq] at hcond
            obtain ⟨⟨k1, k2⟩, k3⟩ := hcond
            split at h
            · rename_i l hl
              split at h
              · rename_i bs hbs
                cases h
                cases hx with
                | @ptr b o q tt hi =>
                  obtain ⟨cs, e1, fr, g1, g2, g3, g4, g5⟩ := hR.at (P := E.P) hb rfl hi
                  obtain ⟨f1, _⟩ := g5 (by rw [k2]; exact Nat.succ_ne_zero _)
                  have he : e1 = e := by rw [k2] at f1; exact Nat.succ.inj f1
                  subst he
                  obtain ⟨info, q1, _, q3, _⟩ := hT.ty e1 j hj
                  have hcell : E.P.cellsOf e1 = 1 := by simp [Program.cellsOf, q1, q3, k1]
                  obtain ⟨l', r1, r2, r3⟩ := hR.rdC hb hl hi g1
                  obtain ⟨ns, s1, s2⟩ := toBytes_spec r1 hbs
                  have hnl : ns.length = m := by
                    have := r1.length
                    rw [s1, List.length_map] at this
                    omega
                  have hle : tt + o + m ≤ cs.size := by
                    have hh := hl
                    unfold Go.Ax.rdN at hh
                    rw [hb] at hh
                    simp only at hh
                    cases hbb : Nat.ble (o + m) k with
                    | false => rw [hbb] at hh; cases hh
                    | true =>
                      have := Nat.le_of_ble_eq_true hbb
                      omega
                  have hload := run_loadBytesN (P := E.P) (w := w) ns q (tt + o) .empty (fun jj n hn => by
                    have hjm : jj < m := by
                      have := (List.getElem?_eq_some_iff.1 hn).1
                      omega
                    rw [cell_of g1, r3 jj hjm, s1, List.getElem?_map, hn]
                    rfl)
                  rw [hnl] at hload
                  have hlies : liesAt E.P E.P.depth e1 (cs.size / E.P.cellsOf e1) (tt + o) e1 m = true := by
                    have hd1 : E.P.depth = (2 * (E.P.types.size + Made.depth) + 1) + 1 := rfl
                    rw [hd1]
                    simp only [liesAt, Bool.or_eq_true]
                    left
                    rw [hd1]
                    simp [rowAt, hcell, sameLayout, hle]
                    exact .inl (Nat.mod_one _)
                  have hsh : w.shape? q = some (e1, cs.size) := by unfold World.shape?; rw [g1]
                  have htd : (underlying t).run E.P w = .ok (.pointer e1) w := by rw [run_und hT ht, hdesc]
                  have h63 : ¬ (IntKind.i64.max < (m : Int)) := by
                    rw [hmax]
                    unfold small at k3
                    omega
                  have hneg : ¬ ((m : Int) < 0) := by omega
                  have hupd := hR.upd (w' := w.freeze ⟨q, tt + o, none⟩ m) (o' := .dead) hb rfl rfl hi (fun kk hk => by
                      unfold World.freeze
                      rw [if_neg hm0]
                      show (w.heap.modify q _)[kk]? = _
                      rw [Array.getElem?_modify, if_neg (fun e => hk e.symm)])
                    (by unfold World.freeze; rw [if_neg hm0]; show (w.heap.modify q _).size = _; simp) (by unfold World.freeze; rw [if_neg hm0]) (by unfold World.freeze; rw [if_neg hm0]) (by unfold World.freeze; rw [if_neg hm0])
                    (fun h => by cases h)
                  refine ⟨.string ⟨⟨bs⟩⟩, _, i, ?_, .string _, hupd.1, hupd.2⟩
                  have htd' : (elemOf t).run E.P w = .ok e1 w := by simp [elemOf, htd]
                  have hdef : Builtin.unsafeString_ #[t, it] ty #[.pointer (some ⟨q, tt + o, none⟩), .int .i64 (.ofNat m)] = (do
                      let n ← asInt (.int .i64 (.ofNat m))
                      if n < 0 then runtimePanic (.error "unsafe.String: len out of range")
                      if n > IntKind.i64.max then unsupported (.unsafePointer "String: a length above the largest int")
                      if n = 0 then pure (.string .empty)
                      else if ← variablesAt ⟨q, tt + o, none⟩ (← elemOf t) n.toNat then do
                        let s ← loadBytes ⟨q, tt + o, none⟩ .empty n.toNat
                        freeze ⟨q, tt + o, none⟩ n.toNat
                        pure (.string s)
                      else unsupported (.unsafePointer "String: not so many bytes at ptr")) := rfl
                  rw [hdef]
                  have hmi : ¬ ((m : Int) = 0) := by omega
                  simp [asInt, asIntOf, hneg, htd', variablesAt, hsh, hlies, hload, s2]
                  rw [if_neg (by rw [← hmax]; exact h63), if_neg hm0]
              · cases h
            · cases h
        · cases h
      · cases h
  · cases h

theorem builtin_sim (hT : TyOk E) (b : Builtin) (ts : Array TypeId) (ty : TypeId) (cs : Array Bool) {xs l' : List Value} (hR : Rel i s w) (hx : VRs i xs l') {v : Value} {s' : AS} (h : builtinA E s b ts.toList xs = some (v, s')) :
    SimN E i s w (builtin b ts ty cs ⟨l'⟩) v s' := by
  unfold builtinA at h
  split at h
  · rename_i t tl x hts
    obtain _ | ⟨h1, h2⟩ := hx
    cases h2
    split at h
    · cases h
    · rename_i v' hv
      cases h
      exact (len_sim hT t ts ty hR h1 (get0 hts) hv).next
  · rename_i t tl x hts
    obtain _ | ⟨h1, h2⟩ := hx
    cases h2
    split at h
    · cases h
    · rename_i v' hv
      cases h
      exact (cap_sim hT t ts ty hR h1 (get0 hts) hv).next
  · rename_i t u tl x y hts
    obtain _ | ⟨h1, h2⟩ := hx
    obtain _ | ⟨h2, h3⟩ := h2
    cases h3
    exact (append_sim hT t u ts ty hR h1 h2 (get0 hts) (get1 hts) h).next
  · rename_i t tl x y hts
    obtain _ | ⟨h1, h2⟩ := hx
    obtain _ | ⟨h2, h3⟩ := h2
    cases h3
    exact (copy_sim hT t ts ty hR h1 h2 (get0 hts) h).next
  · rename_i x
    obtain _ | ⟨h1, h2⟩ := hx
    cases h2
    exact (sData_sim ts ty hR h1 h).next
  · rename_i t it x y hts
    obtain _ | ⟨h1, h2⟩ := hx
    obtain _ | ⟨h2, h3⟩ := h2
    cases h3
    have : ts = #[t, it] := Array.ext' hts
    subst this
    exact (uStr_sim hT t it ty hR h1 h2 h).next
  · rename_i t tl x hts
    obtain _ | ⟨h1, h2⟩ := hx
    cases h2
    exact (clear_sim hT t ts ty hR h1 (get0 hts) h).next
  · rename_i t tl x y hts
    obtain _ | ⟨h1, h2⟩ := hx
    obtain _ | ⟨h2, h3⟩ := h2
    cases h3
    exact (delete_sim hT t ts ty hR h1 h2 (get0 hts) h).next
  · rename_i x l
    obtain _ | ⟨h1, h2⟩ := hx
    split at h
    · cases h
    · rename_i v' hv
      cases h
      obtain ⟨z, g1, g2⟩ := fold_sim (w := w) (max2_sim E.P) h2 h1 hv
      exact (Sim.ofPure hR (m := Builtin.max_ ts ty ⟨_⟩) g1 g2).next
  · rename_i x l
    obtain _ | ⟨h1, h2⟩ := hx
    split at h
    · cases h
    · rename_i v' hv
      cases h
      obtain ⟨z, g1, g2⟩ := fold_sim (w := w) (min2_sim E.P) h2 h1 hv
      exact (Sim.ofPure hR (m := Builtin.min_ ts ty ⟨_⟩) g1 g2).next
  · cases h

theorem SimN.congr {m m' : Sem Next} {v : Value} {s' : AS} (h : SimN E i s w m v s') (e : m'.run E.P w = m.run E.P w) : SimN E i s w m' v s' := by
  obtain ⟨w', i', h1, h2, h3⟩ := h
  refine ⟨w', i', h1, h2, ?_⟩
  rw [e]
  exact h3

theorem hCall_sim (hT : TyOk E) (c : Call) (o : Oper) (ho : o.op = .call c) {tm : Tm} {ρ : Operand → Value} (hR : Rel i s w) (hρ : TR i tm ρ) {v : Value} {s' : AS} (h : hCall c E tm s = some (v, s')) :
    SimN E i s w (execOp ρ o) v s' := by
  unfold hCall at h
  split at h
  · rename_i b hb
    split at h
    · rename_i xs hxs
      have hx := hρ.evs hxs
      refine (builtin_sim hT b c.argTypes o.type (c.args.map fun | .const _ => true | _ => false) hR hx h).congr ?_
      unfold execOp
      rw [ho]
      simp only [resolve, hb, Sem.run_bind, Sem.run_pure, Result.andThen_ok, invoke]
      congr 2
      apply Array.ext'
      simp
    · cases h
  · cases h

theorem opA_sim (hT : TyOk E) (o : Oper) {tm : Tm} {ρ : Operand → Value} (hR : Rel i s w) (hρ : TR i tm ρ) {v : Value} {s' : AS} (h : opA o.op E tm s = some (v, s')) :
    SimN E i s w (execOp ρ o) v s' := by
  unfold opA at h
  cases ho : o.op <;> rw [ho] at h <;> simp only at h
  case call c => exact hCall_sim hT c o ho hR hρ h
  case nilCheck x => exact hNilCheck_sim o x hR hρ ho h
  all_goals first
    | (cases h; done)
    | (unfold execOp; rw [ho]; first
        | exact hMove_sim _ hR hρ h
        | exact hPick_sim _ _ _ hR hρ h
        | exact (hAlloc_sim hT _ hR h).next
        | exact (hBox_sim _ _ hR hρ h).next
        | exact (hBuild_sim hT _ _ hR hρ h).next
        | exact (hBuildSlice_sim hT _ _ _ hR hρ h).next
        | exact (hLoad_sim hT _ _ hR hρ h).next
        | (obtain ⟨g, rfl⟩ := hStore_sim hT _ _ _ hR hρ h; exact g.next)
        | exact (hBin_sim hT _ _ _ _ hR hρ h).next
        | exact (hUn_sim _ _ hR hρ h).next
        | exact (hConv_sim hT _ _ _ hR hρ h).next
        | exact (hIface_sim hT _ _ hR hρ h).next
        | exact (hFunc_sim _ _ _ hR hρ h).next
        | exact (hMap_sim hT _ _ hR hρ h).next
        | exact (hMakeSlice_sim hT _ _ _ hR hρ h).next
        | exact (hSlice_sim hT _ _ _ _ _ hR hρ h).next
        | exact (hFieldAddr_sim hT _ _ _ hR hρ h).next
        | exact (hField_sim hT _ _ _ hR hρ h).next
        | exact (hIndexAddr_sim hT _ _ _ hR hρ h).next
        | exact (hIndex_sim hT _ _ _ hR hρ h).next
        | exact (hLookup_sim hT _ _ _ _ hR hρ h).next
        | (obtain ⟨g, rfl⟩ := hMapUpdate_sim hT _ _ _ _ hR hρ h; exact g.next)
        | exact (hRange_sim hT _ _ hR hρ h).next
        | exact (hNext_sim _ _ _ hR hρ h).next
        | exact (hAssert_sim hT _ _ _ _ hR hρ h).next
        | exact (hExtract_sim _ _ hR hρ h).next)

end
end Go.Ax
