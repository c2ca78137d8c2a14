/- The abstract machine's operations and the model's, part 6: conversions, new maps and slices, texts gone through, assertions. -/
import Derived.Test.YtmfdkldjinlmnaaGreatDoorAxSem5
import Derived.Lib.Builder
import Derived.Lib.UnsafeStr
set_option linter.unusedVariables false
set_option linter.unusedSimpArgs false
namespace Go.Ax
open Go

section
variable {E : Env} {i : Io} {s : AS} {w : World}

theorem hMap_sim (hT : TyOk E) (t : TypeId) (r : Option Operand) {tm : Tm} {ρ : Operand → Value} (hR : Rel i s w) (hρ : TR i tm ρ) {v : Value} {s' : AS} (h : hMap t r E tm s = some (v, s')) :
    Sim E i s w (Instr.makeMap t (r.map ρ)) v s' := by
  have hnew : Sim E i s w (do Pure.pure (.map (some (← newObj (.map #[] 0))))) (.map (some s.nx)) (s.new (.map [])) := by
    obtain ⟨h1, h2⟩ := hR.new (lm := (0, 0)) (o := .map []) (x := .map #[] 0) ⟨rfl, #[], 0, [], rfl, List.Perm.refl _, .nil, List.Pairwise.nil⟩
    exact ⟨_, _, _, rfl, .map (ext_same _ _ _), h1, h2⟩
  unfold hMap at h
  cases r with
  | none => cases h; exact hnew
  | some x =>
    simp only at h
    split at h
    · rename_i kt et a b c k n ht hn
      cases h
      have hc := hρ x _ hn
      generalize hg : ρ x = y at hc
      cases hc
      obtain ⟨v', w', i', g1, g2, g3, g4⟩ := hnew
      refine ⟨v', w', i', ?_, g2, g3, g4⟩
      unfold Instr.makeMap
      simp only [Option.map_some, hg]
      have hd := run_und hT ht w
      simp only [Sem.run_bind, hd, Result.andThen_ok]
      simpa [asInt, asIntOf] using g1
    · cases h

theorem hMakeSlice_sim (hT : TyOk E) (t : TypeId) (l c : Operand) {tm : Tm} {ρ : Operand → Value} (hR : Rel i s w) (hρ : TR i tm ρ) {v : Value} {s' : AS} (h : hMakeSlice t l c E tm s = some (v, s')) :
    Sim E i s w (Instr.makeSlice t (ρ l) (ρ c)) v s' := by
  unfold hMakeSlice at h
  split at h
  · rename_i ti k n k' m ht hn hm
    have hcn := hρ l _ hn
    generalize hgn : ρ l = yn at hcn
    cases hcn
    have hcm := hρ c _ hm
    generalize hgm : ρ c = ym at hcm
    cases hcm
    have hd := run_und hT ht w
    split at h
    · rename_i e hdesc
      split at h
      · cases h
      · rename_i tj hj
        split at h
        · rename_i hcond
          cases h
          obtain ⟨c1, c2, c3, c4⟩ := hcond
          obtain ⟨zv, hz1, hz2, hz3, _, _, hzl⟩ := run_zero hT hj w
          obtain ⟨info, hi1, hi2, hi3⟩ := run_info hT hj w
          have hzs : zv.cells.size = tj.size := by rw [← Array.length_toList, hz2]; exact hzl
          have hw1 : IntKind.i64.wrap n = n := by
            rw [← wrapA_eq]
            show wrS 18446744073709551616 9223372036854775808 n = n
            rw [wrS_eq _ _ (by decide)]
            unfold small at c4
            have : n % ((18446744073709551616 : Nat) : Int) = n := Int.emod_eq_of_lt c1 (by omega)
            rw [this, if_neg (by omega)]
          have hw2 : IntKind.i64.wrap m = m := by
            rw [← wrapA_eq]
            show wrS 18446744073709551616 9223372036854775808 m = m
            rw [wrS_eq _ _ (by decide)]
            unfold small at c4
            have : m % ((18446744073709551616 : Nat) : Int) = m := Int.emod_eq_of_lt (by omega) (by omega)
            rw [this, if_neg (by omega)]
          have key : (Instr.makeSlice t (.int k n) (.int k' m)).run E.P w = .ok (.slice (some ⟨w.heap.size, 0, none⟩) n.toNat m.toNat) (addB w (.cells (rep m.toNat zv.cells.toList).toArray e (0, 0))) := by
            unfold Instr.makeSlice
            simp only [Sem.run_bind, hd, hdesc, Result.andThen_ok, asInt, asIntOf, Sem.run_pure, hi1, hi3, hw1, hw2, run_size hT hj]
            have hbig : (tj.bytes : Int) * m ≤ small := by rw [Int.mul_comm]; exact c3
            have hneg : ¬ ((decide (m < 0) || decide ((tj.bytes : Int) * m > 2 ^ 48) || decide (n < 0) || decide (n > m)) = true) := by
              simp only [Bool.or_eq_true, decide_eq_true_eq]
              unfold small at hbig
              omega
            rw [if_neg hneg]
            simp only [Sem.run_bind, run_askRoom, Result.andThen_ok, Sem.run_pure, run_size hT hj]
            by_cases hz0 : m.toNat * tj.size = 0
            · rw [if_pos hz0]
              have hr0 : rep m.toNat zv.cells.toList = [] := by
                apply List.eq_nil_of_length_eq_zero
                rw [rep_length, Array.length_toList, hzs, hz0]
              have hm0 : (Array.range 0).map (fun k => (#[] : Array Value)[k % (#[] : Array Value).size]!) = #[] := by simp
              simp only [Sem.run_bind, Sem.run_pure, Result.andThen_ok, hz0, newRow, run_newObj, hr0, hm0]
              rfl
            · rw [if_neg hz0]
              have : (Array.range (m.toNat * tj.size)).map (fun k => zv.cells[k % zv.cells.size]!) = (rep m.toNat zv.cells.toList).toArray := by
                apply Array.ext'
                rw [← hzs, zeros_eq]
              simp only [Sem.run_bind, hz1, Result.andThen_ok, Sem.run_pure, this, newRow, run_newObj]
              rfl
          have hrc : VRs i (rep m.toNat tj.zero) (rep m.toNat zv.cells.toList) := VRs.rep _ (by rw [← hz2]; exact (hz3 i).cells)
          obtain ⟨g1, g2, g3⟩ := hR.rowz hrc 0 (rep m.toNat zv.cells.toList).toArray e (fun h => absurd rfl h) (0, 0) (.inl rfl) (by simp [hrc.length]) (fun k _ => by simp) (0, 0) ⟨rfl, Nat.zero_le _⟩
          exact ⟨_, _, _, key, .slice (ext_same _ _ _) (by omega) (by omega) (by omega) (.inl rfl) (fun h0 => by omega), g1, g2⟩
        · cases h
    · cases h
  · cases h

theorem hRange_sim (hT : TyOk E) (t : TypeId) (x : Operand) {tm : Tm} {ρ : Operand → Value} (hR : Rel i s w) (hρ : TR i tm ρ) {v : Value} {s' : AS} (h : hRange t x E tm s = some (v, s')) :
    Sim E i s w (Instr.range t (ρ x)) v s' := by
  unfold hRange at h
  split at h
  · rename_i ti b ht hb
    have hc := hρ x _ hb
    generalize hg : ρ x = y at hc
    cases hc
    have hd := run_und hT ht w
    split at h
    · rename_i hdesc
      cases h
      obtain ⟨h1, h2⟩ := hR.new (lm := (0, 0)) (o := .iter b 0) (x := .stringIter b 0) ⟨rfl, rfl⟩
      refine ⟨_, _, _, ?_, .ptr (q := w.heap.size) (t := 0) (ext_same _ _ _), h1, h2⟩
      unfold Instr.range
      simp [hd, hdesc, addB]
    · cases h
  · cases h

theorem hNext_sim (it : Operand) (str : Bool) (ty : TypeId) {tm : Tm} {ρ : Operand → Value} (hR : Rel i s w) (hρ : TR i tm ρ) {v : Value} {s' : AS} (h : hNext it str E tm s = some (v, s')) :
    Sim E i s w (Instr.next (ρ it) str ty) v s' := by
  unfold hNext at h
  split at h
  · rename_i r hr
    have hc := hρ it _ hr
    generalize hg : ρ it = y at hc
    cases hc with
    | @ptr b o q t' hi =>
      split at h
      · rename_i b p hb
        obtain ⟨ht0, hx⟩ := hR.at (P := default) hb rfl hi
        subst ht0
        have hgo : (getObj q).run E.P w = .ok (.stringIter b p) w := by simp [getObj, Sem.run, hx]
        have hso : ∀ o, (setObj q o).run E.P w = .ok () (setB w q o) := by intro o; simp [setObj, Sem.run, hx, setB]
        split at h
        · rename_i hlt
          cases h
          obtain ⟨h1, h2⟩ := hR.upd (w' := setB w q (.stringIter b (p + (Utf8.decode b p).2))) (o' := .iter b (p + (Utf8.decode b p).2)) hb rfl rfl hi (fun k hk => setB_ne hk) (setB_size _ _ _) rfl rfl rfl
            (fun _ => ⟨rfl, setB_same hx⟩)
          refine ⟨_, _, i, ?_, .tuple (.cons (.bool true) (.cons (.int _ _) (.cons (.int _ _) .nil))), h1, h2⟩
          unfold Instr.next
          simp only [Nat.add_zero, Sem.run_bind, hgo, Result.andThen_ok]
          rw [if_pos hlt]
          simp only [Sem.run_bind, hso, Result.andThen_ok]
          rfl
        · rename_i hlt
          cases h
          refine Sim.ofPure hR (v' := .tuple #[.bool false]) ?_ (.tuple (.cons (.bool false) .nil))
          unfold Instr.next
          simp only [Nat.add_zero, Sem.run_bind, hgo, Result.andThen_ok]
          rw [if_neg hlt]
          rfl
      · cases h
  · cases h

theorem hAssert_sim (hT : TyOk E) (x : Operand) (xt t : TypeId) (ok : Bool) {tm : Tm} {ρ : Operand → Value} (hR : Rel i s w) (hρ : TR i tm ρ) {v : Value} {s' : AS} (h : hAssert x t ok E tm s = some (v, s')) :
    Sim E i s w (Instr.typeAssert (ρ x) xt t ok) v s' := by
  unfold hAssert at h
  split at h
  · rename_i ti u y ht hx
    have hc := hρ x _ hx
    generalize hg : ρ x = y' at hc
    cases hc with
    | @iface _ _ y'' hy =>
      have hd := run_und hT ht w
      split at h
      · cases h
      · rename_i hni
        cases hb : Nat.beq u t with
        | false => rw [hb] at h; cases h
        | true =>
          rw [hb, cond_true] at h
          cases h
          have hut : u = t := by simpa using hb
          subst hut
          have hrun : (Instr.typeAssert (.iface u y'') xt u ok).run E.P w = .ok (if ok then .tuple #[y'', .bool true] else y'') w := by
            unfold Instr.typeAssert
            simp only [Sem.run_bind, hd, Result.andThen_ok]
            cases hdd : ti.desc <;> first
              | exact absurd hdd (hni _)
              | simp
          refine Sim.ofPure hR hrun ?_
          cases ok with
          | true => exact .tuple (.cons hy (.cons (.bool true) .nil))
          | false => exact hy
  · cases h

theorem hUn_sim (op : UnOp) (x : Operand) {tm : Tm} {ρ : Operand → Value} (hR : Rel i s w) (hρ : TR i tm ρ) {v : Value} {s' : AS} (h : hUn op x E tm s = some (v, s')) :
    Sim E i s w (Op.unary op (ρ x)) v s' := by
  unfold hUn at h
  split at h
  · rename_i u hu
    have hc := hρ x _ hu
    split at h
    · rename_i r hr
      cases h
      split at hr
      · unfold notA at hr
        split at hr
        · rename_i b
          cases hr
          generalize hg : ρ x = y at hc
          cases hc
          exact Sim.ofPure hR rfl (.bool _)
        · cases hr
      · cases hr
    · cases hp : plain u with
      | false => rw [hp] at h; cases h
      | true =>
        rw [hp, cond_true] at h
        split at h
        · rename_i r hr
          cases hp2 : plain r with
          | false => rw [hp2] at h; cases h
          | true =>
            rw [hp2] at h
            cases h
            rw [plain_eq hc hp]
            exact Sim.ofPure hR (pureRun_run E.P _ _ hr w) (plain_refl hp2)
        · cases h
  · cases h

theorem bytesV_eq (b : ByteArray) : bytesV b = b.data.toList.map fun c => Value.int .u8 c.toNat := rfl
theorem bytesV_refl (l : List UInt8) : VRs i (l.map fun c => Value.int .u8 c.toNat) (l.map fun c => Value.int .u8 c.toNat) := by
  induction l with
  | nil => exact .nil
  | cons a l ih => exact .cons (.int _ _) ih

theorem toBytes_spec : ∀ {l l' : List Value} {bs : List UInt8}, VRs i l l' → toBytes l = some bs → ∃ ns : List Int, l' = ns.map (Value.int .u8) ∧ bs = ns.map fun n => UInt8.ofNat n.toNat
  | _, _, bs, .nil, h => by simp only [toBytes, Option.some.injEq] at h; subst h; exact ⟨[], rfl, rfl⟩
  | _, _, bs, .cons hv hl, h => by
    cases hv <;> first | (simp [toBytes] at h; done) | skip
    rename_i k n
    cases k <;> first | (simp [toBytes] at h; done) | skip
    simp only [toBytes] at h
    split at h
    · cases h
    · rename_i r hr
      cases h
      obtain ⟨ns, h1, h2⟩ := toBytes_spec hl hr
      exact ⟨n :: ns, by rw [h1]; rfl, by rw [h2]; rfl⟩

theorem pushes (ns : List Int) : ∀ (b : ByteArray), ns.foldl (fun r n => r.push (UInt8.ofNat n.toNat)) b = ⟨⟨b.data.toList ++ ns.map fun n => UInt8.ofNat n.toNat⟩⟩ := by
  induction ns with
  | nil => intro b; simp
  | cons n ns ih =>
    intro b
    rw [List.foldl_cons, ih]
    congr 1
    apply Array.ext'
    simp [ByteArray.push]

theorem convP_sim {a b : TypeId} {u u' : Value} (hR : Rel i s w) (hc : VR i u u') {v : Value} {s' : AS} (h : convP E s a b u = some (v, s')) : Sim E i s w (convert a b u') v s' := by
  unfold convP at h
  cases hp : plain u with
  | false => rw [hp] at h; cases h
  | true =>
    rw [hp, cond_true] at h
    split at h
    · rename_i r hr
      cases hp2 : plain r with
      | false => rw [hp2] at h; cases h
      | true =>
        rw [hp2] at h
        cases h
        rw [plain_eq hc hp]
        exact Sim.ofPure hR (pureRun_run E.P _ _ hr w) (plain_refl hp2)
    · cases h

theorem hConv_sim (hT : TyOk E) (a b : TypeId) (x : Operand) {tm : Tm} {ρ : Operand → Value} (hR : Rel i s w) (hρ : TR i tm ρ) {v : Value} {s' : AS} (h : hConv a b x E tm s = some (v, s')) :
    Sim E i s w (convert a b (ρ x)) v s' := by
  unfold hConv at h
  split at h
  · rename_i u hu
    have hc := hρ x _ hu
    unfold convA at h
    split at h
    · rename_i si di hsi hdi
      have hs := run_und hT hsi w
      have hd := run_und hT hdi w
      obtain ⟨_, _, hsu, _⟩ := hT.ty a si hsi
      obtain ⟨_, _, hdu, _⟩ := hT.ty b di hdi
      split at h
      · rename_i k k' n hdesc
        generalize hg : ρ x = y at hc
        cases hc
        simp only [intV_eq] at h
        cases h
        refine Sim.ofPure hR ?_ (.int _ _)
        simp [convert, hs, hd, hdesc, Conv.intToInt]
      · rename_i bs hdesc
        generalize hg : ρ x = y at hc
        cases hc
        cases h
        refine Sim.ofPure hR ?_ (.string _)
        simp [convert, hs, hd, hdesc]
      · rename_i e bs hdesc
        generalize hg : ρ x = y at hc
        cases hc
        split at h
        · rename_i tz1 tz2 tz3 he
          cases h
          obtain ⟨_, _, heu, _⟩ := hT.ty e _ he
          rw [hdesc] at hdu
          have key := Lib.run_convert_string_bytes (P := E.P) w a b e bs hsu hdu heu
          have hnew := Lib.bytesWorld_at_new w e bs
          have hsz := Lib.bytesWorld_size w e bs
          have hcs : bs.size ≤ (Lib.bytesCells w e bs).size := by simp [Lib.bytesCells]
          have hget : ∀ k, k < (bs.data.toList.map fun c => Value.int .u8 c.toNat).length → (Lib.bytesCells w e bs)[k]? = (bs.data.toList.map fun c => Value.int .u8 c.toNat)[k]? := by
            intro k hk
            have hk' : k < bs.data.size := by simpa using hk
            unfold Lib.bytesCells
            rw [Array.getElem?_append_left (by simpa using hk')]
            rw [← Array.getElem?_toList, Array.toList_map]
          obtain ⟨g1, g2, g3⟩ := hR.rowz (bytesV_refl (i := i) bs.data.toList) 3 (Lib.bytesCells w e bs) e (fun h => absurd rfl h) ((Lib.bytesCells w e bs).size, (Lib.bytesCells w e bs).size + 1) (.inr ⟨rfl, Nat.le_refl _⟩)
            (by simpa using hcs) hget (1, (Lib.bytesCells w e bs).size) ⟨rfl, Nat.le_refl _⟩
          have hheap : (Lib.bytesWorld w e bs).heap = (addB w (.cells (Lib.bytesCells w e bs) e ((Lib.bytesCells w e bs).size, (Lib.bytesCells w e bs).size + 1))).heap := by
            apply Array.ext_getElem?
            intro j
            by_cases hj : j < w.heap.size
            · rw [Lib.bytesWorld_at_old w e bs j hj, addB_old hj]
            · by_cases hj2 : j = w.heap.size
              · subst hj2; rw [hnew, addB_new]
              · rw [Array.getElem?_eq_none (by omega), Array.getElem?_eq_none (by rw [addB_size]; omega)]
          refine ⟨_, _, _, key, ?_, g1.same hheap, g2.trans (Fr.same hheap rfl rfl rfl)⟩
          have hg := grownCap_ge w bs.size 0 e
          refine .slice (ext_same _ _ _) (by omega) (by omega) (by omega) (.inl rfl) (fun _ _ => ?_)
          rw [ext_lim]
          simp [Lib.bytesCells]
          omega
        · cases h
      · rename_i e aa n c hsdesc hddesc
        generalize hg : ρ x = y at hc
        split at h
        · rename_i tz1 tz2 tz3 he
          obtain ⟨_, _, heu, _⟩ := hT.ty e _ he
          rw [hsdesc] at hsu
          rw [hddesc] at hdu
          split at h
          · cases h
            cases hc
            refine Sim.ofPure hR (v' := .string .empty) ?_ (.string _)
            rw [run_convert_bytes_string w a b e _ _ _ hsu heu hdu]
            rfl
          · rename_i ad
            cases hc with
            | @slice b1 o q t' _ _ p c' hi h1 h2 h3 h4 =>
              cases hz : Nat.beq n 0 with
              | true =>
                rw [hz, cond_true] at h
                cases h
                have hn0 : n = 0 := by simpa using hz
                subst hn0
                refine Sim.ofPure hR (v' := .string .empty) ?_ (.string _)
                rw [run_convert_bytes_string w a b e _ _ _ hsu heu hdu, run_bytesToString w _ 0 c' [] rfl]
                rfl
              | false =>
                rw [hz, cond_false] at h
                have hn0 : n ≠ 0 := fun e => by rw [e] at hz; cases hz
                split at h
                · cases h
                · rename_i l hl
                  split at h
                  · cases h
                  · rename_i bs hbs
                    cases h
                    obtain ⟨l', g1, g2, g3⟩ := hR.rdN (P := E.P) hl hi
                    obtain ⟨ns, e1, e2⟩ := toBytes_spec g2 hbs
                    have hp : p = t' + o := h4.resolve_right (by omega)
                    subst hp
                    rw [e1] at g1
                    refine Sim.ofPure hR (v' := .string ⟨⟨bs⟩⟩) ?_ (.string _)
                    rw [run_convert_bytes_string w a b e _ _ _ hsu heu hdu, run_bytesToString w _ n c' ns g1, pushes, e2]
                    simp
        · cases h
      · rename_i e0 e ad n c hsdesc hddesc
        generalize hg : ρ x = y at hc
        cases hab : Nat.beq a b with
        | false => rw [hab] at h; cases h
        | true =>
          rw [hab, cond_true] at h
          have hab' : a = b := by simpa using hab
          split at h
          · rename_i tz1 tz2 tz3 he
            have heu := run_und hT he w
            rw [hsdesc] at hs
            rw [hddesc] at hd
            split at h
            · rename_i ct m z hblk
              cases h
              cases hc with
              | @slice b1 o q t' _ _ p c' hi h1 h2 h3 h4 h5 =>
                obtain ⟨cs, e2, fr, g1, g2, g3, g4, g5⟩ := hR.at (P := E.P) hblk rfl hi
                obtain ⟨lo, hi2⟩ := fr
                let fr' : Nat × Nat := if lo == hi2 then (cs.size, cs.size + 1) else (min lo cs.size, max hi2 (cs.size + 1))
                have hfr' : cs.size ≤ fr'.1 := by
                  simp only [fr']
                  by_cases hlh : lo = hi2
                  · simp [hlh]
                  · have : (lo == hi2) = false := by simpa using hlh
                    rw [this]
                    simp only [Bool.false_eq_true, if_false]
                    rcases g3 with g3 | g3
                    · exact absurd g3 hlh
                    · have := g3.2
                      simp only at this
                      omega
                have hw : w.freeze ⟨q, cs.size, none⟩ 1 = setB w q (.cells cs e2 fr') := by
                  unfold World.freeze setB
                  simp only [Nat.one_ne_zero, if_false]
                  congr 1
                  have hq := lt_of_some g1
                  apply Array.ext
                  · simp
                  · intro j j1 j2
                    rw [Array.getElem_modify, Array.getElem_setIfInBounds]
                    by_cases hj : q = j
                    · subst hj
                      have : w.heap[q] = .cells cs e2 (lo, hi2) := by simpa [Array.getElem?_eq_getElem hq] using g1
                      rw [if_pos rfl, if_pos rfl, this]
                    · rw [if_neg hj, if_neg hj]
                have hsh : w.shape? q = some (e2, cs.size) := by unfold World.shape?; rw [g1]
                have hupd := hR.upd (w' := setB w q (.cells cs e2 fr')) (o' := .cells ct m (2 * (z / 2) + 1)) hblk rfl rfl hi (fun k hk => setB_ne hk) (setB_size _ _ _) rfl rfl rfl
                  (fun _ => by
                    rw [setB_same g1]
                    exact ⟨cs, e2, fr', rfl, g2, .inr ⟨by omega, hfr'⟩, g4, fun h => by
                      have e1 : ze (2 * (z / 2) + 1) = ze z := by unfold ze; omega
                      have e2 : zs (2 * (z / 2) + 1) = zs z := by unfold zs; omega
                      rw [e1] at h
                      rw [e1, e2]
                      exact g5 h⟩)
                  (fun c2 n2 z2 h2' => by
                    cases h2'
                    obtain ⟨l1, l2⟩ := hR.lim _ _ _ _ _ _ hblk hi
                    refine ⟨by rw [l1]; unfold zs; omega, fun cs3 e3 fr3 h3' => ?_⟩
                    rw [setB_same g1] at h3'
                    cases h3'
                    exact l2 _ _ _ g1)
                refine ⟨_, _, _, ?_, .slice hi h1 h2 h3 h4 h5, hupd.1, hupd.2⟩
                subst hab'
                have hee : e0 = e := by
                  have := hs.symm.trans hd
                  cases this
                  rfl
                subst hee
                unfold convert
                simp only [Sem.run_bind, hs, hd, heu, Result.andThen_ok, beq_self_eq_true, markStringish, run_shape, hsh, run_freeze, Sem.run_pure]
                rw [hw]
            · cases h
          · cases h
      · -- an address seen as unsafe.Pointer
        rename_i t0 p hsdesc hddesc
        generalize hg : ρ x = y at hc
        rw [hsdesc] at hsu
        rw [hddesc] at hdu
        cases p with
        | none =>
          cases h
          cases hc
          refine Sim.ofPure hR (v' := .pointer none) ?_ .nilp
          have hs := run_und hT hsi w
          have hd := run_und hT hdi w
          rw [hsdesc] at hs
          rw [hddesc] at hd
          simp [convert, hs, hd, Conv.unsafePointer]
        | some ad =>
          simp only at h
          split at h
          · rename_i j hj
            cases hz : Nat.beq j.size 0 with
            | true => rw [hz] at h; cases h
            | false =>
              rw [hz, cond_false] at h
              split at h
              · rename_i c m z hb
                cases hlt : Nat.blt ad.off m with
                | false => rw [hlt] at h; cases h
                | true =>
                  rw [hlt] at h
                  cases h
                  cases hc with
                  | @ptr b o q t hi =>
                    obtain ⟨cs, e, fr, g1, g2, g3, g4, g5⟩ := hR.at (P := E.P) hb rfl hi
                    obtain ⟨info, q1, _, q3, _⟩ := hT.ty t0 j hj
                    have ho : o < m := by simpa [Nat.blt_eq] using hlt
                    exact Sim.ofPure hR (Lib.run_to_unsafe w ⟨q, t + o, none⟩ hsu hdu q1 (by rw [q3]; intro h0; rw [h0] at hz; cases hz) (by unfold World.shape?; rw [g1]) (by show t + o < cs.size; omega)) (.ptr hi)
              · cases h
          · cases h
      · -- and back
        rename_i t0 ad hsdesc hddesc
        generalize hg : ρ x = y at hc
        rw [hsdesc] at hsu
        rw [hddesc] at hdu
        split at h
        · rename_i j c m z hj hb
          cases hcond : (Nat.beq (ze z) (t0 + 1) && Nat.beq (zs z) 0 && Nat.beq ad.off 0 && Nat.ble j.size m && Nat.ble 1 j.size) with
          | false => rw [hcond] at h; cases h
          | true =>
            rw [hcond] at h
            cases h
            simp only [Bool.and_eq_true, Nat.beq_eq, Nat.ble_eq] at hcond
            obtain ⟨⟨⟨⟨k1, k2⟩, k3⟩, k4⟩, k5⟩ := hcond
            cases hc with
            | @ptr b o q t hi =>
              obtain ⟨cs, e, fr, g1, g2, g3, g4, g5⟩ := hR.at (P := E.P) hb rfl hi
              obtain ⟨info, q1, _, q3, _⟩ := hT.ty t0 j hj
              obtain ⟨f1, f2⟩ := g5 (by rw [k1]; exact Nat.succ_ne_zero _)
              have he : e = t0 := by rw [k1] at f1; exact Nat.succ.inj f1
              subst he
              have ht0 := f2 k2
              subst ht0
              simp only at k3
              subst k3
              have hcell : E.P.cellsOf e = j.size := by simp [Program.cellsOf, q1, q3]
              refine Sim.ofPure hR (Lib.run_from_unsafe w ⟨q, 0 + 0, none⟩ hsu hdu q1 (by unfold World.shape?; rw [g1]) ?_) (.ptr hi)
              rw [hcell]
              have hd1 : E.P.depth = (2 * (E.P.types.size + Made.depth) + 1) + 1 := rfl
              have hdiv : 1 ≤ cs.size / j.size := (Nat.one_le_div_iff (by omega)).2 (by omega)
              rw [hd1]
              simp only [liesAt, Bool.or_eq_true]
              left
              rw [hd1]
              have hne : j.size ≠ 0 := by omega
              simp [rowAt, hcell, hne, sameLayout, hdiv]
        · cases h
      · exact convP_sim hR hc h
    · cases h
  · cases h

end
end Go.Ax
