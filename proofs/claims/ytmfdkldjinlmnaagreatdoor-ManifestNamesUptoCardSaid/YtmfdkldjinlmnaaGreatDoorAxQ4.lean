/- The machine, quick in the kernel, part 4: a quick operation comes to what the operation comes to. -/
import Derived.Test.YtmfdkldjinlmnaaGreatDoorAxQ3
set_option linter.unusedVariables false
set_option linter.unusedSimpArgs false
namespace Go.Ax
open Go

theorem evq_swp (x : Operand) (tm : Tm) (s : AS) (k : K) : evq (mkO x) tm (swp k s) = toR (match ev tm x with
    | some v => some (v, s)
    | none => none) k := by
  rw [evq_eq]
  cases ev tm x <;> rfl

/-- Where the value is as it should be, the quick answer is the slow one. -/
theorem evq_to {x : Operand} {tm : Tm} {f : Value → R} {r : R} (h : ∀ v, ev tm x = some v → f v = r) (hn : ev tm x = none → r = none) : evq (mkO x) tm f = r := by
  rw [evq_eq]
  cases hx : ev tm x with
  | none => exact (hn hx).symm
  | some v => exact h v hx

theorem inQ_eq {sl : R} {f : Nat → R} {n : Int} {m : Nat} (h : inR n m = true → f n.toNat = sl) : inQ sl f n m = sl := by
  cases n with
  | negSucc a => rfl
  | ofNat a =>
    show @Bool.rec (fun _ => R) sl (f a) (Nat.ble (Nat.succ a) m) = sl
    cases hb : Nat.ble (Nat.succ a) m with
    | false => rfl
    | true => exact h hb

section
variable {E : Env} {call : CallF} {callk : CallK} {tm : Tm} {s : AS} {k : K}

theorem slow_eq (op : Op) (h : ∀ c, op ≠ .call c) : exq (.slow op) E callk tm s k = toR (execA op E call tm s) k := by
  show toR (opK op E tm s) k = _
  rw [opK_eq]
  cases op <;> first | rfl | exact absurd rfl (h _)

theorem q_load (t : TypeId) (a : Operand) : exq (mkOp E (.load t a)) E callk tm s k = toR (execA (.load t a) E call tm s) k := by
  show exq (mkLoad E t a) E callk tm s k = _
  unfold mkLoad
  cases ht : E.ty.get t with
  | none => exact slow_eq _ (fun _ h => by cases h)
  | some i =>
    simp only
    cases hd : isAggD i.desc with
    | true =>
      rw [cond_true]
      refine evq_to (fun v hv => ?_) (fun hv => ?_)
      · show sPtr v _ _ = _
        rw [sPtr_eq]
        split
        · rename_i p
          show _ = toR (hLoad t a E tm s) k
          unfold hLoad
          rw [ht, hv]
          simp only [hd, cond_true]
          unfold ldNP
          cases rdN s p.block p.off i.size <;> rfl
        · rfl
      · show toR (hLoad t a E tm s) k = none
        unfold hLoad
        rw [ht, hv]; rfl
    | false =>
      rw [cond_false]
      refine evq_to (fun v hv => ?_) (fun hv => ?_)
      · show sPtr v _ _ = _
        rw [sPtr_eq]
        split
        · rename_i p
          show _ = toR (hLoad t a E tm s) k
          unfold hLoad
          rw [ht, hv]
          simp only [hd, cond_false]
          unfold ld1P
          rw [rd1_eq]
          cases rd s p.block p.off <;> rfl
        · rfl
      · show toR (hLoad t a E tm s) k = none
        unfold hLoad
        rw [ht, hv]; rfl

theorem q_store (t : TypeId) (a x : Operand) : exq (mkOp E (.store t a x)) E callk tm s k = toR (execA (.store t a x) E call tm s) k := by
  show exq (mkStore E t a x) E callk tm s k = _
  unfold mkStore
  cases ht : E.ty.get t with
  | none => exact slow_eq _ (fun _ h => by cases h)
  | some i =>
    simp only
    cases hd : Nat.beq i.size 1 with
    | false => exact slow_eq _ (fun _ h => by cases h)
    | true =>
      rw [cond_true]
      refine evq_to (fun v hv => ?_) (fun hv => ?_)
      · show sPtr v _ _ = _
        rw [sPtr_eq]
        split
        · rename_i p
          refine evq_to (fun u hu => ?_) (fun hu => ?_)
          · show sOne u _ _ = _
            rw [sOne_eq]
            cases ho : oneC u with
            | false => rfl
            | true =>
              rw [cond_true]
              show _ = toR (hStore t a x E tm s) k
              unfold hStore
              rw [ht, hv, hu]
              have hc : u.cells.toList = [u] := by cases u <;> first | rfl | (simp [oneC] at ho)
              have h1 : i.size = 1 := Nat.eq_of_beq_eq_true hd
              simp only [hc, h1, List.length_cons, List.length_nil]
              show _ = toR (match wrN s p.block p.off [u] with
                | some s' => some (.tuple #[], s')
                | none => none) k
              rw [wr1_eq _ _ _ _ ho]
              cases wrN s p.block p.off [u] <;> rfl
          · show toR (hStore t a x E tm s) k = none
            unfold hStore
            rw [ht, hv, hu]; rfl
        · rfl
      · show toR (hStore t a x E tm s) k = none
        unfold hStore
        rw [ht, hv]; rfl

theorem q_fieldAddr (t : TypeId) (x : Operand) (f : Nat) : exq (mkOp E (.fieldAddr t x f)) E callk tm s k = toR (execA (.fieldAddr t x f) E call tm s) k := by
  have hs : exq (.slow (.fieldAddr t x f)) E callk tm s k = toR (execA (.fieldAddr t x f) E call tm s) k := slow_eq _ (fun _ h => by cases h)
  show exq (mkFAddr E t x f) E callk tm s k = _
  unfold mkFAddr
  cases ht : E.ty.get t with
  | none => exact hs
  | some i =>
    simp only
    split
    · rename_i fs hd
      cases hf : fs.toList[f]? with
      | none => exact hs
      | some fd =>
        simp only
        cases hj : E.ty.get fd.type with
        | none => exact hs
        | some j =>
          simp only
          cases hz : Nat.beq j.size 0 with
          | true => exact hs
          | false =>
            rw [cond_false]
            refine evq_to (fun v hv => ?_) (fun hv => ?_)
            · show sPtr v _ _ = _
              rw [sPtr_eq]
              split
              · rename_i p
                show _ = toR (hFieldAddr t x f E tm s) k
                unfold hFieldAddr
                rw [ht, hv]
                simp only [hd, hf, hj, hz, cond_false, natK_eq]
                unfold adP
                rw [natK_eq]
                rfl
              · rfl
            · show toR (hFieldAddr t x f E tm s) k = none
              unfold hFieldAddr
              rw [ht, hv]; rfl
    · exact hs

theorem q_indexAddr (t : TypeId) (x y : Operand) : exq (mkOp E (.indexAddr t x y)) E callk tm s k = toR (execA (.indexAddr t x y) E call tm s) k := by
  have hs : exq (.slow (.indexAddr t x y)) E callk tm s k = toR (execA (.indexAddr t x y) E call tm s) k := slow_eq _ (fun _ h => by cases h)
  show exq (mkIAddr E t x y) E callk tm s k = _
  unfold mkIAddr
  cases ht : E.ty.get t with
  | none => exact hs
  | some i =>
    simp only
    have hnx : ev tm x = none → toR (hIndexAddr t x y E tm s) k = none := fun hv => by
      unfold hIndexAddr
      rw [ht, hv]; rfl
    have hny : ev tm y = none → toR (hIndexAddr t x y E tm s) k = none := fun hv => by
      unfold hIndexAddr
      rw [ht, hv]
      cases ev tm x <;> rfl
    split
    · rename_i e hd
      cases hj : E.ty.get e with
      | none => exact hs
      | some j =>
        simp only
        refine evq_to (fun v hv => ?_) hnx
        show sSlc v _ _ = _
        rw [sSlc_eq]
        split
        · rename_i a m c
          refine evq_to (fun u hu => ?_) hny
          show sInt u _ _ = _
          rw [sInt_eq]
          split
          · rename_i kd n
            refine inQ_eq (fun hr => ?_)
            show _ = toR (hIndexAddr t x y E tm s) k
            unfold hIndexAddr
            rw [ht, hv, hu]
            simp only [hd, hj, hr, cond_true, natK_eq]
            unfold ixD
            rw [natK_eq]
            rfl
          · rfl
        · rfl
    · rename_i m e hd
      cases hj : E.ty.get e with
      | none => exact hs
      | some j =>
        simp only
        refine evq_to (fun v hv => ?_) hnx
        show sPtr v _ _ = _
        rw [sPtr_eq]
        split
        · rename_i a
          refine evq_to (fun u hu => ?_) hny
          show sInt u _ _ = _
          rw [sInt_eq]
          split
          · rename_i kd n
            refine inQ_eq (fun hr => ?_)
            show _ = toR (hIndexAddr t x y E tm s) k
            unfold hIndexAddr
            rw [ht, hv, hu]
            simp only [hd, hj, hr, cond_true, natK_eq]
            unfold ixD
            rw [natK_eq]
            rfl
          · rfl
        · rfl
    · exact hs

theorem q_field (t : TypeId) (x : Operand) (f : Nat) : exq (mkOp E (.field t x f)) E callk tm s k = toR (execA (.field t x f) E call tm s) k := by
  have hs : exq (.slow (.field t x f)) E callk tm s k = toR (execA (.field t x f) E call tm s) k := slow_eq _ (fun _ h => by cases h)
  show exq (mkField E t x f) E callk tm s k = _
  unfold mkField
  cases ht : E.ty.get t with
  | none => exact hs
  | some i =>
    simp only
    split
    · rename_i fs hd
      cases hf : fs.toList[f]? with
      | none => exact hs
      | some fd =>
        simp only
        cases hj : E.ty.get fd.type with
        | none => exact hs
        | some j =>
          simp only
          cases hz : isAggD j.desc with
          | true => exact hs
          | false =>
            rw [cond_false]
            refine evq_to (fun v hv => ?_) (fun hv => ?_)
            · show sAgg v _ _ = _
              rw [sAgg_eq]
              split
              · rename_i cs
                unfold nth1
                rw [nthq_eq]
                cases hg : cs.toList[fd.offset]? with
                | none => rfl
                | some u =>
                  show _ = toR (hField t x f E tm s) k
                  unfold hField
                  rw [ht, hv]
                  simp only [hd, hf, partA, hj, hz, cond_false, hg]
                  rfl
              · rfl
            · show toR (hField t x f E tm s) k = none
              unfold hField
              rw [ht, hv]; rfl
    · exact hs

theorem q_index (t : TypeId) (x y : Operand) : exq (mkOp E (.index t x y)) E callk tm s k = toR (execA (.index t x y) E call tm s) k := by
  have hs : exq (.slow (.index t x y)) E callk tm s k = toR (execA (.index t x y) E call tm s) k := slow_eq _ (fun _ h => by cases h)
  show exq (mkIndex E t x y) E callk tm s k = _
  unfold mkIndex
  cases ht : E.ty.get t with
  | none => exact hs
  | some i =>
    simp only
    split
    · rename_i hd
      refine evq_to (fun v hv => ?_) (fun hv => ?_)
      · show sStr v _ _ = _
        rw [sStr_eq]
        split
        · rename_i b
          refine evq_to (fun u hu => ?_) (fun hu => ?_)
          · show sInt u _ _ = _
            rw [sInt_eq]
            split
            · rename_i kd n
              cases n with
              | negSucc n => rfl
              | ofNat n =>
                show @Option.rec _ (fun _ => R) _ _ (nthq n b.data.toList) = _
                rw [nthq_eq]
                cases hg : b.data.toList[n]? with
                | none => rfl
                | some c =>
                  show isD _ s k c = toR (hIndex t x y E tm s) k
                  unfold hIndex
                  rw [ht, hv, hu]
                  have h0 : (0 : Int) ≤ Int.ofNat n := Int.natCast_nonneg n
                  have hg' : b.data.toList[(Int.ofNat n).toNat]? = some c := hg
                  simp only [hd, h0, if_true, hg']
                  unfold isD
                  rw [natK_eq]
                  rfl
            · rfl
          · show toR (hIndex t x y E tm s) k = none
            unfold hIndex
            rw [ht, hv, hu]; rfl
        · rfl
      · show toR (hIndex t x y E tm s) k = none
        unfold hIndex
        rw [ht, hv]; rfl
    · exact hs

theorem toR_bin (op : BinOp) (t : TypeId) (x y : Operand) {v w : Value} (hv : ev tm x = some v) (hw : ev tm y = some w) : toR (hBin op t x y E tm s) k = toR1 (binA E s op t x y v w) k s := by
  unfold hBin
  rw [hv, hw]
  simp only
  cases binA E s op t x y v w <;> rfl

theorem q_bin (op : BinOp) (t u : TypeId) (x y : Operand) : exq (mkOp E (.binOp op t x y u)) E callk tm s k = toR (execA (.binOp op t x y u) E call tm s) k := by
  show evq (mkO x) tm _ = _
  refine evq_to (fun v hv => ?_) (fun hv => ?_)
  · refine evq_to (fun w hw => ?_) (fun hw => ?_)
    · show sInt v _ _ = _
      rw [sInt_eq]
      split
      · rename_i kx a
        show sInt w _ _ = _
        rw [sInt_eq]
        split
        · rename_i ky b
          refine bin3_eq (E := E) (t := t) (ox := x) (oy := y) ?_
          show toR (hBin op t x y E tm s) k = _
          exact toR_bin op t x y hv hw
        · rfl
      · rw [sStr_eq]
        split
        · rename_i ba
          show sStr w _ _ = _
          rw [sStr_eq]
          split
          · rename_i bb
            refine tOf_eq op ?_
            show toR (hBin op t x y E tm s) k = _
            exact toR_bin op t x y hv hw
          · rfl
        · rfl
    · show toR (hBin op t x y E tm s) k = none
      unfold hBin
      rw [hv, hw]; rfl
  · show toR (hBin op t x y E tm s) k = none
    unfold hBin
    rw [hv]; rfl

theorem q_ext (x : Operand) (i : Nat) : exq (mkOp E (.extract x i)) E callk tm s k = toR (execA (.extract x i) E call tm s) k := by
  show evq (mkO x) tm _ = _
  refine evq_to (fun v hv => ?_) (fun hv => ?_)
  · show sTup v _ _ = _
    rw [sTup_eq]
    split
    · rename_i cs
      unfold nth1
      rw [nthq_eq]
      cases hg : cs.toList[i]? with
      | none => rfl
      | some u =>
        show _ = toR (hExtract x i E tm s) k
        unfold hExtract
        rw [hv]
        simp only [hg]
        rfl
    · rfl
  · show toR (hExtract x i E tm s) k = none
    unfold hExtract
    rw [hv]; rfl

theorem q_not (t : TypeId) (x : Operand) : exq (mkOp E (.unOp .not t x)) E callk tm s k = toR (execA (.unOp .not t x) E call tm s) k := by
  show evq (mkO x) tm _ = _
  refine evq_to (fun v hv => ?_) (fun hv => ?_)
  · show sBool v _ _ = _
    rw [sBool_eq]
    split
    · rename_i b
      show _ = toR (hUn .not x E tm s) k
      unfold hUn
      rw [hv]
      cases b <;> rfl
    · rfl
  · show toR (hUn .not x E tm s) k = none
    unfold hUn
    rw [hv]; rfl

theorem q_conv (a b : TypeId) (x : Operand) : exq (mkOp E (.convert a b x)) E callk tm s k = toR (execA (.convert a b x) E call tm s) k := by
  have hs : exq (.slow (.convert a b x)) E callk tm s k = toR (execA (.convert a b x) E call tm s) k := slow_eq _ (fun _ h => by cases h)
  show exq (mkConv E a b x) E callk tm s k = _
  unfold mkConv
  cases ha : E.ty.get a with
  | none => exact hs
  | some si =>
    cases hb : E.ty.get b with
    | none => exact hs
    | some di =>
      simp only
      split
      · rename_i kd hd
        refine evq_to (fun v hv => ?_) (fun hv => ?_)
        · show sInt v _ _ = _
          rw [sInt_eq]
          split
          · rename_i kx n
            cases n with
            | negSucc n => rfl
            | ofNat n =>
              refine fin_eq (fun h => ?_)
              show _ = toR (hConv a b x E tm s) k
              unfold hConv
              rw [hv]
              simp only [convA, ha, hb, hd, intV_nat h]
              rfl
          · rfl
        · show toR (hConv a b x E tm s) k = none
          unfold hConv
          rw [hv]; rfl
      · exact hs

theorem q_chk (x : Operand) : exq (mkOp E (.nilCheck x)) E callk tm s k = toR (execA (.nilCheck x) E call tm s) k := by
  show evq (mkO x) tm _ = _
  refine evq_to (fun v hv => ?_) (fun hv => ?_)
  · show sPtr v _ _ = _
    rw [sPtr_eq]
    split
    · rename_i p
      show _ = toR (hNilCheck x E tm s) k
      unfold hNilCheck
      rw [hv]
      rfl
    · rfl
  · show toR (hNilCheck x E tm s) k = none
    unfold hNilCheck
    rw [hv]; rfl

theorem q_alloc (t : TypeId) : exq (mkOp E (.alloc t)) E callk tm s k = toR (execA (.alloc t) E call tm s) k := by
  show exq (mkAlloc E t) E callk tm s k = _
  unfold mkAlloc
  cases ht : E.ty.get t with
  | none => exact slow_eq _ (fun _ h => by cases h)
  | some i =>
    show natK s.nx _ = toR (hAlloc t E tm s) k
    unfold hAlloc
    rw [natK_eq, ht]
    unfold al1
    rw [T.pk_eq]
    rfl

theorem q_len (xs : Array Operand) (ts : Array TypeId) : exq (mkOp E (.call ⟨.builtin .len, xs, ts⟩)) E callk tm s k = toR (execA (.call ⟨.builtin .len, xs, ts⟩) E call tm s) k := by
  have hs : exq (.slow (.call ⟨.builtin .len, xs, ts⟩)) E callk tm s k = toR (execA (.call ⟨.builtin .len, xs, ts⟩) E call tm s) k := rfl
  show exq (mkLen E xs ts) E callk tm s k = _
  unfold mkLen
  split
  · rename_i x t rest hx hts
    have hnx : ev tm x = none → toR (hCall ⟨.builtin .len, xs, ts⟩ E tm s) k = none := fun hv => by
      unfold hCall
      simp only [hx, evs, hv]
      rfl
    have hgo : ∀ v, ev tm x = some v → toR (hCall ⟨.builtin .len, xs, ts⟩ E tm s) k = toR1 (lenA E s t v) k s := fun v hv => by
      unfold hCall
      simp only [hx, evs, hv, hts, builtinA]
      cases lenA E s t v <;> rfl
    cases ht : E.ty.get t with
    | none => exact hs
    | some i =>
      simp only
      split
      · rename_i e hd
        refine evq_to (fun v hv => ?_) hnx
        show sLen v _ _ = _
        rw [sLen_eq]
        split
        · rename_i a n c
          show _ = toR (hCall ⟨.builtin .len, xs, ts⟩ E tm s) k
          rw [hgo _ hv]
          simp only [lenA, ht, hd]
          rfl
        · rfl
      · rename_i hd
        refine evq_to (fun v hv => ?_) hnx
        show sStr v _ _ = _
        rw [sStr_eq]
        split
        · rename_i b
          show _ = toR (hCall ⟨.builtin .len, xs, ts⟩ E tm s) k
          rw [hgo _ hv]
          simp only [lenA, ht, hd]
          unfold leU
          rw [natK_eq]
          rfl
        · rfl
      · exact hs
  · exact hs

theorem q_call (hc : ∀ f xs s k, callk f xs s k = toR (call f xs s) k) (f : FuncId) (xs : Array Operand) (ts : Array TypeId) :
    exq (mkOp E (.call ⟨.value (.func f), xs, ts⟩)) E callk tm s k = toR (execA (.call ⟨.value (.func f), xs, ts⟩) E call tm s) k := by
  show evsq (xs.toList.map mkO) tm _ = toR (callV (.func f) xs.toList call tm s) k
  rw [evsq_eq]
  unfold callV
  show _ = toR (match ev tm (.func f), evs tm xs.toList with
    | some (.func (.func g) first captured), some xs => call g (first.toList ++ xs ++ captured.toList) s
    | _, _ => none) k
  have : ev tm (.func f) = some (.func (.func f) #[] #[]) := rfl
  rw [this]
  cases evs tm xs.toList with
  | none => rfl
  | some vs =>
    show callk f vs s k = _
    rw [hc]
    simp

theorem q_callv (hc : ∀ f xs s k, callk f xs s k = toR (call f xs s) k) (f : Operand) (xs : Array Operand) (ts : Array TypeId) :
    exq (.callv (mkO f) (xs.toList.map mkO)) E callk tm s k = toR (execA (.call ⟨.value f, xs, ts⟩) E call tm s) k := by
  show evq (mkO f) tm (cvA (xs.toList.map mkO) tm callk s k) = toR (callV f xs.toList call tm s) k
  rw [evq_eq]
  unfold callV
  cases ev tm f with
  | none => rfl
  | some v =>
    show sFun v _ = _
    cases v <;> first | rfl | skip
    rename_i fn a c
    show cvB _ _ _ _ _ fn a c = _
    unfold cvB
    cases fn <;> first | rfl | skip
    rename_i g
    simp only
    rw [evsq_eq]
    cases evs tm xs.toList with
    | none => rfl
    | some vs => exact hc _ _ _ _

theorem exq_eq (hc : ∀ f xs s k, callk f xs s k = toR (call f xs s) k) (op : Op) : exq (mkOp E op) E callk tm s k = toR (execA op E call tm s) k := by
  cases op with
  | move x => exact evq_swp x tm s k
  | assign x => exact evq_swp x tm s k
  | load t a => exact q_load t a
  | store t a x => exact q_store t a x
  | fieldAddr t x f => exact q_fieldAddr t x f
  | indexAddr t x y => exact q_indexAddr t x y
  | field t x f => exact q_field t x f
  | index t x y => exact q_index t x y
  | binOp b t x y u => exact q_bin b t u x y
  | extract x i => exact q_ext x i
  | unOp o t x =>
    cases o
    case not => exact q_not t x
    all_goals exact slow_eq _ (fun _ h => by cases h)
  | convert a b x => exact q_conv a b x
  | nilCheck x => exact q_chk x
  | alloc t => exact q_alloc t
  | call c =>
    obtain ⟨ce, xs, ts⟩ := c
    cases ce with
    | value f =>
      cases f
      case func f => exact q_call hc f xs ts
      all_goals exact q_callv hc _ xs ts
    | invoke r n => rfl
    | builtin b =>
      cases b
      case len => exact q_len xs ts
      all_goals rfl
  | _ => exact slow_eq _ (fun _ h => by cases h)
end
end Go.Ax
