/- Regions that draw their order: what an operation looks at. -/
import Derived.Test.YtmfdkldjinlmnaaGreatDoorAxNew
set_option linter.unusedVariables false
set_option linter.unusedSimpArgs false
namespace Go.Ax
open Go

section
variable {E : Env} {s : AS} {tm tm' : Tm}

theorem evs_congr : ∀ {l : List Operand}, (∀ x ∈ l, ev tm' x = ev tm x) → evs tm' l = evs tm l
  | [], _ => rfl
  | x :: l, h => by
    simp only [evs]
    rw [h x (by simp), evs_congr (fun y hy => h y (by simp [hy]))]

theorem partsOf_congr : ∀ {l : List (Nat × Operand)}, (∀ x ∈ l.map (·.2), ev tm' x = ev tm x) → partsOf tm' l = partsOf tm l
  | [], _ => rfl
  | (k, x) :: l, h => by
    simp only [partsOf]
    rw [h x (by simp), partsOf_congr (fun y hy => h y (by simp only [List.map_cons, List.mem_cons]; exact .inr hy))]

theorem bnd_congr {d m : Nat} {x : Option Operand} (h : ∀ y ∈ x.toList, ev tm' y = ev tm y) : bnd tm' d m x = bnd tm d m x := by
  cases x with
  | none => rfl
  | some y => simp only [bnd, h y (by simp)]
theorem bnds_congr {n c : Nat} {lo hi mx : Option Operand} (h1 : ∀ y ∈ lo.toList, ev tm' y = ev tm y) (h2 : ∀ y ∈ hi.toList, ev tm' y = ev tm y) (h3 : ∀ y ∈ mx.toList, ev tm' y = ev tm y) :
    bnds tm' n c lo hi mx = bnds tm n c lo hi mx := by
  unfold bnds
  rw [bnd_congr h3]
  simp only [bnd_congr h1, bnd_congr h2]
theorem sliceA_congr {t : TypeId} {v : Value} {lo hi mx : Option Operand} (h1 : ∀ y ∈ lo.toList, ev tm' y = ev tm y) (h2 : ∀ y ∈ hi.toList, ev tm' y = ev tm y) (h3 : ∀ y ∈ mx.toList, ev tm' y = ev tm y) :
    sliceA E s tm' t v lo hi mx = sliceA E s tm t v lo hi mx := by
  unfold sliceA
  simp only [bnds_congr h1 h2 h3, bnds_congr (mx := none) h1 h2 (fun y hy => by simp at hy)]

theorem opA_congr (op : Op) (h : ∀ x ∈ op.operands, ev tm' x = ev tm x) : opA op E tm' s = opA op E tm s := by
  cases op <;> simp only [Op.operands] at h <;> simp only [opA] <;> try rfl
  case build t ps => simp only [hBuild]; rw [partsOf_congr (fun x hx => h x (by simpa using hx))]
  case buildSlice t n ps => simp only [hBuildSlice]; rw [partsOf_congr (fun x hx => h x (by simpa using hx))]
  case makeFunc f a b =>
    simp only [hFunc]
    rw [evs_congr (fun x hx => h x (by simp [Array.mem_toList_iff.1 hx])), evs_congr (l := b.toList) (fun x hx => h x (by simp [Array.mem_toList_iff.1 hx]))]
  case makeMap t r =>
    cases r with
    | none => rfl
    | some x => simp only [hMap]; rw [h x (by simp)]
  case slice t x lo hi mx =>
    simp only [hSlice]
    rw [h x (by simp)]
    simp only [sliceA_congr (tm := tm) (tm' := tm') (E := E) (s := s) (t := t) (lo := lo) (hi := hi) (mx := mx) (fun y hy => h y (by simp_all)) (fun y hy => h y (by simp_all)) (fun y hy => h y (by simp_all))]
  case call c =>
    simp only [hCall]
    split
    · rw [evs_congr (fun x hx => h x (by simp [Call.operands, Array.mem_toList_iff.1 hx]))]
    · rfl
  case pick c a b =>
    simp only [hPick]
    rw [h c (by simp)]
    split
    · rename_i t _
      cases t with
      | true => simp only [cond_true]; rw [h a (by simp)]
      | false => simp only [cond_false]; rw [h b (by simp)]
    · rfl
  all_goals
    simp only [hMove, hBox, hLoad, hStore, hNilCheck, hBin, hUn, hConv, hIface, hMakeSlice, hFieldAddr, hField, hIndexAddr, hIndex, hLookup, hMapUpdate, hRange, hNext, hAssert, hExtract]
    simp (disch := simp) only [h]

theorem toNum_spec {t : TypeId} {di : TI} (h : toNum E.ty t = true) (hd : E.ty.get t = some di) : (∃ k, di.desc = .int k) ∨ ∃ k, di.desc = .float k := by
  unfold toNum at h
  rw [hd] at h
  simp only at h
  split at h
  · rename_i k hk; exact .inl ⟨k, hk⟩
  · rename_i k hk; exact .inr ⟨k, hk⟩
  · cases h

/-- A conversion to a number. -/
theorem convA_num {a b : TypeId} {x v : Value} {s' : AS} (hn : toNum E.ty b = true) (h : convA E s a b x = some (v, s')) : s' = s ∧ ∀ s2, convA E s2 a b x = some (v, s2) := by
  unfold convA at h ⊢
  split at h
  · rename_i si di hsi hdi
    have hd := toNum_spec hn hdi
    have key : ∀ {r : Option (Value × AS)} , (convP E s a b x = some (v, s')) → s' = s ∧ ∀ s2, convP E s2 a b x = some (v, s2) := by
      intro _ h
      unfold convP at h ⊢
      cases hp : plain x with
      | false => rw [hp] at h; cases h
      | true =>
        rw [hp, cond_true] at h
        split at h
        · rename_i u hu
          cases hpu : plain u with
          | false => rw [hpu] at h; cases h
          | true =>
            rw [hpu, cond_true] at h
            cases h
            exact ⟨rfl, fun s2 => by simp [hu, hpu]⟩
        · cases h
    split at h
    · rename_i k k' n hk
      split at h
      · rename_i u hu
        cases h
        exact ⟨rfl, fun s2 => by simp [hk, hu]⟩
      · cases h
    · rename_i bs hk
      rcases hd with ⟨k, hk'⟩ | ⟨k, hk'⟩ <;> rw [hk'] at hk <;> cases hk
    · rename_i e bs hk
      rcases hd with ⟨k, hk'⟩ | ⟨k, hk'⟩ <;> rw [hk'] at hk <;> cases hk
    · rename_i e aa n c hk1 hk
      rcases hd with ⟨k, hk'⟩ | ⟨k, hk'⟩ <;> rw [hk'] at hk <;> cases hk
    · rename_i e0 e aa n c hk1 hk
      rcases hd with ⟨k, hk'⟩ | ⟨k, hk'⟩ <;> rw [hk'] at hk <;> cases hk
    · rename_i t0 p hk1 hk
      rcases hd with ⟨k, hk'⟩ | ⟨k, hk'⟩ <;> rw [hk'] at hk <;> cases hk
    · rename_i t0 p hk1 hk
      rcases hd with ⟨k, hk'⟩ | ⟨k, hk'⟩ <;> rw [hk'] at hk <;> cases hk
    · rename_i h1 h2 h3 h4
      exact key (r := none) h
  · cases h

/-- What does not act, and makes no block, leaves the state. -/
theorem opA_still {op : Op} (he : eff E.ty op = false) (hn : isNew op = false) {v : Value} {s' : AS} (h : opA op E tm s = some (v, s')) : s' = s := by
  cases op <;> simp only [opA] at h <;> first
    | (simp [eff] at he; done)
    | (simp [isNew] at hn; done)
    | (cases h; done)
    | skip
  case convert a b x =>
    simp only [hConv] at h
    split at h
    · exact (convA_num (by simpa [eff] using he) h).1
    · cases h
  case call c =>
    obtain ⟨callee, args, ats⟩ := c
    cases callee with
    | value f => simp [eff] at he
    | invoke r m => simp [eff] at he
    | builtin b =>
      simp only [hCall] at h
      split at h
      · unfold builtinA at h
        split at h <;> first
          | (simp [eff] at he; done)
          | (split at h <;> cases h; rfl)
          | (cases h; done)
      · cases h
  all_goals
    simp only [hMove, hPick, hLoad, hBuild, hNilCheck, hBin, hUn, hIface, hFunc, hFieldAddr, hField, hIndexAddr, hIndex, hLookup, hAssert, hExtract, hSlice, natK_eq, Bool.cond_eq_ite] at h
    repeat' (split at h)
    all_goals first
      | (cases h; done)
      | (cases h; rfl)
      | skip

/-- What neither acts nor looks at memory comes to the same in every state. -/
theorem opA_blind {op : Op} (he : eff E.ty op = false) (hn : isNew op = false) (hs : sees op = false) {v : Value} {s' : AS} (h : opA op E tm s = some (v, s')) (s2 : AS) : opA op E tm s2 = some (v, s2) := by
  cases op <;> simp only [opA] at h ⊢ <;> first
    | (simp [eff] at he; done)
    | (simp [isNew] at hn; done)
    | (simp [sees] at hs; done)
    | (cases h; done)
    | skip
  case convert a b x =>
    simp only [hConv] at h ⊢
    split at h
    · exact (convA_num (by simpa [eff] using he) h).2 s2
    · cases h
  all_goals
    simp only [hMove, hPick, hBuild, hUn, hIface, hFunc, hFieldAddr, hField, hIndexAddr, hIndex, hExtract, natK_eq, Bool.cond_eq_ite] at h ⊢
    repeat' (split at h)
    all_goals first
      | (cases h; done)
      | (cases h; simp_all; done)
      | skip

end
end Go.Ax
