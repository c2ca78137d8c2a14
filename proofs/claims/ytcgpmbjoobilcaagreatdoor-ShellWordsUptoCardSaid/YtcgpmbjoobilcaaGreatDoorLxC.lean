/- Whole numbers of all kinds: conversions, shifts, bits, quotients. -/
import Derived.Test.YtcgpmbjoobilcaaGreatDoorLxB
import Derived.Test.YtcgpmbjoobilcaaGreatDoorAxF
set_option linter.unusedSimpArgs false
set_option linter.unusedVariables false
namespace Go.Lx
open Go Go.Ax
variable {E : Env} {N : Nat} {ops l : List Oper} {al : Al} {L P : List Asn} {Q : Al → List Asn → List Asn → Prop}
def InR : IntKind → Int → Prop
 | .i64, n => -9223372036854775808 ≤ n ∧ n < 9223372036854775808
 | .i32, n => -2147483648 ≤ n ∧ n < 2147483648
 | .i16, n => -32768 ≤ n ∧ n < 32768
 | .i8, n => -128 ≤ n ∧ n < 128
 | .u64, n => 0 ≤ n ∧ n < 18446744073709551616
 | .u32, n => 0 ≤ n ∧ n < 4294967296
 | .u16, n => 0 ≤ n ∧ n < 65536
 | .u8, n => 0 ≤ n ∧ n < 256
theorem imod_of {n : Int} {m : Nat} (h : 0 ≤ n ∧ n < m) : imod n m = n.toNat := by
 cases n with
 | ofNat a => exact Nat.mod_eq_of_lt (by have := h.2; simp only [Int.ofNat_eq_natCast] at this; omega)
 | negSucc a => have := h.1; rw [Int.negSucc_eq] at this; omega
theorem imod_emod (n : Int) {m : Nat} (hm : 0 < m) : (imod n m : Int) = n % m := by
 cases n with
 | ofNat a => simp [imod]
 | negSucc a =>
  show ((m - 1 - a % m : Nat) : Int) = _
  rw [Int.negSucc_eq]
  have h1 : a % m < m := Nat.mod_lt _ hm
  have h2 := Nat.div_add_mod a m
  have : (-((a : Int) + 1)) = (m : Int) * (-((a / m : Nat) : Int) - 1) + ((m - 1 - a % m : Nat) : Int) := by
   have e1 : ((m - 1 - a % m : Nat) : Int) = (m : Int) - 1 - ((a % m : Nat) : Int) := by omega
   rw [e1, Int.mul_sub, Int.mul_neg]
   have : ((m : Int) * ((a / m : Nat) : Int)) = (a : Int) - ((a % m : Nat) : Int) := by
    have : ((m * (a / m) + a % m : Nat) : Int) = (a : Int) := by rw [h2]
    rw [Int.natCast_add, Int.natCast_mul] at this
    omega
   omega
  rw [this, Int.add_comm, Int.add_mul_emod_self_left]
  exact (Int.emod_eq_of_lt (by omega) (by omega)).symm
theorem wrapA_in {k : IntKind} {n : Int} (h : InR k n) : wrapA k n = n := by
 have hu : ∀ m : Nat, 0 ≤ n ∧ n < m → wrU m n = n := fun m h => by
  unfold wrU
  rw [imod_of h]
  simp only [Int.ofNat_eq_natCast]
  omega
 have hs : ∀ m d : Nat, 0 < m → m = 2 * d → -(d : Int) ≤ n ∧ n < d → wrS m d n = n := fun m d hm hd h => by
  unfold wrS
  rw [natK_eq]
  have e := imod_emod n hm
  by_cases h0 : n < 0
  ·have : n % m = n + m := by
    rw [← Int.add_emod_right]
    exact Int.emod_eq_of_lt (by omega) (by omega)
   have hb : Nat.blt (imod n m) d = false := by
    cases hb : Nat.blt (imod n m) d with
    | false => rfl
    | true => have := nblt.1 hb; omega
   rw [hb]
   simp only [cond_false]
   rw [Int.negSucc_eq]
   omega
  ·have : n % m = n := Int.emod_eq_of_lt (by omega) (by omega)
   have hb : Nat.blt (imod n m) d = true := nblt.2 (by omega)
   rw [hb]
   simp only [cond_true, Int.ofNat_eq_natCast]
   omega
 cases k <;> simp only [InR] at h
 all_goals first
  | exact hs _ _ (by decide) rfl (by omega)
  | exact hu _ (by omega)
theorem intV_in {k : IntKind} {n : Int} (h : InR k n) : intV k n = some (.int k n) := by
 unfold intV
 rw [wrapA_in h]
 unfold intK
 cases n <;> simp only [natK_eq]
theorem intV_any (k : IntKind) (n : Int) : intV k n = some (.int k (wrapA k n)) := by
 unfold intV intK
 generalize wrapA k n = m
 cases m <;> simp only [natK_eq]
noncomputable def kindT (E : Env) (u : TypeId) : Option IntKind := match E.ty.get u with
 | some i => match i.desc with
  | .int k => some k
  | _ => none
 | none => none
theorem kindT_spec {u : TypeId} {k : IntKind} (h : kindT E u = some k) : ∃ i, E.ty.get u = some i ∧ i.desc = .int k := by
 unfold kindT at h
 cases hi : E.ty.get u with
 | none => rw [hi] at h; cases h
 | some i =>
  rw [hi] at h
  simp only at h
  cases hd : i.desc with
  | int k' => rw [hd] at h; cases h; exact ⟨i, rfl, hd⟩
  | _ => rw [hd] at h; cases h
theorem conv_int {x : Operand} {a b : TypeId} {k k' : IntKind} {n m : Int} (hx : evl al x = some (.int k' n)) (ha : (E.ty.get a).isSome = true) (hb : kindT E b = some k) (hv : wrapA k n = m) (tm : Tm) (s : AS) (hal : Has al tm) : hConv a b x E tm s = some (.int k m, s) := by
 obtain ⟨i, h1, h2⟩ := kindT_spec hb
 unfold hConv
 rw [evl_ev hal hx]
 simp only
 unfold convA
 cases hsa : E.ty.get a with
 | none => rw [hsa] at ha; cases ha
 | some si =>
  rw [h1]
  simp only
  rw [h2]
  cases hd : si.desc <;> simp only [intV_any, hv]
theorem Pu.ci {x : Operand} {a b : TypeId} {k k' : IntKind} {n : Int} (hx : evl al x = some (.int k' n) := by rfl) (ha : (E.ty.get a).isSome = true := by rfl) (hb : kindT E b = some k := by rfl) (hv : InR k n := by simp only [Go.Lx.InR]; omega) : Pu E al (.convert a b x) (.int k n) :=
 ⟨fun _ _ _ => rfl, fun tm s hal => conv_int hx ha hb (wrapA_in hv) tm s hal⟩
theorem Pu.ciw {x : Operand} {a b : TypeId} {k k' : IntKind} {n m : Int} (hm : wrapA k n = m) (hx : evl al x = some (.int k' n) := by rfl) (ha : (E.ty.get a).isSome = true := by rfl) (hb : kindT E b = some k := by rfl) : Pu E al (.convert a b x) (.int k m) :=
 ⟨fun _ _ _ => rfl, fun tm s hal => conv_int hx ha hb hm tm s hal⟩
theorem Pu.bi {op : BinOp} {x y : Operand} {u r : Nat} {k k' : IntKind} {a b : Int} {v : Value} (h : binII op k a k' b = some v) (hx : evl al x = some (.int k a) := by rfl) (hy : evl al y = some (.int k' b) := by rfl) : Pu E al (.binOp op u x y r) v :=
 ⟨fun _ _ _ => rfl, fun tm s ha => hBin_int hx hy h tm s ha⟩
theorem Pu.i_shr {x y : Operand} {u r : Nat} {k k' : IntKind} {a c : Int} {n : Nat} (hx : evl al x = some (.int k a) := by rfl) (hy : evl al y = some (.int k' (n : Int)) := by rfl) (hc : Int.fdiv a ((2 ^ n : Nat) : Int) = c := by rfl) (hn : n ≤ bitsA k := by decide) : Pu E al (.binOp .shr u x y r) (.int k c) :=
 Pu.bi (by
  show shrA k a n = _
  unfold shrA
  rw [Nat.ble_eq_true_of_le hn]
  simp only [cond_true, Int.ofNat_eq_natCast]
  rw [hc]
  unfold intK
  cases c <;> simp only [natK_eq]) hx hy
theorem Pu.i_shl {x y : Operand} {u r : Nat} {k k' : IntKind} {a : Int} {n : Nat} (hx : evl al x = some (.int k a) := by rfl) (hy : evl al y = some (.int k' (n : Int)) := by rfl) (hn : n ≤ bitsA k := by decide) (hr : InR k (a * ((2 ^ n : Nat) : Int)) := by simp only [Go.Lx.InR]; omega) : Pu E al (.binOp .shl u x y r) (.int k (a * ((2 ^ n : Nat) : Int))) :=
 Pu.bi (by
  show shlA k a n = _
  unfold shlA
  rw [Nat.ble_eq_true_of_le hn]
  exact intV_in hr) hx hy
theorem bits_of {f : Nat → Nat → Nat} {k : IntKind} {a b : Nat} (ha : a < modA k) (hb : b < modA k) (hr : InR k ((f a b : Nat) : Int)) : bits2 f k (a : Int) (b : Int) = some (.int k ((f a b : Nat) : Int)) := by
 unfold bits2
 rw [imod_of (m := modA k) ⟨Int.natCast_nonneg _, by omega⟩, imod_of (m := modA k) ⟨Int.natCast_nonneg _, by omega⟩]
 simp only [Int.toNat_natCast]
 exact intV_in hr
theorem Pu.i_and {x y : Operand} {u r : Nat} {k : IntKind} {a b : Nat} (hx : evl al x = some (.int k (a : Int)) := by rfl) (hy : evl al y = some (.int k (b : Int)) := by rfl) (ha : a < modA k := by (simp only [Go.Ax.modA]; omega)) (hb : b < modA k := by (simp only [Go.Ax.modA]; omega)) (hr : InR k ((Nat.land a b : Nat) : Int)) : Pu E al (.binOp .and u x y r) (.int k ((Nat.land a b : Nat) : Int)) :=
 Pu.bi (by show (bif kindEq k k then bits2 Nat.land k a b else none) = _; rw [kindEq_refl]; exact bits_of ha hb hr) hx hy
theorem Pu.i_or {x y : Operand} {u r : Nat} {k : IntKind} {a b : Nat} (hx : evl al x = some (.int k (a : Int)) := by rfl) (hy : evl al y = some (.int k (b : Int)) := by rfl) (ha : a < modA k := by (simp only [Go.Ax.modA]; omega)) (hb : b < modA k := by (simp only [Go.Ax.modA]; omega)) (hr : InR k ((Nat.lor a b : Nat) : Int)) : Pu E al (.binOp .or u x y r) (.int k ((Nat.lor a b : Nat) : Int)) :=
 Pu.bi (by show (bif kindEq k k then bits2 Nat.lor k a b else none) = _; rw [kindEq_refl]; exact bits_of ha hb hr) hx hy
theorem Pu.i_quo {x y : Operand} {u r : Nat} {k : IntKind} {a b : Nat} (hx : evl al x = some (.int k (a : Int)) := by rfl) (hy : evl al y = some (.int k (b : Int)) := by rfl) (hb : 0 < b := by omega) (hr : InR k ((a / b : Nat) : Int) := by simp only [Go.Lx.InR]; omega) : Pu E al (.binOp .quo u x y r) (.int k ((a / b : Nat) : Int)) :=
 Pu.bi (by
  show (bif kindEq k k then iQuo k a b else none) = _
  rw [kindEq_refl]
  simp only [cond_true]
  unfold iQuo
  rw [ieq_eq, decide_eq_false (by omega)]
  simp only [cond_false]
  exact intV_in hr) hx hy
theorem Pu.i_rem {x y : Operand} {u r : Nat} {k : IntKind} {a b : Nat} (hx : evl al x = some (.int k (a : Int)) := by rfl) (hy : evl al y = some (.int k (b : Int)) := by rfl) (hb : 0 < b := by omega) : Pu E al (.binOp .rem u x y r) (.int k ((a % b : Nat) : Int)) :=
 Pu.bi (by
  show (bif kindEq k k then iRem k a b else none) = _
  rw [kindEq_refl]
  simp only [cond_true]
  unfold iRem
  rw [ieq_eq, decide_eq_false (by omega)]
  simp only [cond_false]
  show (natK (a % b) fun c => some (Value.int k (.ofNat c))) = _
  rw [natK_eq]
  rfl) hx hy
end Go.Lx
/- The start: the blocks of a world that came in are there to be read; and a function's contract, told of the world. -/
namespace Go.Lx
open Go Go.Ax Go.RowKit
def ix (q : Nat) : List Nat → Nat → Option Nat
 | [], _ => none
 | a :: l, k => if a = q then some k else ix q l (k + 1)
theorem ix_some {q : Nat} : ∀ {l : List Nat} {k j : Nat}, ix q l k = some j → k ≤ j ∧ l[j - k]? = some q
 | [], k, j, h => by cases h
 | a :: l, k, j, h => by
  unfold ix at h
  split at h
  ·rename_i e
   cases h
   exact ⟨Nat.le_refl _, by simp [e]⟩
  ·obtain ⟨h1, h2⟩ := ix_some h
   refine ⟨by omega, ?_⟩
   have e : j - k = (j - (k + 1)) + 1 := by omega
   rw [e, List.getElem?_cons_succ]
   exact h2
theorem ix_mem {q : Nat} : ∀ {l : List Nat} (k : Nat), q ∈ l → ∃ j, ix q l k = some j
 | a :: l, k, h => by
  unfold ix
  split
  ·exact ⟨_, rfl⟩
  ·rename_i e
   exact ix_mem (k + 1) ((List.mem_cons.1 h).resolve_left (fun h => e h.symm))
def inV (qs : List Nat) : Value → Option Value
 | .int k n => some (.int k n)
 | .bool b => some (.bool b)
 | .string s => some (.string s)
 | .float k n => some (.float k n)
 | .slice none 0 0 => some (.slice none 0 0)
 | .slice (some ⟨q, p, none⟩) n c => if n ≤ c then (ix q qs 0).map fun j => .slice (some ⟨1000 + j, p, none⟩) n (2 * c + 1) else none
 | .nilIface => some .nilIface
 | .iface t (.pointer (some ⟨q, p, none⟩)) => (ix q qs 0).map fun j => .iface t (.pointer (some ⟨1000 + j, p, none⟩))
 | _ => none
def ioN (qs : List Nat) : Io := ⟨fun b => if b < 1000 then some (b, 0) else (qs[b - 1000]?).map fun q => (q, 0), fun _ => (0, 0)⟩
theorem ioN_gl (qs : List Nat) : Gl (ioN qs) := fun g hg => if_pos hg
theorem ioN_in {qs : List Nat} {q j : Nat} (h : qs[j]? = some q) : ioN qs (1000 + j) = some (q, 0) := by
 show (if 1000 + j < 1000 then _ else (qs[1000 + j - 1000]?).map fun q => (q, 0)) = _
 rw [if_neg (by omega), Nat.add_sub_cancel_left, h]
 rfl
theorem inV_vr {qs : List Nat} : ∀ {v x : Value}, inV qs v = some x → VR (ioN qs) x v := by
 intro v x h
 unfold inV at h
 split at h
 ·cases h; exact .int _ _
 ·cases h; exact .bool _
 ·cases h; exact .string _
 ·cases h; exact .float _ _
 ·cases h; exact .nils rfl
 ·rename_i q p n c
  split at h
  ·rename_i hn
   cases hj : ix q qs 0 with
   | none => rw [hj] at h; cases h
   | some j =>
    rw [hj] at h
    cases h
    exact .slice (ioN_in (ix_some hj).2) (by omega) (by omega) (by omega) (.inl (by omega)) (by omega)
  ·cases h
 ·cases h; exact .nilIface
 ·rename_i t q p
  cases hj : ix q qs 0 with
  | none => rw [hj] at h; cases h
  | some j =>
   rw [hj] at h
   cases h
   have hp : VR (ioN qs) (.pointer (some ⟨1000 + j, p, none⟩)) (.pointer (some ⟨q, 0 + p, none⟩)) := .ptr (ioN_in (ix_some hj).2)
   rw [Nat.zero_add] at hp
   exact .iface t hp
 ·cases h
noncomputable def cellT (qs : List Nat) : List Value → Nat → T Value → T Value
 | [], _, t => t
 | v :: l, i, t => cellT qs l (i + 1) (match inV qs v with | some x => t.set i x | none => t)
theorem cellT_get (qs : List Nat) : ∀ (l : List Value) (i : Nat) (t : T Value) (j : Nat), (∀ j, i ≤ j → t.get j = none) → (cellT qs l i t).get j = if i ≤ j then (l[j - i]?).bind (inV qs) else t.get j
 | [], i, t, j, ht => by
  show t.get j = _
  split
  ·rename_i h; rw [ht j h]; rfl
  ·rfl
 | v :: l, i, t, j, ht => by
  show (cellT qs l (i + 1) (match inV qs v with | some x => t.set i x | none => t)).get j = _
  have e : ∀ j, (match inV qs v with | some x => t.set i x | none => t).get j = if j = i then inV qs v else t.get j := by
   intro j
   cases hx : inV qs v with
   | none =>
    show t.get j = _
    split
    ·rename_i h; rw [h]; exact ht i (Nat.le_refl _)
    ·rfl
   | some x =>
    show (t.set i x).get j = _
    rw [T.get_set]
  rw [cellT_get qs l (i + 1) _ j (fun k hk => by rw [e, if_neg (by omega)]; exact ht k (by omega)), e]
  by_cases h1 : j = i
  ·subst h1
   rw [if_neg (by omega), if_pos rfl, if_pos (Nat.le_refl _), Nat.sub_self]
   rfl
  ·rw [if_neg h1]
   by_cases h2 : i ≤ j
   ·rw [if_pos h2, if_pos (by omega)]
    have e : j - i = (j - (i + 1)) + 1 := by omega
    rw [e, List.getElem?_cons_succ]
   ·rw [if_neg h2, if_neg (by omega)]
noncomputable def objN (w : World) (qs : List Nat) (q : Nat) : AObj := match w.heap[q]? with
 | some (.cells cs _ _) => .ro (cellT qs cs.toList 0 .e) cs.size
 | _ => .far
noncomputable def layB : List (Nat × AObj) → T AObj
 | [] => .e
 | x :: l => (layB l).set x.1 x.2
theorem layB_get : ∀ {l : List (Nat × AObj)} {b : Nat} {o : AObj}, (layB l).get b = some o → (b, o) ∈ l
 | [], b, o, h => by cases h
 | x :: l, b, o, h => by
  have h : ((layB l).set x.1 x.2).get b = some o := h
  rw [T.get_set] at h
  split at h
  ·rename_i e; cases h; subst e; exact List.mem_cons_self ..
  ·exact List.mem_cons_of_mem _ (layB_get h)
theorem layB_some : ∀ {l : List (Nat × AObj)} {b : Nat} {o : AObj}, (b, o) ∈ l → (∀ o', (b, o') ∈ l → o' = o) → (layB l).get b = some o
 | x :: l, b, o, h, hu => by
  show ((layB l).set x.1 x.2).get b = some o
  rw [T.get_set]
  split
  ·rename_i e
   subst e
   rw [hu x.2 (List.mem_cons_self ..)]
  ·rename_i e
   exact layB_some ((List.mem_cons.1 h).resolve_left (fun h => e (by rw [← h]))) (fun o' ho => hu o' (List.mem_cons_of_mem _ ho))
noncomputable def inL (w : World) (qs : List Nat) : List Nat → Nat → List (Nat × AObj)
 | [], _ => []
 | q :: l, j => (1000 + j, objN w qs q) :: inL w qs l (j + 1)
theorem inL_mem {w : World} {qs : List Nat} : ∀ {l : List Nat} {j b : Nat} {o : AObj}, (b, o) ∈ inL w qs l j → ∃ i q, l[i]? = some q ∧ b = 1000 + j + i ∧ o = objN w qs q
 | q :: l, j, b, o, h => by
  rcases List.mem_cons.1 h with h | h
  ·cases h; exact ⟨0, q, rfl, rfl, rfl⟩
  ·obtain ⟨i, q', h1, h2, h3⟩ := inL_mem h
   exact ⟨i + 1, q', h1, by omega, h3⟩
theorem inL_get {w : World} {qs : List Nat} : ∀ {l : List Nat} {j i q : Nat}, l[i]? = some q → (1000 + j + i, objN w qs q) ∈ inL w qs l j
 | a :: l, j, 0, q, h => by cases h; exact List.mem_cons_self ..
 | a :: l, j, i + 1, q, h => by
  have := inL_get (w := w) (qs := qs) (l := l) (j := j + 1) (i := i) (q := q) h
  rw [show 1000 + (j + 1) + i = 1000 + j + (i + 1) by omega] at this
  exact List.mem_cons_of_mem _ this
noncomputable def stN (w : World) (gs qs as : List Nat) : AS := ⟨layB ((gs.map fun g => (g, objN w qs g)) ++ inL w qs as 0), 1000 + qs.length⟩
structure InOk (w : World) (gs qs as : List Nat) : Prop where
 low : ∀ g ∈ gs, g < 1000
 pre : as <+: qs
 nd : as.Nodup
 dis : ∀ q ∈ as, q ∉ gs
 cells : ∀ q, q ∈ gs ∨ q ∈ as → ∃ cs e fr, w.heap[q]? = some (.cells cs e fr)
 lt : ∀ q ∈ qs, q < w.heap.size
theorem InOk.at {w : World} {gs qs as : List Nat} (ok : InOk w gs qs as) {i q : Nat} (h : as[i]? = some q) : qs[i]? = some q := by
 obtain ⟨rs, rfl⟩ := ok.pre
 rw [List.getElem?_append_left (List.getElem?_eq_some_iff.1 h).1]
 exact h
section
variable {w : World} {gs qs as : List Nat}
theorem stN_get {b : Nat} {o : AObj} (h : (stN w gs qs as).h.get b = some o) : (b ∈ gs ∧ o = objN w qs b) ∨ ∃ i q, as[i]? = some q ∧ b = 1000 + i ∧ o = objN w qs q := by
 have h := layB_get h
 rcases List.mem_append.1 h with h | h
 ·obtain ⟨g, hg, e⟩ := List.mem_map.1 h
  cases e
  exact .inl ⟨hg, rfl⟩
 ·obtain ⟨i, q, h1, h2, h3⟩ := inL_mem h
  exact .inr ⟨i, q, h1, by omega, h3⟩
theorem stN_g (ok : InOk w gs qs as) {g : Nat} (h : g ∈ gs) : (stN w gs qs as).h.get g = some (objN w qs g) := by
 refine layB_some (List.mem_append.2 (.inl (List.mem_map.2 ⟨g, h, rfl⟩))) (fun o ho => ?_)
 rcases List.mem_append.1 ho with ho | ho
 ·obtain ⟨g', _, e⟩ := List.mem_map.1 ho
  cases e; rfl
 ·obtain ⟨i, q, _, h2, _⟩ := inL_mem ho
  have := ok.low g h
  omega
theorem stN_q (ok : InOk w gs qs as) {i q : Nat} (h : as[i]? = some q) : (stN w gs qs as).h.get (1000 + i) = some (objN w qs q) := by
 refine layB_some (List.mem_append.2 (.inr ?_)) (fun o ho => ?_)
 ·have := inL_get (w := w) (qs := qs) (l := as) (j := 0) h
  simpa using this
 ·rcases List.mem_append.1 ho with ho | ho
  ·obtain ⟨g', hg, e⟩ := List.mem_map.1 ho
   cases e
   have := ok.low _ hg
   omega
  ·obtain ⟨i', q', h1, h2, h3⟩ := inL_mem ho
   have : i' = i := by omega
   subst this
   rw [h] at h1
   cases h1
   exact h3
theorem objN_eq {q : Nat} {cs : Array Value} {e : TypeId} {fr : Nat × Nat} (h : w.heap[q]? = some (.cells cs e fr)) : objN w qs q = .ro (cellT qs cs.toList 0 .e) cs.size := by
 unfold objN
 rw [h]
theorem objN_or {q : Nat} (h : ∃ cs e fr, w.heap[q]? = some (.cells cs e fr)) : OR (ioN qs) (objN w qs q) w.heap[q]? 0 := by
 obtain ⟨cs, e, fr, h⟩ := h
 rw [objN_eq h]
 refine ⟨cs, e, fr, h, by omega, fun k v hk hv => ?_⟩
 rw [cellT_get qs _ _ _ _ (fun j _ => rfl), if_pos (Nat.zero_le _), Nat.sub_zero, Array.getElem?_toList] at hv
 rw [Nat.zero_add]
 cases hc : cs[k]? with
 | none => rw [hc] at hv; cases hv
 | some x =>
  rw [hc] at hv
  exact ⟨x, rfl, inV_vr hv⟩
theorem stN_ro (ok : InOk w gs qs as) {b : Nat} {o : AObj} (h : (stN w gs qs as).h.get b = some o) : ∃ c n, o = .ro c n := by
 have : ∃ q, (q ∈ gs ∨ q ∈ as) ∧ o = objN w qs q := by
  rcases stN_get h with ⟨h1, h2⟩ | ⟨i, q, h1, _, h2⟩
  ·exact ⟨b, .inl h1, h2⟩
  ·exact ⟨q, .inr (List.mem_of_getElem? h1), h2⟩
 obtain ⟨q, hq, rfl⟩ := this
 obtain ⟨cs, e, fr, h⟩ := ok.cells q hq
 exact ⟨_, _, objN_eq h⟩
theorem stN_io (ok : InOk w gs qs as) {b : Nat} {o : AObj} (h : (stN w gs qs as).h.get b = some o) : ∃ q, (q ∈ gs ∨ q ∈ as) ∧ ioN qs b = some (q, 0) ∧ o = objN w qs q := by
 rcases stN_get h with ⟨h1, h2⟩ | ⟨i, q, h1, rfl, h2⟩
 ·exact ⟨b, .inl h1, ioN_gl qs b (ok.low b h1), h2⟩
 ·exact ⟨q, .inr (List.mem_of_getElem? h1), ioN_in (ok.at h1), h2⟩
theorem stN_rel (ok : InOk w gs qs as) : Rel (ioN qs) (stN w gs qs as) w := by
 refine ⟨fun b o hb _ => ?_, fun b b' o o' q t t' hb hb' _ _ e e' => ?_, fun b hb => ?_, fun b c n z q t hb _ => ?_, fun b q t e hb => ?_⟩
 ·obtain ⟨q, h1, h2, rfl⟩ := stN_io ok hb
  exact ⟨q, 0, h2, objN_or (ok.cells q h1)⟩
 ·rcases stN_get hb with ⟨h1, _⟩ | ⟨i, q1, h1, rfl, _⟩ <;> rcases stN_get hb' with ⟨h2, _⟩ | ⟨i', q2, h2, rfl, _⟩
  ·rw [ioN_gl qs b (ok.low b h1)] at e
   rw [ioN_gl qs b' (ok.low b' h2)] at e'
   cases e; cases e'; rfl
  ·rw [ioN_gl qs b (ok.low b h1)] at e
   rw [ioN_in (ok.at h2)] at e'
   cases e; cases e'
   exact absurd h1 (ok.dis _ (List.mem_of_getElem? h2))
  ·rw [ioN_in (ok.at h1)] at e
   rw [ioN_gl qs b' (ok.low b' h2)] at e'
   cases e; cases e'
   exact absurd h2 (ok.dis _ (List.mem_of_getElem? h1))
  ·rw [ioN_in (ok.at h1)] at e
   rw [ioN_in (ok.at h2)] at e'
   cases e; cases e'
   have hi : i < as.length := (List.getElem?_eq_some_iff.1 h1).1
   have := (List.getElem?_inj hi ok.nd).1 (h1.trans h2.symm)
   rw [this]
 ·have hb : 1000 + qs.length ≤ b := hb
  refine ⟨?_, ?_⟩
  ·show (if b < 1000 then _ else (qs[b - 1000]?).map fun q => (q, 0)) = none
   rw [if_neg (by omega), List.getElem?_eq_none (by omega)]
   rfl
  ·cases hg : (stN w gs qs as).h.get b with
   | none => rfl
   | some o =>
    rcases stN_get hg with ⟨h1, _⟩ | ⟨i, q, h1, h2, _⟩
    ·have := ok.low b h1; omega
    ·have := (List.getElem?_eq_some_iff.1 (ok.at h1)).1; omega
 ·obtain ⟨_, _, h3⟩ := stN_ro ok hb
  cases h3
 ·have hc : ∀ q, q ∈ gs ∨ q ∈ as → q < w.heap.size := fun q hq => by
   obtain ⟨cs, e, fr, h⟩ := ok.cells q hq
   exact (Array.getElem?_eq_some_iff.1 h).1
  by_cases hlt : b < 1000
  ·rw [ioN_gl qs b hlt] at e
   cases e
   rcases hb with hb | hb
   ·cases hg : (stN w gs qs as).h.get b with
    | none => exact absurd hg hb
    | some o =>
     rcases stN_get hg with ⟨h1, _⟩ | ⟨i, q, _, h2, _⟩
     ·exact hc b (.inl h1)
     ·omega
   ·omega
  ·have e : (if b < 1000 then some (b, 0) else (qs[b - 1000]?).map fun q => (q, 0)) = some (q, t) := e
   rw [if_neg hlt] at e
   cases hq : qs[b - 1000]? with
   | none => rw [hq] at e; cases e
   | some q' =>
    rw [hq] at e
    cases e
    exact ok.lt _ (List.mem_of_getElem? hq)
theorem stN_below (ok : InOk w gs qs as) {i' : Io} {s' : AS} {w' : World} (hf : Fr (ioN qs) (stN w gs qs as) w i' s' w') : Below w.heap.size w w' := by
 refine ⟨hf.os, hf.tape, hf.output, hf.size, fun k hk => hf.keep k hk (fun b t _ => ?_)⟩
 unfold obA
 cases hg : (stN w gs qs as).h.get b with
 | none => rfl
 | some o =>
  obtain ⟨c, n, rfl⟩ := stN_ro ok hg
  rfl
def Ro (b : Nat) (vs : List Value) : Asn where
 p := fun S h => S b ∧ ∃ t m, h.get b = some (.ro t m) ∧ vs.length ≤ m ∧ ∀ (k : Nat) (v : Value), vs[k]? = some v → t.get k = some v
 loc := fun S h h' e ⟨h1, t, m, h2, h3⟩ => ⟨h1, t, m, by rw [e b h1]; exact h2, h3⟩
theorem stN_sat (ok : InOk w gs qs as) {P : List Asn} (h : ∀ A ∈ P, ∃ U, A.p U (stN w gs qs as).h ∧ ∀ b, U b → (stN w gs qs as).h.get b ≠ none) : Sat [] P (fun _ => False) (stN w gs qs as) :=
 ⟨trivial, fun A hA => by
  obtain ⟨U, h1, h2⟩ := h A hA
  exact ⟨U, h1, fun b hb => ⟨fun h => h, h2 b hb⟩⟩, fun b h => h.elim, fun b hb => ((stN_rel ok).fresh b hb).2⟩
theorem stN_roB (ok : InOk w gs qs as) {g : Nat} (hg : g ∈ gs) {cs : Array Value} {e : TypeId} {fr : Nat × Nat} (hc : w.heap[g]? = some (.cells cs e fr)) {vs : List Value} (hv : ∀ (k : Nat) (v : Value), vs[k]? = some v → (cs[k]?).bind (inV qs) = some v) : ∃ U, (Ro g vs).p U (stN w gs qs as).h ∧ ∀ b, U b → (stN w gs qs as).h.get b ≠ none := by
 have h := stN_g ok hg
 rw [objN_eq hc] at h
 refine ⟨fun b => b = g, ⟨rfl, _, _, h, ?_, fun k v hk => ?_⟩, fun b hb => by rw [hb, h]; simp⟩
 ·cases hn : vs.length with
  | zero => exact Nat.zero_le _
  | succ n =>
   have := hv n vs[n] (List.getElem?_eq_getElem (by omega))
   cases hcn : cs[n]? with
   | none => rw [hcn] at this; cases this
   | some x => have := (Array.getElem?_eq_some_iff.1 hcn).1; omega
 ·rw [cellT_get qs _ _ _ _ (fun j _ => rfl), if_pos (Nat.zero_le _), Nat.sub_zero, Array.getElem?_toList]
  exact hv k v hk
theorem calls_of_sp {E : Env} (hC : ∀ F D, CallOk E.P (callA E F D)) {f : FuncId} {fn : Func} (hf : E.P.funcs[f]? = some fn) (hn : (fn.name == "runtime.NumGoroutine") = false) (hb : fn.body.isNone = false) (ok : InOk w gs qs as) {args args' : List Value} (ha : VRs (ioN qs) args args')
  {P : List Asn} (hP : ∀ A ∈ P, ∃ U, A.p U (stN w gs qs as).h ∧ ∀ b, U b → (stN w gs qs as).h.get b ≠ none) {Q : Value → Prop} (h : Sp E f args [] P (fun v _ _ => Q v)) :
  Calls E.P f ⟨args'⟩ w fun e w' => ∃ v v' i', Q v ∧ e = .returned v' ∧ VR i' v v' ∧ Below w.heap.size w w' := by
 obtain ⟨v, s', S', L', P', ⟨F, D, hr⟩, _, _, hq⟩ := h _ _ (stN_sat ok hP)
 have hF := hC F D f args _ v s' hr (ioN qs) w args' (stN_rel ok) (ioN_gl qs) ha
 have hn' : fn.name ≠ "runtime.NumGoroutine" := by simpa using hn
 have hcall : (callFunc f ⟨args'⟩).run E.P w = .ok (.enter f ⟨args'⟩) w := by
  unfold callFunc
  have hb' : fn.body ≠ none := fun e => by rw [e] at hb; cases hb
  simp [hf, hn', hb']
 rcases hF with ⟨v', w', i', h1, _⟩ | ⟨_, h2⟩
 ·rw [hcall] at h1; cases h1
 ·refine Calls.mono h2 (fun e w' he => ?_)
  cases e with
  | returned v' =>
   obtain ⟨i', g1, g2, g3⟩ := he
   exact ⟨v, v', i', hq, rfl, g1, stN_below ok g3⟩
  | panicked c => exact he.elim
  | outgrown => exact he.elim
end
end Go.Lx
/- Rows whose element's type is known: they may become texts. -/
namespace Go.Lx
open Go Go.Ax
variable {E : Env} {N : Nat} {ops l : List Oper} {al : Al} {L P : List Asn} {Q : Al → List Asn → List Asn → Prop}
def Tg (e : TypeId) (v : Value) (h : T AObj) : Prop := ∀ a n c, v = .slice (some a) n c → (n = 0 ∧ c = 1) ∨ ∀ t m z, h.get a.block = some (.cells t m z) → ze z = e + 1
theorem tg_new {e : TypeId} {s : AS} {t : T Value} {m z n c : Nat} (hz : ze z = e + 1) : Tg e (.slice (some ⟨s.nx, 0, none⟩) n c) (s.new (.cells t m z)).h := by
 intro a n' c' h
 cases h
 refine .inr (fun t' m' z' hg => ?_)
 have hg : (s.h.set s.nx (.cells t m z)).get s.nx = some (.cells t' m' z') := hg
 rw [T.get_set_same] at hg
 cases hg
 exact hz
theorem append_tag {s : AS} {e : TypeId} {j : TI} {v w v' : Value} {s' : AS} (h : appendM s e j v w = some (v', s')) (ht : Tg e v s.h) : Tg e v' s'.h := by
 unfold appendM at h
 cases hb : (Nat.beq j.size 0 || Nat.beq j.bytes 0 || Nat.ble 524288 j.size) with
 | true => rw [hb] at h; cases h
 | false =>
  rw [hb] at h
  simp only [cond_false] at h
  simp only [Bool.or_eq_false_iff] at hb
  have hsm : j.size < 524288 := by
   rcases Nat.lt_or_ge j.size 524288 with g | g
   ·exact g
   ·have := hb.2; rw [Nat.ble_eq_true_of_le g] at this; cases this
  have htz := tz_ze (e := e) hsm
  split at h
  ·rename_i a n c m hm
   split at h
   ·cases h; exact tg_new htz
   ·split at h
    ·cases h
    ·rename_i new _
     cases hm0 : Nat.beq m 0 with
     | true => rw [hm0] at h; cases h; exact ht
     | false =>
      rw [hm0] at h
      simp only [cond_false] at h
      have hmne : m ≠ 0 := fun e => by rw [e] at hm0; cases hm0
      cases hr : Nat.ble (n + m) (c / 2) with
      | true =>
       rw [hr] at h
       simp only [cond_true] at h
       have hr := Nat.le_of_ble_eq_true hr
       split at h
       ·cases h
       ·rename_i a
        split at h
        ·cases h
        ·rename_i s1 hw
         cases h
         intro a' n' c' e'
         cases e'
         rcases ht a n c rfl with ⟨_, hc⟩ | hz
         ·omega
         refine .inr (fun t m' z hg => ?_)
         unfold wrN at hw
         split at hw
         ·rename_i ct mm z0 hg0
          have := hz _ _ _ hg0
          cases hbb : (Nat.ble (a.off + n * j.size + new.length) mm && ones new) with
          | false => rw [hbb] at hw; cases hw
          | true =>
           rw [hbb] at hw
           cases hw
           have hg : (s.h.set a.block _).get a.block = some (.cells t m' z) := hg
           rw [T.get_set_same] at hg
           cases hg
           exact this
         ·cases hw
      | false =>
       rw [hr] at h
       simp only [cond_false] at h
       cases hs : Nat.ble ((n + m) * j.bytes) small with
       | false => rw [hs] at h; cases h
       | true =>
        rw [hs] at h
        simp only [cond_true] at h
        split at h
        ·cases h; exact tg_new htz
        ·rename_i a
         cases hz0 : (Nat.beq n 0 && Nat.beq (c % 2) 1) with
         | true => rw [hz0] at h; cases h; exact tg_new htz
         | false =>
          rw [hz0] at h
          simp only [cond_false] at h
          split at h
          ·cases h
          ·split at h
           ·rename_i z hg
            cases hc : Nat.beq (c % 2) 1 with
            | true => rw [hc] at h; cases h; exact tg_new htz
            | false =>
             rw [hc] at h
             simp only [cond_false] at h
             cases hq : (Nat.beq (zs z) j.size && ones new) with
             | false => rw [hq] at h; cases h
             | true =>
              rw [hq] at h
              cases h
              have : ze z = e + 1 := by
               rcases ht a n c rfl with ⟨_, hc1⟩ | hz
               ·rw [hc1] at hc; cases hc
               ·exact hz _ _ _ hg
              exact tg_new (s := s.upd a.block .dead) (by unfold zg; rw [this, Nat.beq_refl, cond_true]; unfold ze tz; omega)
           ·cases h
  ·cases h
def OwZ (e : TypeId) (k : Nat) (v : Value) (es : List (List Value)) : Asn where
 p := fun S h => (Ow k v es).p S h ∧ Tg e v h
 loc := fun S h h' he ⟨h1, h2⟩ => ⟨(Ow k v es).loc S h h' he h1, fun a n c hv => by
  rcases h2 a n c hv with hl | hr
  ·exact .inl hl
  ·rcases h1 with ⟨_, a', c', g1, g2, g3⟩ | ⟨b, c', m, z, t, g1, g2, _⟩
   ·subst g1
    cases hv
    exact .inl ⟨rfl, g3.resolve_left (fun h => by cases h)⟩
   ·subst g1
    cases hv
    refine .inr (fun t m z hg => hr t m z ?_)
    rw [← he _ g2]
    exact hg⟩
theorem Own.fst {A B : Asn} {L : List Asn} {S : Nat → Prop} {h : T AObj} (H : Own (A :: L) S h) (f : ∀ S, A.p S h → B.p S h) : Own (B :: L) S h := by
 obtain ⟨S1, S2, h1, h2, hd, ha, hl⟩ := H
 exact ⟨S1, S2, h1, h2, hd, f _ ha, hl⟩
def Src (E : Env) (k : Nat) (u : TypeId) (w : Value) (fs : List (List Value)) (L P : List Asn) : Prop :=
 (∀ S s, Sat L P S s → (∀ f ∈ fs, f.length = k) ∧ srcA s k fs.length w = some fs.flatten ∧ lenS w = some fs.length ∧ (∀ tt, fs ≠ [] → wholeA s (fs.length * k) w = some tt → Elems k 0 tt fs)) ∧
 ∃ ui, E.ty.get u = some ui ∧ ((∃ e', ui.desc = .slice e') ∨ ui.desc = .string)
theorem Src.sl {k : Nat} {u : TypeId} {w : Value} {fs : List (List Value)} (h : IsSl k w fs L P) (hu : isSlD E u = true := by rfl) : Src E k u w fs L P := by
 refine ⟨fun S s hs => ?_, ?_⟩
 ·have hU := h.holds hs
  have hfl : ∀ f ∈ fs, f.length = k := by
   obtain ⟨a, c, _, hor⟩ := hU
   rcases hor with rfl | ⟨b, o, m, z, t', _, _, _, h⟩
   ·exact fun f hf => by cases hf
   ·exact h.len
  refine ⟨hfl, ?_, ?_, fun tt hpos hsh => ?_⟩
  ·by_cases hf : fs = []
   ·subst hf
    obtain ⟨a, c, h, _⟩ := hU
    rw [h]
    cases a with
    | none => rfl
    | some a => rfl
   ·obtain ⟨b, o, h1, h2⟩ := rdN_all hU hf
    rw [h1]
    unfold srcA
    simp only
    have : Nat.beq fs.length 0 = false := by
     cases fs with
     | nil => exact absurd rfl hf
     | cons x l => rfl
    rw [this]
    exact h2
  ·obtain ⟨a, c, h, _⟩ := hU
   rw [h]; rfl
  ·obtain ⟨a', c', hw', hor⟩ := hU
   rcases hor with hor | ⟨b', o', m', z', t', rfl, u2, u3, u4⟩
   ·exact absurd hor hpos
   rw [hw'] at hsh
   unfold wholeA at hsh
   simp only at hsh
   rcases u2 with u2 | u2
   ·rw [u2] at hsh
    simp only at hsh
    cases hq : (Nat.beq o' 0 && Nat.beq m' (fs.length * k)) with
    | false => rw [hq] at hsh; cases hsh
    | true =>
     rw [hq] at hsh
     simp only [cond_true, Option.some.injEq] at hsh
     subst hsh
     rw [Bool.and_eq_true] at hq
     obtain rfl := Nat.eq_of_beq_eq_true hq.1
     exact u4
   ·rw [u2] at hsh
    cases hsh
 ·obtain ⟨i, e, h1, h2⟩ := isSlD_spec hu
  exact ⟨i, h1, .inl ⟨e, h2⟩⟩
def byL (b : List UInt8) : List (List Value) := b.map fun c => [.int .u8 c.toNat]
theorem byL_len (b : List UInt8) : (byL b).length = b.length := List.length_map ..
theorem byL_append (a b : List UInt8) : byL (a ++ b) = byL a ++ byL b := List.map_append ..
theorem WO.apz {x y : Operand} {ts : Array TypeId} {k t u : Nat} {e : TypeId} {j : TI} {v w : Value} {es fs : List (List Value)} {L' : List Asn} {Q : Value → List Asn → List Asn → Prop} (hx : evl al x = some v) (hy : evl al y = some w) (h0 : ts.toList = [t, u]) (h1 : slT E t = some (e, j)) (h3 : j.size = k) (h4 : Nat.beq k 0 = false) (h5 : Nat.beq j.bytes 0 = false) (h6 : Nat.ble 524288 k = false)
  (hr : Rem (OwZ e k v es) L L') (hw : Src E k u w fs L P) (hn : (es.length + fs.length) * j.bytes ≤ 1099511627776) (ho : ∀ f ∈ fs, ones f = true) (h : ∀ v', Q v' (OwZ e k v' (es ++ fs) :: L') P) : WO E (.call ⟨.builtin .append, #[x, y], ts⟩) al L P Q := by
 intro S s tm hs ha
 obtain ⟨q1, ui, g1, g2⟩ := hw
 obtain ⟨r1, r2, r3, r4⟩ := q1 S s hs
 have hown := hs.own.perm hr.perm
 have htg : Tg e v s.h := by
  obtain ⟨S1, S2, _, _, _, hz, _⟩ := hown
  exact hz.2
 obtain ⟨v', s', S', k1, k2, k3⟩ := append_core (L' := L') (P := P) ⟨hown.fst (fun _ h => h.1), hs.per, hs.ex, hs.fresh⟩ r1 r2 r3 r4 h1 g1 g2 h3 h4 h5 h6 hn ho
 obtain ⟨i, f1, f2, f3⟩ := slT_spec h1
 have htg' := append_tag (by rw [← appendA_eq f1 f2 f3 g1 g2]; exact k1) htg
 exact ⟨v', s', S', _, _, ⟨0, 0, hCall_append ha hx hy h0 k1⟩, k2, ⟨k3.own.fst (B := OwZ e k v' (es ++ fs)) (fun _ h => ⟨h, htg'⟩), k3.per, k3.ex, k3.fresh⟩, h v'⟩
theorem WR.apz {x y : Operand} {d p k t u : Nat} {pos : String} {af : Array Edge} {e : TypeId} {j : TI} {v w : Value} {es fs : List (List Value)} {L' : List Asn} (hw : Src E k u w fs L P) (h : ∀ v', WR E N ops l ((d, v') :: al) (OwZ e k v' (es ++ fs) :: L') P Q) (hx : evl al x = some v := by rfl) (hy : evl al y = some w := by rfl)
  (hr : Rem (OwZ e k v es) L L' := by first | exact .z | exact .s .z | exact .s (.s .z) | exact .s (.s (.s .z)) | exact .s (.s (.s (.s .z))))
  (h1 : slT E t = some (e, j) := by rfl) (h3 : j.size = k := by rfl) (h4 : Nat.beq k 0 = false := by rfl) (h5 : Nat.beq j.bytes 0 = false := by rfl) (h6 : Nat.ble 524288 k = false := by rfl)
  (hn : (es.length + fs.length) * j.bytes ≤ 1099511627776 := by (simp only [List.length_cons, List.length_nil]; omega)) (ho : ∀ f ∈ fs, ones f = true := by first | exact byL_ones _ | simp [Go.Ax.ones, Go.Ax.oneC]) (hN : Nat.ble d N = true := by rfl) : WR E N ops (⟨some d, .call ⟨.builtin .append, #[x, y], #[t, u]⟩, p, pos, af, none⟩ :: l) al L P Q :=
 WR.op rfl rfl hN (WO.apz hx hy rfl h1 h3 h4 h5 h6 hr hw hn ho h)
theorem Ent.nonez {k : Nat} {e : TypeId} : Ent L P (OwZ e k (.slice Option.none 0 0) [] :: L) P := fun S s hs => ⟨S, fun _ h => h, ⟨⟨fun _ => False, S, fun _ h => h.elim, fun _ h => h, fun _ h _ => h.elim, ⟨.inl ⟨rfl, _, _, rfl, by omega, .inl rfl⟩, fun a n c h => by cases h⟩, hs.own⟩, hs.per, hs.ex, hs.fresh⟩⟩
theorem WD.wo {an : List Nat} {base i d t : Nat} {op : Op} {pos : String} {af : Array Edge} {g : Option (Nat × Bool)} {NW : NewL} {Hs : Hist} {CK : List Chk} {K : Al → List Asn → List Asn → Prop}
  (h : WO E op al (pickB (an.getD i 0) NW ++ L) P (fun v L' P' => WD E N ops an base l (i + 1) ((d, v) :: al) L' P' (restB (an.getD i 0) NW) (Hs ++ [(L', P')]) CK K)) (hg : gOk ops al g = true := by rfl) (hn : isNew op = false := by rfl) (he : eff E.ty op = true := by rfl) (hN : Nat.ble d N = true := by rfl) : WD E N ops an base (⟨some d, op, t, pos, af, g⟩ :: l) i al L P NW Hs CK K :=
 WD.actE (gOk_w hg) hn he (fun tm v ha => ⟨_, put_some hN, ha.set d v⟩) h
theorem hCall_bi {b : Builtin} {xs : Array Operand} {ts : Array TypeId} {vs : List Value} {tm : Tm} {s : AS} {r : Option (Value × AS)} (ha : Has al tm) (hx : evls al xs.toList = some vs) (h : builtinA E s b ts.toList vs = r) : hCall ⟨.builtin b, xs, ts⟩ E tm s = r := by
 unfold hCall
 simp only
 rw [evls_evs ha hx]
 exact h
theorem WO.usd {x : Operand} {ts : Array TypeId} {k : Nat} {v : Value} {es : List (List Value)} {e : TypeId} {Q : Value → List Asn → List Asn → Prop} (hx : evls al #[x].toList = some [v]) (hm : In (OwZ e k v es) L P) (hne : es ≠ []) (h : ∀ b n c, v = .slice (some ⟨b, 0, none⟩) n c → Q (.pointer (some ⟨b, 0, none⟩)) L P) : WO E (.call ⟨.builtin .unsafeSliceData, #[x], ts⟩) al L P Q := by
 intro S s tm hs ha
 obtain ⟨U, h1, _⟩ := hm.holds hs
 rcases h1.1 with ⟨h2, _⟩ | ⟨b, c, m, z, t, rfl, _, _, h4, _⟩
 ·exact absurd h2 hne
 ·refine ⟨_, s, S, L, P, ⟨0, 0, ?_⟩, .refl _ _, hs, h b _ c rfl⟩
  have hc : Nat.beq (c / 2) 0 = false := by
   have : es.length ≠ 0 := fun e => hne (List.length_eq_zero_iff.1 e)
   cases hb : Nat.beq (c / 2) 0 with
   | false => rfl
   | true => have := Nat.eq_of_beq_eq_true hb; omega
  refine hCall_bi ha hx ?_
  show (match ts.toList, [Value.slice (some ⟨b, 0, none⟩) es.length c] with | _, [x] => sDataA s x | _, _ => none) = _
  show (bif Nat.beq (c / 2) 0 then none else some (Value.pointer (some ⟨b, 0, none⟩), s)) = _
  rw [hc]
  rfl
theorem toBytes_byL : ∀ b : List UInt8, toBytes (byL b).flatten = some b
 | [] => rfl
 | x :: b => by
  show toBytes (Value.int .u8 x.toNat :: (byL b).flatten) = _
  unfold toBytes
  rw [toBytes_byL b]
  have : UInt8.ofNat ((x.toNat : Int)).toNat = x := by simp
  rw [this]
def Any : Asn := ⟨fun _ _ => True, fun _ _ _ _ _ => trivial⟩
noncomputable def ptZ (E : Env) (t e : TypeId) : Bool := match E.ty.get t with
 | some i => match i.desc with
  | .pointer e' => (Nat.beq e' e && (match E.ty.get e with | some j => Nat.beq j.size 1 | none => false))
  | _ => false
 | none => false
theorem WO.ustr {x y : Operand} {t u : TypeId} {v : Value} {bs : Bs} {e b n c : Nat} {L' : List Asn} {Q : Value → List Asn → List Asn → Prop} (hx : evls al [x, y] = some [.pointer (some ⟨b, 0, none⟩), .int .i64 (byL bs).length]) (hv : v = .slice (some ⟨b, 0, none⟩) n c) (hr : Rem (OwZ e 1 v (byL bs)) L L') (hne : bs ≠ []) (hlen : bs.length ≤ 1099511627776) (ht : ptZ E t e = true) (h : Q (S bs) L' P) : WO E (.call ⟨.builtin .unsafeString, #[x, y], #[t, u]⟩) al L P Q := by
 intro S0 s tm hs ha
 have hp := hs.own.perm hr.perm
 have hs1 : Sat (OwZ e 1 v (byL bs) :: L') P S0 s := ⟨hp, hs.per, hs.ex, hs.fresh⟩
 have hz : (OwZ e 1 v (byL bs)).p S0 s.h ∧ ∃ m z tr, s.h.get b = some (.cells tr m z) ∧ (byL bs).length ≤ m ∧ Elems 1 0 tr (byL bs) ∧ ze z = e + 1 := by
  obtain ⟨S1, S2, q1, q2, q3, q4, q5⟩ := hp
  refine ⟨⟨?_, q4.2⟩, ?_⟩
  ·rcases q4.1 with h | ⟨b', c', m, z, tr, g1, g2, g3⟩
   ·exact .inl h
   ·exact .inr ⟨b', c', m, z, tr, g1, q1 _ g2, g3⟩
  ·rcases q4.1 with ⟨h0, _⟩ | ⟨b', c', m, z, tr, g1, g2, g3, g4, g5, g6, g7⟩
   ·have := congrArg List.length h0
    rw [byL_len] at this
    exact absurd (List.length_eq_zero_iff.1 this) hne
   ·have htg := q4.2
    subst hv
    cases g1
    refine ⟨m, z, tr, g3, by omega, g7, ?_⟩
    rcases htg _ _ _ rfl with ⟨h0, _⟩ | h
    ·rw [byL_len] at h0; exact absurd (List.length_eq_zero_iff.1 h0) hne
    ·exact h _ _ _ g3
 obtain ⟨_, m, z, tr, g1, g2, g3, g4⟩ := hz
 have hrd : rdN s b 0 (byL bs).length = some (byL bs).flatten := by
  unfold rdN
  rw [g1]
  simp only
  rw [Nat.zero_add, Nat.ble_eq_true_of_le g2]
  simp only [cond_true]
  have := g3.read
  rw [Nat.mul_one] at this
  exact this
 have hup : Sat (Any :: L') P S0 (s.upd b .dead) ∧ Tr S0 s S0 (s.upd b .dead) := hs1.upd (A := OwZ e 1 v (byL bs)) (B := Any) .z (fun U h H => by
  rcases H.1 with ⟨h0, _⟩ | ⟨b', c', m, z, tr, k1, k2, _⟩
  ·have := congrArg List.length h0
   rw [byL_len] at this
   exact absurd (List.length_eq_zero_iff.1 this) hne
  ·subst hv; cases k1; exact k2) (fun _ _ => trivial)
 refine ⟨S bs, s.upd b .dead, S0, L', P, ⟨0, 0, ?_⟩, hup.2, ⟨hup.1.own.drop, hup.1.per, hup.1.ex, hup.1.fresh⟩, h⟩
 refine hCall_bi ha hx ?_
 show uStrA E s t (.pointer (some ⟨b, 0, none⟩)) (.int .i64 (byL bs).length) = _
 unfold ptZ at ht
 unfold uStrA
 cases hi : E.ty.get t with
 | none => rw [hi] at ht; cases ht
 | some i =>
  rw [hi] at ht
  simp only at ht ⊢
  have hl : bs.length ≠ 0 := fun h => hne (List.length_eq_zero_iff.1 h)
  have h0 : Nat.beq (byL bs).length 0 = false := by
   rw [byL_len]
   cases hb : Nat.beq bs.length 0 with
   | false => rfl
   | true => exact absurd (Nat.eq_of_beq_eq_true hb) hl
  show (bif Nat.beq (byL bs).length 0 then some (Value.string .empty, s) else _) = _
  rw [h0]
  simp only [cond_false]
  split at ht
  ·rename_i e' hd
   rw [hd]
   simp only
   cases hj : E.ty.get e with
   | none => rw [hj] at ht; cases hee : Nat.beq e' e <;> rw [hee] at ht <;> cases ht
   | some j =>
    rw [hj] at ht
    cases hee : Nat.beq e' e with
    | false => rw [hee] at ht; cases ht
    | true =>
     rw [hee] at ht
     obtain rfl := Nat.eq_of_beq_eq_true hee
     have ht : Nat.beq j.size 1 = true := ht
     rw [hj, g1]
     simp only
     have hsm : Nat.ble (byL bs).length small = true := Nat.ble_eq_true_of_le (by rw [byL_len]; exact hlen)
     rw [ht, g4, Nat.beq_refl, hsm]
     simp only [Bool.and_self, cond_true]
     rw [hrd]
     simp only
     rw [toBytes_byL]
  ·cases ht
noncomputable def upK (E : Env) (a b u : TypeId) : Bool := match E.ty.get a, E.ty.get b with
 | some i, some i' => match i.desc, i'.desc with
  | .pointer t, .unsafePointer => (Nat.beq t u && (match E.ty.get u with | some j => Nat.ble 1 j.size | none => false))
  | .unsafePointer, .pointer t => (Nat.beq t u && (match E.ty.get u with | some j => Nat.ble 1 j.size | none => false))
  | _, _ => false
 | _, _ => false
theorem hConv_up {x : Operand} {a b u k : Nat} {cs : List Value} {tm : Tm} {s : AS} {Sx : Nat → Prop} (ha : Has al tm) (hs : Sat L P Sx s) (hx : evl al x = some (.pointer (some ⟨k, 0, none⟩))) (hm : In (Pt k cs (tz 0 u)) L P) (ht : upK E a b u = true) (hl : cs.length = (match E.ty.get u with | some j => j.size | none => 0)) : hConv a b x E tm s = some (.pointer (some ⟨k, 0, none⟩), s) := by
 obtain ⟨U, ⟨_, c, h2, _⟩, _⟩ := hm.holds hs
 unfold hConv
 rw [evl_ev ha hx]
 simp only
 unfold convA
 unfold upK at ht
 cases hi : E.ty.get a with
 | none => rw [hi] at ht; cases ht
 | some i =>
  rw [hi] at ht
  cases hi' : E.ty.get b with
  | none => rw [hi'] at ht; cases ht
  | some i' =>
   rw [hi'] at ht
   simp only at ht ⊢
   split at ht
   ·rename_i t h3 h4
    rw [h3, h4]
    simp only
    cases hj : E.ty.get u with
    | none => rw [hj] at ht; cases hee : Nat.beq t u <;> rw [hee] at ht <;> cases ht
    | some j =>
     rw [hj] at ht hl
     cases hee : Nat.beq t u with
     | false => rw [hee] at ht; cases ht
     | true =>
      rw [hee] at ht
      obtain rfl := Nat.eq_of_beq_eq_true hee
      have ht : Nat.ble 1 j.size = true := ht
      have ht' := Nat.le_of_ble_eq_true ht
      rw [hj]
      simp only
      have h0 : Nat.beq j.size 0 = false := by
       cases hb : Nat.beq j.size 0 with
       | false => rfl
       | true => have := Nat.eq_of_beq_eq_true hb; omega
      have hlt : Nat.blt 0 cs.length = true := by rw [Nat.blt_eq]; simp only at hl; omega
      rw [h0, h2]
      simp only [cond_false]
      rw [hlt]
      rfl
   ·rename_i t h3 h4
    rw [h3, h4]
    simp only
    cases hj : E.ty.get u with
    | none => rw [hj] at ht; cases hee : Nat.beq t u <;> rw [hee] at ht <;> cases ht
    | some j =>
     rw [hj] at ht hl
     cases hee : Nat.beq t u with
     | false => rw [hee] at ht; cases ht
     | true =>
      rw [hee] at ht
      obtain rfl := Nat.eq_of_beq_eq_true hee
      have ht : Nat.ble 1 j.size = true := ht
      rw [hj, h2]
      simp only
      have hle : Nat.ble j.size cs.length = true := Nat.ble_eq_true_of_le (by simp only at hl; omega)
      have z1 : ze (tz 0 t) = t + 1 := tz_ze (by omega)
      have z2 : zs (tz 0 t) = 0 := tz_zs (by omega)
      rw [z1, z2, Nat.beq_refl, hle, ht]
      rfl
   ·cases ht
theorem WR.up {x : Operand} {d t a b u k : Nat} {cs : List Value} {pos : String} {af : Array Edge} (h : WR E N ops l ((d, .pointer (some ⟨k, 0, none⟩)) :: al) L P Q) (hx : evl al x = some (.pointer (some ⟨k, 0, none⟩)) := by rfl)
  (hm : In (Pt k cs (tz 0 u)) L P := by first | assumption | exact .l0 | exact .l1 | exact .l2 | exact .l3) (ht : upK E a b u = true := by rfl) (hl : cs.length = (match E.ty.get u with | some j => j.size | none => 0) := by rfl) (hN : Nat.ble d N = true := by rfl) : WR E N ops (⟨some d, .convert a b x, t, pos, af, none⟩ :: l) al L P Q :=
 WR.op rfl rfl hN (WO.see (fun call tm S s hs ha => hConv_up ha hs hx hm ht hl) h)
noncomputable def ptK (E : Env) (u : TypeId) : Bool := match E.ty.get u with
 | some i => match i.desc with
  | .pointer e => (match E.ty.get e with | some j => Nat.ble 1 j.size | none => false)
  | _ => false
 | none => false
theorem hBin_same {op : BinOp} {u k : Nat} {x y : Operand} (hx : evl al x = some (.pointer (some ⟨k, 0, none⟩))) (hy : evl al y = some (.pointer (some ⟨k, 0, none⟩))) (hk : ptK E u = true) (tm : Tm) (s : AS) (ha : Has al tm) {q : Bool} (hop : (op = .eql ∧ q = true) ∨ (op = .neq ∧ q = false)) : hBin op u x y E tm s = some (.bool q, s) := by
 have h1 : eqA E s u (.pointer (some ⟨k, 0, none⟩)) (.pointer (some ⟨k, 0, none⟩)) = some true := by
  unfold ptK at hk
  unfold eqA
  cases hi : E.ty.get u with
  | none => rw [hi] at hk; cases hk
  | some i =>
   rw [hi] at hk
   simp only at hk ⊢
   split at hk
   ·rename_i e hd
    rw [hd]
    cases hj : E.ty.get e with
    | none => rw [hj] at hk; cases hk
    | some j =>
     rw [hj] at hk
     have := Nat.le_of_ble_eq_true hk
     have h0 : Nat.beq j.size 0 = false := by
      cases hb : Nat.beq j.size 0 with
      | false => rfl
      | true => have := Nat.eq_of_beq_eq_true hb; omega
     show (match E.ty.get e with | none => none | some i => bif Nat.beq i.size 0 then none else bif Nat.beq k k then some (Nat.beq 0 0 && true && true) else _) = some true
     rw [hj]
     simp only
     rw [h0, Nat.beq_refl]
     rfl
   ·cases hk
 unfold hBin
 rw [evl_ev ha hx, evl_ev ha hy]
 simp only
 have hv : binA E s op u x y (.pointer (some ⟨k, 0, none⟩)) (.pointer (some ⟨k, 0, none⟩)) = binOther E s op u x y (.pointer (some ⟨k, 0, none⟩)) (.pointer (some ⟨k, 0, none⟩)) := rfl
 rw [hv]
 unfold binOther
 have hn : isNilI (.pointer (some ⟨k, 0, none⟩)) = false := rfl
 rw [hn]
 simp only [Bool.false_and, cond_false]
 rcases hop with ⟨rfl, rfl⟩ | ⟨rfl, rfl⟩
 ·simp only
  unfold eqBin
  rw [h1]
  rfl
 ·simp only
  unfold eqBin
  rw [h1]
  rfl
theorem Pu.pdiff {x y : Operand} {u r k : Nat} (hx : evl al x = some (.pointer (some ⟨k, 0, none⟩)) := by rfl) (hy : evl al y = some (.pointer (some ⟨k, 0, none⟩)) := by rfl) (hk : ptK E u = true := by rfl) : Pu E al (.binOp .neq u x y r) (.bool false) := ⟨fun _ _ _ => rfl, fun tm s ha => hBin_same hx hy hk tm s ha (.inr ⟨rfl, rfl⟩)⟩
theorem OwZ.pl {e : TypeId} {k : Nat} {v : Value} {es : List (List Value)} (h : In (OwZ e k v es) L P) {S : Nat → Prop} {s : AS} (hs : Sat L P S s) : SlP k v es s.h := by
 obtain ⟨U, h1, _⟩ := h.holds hs
 exact Sl.pl (Ow.sl h1.1)
theorem Lk.lnz {x : Operand} {ts : Array TypeId} {k : Nat} {u e : TypeId} {j : TI} {v : Value} {es : List (List Value)} {e' : TypeId} (hm : In (OwZ e' k v es) L P) (hx : evl al x = some v := by rfl) (ht : ts.toList.head? = some u := by rfl) (hu : slT E u = some (e, j) := by rfl) : Lk E al L P (.call ⟨.builtin .len, #[x], ts⟩) (.int .i64 es.length) :=
 ⟨fun _ _ _ => rfl, fun tm S s ha hs s' => by
  have hU := OwZ.pl hm hs
  exact hCall_len ha hx ht (len_sl hU hu)⟩
theorem Sp.noesc {f : FuncId} {v : Value} (hp : E.prim.get f = some noEscP := by rfl) : Sp E f [v] L P (fun r L' P' => r = v ∧ L' = L ∧ P' = P) :=
 Sp.prim hp (fun S s hs => ⟨v, s, S, L, P, rfl, .refl _ _, hs, rfl, rfl, rfl⟩)
theorem WR.fact {p : Prop} (hf : ∀ S s, Sat L P S s → p) (h : p → WR E N ops l al L P Q) : WR E N ops l al L P Q := fun S s tm hs ha => h (hf S s hs) S s tm hs ha
theorem W.fact {p : Prop} {c : Code} {Q : X → Al → List Asn → List Asn → Prop} (hf : ∀ S s, Sat L P S s → p) (h : p → W E N c al L P Q) : W E N c al L P Q := fun S s tm hs ha => h (hf S s hs) S s tm hs ha
theorem slc_ow {k : Nat} {v : Value} {es : List (List Value)} (h : In (Ow k v es) L P) (S : Nat → Prop) (s : AS) (hs : Sat L P S s) : ∃ a c, v = .slice a es.length c := by
 obtain ⟨U, h1, _⟩ := h.holds hs
 obtain ⟨a, c, h, _⟩ := Sl.pl (Ow.sl h1)
 exact ⟨a, c, h⟩
theorem slc_owz {e : TypeId} {k : Nat} {v : Value} {es : List (List Value)} (h : In (OwZ e k v es) L P) (S : Nat → Prop) (s : AS) (hs : Sat L P S s) : ∃ a c, v = .slice a es.length c := by
 obtain ⟨a, c, h, _⟩ := OwZ.pl h hs
 exact ⟨a, c, h⟩
theorem Ent.take {A : Asn} {L1 L' : List Asn} (hr : Rem A L L1) (h : Ent L1 P L' P) : Ent L P (A :: L') P := (Ent.perm hr.perm).trans (Ent.under h rfl)
theorem byL_ne {b : List UInt8} (h : b ≠ []) : byL b ≠ [] := fun e => h (by
 have := congrArg List.length e
 rw [byL_len] at this
 exact List.length_eq_zero_iff.1 this)
end Go.Lx
/- Slices made in drawn regions; texts out of slices. -/
namespace Go.Lx
open Go Go.Ax
variable {E : Env} {N : Nat} {ops l : List Oper} {al : Al} {L P : List Asn} {Q : Al → List Asn → List Asn → Prop}
section
variable {an : List Nat} {base i : Nat} {NW : NewL} {Hs : Hist} {CK : List Chk} {K : Al → List Asn → List Asn → Prop}
end
noncomputable def csK (E : Env) (a b : TypeId) : Bool := match E.ty.get a, E.ty.get b with
 | some i, some i' => match i.desc, i'.desc with
  | .slice e, .string => (match E.ty.get e with | some ⟨.int .u8, _, _, _⟩ => true | _ => false)
  | _, _ => false
 | _, _ => false
theorem hConv_cs {x : Operand} {a b : TypeId} {v : Value} {bs : Bs} {tm : Tm} {s : AS} (ha : Has al tm) (hx : evl al x = some v) (hU : SlP 1 v (byL bs) s.h) (hk : csK E a b = true) : hConv a b x E tm s = some (S bs, s) := by
 unfold hConv
 rw [evl_ev ha hx]
 simp only
 unfold csK at hk
 unfold convA
 cases hi : E.ty.get a with
 | none => rw [hi] at hk; cases hk
 | some i =>
  rw [hi] at hk
  cases hi' : E.ty.get b with
  | none => rw [hi'] at hk; cases hk
  | some i' =>
   rw [hi'] at hk
   simp only at hk ⊢
   split at hk
   ·rename_i e h1 h2
    rw [h1, h2]
    cases hj : E.ty.get e with
    | none => rw [hj] at hk; cases hk
    | some j =>
     rw [hj] at hk
     have hu8 : ∃ q1 q2 q3, j = ⟨.int .u8, q1, q2, q3⟩ := by
      split at hk
      ·rename_i q1 q2 q3 he
       cases he
       exact ⟨_, _, _, rfl⟩
      ·cases hk
     obtain ⟨q1, q2, q3, rfl⟩ := hu8
     by_cases hb : bs = []
     ·subst hb
      obtain ⟨p, c, rfl, _⟩ := hU
      cases p with
      | none =>
       show (match E.ty.get e with | some ⟨.int .u8, _, _, _⟩ => some (Value.string .empty, s) | _ => none) = _
       rw [hj]
       rfl
      | some p =>
       show (match E.ty.get e with | some ⟨.int .u8, _, _, _⟩ => (bif Nat.beq 0 0 then some (Value.string .empty, s) else _) | _ => none) = _
       rw [hj]
       rfl
     ·obtain ⟨q, o, h3, h4⟩ := rdN_all hU (byL_ne hb)
      rw [h3]
      rw [Nat.mul_one] at h4
      show (match E.ty.get e with | some ⟨.int .u8, _, _, _⟩ => (bif Nat.beq (byL bs).length 0 then some (Value.string .empty, s) else (match rdN s q o (byL bs).length with | none => none | some l => match toBytes l with | none => none | some bs => some (Value.string ⟨⟨bs⟩⟩, s))) | _ => none) = _
      rw [hj]
      simp only
      have h0 : Nat.beq (byL bs).length 0 = false := by
       cases hc : Nat.beq (byL bs).length 0 with
       | false => rfl
       | true => exact absurd (List.length_eq_zero_iff.1 (Nat.eq_of_beq_eq_true hc)) (byL_ne hb)
      rw [h0, h4]
      simp only [cond_false]
      rw [toBytes_byL]
   ·cases hk
theorem WR.cs {x : Operand} {d t a b : Nat} {pos : String} {af : Array Edge} {v : Value} {bs : Bs} (hm : IsSl 1 v (byL bs) L P) (h : WR E N ops l ((d, S bs) :: al) L P Q) (hx : evl al x = some v := by rfl) (hk : csK E a b = true := by rfl) (hN : Nat.ble d N = true := by rfl) : WR E N ops (⟨some d, .convert a b x, t, pos, af, none⟩ :: l) al L P Q :=
 WR.op rfl rfl hN (WO.see (fun call tm S s hs ha => hConv_cs ha hx (hm.holds hs) hk) h)
theorem Pu.ngw {x : Operand} {u : Nat} {k : IntKind} {a r : Int} (hr : k.wrap (0 - a) = r) (hx : evl al x = some (.int k a) := by rfl) : Pu E al (.unOp .neg u x) (.int k r) := ⟨fun _ _ _ => rfl, fun tm s ha => by
 show hUn .neg x E tm s = _
 unfold hUn
 rw [evl_ev ha hx]
 show (match (none : Option Value) with | some u => some (u, s) | none => bif plain (Value.int k a) then (match some (Value.int k (k.wrap (0 - a))) with | some u => bif plain u then some (u, s) else none | none => none) else none) = _
 rw [hr]
 rfl⟩
end Go.Lx
/- Arrays, and slices of them: cells of a block that are known one by one. -/
namespace Go.Lx
open Go Go.Ax
variable {E : Env} {N : Nat} {ops l : List Oper} {al : Al} {L P : List Asn} {Q : Al → List Asn → List Asn → Prop}
theorem setN_one : ∀ {cs : List Value} {o : Nat} {v : Value}, o < cs.length → SetN cs o [v] (cs.set o v)
 | [], o, v, h => by cases h
 | x :: cs, 0, v, _ => .here .nil
 | x :: cs, o + 1, v, h => .skip (setN_one (by simpa using h))
noncomputable def arT (E : Env) (t : TypeId) : Option (Nat × Nat) :=
 match E.ty.get t with
 | some i => match i.desc with
  | .array m e => match E.ty.get e with
   | some j => some (m, j.size)
   | none => none
  | _ => none
 | none => none
theorem arT_spec {t : TypeId} {m k : Nat} (h : arT E t = some (m, k)) : ∃ i e j, E.ty.get t = some i ∧ i.desc = .array m e ∧ E.ty.get e = some j ∧ j.size = k := by
 unfold arT at h
 cases hi : E.ty.get t with
 | none => rw [hi] at h; cases h
 | some i =>
  rw [hi] at h
  simp only at h
  split at h
  ·rename_i m' e hd
   cases hj : E.ty.get e with
   | none => rw [hj] at h; cases h
   | some j =>
    rw [hj] at h
    cases h
    exact ⟨i, e, j, rfl, hd, hj, rfl⟩
  ·cases h
theorem Pu.iaV {x y : Operand} {u b o m c k : Nat} {K : IntKind} {n : Int} {e : TypeId} {j : TI} (hx : evl al x = some (.slice (some ⟨b, o, none⟩) m c) := by rfl) (hy : evl al y = some (.int K n) := by rfl) (hu : slT E u = some (e, j) := by rfl) (hk : j.size = k := by rfl) (hn : 0 ≤ n ∧ n < m := by omega) : Pu E al (.indexAddr u x y) (.pointer (some ⟨b, o + n.toNat * k, none⟩)) :=
 ⟨fun _ _ _ => rfl, fun tm s ha => by
  obtain ⟨i, g1, g2, g3⟩ := slT_spec hu
  show hIndexAddr u x y E tm s = _
  unfold hIndexAddr
  rw [g1, evl_ev ha hx, evl_ev ha hy]
  simp only
  rw [g2]
  simp only
  rw [g3]
  simp only
  rw [inR_of hn, natK_eq, hk]
  rfl⟩
theorem Pu.iaA {x y : Operand} {u b o m k : Nat} {K : IntKind} {n : Int} (hx : evl al x = some (.pointer (some ⟨b, o, none⟩)) := by rfl) (hy : evl al y = some (.int K n) := by rfl) (hu : arT E u = some (m, k) := by rfl) (hn : 0 ≤ n ∧ n < m := by omega) : Pu E al (.indexAddr u x y) (.pointer (some ⟨b, o + n.toNat * k, none⟩)) :=
 ⟨fun _ _ _ => rfl, fun tm s ha => by
  obtain ⟨i, e, j, g1, g2, g3, g4⟩ := arT_spec hu
  show hIndexAddr u x y E tm s = _
  unfold hIndexAddr
  rw [g1, evl_ev ha hx, evl_ev ha hy]
  simp only
  rw [g2]
  simp only
  rw [g3]
  simp only
  rw [inR_of hn, natK_eq, g4]
  rfl⟩
theorem Pu.lnV {x : Operand} {ts : Array TypeId} {u n c : Nat} {a : Option Addr} {e : TypeId} {j : TI} (hx : evl al x = some (.slice a n c) := by rfl) (ht : ts.toList.head? = some u := by rfl) (hu : slT E u = some (e, j) := by rfl) : Pu E al (.call ⟨.builtin .len, #[x], ts⟩) (.int .i64 n) :=
 ⟨fun _ _ _ => rfl, fun tm s ha => by
  obtain ⟨i, g1, g2, g3⟩ := slT_spec hu
  exact hCall_len ha hx ht (by
   unfold lenA
   rw [g1]
   simp only
   rw [g2])⟩
theorem Pu.slA {x : Operand} {lo hi : Option Operand} {u b o m k p q : Nat} (hp : bdl al 0 q lo p) (hq : bdl al m m hi q) (hx : evl al x = some (.pointer (some ⟨b, o, none⟩)) := by rfl) (hu : arT E u = some (m, k) := by rfl) (hqm : q ≤ m := by omega) : Pu E al (.slice u x lo hi none) (.slice (some ⟨b, o + p * k, none⟩) (q - p) (2 * (m - p) + 1)) :=
 ⟨fun _ _ _ => rfl, fun tm s ha => by
  obtain ⟨i, e, j, g1, g2, g3, g4⟩ := arT_spec hu
  show hSlice u x lo hi none E tm s = _
  unfold hSlice
  rw [evl_ev ha hx]
  simp only
  have : sliceA E s tm u (.pointer (some ⟨b, o, none⟩)) lo hi none = some (.slice (some ⟨b, o + p * k, none⟩) (q - p) (2 * (m - p) + 1)) := by
   unfold sliceA
   rw [g1]
   simp only
   rw [g2]
   simp only
   rw [g3]
   simp only
   have hb : bnds tm m m lo hi none = some (p, q, m) := by
    unfold bnds
    simp only [Option.isSome_none, Bool.false_and, cond_false]
    rw [show bnd tm m m none = some m from rfl]
    simp only
    rw [bdl_bnd hq ha]
    simp only
    rw [Nat.ble_eq_true_of_le hqm]
    simp only [cond_true]
    rw [bdl_bnd hp ha]
   rw [hb, g4]
  rw [this]⟩
theorem WR.csV {x : Operand} {d t a b q o n c z : Nat} {cs : List Value} {pos : String} {af : Array Edge} {bs : Bs} (hm : In (Pt q cs z) L P) (hv : (cs.drop o).take n = bs.map fun c => Value.int .u8 c.toNat) (hn : n = bs.length) (ho : o + n ≤ cs.length) (h : WR E N ops l ((d, S bs) :: al) L P Q) (hx : evl al x = some (.slice (some ⟨q, o, none⟩) n c) := by rfl) (hk : csK E a b = true := by rfl) (hN : Nat.ble d N = true := by rfl) : WR E N ops (⟨some d, .convert a b x, t, pos, af, none⟩ :: l) al L P Q :=
 WR.op rfl rfl hN (WO.see (fun call tm S s hs ha => by
  refine hConv_cs ha hx ⟨some ⟨q, o, none⟩, c, ?_, ?_⟩ hk
  ·rw [byL_len, hn]
  ·obtain ⟨U, ⟨_, t, h1, h2⟩, _⟩ := hm.holds hs
   refine .inr ⟨q, o, cs.length, z, t, rfl, .inl h1, by rw [byL_len, Nat.mul_one, ← hn]; exact ho, fun i e he => ?_⟩
   unfold byL at he
   rw [List.getElem?_map] at he
   cases hb : bs[i]? with
   | none => rw [hb] at he; cases he
   | some y =>
    rw [hb] at he
    cases he
    refine ⟨rfl, fun j hj => ?_⟩
    obtain rfl : j = 0 := by omega
    have hi : i < n := by rw [hn]; exact (List.getElem?_eq_some_iff.1 hb).1
    rw [Nat.mul_one, Nat.add_zero, h2 (o + i) (by omega)]
    have := congrArg (fun l => l[i]?) hv
    simp only [List.getElem?_take, if_pos hi, List.getElem?_drop, List.getElem?_map, hb] at this
    exact this) h)
theorem rd_ro {b : Nat} {vs : List Value} (h : In (Ro b vs) L P) {S : Nat → Prop} {s : AS} (hs : Sat L P S s) {o : Nat} {v : Value} (hv : vs[o]? = some v) : rd s b o = some v := by
 obtain ⟨U, ⟨_, t, m, h1, h2, h3⟩, _⟩ := h.holds hs
 have hlt := (List.getElem?_eq_some_iff.1 hv).1
 unfold rd
 rw [h1]
 have : Nat.blt o m = true := by rw [Nat.blt_eq]; omega
 simp only [this, cond_true]
 exact h3 o v hv
theorem Ld.ro {x : Operand} {u b o : Nat} {v : Value} {i : TI} (hx : evl al x = some (.pointer (some ⟨b, o, none⟩)) := by rfl) (hu : E.ty.get u = some i := by rfl) (hd : isAggD i.desc = false := by rfl) : Ld E al (.load u x) v (fun L P => ∃ vs, In (Ro b vs) L P ∧ vs[o]? = some v) :=
 ⟨fun _ _ _ => rfl, fun tm ha L P S s s' hs he ⟨vs, hm, hv⟩ => by
  have hr := rd_exts he (rd_ro hm hs hv)
  show hLoad u x E tm s' = _
  unfold hLoad
  rw [hu, evl_ev ha hx]
  simp only
  rw [hd]
  simp only [cond_false]
  rw [hr]⟩
theorem Pu.mulN {x y : Operand} {u r : Nat} {k : IntKind} {a b : Nat} (hx : evl al x = some (.int k (a : Int)) := by rfl) (hy : evl al y = some (.int k (b : Int)) := by rfl) (hr : InR k ((a * b : Nat) : Int) := by simp only [Go.Lx.InR]; omega) : Pu E al (.binOp .mul u x y r) (.int k ((a * b : Nat) : Int)) :=
 Pu.bi (by
  show (bif kindEq k k then iAr Int.mul k a b else none) = _
  rw [kindEq_refl]
  simp only [cond_true]
  have e : Int.mul (a : Int) (b : Int) = ((a * b : Nat) : Int) := rfl
  unfold iAr
  rw [e]
  exact intV_in hr) hx hy
theorem Pu.addN {x y : Operand} {u r : Nat} {k : IntKind} {a b : Nat} (hx : evl al x = some (.int k (a : Int)) := by rfl) (hy : evl al y = some (.int k (b : Int)) := by rfl) (hr : InR k ((a + b : Nat) : Int) := by simp only [Go.Lx.InR]; omega) : Pu E al (.binOp .add u x y r) (.int k ((a + b : Nat) : Int)) :=
 Pu.bi (by
  show (bif kindEq k k then iAr Int.add k a b else none) = _
  rw [kindEq_refl]
  simp only [cond_true]
  have e : Int.add (a : Int) (b : Int) = ((a + b : Nat) : Int) := rfl
  unfold iAr
  rw [e]
  exact intV_in hr) hx hy
theorem Pu.subN {x y : Operand} {u r : Nat} {k : IntKind} {a b : Nat} (hx : evl al x = some (.int k (a : Int)) := by rfl) (hy : evl al y = some (.int k (b : Int)) := by rfl) (hb : b ≤ a := by omega) (hr : InR k ((a - b : Nat) : Int) := by simp only [Go.Lx.InR]; omega) : Pu E al (.binOp .sub u x y r) (.int k ((a - b : Nat) : Int)) :=
 Pu.bi (by
  show (bif kindEq k k then iAr Int.sub k a b else none) = _
  rw [kindEq_refl]
  simp only [cond_true]
  have e : Int.sub (a : Int) (b : Int) = ((a - b : Nat) : Int) := by
   show (a : Int) - (b : Int) = _
   omega
  unfold iAr
  rw [e]
  exact intV_in hr) hx hy
theorem Pu.iaN {x y : Operand} {u b o m c n : Nat} {K : IntKind} {e : TypeId} {j : TI} (hx : evl al x = some (.slice (some ⟨b, o, none⟩) m c) := by rfl) (hy : evl al y = some (.int K (n : Int)) := by rfl) (hu : slT E u = some (e, j) := by rfl) (hk : j.size = 1 := by rfl) (hn : n < m := by omega) : Pu E al (.indexAddr u x y) (.pointer (some ⟨b, o + n, none⟩)) := by
 have := Pu.iaV (E := E) (al := al) (k := 1) hx hy hu hk ⟨by omega, by omega⟩
 have e : o + ((n : Nat) : Int).toNat * 1 = o + n := by omega
 rw [e] at this
 exact this
end Go.Lx
/- The start with slices of plain values that came in. -/
namespace Go.Lx
open Go Go.Ax Go.RowKit
def SlIn (W : World) (v : Value) (es : List Value) : Prop :=
 (v = .slice none 0 0 ∧ es = []) ∨ ∃ b p c, v = .slice (some ⟨b, p, none⟩) es.length c ∧ es.length ≤ c ∧ b < W.heap.size ∧ ∀ (i : Nat) (y : Value), es[i]? = some y → W.cell? ⟨b, p + i, none⟩ = some y
def blk : Value → List Nat
 | .slice (some a) _ _ => [a.block]
 | _ => []
def nub : List Nat → List Nat
 | [] => []
 | a :: l => if a ∈ nub l then nub l else a :: nub l
theorem nub_mem {q : Nat} : ∀ {l : List Nat}, q ∈ nub l ↔ q ∈ l
 | [] => Iff.rfl
 | a :: l => by
  unfold nub
  split
  ·rename_i h
   rw [nub_mem, List.mem_cons]
   constructor
   ·exact .inr
   ·rintro (rfl | h')
    ·exact nub_mem.1 h
    ·exact h'
  ·rw [List.mem_cons, List.mem_cons, nub_mem]
theorem nub_nd : ∀ l : List Nat, (nub l).Nodup
 | [] => List.nodup_nil
 | a :: l => by
  unfold nub
  split
  ·exact nub_nd l
  ·rename_i h
   exact List.nodup_cons.2 ⟨h, nub_nd l⟩
def blks (vs : List (Value × List Value)) : List Nat := nub (vs.flatMap fun x => if x.2 = [] then [] else blk x.1)
def blkA (vs : List (Value × List Value)) : List Nat := vs.flatMap fun x => blk x.1
def PlainV (y : Value) : Prop := ∀ qs, inV qs y = some y
theorem blks_mem {vs : List (Value × List Value)} {q : Nat} (h : q ∈ blks vs) : ∃ x ∈ vs, x.2 ≠ [] ∧ q ∈ blk x.1 := by
 obtain ⟨x, hx, h⟩ := List.mem_flatMap.1 (nub_mem.1 h)
 by_cases hne : x.2 = []
 ·rw [if_pos hne] at h; cases h
 ·rw [if_neg hne] at h; exact ⟨x, hx, hne, h⟩
theorem cells_of {W : World} {a : Addr} {v : Value} (h : W.cell? a = some v) : ∃ cs e fr, W.heap[a.block]? = some (.cells cs e fr) := by
 unfold World.cell? at h
 match hw : W.heap[a.block]?, h with
 | some (.cells cs e fr), _ => exact ⟨cs, e, fr, rfl⟩
structure SlsOk (W : World) (gs D X : List Nat) (vs : List (Value × List Value)) : Prop where
 low : ∀ g ∈ gs, g < 1000
 cells : ∀ q, q ∈ gs ∨ q ∈ D → ∃ cs e fr, W.heap[q]? = some (.cells cs e fr)
 sl : ∀ x ∈ vs, SlIn W x.1 x.2
 plain : ∀ x ∈ vs, ∀ y ∈ x.2, PlainV y
 nd : D.Nodup
 ap : ∀ q ∈ D, q ∉ blks vs
 dis : ∀ q ∈ D ++ blks vs, q ∉ gs
 lt : ∀ q ∈ X, q < W.heap.size
abbrev qsOf (D X : List Nat) (vs : List (Value × List Value)) : List Nat := (D ++ blks vs) ++ (blkA vs ++ X)
theorem SlIn.lt {W : World} {v : Value} {es : List Value} (h : SlIn W v es) {q : Nat} (hq : q ∈ blk v) : q < W.heap.size := by
 rcases h with ⟨rfl, _⟩ | ⟨b, p, c, rfl, _, h, _⟩
 ·cases hq
 ·rcases List.mem_cons.1 hq with rfl | hq
  ·exact h
  ·cases hq
theorem SlsOk.inOk {W : World} {gs D X : List Nat} {vs : List (Value × List Value)} (ok : SlsOk W gs D X vs) : InOk W gs (qsOf D X vs) (D ++ blks vs) := by
 have hc : ∀ q, q ∈ gs ∨ q ∈ D ++ blks vs → ∃ cs e fr, W.heap[q]? = some (.cells cs e fr) := fun q hq => by
  rcases hq with hq | hq
  ·exact ok.cells q (.inl hq)
  rcases List.mem_append.1 hq with hq | hq
  ·exact ok.cells q (.inr hq)
  obtain ⟨x, hx, hne, hb⟩ := blks_mem hq
  rcases ok.sl x hx with ⟨_, h⟩ | ⟨b, p, c, h1, h2, h3, h4⟩
  ·exact absurd h hne
  ·rw [h1] at hb
   rcases List.mem_cons.1 hb with rfl | hb
   ·cases he : x.2 with
    | nil => exact absurd he hne
    | cons y l => exact cells_of (h4 0 y (by rw [he]; rfl))
   ·cases hb
 refine ⟨ok.low, List.prefix_append _ _, List.nodup_append.2 ⟨ok.nd, nub_nd _, fun a ha b hb e => ok.ap a ha (e ▸ hb)⟩, ok.dis, hc, fun q hq => ?_⟩
 rcases List.mem_append.1 hq with hq | hq
 ·obtain ⟨cs, e, fr, h⟩ := hc q (.inr hq)
  exact (Array.getElem?_eq_some_iff.1 h).1
 ·rcases List.mem_append.1 hq with hq | hq
  ·obtain ⟨x, hx, hq⟩ := List.mem_flatMap.1 hq
   exact (ok.sl x hx).lt hq
  ·exact ok.lt q hq
end Go.Lx
