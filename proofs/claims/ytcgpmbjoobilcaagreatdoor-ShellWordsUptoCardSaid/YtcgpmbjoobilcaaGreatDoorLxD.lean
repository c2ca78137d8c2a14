/- strings.Join as a function that is known by what it answers; calls that leave new blocks behind. -/
import Derived.Test.YtcgpmbjoobilcaaGreatDoorLxC
import Derived.Lib.Join
import Derived.Test.YtcgpmbjoobilcaaGreatDoorAxF
set_option linter.unusedSimpArgs false
set_option linter.unusedVariables false
namespace Go.Ax
open Go Go.RowKit
theorem FSim.below {P : Program} {f : FuncId} {fn : Func} (hf : P.funcs[f]? = some fn) (hn : (fn.name == "runtime.NumGoroutine") = false) (hb : fn.body.isNone = false) {args' : List Value} {i : Io} {s : AS} {w : World} {v v' : Value}
  (hR : Rel i s w) (hc : Calls P f ⟨args'⟩ w fun e w' => e = .returned v' ∧ Below w.heap.size w w') (hv : VR i v v') : FSim P f args' i s w v s := by
 have hn' : fn.name ≠ "runtime.NumGoroutine" := by simpa using hn
 have hb' : fn.body ≠ none := fun e => by rw [e] at hb; cases hb
 refine .inr ⟨?_, Calls.mono hc (fun e w' he => ?_)⟩
 ·unfold callFunc
  simp [hf, hn', hb']
 ·obtain ⟨rfl, hw⟩ := he
  obtain ⟨h1, h2⟩ := hR.below hw
  exact ⟨i, hv, h1, h2⟩
noncomputable section
def strsK : List Value → Option (List ByteArray)
 | [] => some []
 | .string b :: l => match strsK l with
  | none => none
  | some r => some (b :: r)
 | _ => none
theorem strsK_some : ∀ {l : List Value} {xs : List ByteArray}, strsK l = some xs → l = xs.map Value.string
 | [], xs, h => by cases h; rfl
 | v :: l, xs, h => by
  unfold strsK at h
  split at h
  ·rename_i e; cases e
  ·rename_i b l' e
   cases e
   cases hr : strsK l with
   | none => rw [hr] at h; cases h
   | some r =>
    rw [hr] at h
    cases h
    rw [strsK_some hr]
    rfl
  ·cases h
theorem strsK_map : ∀ xs : List ByteArray, strsK (xs.map Value.string) = some xs
 | [] => rfl
 | x :: xs => by
  show (match strsK (xs.map Value.string) with | none => none | some r => some (x :: r)) = _
  rw [strsK_map xs]
def joinK (sep : List UInt8) : List ByteArray → List UInt8
 | [] => []
 | x :: l => match l with
  | [] => x.data.toList
  | _ :: _ => x.data.toList ++ (sep ++ joinK sep l)
theorem joinK_eq (sep : List UInt8) : ∀ xs : List ByteArray, joinK sep xs = Lib.join (xs.map (·.data.toList)) sep
 | [] => rfl
 | [x] => by rw [List.map_cons, List.map_nil, Lib.join_one]; rfl
 | x :: y :: l => by
  show x.data.toList ++ (sep ++ joinK sep (y :: l)) = _
  rw [joinK_eq sep (y :: l)]
  simp [Lib.join, List.intercalate]
def joinP : List Value → AS → Option (Value × AS)
 | [.slice a n c, .string sep], s => bif Nat.beq n 0 then some (.string .empty, s) else match a with
  | none => none
  | some a => match rdN s a.block a.off n with
   | none => none
   | some l => match strsK l with
    | none => none
    | some xs => bif Nat.ble (joinK sep.data.toList xs).length small && Nat.ble n small then some (.string ⟨(joinK sep.data.toList xs).toArray⟩, s) else none
 | _, _ => none
theorem joinP_ok {P : Program} {f : FuncId} {fn : Func} (hf : P.funcs[f]? = some fn) (hn : (fn.name == "runtime.NumGoroutine") = false) (hb : fn.body.isNone = false)
  (h0 : ∀ (a : Option Addr) (c : Nat) (sep : ByteArray) (w : World), Calls P f #[.slice a 0 c, .string sep] w fun e w' => e = .returned (.string ⟨#[]⟩) ∧ w' = w)
  (h1 : ∀ (bk o c : Nat) (xs : List ByteArray) (sep : ByteArray) (w : World), (∀ (j : Nat) x, xs[j]? = some x → w.cell? ⟨bk, o + j, none⟩ = some (.string x)) → bk < w.heap.size → xs.length ≤ 140737488355328 → xs.length ≤ c → (Lib.join (xs.map (·.data.toList)) sep.data.toList).length ≤ 140737488355328 →
   Calls P f #[.slice (some ⟨bk, o, none⟩) xs.length c, .string sep] w fun e w' => e = .returned (.string ⟨(Lib.join (xs.map (·.data.toList)) sep.data.toList).toArray⟩) ∧ Below w.heap.size w w') : POk P f joinP := by
 intro args s v s' h i w args' hR hg ha
 unfold joinP at h
 split at h
 ·rename_i a n c sep
  cases ha with | cons a1 ha =>
  cases ha with | cons a2 ha =>
  cases ha
  cases a2
  cases hn0 : Nat.beq n 0 with
  | true =>
   rw [hn0] at h
   cases h
   obtain rfl := Nat.eq_of_beq_eq_true hn0
   cases a1 with
   | nils hc => exact FSim.below hf hn hb hR ((h0 none 0 sep w).mono fun e w' he => ⟨he.1, he.2 ▸ Below.refl _ _⟩) (.string _)
   | slice g1 g2 g3 g4 g5 g6 => exact FSim.below hf hn hb hR ((h0 _ _ sep w).mono fun e w' he => ⟨he.1, he.2 ▸ Below.refl _ _⟩) (.string _)
  | false =>
   rw [hn0] at h
   simp only [cond_false] at h
   have hn1 : n ≠ 0 := fun e => by subst e; cases hn0
   cases a1 with
   | nils hc => cases h
   | @slice b o q t _ _ p c' g1 g2 g3 g4 g5 g6 =>
    simp only at h
    cases hr : rdN s b o n with
    | none => rw [hr] at h; cases h
    | some l =>
     rw [hr] at h
     simp only at h
     cases hs : strsK l with
     | none => rw [hs] at h; cases h
     | some xs =>
      rw [hs] at h
      simp only at h
      cases hq : (Nat.ble (joinK sep.data.toList xs).length small && Nat.ble n small) with
      | false => rw [hq] at h; cases h
      | true =>
       rw [hq] at h
       cases h
       rw [Bool.and_eq_true] at hq
       have q1 := Nat.le_of_ble_eq_true hq.1
       have q2 := Nat.le_of_ble_eq_true hq.2
       unfold small at q1 q2
       obtain rfl := strsK_some hs
       obtain ⟨l', k1, k2, k3⟩ := hR.rdN (P := P) hr g1
       have hlen : xs.length = n := by rw [List.length_map] at k3; exact k3
       have hp : p = t + o := g5.resolve_right (by omega)
       subst hp
       have hcell : ∀ (j : Nat) x, xs[j]? = some x → w.cell? ⟨q, t + o + j, none⟩ = some (.string x) := fun j x hj => by
        have hjn : j < n := by rw [← hlen]; exact (List.getElem?_eq_some_iff.1 hj).1
        have hrd : rd s b (o + j) = some (.string x) := by
         unfold rdN at hr
         unfold rd
         have key : ∀ (ct : T Value) (m : Nat), (bif Nat.ble (o + n) m then ct.list n o else none) = some (xs.map Value.string) → (bif Nat.blt (o + j) m then ct.get (o + j) else none) = some (.string x) := by
          intro ct m hc
          cases hb : Nat.ble (o + n) m with
          | false => rw [hb] at hc; cases hc
          | true =>
           rw [hb, cond_true] at hc
           have hle : o + n ≤ m := by simpa using hb
           have hlt : Nat.blt (o + j) m = true := by rw [Nat.blt_eq]; omega
           rw [hlt, cond_true, (T.list_some ct n o _ hc).2 j (by omega), List.getElem?_map, hj]
           rfl
         split at hr
         ·rename_i ct m z hg
          exact key ct m hr
         ·rename_i ct m hg
          exact key ct m hr
         ·cases hr
        obtain ⟨v', e1, e2⟩ := hR.rd hrd g1
        cases e2
        rw [Nat.add_assoc]
        exact e1
       have hbk : q < w.heap.size := by
        have h00 := hcell 0 xs[0] (List.getElem?_eq_getElem (by omega))
        unfold World.cell? at h00
        cases hh : w.heap[q]? with
        | none => simp only [hh] at h00; cases h00
        | some _ => exact (Array.getElem?_eq_some_iff.1 hh).1
       have hcall := h1 q (t + o) c' xs sep w hcell hbk (by omega) (by omega) (by rw [← joinK_eq]; omega)
       rw [hlen, ← joinK_eq] at hcall
       exact FSim.below hf hn hb hR hcall (.string _)
 ·cases h
end
end Go.Ax
namespace Go.Lx
open Go Go.Ax
variable {E : Env} {L P : List Asn}
theorem strsK_S (xs : List Bs) : strsK (xs.map S) = some (xs.map fun x => ⟨x.toArray⟩) := by
 have : xs.map S = (xs.map fun x => (⟨x.toArray⟩ : ByteArray)).map Value.string := by
  rw [List.map_map]
  rfl
 rw [this, strsK_map]
theorem flat_one {α : Type} (f : α → Value) : ∀ xs : List α, (xs.map fun x => [f x]).flatten = xs.map f
 | [] => rfl
 | x :: xs => by
  show f x :: (xs.map fun x => [f x]).flatten = _
  rw [flat_one f xs]
  rfl
theorem Sp.join {f : FuncId} {v : Value} {xs : List Bs} {sep : Bs} (hp : E.prim.get f = some joinP) (hv : IsSl 1 v (xs.map fun x => [S x]) L P) (hl : (Lib.join xs sep).length ≤ 1099511627776) (hn : xs.length ≤ 1099511627776) : Sp E f [v, S sep] L P (fun r L' P' => r = S (Lib.join xs sep) ∧ L' = L ∧ P' = P) := by
 refine Sp.prim hp (fun S0 s hs => ⟨S (Lib.join xs sep), s, S0, L, P, ?_, .refl _ _, hs, rfl, rfl, rfl⟩)
 have hU := hv.holds hs
 by_cases hx : xs = []
 ·subst hx
  obtain ⟨a, c, rfl, _⟩ := hU
  rfl
 ·obtain ⟨b, o, h1, h2⟩ := rdN_all hU (by simpa using hx)
  rw [h1]
  rw [List.length_map, Nat.mul_one, flat_one] at h2
  rw [List.length_map]
  have h0 : Nat.beq xs.length 0 = false := by
   cases hb : Nat.beq xs.length 0 with
   | false => rfl
   | true => exact absurd (List.length_eq_zero_iff.1 (Nat.eq_of_beq_eq_true hb)) hx
  show (bif Nat.beq xs.length 0 then _ else (match rdN s b o xs.length with
   | none => none
   | some l => match strsK l with
    | none => none
    | some xs => bif Nat.ble (joinK (⟨⟨sep⟩⟩ : ByteArray).data.toList xs).length small && Nat.ble _ small then some (Value.string ⟨(joinK (⟨⟨sep⟩⟩ : ByteArray).data.toList xs).toArray⟩, s) else none)) = _
  rw [h0, h2]
  simp only [cond_false]
  rw [strsK_S]
  simp only
  have e : joinK (⟨⟨sep⟩⟩ : ByteArray).data.toList (xs.map fun x => ⟨x.toArray⟩) = Lib.join xs sep := by
   rw [joinK_eq, List.map_map]
   have : (xs.map ((fun x : ByteArray => x.data.toList) ∘ fun x => ⟨x.toArray⟩)) = xs := by
    conv => rhs; rw [← List.map_id xs]
    rfl
   rw [this]
  rw [e]
  have b1 : Nat.ble (Lib.join xs sep).length small = true := Nat.ble_eq_true_of_le hl
  have b2 : Nat.ble xs.length small = true := Nat.ble_eq_true_of_le hn
  rw [b1, b2]
  rfl
end Go.Lx
/- Where a byte stands in a text: what the machine knows of it. -/
namespace Go.Ax
open Go
noncomputable section
def idxK (k : Nat) : List UInt8 → Nat → Int
 | [], _ => .negSucc 0
 | c :: l, i => bif Nat.beq c.toNat k then .ofNat i else idxK k l (i + 1)
theorem idx_ge (c : UInt8) : ∀ l : List UInt8, -1 ≤ Lib.indexByte l c
 | [] => Int.le_refl _
 | b :: l => by
  have := idx_ge c l
  unfold Lib.indexByte
  split
  ·decide
  ·split
   ·decide
   ·omega
theorem idxK_eq (k : Nat) (hk : k < 256) : ∀ (l : List UInt8) (i : Nat), idxK k l i = if Lib.indexByte l k.toUInt8 = -1 then -1 else Lib.indexByte l k.toUInt8 + i := by
 intro l
 induction l with
 | nil => intro i; rfl
 | cons c l ih =>
  intro i
  have hkk : (k.toUInt8).toNat = k := by simp; omega
  show (bif Nat.beq c.toNat k then Int.ofNat i else idxK k l (i + 1)) = _
  unfold Lib.indexByte
  cases h : Nat.beq c.toNat k with
  | true =>
   have : c = k.toUInt8 := UInt8.toNat_inj.1 (by rw [hkk]; exact Nat.eq_of_beq_eq_true h)
   subst this
   simp
  | false =>
   have hne : ¬ c = k.toUInt8 := fun e => by
    subst e
    rw [hkk, Nat.beq_refl] at h
    cases h
   simp only [cond_false]
   rw [ih (i + 1)]
   have hge := idx_ge k.toUInt8 l
   have hb : (c == k.toUInt8) = false := by simpa using hne
   rw [hb]
   by_cases h1 : Lib.indexByte l k.toUInt8 = -1
   ·rw [if_pos h1]
    simp [h1]
   ·rw [if_neg h1]
    have h2 : (Lib.indexByte l k.toUInt8 == -1) = false := by simpa using h1
    rw [h2]
    simp only [Bool.false_eq_true, if_false]
    rw [if_neg (by omega)]
    omega
def idxP : List Value → AS → Option (Value × AS)
 | [.string b, .int .u8 (.ofNat k)], s => bif Nat.blt k 256 then some (.int .i64 (idxK k b.data.toList 0), s) else none
 | _, _ => none
theorem idx_ok {P : Program} {f : FuncId} {fn : Func} (hf : P.funcs[f]? = some fn) (hname : (fn.name == "runtime.NumGoroutine") = false) (hb : fn.body.isNone = true) (hn : Extern.findNext fn = none) (he : Extern.find fn = some Extern.BytealgIndexByte.indexByte) : POk P f idxP := by
 intro args s v s' h i w args' hR hg ha
 unfold idxP at h
 split at h
 ·rename_i b k
  cases hk : Nat.blt k 256 with
  | false => rw [hk] at h; cases h
  | true =>
   rw [hk, cond_true] at h
   cases h
   cases ha with
   | cons h1 h2 =>
   cases h2 with
   | cons h2 h3 =>
   cases h3
   cases h1
   cases h2
   have hk' : k < 256 := by rw [Nat.blt_eq] at hk; exact hk
   refine FSim.ext hf hname hb hn he ⟨_, w, i, Lib.run_indexByteString b (.ofNat k) w, ?_, hR, .refl _ _ _⟩
   rw [idxK_eq k hk']
   have e : (if Lib.indexByte b.data.toList k.toUInt8 = -1 then -1 else Lib.indexByte b.data.toList k.toUInt8 + ((0 : Nat) : Int)) = Lib.indexByte b.data.toList k.toUInt8 := by
    split
    ·rename_i h; exact h.symm
    ·omega
   rw [e]
   exact .int _ _
 ·cases h
end
end Go.Ax
