/- slices.Backward over waiting writes: the iterator's contract. -/
import Derived.Test.YtcgpmbjoobilcaaGreatDoorProg
import Derived.WalkKit
import Derived.RangeFuncNested
import Derived.RangeFuncLeaves
import Derived.TacticsIn
import Derived.BigFrameIn
import Derived.LoopIn
import Derived.RegionIn
import Derived.OwnWalkIn
import Derived.Below
import Derived.RangeFuncKeeps
import Derived.Lib.Walk
import Derived.Test.YtcgpmbjoobilcaaGreatDoorSgC
import Derived.Shelf.Abstract
import Derived.Deep.OwnRows
import Derived.Test.YtcgpmbjoobilcaaGreatDoorAxF
set_option linter.unusedSimpArgs false
set_option linter.unusedVariables false
namespace Go.Proofs
open Go Go.RowKit Go.Lib
abbrev wEnc (ws : Nat → Value × Value) {len : Nat} (x : Fin len) : Array Value := #[.int .i64 (x.val : Nat), .agg #[(ws x.val).1, (ws x.val).2]]
def wPre (len : Nat) (t : Nat) : List (Fin len) := (List.range t).filterMap fun r => if h : r < len then some ⟨len - 1 - r, by omega⟩ else none
theorem wPre_succ (len t : Nat) (h : t < len) : wPre len (t + 1) = wPre len t ++ [⟨len - 1 - t, by omega⟩] := by
 unfold wPre
 rw [List.range_succ, List.filterMap_append]
 simp [h]
theorem wPre_len (len : Nat) : ∀ (t : Nat), t ≤ len → (wPre len t).length = t
 | 0, _ => rfl
 | t + 1, h => by rw [wPre_succ len t h, List.length_append, wPre_len len t (by omega)]; rfl
theorem mem_wPre (len : Nat) : ∀ (t : Nat), t ≤ len → ∀ (x : Fin len), len - t ≤ x.val → x ∈ wPre len t
 | 0, _, x, h => by have := x.isLt; omega
 | t + 1, ht, x, h => by
  rw [wPre_succ len t ht]
  by_cases he : x.val = len - 1 - t
  ·exact List.mem_append.2 (.inr (by simp; exact Fin.ext he))
  ·exact List.mem_append.2 (.inl (mem_wPre len t (by omega) x (by omega)))
set_option maxHeartbeats 2000000 in
set_option maxRecDepth 100000 in
theorem back_stops (n : Nat) (hn : 1 ≤ n) (bx g off len c : Nat) (ws : Nat → Value × Value) (w : World) (hbl : bx < w.heap.size) (hgl : g < w.heap.size) (hlen : len ≤ 1000000)
  (hbx : w.cell? ⟨bx, 0, none⟩ = some (.slice (some ⟨g, off, none⟩) len c))
  (hc : ∀ j, j < len → w.cell? ⟨g, off + 2 * j, none⟩ = some (ws j).1 ∧ w.cell? ⟨g, off + 2 * j + 1, none⟩ = some (ws j).2) :
  SeqStopsK Fence.wide n Tryz.prog 212 #[.pointer (some ⟨bx, 0, none⟩)] (wEnc ws (len := len)) (Below w.heap.size) (fun xs => xs = wPre len len) (fun pre => ∃ t, t < len ∧ pre = wPre len (t + 1)) len w := by
 intro l J Jx W hW hJ hJx hY h0
 refine callsIn_of_wp Tryz.func212 rfl trivial ?_ rfl
 simp only [Tryz.ntmps212, List.size_toArray, List.length_cons, List.length_nil, Nat.reduceAdd, Nat.reduceSub, Array.replicate_succ, Array.replicate_zero, List.push_toArray, List.append_toArray, List.nil_append, List.cons_append]
 have hbxW : W.cell? ⟨bx, 0, none⟩ = some (.slice (some ⟨g, off, none⟩) len c) := (hW.cell (p := ⟨bx, 0, none⟩) hbl).trans hbx
 gi_wp2
 gi_loopw [3] (fun i wr => ∃ t, t ≤ len ∧ i = .int .i64 ((len : Int) - 1 - t) ∧ J (wPre len t) wr ∧ Below w.heap.size w wr) (fun i _ => match i with | .int _ k => (k + 1).toNat | _ => 0)
 case atStart =>
  exact ⟨0, Nat.zero_le _, by simp, h0, hW⟩
 case round =>
  obtain ⟨t, ht, rfl, hJt, hbt⟩ := hrel
  rcases Nat.lt_or_ge t len with hlt | hge
  ·obtain ⟨j, hjt⟩ : ∃ j, j + t + 1 = len := ⟨len - 1 - t, by omega⟩
   have hjl : j < len := by omega
   have hk : ((len : Int) - 1 - t) = (j : Int) := by omega
   have hej : len - 1 - t = j := by omega
   rw [hk]
   have hbxr : wr.cell? ⟨bx, 0, none⟩ = some (.slice (some ⟨g, off, none⟩) len c) := (hbt.cell (p := ⟨bx, 0, none⟩) hbl).trans hbx
   have hc1 : wr.cell? ⟨g, off + j * 2, none⟩ = some (ws j).1 := by rw [Nat.mul_comm j 2]; exact (hbt.cell (p := ⟨g, off + 2 * j, none⟩) hgl).trans (hc j hjl).1
   have hc2 : wr.cell? ⟨g, off + j * 2 + 1, none⟩ = some (ws j).2 := by rw [Nat.mul_comm j 2]; exact (hbt.cell (p := ⟨g, off + 2 * j + 1, none⟩) hgl).trans (hc j hjl).2
   obtain ⟨fn, tmps, assign, body, hy, hR⟩ := hY (wPre len t) ⟨j, hjl⟩ wr hJt (by rw [wPre_len len t ht]; exact hlt)
   dsimp only [wEnc] at hy
   have hsc := wPre_succ len t hlt
   rw [show (⟨len - 1 - t, by omega⟩ : Fin len) = ⟨j, hjl⟩ from Fin.ext hej] at hsc
   rw [← hsc] at hR
   clear hY hk hej hsc hJt
   gi_wp2
   refine hR.mono ?_
   rintro e W3 (⟨rfl, hJ3, hk3⟩ | ⟨rfl, hJx3⟩)
   ·gi_wp2
    go_roundw
    case rel => exact ⟨t + 1, hlt, by congr 1; omega, hJ3, hbt.trans hk3⟩
    case measure => simp only [Int.sub_add_cancel]; omega
   ·gi_wp2
    refine bodyPost_ret (results_none rfl _ _ _) rfl ?_
    exact ⟨⟨_, rfl⟩, .inr ⟨_, ⟨t, hlt, rfl⟩, hJx3⟩⟩
  ·obtain rfl : t = len := by omega
   gi_wp2
   go_end0
   exact ⟨⟨_, rfl⟩, .inl ⟨_, rfl, hJt⟩⟩
end Go.Proofs
/- flash.Read where writes wait: what it answers. -/
namespace Go.Proofs
open Go Go.RowKit Go.Lib
theorem is_any (F : Fence) (n : Nat) (hF : F.fn 128) (hro : F.round = none) (ad : Addr) (a : Option Addr) (m c : Nat) (k : Int) (w : World) (hd : w.cell? ad = some (.slice a m c)) (h0 : 0 ≤ k) (h1 : k < m) :
  CallsIn F n Tryz.prog 128 #[.pointer (some ad), .int .i64 k] w fun e w' => e = .returned (.bool true) ∧ w' = w := by
 refine callsIn_of_wp Tryz.func128 rfl hF ?_ hro
 simp only [Tryz.ntmps128, List.size_toArray, List.length_cons, List.length_nil, Nat.reduceAdd, Nat.reduceSub, Array.replicate_succ, Array.replicate_zero, List.push_toArray, List.append_toArray, List.nil_append, List.cons_append]
 gi_wp2
 go_ret
 exact ⟨rfl, rfl⟩
theorem backward_any (F : Fence) (n : Nat) (hF : F.fn 129) (hro : F.round = none) (a : Option Addr) (m c : Nat) (w : World) :
  CallsIn F n Tryz.prog 129 #[.slice a m c] w fun e w' => e = .returned (.func (.func 212) #[] #[.pointer (some ⟨w.heap.size, 0, none⟩)]) ∧ w' = w.alloc (.cells #[.slice a m c] 103) := by
 refine callsIn_of_wp Tryz.func129 rfl hF ?_ hro
 simp only [Tryz.ntmps129, List.size_toArray, List.length_cons, List.length_nil, Nat.reduceAdd, Nat.reduceSub, Array.replicate_succ, Array.replicate_zero, List.push_toArray, List.append_toArray, List.nil_append, List.cons_append]
 gi_wp2
 go_ret
 exact ⟨rfl, rfl⟩
theorem ownsRow_slice {w : World} {base : Nat} {e : TypeId} {size : Nat} {v : Value} {n : Nat} {xs : List Value} (h : w.ownsRow base e size v n xs) (h' : v ≠ .slice none 0 0) : ∃ g cap, base ≤ g ∧ v = .slice (some ⟨g, 0, none⟩) n cap := by
 obtain ⟨_, h⟩ := h
 rcases h with ⟨h, _⟩ | ⟨g, cap, cur, h1, h2, _⟩
 ·exact absurd h h'
 ·exact ⟨g, cap, h2, h1⟩
theorem ownsRow_set {w : World} {base base' : Nat} {e : TypeId} {size g n cap B : Nat} {v : Value} {xs : List Value} (h : w.ownsRow base e size (.slice (some ⟨g, 0, none⟩) n cap) n xs) (hb : base' ≤ base) (hB : B < g) :
  (w.setCell ⟨B, 0, none⟩ v).ownsRow base' e size (.slice (some ⟨g, 0, none⟩) n cap) n xs := by
 have h1 := h.kept (grownBy_setCell' w B v) (.inr (fun e => by
  have h2 : g = B := by simpa [Value.ownBlock] using e
  omega))
 refine ⟨h1.1, ?_⟩
 rcases h1.2 with ⟨e, _⟩ | ⟨g', cap', cur, e, r, rest⟩
 ·cases e
 ·exact .inr ⟨g', cap', cur, e, Nat.le_trans hb r, rest⟩
structure RdI {len : Nat} (ats : Nat → Int) (k : Int) (w : World) (m : Nat) (pre : List (Fin len)) (W : World) : Prop where
 sz : m ≤ W.heap.size
 no : ∀ x ∈ pre, ats x.val ≠ k
 b0 : Boxed W w.heap.size 3 (.int .i64 k)
 b1 : Boxed W (w.heap.size + 1) 91 (.slice none 0 0)
 b2 : Boxed W (w.heap.size + 1 + 1) 22 (.int .i64 0)
 low : Below w.heap.size w W
def RdX {len : Nat} (ats : Nat → Int) (zs : Nat → List Value) (k : Int) (w : World) (c : Code) (xs : List (Fin len)) (W : World) : Prop :=
 ∃ pre x v', c = .ret ∧ xs = pre ++ [x] ∧ (∀ y ∈ pre, ats y.val ≠ k) ∧ ats x.val = k ∧ Boxed W (w.heap.size + 1) 91 v' ∧ Boxed W (w.heap.size + 1 + 1) 22 (.int .i64 0) ∧ Below w.heap.size w W ∧
  W.ownsRow w.heap.size 5 1 v' (zs x.val).length (zs x.val) ∧ v' ≠ .slice none 0 0
theorem RdI.own {len : Nat} (ats : Nat → Int) (k : Int) (w : World) (m : Nat) (B : Nat) (hB : w.heap.size ≤ B) : OwnFrom B (RdI (len := len) ats k w m) := fun s W W' row hs hg hr => by
 have hne : ∀ b t v, Boxed W b t v → some b ≠ row := fun b t v hb e => by
  obtain ⟨_, o, ho, hc⟩ := hr b e.symm
  rw [show W.heap[b]? = _ from hb] at ho
  cases ho; cases hc
 exact ⟨Nat.le_trans hs.sz hg.size, hs.no, hs.b0.kept hg (hne _ _ _ hs.b0), hs.b1.kept hg (hne _ _ _ hs.b1), hs.b2.kept hg (hne _ _ _ hs.b2), hs.low.grown hg hs.low.size (fun r e => by have := (hr r e).1; omega)⟩
theorem RdX.own {len : Nat} (ats : Nat → Int) (zs : Nat → List Value) (k : Int) (w : World) (c : Code) (B : Nat) (hB : w.heap.size ≤ B) : OwnFrom B (RdX (len := len) ats zs k w c) := fun s W W' row hs hg hr => by
 obtain ⟨pre, x, v', h1, h2, h3, h4, h5, h6, h7, h8, h9⟩ := hs
 have hne : ∀ b t v, Boxed W b t v → some b ≠ row := fun b t v hb e => by
  obtain ⟨_, o, ho, hc⟩ := hr b e.symm
  rw [show W.heap[b]? = _ from hb] at ho
  cases ho; cases hc
 refine ⟨pre, x, v', h1, h2, h3, h4, h5.kept hg (hne _ _ _ h5), h6.kept hg (hne _ _ _ h6), h7.grown hg h7.size (fun r e => by have := (hr r e).1; omega), ?_, h9⟩
 obtain ⟨g1, g2⟩ := h8
 refine ⟨g1, ?_⟩
 rcases g2 with g2 | ⟨g, cap, cur, q1, q2, q3, q4⟩
 ·exact .inl g2
 ·refine .inr ⟨g, cap, cur, q1, q2, ?_, q4⟩
  rw [grownBy_keeps_cells hg (fun r e => (hr r e).2) q3 rfl]
  exact q3
def Zer (W : World) (q : Nat) : Prop := ∃ cur, W.heap[q]? = some (.cells cur 5 (0, 0)) ∧ cur.size = 256 ∧ ∀ j, j < 256 → cur[j]? = some (.int .u8 0)
def RdOut (ats : Nat → Int) (zs : Nat → List Value) (k : Nat) (sba : Option Addr) (torn : Bool) (sz : List Value) (len : Nat) (w : World) (e : Ending) (w' : World) : Prop :=
  Below w.heap.size w w' ∧ ∃ v' er, e = .returned (.tuple #[v', .int .i64 er]) ∧
      ((∃ x : Fin len, ats x.val = k ∧ (∀ y : Fin len, x.val < y.val → ats y.val ≠ k) ∧ er = 0 ∧ v' ≠ .slice none 0 0 ∧ w'.ownsRow w.heap.size 5 1 v' (zs x.val).length (zs x.val)) ∨
       ((∀ x : Fin len, ats x.val ≠ k) ∧ ((torn = true ∧ v' = .slice none 0 0 ∧ er = 3) ∨
         (torn = false ∧ er = 0 ∧ ((sba = none ∧ ∃ q, w.heap.size ≤ q ∧ v' = .slice (some ⟨q, 0, none⟩) 256 256 ∧ Zer w' q) ∨
           (sba ≠ none ∧ v' ≠ .slice none 0 0 ∧ w'.ownsRow w.heap.size 5 1 v' sz.length sz))))))
set_option maxHeartbeats 8000000 in
set_option maxRecDepth 100000 in
theorem read_any (qd pd : Nat) (sa so n cs : Nat) (g off len c : Nat) (ats : Nat → Int) (ba : Nat → Option Addr) (bn bc : Nat → Nat) (zs : Nat → List Value) (k : Nat) (sba : Option Addr) (sbn sbc : Nat) (torn : Bool) (sz : List Value) (w : World)
  (h1 : k < n) (hlen : len ≤ 1000000) (hgl : g < w.heap.size)
  (d0 : w.cell? ⟨qd, pd, none⟩ = some (.slice (some ⟨sa, so, none⟩) n cs)) (d1 : w.cell? ⟨qd, pd + 1, none⟩ = some (.slice (some ⟨g, off, none⟩) len c)) (d2 : w.cell? ⟨qd, pd + 2, none⟩ = some (.bool false))
  (hc : ∀ j, j < len → w.cell? ⟨g, off + 2 * j, none⟩ = some (.int .i64 (ats j)) ∧ w.cell? ⟨g, off + 2 * j + 1, none⟩ = some (.slice (ba j) (bn j) (bc j)))
  (hb : ∀ j, j < len → ats j = k → ∃ b bo, ba j = some ⟨b, bo, none⟩ ∧ bn j = (zs j).length ∧ b < w.heap.size ∧ (zs j).length ≤ 1000000 ∧ (∀ u ∈ zs j, u.oneCell' = true) ∧ ∀ i (h : i < (zs j).length), w.cell? ⟨b, bo + i, none⟩ = some (zs j)[i])
  (t0 : w.cell? ⟨sa, so + k * 2, none⟩ = some (.slice sba sbn sbc)) (t1 : w.cell? ⟨sa, so + k * 2 + 1, none⟩ = some (.bool torn))
  (hs : (∀ x : Fin len, ats x.val ≠ k) → torn = false → (sba = none ∧ sbn = 0 ∧ sbc = 0) ∨ ∃ b bo, sba = some ⟨b, bo, none⟩ ∧ sbn = sz.length ∧ b < w.heap.size ∧ sz.length ≤ 1000000 ∧ (∀ u ∈ sz, u.oneCell' = true) ∧ ∀ i (h : i < sz.length), w.cell? ⟨b, bo + i, none⟩ = some sz[i]) (hsal : sa < w.heap.size) :
  Calls Tryz.prog 72 #[.pointer (some ⟨qd, pd, none⟩), .int .i64 k] w (RdOut ats zs k sba torn sz len w) := by
 refine (callsIn_wide (n := 5)).1 (callsIn_of_wp_marks Tryz.func72 rfl trivial ?_ rfl)
 simp only [Tryz.ntmps72, List.size_toArray, List.length_cons, List.length_nil, Nat.reduceAdd, Nat.reduceSub, Array.replicate_succ, Array.replicate_zero, List.push_toArray, List.append_toArray, List.nil_append, List.cons_append]
 have hA : Aside (∀ j, j < len → w.cell? ⟨g, off + 2 * j, none⟩ = some (.int .i64 (ats j)) ∧ w.cell? ⟨g, off + 2 * j + 1, none⟩ = some (.slice (ba j) (bn j) (bc j))) := hc
 have hB : Aside (∀ j, j < len → ats j = k → ∃ b bo, ba j = some ⟨b, bo, none⟩ ∧ bn j = (zs j).length ∧ b < w.heap.size ∧ (zs j).length ≤ 1000000 ∧ (∀ u ∈ zs j, u.oneCell' = true) ∧ ∀ i (h : i < (zs j).length), w.cell? ⟨b, bo + i, none⟩ = some (zs j)[i]) := hb
 clear hc hb
 have lift : ∀ {ad : Addr} {v : Value}, w.cell? ad = some v → (((w.alloc (.cells #[.int .i64 k] 3)).alloc (.cells #[.slice none 0 0] 91)).alloc (.cells #[.int .i64 0] 22)).cell? ad = some v :=
  fun h => cell?_alloc_some _ (cell?_alloc_some _ (cell?_alloc_some _ h))
 have e1 := lift d1
 have e2 := lift d2
 gi_wp2_with (first
  | (refine ⟨trivial, ?_⟩; gi_at_call 128; refine (is_any Fence.wide _ trivial rfl ⟨qd, pd, none⟩ _ n cs k _ (cell?_alloc_some _ (cell?_alloc_some _ (cell?_alloc_some _ d0))) (Int.natCast_nonneg _) (by omega)).mono ?_; rintro e w' ⟨rfl, rfl⟩)
  | (refine ⟨trivial, ?_⟩; gi_at_call 129; refine (backward_any Fence.wide _ trivial rfl _ _ _ _).mono ?_; rintro e w' ⟨rfl, rfl⟩))
 obtain ⟨W0, hW0⟩ : ∃ W0, ((((w.alloc (.cells #[.int .i64 k] 3)).alloc (.cells #[.slice none 0 0] 91)).alloc (.cells #[.int .i64 0] 22)).alloc (.cells #[.slice (some ⟨g, off, none⟩) len c] 103)) = W0 := ⟨_, rfl⟩
 have hs0 : W0.heap.size = w.heap.size + 4 := by rw [← hW0]; simp
 have hX0 : Boxed W0 w.heap.size 3 (.int .i64 k) := by rw [← hW0]; exact (((Boxed.new w _ _).alloc _).alloc _).alloc _
 have hX1 : Boxed W0 (w.heap.size + 1) 91 (.slice none 0 0) := by
  rw [← hW0]; have := ((Boxed.new (w.alloc (.cells #[.int .i64 k] 3)) 91 (.slice none 0 0)).alloc (.cells #[.int .i64 0] 22)).alloc (.cells #[.slice (some ⟨g, off, none⟩) len c] 103)
  rwa [World.size_alloc] at this
 have hX2 : Boxed W0 (w.heap.size + 1 + 1) 22 (.int .i64 0) := by
  rw [← hW0]; have := (Boxed.new ((w.alloc (.cells #[.int .i64 k] 3)).alloc (.cells #[.slice none 0 0] 91)) 22 (.int .i64 0)).alloc (.cells #[.slice (some ⟨g, off, none⟩) len c] 103)
  rwa [World.size_alloc, World.size_alloc] at this
 have hX3 : Boxed W0 (w.heap.size + 1 + 1 + 1) 103 (.slice (some ⟨g, off, none⟩) len c) := by
  rw [← hW0]; have := Boxed.new (((w.alloc (.cells #[.int .i64 k] 3)).alloc (.cells #[.slice none 0 0] 91)).alloc (.cells #[.int .i64 0] 22)) 103 (.slice (some ⟨g, off, none⟩) len c)
  rwa [World.size_alloc, World.size_alloc, World.size_alloc] at this
 have hlow : Below w.heap.size w W0 := by
  rw [← hW0]
  exact ((((Below.refl _ w).alloc (Nat.le_refl _) _).alloc (by simp) _).alloc (by simp; omega) _).alloc (by simp; omega) _
 have hlift0 : ∀ {ad : Addr} {v : Value}, w.cell? ad = some v → W0.cell? ad = some v := fun h => by rw [← hW0]; exact cell?_alloc_some _ (lift h)
 rw [hW0]
 clear e1 e2 lift
 refine wpIn_rangeFunc_ownH rfl (by omega) (gf := 212) (lb := #[.pointer (some ⟨w.heap.size + 1 + 1 + 1, 0, none⟩)]) rfl trivial (enters_of Tryz.func212 (by kernel_rfl) rfl)
  (back_stops 4 (by omega) (w.heap.size + 1 + 1 + 1) g off len c (fun j => (.int .i64 (ats j), .slice (ba j) (bn j) (bc j))) W0 (by omega) (by omega) hlen hX3.cell (fun j hj => ⟨hlift0 (hA.out j hj).1, hlift0 (hA.out j hj).2⟩))
  belowK_t (belowK_b (Nat.le_refl _)) (Below.refl _ _) (fun _ => rfl)
  (RdI ats k w W0.heap.size) (RdX ats zs k w) (RdI.own ats k w _ _ (by omega)) (fun c => RdX.own ats zs k w c _ (by omega)) ⟨Nat.le_refl _, by simp, hX0, hX1, hX2, hlow⟩
  (fun x a' W => ∃ B, w.heap.size + 4 ≤ B ∧ W.heap[B]? = some (.cells #[.int .i64 (ats x.val), .slice (ba x.val) (bn x.val) (bc x.val)] 213 (0, 0)) ∧ a' = { tmps := #[.pointer (some ⟨qd, pd, none⟩), .int .i64 k, undef, .pointer (some ⟨w.heap.size, 0, none⟩), .pointer (some ⟨w.heap.size + 1, 0, none⟩), .pointer (some ⟨w.heap.size + 1 + 1, 0, none⟩), undef, .pointer (some ⟨B, 0, none⟩), undef, .bool false, .pointer (some ⟨qd, pd, none⟩), .int .i64 k, .bool true, .bool false, .bool false, .pointer (some ⟨qd, pd, none⟩), .pointer (some ⟨qd, pd, none⟩), .pointer (some ⟨qd, pd + 2, none⟩), .bool false, .pointer (some ⟨qd, pd, none⟩), .pointer (some ⟨qd, pd, none⟩), .pointer (some ⟨qd, pd + 1, none⟩), .slice (some ⟨g, off, none⟩) len c, .func (.func 212) #[] #[.pointer (some ⟨w.heap.size + 1 + 1 + 1, 0, none⟩)], .int .i64 (x.val : Nat), .agg #[.int .i64 (ats x.val), .slice (ba x.val) (bn x.val) (bc x.val)], undef, undef, undef, undef, undef, undef, undef, undef, undef, undef, undef, undef, undef, undef, undef, undef, undef, undef, undef, undef, undef, undef, undef, undef, undef], defers := [] }) ?_ ?_ ?_ ?_ ?_
 ·intro x a' s W W' row hs hg hr
  obtain ⟨B, h1, h2, h3⟩ := hs
  exact ⟨B, h1, (grownBy_keeps_cells hg (fun r e => (hr r e).2) h2 rfl).trans h2, h3⟩
 ·intro l pre x W K hI hK
  gi_wp2_with (rw [Oper.semAt_eq _ _ _ (fun c h => by cases h)]; go_simp; try go_bits)
  exact hK _ _ ((KeepsOthers.alloc W _).from _) ((Below.refl _ W).alloc hI.sz _) ((RdI.own ats k w W0.heap.size W0.heap.size (by omega)).alloc _ hI) ⟨W.heap.size, by have := hI.sz; omega, World.alloc_heap_new W _, rfl⟩
 ·rintro l pre x a' W hl hrec hI ⟨B, hB1, hB2, rfl⟩ hlt
  have hA1 : W.cell? ⟨B, 0, none⟩ = some (.int .i64 (ats x.val)) := by simp [World.cell?, hB2]
  have hA2 : W.cell? ⟨B, 1, none⟩ = some (.slice (ba x.val) (bn x.val) (bc x.val)) := by simp [World.cell?, hB2]
  have hA3 := hI.b0.cell
  by_cases hm : ats x.val = k
  ·obtain ⟨b, bo, q1, q2, q3, q4, q5, q6⟩ := hB.out x.val x.isLt hm
   rw [q1, q2] at hA2
   gi_wp2_with (first
    | (refine ⟨trivial, ?_⟩; gi_at_call 130; refine CallsIn.inRound l ((callsIn_wide.2 (clone_any b bo (zs x.val).length (bc x.val) (zs x.val) W rfl q5 q4 (fun j hj => (hI.low.cell (p := ⟨b, bo + j, none⟩) q3).trans (q6 j hj)))).mono ?_); rintro e w1 ⟨v', rfl, k1, k2, k3⟩; obtain ⟨gg, cap, hgg, rfl⟩ := ownsRow_slice k1 k2; have Y1 : Boxed w1 (w.heap.size + 1) 91 (.slice none 0 0) := (k3.block _ hI.b1.lt).trans hI.b1; have Y2 : Boxed w1 (w.heap.size + 1 + 1) 22 (.int .i64 0) := (k3.block _ hI.b2.lt).trans hI.b2; have Z1 := Y1.cell; have Z2 := Y1.frozen; have Z3 := Y2.cell; have Z4 := Y2.frozen)
    | (rw [Oper.semAt_eq _ _ _ (fun c h => by cases h)]; go_simp; try go_bits))
   have hn1 : w.heap.size + 1 ≠ w.heap.size + 1 + 1 := by omega
   have hsz := hI.sz
   have KO : KeepsFrom W0.heap.size W w1 := ⟨k3.size, fun j o _ hj _ => (k3.block j (Array.getElem?_eq_some_iff.1 hj).1).trans hj⟩
   refine ⟨(KO.trans ((KeepsOthers.setCell _ _ _).from _)).trans ((KeepsOthers.setCell _ _ _).from _), pre, x, _, rfl, rfl, hI.no, hm, (Y1.set _).other hn1 _, (Y2.other (Ne.symm hn1) _).set _, ?_, ?_, k2⟩
   ·exact Below.setCell (p := ⟨w.heap.size + 1 + 1, 0, none⟩) (Below.setCell (p := ⟨w.heap.size + 1, 0, none⟩) (hI.low.trans (k3.mono hI.low.size)) (show _ ≤ w.heap.size + 1 by omega) _) (show _ ≤ w.heap.size + 1 + 1 by omega) _
   ·exact ownsRow_set (ownsRow_set k1 hI.low.size (by omega)) (Nat.le_refl _) (by omega)
  ·gi_wp2_with (rw [Oper.semAt_eq _ _ _ (fun c h => by cases h)]; go_simp; try go_bits)
   exact ⟨KeepsFrom.refl _ _, Below.refl _ _, ⟨hI.sz, fun y hy => (List.mem_append.1 hy).elim (hI.no y) (fun e => by rw [List.mem_singleton.1 e]; exact hm), hI.b0, hI.b1, hI.b2, hI.low⟩⟩
 ·intro D xs W hD hS hI hK
  subst hS
  have hnone : ∀ x : Fin len, ats x.val ≠ k := fun x => hI.no x (mem_wPre len len (Nat.le_refl _) x (by omega))
  have lw : ∀ {ad : Addr} {v : Value}, ad.block < w.heap.size → w.cell? ad = some v → W.cell? ad = some v := fun hl h => (hI.low.cell hl).trans h
  have f0 := lw (ad := ⟨sa, so + k * 2, none⟩) hsal t0
  have f1 := lw (ad := ⟨sa, so + k * 2 + 1, none⟩) hsal t1
  have f2 := lw (ad := ⟨qd, pd, none⟩) (block_lt_of_cell d0) d0
  have f3 := hI.b0.cell
  gi_wp2
  refine wpIn_wide.2 ?_
  have la : ∀ {ad : Addr} {v : Value}, W.cell? ad = some v → (W.alloc (.cells #[.slice none 0 0, .bool false] 216)).cell? ad = some v := fun h => cell?_alloc_some _ h
  have g0 := la f0
  have g1 := la f1
  have g2 := la f2
  have g3 := la f3
  go_region
  obtain ⟨W2, hW2⟩ : ∃ W2, (W.alloc (.cells #[.slice sba sbn sbc, .bool torn] 216)).drew = W2 := ⟨_, rfl⟩
  have X1 : Boxed W2 (w.heap.size + 1) 91 (.slice none 0 0) := by rw [← hW2]; exact hI.b1.alloc _
  have X2 : Boxed W2 (w.heap.size + 1 + 1) 22 (.int .i64 0) := by rw [← hW2]; exact hI.b2.alloc _
  have X8 : W2.heap[W.heap.size]? = some (.cells #[.slice sba sbn sbc, .bool torn] 216 (0, 0)) := by rw [← hW2]; exact World.alloc_heap_new W _
  have L2 : Below w.heap.size w W2 := by rw [← hW2]; exact (hI.low.alloc hI.low.size _).drew
  have K2 : W2.heap[D]? = some (.deferred (some [])) := by rw [← hW2]; exact (Below.heap_alloc W _ D (Array.getElem?_eq_some_iff.1 hK).1).trans hK
  rw [hW2]
  have c0 : W2.cell? ⟨W.heap.size, 0, none⟩ = some (.slice sba sbn sbc) := by simp [World.cell?, X8]
  have c1 : W2.cell? ⟨W.heap.size, 1, none⟩ = some (.bool torn) := by simp [World.cell?, X8]
  have Z1 := X1.cell; have Z2 := X1.frozen; have Z3 := X2.cell; have Z4 := X2.frozen
  have q42 : ∀ (w : World) (a : Option Addr) (n c n' c' : Nat), (binOp .eql 91 (.slice a n c) (.slice none n' c')).run Tryz.prog w = .ok (.bool a.isNone) w := fun w a n c n' c' => Lib.run_eql_slice_nil w _ _ a n c n' c' Tryz.underlying91
  have hn1 : w.heap.size + 1 ≠ w.heap.size + 1 + 1 := by omega
  cases torn with
  | true =>
   gi_wp2
   have B1 := (X1.set (.slice none 0 0)).other hn1 (.int .i64 3)
   have B2 := (X2.other (Ne.symm hn1) (.slice none 0 0)).set (.int .i64 3)
   have KD : ((W2.setCell ⟨w.heap.size + 1, 0, none⟩ (.slice none 0 0)).setCell ⟨w.heap.size + 1 + 1, 0, none⟩ (.int .i64 3)).heap[D]? = some (.deferred (some [])) := ((KeepsOthers.setCell _ _ _).same D _ ((KeepsOthers.setCell _ _ _).same D _ K2 rfl) rfl)
   have LL : Below w.heap.size w ((W2.setCell ⟨w.heap.size + 1, 0, none⟩ (.slice none 0 0)).setCell ⟨w.heap.size + 1 + 1, 0, none⟩ (.int .i64 3)) := (Below.setCell (p := ⟨w.heap.size + 1 + 1, 0, none⟩) (Below.setCell (p := ⟨w.heap.size + 1, 0, none⟩) (L2) (show _ ≤ w.heap.size + 1 by omega) _) (show _ ≤ w.heap.size + 1 + 1 by omega) _)
   have e4 := cell_kept (B1).cell (grownBy_putObj' _ D (.deferred none)) (fun r e => by cases e; exact ⟨_, KD, rfl⟩)
   have e5 := cell_kept (B2).cell (grownBy_putObj' _ D (.deferred none)) (fun r e => by cases e; exact ⟨_, KD, rfl⟩)
   refine ⟨by simp, .inl ⟨_, _, rfl, run_takeDeferred KD, ?_⟩⟩
   refine ⟨.tuple #[.slice none 0 0, .int .i64 3], ?_, ?_⟩
   ·simp [results, Tryz.f72, go_sem, e4, e5]
   ·exact ⟨(LL).grown (grownBy_putObj' _ D _) (LL).size (fun r e => by cases e; omega), _, _, rfl, .inr ⟨hnone, .inl ⟨rfl, rfl, rfl⟩⟩⟩
  | false =>
   rcases hs hnone rfl with ⟨rfl, rfl, rfl⟩ | ⟨b, bo, rfl, rfl, p1, p2, p3, p4⟩
   ·obtain ⟨ZR, hZR⟩ : ∃ ZR, ZR = madeCells #[Value.int .u8 0] 256 := ⟨_, rfl⟩
    have hmk : ∀ V, (Instr.makeSlice 91 (.int .i64 256) (.int .i64 256)).run Tryz.prog V = .ok (.slice (some ⟨V.heap.size, 0, none⟩) 256 256) (V.alloc (.cells ZR 5)) := fun V => by
     rw [hZR]
     exact run_make_row' 91 5 (.int .u8 0) 1 Tryz.underlying91 Tryz.info5z rfl .i64 .i64 256 (by omega) (by omega) V
    have hzr : ZR.size = 256 ∧ ∀ j, j < 256 → ZR[j]? = some (.int .u8 0) := by
     rw [hZR]
     refine ⟨size_madeCells _ _, fun j hj => ?_⟩
     rw [← Array.getElem?_toList, toList_madeCells_one, List.getElem?_replicate, if_pos hj]
    clear hZR
    have Y1 : Boxed (W2.alloc (.cells ZR 5)) (w.heap.size + 1) 91 (.slice none 0 0) := X1.alloc _
    have Y2 : Boxed (W2.alloc (.cells ZR 5)) (w.heap.size + 1 + 1) 22 (.int .i64 0) := X2.alloc _
    have Z1 := Y1.cell; have Z2 := Y1.frozen; have Z3 := Y2.cell; have Z4 := Y2.frozen
    gi_wp2
    have B1 := (Y1.set (.slice (some ⟨W2.heap.size, 0, none⟩) 256 256)).other hn1 (.int .i64 0)
    have B2 := (Y2.other (Ne.symm hn1) (.slice (some ⟨W2.heap.size, 0, none⟩) 256 256)).set (.int .i64 0)
    have K3 : (W2.alloc (.cells ZR 5)).heap[D]? = some (.deferred (some [])) := (Below.heap_alloc W2 _ D (Array.getElem?_eq_some_iff.1 K2).1).trans K2
    have hsz := hI.low.size
    have hX2l := X2.lt
    have KD : (((W2.alloc (.cells ZR 5)).setCell ⟨w.heap.size + 1, 0, none⟩ (.slice (some ⟨W2.heap.size, 0, none⟩) 256 256)).setCell ⟨w.heap.size + 1 + 1, 0, none⟩ (.int .i64 0)).heap[D]? = some (.deferred (some [])) := ((KeepsOthers.setCell _ _ _).same D _ ((KeepsOthers.setCell _ _ _).same D _ K3 rfl) rfl)
    have LL : Below w.heap.size w (((W2.alloc (.cells ZR 5)).setCell ⟨w.heap.size + 1, 0, none⟩ (.slice (some ⟨W2.heap.size, 0, none⟩) 256 256)).setCell ⟨w.heap.size + 1 + 1, 0, none⟩ (.int .i64 0)) := (Below.setCell (p := ⟨w.heap.size + 1 + 1, 0, none⟩) (Below.setCell (p := ⟨w.heap.size + 1, 0, none⟩) (L2.alloc L2.size _) (show _ ≤ w.heap.size + 1 by omega) _) (show _ ≤ w.heap.size + 1 + 1 by omega) _)
    have hDn : D ≠ W2.heap.size := by have := (Array.getElem?_eq_some_iff.1 K2).1; omega
    have e4 := cell_kept (B1).cell (grownBy_putObj' _ D (.deferred none)) (fun r e => by cases e; exact ⟨_, KD, rfl⟩)
    have e5 := cell_kept (B2).cell (grownBy_putObj' _ D (.deferred none)) (fun r e => by cases e; exact ⟨_, KD, rfl⟩)
    refine ⟨by simp, .inl ⟨_, _, rfl, run_takeDeferred KD, ?_⟩⟩
    refine ⟨.tuple #[.slice (some ⟨W2.heap.size, 0, none⟩) 256 256, .int .i64 0], ?_, ?_⟩
    ·simp [results, Tryz.f72, go_sem, e4, e5]
    ·refine ⟨(LL).grown (grownBy_putObj' _ D _) (LL).size (fun r e => by cases e; omega), _, _, rfl, .inr ⟨hnone, .inr ⟨rfl, rfl, .inl ⟨rfl, W2.heap.size, by omega, rfl, ZR, ?_, hzr⟩⟩⟩⟩
     refine (World.putObj_heap_other (Ne.symm hDn)).trans ?_
     refine (Below.heap_setCell _ ⟨w.heap.size + 1 + 1, 0, none⟩ _ _ (show W2.heap.size ≠ w.heap.size + 1 + 1 by omega)).trans ?_
     refine (Below.heap_setCell _ ⟨w.heap.size + 1, 0, none⟩ _ _ (show W2.heap.size ≠ w.heap.size + 1 by omega)).trans ?_
     exact World.alloc_heap_new W2 _
   ·gi_wp2_with (refine ⟨trivial, ?_⟩; gi_at_call 130; refine ((callsIn_wide.2 (clone_any b bo sz.length sbc sz W2 rfl p3 p2 (fun j hj => (L2.cell (p := ⟨b, bo + j, none⟩) p1).trans (p4 j hj)))).mono ?_); rintro e w1 ⟨v', rfl, k1, k2, k3⟩; obtain ⟨gg, cap, hgg, rfl⟩ := ownsRow_slice k1 k2; have Y1 : Boxed w1 (w.heap.size + 1) 91 (.slice none 0 0) := (k3.block _ X1.lt).trans X1; have Y2 : Boxed w1 (w.heap.size + 1 + 1) 22 (.int .i64 0) := (k3.block _ X2.lt).trans X2; have Z1 := Y1.cell; have Z2 := Y1.frozen; have Z3 := Y2.cell; have Z4 := Y2.frozen)
    have B1 := (Y1.set (.slice (some ⟨gg, 0, none⟩) sz.length cap)).other hn1 (.int .i64 0)
    have B2 := (Y2.other (Ne.symm hn1) (.slice (some ⟨gg, 0, none⟩) sz.length cap)).set (.int .i64 0)
    have K3 : w1.heap[D]? = some (.deferred (some [])) := (k3.block _ (Array.getElem?_eq_some_iff.1 K2).1).trans K2
    have hsz := hI.low.size
    have hX2l := X2.lt
    have hsz2 := hI.sz
    have KD : ((w1.setCell ⟨w.heap.size + 1, 0, none⟩ (.slice (some ⟨gg, 0, none⟩) sz.length cap)).setCell ⟨w.heap.size + 1 + 1, 0, none⟩ (.int .i64 0)).heap[D]? = some (.deferred (some [])) := ((KeepsOthers.setCell _ _ _).same D _ ((KeepsOthers.setCell _ _ _).same D _ K3 rfl) rfl)
    have LL : Below w.heap.size w ((w1.setCell ⟨w.heap.size + 1, 0, none⟩ (.slice (some ⟨gg, 0, none⟩) sz.length cap)).setCell ⟨w.heap.size + 1 + 1, 0, none⟩ (.int .i64 0)) := (Below.setCell (p := ⟨w.heap.size + 1 + 1, 0, none⟩) (Below.setCell (p := ⟨w.heap.size + 1, 0, none⟩) (L2.trans (k3.mono L2.size)) (show _ ≤ w.heap.size + 1 by omega) _) (show _ ≤ w.heap.size + 1 + 1 by omega) _)
    have e4 := cell_kept (B1).cell (grownBy_putObj' _ D (.deferred none)) (fun r e => by cases e; exact ⟨_, KD, rfl⟩)
    have e5 := cell_kept (B2).cell (grownBy_putObj' _ D (.deferred none)) (fun r e => by cases e; exact ⟨_, KD, rfl⟩)
    refine ⟨by simp, .inl ⟨_, _, rfl, run_takeDeferred KD, ?_⟩⟩
    refine ⟨.tuple #[.slice (some ⟨gg, 0, none⟩) sz.length cap, .int .i64 0], ?_, ?_⟩
    ·simp [results, Tryz.f72, go_sem, e4, e5]
    ·exact ⟨(LL).grown (grownBy_putObj' _ D _) (LL).size (fun r e => by cases e; omega), _, _, rfl, .inr ⟨hnone, .inr ⟨rfl, rfl, .inr ⟨by simp, k2, ownsRow_putObj (ownsRow_set (ownsRow_set k1 L2.size (by omega)) (Nat.le_refl _) (by omega)) _ KD rfl⟩⟩⟩⟩
 ·intro D c pre W hD hSp hx hK
  obtain ⟨t, ht, hp⟩ := hSp
  obtain ⟨pre', x, v', rfl, hx2, hx3, hx4, hx5, hx6, hx7, hx8, hx9⟩ := hx
  gi_wp2
  have hd := hx5.cell
  refine ⟨by simp, .inl ⟨_, _, rfl, run_takeDeferred hK, ?_⟩⟩
  have hc4 := cell_kept hx5.cell (grownBy_putObj' _ D (.deferred none)) (fun r e => by cases e; exact ⟨_, hK, rfl⟩)
  have hc5 := cell_kept hx6.cell (grownBy_putObj' _ D (.deferred none)) (fun r e => by cases e; exact ⟨_, hK, rfl⟩)
  refine ⟨.tuple #[v', .int .i64 0], ?_, ?_⟩
  ·simp [results, Tryz.f72, go_sem, hc4, hc5]
  ·refine ⟨hx7.grown (grownBy_putObj' _ D _) hx7.size (fun r e => by cases e; omega), v', 0, rfl, .inl ⟨x, hx4, fun y hy => ?_, rfl, hx9, ownsRow_putObj hx8 _ hK rfl⟩⟩
   rw [wPre_succ len t ht, hx2] at hp
   obtain ⟨e1, e2⟩ := List.append_inj' hp rfl
   subst e1
   refine hx3 y (mem_wPre len t (by omega) y ?_)
   have : x.val = len - 1 - t := by have := List.singleton_inj.1 e2; rw [this]
   omega
end Go.Proofs
/- flash.Read, for the machine. -/
namespace Go.Proofs
open Go Go.RowKit Go.Lib Go.Ax
noncomputable def cpRow (s : AS) (l : List Value) : Value × AS := (.tuple ⟨[.slice (some ⟨s.nx, 0, none⟩) l.length (2 * l.length), .int .i64 (.ofNat 0)]⟩, s.rowz (tz 1 5) l)
noncomputable def errV (n : Nat) : Value := .tuple ⟨[.slice none 0 1, .int .i64 (.ofNat n)]⟩
noncomputable def readP : List Value → AS → Option (Value × AS)
 | [.pointer (some ⟨p, o, none⟩), .int .i64 (.ofNat k)], s => match Go.Ax.rdN s p o 3 with
  | some [.slice (some ⟨sb, so, none⟩) n _, .slice (some ⟨wb, wo, none⟩) m _, .bool false] =>
   bif Nat.blt k n && (Nat.ble m 1000000 && Nat.ble 1 m) then (match Go.Ax.rdN s sb (so + k * 2) 2 with
    | some [.slice x sn _, .bool torn] => match scanS s wb wo k m with
     | none => none
     | some (some l) => some (cpRow s l)
     | some none => bif torn then some (errV 3, s) else (match x with
      | none => bif Nat.beq sn 0 then some (.tuple ⟨[.slice (some ⟨s.nx, 0, none⟩) 256 513, .int .i64 (.ofNat 0)]⟩, s.rowz (tz 1 5) (Go.Ax.rep 256 [.int .u8 (.ofNat 0)])) else none
      | some ⟨b, o, none⟩ => bif Nat.ble sn 1000000 then (match Go.Ax.rdN s b o sn with
       | some l => bif ones l then some (cpRow s l) else none
       | none => none) else none
      | _ => none)
    | _ => none) else none
  | _ => none
 | _, _ => none
theorem cp_sim {i : Io} {s : AS} {w w' : World} (hR : Rel i s w) {l l' : List Value} (hv : VRs i l l') (hb : Below w.heap.size w w') {v' : Value} (ho : w'.ownsRow w.heap.size 5 1 v' l'.length l') (hn : v' ≠ .slice none 0 0) :
  ∃ i', VR i' (cpRow s l).1 (.tuple #[v', .int .i64 0]) ∧ Rel i' (cpRow s l).2 w' ∧ Fr i s w i' (cpRow s l).2 w' := by
 obtain ⟨_, ho⟩ := ho
 rcases ho with ⟨h, _⟩ | ⟨g, cap, cur, rfl, h2, h3, h4, h5, h6, h7⟩
 ·exact absurd h hn
 ·have hle : Le i (ext i s.nx (g, 0) (1, cap)) := ext_le (hR.fresh s.nx (Nat.le_refl _)).1
  have hcs : ∀ k, k < l.length → cur[0 + k]? = l'[k]? := fun k hk => by
   have hk' : k < l'.length := by rw [← hv.length]; exact hk
   rw [Nat.zero_add, ← Array.getElem?_toList]
   have := congrArg (fun x => x[k]?) h7
   simp only [List.getElem?_take, Nat.mul_one, hk', if_true] at this
   exact this
  have h6' : cur.size = cap := by rw [h6, Nat.mul_one]
  obtain ⟨k1, k2⟩ := hR.newAt (lm := (1, cap)) (o := .cells (T.e.fill 0 l) l.length (tz 1 5)) hb h2 h3 (OR.row (hv.mono hle) cur 5 (0, 0) (tz 1 5) (fun _ => by rw [tz_ze (by omega)]) (.inl rfl) 0 (by rw [hv.length]; omega) hcs)
   (fun c n z h => by cases h; exact ⟨(tz_zs (by omega)).symm, fun cs e fr h => by cases h; exact Nat.le_of_eq h6'.symm⟩)
  refine ⟨_, ?_, k1, k2⟩
  refine .tuple (.cons ?_ (.cons (.int _ _) .nil))
  refine hv.length ▸ ?_
  exact .slice (t := 0) (ext_same _ _ _) (by omega) (by omega) (by rw [hv.length]; omega) (.inl rfl) (fun _ _ => by rw [ext_lim]; omega)
structure WaitW (i : Io) (s : AS) (w : World) (wb wo q t k j : Nat) (a : Nat) (x : Option Addr) (n c : Nat) (x' : Option Addr) (n' c' : Nat) (zs : List Value) : Prop where
 at_ : WaitAt s wb wo k j a x n c
 c0 : w.cell? ⟨q, t + wo + 2 * j, none⟩ = some (.int .i64 a)
 c1 : w.cell? ⟨q, t + wo + 2 * j + 1, none⟩ = some (.slice x' n' c')
 ok : a = k → ∃ b o l b' o', x = some ⟨b, o, none⟩ ∧ Go.Ax.rdN s b o n = some l ∧ VRs i l zs ∧ x' = some ⟨b', o', none⟩ ∧ n' = zs.length ∧ b' < w.heap.size ∧ zs.length ≤ 1000000 ∧ (∀ u ∈ zs, u.oneCell' = true) ∧ ∀ m (h : m < zs.length), w.cell? ⟨b', o' + m, none⟩ = some zs[m]
theorem ones_cell {l : List Value} (h : ones l = true) : ∀ u ∈ l, u.oneCell' = true := by
 induction l with
 | nil => intro u hu; cases hu
 | cons v l ih =>
  simp only [ones, Bool.and_eq_true] at h
  intro u hu
  rcases List.mem_cons.1 hu with rfl | hu
  ·cases u <;> first | rfl | cases h.1
  ·exact ih h.2 u hu
theorem sliceRow {i : Io} {s : AS} {w : World} (hR : Rel i s w) {b o n c : Nat} {l : List Value} {v' : Value} (hv : VR i (.slice (some ⟨b, o, none⟩) n c) v') (hr : Go.Ax.rdN s b o n = some l) (ho : ones l = true) (hn : n ≤ 1000000) :
  ∃ b' o' c' zs, v' = .slice (some ⟨b', o', none⟩) zs.length c' ∧ VRs i l zs ∧ b' < w.heap.size ∧ zs.length ≤ 1000000 ∧ (∀ u ∈ zs, u.oneCell' = true) ∧ ∀ m (h : m < zs.length), w.cell? ⟨b', o' + m, none⟩ = some zs[m] := by
 cases hv with
 | @slice _ _ q t _ _ p c' hi x1 x2 x3 x4 x5 =>
  obtain ⟨zs, g1, g2, g3⟩ := hR.cellsN hr hi
  have hq : q < w.heap.size := hR.dom b q t hi (.inl (fun e => by unfold Go.Ax.rdN at hr; rw [e] at hr; cases hr))
  refine ⟨q, p, c', zs, by rw [g2], g1, hq, by omega, ones_cell (by rw [g1.ones]; exact ho), fun m hm => ?_⟩
  rcases x4 with rfl | h0
  ·exact g3 m hm
  ·omega
theorem waitW {i : Io} {s : AS} {w : World} (hR : Rel i s w) {wb wo q t k j a n c : Nat} {x : Option Addr} (hi : i wb = some (q, t)) (h : WaitAt s wb wo k j a x n c) : ∃ x' n' c' zs, WaitW i s w wb wo q t k j a x n c x' n' c' zs := by
 obtain ⟨l', g1, g2, g3⟩ := hR.cellsN h.at_ hi
 cases g1 with | cons v1 g1 =>
 cases g1 with | @cons _ y _ _ v2 g1 =>
 cases g1
 cases v1
 have e0 := g3 0 (by simp)
 have e1 := g3 1 (by simp)
 simp only [List.getElem_cons_zero, List.getElem_cons_succ, Nat.add_zero] at e0 e1
 have hc0 : w.cell? ⟨q, t + wo + 2 * j, none⟩ = some (.int .i64 a) := by rw [Nat.add_assoc t wo]; exact e0
 by_cases hk : a = k
 ·obtain ⟨b, o, l, rfl, hn, hl, ho⟩ := h.ok hk
  obtain ⟨b', o', c', zs, rfl, p1, p2, p3, p4, p5⟩ := sliceRow hR v2 hl ho hn
  exact ⟨some ⟨b', o', none⟩, zs.length, c', zs, h, hc0, by rw [Nat.add_assoc t wo]; exact e1, fun _ => ⟨b, o, l, b', o', rfl, hl, p1, rfl, rfl, p2, p3, p4, p5⟩⟩
 ·have hs : ∃ x' n' c', y = .slice x' n' c' := by cases v2 <;> exact ⟨_, _, _, rfl⟩
  obtain ⟨x', n', c', rfl⟩ := hs
  exact ⟨x', n', c', [], h, hc0, by rw [Nat.add_assoc t wo]; exact e1, fun e => absurd e hk⟩
theorem waits_all {i : Io} {s : AS} {w : World} (hR : Rel i s w) {wb wo q t k m : Nat} (hi : i wb = some (q, t)) (h : ∀ j, j < m → ∃ a x n c, WaitAt s wb wo k j a x n c) :
  ∃ (fa : Nat → Nat) (fx : Nat → Option Addr) (fn fc : Nat → Nat) (gx : Nat → Option Addr) (gn gc : Nat → Nat) (gz : Nat → List Value), ∀ j, j < m → WaitW i s w wb wo q t k j (fa j) (fx j) (fn j) (fc j) (gx j) (gn j) (gc j) (gz j) := by
 have h' : ∀ j : Nat, ∃ z : Nat × Option Addr × Nat × Nat × Option Addr × Nat × Nat × List Value, j < m → WaitW i s w wb wo q t k j z.1 z.2.1 z.2.2.1 z.2.2.2.1 z.2.2.2.2.1 z.2.2.2.2.2.1 z.2.2.2.2.2.2.1 z.2.2.2.2.2.2.2 := by
  intro j
  by_cases hj : j < m
  ·obtain ⟨a, x, n, c, hw⟩ := h j hj
   obtain ⟨x', n', c', zs, hw'⟩ := waitW hR hi hw
   exact ⟨⟨a, x, n, c, x', n', c', zs⟩, fun _ => hw'⟩
  ·exact ⟨⟨0, none, 0, 0, none, 0, 0, []⟩, fun e => absurd e hj⟩
 obtain ⟨f, hf⟩ := Classical.axiomOfChoice h'
 exact ⟨fun j => (f j).1, fun j => (f j).2.1, fun j => (f j).2.2.1, fun j => (f j).2.2.2.1, fun j => (f j).2.2.2.2.1, fun j => (f j).2.2.2.2.2.1, fun j => (f j).2.2.2.2.2.2.1, fun j => (f j).2.2.2.2.2.2.2, hf⟩
theorem enter72 (args : Array Value) (w : World) : (callFunc 72 args).run Tryz.prog w = .ok (.enter 72 args) w := by
 unfold callFunc
 have hf : Tryz.prog.funcs[72]? = some Tryz.f72 := Tryz.func72
 have hn : Tryz.f72.name ≠ "runtime.NumGoroutine" := by
  have : (Tryz.f72.name == "runtime.NumGoroutine") = false := by kernel_rfl
  simpa using this
 have hb : Tryz.f72.body ≠ none := by
  have : Tryz.f72.body.isNone = false := by kernel_rfl
  intro h; rw [h] at this; cases this
 simp [hf, hn, hb]
theorem rep_one (v : Value) : ∀ n, Go.Ax.rep n [v] = List.replicate n v
 | 0 => rfl
 | n + 1 => by
  have : Go.Ax.rep (n + 1) [v] = [v] ++ Go.Ax.rep n [v] := rfl
  rw [this, rep_one v n]
  rfl
theorem zer_sim {i : Io} {s : AS} {w w' : World} (hR : Rel i s w) (hb : Below w.heap.size w w') {q : Nat} (hq : w.heap.size ≤ q) (hz : Zer w' q) :
  ∃ i', VR i' (.tuple ⟨[.slice (some ⟨s.nx, 0, none⟩) 256 513, .int .i64 (.ofNat 0)]⟩) (.tuple #[.slice (some ⟨q, 0, none⟩) 256 256, .int .i64 0]) ∧ Rel i' (s.rowz (tz 1 5) (Go.Ax.rep 256 [.int .u8 (.ofNat 0)])) w' ∧ Fr i s w i' (s.rowz (tz 1 5) (Go.Ax.rep 256 [.int .u8 (.ofNat 0)])) w' := by
 obtain ⟨cur, h3, h4, h5⟩ := hz
 obtain ⟨L, hL⟩ : ∃ L, L = Go.Ax.rep 256 [Value.int .u8 (.ofNat 0)] := ⟨_, rfl⟩
 rw [← hL]
 have hl : L.length = 256 ∧ ∀ k v, L[k]? = some v → k < 256 ∧ v = Value.int .u8 0 := by
  rw [hL, rep_one]
  refine ⟨List.length_replicate, fun k v hk => ?_⟩
  rw [List.getElem?_replicate] at hk
  split at hk
  ·cases hk; exact ⟨by assumption, rfl⟩
  ·cases hk
 clear hL
 have hle : Le i (ext i s.nx (q, 0) (1, 256)) := ext_le (hR.fresh s.nx (Nat.le_refl _)).1
 have hv : VRs (ext i s.nx (q, 0) (1, 256)) L L := VRs.of_get rfl (fun k v hk => ⟨v, hk, by obtain ⟨_, rfl⟩ := hl.2 k v hk; exact .int _ _⟩)
 obtain ⟨k1, k2⟩ := hR.newAt (lm := (1, 256)) (o := .cells (T.e.fill 0 L) L.length (tz 1 5)) hb hq h3
  (OR.row hv cur 5 (0, 0) (tz 1 5) (fun _ => by rw [tz_ze (by omega)]) (.inl rfl) 0 (by omega) (fun k hk => by
   have e : L[k]? = some L[k] := List.getElem?_eq_getElem hk
   obtain ⟨e1, e2⟩ := hl.2 k _ e
   rw [Nat.zero_add, h5 k e1, e, e2]))
  (fun c n z h => by cases h; exact ⟨(tz_zs (by omega)).symm, fun cs e fr h => by cases h; exact Nat.le_of_eq h4.symm⟩)
 exact ⟨_, .tuple (.cons (.slice (t := 0) (ext_same _ _ _) (by omega) (by omega) (by omega) (.inl rfl) (fun h => by omega)) (.cons (.int _ _) .nil)), k1, k2⟩
theorem read_ok : POk Tryz.prog 72 readP := by
 intro args s v s' h i w args' hR hg ha
 unfold readP at h
 split at h
 ·rename_i p o k
  split at h
  ·rename_i sb so n sc wb wo m wc hdev
   cases hb : (Nat.blt k n && (Nat.ble m 1000000 && Nat.ble 1 m)) with
   | false => rw [hb] at h; cases h
   | true =>
    rw [hb, cond_true] at h
    simp only [Bool.and_eq_true, Nat.blt_eq, Nat.ble_eq] at hb
    obtain ⟨hkn, hm, hm1⟩ := hb
    split at h
    ·rename_i x sn sc2 torn hsec
     cases ha with | cons a1 ha =>
     cases ha with | cons a2 ha =>
     cases ha
     cases a2
     cases a1 with | @ptr _ _ qd td hd =>
     obtain ⟨ld, d1, d2, d3⟩ := hR.cellsN hdev hd
     cases d1 with | cons u0 d1 =>
     cases d1 with | cons u1 d1 =>
     cases d1 with | cons u2 d1 =>
     cases d1
     cases u2
     cases u0 with | @slice _ _ qs ts _ _ ps cs' hs y1 y2 y3 y4 y5 =>
     cases u1 with | @slice _ _ qw tw _ _ pw cw' hw z1 z2 z3 z4 z5 =>
     have D0 := d3 0 (by simp)
     have D1 := d3 1 (by simp)
     have D2 := d3 2 (by simp)
     simp only [List.getElem_cons_zero, List.getElem_cons_succ, Nat.add_zero] at D0 D1 D2
     have hps : ps = ts + so := y4.resolve_right (by omega)
     subst hps
     obtain ⟨lS, t1, t2, t3⟩ := hR.cellsN hsec hs
     cases t1 with | @cons _ sv _ _ r0 t1 =>
     cases t1 with | cons r1 t1 =>
     cases t1
     cases r1
     have T0 := t3 0 (by simp)
     have T1 := t3 1 (by simp)
     simp only [List.getElem_cons_zero, List.getElem_cons_succ, Nat.add_zero, ← Nat.add_assoc] at T0 T1
     have hpw : pw = tw + wo := z4.resolve_right (by omega)
     subst hpw
     have hsv : ∃ sx sn' sc', sv = .slice sx sn' sc' := by cases r0 <;> exact ⟨_, _, _, rfl⟩
     obtain ⟨sx, sn', sc', rfl⟩ := hsv
     have hql : qs < w.heap.size := block_lt_of_cell T0
     split at h
     ·cases h
     ·
      rename_i l hsc
      cases h
      obtain ⟨s1, _, s3⟩ := scanS_spec s wb wo k m (some l) hsc
      obtain ⟨fa, fx, fn, fc, gx, gn, gc, gz, hW⟩ := waits_all hR hw s1
      obtain ⟨j0, j1, ⟨b0, o0, n0, c0, w1, w2⟩, j2⟩ := s3 l rfl
      have uq : ∀ j, j < m → ∀ a x n c, WaitAt s wb wo k j a x n c → a = fa j ∧ x = fx j ∧ n = fn j := fun j hj a x n c h' => by
       have := h'.at_.symm.trans (hW j hj).at_.at_
       simp at this
       exact ⟨Int.ofNat.inj this.1, this.2.1, this.2.2.1⟩
      have hc := read_any qd (td + o) qs (ts + so) n cs' qw (tw + wo) m cw' (fun j => (fa j : Int)) gx gn gc gz k sx sn' sc' torn [] w hkn hm (block_lt_of_cell (hW 0 (by omega)).c0) D0 D1 D2 (fun j hj => ⟨(hW j hj).c0, (hW j hj).c1⟩)
       (fun j hj e => by obtain ⟨_, _, _, b', o', _, _, _, e1, e2, e3, e4, e5, e6⟩ := (hW j hj).ok (by have : (fa j : Int) = k := e; omega); exact ⟨b', o', e1, e2, e3, e4, e5, e6⟩) T0 T1
       (fun hno => absurd (show (fa j0 : Int) = k by have := (uq j0 j1 _ _ _ _ w1).1; omega) (hno ⟨j0, j1⟩)) hql
      refine .inr ⟨enter72 _ _, Calls.mono hc (fun e w' he => ?_)⟩
      ·obtain ⟨q1, v', er, rfl, q2 | ⟨q2, _⟩⟩ := he
       ·obtain ⟨⟨xx, hxx⟩, q3, q4, rfl, q5, q6⟩ := q2
        have q3' : fa xx = k := by have : (fa xx : Int) = k := q3; omega
        have hj : xx = j0 := by
         rcases Nat.lt_trichotomy xx j0 with h' | h' | h'
         ·exact absurd (show (fa j0 : Int) = k by have := (uq j0 j1 _ _ _ _ w1).1; omega) (q4 ⟨j0, j1⟩ h')
         ·exact h'
         ·exact absurd q3' (j2 xx h' hxx _ _ _ _ (hW xx hxx).at_)
        subst hj
        obtain ⟨b1, o1, l1, _, _, e0, e1, e2, _⟩ := (hW xx hxx).ok q3'
        obtain ⟨_, u1, u2⟩ := uq xx j1 _ _ _ _ w1
        rw [← u1] at e0
        cases e0
        rw [← u2, w2] at e1
        cases e1
        exact cp_sim hR e2 q1 q6 q5
       ·exact absurd (show (fa j0 : Int) = k by have := (uq j0 j1 _ _ _ _ w1).1; omega) (q2 ⟨j0, j1⟩)
     ·
      rename_i hsc
      obtain ⟨s1, s2, _⟩ := scanS_spec s wb wo k m none hsc
      obtain ⟨fa, fx, fn, fc, gx, gn, gc, gz, hW⟩ := waits_all hR hw s1
      have hno : ∀ xx : Fin m, (fa xx.val : Int) ≠ k := fun xx e => s2 rfl xx.val xx.isLt _ _ _ _ (hW xx.val xx.isLt).at_ (by omega)
      have hcs : ∀ sz : List Value, ((∀ xx : Fin m, (fa xx.val : Int) ≠ k) → torn = false → (sx = none ∧ sn' = 0 ∧ sc' = 0) ∨ ∃ b bo, sx = some ⟨b, bo, none⟩ ∧ sn' = sz.length ∧ b < w.heap.size ∧ sz.length ≤ 1000000 ∧ (∀ u ∈ sz, u.oneCell' = true) ∧ ∀ i (h : i < sz.length), w.cell? ⟨b, bo + i, none⟩ = some sz[i]) → _ :=
       fun sz hs => read_any qd (td + o) qs (ts + so) n cs' qw (tw + wo) m cw' (fun j => (fa j : Int)) gx gn gc gz k sx sn' sc' torn sz w hkn hm (block_lt_of_cell (hW 0 (by omega)).c0) D0 D1 D2 (fun j hj => ⟨(hW j hj).c0, (hW j hj).c1⟩)
        (fun j hj e => absurd e (hno ⟨j, hj⟩)) T0 T1 hs hql
      cases torn with
      | true =>
       rw [cond_true] at h
       cases h
       refine .inr ⟨enter72 _ _, Calls.mono (hcs [] (fun _ e => by cases e)) (fun e w' he => ?_)⟩
       obtain ⟨q1, v', er, rfl, ⟨xx, q3, _⟩ | ⟨_, ⟨_, rfl, rfl⟩ | ⟨e, _⟩⟩⟩ := he
       ·exact absurd q3 (hno xx)
       ·obtain ⟨k1, k2⟩ := hR.below q1
        exact ⟨i, .tuple (.cons (.nils (by decide)) (.cons (.int _ _) .nil)), k1, k2⟩
       ·cases e
      | false =>
       rw [cond_false] at h
       split at h
       ·
        cases hsn : Nat.beq sn 0 with
        | false => rw [hsn] at h; cases h
        | true =>
         rw [hsn, cond_true] at h
         cases h
         cases r0
         refine .inr ⟨enter72 _ _, Calls.mono (hcs [] (fun _ _ => .inl ⟨rfl, rfl, rfl⟩)) (fun e w' he => ?_)⟩
         obtain ⟨q1, v', er, rfl, ⟨xx, q3, _⟩ | ⟨_, ⟨e, _⟩ | ⟨_, rfl, ⟨_, q, q2, rfl, q4⟩ | ⟨e, _⟩⟩⟩⟩ := he
         ·exact absurd q3 (hno xx)
         ·cases e
         ·exact zer_sim hR q1 q2 q4
         ·exact absurd rfl e
       ·rename_i b1 o1
        cases hn : Nat.ble sn 1000000 with
        | false => rw [hn] at h; cases h
        | true =>
         rw [hn, cond_true] at h
         split at h
         ·rename_i l hl
          cases ho : ones l with
          | false => rw [ho] at h; cases h
          | true =>
           rw [ho, cond_true] at h
           cases h
           obtain ⟨b', o', c', zs, e1, p1, p2, p3, p4, p5⟩ := sliceRow hR r0 hl ho (Nat.le_of_ble_eq_true hn)
           cases e1
           refine .inr ⟨enter72 _ _, Calls.mono (hcs zs (fun _ _ => .inr ⟨b', o', rfl, rfl, p2, p3, p4, p5⟩)) (fun e w' he => ?_)⟩
           obtain ⟨q1, v', er, rfl, ⟨xx, q3, _⟩ | ⟨_, ⟨e, _⟩ | ⟨_, rfl, ⟨e, _⟩ | ⟨_, q5, q6⟩⟩⟩⟩ := he
           ·exact absurd q3 (hno xx)
           ·cases e
           ·cases e
           ·exact cp_sim hR p1 q1 q6 q5
         ·cases h
       ·cases h
    ·cases h
  ·cases h
 ·cases h
end Go.Proofs
