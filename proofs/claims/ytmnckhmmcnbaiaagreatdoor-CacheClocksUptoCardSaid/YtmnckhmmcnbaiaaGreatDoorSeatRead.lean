/- flash.Read where writes wait: what it answers. -/
import Derived.Test.YtmnckhmmcnbaiaaGreatDoorSeatBack
import Derived.Test.YtmnckhmmcnbaiaaGreatDoorSeatClone
import Derived.Shelf.Abstract
import Derived.Deep.OwnRows
set_option linter.unusedSimpArgs false
set_option linter.unusedVariables false
namespace Go.Proofs
open Go Go.RowKit Go.Lib

theorem is_any (F : Fence) (n : Nat) (hF : F.fn 26) (hro : F.round = none) (ad : Addr) (a : Option Addr) (m c : Nat) (k : Int) (w : World) (hd : w.cell? ad = some (.slice a m c)) (h0 : 0 ≤ k) (h1 : k < m) :
    CallsIn F n Tryz.prog 26 #[.pointer (some ad), .int .i64 k] w fun e w' => e = .returned (.bool true) ∧ w' = w := by
  refine callsIn_of_wp Tryz.func26 rfl hF ?_ hro
  simp only [Tryz.ntmps26, List.size_toArray, List.length_cons, List.length_nil, Nat.reduceAdd, Nat.reduceSub, Array.replicate_succ, Array.replicate_zero, List.push_toArray, List.append_toArray, List.nil_append, List.cons_append]
  gi_wp2
  go_ret
  exact ⟨rfl, rfl⟩
theorem backward_any (F : Fence) (n : Nat) (hF : F.fn 39) (hro : F.round = none) (a : Option Addr) (m c : Nat) (w : World) :
    CallsIn F n Tryz.prog 39 #[.slice a m c] w fun e w' => e = .returned (.func (.func 79) #[] #[.pointer (some ⟨w.heap.size, 0, none⟩)]) ∧ w' = w.alloc (.cells #[.slice a m c] 78) := by
  refine callsIn_of_wp Tryz.func39 rfl hF ?_ hro
  simp only [Tryz.ntmps39, List.size_toArray, List.length_cons, List.length_nil, Nat.reduceAdd, Nat.reduceSub, Array.replicate_succ, Array.replicate_zero, List.push_toArray, List.append_toArray, List.nil_append, List.cons_append]
  gi_wp2
  go_ret
  exact ⟨rfl, rfl⟩


theorem lt_size_of_boxed {W : World} {B : Nat} {t : TypeId} {v : Value} (h : Boxed W B t v) : B < W.heap.size := h.lt
theorem ownsRow_slice {w : World} {base : Nat} {e : TypeId} {size : Nat} {v : Value} {n : Nat} {xs : List Value} (h : w.ownsRow base e size v n xs) (h' : v ≠ .slice none 0 0) : ∃ g cap, base ≤ g ∧ v = .slice (some ⟨g, 0, none⟩) n cap := by
  obtain ⟨_, h⟩ := h
  rcases h with ⟨h, _⟩ | ⟨g, cap, cur, h1, h2, _⟩
  · exact absurd h h'
  · exact ⟨g, cap, h2, h1⟩
theorem ownsRow_set {w : World} {base base' : Nat} {e : TypeId} {size g n cap B : Nat} {v : Value} {xs : List Value} (h : w.ownsRow base e size (.slice (some ⟨g, 0, none⟩) n cap) n xs) (hb : base' ≤ base) (hB : B < g) :
    (w.setCell ⟨B, 0, none⟩ v).ownsRow base' e size (.slice (some ⟨g, 0, none⟩) n cap) n xs := by
  have h1 := h.kept (grownBy_setCell' w B v) (.inr (fun e => by
    have h2 : g = B := by simpa [Value.ownBlock] using e
    omega))
  refine ⟨h1.1, ?_⟩
  rcases h1.2 with ⟨e, _⟩ | ⟨g', cap', cur, e, r, rest⟩
  · cases e
  · exact .inr ⟨g', cap', cur, e, Nat.le_trans hb r, rest⟩
/-- What the loop keeps. -/
structure RdI {len : Nat} (ats : Nat → Int) (k : Int) (w : World) (m : Nat) (pre : List (Fin len)) (W : World) : Prop where
  sz : m ≤ W.heap.size
  no : ∀ x ∈ pre, ats x.val ≠ k
  b0 : Boxed W w.heap.size 3 (.int .i64 k)
  b1 : Boxed W (w.heap.size + 1) 50 (.slice none 0 0)
  b2 : Boxed W (w.heap.size + 1 + 1) 33 (.int .i64 0)
  low : Below w.heap.size w W
/-- What it leaves with. -/
def RdX {len : Nat} (ats : Nat → Int) (zs : Nat → List Value) (k : Int) (w : World) (c : Code) (xs : List (Fin len)) (W : World) : Prop :=
  ∃ pre x v', c = .ret ∧ xs = pre ++ [x] ∧ (∀ y ∈ pre, ats y.val ≠ k) ∧ ats x.val = k ∧ Boxed W (w.heap.size + 1) 50 v' ∧ Boxed W (w.heap.size + 1 + 1) 33 (.int .i64 0) ∧ Below w.heap.size w W ∧
    W.ownsRow w.heap.size 5 1 v' (zs x.val).length (zs x.val) ∧ v' ≠ .slice none 0 0
theorem RdI.own {len : Nat} (ats : Nat → Int) (k : Int) (w : World) (m : Nat) (B : Nat) (hB : w.heap.size ≤ B) : OwnFrom B (RdI (len := len) ats k w m) := fun s W W' row hs hg hr => by
  have hne : ∀ b t v, Boxed W b t v → some b ≠ row := fun b t v hb e => by
    obtain ⟨_, o, ho, hc⟩ := hr b e.symm
    rw [show W.heap[b]? = _ from hb] at ho
    cases ho; cases hc
  exact ⟨Nat.le_trans hs.sz hg.size, hs.no, hs.b0.kept hg (hne _ _ _ hs.b0), hs.b1.kept hg (hne _ _ _ hs.b1), hs.b2.kept hg (hne _ _ _ hs.b2), hs.low.grown hg hs.low.size (fun r e => by have := (hr r e).1; omega)⟩
theorem RdX.own {len : Nat} (ats : Nat → Int) (zs : Nat → List Value) (k : Int) (w : World) (c : Code) (B : Nat) (hB : w.heap.size ≤ B) : OwnFrom B (RdX (len := len) ats zs k w c) := fun s W W' row hs hg hr => by
  obtain ⟨pre, x, v', h1, h2, h3, h4, h5, h6, h7, h8, h9⟩ := hs
  have hne : ∀ b t v, Boxed W b t v → some b ≠ row := fun b t v hb e => by
    obtain ⟨_, o, ho, hc⟩ := hr b e.symm
    rw [show W.heap[b]? = _ from hb] at ho
    cases ho; cases hc
  refine ⟨pre, x, v', h1, h2, h3, h4, h5.kept hg (hne _ _ _ h5), h6.kept hg (hne _ _ _ h6), h7.grown hg h7.size (fun r e => by have := (hr r e).1; omega), ?_, h9⟩
  obtain ⟨g1, g2⟩ := h8
  refine ⟨g1, ?_⟩
  rcases g2 with g2 | ⟨g, cap, cur, q1, q2, q3, q4⟩
  · exact .inl g2
  · refine .inr ⟨g, cap, cur, q1, q2, ?_, q4⟩
    rw [grownBy_keeps_cells hg (fun r e => (hr r e).2) q3 rfl]
    exact q3

/-- A row of noughts. -/
def Zer (W : World) (q : Nat) : Prop := ∃ cur, W.heap[q]? = some (.cells cur 5 (0, 0)) ∧ cur.size = 256 ∧ ∀ j, j < 256 → cur[j]? = some (.int .u8 0)
/-- What a reading comes to. -/
def RdOut (ats : Nat → Int) (zs : Nat → List Value) (k : Nat) (sba : Option Addr) (torn : Bool) (sz : List Value) (len : Nat) (w : World) (e : Ending) (w' : World) : Prop :=
  Below w.heap.size w w' ∧ ∃ v' er, e = .returned (.tuple #[v', .int .i64 er]) ∧
      ((∃ x : Fin len, ats x.val = k ∧ (∀ y : Fin len, x.val < y.val → ats y.val ≠ k) ∧ er = 0 ∧ v' ≠ .slice none 0 0 ∧ w'.ownsRow w.heap.size 5 1 v' (zs x.val).length (zs x.val)) ∨
       ((∀ x : Fin len, ats x.val ≠ k) ∧ ((torn = true ∧ v' = .slice none 0 0 ∧ er = 3) ∨
         (torn = false ∧ er = 0 ∧ ((sba = none ∧ ∃ q, w.heap.size ≤ q ∧ v' = .slice (some ⟨q, 0, none⟩) 256 256 ∧ Zer w' q) ∨
           (sba ≠ none ∧ v' ≠ .slice none 0 0 ∧ w'.ownsRow w.heap.size 5 1 v' sz.length sz))))))

set_option maxHeartbeats 8000000 in
set_option maxRecDepth 100000 in
theorem read_any (qd pd : Nat) (sa so n cs : Nat) (g off len c : Nat) (ats : Nat → Int) (ba : Nat → Option Addr) (bn bc : Nat → Nat) (zs : Nat → List Value) (k : Nat) (sba : Option Addr) (sbn sbc : Nat) (torn : Bool) (sz : List Value) (w : World)
    (h1 : k < n) (hlen : len ≤ 1000000) (hgl : g < w.heap.size)
    (d0 : w.cell? ⟨qd, pd, none⟩ = some (.slice (some ⟨sa, so, none⟩) n cs)) (d1 : w.cell? ⟨qd, pd + 1, none⟩ = some (.slice (some ⟨g, off, none⟩) len c)) (d2 : w.cell? ⟨qd, pd + 2, none⟩ = some (.bool false))
    (hc : ∀ j, j < len → w.cell? ⟨g, off + 2 * j, none⟩ = some (.int .i64 (ats j)) ∧ w.cell? ⟨g, off + 2 * j + 1, none⟩ = some (.slice (ba j) (bn j) (bc j)))
    (hb : ∀ j, j < len → ats j = k → ∃ b bo, ba j = some ⟨b, bo, none⟩ ∧ bn j = (zs j).length ∧ b < w.heap.size ∧ (zs j).length ≤ 1000000 ∧ (∀ u ∈ zs j, u.oneCell' = true) ∧ ∀ i (h : i < (zs j).length), w.cell? ⟨b, bo + i, none⟩ = some (zs j)[i])
    (t0 : w.cell? ⟨sa, so + k * 2, none⟩ = some (.slice sba sbn sbc)) (t1 : w.cell? ⟨sa, so + k * 2 + 1, none⟩ = some (.bool torn))
    (hs : (∀ x : Fin len, ats x.val ≠ k) → torn = false → (sba = none ∧ sbn = 0 ∧ sbc = 0) ∨ ∃ b bo, sba = some ⟨b, bo, none⟩ ∧ sbn = sz.length ∧ b < w.heap.size ∧ sz.length ≤ 1000000 ∧ (∀ u ∈ sz, u.oneCell' = true) ∧ ∀ i (h : i < sz.length), w.cell? ⟨b, bo + i, none⟩ = some sz[i]) (hsal : sa < w.heap.size) :
    Calls Tryz.prog 23 #[.pointer (some ⟨qd, pd, none⟩), .int .i64 k] w (RdOut ats zs k sba torn sz len w) := by
  refine (callsIn_wide (n := 5)).1 (callsIn_of_wp_marks Tryz.func23 rfl trivial ?_ rfl)
  simp only [Tryz.ntmps23, List.size_toArray, List.length_cons, List.length_nil, Nat.reduceAdd, Nat.reduceSub, Array.replicate_succ, Array.replicate_zero, List.push_toArray, List.append_toArray, List.nil_append, List.cons_append]
  have hA : Aside (∀ j, j < len → w.cell? ⟨g, off + 2 * j, none⟩ = some (.int .i64 (ats j)) ∧ w.cell? ⟨g, off + 2 * j + 1, none⟩ = some (.slice (ba j) (bn j) (bc j))) := hc
  have hB : Aside (∀ j, j < len → ats j = k → ∃ b bo, ba j = some ⟨b, bo, none⟩ ∧ bn j = (zs j).length ∧ b < w.heap.size ∧ (zs j).length ≤ 1000000 ∧ (∀ u ∈ zs j, u.oneCell' = true) ∧ ∀ i (h : i < (zs j).length), w.cell? ⟨b, bo + i, none⟩ = some (zs j)[i]) := hb
  clear hc hb
  have lift : ∀ {ad : Addr} {v : Value}, w.cell? ad = some v → (((w.alloc (.cells #[.int .i64 k] 3)).alloc (.cells #[.slice none 0 0] 50)).alloc (.cells #[.int .i64 0] 33)).cell? ad = some v :=
    fun h => cell?_alloc_some _ (cell?_alloc_some _ (cell?_alloc_some _ h))
  have e1 := lift d1
  have e2 := lift d2
  gi_wp2_with (first
    | (refine ⟨trivial, ?_⟩; gi_at_call 26; refine (is_any Fence.wide _ trivial rfl ⟨qd, pd, none⟩ _ n cs k _ (cell?_alloc_some _ (cell?_alloc_some _ (cell?_alloc_some _ d0))) (Int.natCast_nonneg _) (by omega)).mono ?_; rintro e w' ⟨rfl, rfl⟩)
    | (refine ⟨trivial, ?_⟩; gi_at_call 39; refine (backward_any Fence.wide _ trivial rfl _ _ _ _).mono ?_; rintro e w' ⟨rfl, rfl⟩))
  obtain ⟨W0, hW0⟩ : ∃ W0, ((((w.alloc (.cells #[.int .i64 k] 3)).alloc (.cells #[.slice none 0 0] 50)).alloc (.cells #[.int .i64 0] 33)).alloc (.cells #[.slice (some ⟨g, off, none⟩) len c] 78)) = W0 := ⟨_, rfl⟩
  have hs0 : W0.heap.size = w.heap.size + 4 := by rw [← hW0]; simp
  have hX0 : Boxed W0 w.heap.size 3 (.int .i64 k) := by rw [← hW0]; exact (((Boxed.new w _ _).alloc _).alloc _).alloc _
  have hX1 : Boxed W0 (w.heap.size + 1) 50 (.slice none 0 0) := by
    rw [← hW0]; have := ((Boxed.new (w.alloc (.cells #[.int .i64 k] 3)) 50 (.slice none 0 0)).alloc (.cells #[.int .i64 0] 33)).alloc (.cells #[.slice (some ⟨g, off, none⟩) len c] 78)
    rwa [World.size_alloc] at this
  have hX2 : Boxed W0 (w.heap.size + 1 + 1) 33 (.int .i64 0) := by
    rw [← hW0]; have := (Boxed.new ((w.alloc (.cells #[.int .i64 k] 3)).alloc (.cells #[.slice none 0 0] 50)) 33 (.int .i64 0)).alloc (.cells #[.slice (some ⟨g, off, none⟩) len c] 78)
    rwa [World.size_alloc, World.size_alloc] at this
  have hX3 : Boxed W0 (w.heap.size + 1 + 1 + 1) 78 (.slice (some ⟨g, off, none⟩) len c) := by
    rw [← hW0]; have := Boxed.new (((w.alloc (.cells #[.int .i64 k] 3)).alloc (.cells #[.slice none 0 0] 50)).alloc (.cells #[.int .i64 0] 33)) 78 (.slice (some ⟨g, off, none⟩) len c)
    rwa [World.size_alloc, World.size_alloc, World.size_alloc] at this
  have hlow : Below w.heap.size w W0 := by
    rw [← hW0]
    exact ((((Below.refl _ w).alloc (Nat.le_refl _) _).alloc (by simp) _).alloc (by simp; omega) _).alloc (by simp; omega) _
  have hlift0 : ∀ {ad : Addr} {v : Value}, w.cell? ad = some v → W0.cell? ad = some v := fun h => by rw [← hW0]; exact cell?_alloc_some _ (lift h)
  rw [hW0]
  clear e1 e2 lift
  refine wpIn_rangeFunc_ownH rfl (by omega) (gf := 79) (lb := #[.pointer (some ⟨w.heap.size + 1 + 1 + 1, 0, none⟩)]) rfl trivial (enters_of Tryz.func79 (by kernel_rfl) rfl)
    (back_stops 4 (by omega) (w.heap.size + 1 + 1 + 1) g off len c (fun j => (.int .i64 (ats j), .slice (ba j) (bn j) (bc j))) W0 (by omega) (by omega) hlen hX3.cell (fun j hj => ⟨hlift0 (hA.out j hj).1, hlift0 (hA.out j hj).2⟩))
    belowK_t (belowK_b (Nat.le_refl _)) (Below.refl _ _) (fun _ => rfl)
    (RdI ats k w W0.heap.size) (RdX ats zs k w) (RdI.own ats k w _ _ (by omega)) (fun c => RdX.own ats zs k w c _ (by omega)) ⟨Nat.le_refl _, by simp, hX0, hX1, hX2, hlow⟩
    (fun x a' W => ∃ B, w.heap.size + 4 ≤ B ∧ W.heap[B]? = some (.cells #[.int .i64 (ats x.val), .slice (ba x.val) (bn x.val) (bc x.val)] 84 (0, 0)) ∧ a' = { tmps := #[.pointer (some ⟨qd, pd, none⟩), .int .i64 k, undef, .pointer (some ⟨w.heap.size, 0, none⟩), .pointer (some ⟨w.heap.size + 1, 0, none⟩), .pointer (some ⟨w.heap.size + 1 + 1, 0, none⟩), undef, .pointer (some ⟨B, 0, none⟩), undef, .bool false, .pointer (some ⟨qd, pd, none⟩), .int .i64 k, .bool true, .bool false, .bool false, .pointer (some ⟨qd, pd, none⟩), .pointer (some ⟨qd, pd, none⟩), .pointer (some ⟨qd, pd + 2, none⟩), .bool false, .pointer (some ⟨qd, pd, none⟩), .pointer (some ⟨qd, pd, none⟩), .pointer (some ⟨qd, pd + 1, none⟩), .slice (some ⟨g, off, none⟩) len c, .func (.func 79) #[] #[.pointer (some ⟨w.heap.size + 1 + 1 + 1, 0, none⟩)], .int .i64 (x.val : Nat), .agg #[.int .i64 (ats x.val), .slice (ba x.val) (bn x.val) (bc x.val)], undef, undef, undef, undef, undef, undef, undef, undef, undef, undef, undef, undef, undef, undef, undef, undef, undef, undef, undef, undef, undef, undef, undef, undef, undef], defers := [] }) ?_ ?_ ?_ ?_ ?_
  · intro x a' s W W' row hs hg hr
    obtain ⟨B, h1, h2, h3⟩ := hs
    exact ⟨B, h1, (grownBy_keeps_cells hg (fun r e => (hr r e).2) h2 rfl).trans h2, h3⟩
  · intro l pre x W K hI hK
    gi_wp2_with (rw [Oper.semAt_eq _ _ _ (fun c h => by cases h)]; go_simp; try go_bits)
    exact hK _ _ ((KeepsOthers.alloc W _).from _) ((Below.refl _ W).alloc hI.sz _) ((RdI.own ats k w W0.heap.size W0.heap.size (by omega)).alloc _ hI) ⟨W.heap.size, by have := hI.sz; omega, World.alloc_heap_new W _, rfl⟩
  · rintro l pre x a' W hl hrec hI ⟨B, hB1, hB2, rfl⟩ hlt
    have hA1 : W.cell? ⟨B, 0, none⟩ = some (.int .i64 (ats x.val)) := by simp [World.cell?, hB2]
    have hA2 : W.cell? ⟨B, 1, none⟩ = some (.slice (ba x.val) (bn x.val) (bc x.val)) := by simp [World.cell?, hB2]
    have hA3 := hI.b0.cell
    by_cases hm : ats x.val = k
    · obtain ⟨b, bo, q1, q2, q3, q4, q5, q6⟩ := hB.out x.val x.isLt hm
      rw [q1, q2] at hA2
      gi_wp2_with (first
        | (refine ⟨trivial, ?_⟩; gi_at_call 28; refine CallsIn.inRound l ((callsIn_wide.2 (clone_any b bo (zs x.val).length (bc x.val) (zs x.val) W rfl q5 q4 (fun j hj => (hI.low.cell (p := ⟨b, bo + j, none⟩) q3).trans (q6 j hj)))).mono ?_); rintro e w1 ⟨v', rfl, k1, k2, k3⟩; obtain ⟨gg, cap, hgg, rfl⟩ := ownsRow_slice k1 k2; have Y1 : Boxed w1 (w.heap.size + 1) 50 (.slice none 0 0) := (k3.block _ hI.b1.lt).trans hI.b1; have Y2 : Boxed w1 (w.heap.size + 1 + 1) 33 (.int .i64 0) := (k3.block _ hI.b2.lt).trans hI.b2; have Z1 := Y1.cell; have Z2 := Y1.frozen; have Z3 := Y2.cell; have Z4 := Y2.frozen)
        | (rw [Oper.semAt_eq _ _ _ (fun c h => by cases h)]; go_simp; try go_bits))
      have hn1 : w.heap.size + 1 ≠ w.heap.size + 1 + 1 := by omega
      have hsz := hI.sz
      have KO : KeepsFrom W0.heap.size W w1 := ⟨k3.size, fun j o _ hj _ => (k3.block j (Array.getElem?_eq_some_iff.1 hj).1).trans hj⟩
      refine ⟨(KO.trans ((KeepsOthers.setCell _ _ _).from _)).trans ((KeepsOthers.setCell _ _ _).from _), pre, x, _, rfl, rfl, hI.no, hm, (Y1.set _).other hn1 _, (Y2.other (Ne.symm hn1) _).set _, ?_, ?_, k2⟩
      · exact Below.setCell (p := ⟨w.heap.size + 1 + 1, 0, none⟩) (Below.setCell (p := ⟨w.heap.size + 1, 0, none⟩) (hI.low.trans (k3.mono hI.low.size)) (show _ ≤ w.heap.size + 1 by omega) _) (show _ ≤ w.heap.size + 1 + 1 by omega) _
      · exact ownsRow_set (ownsRow_set k1 hI.low.size (by omega)) (Nat.le_refl _) (by omega)
    · gi_wp2_with (rw [Oper.semAt_eq _ _ _ (fun c h => by cases h)]; go_simp; try go_bits)
      exact ⟨KeepsFrom.refl _ _, Below.refl _ _, ⟨hI.sz, fun y hy => (List.mem_append.1 hy).elim (hI.no y) (fun e => by rw [List.mem_singleton.1 e]; exact hm), hI.b0, hI.b1, hI.b2, hI.low⟩⟩
  · intro D xs W hD hS hI hK
    subst hS
    have hnone : ∀ x : Fin len, ats x.val ≠ k := fun x => hI.no x (mem_wPre len len (Nat.le_refl _) x (by omega))
    have lw : ∀ {ad : Addr} {v : Value}, ad.block < w.heap.size → w.cell? ad = some v → W.cell? ad = some v := fun hl h => (hI.low.cell hl).trans h
    have f0 := lw (ad := ⟨sa, so + k * 2, none⟩) hsal t0
    have f1 := lw (ad := ⟨sa, so + k * 2 + 1, none⟩) hsal t1
    have f2 := lw (ad := ⟨qd, pd, none⟩) (block_lt_of_cell d0) d0
    have f3 := hI.b0.cell
    gi_wp2
    refine wpIn_wide.2 ?_
    have la : ∀ {ad : Addr} {v : Value}, W.cell? ad = some v → (W.alloc (.cells #[.slice none 0 0, .bool false] 88)).cell? ad = some v := fun h => cell?_alloc_some _ h
    have g0 := la f0
    have g1 := la f1
    have g2 := la f2
    have g3 := la f3
    go_region
    obtain ⟨W2, hW2⟩ : ∃ W2, (W.alloc (.cells #[.slice sba sbn sbc, .bool torn] 88)).drew = W2 := ⟨_, rfl⟩
    have X1 : Boxed W2 (w.heap.size + 1) 50 (.slice none 0 0) := by rw [← hW2]; exact hI.b1.alloc _
    have X2 : Boxed W2 (w.heap.size + 1 + 1) 33 (.int .i64 0) := by rw [← hW2]; exact hI.b2.alloc _
    have X8 : W2.heap[W.heap.size]? = some (.cells #[.slice sba sbn sbc, .bool torn] 88 (0, 0)) := by rw [← hW2]; exact World.alloc_heap_new W _
    have L2 : Below w.heap.size w W2 := by rw [← hW2]; exact (hI.low.alloc hI.low.size _).drew
    have K2 : W2.heap[D]? = some (.deferred (some [])) := by rw [← hW2]; exact (Below.heap_alloc W _ D (Array.getElem?_eq_some_iff.1 hK).1).trans hK
    rw [hW2]
    have c0 : W2.cell? ⟨W.heap.size, 0, none⟩ = some (.slice sba sbn sbc) := by simp [World.cell?, X8]
    have c1 : W2.cell? ⟨W.heap.size, 1, none⟩ = some (.bool torn) := by simp [World.cell?, X8]
    have Z1 := X1.cell; have Z2 := X1.frozen; have Z3 := X2.cell; have Z4 := X2.frozen
    have q42 : ∀ (w : World) (a : Option Addr) (n c n' c' : Nat), (binOp .eql 50 (.slice a n c) (.slice none n' c')).run Tryz.prog w = .ok (.bool a.isNone) w := fun w a n c n' c' => Lib.run_eql_slice_nil w _ _ a n c n' c' Tryz.underlying50
    have hn1 : w.heap.size + 1 ≠ w.heap.size + 1 + 1 := by omega
    cases torn with
    | true =>
      gi_wp2
      have B1 := (X1.set (.slice none 0 0)).other hn1 (.int .i64 3)
      have B2 := (X2.other (Ne.symm hn1) (.slice none 0 0)).set (.int .i64 3)
      have KD : ((W2.setCell ⟨w.heap.size + 1, 0, none⟩ (.slice none 0 0)).setCell ⟨w.heap.size + 1 + 1, 0, none⟩ (.int .i64 3)).heap[D]? = some (.deferred (some [])) := ((KeepsOthers.setCell _ _ _).same D _ ((KeepsOthers.setCell _ _ _).same D _ K2 rfl) rfl)
      have LL : Below w.heap.size w ((W2.setCell ⟨w.heap.size + 1, 0, none⟩ (.slice none 0 0)).setCell ⟨w.heap.size + 1 + 1, 0, none⟩ (.int .i64 3)) := (Below.setCell (p := ⟨w.heap.size + 1 + 1, 0, none⟩) (Below.setCell (p := ⟨w.heap.size + 1, 0, none⟩) (L2) (show _ ≤ w.heap.size + 1 by omega) _) (show _ ≤ w.heap.size + 1 + 1 by omega) _)
      have e4 := cell_kept (B1).cell (grownBy_putObj' _ D (.deferred none)) (fun r e => by cases e; exact ⟨_, KD, rfl⟩)
      have e5 := cell_kept (B2).cell (grownBy_putObj' _ D (.deferred none)) (fun r e => by cases e; exact ⟨_, KD, rfl⟩)
      refine ⟨by simp, .inl ⟨_, _, rfl, run_takeDeferred KD, ?_⟩⟩
      refine ⟨.tuple #[.slice none 0 0, .int .i64 3], ?_, ?_⟩
      · simp [results, Tryz.f23, go_sem, e4, e5]
      · exact ⟨(LL).grown (grownBy_putObj' _ D _) (LL).size (fun r e => by cases e; omega), _, _, rfl, .inr ⟨hnone, .inl ⟨rfl, rfl, rfl⟩⟩⟩
    | false =>
      rcases hs hnone rfl with ⟨rfl, rfl, rfl⟩ | ⟨b, bo, rfl, rfl, p1, p2, p3, p4⟩
      · obtain ⟨ZR, hZR⟩ : ∃ ZR, ZR = madeCells #[Value.int .u8 0] 256 := ⟨_, rfl⟩
        have hmk : ∀ V, (Instr.makeSlice 50 (.int .i64 256) (.int .i64 256)).run Tryz.prog V = .ok (.slice (some ⟨V.heap.size, 0, none⟩) 256 256) (V.alloc (.cells ZR 5)) := fun V => by
          rw [hZR]
          exact run_make_row' 50 5 (.int .u8 0) 1 Tryz.underlying50 Tryz.info5z rfl .i64 .i64 256 (by omega) (by omega) V
        have hzr : ZR.size = 256 ∧ ∀ j, j < 256 → ZR[j]? = some (.int .u8 0) := by
          rw [hZR]
          refine ⟨size_madeCells _ _, fun j hj => ?_⟩
          rw [← Array.getElem?_toList, toList_madeCells_one, List.getElem?_replicate, if_pos hj]
        clear hZR
        have Y1 : Boxed (W2.alloc (.cells ZR 5)) (w.heap.size + 1) 50 (.slice none 0 0) := X1.alloc _
        have Y2 : Boxed (W2.alloc (.cells ZR 5)) (w.heap.size + 1 + 1) 33 (.int .i64 0) := X2.alloc _
        have Z1 := Y1.cell; have Z2 := Y1.frozen; have Z3 := Y2.cell; have Z4 := Y2.frozen
        gi_wp2
        have B1 := (Y1.set (.slice (some ⟨W2.heap.size, 0, none⟩) 256 256)).other hn1 (.int .i64 0)
        have B2 := (Y2.other (Ne.symm hn1) (.slice (some ⟨W2.heap.size, 0, none⟩) 256 256)).set (.int .i64 0)
        have K3 : (W2.alloc (.cells ZR 5)).heap[D]? = some (.deferred (some [])) := (Below.heap_alloc W2 _ D (Array.getElem?_eq_some_iff.1 K2).1).trans K2
        have hsz := hI.low.size
        have hX2l := X2.lt
        have KD : (((W2.alloc (.cells ZR 5)).setCell ⟨w.heap.size + 1, 0, none⟩ (.slice (some ⟨W2.heap.size, 0, none⟩) 256 256)).setCell ⟨w.heap.size + 1 + 1, 0, none⟩ (.int .i64 0)).heap[D]? = some (.deferred (some [])) := ((KeepsOthers.setCell _ _ _).same D _ ((KeepsOthers.setCell _ _ _).same D _ K3 rfl) rfl)
        have LL : Below w.heap.size w (((W2.alloc (.cells ZR 5)).setCell ⟨w.heap.size + 1, 0, none⟩ (.slice (some ⟨W2.heap.size, 0, none⟩) 256 256)).setCell ⟨w.heap.size + 1 + 1, 0, none⟩ (.int .i64 0)) := (Below.setCell (p := ⟨w.heap.size + 1 + 1, 0, none⟩) (Below.setCell (p := ⟨w.heap.size + 1, 0, none⟩) (L2.alloc L2.size _) (show _ ≤ w.heap.size + 1 by omega) _) (show _ ≤ w.heap.size + 1 + 1 by omega) _)
        have hDn : D ≠ W2.heap.size := by have := (Array.getElem?_eq_some_iff.1 K2).1; omega
        have e4 := cell_kept (B1).cell (grownBy_putObj' _ D (.deferred none)) (fun r e => by cases e; exact ⟨_, KD, rfl⟩)
        have e5 := cell_kept (B2).cell (grownBy_putObj' _ D (.deferred none)) (fun r e => by cases e; exact ⟨_, KD, rfl⟩)
        refine ⟨by simp, .inl ⟨_, _, rfl, run_takeDeferred KD, ?_⟩⟩
        refine ⟨.tuple #[.slice (some ⟨W2.heap.size, 0, none⟩) 256 256, .int .i64 0], ?_, ?_⟩
        · simp [results, Tryz.f23, go_sem, e4, e5]
        · refine ⟨(LL).grown (grownBy_putObj' _ D _) (LL).size (fun r e => by cases e; omega), _, _, rfl, .inr ⟨hnone, .inr ⟨rfl, rfl, .inl ⟨rfl, W2.heap.size, by omega, rfl, ZR, ?_, hzr⟩⟩⟩⟩
          refine (World.putObj_heap_other (Ne.symm hDn)).trans ?_
          refine (Below.heap_setCell _ ⟨w.heap.size + 1 + 1, 0, none⟩ _ _ (show W2.heap.size ≠ w.heap.size + 1 + 1 by omega)).trans ?_
          refine (Below.heap_setCell _ ⟨w.heap.size + 1, 0, none⟩ _ _ (show W2.heap.size ≠ w.heap.size + 1 by omega)).trans ?_
          exact World.alloc_heap_new W2 _
      · gi_wp2_with (refine ⟨trivial, ?_⟩; gi_at_call 28; refine ((callsIn_wide.2 (clone_any b bo sz.length sbc sz W2 rfl p3 p2 (fun j hj => (L2.cell (p := ⟨b, bo + j, none⟩) p1).trans (p4 j hj)))).mono ?_); rintro e w1 ⟨v', rfl, k1, k2, k3⟩; obtain ⟨gg, cap, hgg, rfl⟩ := ownsRow_slice k1 k2; have Y1 : Boxed w1 (w.heap.size + 1) 50 (.slice none 0 0) := (k3.block _ X1.lt).trans X1; have Y2 : Boxed w1 (w.heap.size + 1 + 1) 33 (.int .i64 0) := (k3.block _ X2.lt).trans X2; have Z1 := Y1.cell; have Z2 := Y1.frozen; have Z3 := Y2.cell; have Z4 := Y2.frozen)
        have B1 := (Y1.set (.slice (some ⟨gg, 0, none⟩) sz.length cap)).other hn1 (.int .i64 0)
        have B2 := (Y2.other (Ne.symm hn1) (.slice (some ⟨gg, 0, none⟩) sz.length cap)).set (.int .i64 0)
        have K3 : w1.heap[D]? = some (.deferred (some [])) := (k3.block _ (Array.getElem?_eq_some_iff.1 K2).1).trans K2
        have hsz := hI.low.size
        have hX2l := X2.lt
        have hsz2 := hI.sz
        have KD : ((w1.setCell ⟨w.heap.size + 1, 0, none⟩ (.slice (some ⟨gg, 0, none⟩) sz.length cap)).setCell ⟨w.heap.size + 1 + 1, 0, none⟩ (.int .i64 0)).heap[D]? = some (.deferred (some [])) := ((KeepsOthers.setCell _ _ _).same D _ ((KeepsOthers.setCell _ _ _).same D _ K3 rfl) rfl)
        have LL : Below w.heap.size w ((w1.setCell ⟨w.heap.size + 1, 0, none⟩ (.slice (some ⟨gg, 0, none⟩) sz.length cap)).setCell ⟨w.heap.size + 1 + 1, 0, none⟩ (.int .i64 0)) := (Below.setCell (p := ⟨w.heap.size + 1 + 1, 0, none⟩) (Below.setCell (p := ⟨w.heap.size + 1, 0, none⟩) (L2.trans (k3.mono L2.size)) (show _ ≤ w.heap.size + 1 by omega) _) (show _ ≤ w.heap.size + 1 + 1 by omega) _)
        have e4 := cell_kept (B1).cell (grownBy_putObj' _ D (.deferred none)) (fun r e => by cases e; exact ⟨_, KD, rfl⟩)
        have e5 := cell_kept (B2).cell (grownBy_putObj' _ D (.deferred none)) (fun r e => by cases e; exact ⟨_, KD, rfl⟩)
        refine ⟨by simp, .inl ⟨_, _, rfl, run_takeDeferred KD, ?_⟩⟩
        refine ⟨.tuple #[.slice (some ⟨gg, 0, none⟩) sz.length cap, .int .i64 0], ?_, ?_⟩
        · simp [results, Tryz.f23, go_sem, e4, e5]
        · exact ⟨(LL).grown (grownBy_putObj' _ D _) (LL).size (fun r e => by cases e; omega), _, _, rfl, .inr ⟨hnone, .inr ⟨rfl, rfl, .inr ⟨by simp, k2, ownsRow_putObj (ownsRow_set (ownsRow_set k1 L2.size (by omega)) (Nat.le_refl _) (by omega)) _ KD rfl⟩⟩⟩⟩
  · intro D c pre W hD hSp hx hK
    obtain ⟨t, ht, hp⟩ := hSp
    obtain ⟨pre', x, v', rfl, hx2, hx3, hx4, hx5, hx6, hx7, hx8, hx9⟩ := hx
    gi_wp2
    have hd := hx5.cell
    refine ⟨by simp, .inl ⟨_, _, rfl, run_takeDeferred hK, ?_⟩⟩
    have hc4 := cell_kept hx5.cell (grownBy_putObj' _ D (.deferred none)) (fun r e => by cases e; exact ⟨_, hK, rfl⟩)
    have hc5 := cell_kept hx6.cell (grownBy_putObj' _ D (.deferred none)) (fun r e => by cases e; exact ⟨_, hK, rfl⟩)
    refine ⟨.tuple #[v', .int .i64 0], ?_, ?_⟩
    · simp [results, Tryz.f23, go_sem, hc4, hc5]
    · refine ⟨hx7.grown (grownBy_putObj' _ D _) hx7.size (fun r e => by cases e; omega), v', 0, rfl, .inl ⟨x, hx4, fun y hy => ?_, rfl, hx9, ownsRow_putObj hx8 _ hK rfl⟩⟩
      rw [wPre_succ len t ht, hx2] at hp
      obtain ⟨e1, e2⟩ := List.append_inj' hp rfl
      subst e1
      refine hx3 y (mem_wPre len t (by omega) y ?_)
      have : x.val = len - 1 - t := by have := List.singleton_inj.1 e2; rw [this]
      omega
end Go.Proofs
