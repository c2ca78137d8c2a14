/- slices.Clone of bytes: what it answers. -/
import Derived.Test.YtcgpmbjoobilcaaGreatDoorProg
import Derived.WalkKit
import Derived.Deep.LoopGhost
import Derived.Lib.Walk
import Derived.Lib.SliceRun
import Derived.Shelf.Spec.SlicesInsert
import Derived.Lib.AppendZerosOnto
import Derived.Laws.NewBlocks
import Derived.Test.YtcgpmbjoobilcaaGreatDoorAxF
set_option linter.unusedSimpArgs false
set_option linter.unusedVariables false
namespace Go.Proofs
open Go Go.RowKit Go.Lib
theorem Tryz.info5z : (Tryz.prog.info? 5).map (fun i => (i.zero, i.size, i.bytes)) = some (some (.int .u8 0), 1, 1) := by kernel_rfl
set_option maxHeartbeats 2000000 in
set_option maxRecDepth 100000 in
theorem clone_any (b off n c : Nat) (zs : List Value) (w : World) (hn : zs.length = n) (h1 : ∀ u ∈ zs, u.oneCell' = true) (hbig : n ≤ 1000000) (hc : ∀ j (h : j < zs.length), w.cell? ⟨b, off + j, none⟩ = some zs[j]) :
  Calls Tryz.prog 130 #[.slice (some ⟨b, off, none⟩) n c] w fun e w' => ∃ v', e = .returned v' ∧ w'.ownsRow w.heap.size 5 1 v' n zs ∧ v' ≠ .slice none 0 0 ∧ Below w.heap.size w w' := by
 obtain ⟨i0, hi, hz0, hz1, hz2⟩ := info_parts Tryz.info5z
 have q42 : ∀ (w : World) (a : Option Addr) (n c n' c' : Nat), (binOp .eql 91 (.slice a n c) (.slice none n' c')).run Tryz.prog w = .ok (.bool a.isNone) w := fun w a n c n' c' => Lib.run_eql_slice_nil w _ _ a n c n' c' Tryz.underlying91
 have A : Aside (∀ j (h : j < zs.length), w.cell? ⟨b, off + j, none⟩ = some zs[j]) := hc
 clear hc
 go_enter Tryz.func130, Tryz.ntmps130
 go_wp2_with (at_builtin; refine wpList_append_own _ rfl _ _ 91 rfl w.heap.size 5 i0 (.int .u8 0) 1 1 Tryz.underlying91 hi hz0 hz1 hz2 rfl (by decide) _ _ _ rfl (World.ownsRow_made w #[] 0 (Nat.le_refl _) (Nat.zero_le _) rfl) ⟨b, off, none⟩ n c zs rfl ?qc1 ?qc2 ?qc3 ?qc4 ?qc5 ?qc6 ?_)
 case qc1 => simp; omega
 case qc2 =>
  intro j u hj
  have hjn : j < zs.length := (List.getElem?_eq_some_iff.1 hj).1
  rw [Addr.add_lit]
  refine Lib.cell?_alloc_some _ ?_
  rw [A.out j hjn]
  rw [List.getElem?_eq_getElem hjn] at hj
  exact hj
 case qc3 => exact h1
 case qc4 => unfold maxLen; omega
 case qc5 => omega
 case qc6 => simp
 intro v' w1 hown hgrow hnil
 go_wp2
 go_ret
 refine ⟨v', rfl, by simpa using hown, hnil, ?_⟩
 exact ((Below.refl _ w).alloc (Nat.le_refl _) _).grown hgrow (by simp) (by intro k hk; simp [Value.ownBlock] at hk; omega)
end Go.Proofs
/- slices.Insert of pairs, ahead of the end: what it answers. -/
namespace Go.Proofs
open Go Go.RowKit Go.Lib
theorem run_copy_cellsN {P : Program} (k : Nat) (w : World) (dT sT ty elem : TypeId) (b o dLen dCap : Nat) (a : Addr) (sLen sCap : Nat) (cs : List Value)
  (hu : P.underlying dT = some (.slice elem)) (hs : (P.info? elem).map (·.size) = some k) (hn : cs.length = Nat.min sLen dLen * k)
  (hsrc : ∀ j v, cs[j]? = some v → w.cell? (a.add j) = some v) (hc : ∀ j, j < cs.length → (w.cell? ⟨b, o + j, none⟩).isSome = true) (hf : ∀ j, j < cs.length → w.frozen? ⟨b, o + j, none⟩ = false) (h1 : ∀ v ∈ cs, v.oneCell' = true) :
  (Builtin.copy_ #[dT, sT] ty #[.slice (some ⟨b, o, none⟩) dLen dCap, .slice (some a) sLen sCap]).run P w = .ok (goInt (Nat.min sLen dLen)) (w.setCells b o cs) := by
 have hl := run_loadCells_list (P := P) w a cs hsrc
 have hst := run_storeCells_cells (P := P) b o cs 0 w (by simpa using hc) (by simpa using hf) h1
 cases hq : P.info? elem with
 | none => simp [hq] at hs
 | some i =>
  have hi : i.size = k := by simpa [hq] using hs
  simp [Builtin.copy_, run_underlying hu, Builtin.lenOf, Builtin.firstCells, sizeOf, typeInfo, hq, hi, ← hn, hl, hst]
theorem Tryz.info174z : (Tryz.prog.info? 174).map (fun i => (i.zero, i.size, i.bytes)) = some (some (.agg #[.string ⟨#[]⟩, .string ⟨#[]⟩]), 2, 32) := by kernel_rfl
theorem Tryz.size174 : (Tryz.prog.info? 174).map (·.size) = some 2 := by kernel_rfl
set_option maxHeartbeats 4000000 in
set_option maxRecDepth 100000 in
theorem ins_shift (b off n c i vb voff m vc : Nat) (cs vs : List Value) (w : World) (hi : i < n) (hm : 0 < m) (hroom : n + m ≤ c) (hc63 : n + m ≤ 1000000) (hvb : vb ≠ b)
  (hcl : cs.length = n * 2) (hvl : vs.length = m * 2)
  (hcs : ∀ j v, cs[j]? = some v → w.cell? ⟨b, off + j, none⟩ = some v) (hsp : ∀ j, j < (n + m) * 2 → (w.cell? ⟨b, off + j, none⟩).isSome = true) (hfz : ∀ j, j < (n + m) * 2 → w.frozen? ⟨b, off + j, none⟩ = false)
  (hvs : ∀ j v, vs[j]? = some v → w.cell? ⟨vb, voff + j, none⟩ = some v) (h1c : ∀ v ∈ cs, v.oneCell' = true) (h1v : ∀ v ∈ vs, v.oneCell' = true)
  (tA tB : TypeId) (kA kB : Nat) (hsa : w.shape? vb = some (tA, kA)) (hsb : w.shape? b = some (tB, kB)) (hkB : kB ≠ 0) (hfa : w.frozen? ⟨vb, voff, none⟩ = false) (hfe : w.frozen? ⟨vb, kA, none⟩ = false) :
  Calls Tryz.prog 197 #[.slice (some ⟨b, off, none⟩) n c, .int .i64 i, .slice (some ⟨vb, voff, none⟩) m vc] w fun e w' =>
   e = .returned (.slice (some ⟨b, off, none⟩) (n + m) c) ∧ w' = (w.drew.setCells b (off + (i + m) * 2) (cs.drop (i * 2))).setCells b (off + i * 2) vs := by
 have hz1 : ¬ ((m : Int) = 0) := by omega
 have hz2 : ¬ ((i : Int) = (n : Int)) := by omega
 have hsz := Tryz.size174
 have hov : ∀ lb cb, (callFunc 299 #[.slice (some ⟨vb, voff, none⟩) m vc, .slice (some ⟨b, off + (i + m) * 2, none⟩) lb cb]).run Tryz.prog w = .ok (.value (.bool false)) w := fun lb cb => by
  rw [run_callFunc_extern Tryz.func299 (by kernel_rfl) (by kernel_rfl) (by kernel_rfl) (e := Extern.SlicesOverlaps.overlaps #[170, 170] #[4]) (by kernel_rfl),
   Lib.run_overlaps_apart w 170 4 174 Tryz.underlying170 2 (fun w => by obtain ⟨i0, hi0, h0, h1, h2⟩ := info_parts Tryz.info174z; simp [sizeOf, typeInfo, hi0, h1]) ⟨vb, voff, none⟩ ⟨b, off + (i + m) * 2, none⟩ m vc lb cb hvb tA tB kA kB hsa hsb hkB hfa hfe]
  rfl
 have hdl : (cs.drop (i * 2)).length = (n - i) * 2 := by rw [List.length_drop, hcl]; omega
 have hw1 : IntKind.i64.wrap ((i : Int) + (m : Int)) = (i : Int) + (m : Int) := by rw [IntKind.wrap_i64]; omega
 have hb1 : (0 : Int) ≤ (i : Int) + (m : Int) := by omega
 have hin : i ≤ n := by omega
 have htn : ((i : Int) + (m : Int)).toNat = i + m := by omega
 have hb2 : ¬ (c = i + m) := by omega
 have hb3 : (i : Int) ≤ (n : Int) + (m : Int) := by omega
 have hb4 : ¬ (c = i) := by omega
 have hcp1 : ∀ ty dc sc, (Builtin.copy_ #[170, 170] ty #[.slice (some ⟨b, off + (i + m) * 2, none⟩) (n + m - (i + m)) dc, .slice (some ⟨b, off + i * 2, none⟩) (n + m - i) sc]).run Tryz.prog w.drew = .ok (goInt (Nat.min (n + m - i) (n + m - (i + m)))) (w.drew.setCells b (off + (i + m) * 2) (cs.drop (i * 2))) := fun ty dc sc =>
  run_copy_cellsN 2 w.drew _ _ ty 174 b (off + (i + m) * 2) (n + m - (i + m)) dc ⟨b, off + i * 2, none⟩ (n + m - i) sc (cs.drop (i * 2)) Tryz.underlying170 hsz (by rw [hdl]; simp only [Nat.min_def]; split <;> omega)
   (fun j v hj => by rw [Addr.add_lit, Nat.add_assoc]; exact hcs (i * 2 + j) v (by rwa [List.getElem?_drop] at hj))
   (fun j hj => by rw [Nat.add_assoc]; exact hsp _ (by omega)) (fun j hj => by rw [Nat.add_assoc]; exact hfz _ (by omega)) (fun v hv => h1c v (List.mem_of_mem_drop hv))
 obtain ⟨W1, hW1⟩ : ∃ W1, W1 = w.drew.setCells b (off + (i + m) * 2) (cs.drop (i * 2)) := ⟨_, rfl⟩
 have hsp1 : ∀ k, k < (n + m) * 2 → (W1.cell? ⟨b, off + k, none⟩).isSome = true := fun k hk => by
  rw [hW1]
  exact isSome_setCells b _ _ _ (fun j hj => by rw [Nat.add_assoc]; exact hsp _ (by omega)) _ (hsp k hk)
 have hcp2 : ∀ (W : World), (∀ x, W.cell? x = W1.cell? x) → (∀ x, W.frozen? x = W1.frozen? x) → ∀ ty dc, (Builtin.copy_ #[170, 170] ty #[.slice (some ⟨b, off + i * 2, none⟩) (n + m - i) dc, .slice (some ⟨vb, voff, none⟩) m vc]).run Tryz.prog W = .ok (goInt (Nat.min m (n + m - i))) (W.setCells b (off + i * 2) vs) := fun W hWc hWf ty dc =>
  run_copy_cellsN 2 W _ _ ty 174 b (off + i * 2) (n + m - i) dc ⟨vb, voff, none⟩ m vc vs Tryz.underlying170 hsz (by rw [hvl]; simp only [Nat.min_def]; split <;> omega)
   (fun j v hj => by
    rw [Addr.add_lit, hWc, hW1, World.cell?_setCells_out b _ _ _ _ (fun h _ => absurd h hvb)]
    exact hvs j v hj)
   (fun j hj => by rw [hWc, Nat.add_assoc]; exact hsp1 _ (by omega)) (fun j hj => by rw [hWf, hW1, World.frozen?_setCells, Nat.add_assoc]; exact hfz _ (by omega)) h1v
 rw [← hW1] at hcp1
 have mixed : Tryz.prog.follows Departure.mixedOrders = true := by kernel_rfl
 go_enter Tryz.func197, Tryz.ntmps197
 go_wp2_with (simp only [hov])
 go_region_law_o (refine step_copy_runI rfl _ _ 170 170 rfl _ _ (by simp [Act.eval, Act.put]) (by simp [Act.eval, Act.put]) (hcp1 _ _ _) ?_)
 go_wp2_with (at_builtin; refine wpList_copy_runI _ rfl _ _ 170 170 rfl _ _ rfl rfl (hcp2 _ (fun _ => rfl) (fun _ => rfl) _ _) ?_)
 go_ret
 first | exact ⟨rfl, rfl⟩ | exact ⟨rfl, by rw [hW1]⟩
set_option maxHeartbeats 4000000 in
set_option maxRecDepth 100000 in
theorem ins_grow (b off n c i vb voff m vc : Nat) (cs vs : List Value) (w : World) (hi : i < n) (hm : 0 < m) (hnc : n ≤ c) (hroom : c < n + m) (hbig : (n + m) * 32 ≤ 140737488355328)
  (hcl : cs.length = n * 2) (hvl : vs.length = m * 2) (hbw : b < w.heap.size) (hvw : vb < w.heap.size)
  (hcs : ∀ j v, cs[j]? = some v → w.cell? ⟨b, off + j, none⟩ = some v)
  (hvs : ∀ j v, vs[j]? = some v → w.cell? ⟨vb, voff + j, none⟩ = some v) (h1c : ∀ v ∈ cs, v.oneCell' = true) (h1v : ∀ v ∈ vs, v.oneCell' = true) :
  Calls Tryz.prog 197 #[.slice (some ⟨b, off, none⟩) n c, .int .i64 i, .slice (some ⟨vb, voff, none⟩) m vc] w fun e w' =>
   ∃ (G : Nat) (ROW : Array Value), n + m ≤ G ∧ G ≤ 9223372036854775807 ∧ ROW.size = G * 2 ∧ (∀ (j : Nat) (v : Value), (cs.take (i * 2))[j]? = some v → ROW[j]? = some v) ∧ e = .returned (.slice (some ⟨w.heap.size, 0, none⟩) (n + m) G) ∧
   w' = (((w.alloc (.cells ROW 174)).drew.setCells w.heap.size (i * 2) vs).drew).setCells w.heap.size ((i + m) * 2) (cs.drop (i * 2)) := by
 obtain ⟨i0, hi0, hz0, hzs, hzb⟩ := info_parts Tryz.info174z
 have hz1 : ¬ ((m : Int) = 0) := by omega
 have hz2 : ¬ ((i : Int) = (n : Int)) := by omega
 have hz3 : (c : Int) < (n : Int) + (m : Int) := by omega
 have hsz := Tryz.size174
 have hkk : (n : Int) + (m : Int) - (i : Int) = ((n + m - i : Nat) : Int) := by omega
 have hik : i + (n + m - i) = n + m := by omega
 have hold : (Builtin.firstCells i0.size i (.slice (some ⟨b, off, none⟩) i c)).run Tryz.prog w.drew = .ok (cs.take (i * 2)).toArray w.drew := by
  rw [hzs]
  exact run_firstCells_some w.drew 2 i ⟨b, off, none⟩ i c (cs.take (i * 2)) (by rw [List.length_take]; omega) (fun j v hj => by
   rw [Addr.add_lit]
   rw [List.getElem?_take] at hj
   split at hj
   ·exact hcs j v hj
   ·cases hj)
 have hrz : ∀ ty, (Builtin.append_ #[170, 3] ty #[.slice (some ⟨b, off, none⟩) i c, .int .i64 ((n : Int) + (m : Int) - (i : Int))]).run Tryz.prog w =
   .ok (.slice (some ⟨w.heap.size, 0, none⟩) (n + m) (grownCap w (n + m) c 174)) (w.drew.alloc (.cells ((cs.take (i * 2)).toArray ++ Builtin.zeroCells (Value.agg #[.string ⟨#[]⟩, .string ⟨#[]⟩]).cells (n + m - i) ++ Builtin.zeroCells (Value.agg #[.string ⟨#[]⟩, .string ⟨#[]⟩]).cells (grownCap w (n + m) c 174 - (n + m))) 174)) := fun ty => by
  have h := Lib.run_append_grow_zeros w 170 3 ty 174 i0 _ .i64 .i64 Tryz.underlying170 Tryz.underlying3 hi0 hz0 (some ⟨b, off, none⟩) i c (cs.take (i * 2)) hold (n + m - i) (by omega) (by omega) (by omega) (by omega) (by rw [hzb]; omega) (by rw [hzb, hik]; exact growslice_fits hroom hbig)
  rw [hik] at h
  rw [hkk]
  exact h
 obtain ⟨G, hG⟩ : ∃ G, G = grownCap w (n + m) c 174 := ⟨_, rfl⟩
 have hGn : n + m ≤ G := by rw [hG]; exact grownCap_ge w _ _ _
 have hG63 : G ≤ 9223372036854775807 := by
  have := grownCap_le_maxLen w (n + m) c 174 (by unfold maxLen; omega)
  rw [← hG] at this
  unfold maxLen at this
  omega
 obtain ⟨ROW, hROW⟩ : ∃ ROW : Array Value, ROW = (cs.take (i * 2)).toArray ++ Builtin.zeroCells (Value.agg #[.string ⟨#[]⟩, .string ⟨#[]⟩]).cells (n + m - i) ++ Builtin.zeroCells (Value.agg #[.string ⟨#[]⟩, .string ⟨#[]⟩]).cells (G - (n + m)) := ⟨_, rfl⟩
 rw [← hG] at hrz
 rw [← hROW] at hrz
 have hRs : ROW.size = G * 2 := by
  rw [hROW]
  simp [Builtin.zeroCells, Value.cells]
  omega
 have hRt : ∀ (j : Nat) (v : Value), (cs.take (i * 2))[j]? = some v → ROW[j]? = some v := fun j v hj => by
  rw [hROW, Array.append_assoc, Array.getElem?_append_left (by have := (List.getElem?_eq_some_iff.1 hj).1; simpa using this)]
  simpa using hj
 obtain ⟨W1, hW1⟩ : ∃ W1, W1 = w.drew.alloc (.cells ROW 174) := ⟨_, rfl⟩
 rw [← hW1] at hrz
 have hN : ∀ j, j < (n + m) * 2 → (W1.cell? ⟨w.heap.size, j, none⟩).isSome = true := fun j hj => by
  rw [hW1, World.cell?_alloc_at (w := w.drew) ROW _ w.heap.size j rfl, Array.getElem?_eq_getElem (by omega)]; rfl
 have hNf : ∀ j, W1.frozen? ⟨w.heap.size, j, none⟩ = false := fun j => by rw [hW1]; exact World.frozen?_alloc_at (w := w.drew) ROW _ w.heap.size j rfl
 have hOb : ∀ j v, w.cell? ⟨b, j, none⟩ = some v → W1.cell? ⟨b, j, none⟩ = some v := fun j v h => by rw [hW1, World.cell?_alloc_past (w := w.drew) _ b j hbw]; exact h
 have hOv : ∀ j v, w.cell? ⟨vb, j, none⟩ = some v → W1.cell? ⟨vb, j, none⟩ = some v := fun j v h => by rw [hW1, World.cell?_alloc_past (w := w.drew) _ vb j hvw]; exact h
 have hcpA : ∀ (W : World), (∀ x, W.cell? x = W1.cell? x) → (∀ x, W.frozen? x = W1.frozen? x) → ∀ ty dc, (Builtin.copy_ #[170, 170] ty #[.slice (some ⟨w.heap.size, i * 2, none⟩) (n + m - i) dc, .slice (some ⟨vb, voff, none⟩) m vc]).run Tryz.prog W = .ok (goInt (Nat.min m (n + m - i))) (W.setCells w.heap.size (i * 2) vs) := fun W hWc hWf ty dc =>
  run_copy_cellsN 2 W _ _ ty 174 w.heap.size (i * 2) (n + m - i) dc ⟨vb, voff, none⟩ m vc vs Tryz.underlying170 hsz (by rw [hvl]; simp only [Nat.min_def]; split <;> omega)
   (fun j v hj => by rw [Addr.add_lit, hWc]; exact hOv _ v (hvs j v hj))
   (fun j hj => by rw [hWc]; exact hN _ (by omega)) (fun j hj => by rw [hWf]; exact hNf _) h1v
 have hGi : ¬ (G = i) := by omega
 have hGim : ¬ (G = i + m) := by omega
 have hci : ¬ (c = i) := by omega
 have hbN : b ≠ w.heap.size := by omega
 have hdl : (cs.drop (i * 2)).length = (n - i) * 2 := by rw [List.length_drop, hcl]; omega
 have hcpB : ∀ (W : World), (∀ x, W.cell? x = (W1.setCells w.heap.size (i * 2) vs).cell? x) → (∀ x, W.frozen? x = (W1.setCells w.heap.size (i * 2) vs).frozen? x) → ∀ ty dc sc, (Builtin.copy_ #[170, 170] ty #[.slice (some ⟨w.heap.size, (i + m) * 2, none⟩) (n + m - (i + m)) dc, .slice (some ⟨b, off + i * 2, none⟩) (n - i) sc]).run Tryz.prog W = .ok (goInt (Nat.min (n - i) (n + m - (i + m)))) (W.setCells w.heap.size ((i + m) * 2) (cs.drop (i * 2))) := fun W hWc hWf ty dc sc =>
  run_copy_cellsN 2 W _ _ ty 174 w.heap.size ((i + m) * 2) (n + m - (i + m)) dc ⟨b, off + i * 2, none⟩ (n - i) sc (cs.drop (i * 2)) Tryz.underlying170 hsz (by rw [hdl]; simp only [Nat.min_def]; split <;> omega)
   (fun j v hj => by
    rw [Addr.add_lit, hWc, World.cell?_setCells_out _ _ _ _ _ (fun h _ => absurd h hbN), Nat.add_assoc]
    exact hOb _ v (hcs (i * 2 + j) v (by rwa [List.getElem?_drop] at hj)))
   (fun j hj => by rw [hWc]; exact isSome_setCells _ _ _ _ (fun t ht => hN _ (by omega)) _ (hN _ (by omega)))
   (fun j hj => by rw [hWf, World.frozen?_setCells]; exact hNf _) (fun v hv => h1c v (List.mem_of_mem_drop hv))
 subst hW1
 have hE1 : ∀ x, ((w.alloc (.cells ROW 174)).drew).cell? x = (w.drew.alloc (.cells ROW 174)).cell? x := fun x => rfl
 have hE2 : ∀ x, ((w.alloc (.cells ROW 174)).drew).frozen? x = (w.drew.alloc (.cells ROW 174)).frozen? x := fun x => rfl
 have hF1 : ∀ x, (((w.alloc (.cells ROW 174)).drew.setCells w.heap.size (i * 2) vs).drew).cell? x = ((w.drew.alloc (.cells ROW 174)).setCells w.heap.size (i * 2) vs).cell? x := fun x => rfl
 have hF2 : ∀ x, (((w.alloc (.cells ROW 174)).drew.setCells w.heap.size (i * 2) vs).drew).frozen? x = ((w.drew.alloc (.cells ROW 174)).setCells w.heap.size (i * 2) vs).frozen? x := fun x => rfl
 have hw1 : IntKind.i64.wrap ((i : Int) + (m : Int)) = (i : Int) + (m : Int) := by rw [IntKind.wrap_i64]; omega
 have hb1 : (0 : Int) ≤ (i : Int) + (m : Int) := by omega
 have hin : i ≤ n := by omega
 have htn : ((i : Int) + (m : Int)).toNat = i + m := by omega
 have hb3 : (i : Int) ≤ (n : Int) := by omega
 clear hkk hik hold hROW hG
 have mixed : Tryz.prog.follows Departure.mixedOrders = true := by kernel_rfl
 go_enter Tryz.func197, Tryz.ntmps197
 go_wp2_with (first
  | (at_builtin; refine Lib.wpList_append_run _ rfl _ _ _ _ rfl _ _ rfl rfl _ _ (hrz _) ?_)
  | (at_builtin; refine wpList_copy_runI _ rfl _ _ 170 170 rfl _ _ rfl rfl (hcpA _ hE1 hE2 _ _) ?_)
  | (at_builtin; refine wpList_copy_runI _ rfl _ _ 170 170 rfl _ _ rfl rfl (hcpB _ (fun _ => rfl) (fun _ => rfl) _ _ _) ?_))
 go_region_law_o (refine step_copy_runI rfl _ _ 170 170 rfl (.slice (some ⟨w.heap.size, (i + m) * 2, none⟩) (n + m - (i + m)) (G - (i + m))) (.slice (some ⟨b, off + i * 2, none⟩) (n - i) (c - i)) (by simp [Act.eval, Act.put]) (by simp [Act.eval, Act.put]) (hcpB _ hF1 hF2 3 (G - (i + m)) (c - i)) ?_)
 go_wp2
 go_ret
 exact ⟨G, ROW, hGn, hG63, hRs, hRt, rfl, rfl⟩
end Go.Proofs
/- slices.Insert of pairs, for the machine. -/
namespace Go.Proofs
open Go Go.RowKit Go.Lib Go.Ax
noncomputable def insP : List Value → AS → Option (Value × AS)
 | [.slice (some ⟨a, o, none⟩) n c, .int .i64 (.ofNat k), .slice (some ⟨vb, vo, none⟩) m vc], s => match s.h.get a, s.h.get vb with
  | some (.cells ca na za), some (.cells cv nv zv) =>
   bif Nat.beq (zs za) 2 && (Nat.beq (za % 2) 0 && (Nat.beq (zv % 2) 0 && (Nat.ble 1 m && (Nat.blt k n && (Nat.ble (n + m) 1000000 && (!Nat.beq a vb && (Nat.beq (c % 2) 0 && Nat.ble 1 nv))))))) then
    (match Go.Ax.rdN s a o (n * 2), Go.Ax.rdN s vb vo (m * 2) with
    | some l, some r => bif ones l && ones r then some (.slice (some ⟨s.nx, 0, none⟩) (n + m) (2 * (n + m)), (s.upd a .dead).rowz (zg 2 za 174) (l.take (k * 2) ++ (r ++ l.drop (k * 2)))) else none
    | _, _ => none) else none
  | _, _ => none
 | _, _ => none
theorem three_get {l r : List Value} {n m k : Nat} (hl : l.length = n * 2) (hr : r.length = m * 2) (hk : k < n) (j : Nat) (hj : j < (n + m) * 2) :
  (l.take (k * 2) ++ (r ++ l.drop (k * 2)))[j]? = if j < k * 2 then l[j]? else if j < (k + m) * 2 then r[j - k * 2]? else l[j - m * 2]? := by
 rw [List.getElem?_append, List.length_take, hl]
 have : min (k * 2) (n * 2) = k * 2 := by omega
 rw [this]
 split
 ·rw [List.getElem?_take, if_pos (by assumption)]
 ·rw [List.getElem?_append, hr]
  split
  ·rw [if_pos (by omega)]
  ·rw [if_neg (by omega), List.getElem?_drop]
   congr 1
   omega
theorem ones_cell2 {l : List Value} (h : ones l = true) : ∀ u ∈ l, u.oneCell' = true := by
 induction l with
 | nil => intro u hu; cases hu
 | cons v l ih =>
  simp only [ones, Bool.and_eq_true] at h
  intro u hu
  rcases List.mem_cons.1 hu with rfl | hu
  ·cases u <;> first | rfl | cases h.1
  ·exact ih h.2 u hu
theorem enter197 (args : Array Value) (w : World) : (callFunc 197 args).run Tryz.prog w = .ok (.enter 197 args) w := by
 unfold callFunc
 have hf : Tryz.prog.funcs[197]? = some Tryz.f197 := Tryz.func197
 have hn : Tryz.f197.name ≠ "runtime.NumGoroutine" := by
  have : (Tryz.f197.name == "runtime.NumGoroutine") = false := by kernel_rfl
  simpa using this
 have hb : Tryz.f197.body ≠ none := by
  have : Tryz.f197.body.isNone = false := by kernel_rfl
  intro h; rw [h] at this; cases this
 simp [hf, hn, hb]
theorem VRs.three {i : Io} {l l' r r' : List Value} (hl : VRs i l l') (hr : VRs i r r') (k : Nat) : VRs i (l.take k ++ (r ++ l.drop k)) (l'.take k ++ (r' ++ l'.drop k)) :=
 (hl.take k).append (hr.append (hl.drop k))
theorem ins_ok : POk Tryz.prog 197 insP := by
 intro args s v s' h i w args' hR hg ha
 unfold insP at h
 split at h
 ·rename_i a o n c k vb vo m vc
  split at h
  ·rename_i ca na za cv nv zv hba hbv
   cases hb : (Nat.beq (zs za) 2 && (Nat.beq (za % 2) 0 && (Nat.beq (zv % 2) 0 && (Nat.ble 1 m && (Nat.blt k n && (Nat.ble (n + m) 1000000 && (!Nat.beq a vb && (Nat.beq (c % 2) 0 && Nat.ble 1 nv)))))))) with
   | false => rw [hb] at h; cases h
   | true =>
    rw [hb, cond_true] at h
    simp only [Bool.and_eq_true, Nat.blt_eq, Nat.ble_eq, Nat.beq_eq, Bool.not_eq_true'] at hb
    obtain ⟨hza, hz2, hzv, hm1, hkn, hnm, hne, hc2, hnv⟩ := hb
    have hne' : a ≠ vb := fun e => by subst e; rw [Nat.beq_refl] at hne; cases hne
    split at h
    ·rename_i l r hl hr
     cases ho : (ones l && ones r) with
     | false => rw [ho] at h; cases h
     | true =>
      rw [ho, cond_true] at h
      cases h
      simp only [Bool.and_eq_true] at ho
      cases ha with | cons a1 ha =>
      cases ha with | cons a2 ha =>
      cases ha with | cons a3 ha =>
      cases ha
      cases a2
      cases a1 with | @slice _ _ q t _ _ p c' hia x1 x2 x3 x4 x5 =>
      cases a3 with | @slice _ _ qv tv _ _ pv vc' hiv y1 y2 y3 y4 y5 =>
      have hp : p = t + o := x4.resolve_right (by omega)
      have hpv : pv = tv + vo := y4.resolve_right (by omega)
      subst hp hpv
      obtain ⟨cs, e, fr, h1, h2, h3, h4, h5⟩ := hR.at (P := default) hba rfl hia
      obtain ⟨cs2, e2, fr2, g1, g2, g3, g4, g5⟩ := hR.at (P := default) hbv rfl hiv
      have hfr : fr.1 = fr.2 := h3.resolve_right (fun h => by omega)
      have hfr2 : fr2.1 = fr2.2 := g3.resolve_right (fun h => by omega)
      obtain ⟨l', l1, l2, l3⟩ := hR.rdC hba hl hia h1
      obtain ⟨r', r1, r2, r3⟩ := hR.rdC hbv hr hiv g1
      have hl' : l'.length = n * 2 := by rw [← l1.length]; exact l2
      have hr' : r'.length = m * 2 := by rw [← r1.length]; exact r2
      have hqv : qv ≠ q := fun e => by subst e; exact hne' (hR.inj a vb _ _ _ _ _ hba hbv rfl rfl hia hiv)
      obtain ⟨m1, m2⟩ := hR.lim a ca na za q t hba hia
      have hroomA := m2 cs e fr h1
      have hcell : ∀ (b : Nat) (cs : Array Value) (e : TypeId) (fr : Nat × Nat), w.heap[b]? = some (.cells cs e fr) → ∀ j, w.cell? ⟨b, j, none⟩ = cs[j]? := fun b cs e fr hb j => by simp [World.cell?, hb]
      have hfroz : ∀ (b : Nat) (cs : Array Value) (e : TypeId) (fr : Nat × Nat), w.heap[b]? = some (.cells cs e fr) → fr.1 = fr.2 → ∀ j, w.frozen? ⟨b, j, none⟩ = false := fun b cs e fr hb hf j => by
       unfold World.frozen?
       simp [hb, hf]
       try omega
      have hcs : ∀ j v, l'[j]? = some v → w.cell? ⟨q, t + o + j, none⟩ = some v := fun j v hj => by
       have hjn := (List.getElem?_eq_some_iff.1 hj).1
       rw [hcell q cs e fr h1, l3 j (by omega)]; exact hj
      have hvs : ∀ j v, r'[j]? = some v → w.cell? ⟨qv, tv + vo + j, none⟩ = some v := fun j v hj => by
       have hjn := (List.getElem?_eq_some_iff.1 hj).1
       rw [hcell qv cs2 e2 fr2 g1, r3 j (by omega)]; exact hj
      have hL : ∀ j, j < (n + m) * 2 → (l'.take (k * 2) ++ (r' ++ l'.drop (k * 2)))[j]? = if j < k * 2 then l'[j]? else if j < (k + m) * 2 then r'[j - k * 2]? else l'[j - m * 2]? := fun j hj => three_get hl' hr' hkn j hj
      have hv := VRs.three l1 r1 (k * 2)
      have hLl : (l.take (k * 2) ++ (r ++ l.drop (k * 2))).length = (n + m) * 2 := by
       rw [hv.length]
       simp [hl', hr']
       omega
      obtain ⟨L, hLe⟩ : ∃ L, L = l.take (k * 2) ++ (r ++ l.drop (k * 2)) := ⟨_, rfl⟩
      obtain ⟨L', hLe'⟩ : ∃ L', L' = l'.take (k * 2) ++ (r' ++ l'.drop (k * 2)) := ⟨_, rfl⟩
      rw [← hLe, ← hLe'] at hv
      rw [← hLe] at hLl ⊢
      rw [← hLe'] at hL
      have hdl : (l'.drop (k * 2)).length = (n - k) * 2 := by rw [List.length_drop, hl']; omega
      rcases Nat.lt_or_ge c' (n + m) with hgrow | hroom
      ·have hc := ins_grow q (t + o) n c' k qv (tv + vo) m vc' l' r' w hkn hm1 (by omega) hgrow (by omega) hl' hr' (block_lt_of_cell (hcs 0 _ (List.getElem?_eq_getElem (by omega)))) (block_lt_of_cell (hvs 0 _ (List.getElem?_eq_getElem (by omega)))) hcs hvs
        (ones_cell2 (by rw [l1.ones]; exact ho.1)) (ones_cell2 (by rw [r1.ones]; exact ho.2))
       refine .inr ⟨enter197 _ _, Calls.mono hc (fun e w' he => ?_)⟩
       obtain ⟨G, ROW, k1, k2, k3, k4, rfl, rfl⟩ := he
       obtain ⟨hRk, hFk⟩ := hR.kill hba
       obtain ⟨ca1, p1, p2, p3⟩ := setCells_row r' (k * 2) (w.alloc (.cells ROW 174)).drew ROW (World.alloc_heap_new w _)
       obtain ⟨ca2, p4, p5, p6⟩ := setCells_row (l'.drop (k * 2)) ((k + m) * 2) ((w.alloc (.cells ROW 174)).drew.setCells w.heap.size (k * 2) r').drew ca1 p1
       obtain ⟨w', hw'⟩ : ∃ w', w' = (((w.alloc (.cells ROW 174)).drew.setCells w.heap.size (k * 2) r').drew).setCells w.heap.size ((k + m) * 2) (l'.drop (k * 2)) := ⟨_, rfl⟩
       rw [← hw'] at p4 ⊢
       have hbel : Below w.heap.size w w' := by
        rw [hw']
        refine ⟨(setCells_rest _ _ _).1.trans (setCells_rest _ _ _).1, (setCells_rest _ _ _).2.1.trans (setCells_rest _ _ _).2.1, (setCells_rest _ _ _).2.2.trans (setCells_rest _ _ _).2.2, ?_, fun j hj => ?_⟩
        ·rw [setCells_size]
         show w.heap.size ≤ ((w.alloc (.cells ROW 174)).drew.setCells w.heap.size (k * 2) r').heap.size
         rw [setCells_size]
         show w.heap.size ≤ (w.alloc (.cells ROW 174)).heap.size
         rw [World.size_alloc]
         omega
        ·refine (setCells_other _ _ _ j (by omega)).trans ((setCells_other _ _ _ j (by omega)).trans ?_)
         exact Below.heap_alloc w _ j hj
       have hfin : ∀ j, j < L.length → ca2[0 + j]? = L'[j]? := fun j hj => by
        rw [hLl] at hj
        rw [Nat.zero_add, hL j hj, p6 j (by omega), hdl, p3 j (by omega), hr']
        by_cases j1 : j < k * 2
        ·rw [if_neg (by omega), if_neg (by omega), if_pos j1]
         have hj' : j < l'.length := by omega
         rw [List.getElem?_eq_getElem hj']
         exact k4 j _ (by rw [List.getElem?_take, if_pos j1, List.getElem?_eq_getElem hj'])
        ·by_cases j2 : j < (k + m) * 2
         ·rw [if_neg (by omega), if_pos (by omega), if_neg j1, if_pos j2]
         ·rw [if_pos (by omega), if_neg j1, if_neg j2, List.getElem?_drop]
          congr 1
          omega
       have hle : Le i (ext i s.nx (w.heap.size, 0) (2, G * 2)) := ext_le (hR.fresh s.nx (Nat.le_refl _)).1
       obtain ⟨q1, q2⟩ := hRk.newAt (lm := (2, G * 2)) (o := .cells (T.e.fill 0 L) L.length (zg 2 za 174)) hbel (Nat.le_refl _) p4
        (OR.row (hv.mono hle) ca2 174 (0, 0) (zg 2 za 174) (fun hz => (zg_ze (by omega) hz).2.symm) (.inl rfl) 0 (by omega) hfin)
        (fun c n z h => by cases h; exact ⟨(zg_zs (by omega)).symm, fun cs e fr h => by cases h; show G * 2 ≤ ca2.size; omega⟩)
       exact ⟨_, .slice (t := 0) (ext_same _ _ _) (by omega) (by omega) (by omega) (.inl rfl) (fun _ _ => by rw [ext_lim]; omega), q1, hFk.trans q2⟩
      ·have hc2' : t + o + c' * 2 ≤ cs.size := by
        have := x5 hc2 (by omega)
        rw [m1, hza] at this
        omega
       have hc := ins_shift q (t + o) n c' k qv (tv + vo) m vc' l' r' w hkn hm1 hroom hnm hqv hl' hr' hcs
        (fun j hj => by rw [hcell q cs e fr h1, Array.getElem?_eq_getElem (by omega)]; rfl) (fun j hj => hfroz q cs e fr h1 hfr _) hvs
        (ones_cell2 (by rw [l1.ones]; exact ho.1)) (ones_cell2 (by rw [r1.ones]; exact ho.2)) e2 e cs2.size cs.size (by unfold World.shape?; rw [g1]) (by unfold World.shape?; rw [h1]) (by omega) (hfroz qv cs2 e2 fr2 g1 hfr2 _) (hfroz qv cs2 e2 fr2 g1 hfr2 _)
       refine .inr ⟨enter197 _ _, Calls.mono hc (fun e' w' he => ?_)⟩
       obtain ⟨rfl, hw'⟩ := he
       obtain ⟨ca1, p1, p2, p3⟩ := setCells_row (l'.drop (k * 2)) (t + o + (k + m) * 2) w.drew cs (show w.drew.heap[q]? = _ from h1)
       obtain ⟨ca2, p4, p5, p6⟩ := setCells_row r' (t + o + k * 2) (w.drew.setCells q (t + o + (k + m) * 2) (l'.drop (k * 2))) ca1 p1
       rw [← hw'] at p4
       have hfin : ∀ j, j < L.length → ca2[t + o + j]? = L'[j]? := fun j hj => by
        rw [hLl] at hj
        rw [hL j hj, p6 _ (by omega), hr', p3 _ (by omega), hdl]
        by_cases j1 : j < k * 2
        ·rw [if_neg (by omega), if_neg (by omega), if_pos j1, l3 j (by omega)]
        ·by_cases j2 : j < (k + m) * 2
         ·rw [if_pos (by omega), if_neg j1, if_pos j2]
          congr 1
          omega
         ·rw [if_neg (by omega), if_pos (by omega), if_neg j1, if_neg j2, List.getElem?_drop]
          congr 1
          omega
       have hle : Le i (ext i s.nx (q, t + o) (i.lim a)) := ext_le (hR.fresh s.nx (Nat.le_refl _)).1
       have hzz : ze (zg 2 za 174) ≠ 0 → e + 1 = ze (zg 2 za 174) := fun hz => by
        obtain ⟨u1, u2⟩ := zg_ze (size := 2) (z := za) (e := 174) (by omega) hz
        rw [u2, ← u1]
        exact (h5 (by rw [u1]; omega)).1
       obtain ⟨q1, q2⟩ := hR.grow (w' := w') (p := t + o) (lm := i.lim a) (o := .cells (T.e.fill 0 L) L.length (zg 2 za 174)) hba hia
        (fun j hj => by rw [hw']; exact (setCells_other _ _ _ j hj).trans (setCells_other _ _ _ j hj))
        (by rw [hw', setCells_size, setCells_size]; rfl)
        (by rw [hw']; exact (setCells_rest _ _ _).1.trans (setCells_rest _ _ _).1) (by rw [hw']; exact (setCells_rest _ _ _).2.1.trans (setCells_rest _ _ _).2.1) (by rw [hw']; exact (setCells_rest _ _ _).2.2.trans (setCells_rest _ _ _).2.2)
        (by rw [p4]; exact OR.row (hv.mono hle) ca2 e fr (zg 2 za 174) hzz (.inl hfr) (t + o) (by omega) hfin (.inr (by rw [zg_zs (by omega)]; omega)))
        (fun c n z h => by cases h; exact ⟨by rw [zg_zs (by omega), m1, hza], fun cs' e' fr' h => by rw [p4] at h; cases h; omega⟩)
       exact ⟨_, .slice (o := 0) (t := t + o) (ext_same _ _ _) (by omega) (by omega) (by omega) (.inl rfl) (fun _ h0 => by rw [ext_lim]; exact x5 hc2 h0), q1, q2⟩
    ·cases h
  ·cases h
 ·cases h
end Go.Proofs
