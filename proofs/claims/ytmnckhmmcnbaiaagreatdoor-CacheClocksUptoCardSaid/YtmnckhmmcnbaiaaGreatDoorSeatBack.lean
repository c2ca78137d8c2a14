/- slices.Backward over waiting writes: the iterator's contract. -/
import Derived.Test.YtmnckhmmcnbaiaaGreatDoorChecked
import Derived.WalkKit
import Derived.RangeFuncNested
import Derived.RangeFuncLeaves
import Derived.TacticsIn
import Derived.BigFrameIn
import Derived.LoopIn
import Derived.RegionIn
import Derived.OwnWalkIn
import Derived.Below
import Derived.RangeFuncKeeps
import Derived.Lib.Walk
set_option linter.unusedSimpArgs false
set_option linter.unusedVariables false
namespace Go.Proofs
open Go Go.RowKit Go.Lib

abbrev wEnc (ws : Nat → Value × Value) {len : Nat} (x : Fin len) : Array Value := #[.int .i64 (x.val : Nat), .agg #[(ws x.val).1, (ws x.val).2]]
/-- The first t of the places, from the last one on. -/
def wPre (len : Nat) (t : Nat) : List (Fin len) := (List.range t).filterMap fun r => if h : r < len then some ⟨len - 1 - r, by omega⟩ else none
theorem wPre_succ (len t : Nat) (h : t < len) : wPre len (t + 1) = wPre len t ++ [⟨len - 1 - t, by omega⟩] := by
  unfold wPre
  rw [List.range_succ, List.filterMap_append]
  simp [h]
theorem wPre_len (len : Nat) : ∀ (t : Nat), t ≤ len → (wPre len t).length = t
  | 0, _ => rfl
  | t + 1, h => by rw [wPre_succ len t h, List.length_append, wPre_len len t (by omega)]; rfl
theorem mem_wPre (len : Nat) : ∀ (t : Nat), t ≤ len → ∀ (x : Fin len), len - t ≤ x.val → x ∈ wPre len t
  | 0, _, x, h => by have := x.isLt; omega
  | t + 1, ht, x, h => by
    rw [wPre_succ len t ht]
    by_cases he : x.val = len - 1 - t
    · exact List.mem_append.2 (.inr (by simp; exact Fin.ext he))
    · exact List.mem_append.2 (.inl (mem_wPre len t (by omega) x (by omega)))

set_option maxHeartbeats 2000000 in
set_option maxRecDepth 100000 in
theorem back_stops (n : Nat) (hn : 1 ≤ n) (bx g off len c : Nat) (ws : Nat → Value × Value) (w : World) (hbl : bx < w.heap.size) (hgl : g < w.heap.size) (hlen : len ≤ 1000000)
    (hbx : w.cell? ⟨bx, 0, none⟩ = some (.slice (some ⟨g, off, none⟩) len c))
    (hc : ∀ j, j < len → w.cell? ⟨g, off + 2 * j, none⟩ = some (ws j).1 ∧ w.cell? ⟨g, off + 2 * j + 1, none⟩ = some (ws j).2) :
    SeqStopsK Fence.wide n Tryz.prog 79 #[.pointer (some ⟨bx, 0, none⟩)] (wEnc ws (len := len)) (Below w.heap.size) (fun xs => xs = wPre len len) (fun pre => ∃ t, t < len ∧ pre = wPre len (t + 1)) len w := by
  intro l J Jx W hW hJ hJx hY h0
  refine callsIn_of_wp Tryz.func79 rfl trivial ?_ rfl
  simp only [Tryz.ntmps79, List.size_toArray, List.length_cons, List.length_nil, Nat.reduceAdd, Nat.reduceSub, Array.replicate_succ, Array.replicate_zero, List.push_toArray, List.append_toArray, List.nil_append, List.cons_append]
  have hbxW : W.cell? ⟨bx, 0, none⟩ = some (.slice (some ⟨g, off, none⟩) len c) := (hW.cell (p := ⟨bx, 0, none⟩) hbl).trans hbx
  gi_wp2
  gi_loopw [3] (fun i wr => ∃ t, t ≤ len ∧ i = .int .i64 ((len : Int) - 1 - t) ∧ J (wPre len t) wr ∧ Below w.heap.size w wr) (fun i _ => match i with | .int _ k => (k + 1).toNat | _ => 0)
  case atStart =>
    exact ⟨0, Nat.zero_le _, by simp, h0, hW⟩
  case round =>
    obtain ⟨t, ht, rfl, hJt, hbt⟩ := hrel
    rcases Nat.lt_or_ge t len with hlt | hge
    · obtain ⟨j, hjt⟩ : ∃ j, j + t + 1 = len := ⟨len - 1 - t, by omega⟩
      have hjl : j < len := by omega
      have hk : ((len : Int) - 1 - t) = (j : Int) := by omega
      have hej : len - 1 - t = j := by omega
      rw [hk]
      have hbxr : wr.cell? ⟨bx, 0, none⟩ = some (.slice (some ⟨g, off, none⟩) len c) := (hbt.cell (p := ⟨bx, 0, none⟩) hbl).trans hbx
      have hc1 : wr.cell? ⟨g, off + j * 2, none⟩ = some (ws j).1 := by rw [Nat.mul_comm j 2]; exact (hbt.cell (p := ⟨g, off + 2 * j, none⟩) hgl).trans (hc j hjl).1
      have hc2 : wr.cell? ⟨g, off + j * 2 + 1, none⟩ = some (ws j).2 := by rw [Nat.mul_comm j 2]; exact (hbt.cell (p := ⟨g, off + 2 * j + 1, none⟩) hgl).trans (hc j hjl).2
      obtain ⟨fn, tmps, assign, body, hy, hR⟩ := hY (wPre len t) ⟨j, hjl⟩ wr hJt (by rw [wPre_len len t ht]; exact hlt)
      dsimp only [wEnc] at hy
      have hsc := wPre_succ len t hlt
      rw [show (⟨len - 1 - t, by omega⟩ : Fin len) = ⟨j, hjl⟩ from Fin.ext hej] at hsc
      rw [← hsc] at hR
      clear hY hk hej hsc hJt
      gi_wp2
      refine hR.mono ?_
      rintro e W3 (⟨rfl, hJ3, hk3⟩ | ⟨rfl, hJx3⟩)
      · gi_wp2
        go_roundw
        case rel => exact ⟨t + 1, hlt, by congr 1; omega, hJ3, hbt.trans hk3⟩
        case measure => simp only [Int.sub_add_cancel]; omega
      · gi_wp2
        refine bodyPost_ret (results_none rfl _ _ _) rfl ?_
        exact ⟨⟨_, rfl⟩, .inr ⟨_, ⟨t, hlt, rfl⟩, hJx3⟩⟩
    · obtain rfl : t = len := by omega
      gi_wp2
      go_end0
      exact ⟨⟨_, rfl⟩, .inl ⟨_, rfl, hJt⟩⟩
end Go.Proofs
