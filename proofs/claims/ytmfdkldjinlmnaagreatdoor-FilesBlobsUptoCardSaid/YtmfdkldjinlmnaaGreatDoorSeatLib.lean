/- The library's functions that the names of blobs are read by: their contracts, at this dump. -/
import Derived.Test.YtmfdkldjinlmnaaGreatDoorChecked
import Derived.WalkKit
import Derived.Test.YtmfdkldjinlmnaaGreatDoorSeatLay
import Derived.Shelf.Strings.Split
import Derived.Shelf.Strings.SlTrimAscii
import Derived.Shelf.Strconv.AtoiAll
import Derived.Shelf.Strconv.ErrVarAll
import Derived.Shelf.LaysC
import Derived.Ground.NamesProg
import Derived.Lib.AtoiAllCases
set_option linter.unusedSimpArgs false
set_option linter.unusedVariables false
namespace Go.Proofs
open Go.Shelf Go.RowKit


theorem split_any (s sep : ByteArray) (m : Int) (w : World) (hs : s.size < 4294967281) (hm : w.cell? ⟨6, 0, none⟩ = some (.int .i64 m)) (h1 : 1 ≤ sep.size) :
    Calls Tryz.prog 25 #[.string s, .string sep] w fun e w' =>
      e = .returned (.slice (some ⟨w.heap.size, 0, none⟩) (Lib.countB s sep + 1) (Lib.countB s sep + 1)) ∧ w' = w.alloc (.cells ((Lib.splitB sep 0 (Lib.countB s sep) s).map Value.string).toArray 9) :=
  Any.strings_Split { Tryz.laysSplit with } (by kernel_rfl) s sep m w hs hm h1
theorem trim_str (s cutset : ByteArray) (w : World) (hs : s.size ≤ 9223372036854775807) (hcs : cutset.size < 4294967281) (hascii : ∀ (j : Nat) (b : UInt8), cutset.data.toList[j]? = some b → b.toNat < 128) :
    Calls Tryz.prog 19 #[.string s, .string cutset] w fun e w' => e = .returned (.string ⟨(Lib.trimS s.data.toList cutset.data.toList).toArray⟩) ∧ Below w.heap.size w w' :=
  Any.strings_Trim_laid Tryz.laysTrim (by kernel_rfl) s cutset w hs hcs hascii
theorem atoi_ok (s : ByteArray) (hmax : s.size ≤ 9223372036854775806) (v : Int) (h : Lib.atoiAll s.data.toList = .ok v) (w : World) :
    Calls Tryz.prog 26 #[.string s] w fun e w' => e = .returned (.tuple #[.int .i64 v, .nilIface]) ∧ Below w.heap.size w w' :=
  (Any.strconv_Atoi_ok { Tryz.laysAtoi with } s hmax v h w).mono (by
    rintro e w' ⟨he, rfl | ⟨t, rfl⟩⟩
    · exact ⟨he, Below.refl _ _⟩
    · exact ⟨he, Lib.bytesWorld_below _ _ _⟩)
theorem atoi_bad (s : ByteArray) (hlim : s.size ≤ 281474976710656) (h : ∀ v, Lib.atoiAll s.data.toList ≠ .ok v) (w : World) (tp tq : TypeId) (p q : Value)
    (hS : w.var? Tryz.prog "strconv.ErrSyntax" = some #[.iface tp p]) (hR : w.var? Tryz.prog "strconv.ErrRange" = some #[.iface tq q]) :
    Calls Tryz.prog 26 #[.string s] w fun e w' => (∃ v t N, (-9223372036854775808 ≤ v ∧ v ≤ 9223372036854775807) ∧ e = .returned (.tuple #[.int .i64 v, .iface t (.pointer (some ⟨N, 0, none⟩))])) ∧ Below w.heap.size w w' := by
  rcases hc : Lib.atoiAll s.data.toList with v | _ | _
  · exact absurd hc (h v)
  · refine (Any.strconv_Atoi_syntax_var { Tryz.laysAtoi with } s hlim hc tp p w hS).mono ?_
    rintro e w' ⟨N, he, _, _, hb⟩
    exact ⟨⟨0, _, N, by omega, he⟩, hb⟩
  · refine (Any.strconv_Atoi_range_var { Tryz.laysAtoi with } s hlim hc tq q w hR).mono ?_
    rintro e w' ⟨N, he, _, _, hb⟩
    exact ⟨⟨_, _, N, Lib.atoiSat_bounds _, he⟩, hb⟩
end Go.Proofs
