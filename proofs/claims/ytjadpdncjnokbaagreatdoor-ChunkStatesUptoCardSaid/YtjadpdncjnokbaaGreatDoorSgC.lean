/- Kept calls that make something new: what they look at, what they answer and what they leave. (Printed by program.) -/
import Derived.Test.YtjadpdncjnokbaaGreatDoorSgA
import Derived.Test.YtjadpdncjnokbaaGreatDoorSgB
import Derived.Test.YtjadpdncjnokbaaGreatDoorLxC
set_option linter.all false
namespace Go.Proofs
open Go Go.Ax
noncomputable section
def Cs :List Value:=nbV 64 315684040783403026461198565492879320519372303033823910828724750665742568755751545437592878574175936176031276695822391845783248645128493468529036736594176
def dt(n:Nat):List Value:=rep n [.slice none 0 0,.bool false]
def k15(n:Nat):MS where
 args:=[.int .i64 (.ofNat n)]
 nx:=1001
 pre:=[(0,.ro Cs 64)]
 ans:=.tuple #[.agg #[.pointer (some ⟨1003,0,none⟩),.pointer (some ⟨1245,0,none⟩),.pointer (some ⟨1491,0,none⟩),.pointer (some ⟨1558,0,none⟩)],.bool true]
 nx':=1582
 post:=[(1003,.cells [.slice (some ⟨1004,0,none⟩) (136+n) (2*(136+n)+1),.slice none 0 0,.bool false,.bool false,.int .i64 (.ofNat 0)] 5 201326592),
  (1004,.cells ([.slice (some ⟨1476,0,none⟩) 256 512,.bool false,.slice (some ⟨1128,0,none⟩) 256 512,.bool false]++dt (134+n)) (2*(136+n)) 0),
  (1128,.cells (nbV 256 36022211394028781476208574998112614003043788337930041915042873215028435754663194877271034799520284712) 256 6291458),
  (1243,.map []),
  (1244,.map []),
  (1245,.cells [.pointer (some ⟨1003,0,none⟩),.pointer (some ⟨1276,0,none⟩),.int .i64 (.ofNat 70),.int .i64 (.ofNat 64),.int .i64 (.ofNat 2),.int .i64 (.ofNat 1),.map (some 1243),.map (some 1244),.int .i64 (.ofNat 0)] 9 154140672),
  (1276,.cells [.pointer (some ⟨1003,0,none⟩),.int .i64 (.ofNat 2),.int .i64 (.ofNat 70),.int .i64 (.ofNat 0),.int .i64 (.ofNat 0),.int .i64 (.ofNat 1)] 6 268435456),
  (1476,.cells (nbV 256 28471174262216532360180111922350024101472062107394643145502316986272546805545178737202488193920860200) 256 6291458),
  (1491,.cells [.pointer (some ⟨1245,0,none⟩),.pointer (some ⟨1545,0,none⟩),.int .i64 (.ofNat 0),.int .i64 (.ofNat 0),.int .i64 (.ofNat 0)] 5 123731968),
  (1541,.cells [.int .u64 (.ofNat 1)] 1 0),
  (1543,.cells [.int .u64 (.ofNat 0)] 1 0),
  (1545,.cells [.int .i64 (.ofNat 64),.slice (some ⟨1541,0,none⟩) 1 3,.slice (some ⟨1543,0,none⟩) 1 3,.int .i64 (.ofNat 0)] 4 225443840),
  (1558,.cells [.pointer (some ⟨1491,0,none⟩),.pointer (some ⟨1003,0,none⟩),.int .i64 (.ofNat 136),.pointer (some ⟨1580,0,none⟩),.int .i64 (.ofNat 0)] 5 161480704),
  (1576,.cells [.int .u64 (.ofNat 0)] 1 0),
  (1578,.cells [.int .u64 (.ofNat 0)] 1 0),
  (1580,.cells [.int .i64 (.ofNat n),.slice (some ⟨1576,0,none⟩) 1 3,.slice (some ⟨1578,0,none⟩) 1 3,.int .i64 (.ofNat 0)] 4 225443840)]
end
end Go.Proofs
namespace Go.Proofs
open Go Go.RowKit Go.Ax Go.Lx
noncomputable section
def Ct(f:FuncId)(args:List Value)(s:AS):R:=Gw SE 100000 200 f args s
def Ij :MS:= {args:=[],nx:=1001,pre:=[(0,.ro Cs 64)],ans:=.bool true,nx':=2553,post:=[]}
def Zmh :T (List Value→AS→Option (Value×AS)):=(((mw.set 101 (orP dr (Cp SE 101))).set 153 (orP Cr (Cp SE 153))).set 25 (Tp [Ij] (Ct 25))).set 26 (Ce [k15 1,k15 2,k15 3,k15 4,k15 5,k15 6,k15 20,k15 60] (Ct 26))
def SET :Env:= {P:=Tryz.prog,ty:=Tryz.tyTab,fn:=Tryz.fnTab,prim:=Zmh,back:=SE.back}
end
end Go.Proofs
