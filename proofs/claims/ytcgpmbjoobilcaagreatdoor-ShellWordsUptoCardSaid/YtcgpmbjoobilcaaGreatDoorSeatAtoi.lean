/- strconv.Atoi at this dump. -/
import Derived.Shelf.Strconv.AtoiAll
import Derived.Ground.NamesProg
import Derived.Lib.SmallJoins
import Derived.Test.YtcgpmbjoobilcaaGreatDoorSeatEnv21
import Derived.Test.YtcgpmbjoobilcaaGreatDoorLxE
set_option linter.unusedSimpArgs false
set_option linter.unusedVariables false
namespace Go.Proofs
open Go.Shelf
def Tryz.laysAtoi_ren : Go.Shelf.Ren := ⟨fun | 172 => 155 | 244 => 256 | 245 => 257 | 247 => 367 | 279 => 368 | 280 => 369 | 281 => 370 | 282 => 371 | 287 => 441 | 316 => 442 | 171 => 21 | 205 => 443 | 321 => 500 | 322 => 501 | 243 => 38 | 246 => 61 | 283 => 94 | 284 => 95 | 285 => 96 | 286 => 97 | 129 => 158 | 317 => 157 | 318 => 159 | 319 => 160 | 320 => 161 | 337 => 259 | 338 => 183 | n => n, fun | 9 => 9 | 3 => 3 | 75 => 95 | 76 => 100 | 4 => 4 | 5 => 5 | 167 => 460 | 37 => 91 | 0 => 0 | 85 => 461 | 2 => 2 | 168 => 463 | 53 => 37 | 175 => 522 | 46 => 97 | 210 => 525 | 127 => 126 | 145 => 578 | 143 => 576 | 21 => 21 | 171 => 154 | 173 => 157 | 212 => 233 | 51 => 234 | 20 => 20 | 213 => 235 | 232 => 466 | 233 => 379 | 80 => 98 | n => n, fun | 15 => 6 | 16 => 7 | 17 => 0 | 18 => 5 | 19 => 2 | n => n⟩
theorem Tryz.laysAtoi : Go.Proofs.LaysC.n172 Tryz.prog Tryz.laysAtoi_ren := {
 mixed := by kernel_rfl
 f129 := Tryz.func158.trans (congrArg some (by kernel_rfl))
 f171 := Tryz.func21.trans (congrArg some (by kernel_rfl))
 f172 := Tryz.func155.trans (congrArg some (by kernel_rfl))
 f205 := Tryz.func443.trans (congrArg some (by kernel_rfl))
 f243 := Tryz.func38.trans (congrArg some (by kernel_rfl))
 f244 := Tryz.func256.trans (congrArg some (by kernel_rfl))
 f245 := Tryz.func257.trans (congrArg some (by kernel_rfl))
 f246 := Tryz.func61.trans (congrArg some (by kernel_rfl))
 f247 := Tryz.func367.trans (congrArg some (by kernel_rfl))
 f279 := Tryz.func368.trans (congrArg some (by kernel_rfl))
 f280 := Tryz.func369.trans (congrArg some (by kernel_rfl))
 f281 := Tryz.func370.trans (congrArg some (by kernel_rfl))
 f282 := Tryz.func371.trans (congrArg some (by kernel_rfl))
 f283 := Tryz.func94.trans (congrArg some (by kernel_rfl))
 f284 := Tryz.func95.trans (congrArg some (by kernel_rfl))
 f285 := Tryz.func96.trans (congrArg some (by kernel_rfl))
 f286 := Tryz.func97.trans (congrArg some (by kernel_rfl))
 f287 := Tryz.func441.trans (congrArg some (by kernel_rfl))
 f316 := Tryz.func442.trans (congrArg some (by kernel_rfl))
 f317 := Tryz.func157.trans (congrArg some (by kernel_rfl))
 f318 := Tryz.func159.trans (congrArg some (by kernel_rfl))
 f319 := Tryz.func160.trans (congrArg some (by kernel_rfl))
 f320 := Tryz.func161.trans (congrArg some (by kernel_rfl))
 f321 := Tryz.func500.trans (congrArg some (by kernel_rfl))
 f322 := Tryz.func501.trans (congrArg some (by kernel_rfl))
 f337 := Tryz.func259.trans (congrArg some (by kernel_rfl))
 f338 := Tryz.func183.trans (congrArg some (by kernel_rfl))
 t0 := Tryz.underlying0
 a0 := Tryz.isAgg0
 z0 := Tryz.sizeOf0
 v0 := Tryz.zeroValue0
 t2 := Tryz.underlying2
 a2 := Tryz.isAgg2
 z2 := Tryz.sizeOf2
 v2 := Tryz.zeroValue2
 t3 := Tryz.underlying3
 a3 := Tryz.isAgg3
 z3 := Tryz.sizeOf3
 v3 := Tryz.zeroValue3
 t4 := Tryz.underlying4
 a4 := Tryz.isAgg4
 z4 := Tryz.sizeOf4
 v4 := Tryz.zeroValue4
 t5 := Tryz.underlying5
 a5 := Tryz.isAgg5
 z5 := Tryz.sizeOf5
 v5 := Tryz.zeroValue5
 t9 := Tryz.underlying9
 a9 := Tryz.isAgg9
 z9 := Tryz.sizeOf9
 v9 := Tryz.zeroValue9
 t20 := Tryz.underlying20
 a20 := Tryz.isAgg20
 z20 := Tryz.sizeOf20
 v20 := Tryz.zeroValue20
 t21 := Tryz.underlying21
 a21 := Tryz.isAgg21
 z21 := Tryz.sizeOf21
 v21 := Tryz.zeroValue21
 t37 := Tryz.underlying91
 a37 := Tryz.isAgg91
 z37 := Tryz.sizeOf91
 v37 := Tryz.zeroValue91
 t46 := Tryz.underlying97
 a46 := Tryz.isAgg97
 z46 := Tryz.sizeOf97
 v46 := Tryz.zeroValue97
 t51 := Tryz.underlying234
 a51 := Tryz.isAgg234
 z51 := Tryz.sizeOf234
 v51 := Tryz.zeroValue234
 t53 := Tryz.underlying37
 a53 := Tryz.isAgg37
 z53 := Tryz.sizeOf37
 v53 := Tryz.zeroValue37
 t75 := Tryz.underlying95
 a75 := Tryz.isAgg95
 z75 := Tryz.sizeOf95
 v75 := Tryz.zeroValue95
 t76 := Tryz.underlying100
 a76 := Tryz.isAgg100
 z76 := Tryz.sizeOf100
 v76 := Tryz.zeroValue100
 t85 := Tryz.underlying461
 a85 := Tryz.isAgg461
 z85 := Tryz.sizeOf461
 v85 := Tryz.zeroValue461
 t127 := Tryz.underlying126
 a127 := Tryz.isAgg126
 z127 := Tryz.sizeOf126
 v127 := Tryz.zeroValue126
 t143 := Tryz.underlying576
 a143 := Tryz.isAgg576
 z143 := Tryz.sizeOf576
 v143 := Tryz.zeroValue576
 t145 := Tryz.underlying578
 a145 := Tryz.isAgg578
 z145 := Tryz.sizeOf578
 v145 := Tryz.zeroValue578
 t167 := Tryz.underlying460
 a167 := Tryz.isAgg460
 z167 := Tryz.sizeOf460
 v167 := Tryz.zeroValue460
 t168 := Tryz.underlying463
 a168 := Tryz.isAgg463
 z168 := Tryz.sizeOf463
 v168 := Tryz.zeroValue463
 t171 := Tryz.underlying154
 a171 := Tryz.isAgg154
 z171 := Tryz.sizeOf154
 v171 := Tryz.zeroValue154
 t173 := Tryz.underlying157
 a173 := Tryz.isAgg157
 z173 := Tryz.sizeOf157
 v173 := Tryz.zeroValue157
 t175 := Tryz.underlying522
 a175 := Tryz.isAgg522
 z175 := Tryz.sizeOf522
 v175 := Tryz.zeroValue522
 t210 := Tryz.underlying525
 a210 := Tryz.isAgg525
 z210 := Tryz.sizeOf525
 v210 := Tryz.zeroValue525
 t212 := Tryz.underlying233
 a212 := Tryz.isAgg233
 z212 := Tryz.sizeOf233
 v212 := Tryz.zeroValue233
 t213 := Tryz.underlying235
 a213 := Tryz.isAgg235
 z213 := Tryz.sizeOf235
 t232 := Tryz.underlying466
 a232 := Tryz.isAgg466
 z232 := Tryz.sizeOf466
 v232 := Tryz.zeroValue466
 t233 := Tryz.underlying379
 a233 := Tryz.isAgg379
 z233 := Tryz.sizeOf379
 v233 := Tryz.zeroValue379
 g15 := by kernel_rfl
 g16 := by kernel_rfl
 g17 := by kernel_rfl
 g18 := by kernel_rfl
 g19 := by kernel_rfl
 t80 := Tryz.underlying98
 a80 := Tryz.isAgg98
 z80 := Tryz.sizeOf98
 v80 := Tryz.zeroValue98
 i0 := by kernel_rfl
 i2 := by kernel_rfl
 i3 := by kernel_rfl
 i4 := by kernel_rfl
 i5 := by kernel_rfl
 i9 := by kernel_rfl
 i20 := by kernel_rfl
 i21 := by kernel_rfl
 i37 := by kernel_rfl
 i46 := by kernel_rfl
 i51 := by kernel_rfl
 i53 := by kernel_rfl
 i75 := by kernel_rfl
 i76 := by kernel_rfl
 i80 := by kernel_rfl
 i85 := by kernel_rfl
 i127 := by kernel_rfl
 i143 := by kernel_rfl
 i145 := by kernel_rfl
 i167 := by kernel_rfl
 i168 := by kernel_rfl
 i171 := by kernel_rfl
 i173 := by kernel_rfl
 i175 := by kernel_rfl
 i210 := by kernel_rfl
 i212 := by kernel_rfl
 i232 := by kernel_rfl
 i233 := by kernel_rfl
 m15 := by kernel_rfl
 m16 := by kernel_rfl
 m17 := by kernel_rfl
 m18 := by kernel_rfl
 m19 := by kernel_rfl
 c0 := by kernel_rfl
 c2 := by kernel_rfl
 c3 := by kernel_rfl
 c4 := by kernel_rfl
 c5 := by kernel_rfl
 c9 := by kernel_rfl
 c20 := by kernel_rfl
 c21 := by kernel_rfl
 c37 := by kernel_rfl
 c46 := by kernel_rfl
 c51 := by kernel_rfl
 c53 := by kernel_rfl
 c75 := by kernel_rfl
 c76 := by kernel_rfl
 c80 := by kernel_rfl
 c85 := by kernel_rfl
 c127 := by kernel_rfl
 c143 := by kernel_rfl
 c145 := by kernel_rfl
 c167 := by kernel_rfl
 c168 := by kernel_rfl
 c171 := by kernel_rfl
 c173 := by kernel_rfl
 c175 := by kernel_rfl
 c210 := by kernel_rfl
 c212 := by kernel_rfl
 c213 := by kernel_rfl
 c232 := by kernel_rfl
 c233 := by kernel_rfl }
open Go.RowKit Go.Ax
theorem Tryz.atoiC : AtoiC Tryz.prog 155 6 7 463 where
 ok := fun s v w h1 h2 => (Any.strconv_Atoi_ok Tryz.laysAtoi s h1 v h2 w).mono fun e w' ⟨he, hw⟩ => ⟨he, by
  rcases hw with rfl | ⟨t, rfl⟩
  ·exact .refl _ _
  ·exact Lib.bytesWorld_below _ _ _⟩
 syn := fun s ev w h1 h2 h2' h3 h4 => (Any.strconv_Atoi_syntax Tryz.laysAtoi s h1 (by
  revert h2 h2'
  cases Lib.atoiAll s.data.toList with
  | ok v => exact fun h _ => absurd rfl (h v)
  | range => exact fun _ h => absurd rfl h
  | _ => exact fun _ _ => rfl) ev w h3 h4).mono fun e w' ⟨N, he, hN, hx, hb⟩ => ⟨N, _, he, hN, hx, hb⟩
 ran := fun s ev w h1 h2 h3 h4 => (Any.strconv_Atoi_range Tryz.laysAtoi s h1 h2 ev w h3 h4).mono fun e w' ⟨N, he, hN, hx, hb⟩ => ⟨N, _, he, hN, hx, hb⟩
theorem Tryz.atoiOk : POk Tryz.prog 155 (atoiP 6 7 463) := atoi_ok (fn := Tryz.f155) Tryz.func155 (by kernel_rfl) (by kernel_rfl) (by decide) (by decide) Tryz.atoiC
end Go.Proofs
