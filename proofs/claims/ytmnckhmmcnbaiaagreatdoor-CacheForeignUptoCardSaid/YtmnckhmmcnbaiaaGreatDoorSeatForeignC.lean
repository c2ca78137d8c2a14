/- CacheForeign: what lies in a sector that the mounting reads: each byte. -/
import Derived.Test.YtmnckhmmcnbaiaaGreatDoorSeatForeign
set_option linter.unusedSimpArgs false
set_option linter.unusedVariables false
namespace Go.Proofs
open Go Go.RowKit Go.Ax
def allC0 : List Nat := [0, 1, 2, 3, 4, 5, 6, 7]
theorem f_all0_0 (x y u : Int) : (allC0.all fun r => isOk (fRun 0 x y u (.int .u8 (.ofNat r)))) = true := by kernel_rfl
def allC1 : List Nat := [8, 9, 10, 11, 12, 13, 14, 15]
theorem f_all0_1 (x y u : Int) : (allC1.all fun r => isOk (fRun 0 x y u (.int .u8 (.ofNat r)))) = true := by kernel_rfl
def allC2 : List Nat := [16, 17, 18, 19, 20, 21, 22, 23]
theorem f_all0_2 (x y u : Int) : (allC2.all fun r => isOk (fRun 0 x y u (.int .u8 (.ofNat r)))) = true := by kernel_rfl
def allC3 : List Nat := [24, 25, 26, 27, 28, 29, 30, 31]
theorem f_all0_3 (x y u : Int) : (allC3.all fun r => isOk (fRun 0 x y u (.int .u8 (.ofNat r)))) = true := by kernel_rfl
def allC4 : List Nat := [32, 33, 34, 35, 36, 37, 38, 39]
theorem f_all0_4 (x y u : Int) : (allC4.all fun r => isOk (fRun 0 x y u (.int .u8 (.ofNat r)))) = true := by kernel_rfl
def allC5 : List Nat := [40, 41, 42, 43, 44, 45, 46, 47]
theorem f_all0_5 (x y u : Int) : (allC5.all fun r => isOk (fRun 0 x y u (.int .u8 (.ofNat r)))) = true := by kernel_rfl
def allC6 : List Nat := [48, 49, 50, 51, 52, 53, 54, 55]
theorem f_all0_6 (x y u : Int) : (allC6.all fun r => isOk (fRun 0 x y u (.int .u8 (.ofNat r)))) = true := by kernel_rfl
def allC7 : List Nat := [56, 57, 58, 59, 60, 61, 62, 63]
theorem f_all0_7 (x y u : Int) : (allC7.all fun r => isOk (fRun 0 x y u (.int .u8 (.ofNat r)))) = true := by kernel_rfl
def allC8 : List Nat := [64, 65, 66, 67, 68, 69, 70, 71]
theorem f_all0_8 (x y u : Int) : (allC8.all fun r => isOk (fRun 0 x y u (.int .u8 (.ofNat r)))) = true := by kernel_rfl
def allC9 : List Nat := [72, 73, 74, 75, 76, 77, 78, 79]
theorem f_all0_9 (x y u : Int) : (allC9.all fun r => isOk (fRun 0 x y u (.int .u8 (.ofNat r)))) = true := by kernel_rfl
def allC10 : List Nat := [80, 81, 82, 83, 84, 85, 86, 87]
theorem f_all0_10 (x y u : Int) : (allC10.all fun r => isOk (fRun 0 x y u (.int .u8 (.ofNat r)))) = true := by kernel_rfl
def allC11 : List Nat := [88, 89, 90, 91, 92, 93, 94, 95]
theorem f_all0_11 (x y u : Int) : (allC11.all fun r => isOk (fRun 0 x y u (.int .u8 (.ofNat r)))) = true := by kernel_rfl
def allC12 : List Nat := [96, 97, 98, 99, 100, 101, 102, 103]
theorem f_all0_12 (x y u : Int) : (allC12.all fun r => isOk (fRun 0 x y u (.int .u8 (.ofNat r)))) = true := by kernel_rfl
def allC13 : List Nat := [104, 105, 106, 107, 108, 109, 110, 111]
theorem f_all0_13 (x y u : Int) : (allC13.all fun r => isOk (fRun 0 x y u (.int .u8 (.ofNat r)))) = true := by kernel_rfl
def allC14 : List Nat := [112, 113, 114, 115, 116, 117, 118, 119]
theorem f_all0_14 (x y u : Int) : (allC14.all fun r => isOk (fRun 0 x y u (.int .u8 (.ofNat r)))) = true := by kernel_rfl
def allC15 : List Nat := [120, 121, 122, 123, 124, 125, 126, 127]
theorem f_all0_15 (x y u : Int) : (allC15.all fun r => isOk (fRun 0 x y u (.int .u8 (.ofNat r)))) = true := by kernel_rfl
def allC16 : List Nat := [128, 129, 130, 131, 132, 133, 134, 135]
theorem f_all0_16 (x y u : Int) : (allC16.all fun r => isOk (fRun 0 x y u (.int .u8 (.ofNat r)))) = true := by kernel_rfl
def allC17 : List Nat := [136, 137, 138, 139, 140, 141, 142, 143]
theorem f_all0_17 (x y u : Int) : (allC17.all fun r => isOk (fRun 0 x y u (.int .u8 (.ofNat r)))) = true := by kernel_rfl
def allC18 : List Nat := [144, 145, 146, 147, 148, 149, 150, 151]
theorem f_all0_18 (x y u : Int) : (allC18.all fun r => isOk (fRun 0 x y u (.int .u8 (.ofNat r)))) = true := by kernel_rfl
def allC19 : List Nat := [152, 153, 154, 155, 156, 157, 158, 159]
theorem f_all0_19 (x y u : Int) : (allC19.all fun r => isOk (fRun 0 x y u (.int .u8 (.ofNat r)))) = true := by kernel_rfl
def allC20 : List Nat := [160, 161, 162, 163, 164, 165, 166, 167]
theorem f_all0_20 (x y u : Int) : (allC20.all fun r => isOk (fRun 0 x y u (.int .u8 (.ofNat r)))) = true := by kernel_rfl
def allC21 : List Nat := [168, 169, 170, 171, 172, 173, 174, 175]
theorem f_all0_21 (x y u : Int) : (allC21.all fun r => isOk (fRun 0 x y u (.int .u8 (.ofNat r)))) = true := by kernel_rfl
def allC22 : List Nat := [176, 177, 178, 179, 180, 181, 182, 183]
theorem f_all0_22 (x y u : Int) : (allC22.all fun r => isOk (fRun 0 x y u (.int .u8 (.ofNat r)))) = true := by kernel_rfl
def allC23 : List Nat := [184, 185, 186, 187, 188, 189, 190, 191]
theorem f_all0_23 (x y u : Int) : (allC23.all fun r => isOk (fRun 0 x y u (.int .u8 (.ofNat r)))) = true := by kernel_rfl
def allC24 : List Nat := [192, 193, 194, 195, 196, 197, 198, 199]
theorem f_all0_24 (x y u : Int) : (allC24.all fun r => isOk (fRun 0 x y u (.int .u8 (.ofNat r)))) = true := by kernel_rfl
def allC25 : List Nat := [200, 201, 202, 203, 204, 205, 206, 207]
theorem f_all0_25 (x y u : Int) : (allC25.all fun r => isOk (fRun 0 x y u (.int .u8 (.ofNat r)))) = true := by kernel_rfl
def allC26 : List Nat := [208, 209, 210, 211, 212, 213, 214, 215]
theorem f_all0_26 (x y u : Int) : (allC26.all fun r => isOk (fRun 0 x y u (.int .u8 (.ofNat r)))) = true := by kernel_rfl
def allC27 : List Nat := [216, 217, 218, 219, 220, 221, 222, 223]
theorem f_all0_27 (x y u : Int) : (allC27.all fun r => isOk (fRun 0 x y u (.int .u8 (.ofNat r)))) = true := by kernel_rfl
def allC28 : List Nat := [224, 225, 226, 227, 228, 229, 230, 231]
theorem f_all0_28 (x y u : Int) : (allC28.all fun r => isOk (fRun 0 x y u (.int .u8 (.ofNat r)))) = true := by kernel_rfl
def allC29 : List Nat := [232, 233, 234, 235, 236, 237, 238, 239]
theorem f_all0_29 (x y u : Int) : (allC29.all fun r => isOk (fRun 0 x y u (.int .u8 (.ofNat r)))) = true := by kernel_rfl
def allC30 : List Nat := [240, 241, 242, 243, 244, 245, 246, 247]
theorem f_all0_30 (x y u : Int) : (allC30.all fun r => isOk (fRun 0 x y u (.int .u8 (.ofNat r)))) = true := by kernel_rfl
def allC31 : List Nat := [248, 249, 250, 251, 252, 253, 254, 255]
theorem f_all0_31 (x y u : Int) : (allC31.all fun r => isOk (fRun 0 x y u (.int .u8 (.ofNat r)))) = true := by kernel_rfl
theorem allC0_mem : ∀ r, r < 8 → 0 ≤ r → r ∈ allC0 := by decide +kernel
theorem allC1_mem : ∀ r, r < 16 → 8 ≤ r → r ∈ allC1 := by decide +kernel
theorem allC2_mem : ∀ r, r < 24 → 16 ≤ r → r ∈ allC2 := by decide +kernel
theorem allC3_mem : ∀ r, r < 32 → 24 ≤ r → r ∈ allC3 := by decide +kernel
theorem allC4_mem : ∀ r, r < 40 → 32 ≤ r → r ∈ allC4 := by decide +kernel
theorem allC5_mem : ∀ r, r < 48 → 40 ≤ r → r ∈ allC5 := by decide +kernel
theorem allC6_mem : ∀ r, r < 56 → 48 ≤ r → r ∈ allC6 := by decide +kernel
theorem allC7_mem : ∀ r, r < 64 → 56 ≤ r → r ∈ allC7 := by decide +kernel
theorem allC8_mem : ∀ r, r < 72 → 64 ≤ r → r ∈ allC8 := by decide +kernel
theorem allC9_mem : ∀ r, r < 80 → 72 ≤ r → r ∈ allC9 := by decide +kernel
theorem allC10_mem : ∀ r, r < 88 → 80 ≤ r → r ∈ allC10 := by decide +kernel
theorem allC11_mem : ∀ r, r < 96 → 88 ≤ r → r ∈ allC11 := by decide +kernel
theorem allC12_mem : ∀ r, r < 104 → 96 ≤ r → r ∈ allC12 := by decide +kernel
theorem allC13_mem : ∀ r, r < 112 → 104 ≤ r → r ∈ allC13 := by decide +kernel
theorem allC14_mem : ∀ r, r < 120 → 112 ≤ r → r ∈ allC14 := by decide +kernel
theorem allC15_mem : ∀ r, r < 128 → 120 ≤ r → r ∈ allC15 := by decide +kernel
theorem allC16_mem : ∀ r, r < 136 → 128 ≤ r → r ∈ allC16 := by decide +kernel
theorem allC17_mem : ∀ r, r < 144 → 136 ≤ r → r ∈ allC17 := by decide +kernel
theorem allC18_mem : ∀ r, r < 152 → 144 ≤ r → r ∈ allC18 := by decide +kernel
theorem allC19_mem : ∀ r, r < 160 → 152 ≤ r → r ∈ allC19 := by decide +kernel
theorem allC20_mem : ∀ r, r < 168 → 160 ≤ r → r ∈ allC20 := by decide +kernel
theorem allC21_mem : ∀ r, r < 176 → 168 ≤ r → r ∈ allC21 := by decide +kernel
theorem allC22_mem : ∀ r, r < 184 → 176 ≤ r → r ∈ allC22 := by decide +kernel
theorem allC23_mem : ∀ r, r < 192 → 184 ≤ r → r ∈ allC23 := by decide +kernel
theorem allC24_mem : ∀ r, r < 200 → 192 ≤ r → r ∈ allC24 := by decide +kernel
theorem allC25_mem : ∀ r, r < 208 → 200 ≤ r → r ∈ allC25 := by decide +kernel
theorem allC26_mem : ∀ r, r < 216 → 208 ≤ r → r ∈ allC26 := by decide +kernel
theorem allC27_mem : ∀ r, r < 224 → 216 ≤ r → r ∈ allC27 := by decide +kernel
theorem allC28_mem : ∀ r, r < 232 → 224 ≤ r → r ∈ allC28 := by decide +kernel
theorem allC29_mem : ∀ r, r < 240 → 232 ≤ r → r ∈ allC29 := by decide +kernel
theorem allC30_mem : ∀ r, r < 248 → 240 ≤ r → r ∈ allC30 := by decide +kernel
theorem allC31_mem : ∀ r, r < 256 → 248 ≤ r → r ∈ allC31 := by decide +kernel
theorem f_r0 (x y u : Int) (r : Nat) (h : r < 256) : isOk (fRun 0 x y u (.int .u8 (.ofNat r))) = true := by
  rcases Nat.lt_or_ge r 128 with h16 | h16
  · skip
    rcases Nat.lt_or_ge r 64 with h8 | h8
    · skip
      rcases Nat.lt_or_ge r 32 with h4 | h4
      · skip
        rcases Nat.lt_or_ge r 16 with h2 | h2
        · skip
          rcases Nat.lt_or_ge r 8 with h1 | h1
          · skip
            exact List.all_eq_true.1 (f_all0_0 x y u) r (allC0_mem r (by omega) (by omega))
          · skip
            exact List.all_eq_true.1 (f_all0_1 x y u) r (allC1_mem r (by omega) (by omega))
        · skip
          rcases Nat.lt_or_ge r 24 with h3 | h3
          · skip
            exact List.all_eq_true.1 (f_all0_2 x y u) r (allC2_mem r (by omega) (by omega))
          · skip
            exact List.all_eq_true.1 (f_all0_3 x y u) r (allC3_mem r (by omega) (by omega))
      · skip
        rcases Nat.lt_or_ge r 48 with h6 | h6
        · skip
          rcases Nat.lt_or_ge r 40 with h5 | h5
          · skip
            exact List.all_eq_true.1 (f_all0_4 x y u) r (allC4_mem r (by omega) (by omega))
          · skip
            exact List.all_eq_true.1 (f_all0_5 x y u) r (allC5_mem r (by omega) (by omega))
        · skip
          rcases Nat.lt_or_ge r 56 with h7 | h7
          · skip
            exact List.all_eq_true.1 (f_all0_6 x y u) r (allC6_mem r (by omega) (by omega))
          · skip
            exact List.all_eq_true.1 (f_all0_7 x y u) r (allC7_mem r (by omega) (by omega))
    · skip
      rcases Nat.lt_or_ge r 96 with h12 | h12
      · skip
        rcases Nat.lt_or_ge r 80 with h10 | h10
        · skip
          rcases Nat.lt_or_ge r 72 with h9 | h9
          · skip
            exact List.all_eq_true.1 (f_all0_8 x y u) r (allC8_mem r (by omega) (by omega))
          · skip
            exact List.all_eq_true.1 (f_all0_9 x y u) r (allC9_mem r (by omega) (by omega))
        · skip
          rcases Nat.lt_or_ge r 88 with h11 | h11
          · skip
            exact List.all_eq_true.1 (f_all0_10 x y u) r (allC10_mem r (by omega) (by omega))
          · skip
            exact List.all_eq_true.1 (f_all0_11 x y u) r (allC11_mem r (by omega) (by omega))
      · skip
        rcases Nat.lt_or_ge r 112 with h14 | h14
        · skip
          rcases Nat.lt_or_ge r 104 with h13 | h13
          · skip
            exact List.all_eq_true.1 (f_all0_12 x y u) r (allC12_mem r (by omega) (by omega))
          · skip
            exact List.all_eq_true.1 (f_all0_13 x y u) r (allC13_mem r (by omega) (by omega))
        · skip
          rcases Nat.lt_or_ge r 120 with h15 | h15
          · skip
            exact List.all_eq_true.1 (f_all0_14 x y u) r (allC14_mem r (by omega) (by omega))
          · skip
            exact List.all_eq_true.1 (f_all0_15 x y u) r (allC15_mem r (by omega) (by omega))
  · skip
    rcases Nat.lt_or_ge r 192 with h24 | h24
    · skip
      rcases Nat.lt_or_ge r 160 with h20 | h20
      · skip
        rcases Nat.lt_or_ge r 144 with h18 | h18
        · skip
          rcases Nat.lt_or_ge r 136 with h17 | h17
          · skip
            exact List.all_eq_true.1 (f_all0_16 x y u) r (allC16_mem r (by omega) (by omega))
          · skip
            exact List.all_eq_true.1 (f_all0_17 x y u) r (allC17_mem r (by omega) (by omega))
        · skip
          rcases Nat.lt_or_ge r 152 with h19 | h19
          · skip
            exact List.all_eq_true.1 (f_all0_18 x y u) r (allC18_mem r (by omega) (by omega))
          · skip
            exact List.all_eq_true.1 (f_all0_19 x y u) r (allC19_mem r (by omega) (by omega))
      · skip
        rcases Nat.lt_or_ge r 176 with h22 | h22
        · skip
          rcases Nat.lt_or_ge r 168 with h21 | h21
          · skip
            exact List.all_eq_true.1 (f_all0_20 x y u) r (allC20_mem r (by omega) (by omega))
          · skip
            exact List.all_eq_true.1 (f_all0_21 x y u) r (allC21_mem r (by omega) (by omega))
        · skip
          rcases Nat.lt_or_ge r 184 with h23 | h23
          · skip
            exact List.all_eq_true.1 (f_all0_22 x y u) r (allC22_mem r (by omega) (by omega))
          · skip
            exact List.all_eq_true.1 (f_all0_23 x y u) r (allC23_mem r (by omega) (by omega))
    · skip
      rcases Nat.lt_or_ge r 224 with h28 | h28
      · skip
        rcases Nat.lt_or_ge r 208 with h26 | h26
        · skip
          rcases Nat.lt_or_ge r 200 with h25 | h25
          · skip
            exact List.all_eq_true.1 (f_all0_24 x y u) r (allC24_mem r (by omega) (by omega))
          · skip
            exact List.all_eq_true.1 (f_all0_25 x y u) r (allC25_mem r (by omega) (by omega))
        · skip
          rcases Nat.lt_or_ge r 216 with h27 | h27
          · skip
            exact List.all_eq_true.1 (f_all0_26 x y u) r (allC26_mem r (by omega) (by omega))
          · skip
            exact List.all_eq_true.1 (f_all0_27 x y u) r (allC27_mem r (by omega) (by omega))
      · skip
        rcases Nat.lt_or_ge r 240 with h30 | h30
        · skip
          rcases Nat.lt_or_ge r 232 with h29 | h29
          · skip
            exact List.all_eq_true.1 (f_all0_28 x y u) r (allC28_mem r (by omega) (by omega))
          · skip
            exact List.all_eq_true.1 (f_all0_29 x y u) r (allC29_mem r (by omega) (by omega))
        · skip
          rcases Nat.lt_or_ge r 248 with h31 | h31
          · skip
            exact List.all_eq_true.1 (f_all0_30 x y u) r (allC30_mem r (by omega) (by omega))
          · skip
            exact List.all_eq_true.1 (f_all0_31 x y u) r (allC31_mem r (by omega) (by omega))
end Go.Proofs
