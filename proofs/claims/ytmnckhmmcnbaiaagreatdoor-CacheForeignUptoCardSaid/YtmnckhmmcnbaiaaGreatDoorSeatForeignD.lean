/- CacheForeign: what lies in a sector that the mounting reads: each byte. -/
import Derived.Test.YtmnckhmmcnbaiaaGreatDoorSeatForeign
set_option linter.unusedSimpArgs false
set_option linter.unusedVariables false
namespace Go.Proofs
open Go Go.RowKit Go.Ax
def allD0 : List Nat := [0, 1, 2, 3, 4, 5, 6, 7]
theorem f_all1_0 (x y u : Int) : (allD0.all fun r => isOk (fRun 1 x y u (.int .u8 (.ofNat r)))) = true := by kernel_rfl
def allD1 : List Nat := [8, 9, 10, 11, 12, 13, 14, 15]
theorem f_all1_1 (x y u : Int) : (allD1.all fun r => isOk (fRun 1 x y u (.int .u8 (.ofNat r)))) = true := by kernel_rfl
def allD2 : List Nat := [16, 17, 18, 19, 20, 21, 22, 23]
theorem f_all1_2 (x y u : Int) : (allD2.all fun r => isOk (fRun 1 x y u (.int .u8 (.ofNat r)))) = true := by kernel_rfl
def allD3 : List Nat := [24, 25, 26, 27, 28, 29, 30, 31]
theorem f_all1_3 (x y u : Int) : (allD3.all fun r => isOk (fRun 1 x y u (.int .u8 (.ofNat r)))) = true := by kernel_rfl
def allD4 : List Nat := [32, 33, 34, 35, 36, 37, 38, 39]
theorem f_all1_4 (x y u : Int) : (allD4.all fun r => isOk (fRun 1 x y u (.int .u8 (.ofNat r)))) = true := by kernel_rfl
def allD5 : List Nat := [40, 41, 42, 43, 44, 45, 46, 47]
theorem f_all1_5 (x y u : Int) : (allD5.all fun r => isOk (fRun 1 x y u (.int .u8 (.ofNat r)))) = true := by kernel_rfl
def allD6 : List Nat := [48, 49, 50, 51, 52, 53, 54, 55]
theorem f_all1_6 (x y u : Int) : (allD6.all fun r => isOk (fRun 1 x y u (.int .u8 (.ofNat r)))) = true := by kernel_rfl
def allD7 : List Nat := [56, 57, 58, 59, 60, 61, 62, 63]
theorem f_all1_7 (x y u : Int) : (allD7.all fun r => isOk (fRun 1 x y u (.int .u8 (.ofNat r)))) = true := by kernel_rfl
def allD8 : List Nat := [64, 65, 66, 67, 68, 69, 70, 71]
theorem f_all1_8 (x y u : Int) : (allD8.all fun r => isOk (fRun 1 x y u (.int .u8 (.ofNat r)))) = true := by kernel_rfl
def allD9 : List Nat := [72, 73, 74, 75, 76, 77, 78, 79]
theorem f_all1_9 (x y u : Int) : (allD9.all fun r => isOk (fRun 1 x y u (.int .u8 (.ofNat r)))) = true := by kernel_rfl
def allD10 : List Nat := [80, 81, 82, 83, 84, 85, 86, 87]
theorem f_all1_10 (x y u : Int) : (allD10.all fun r => isOk (fRun 1 x y u (.int .u8 (.ofNat r)))) = true := by kernel_rfl
def allD11 : List Nat := [88, 89, 90, 91, 92, 93, 94, 95]
theorem f_all1_11 (x y u : Int) : (allD11.all fun r => isOk (fRun 1 x y u (.int .u8 (.ofNat r)))) = true := by kernel_rfl
def allD12 : List Nat := [96, 97, 98, 99, 100, 101, 102, 103]
theorem f_all1_12 (x y u : Int) : (allD12.all fun r => isOk (fRun 1 x y u (.int .u8 (.ofNat r)))) = true := by kernel_rfl
def allD13 : List Nat := [104, 105, 106, 107, 108, 109, 110, 111]
theorem f_all1_13 (x y u : Int) : (allD13.all fun r => isOk (fRun 1 x y u (.int .u8 (.ofNat r)))) = true := by kernel_rfl
def allD14 : List Nat := [112, 113, 114, 115, 116, 117, 118, 119]
theorem f_all1_14 (x y u : Int) : (allD14.all fun r => isOk (fRun 1 x y u (.int .u8 (.ofNat r)))) = true := by kernel_rfl
def allD15 : List Nat := [120, 121, 122, 123, 124, 125, 126, 127]
theorem f_all1_15 (x y u : Int) : (allD15.all fun r => isOk (fRun 1 x y u (.int .u8 (.ofNat r)))) = true := by kernel_rfl
def allD16 : List Nat := [128, 129, 130, 131, 132, 133, 134, 135]
theorem f_all1_16 (x y u : Int) : (allD16.all fun r => isOk (fRun 1 x y u (.int .u8 (.ofNat r)))) = true := by kernel_rfl
def allD17 : List Nat := [136, 137, 138, 139, 140, 141, 142, 143]
theorem f_all1_17 (x y u : Int) : (allD17.all fun r => isOk (fRun 1 x y u (.int .u8 (.ofNat r)))) = true := by kernel_rfl
def allD18 : List Nat := [144, 145, 146, 147, 148, 149, 150, 151]
theorem f_all1_18 (x y u : Int) : (allD18.all fun r => isOk (fRun 1 x y u (.int .u8 (.ofNat r)))) = true := by kernel_rfl
def allD19 : List Nat := [152, 153, 154, 155, 156, 157, 158, 159]
theorem f_all1_19 (x y u : Int) : (allD19.all fun r => isOk (fRun 1 x y u (.int .u8 (.ofNat r)))) = true := by kernel_rfl
def allD20 : List Nat := [160, 161, 162, 163, 164, 165, 166, 167]
theorem f_all1_20 (x y u : Int) : (allD20.all fun r => isOk (fRun 1 x y u (.int .u8 (.ofNat r)))) = true := by kernel_rfl
def allD21 : List Nat := [168, 169, 170, 171, 172, 173, 174, 175]
theorem f_all1_21 (x y u : Int) : (allD21.all fun r => isOk (fRun 1 x y u (.int .u8 (.ofNat r)))) = true := by kernel_rfl
def allD22 : List Nat := [176, 177, 178, 179, 180, 181, 182, 183]
theorem f_all1_22 (x y u : Int) : (allD22.all fun r => isOk (fRun 1 x y u (.int .u8 (.ofNat r)))) = true := by kernel_rfl
def allD23 : List Nat := [184, 185, 186, 187, 188, 189, 190, 191]
theorem f_all1_23 (x y u : Int) : (allD23.all fun r => isOk (fRun 1 x y u (.int .u8 (.ofNat r)))) = true := by kernel_rfl
def allD24 : List Nat := [192, 193, 194, 195, 196, 197, 198, 199]
theorem f_all1_24 (x y u : Int) : (allD24.all fun r => isOk (fRun 1 x y u (.int .u8 (.ofNat r)))) = true := by kernel_rfl
def allD25 : List Nat := [200, 201, 202, 203, 204, 205, 206, 207]
theorem f_all1_25 (x y u : Int) : (allD25.all fun r => isOk (fRun 1 x y u (.int .u8 (.ofNat r)))) = true := by kernel_rfl
def allD26 : List Nat := [208, 209, 210, 211, 212, 213, 214, 215]
theorem f_all1_26 (x y u : Int) : (allD26.all fun r => isOk (fRun 1 x y u (.int .u8 (.ofNat r)))) = true := by kernel_rfl
def allD27 : List Nat := [216, 217, 218, 219, 220, 221, 222, 223]
theorem f_all1_27 (x y u : Int) : (allD27.all fun r => isOk (fRun 1 x y u (.int .u8 (.ofNat r)))) = true := by kernel_rfl
def allD28 : List Nat := [224, 225, 226, 227, 228, 229, 230, 231]
theorem f_all1_28 (x y u : Int) : (allD28.all fun r => isOk (fRun 1 x y u (.int .u8 (.ofNat r)))) = true := by kernel_rfl
def allD29 : List Nat := [232, 233, 234, 235, 236, 237, 238, 239]
theorem f_all1_29 (x y u : Int) : (allD29.all fun r => isOk (fRun 1 x y u (.int .u8 (.ofNat r)))) = true := by kernel_rfl
def allD30 : List Nat := [240, 241, 242, 243, 244, 245, 246, 247]
theorem f_all1_30 (x y u : Int) : (allD30.all fun r => isOk (fRun 1 x y u (.int .u8 (.ofNat r)))) = true := by kernel_rfl
def allD31 : List Nat := [248, 249, 250, 251, 252, 253, 254, 255]
theorem f_all1_31 (x y u : Int) : (allD31.all fun r => isOk (fRun 1 x y u (.int .u8 (.ofNat r)))) = true := by kernel_rfl
theorem allD0_mem : ∀ r, r < 8 → 0 ≤ r → r ∈ allD0 := by decide +kernel
theorem allD1_mem : ∀ r, r < 16 → 8 ≤ r → r ∈ allD1 := by decide +kernel
theorem allD2_mem : ∀ r, r < 24 → 16 ≤ r → r ∈ allD2 := by decide +kernel
theorem allD3_mem : ∀ r, r < 32 → 24 ≤ r → r ∈ allD3 := by decide +kernel
theorem allD4_mem : ∀ r, r < 40 → 32 ≤ r → r ∈ allD4 := by decide +kernel
theorem allD5_mem : ∀ r, r < 48 → 40 ≤ r → r ∈ allD5 := by decide +kernel
theorem allD6_mem : ∀ r, r < 56 → 48 ≤ r → r ∈ allD6 := by decide +kernel
theorem allD7_mem : ∀ r, r < 64 → 56 ≤ r → r ∈ allD7 := by decide +kernel
theorem allD8_mem : ∀ r, r < 72 → 64 ≤ r → r ∈ allD8 := by decide +kernel
theorem allD9_mem : ∀ r, r < 80 → 72 ≤ r → r ∈ allD9 := by decide +kernel
theorem allD10_mem : ∀ r, r < 88 → 80 ≤ r → r ∈ allD10 := by decide +kernel
theorem allD11_mem : ∀ r, r < 96 → 88 ≤ r → r ∈ allD11 := by decide +kernel
theorem allD12_mem : ∀ r, r < 104 → 96 ≤ r → r ∈ allD12 := by decide +kernel
theorem allD13_mem : ∀ r, r < 112 → 104 ≤ r → r ∈ allD13 := by decide +kernel
theorem allD14_mem : ∀ r, r < 120 → 112 ≤ r → r ∈ allD14 := by decide +kernel
theorem allD15_mem : ∀ r, r < 128 → 120 ≤ r → r ∈ allD15 := by decide +kernel
theorem allD16_mem : ∀ r, r < 136 → 128 ≤ r → r ∈ allD16 := by decide +kernel
theorem allD17_mem : ∀ r, r < 144 → 136 ≤ r → r ∈ allD17 := by decide +kernel
theorem allD18_mem : ∀ r, r < 152 → 144 ≤ r → r ∈ allD18 := by decide +kernel
theorem allD19_mem : ∀ r, r < 160 → 152 ≤ r → r ∈ allD19 := by decide +kernel
theorem allD20_mem : ∀ r, r < 168 → 160 ≤ r → r ∈ allD20 := by decide +kernel
theorem allD21_mem : ∀ r, r < 176 → 168 ≤ r → r ∈ allD21 := by decide +kernel
theorem allD22_mem : ∀ r, r < 184 → 176 ≤ r → r ∈ allD22 := by decide +kernel
theorem allD23_mem : ∀ r, r < 192 → 184 ≤ r → r ∈ allD23 := by decide +kernel
theorem allD24_mem : ∀ r, r < 200 → 192 ≤ r → r ∈ allD24 := by decide +kernel
theorem allD25_mem : ∀ r, r < 208 → 200 ≤ r → r ∈ allD25 := by decide +kernel
theorem allD26_mem : ∀ r, r < 216 → 208 ≤ r → r ∈ allD26 := by decide +kernel
theorem allD27_mem : ∀ r, r < 224 → 216 ≤ r → r ∈ allD27 := by decide +kernel
theorem allD28_mem : ∀ r, r < 232 → 224 ≤ r → r ∈ allD28 := by decide +kernel
theorem allD29_mem : ∀ r, r < 240 → 232 ≤ r → r ∈ allD29 := by decide +kernel
theorem allD30_mem : ∀ r, r < 248 → 240 ≤ r → r ∈ allD30 := by decide +kernel
theorem allD31_mem : ∀ r, r < 256 → 248 ≤ r → r ∈ allD31 := by decide +kernel
theorem f_r1 (x y u : Int) (r : Nat) (h : r < 256) : isOk (fRun 1 x y u (.int .u8 (.ofNat r))) = true := by
  rcases Nat.lt_or_ge r 128 with h16 | h16
  · skip
    rcases Nat.lt_or_ge r 64 with h8 | h8
    · skip
      rcases Nat.lt_or_ge r 32 with h4 | h4
      · skip
        rcases Nat.lt_or_ge r 16 with h2 | h2
        · skip
          rcases Nat.lt_or_ge r 8 with h1 | h1
          · skip
            exact List.all_eq_true.1 (f_all1_0 x y u) r (allD0_mem r (by omega) (by omega))
          · skip
            exact List.all_eq_true.1 (f_all1_1 x y u) r (allD1_mem r (by omega) (by omega))
        · skip
          rcases Nat.lt_or_ge r 24 with h3 | h3
          · skip
            exact List.all_eq_true.1 (f_all1_2 x y u) r (allD2_mem r (by omega) (by omega))
          · skip
            exact List.all_eq_true.1 (f_all1_3 x y u) r (allD3_mem r (by omega) (by omega))
      · skip
        rcases Nat.lt_or_ge r 48 with h6 | h6
        · skip
          rcases Nat.lt_or_ge r 40 with h5 | h5
          · skip
            exact List.all_eq_true.1 (f_all1_4 x y u) r (allD4_mem r (by omega) (by omega))
          · skip
            exact List.all_eq_true.1 (f_all1_5 x y u) r (allD5_mem r (by omega) (by omega))
        · skip
          rcases Nat.lt_or_ge r 56 with h7 | h7
          · skip
            exact List.all_eq_true.1 (f_all1_6 x y u) r (allD6_mem r (by omega) (by omega))
          · skip
            exact List.all_eq_true.1 (f_all1_7 x y u) r (allD7_mem r (by omega) (by omega))
    · skip
      rcases Nat.lt_or_ge r 96 with h12 | h12
      · skip
        rcases Nat.lt_or_ge r 80 with h10 | h10
        · skip
          rcases Nat.lt_or_ge r 72 with h9 | h9
          · skip
            exact List.all_eq_true.1 (f_all1_8 x y u) r (allD8_mem r (by omega) (by omega))
          · skip
            exact List.all_eq_true.1 (f_all1_9 x y u) r (allD9_mem r (by omega) (by omega))
        · skip
          rcases Nat.lt_or_ge r 88 with h11 | h11
          · skip
            exact List.all_eq_true.1 (f_all1_10 x y u) r (allD10_mem r (by omega) (by omega))
          · skip
            exact List.all_eq_true.1 (f_all1_11 x y u) r (allD11_mem r (by omega) (by omega))
      · skip
        rcases Nat.lt_or_ge r 112 with h14 | h14
        · skip
          rcases Nat.lt_or_ge r 104 with h13 | h13
          · skip
            exact List.all_eq_true.1 (f_all1_12 x y u) r (allD12_mem r (by omega) (by omega))
          · skip
            exact List.all_eq_true.1 (f_all1_13 x y u) r (allD13_mem r (by omega) (by omega))
        · skip
          rcases Nat.lt_or_ge r 120 with h15 | h15
          · skip
            exact List.all_eq_true.1 (f_all1_14 x y u) r (allD14_mem r (by omega) (by omega))
          · skip
            exact List.all_eq_true.1 (f_all1_15 x y u) r (allD15_mem r (by omega) (by omega))
  · skip
    rcases Nat.lt_or_ge r 192 with h24 | h24
    · skip
      rcases Nat.lt_or_ge r 160 with h20 | h20
      · skip
        rcases Nat.lt_or_ge r 144 with h18 | h18
        · skip
          rcases Nat.lt_or_ge r 136 with h17 | h17
          · skip
            exact List.all_eq_true.1 (f_all1_16 x y u) r (allD16_mem r (by omega) (by omega))
          · skip
            exact List.all_eq_true.1 (f_all1_17 x y u) r (allD17_mem r (by omega) (by omega))
        · skip
          rcases Nat.lt_or_ge r 152 with h19 | h19
          · skip
            exact List.all_eq_true.1 (f_all1_18 x y u) r (allD18_mem r (by omega) (by omega))
          · skip
            exact List.all_eq_true.1 (f_all1_19 x y u) r (allD19_mem r (by omega) (by omega))
      · skip
        rcases Nat.lt_or_ge r 176 with h22 | h22
        · skip
          rcases Nat.lt_or_ge r 168 with h21 | h21
          · skip
            exact List.all_eq_true.1 (f_all1_20 x y u) r (allD20_mem r (by omega) (by omega))
          · skip
            exact List.all_eq_true.1 (f_all1_21 x y u) r (allD21_mem r (by omega) (by omega))
        · skip
          rcases Nat.lt_or_ge r 184 with h23 | h23
          · skip
            exact List.all_eq_true.1 (f_all1_22 x y u) r (allD22_mem r (by omega) (by omega))
          · skip
            exact List.all_eq_true.1 (f_all1_23 x y u) r (allD23_mem r (by omega) (by omega))
    · skip
      rcases Nat.lt_or_ge r 224 with h28 | h28
      · skip
        rcases Nat.lt_or_ge r 208 with h26 | h26
        · skip
          rcases Nat.lt_or_ge r 200 with h25 | h25
          · skip
            exact List.all_eq_true.1 (f_all1_24 x y u) r (allD24_mem r (by omega) (by omega))
          · skip
            exact List.all_eq_true.1 (f_all1_25 x y u) r (allD25_mem r (by omega) (by omega))
        · skip
          rcases Nat.lt_or_ge r 216 with h27 | h27
          · skip
            exact List.all_eq_true.1 (f_all1_26 x y u) r (allD26_mem r (by omega) (by omega))
          · skip
            exact List.all_eq_true.1 (f_all1_27 x y u) r (allD27_mem r (by omega) (by omega))
      · skip
        rcases Nat.lt_or_ge r 240 with h30 | h30
        · skip
          rcases Nat.lt_or_ge r 232 with h29 | h29
          · skip
            exact List.all_eq_true.1 (f_all1_28 x y u) r (allD28_mem r (by omega) (by omega))
          · skip
            exact List.all_eq_true.1 (f_all1_29 x y u) r (allD29_mem r (by omega) (by omega))
        · skip
          rcases Nat.lt_or_ge r 248 with h31 | h31
          · skip
            exact List.all_eq_true.1 (f_all1_30 x y u) r (allD30_mem r (by omega) (by omega))
          · skip
            exact List.all_eq_true.1 (f_all1_31 x y u) r (allD31_mem r (by omega) (by omega))
end Go.Proofs
