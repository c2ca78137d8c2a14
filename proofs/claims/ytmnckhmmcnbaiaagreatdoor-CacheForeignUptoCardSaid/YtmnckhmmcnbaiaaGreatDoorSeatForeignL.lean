/- CacheForeign: whatever comes in, the law returns true. -/
import Derived.Test.YtmnckhmmcnbaiaaGreatDoorSeatForeignA
import Derived.Test.YtmnckhmmcnbaiaaGreatDoorSeatForeignB
import Derived.Test.YtmnckhmmcnbaiaaGreatDoorSeatForeignC
import Derived.Test.YtmnckhmmcnbaiaaGreatDoorSeatForeignD
set_option linter.unusedSimpArgs false
set_option linter.unusedVariables false
namespace Go.Proofs
open Go Go.RowKit Go.Ax
theorem f_all {k r : Nat} (hk : k < 200) (h : r < 256) (x y u : Int) : isOk (fRun k x y u (.int .u8 (.ofNat r))) = true := by
  rcases Nat.lt_or_ge k 100 with h100 | h100
  · skip
    rcases Nat.lt_or_ge k 50 with h50 | h50
    · skip
      rcases Nat.lt_or_ge k 25 with h25 | h25
      · skip
        rcases Nat.lt_or_ge k 12 with h12 | h12
        · skip
          rcases Nat.lt_or_ge k 6 with h6 | h6
          · skip
            rcases Nat.lt_or_ge k 3 with h3 | h3
            · skip
              rcases Nat.lt_or_ge k 1 with h1 | h1
              · skip
                obtain rfl : k = 0 := by omega
                exact f_r0 x y u r h
              · skip
                rcases Nat.lt_or_ge k 2 with h2 | h2
                · skip
                  obtain rfl : k = 1 := by omega
                  exact f_r1 x y u r h
                · skip
                  obtain rfl : k = 2 := by omega
                  exact f_r2 x y u r
            · skip
              rcases Nat.lt_or_ge k 4 with h4 | h4
              · skip
                obtain rfl : k = 3 := by omega
                exact f_r3 x y u r
              · skip
                rcases Nat.lt_or_ge k 5 with h5 | h5
                · skip
                  obtain rfl : k = 4 := by omega
                  exact f_r4 x y u r
                · skip
                  obtain rfl : k = 5 := by omega
                  exact f_r5 x y u r
          · skip
            rcases Nat.lt_or_ge k 9 with h9 | h9
            · skip
              rcases Nat.lt_or_ge k 7 with h7 | h7
              · skip
                obtain rfl : k = 6 := by omega
                exact f_r6 x y u r
              · skip
                rcases Nat.lt_or_ge k 8 with h8 | h8
                · skip
                  obtain rfl : k = 7 := by omega
                  exact f_r7 x y u r
                · skip
                  obtain rfl : k = 8 := by omega
                  exact f_r8 x y u r
            · skip
              rcases Nat.lt_or_ge k 10 with h10 | h10
              · skip
                obtain rfl : k = 9 := by omega
                exact f_r9 x y u r
              · skip
                rcases Nat.lt_or_ge k 11 with h11 | h11
                · skip
                  obtain rfl : k = 10 := by omega
                  exact f_r10 x y u r
                · skip
                  obtain rfl : k = 11 := by omega
                  exact f_r11 x y u r
        · skip
          rcases Nat.lt_or_ge k 18 with h18 | h18
          · skip
            rcases Nat.lt_or_ge k 15 with h15 | h15
            · skip
              rcases Nat.lt_or_ge k 13 with h13 | h13
              · skip
                obtain rfl : k = 12 := by omega
                exact f_r12 x y u r
              · skip
                rcases Nat.lt_or_ge k 14 with h14 | h14
                · skip
                  obtain rfl : k = 13 := by omega
                  exact f_r13 x y u r
                · skip
                  obtain rfl : k = 14 := by omega
                  exact f_r14 x y u r
            · skip
              rcases Nat.lt_or_ge k 16 with h16 | h16
              · skip
                obtain rfl : k = 15 := by omega
                exact f_r15 x y u r
              · skip
                rcases Nat.lt_or_ge k 17 with h17 | h17
                · skip
                  obtain rfl : k = 16 := by omega
                  exact f_r16 x y u r
                · skip
                  obtain rfl : k = 17 := by omega
                  exact f_r17 x y u r
          · skip
            rcases Nat.lt_or_ge k 21 with h21 | h21
            · skip
              rcases Nat.lt_or_ge k 19 with h19 | h19
              · skip
                obtain rfl : k = 18 := by omega
                exact f_r18 x y u r
              · skip
                rcases Nat.lt_or_ge k 20 with h20 | h20
                · skip
                  obtain rfl : k = 19 := by omega
                  exact f_r19 x y u r
                · skip
                  obtain rfl : k = 20 := by omega
                  exact f_r20 x y u r
            · skip
              rcases Nat.lt_or_ge k 23 with h23 | h23
              · skip
                rcases Nat.lt_or_ge k 22 with h22 | h22
                · skip
                  obtain rfl : k = 21 := by omega
                  exact f_r21 x y u r
                · skip
                  obtain rfl : k = 22 := by omega
                  exact f_r22 x y u r
              · skip
                rcases Nat.lt_or_ge k 24 with h24 | h24
                · skip
                  obtain rfl : k = 23 := by omega
                  exact f_r23 x y u r
                · skip
                  obtain rfl : k = 24 := by omega
                  exact f_r24 x y u r
      · skip
        rcases Nat.lt_or_ge k 37 with h37 | h37
        · skip
          rcases Nat.lt_or_ge k 31 with h31 | h31
          · skip
            rcases Nat.lt_or_ge k 28 with h28 | h28
            · skip
              rcases Nat.lt_or_ge k 26 with h26 | h26
              · skip
                obtain rfl : k = 25 := by omega
                exact f_r25 x y u r
              · skip
                rcases Nat.lt_or_ge k 27 with h27 | h27
                · skip
                  obtain rfl : k = 26 := by omega
                  exact f_r26 x y u r
                · skip
                  obtain rfl : k = 27 := by omega
                  exact f_r27 x y u r
            · skip
              rcases Nat.lt_or_ge k 29 with h29 | h29
              · skip
                obtain rfl : k = 28 := by omega
                exact f_r28 x y u r
              · skip
                rcases Nat.lt_or_ge k 30 with h30 | h30
                · skip
                  obtain rfl : k = 29 := by omega
                  exact f_r29 x y u r
                · skip
                  obtain rfl : k = 30 := by omega
                  exact f_r30 x y u r
          · skip
            rcases Nat.lt_or_ge k 34 with h34 | h34
            · skip
              rcases Nat.lt_or_ge k 32 with h32 | h32
              · skip
                obtain rfl : k = 31 := by omega
                exact f_r31 x y u r
              · skip
                rcases Nat.lt_or_ge k 33 with h33 | h33
                · skip
                  obtain rfl : k = 32 := by omega
                  exact f_r32 x y u r
                · skip
                  obtain rfl : k = 33 := by omega
                  exact f_r33 x y u r
            · skip
              rcases Nat.lt_or_ge k 35 with h35 | h35
              · skip
                obtain rfl : k = 34 := by omega
                exact f_r34 x y u r
              · skip
                rcases Nat.lt_or_ge k 36 with h36 | h36
                · skip
                  obtain rfl : k = 35 := by omega
                  exact f_r35 x y u r
                · skip
                  obtain rfl : k = 36 := by omega
                  exact f_r36 x y u r
        · skip
          rcases Nat.lt_or_ge k 43 with h43 | h43
          · skip
            rcases Nat.lt_or_ge k 40 with h40 | h40
            · skip
              rcases Nat.lt_or_ge k 38 with h38 | h38
              · skip
                obtain rfl : k = 37 := by omega
                exact f_r37 x y u r
              · skip
                rcases Nat.lt_or_ge k 39 with h39 | h39
                · skip
                  obtain rfl : k = 38 := by omega
                  exact f_r38 x y u r
                · skip
                  obtain rfl : k = 39 := by omega
                  exact f_r39 x y u r
            · skip
              rcases Nat.lt_or_ge k 41 with h41 | h41
              · skip
                obtain rfl : k = 40 := by omega
                exact f_r40 x y u r
              · skip
                rcases Nat.lt_or_ge k 42 with h42 | h42
                · skip
                  obtain rfl : k = 41 := by omega
                  exact f_r41 x y u r
                · skip
                  obtain rfl : k = 42 := by omega
                  exact f_r42 x y u r
          · skip
            rcases Nat.lt_or_ge k 46 with h46 | h46
            · skip
              rcases Nat.lt_or_ge k 44 with h44 | h44
              · skip
                obtain rfl : k = 43 := by omega
                exact f_r43 x y u r
              · skip
                rcases Nat.lt_or_ge k 45 with h45 | h45
                · skip
                  obtain rfl : k = 44 := by omega
                  exact f_r44 x y u r
                · skip
                  obtain rfl : k = 45 := by omega
                  exact f_r45 x y u r
            · skip
              rcases Nat.lt_or_ge k 48 with h48 | h48
              · skip
                rcases Nat.lt_or_ge k 47 with h47 | h47
                · skip
                  obtain rfl : k = 46 := by omega
                  exact f_r46 x y u r
                · skip
                  obtain rfl : k = 47 := by omega
                  exact f_r47 x y u r
              · skip
                rcases Nat.lt_or_ge k 49 with h49 | h49
                · skip
                  obtain rfl : k = 48 := by omega
                  exact f_r48 x y u r
                · skip
                  obtain rfl : k = 49 := by omega
                  exact f_r49 x y u r
    · skip
      rcases Nat.lt_or_ge k 75 with h75 | h75
      · skip
        rcases Nat.lt_or_ge k 62 with h62 | h62
        · skip
          rcases Nat.lt_or_ge k 56 with h56 | h56
          · skip
            rcases Nat.lt_or_ge k 53 with h53 | h53
            · skip
              rcases Nat.lt_or_ge k 51 with h51 | h51
              · skip
                obtain rfl : k = 50 := by omega
                exact f_r50 x y u r
              · skip
                rcases Nat.lt_or_ge k 52 with h52 | h52
                · skip
                  obtain rfl : k = 51 := by omega
                  exact f_r51 x y u r
                · skip
                  obtain rfl : k = 52 := by omega
                  exact f_r52 x y u r
            · skip
              rcases Nat.lt_or_ge k 54 with h54 | h54
              · skip
                obtain rfl : k = 53 := by omega
                exact f_r53 x y u r
              · skip
                rcases Nat.lt_or_ge k 55 with h55 | h55
                · skip
                  obtain rfl : k = 54 := by omega
                  exact f_r54 x y u r
                · skip
                  obtain rfl : k = 55 := by omega
                  exact f_r55 x y u r
          · skip
            rcases Nat.lt_or_ge k 59 with h59 | h59
            · skip
              rcases Nat.lt_or_ge k 57 with h57 | h57
              · skip
                obtain rfl : k = 56 := by omega
                exact f_r56 x y u r
              · skip
                rcases Nat.lt_or_ge k 58 with h58 | h58
                · skip
                  obtain rfl : k = 57 := by omega
                  exact f_r57 x y u r
                · skip
                  obtain rfl : k = 58 := by omega
                  exact f_r58 x y u r
            · skip
              rcases Nat.lt_or_ge k 60 with h60 | h60
              · skip
                obtain rfl : k = 59 := by omega
                exact f_r59 x y u r
              · skip
                rcases Nat.lt_or_ge k 61 with h61 | h61
                · skip
                  obtain rfl : k = 60 := by omega
                  exact f_r60 x y u r
                · skip
                  obtain rfl : k = 61 := by omega
                  exact f_r61 x y u r
        · skip
          rcases Nat.lt_or_ge k 68 with h68 | h68
          · skip
            rcases Nat.lt_or_ge k 65 with h65 | h65
            · skip
              rcases Nat.lt_or_ge k 63 with h63 | h63
              · skip
                obtain rfl : k = 62 := by omega
                exact f_r62 x y u r
              · skip
                rcases Nat.lt_or_ge k 64 with h64 | h64
                · skip
                  obtain rfl : k = 63 := by omega
                  exact f_r63 x y u r
                · skip
                  obtain rfl : k = 64 := by omega
                  exact f_r64 x y u r
            · skip
              rcases Nat.lt_or_ge k 66 with h66 | h66
              · skip
                obtain rfl : k = 65 := by omega
                exact f_r65 x y u r
              · skip
                rcases Nat.lt_or_ge k 67 with h67 | h67
                · skip
                  obtain rfl : k = 66 := by omega
                  exact f_r66 x y u r
                · skip
                  obtain rfl : k = 67 := by omega
                  exact f_r67 x y u r
          · skip
            rcases Nat.lt_or_ge k 71 with h71 | h71
            · skip
              rcases Nat.lt_or_ge k 69 with h69 | h69
              · skip
                obtain rfl : k = 68 := by omega
                exact f_r68 x y u r
              · skip
                rcases Nat.lt_or_ge k 70 with h70 | h70
                · skip
                  obtain rfl : k = 69 := by omega
                  exact f_r69 x y u r
                · skip
                  obtain rfl : k = 70 := by omega
                  exact f_r70 x y u r
            · skip
              rcases Nat.lt_or_ge k 73 with h73 | h73
              · skip
                rcases Nat.lt_or_ge k 72 with h72 | h72
                · skip
                  obtain rfl : k = 71 := by omega
                  exact f_r71 x y u r
                · skip
                  obtain rfl : k = 72 := by omega
                  exact f_r72 x y u r
              · skip
                rcases Nat.lt_or_ge k 74 with h74 | h74
                · skip
                  obtain rfl : k = 73 := by omega
                  exact f_r73 x y u r
                · skip
                  obtain rfl : k = 74 := by omega
                  exact f_r74 x y u r
      · skip
        rcases Nat.lt_or_ge k 87 with h87 | h87
        · skip
          rcases Nat.lt_or_ge k 81 with h81 | h81
          · skip
            rcases Nat.lt_or_ge k 78 with h78 | h78
            · skip
              rcases Nat.lt_or_ge k 76 with h76 | h76
              · skip
                obtain rfl : k = 75 := by omega
                exact f_r75 x y u r
              · skip
                rcases Nat.lt_or_ge k 77 with h77 | h77
                · skip
                  obtain rfl : k = 76 := by omega
                  exact f_r76 x y u r
                · skip
                  obtain rfl : k = 77 := by omega
                  exact f_r77 x y u r
            · skip
              rcases Nat.lt_or_ge k 79 with h79 | h79
              · skip
                obtain rfl : k = 78 := by omega
                exact f_r78 x y u r
              · skip
                rcases Nat.lt_or_ge k 80 with h80 | h80
                · skip
                  obtain rfl : k = 79 := by omega
                  exact f_r79 x y u r
                · skip
                  obtain rfl : k = 80 := by omega
                  exact f_r80 x y u r
          · skip
            rcases Nat.lt_or_ge k 84 with h84 | h84
            · skip
              rcases Nat.lt_or_ge k 82 with h82 | h82
              · skip
                obtain rfl : k = 81 := by omega
                exact f_r81 x y u r
              · skip
                rcases Nat.lt_or_ge k 83 with h83 | h83
                · skip
                  obtain rfl : k = 82 := by omega
                  exact f_r82 x y u r
                · skip
                  obtain rfl : k = 83 := by omega
                  exact f_r83 x y u r
            · skip
              rcases Nat.lt_or_ge k 85 with h85 | h85
              · skip
                obtain rfl : k = 84 := by omega
                exact f_r84 x y u r
              · skip
                rcases Nat.lt_or_ge k 86 with h86 | h86
                · skip
                  obtain rfl : k = 85 := by omega
                  exact f_r85 x y u r
                · skip
                  obtain rfl : k = 86 := by omega
                  exact f_r86 x y u r
        · skip
          rcases Nat.lt_or_ge k 93 with h93 | h93
          · skip
            rcases Nat.lt_or_ge k 90 with h90 | h90
            · skip
              rcases Nat.lt_or_ge k 88 with h88 | h88
              · skip
                obtain rfl : k = 87 := by omega
                exact f_r87 x y u r
              · skip
                rcases Nat.lt_or_ge k 89 with h89 | h89
                · skip
                  obtain rfl : k = 88 := by omega
                  exact f_r88 x y u r
                · skip
                  obtain rfl : k = 89 := by omega
                  exact f_r89 x y u r
            · skip
              rcases Nat.lt_or_ge k 91 with h91 | h91
              · skip
                obtain rfl : k = 90 := by omega
                exact f_r90 x y u r
              · skip
                rcases Nat.lt_or_ge k 92 with h92 | h92
                · skip
                  obtain rfl : k = 91 := by omega
                  exact f_r91 x y u r
                · skip
                  obtain rfl : k = 92 := by omega
                  exact f_r92 x y u r
          · skip
            rcases Nat.lt_or_ge k 96 with h96 | h96
            · skip
              rcases Nat.lt_or_ge k 94 with h94 | h94
              · skip
                obtain rfl : k = 93 := by omega
                exact f_r93 x y u r
              · skip
                rcases Nat.lt_or_ge k 95 with h95 | h95
                · skip
                  obtain rfl : k = 94 := by omega
                  exact f_r94 x y u r
                · skip
                  obtain rfl : k = 95 := by omega
                  exact f_r95 x y u r
            · skip
              rcases Nat.lt_or_ge k 98 with h98 | h98
              · skip
                rcases Nat.lt_or_ge k 97 with h97 | h97
                · skip
                  obtain rfl : k = 96 := by omega
                  exact f_r96 x y u r
                · skip
                  obtain rfl : k = 97 := by omega
                  exact f_r97 x y u r
              · skip
                rcases Nat.lt_or_ge k 99 with h99 | h99
                · skip
                  obtain rfl : k = 98 := by omega
                  exact f_r98 x y u r
                · skip
                  obtain rfl : k = 99 := by omega
                  exact f_r99 x y u r
  · skip
    rcases Nat.lt_or_ge k 150 with h150 | h150
    · skip
      rcases Nat.lt_or_ge k 125 with h125 | h125
      · skip
        rcases Nat.lt_or_ge k 112 with h112 | h112
        · skip
          rcases Nat.lt_or_ge k 106 with h106 | h106
          · skip
            rcases Nat.lt_or_ge k 103 with h103 | h103
            · skip
              rcases Nat.lt_or_ge k 101 with h101 | h101
              · skip
                obtain rfl : k = 100 := by omega
                exact f_r100 x y u r
              · skip
                rcases Nat.lt_or_ge k 102 with h102 | h102
                · skip
                  obtain rfl : k = 101 := by omega
                  exact f_r101 x y u r
                · skip
                  obtain rfl : k = 102 := by omega
                  exact f_r102 x y u r
            · skip
              rcases Nat.lt_or_ge k 104 with h104 | h104
              · skip
                obtain rfl : k = 103 := by omega
                exact f_r103 x y u r
              · skip
                rcases Nat.lt_or_ge k 105 with h105 | h105
                · skip
                  obtain rfl : k = 104 := by omega
                  exact f_r104 x y u r
                · skip
                  obtain rfl : k = 105 := by omega
                  exact f_r105 x y u r
          · skip
            rcases Nat.lt_or_ge k 109 with h109 | h109
            · skip
              rcases Nat.lt_or_ge k 107 with h107 | h107
              · skip
                obtain rfl : k = 106 := by omega
                exact f_r106 x y u r
              · skip
                rcases Nat.lt_or_ge k 108 with h108 | h108
                · skip
                  obtain rfl : k = 107 := by omega
                  exact f_r107 x y u r
                · skip
                  obtain rfl : k = 108 := by omega
                  exact f_r108 x y u r
            · skip
              rcases Nat.lt_or_ge k 110 with h110 | h110
              · skip
                obtain rfl : k = 109 := by omega
                exact f_r109 x y u r
              · skip
                rcases Nat.lt_or_ge k 111 with h111 | h111
                · skip
                  obtain rfl : k = 110 := by omega
                  exact f_r110 x y u r
                · skip
                  obtain rfl : k = 111 := by omega
                  exact f_r111 x y u r
        · skip
          rcases Nat.lt_or_ge k 118 with h118 | h118
          · skip
            rcases Nat.lt_or_ge k 115 with h115 | h115
            · skip
              rcases Nat.lt_or_ge k 113 with h113 | h113
              · skip
                obtain rfl : k = 112 := by omega
                exact f_r112 x y u r
              · skip
                rcases Nat.lt_or_ge k 114 with h114 | h114
                · skip
                  obtain rfl : k = 113 := by omega
                  exact f_r113 x y u r
                · skip
                  obtain rfl : k = 114 := by omega
                  exact f_r114 x y u r
            · skip
              rcases Nat.lt_or_ge k 116 with h116 | h116
              · skip
                obtain rfl : k = 115 := by omega
                exact f_r115 x y u r
              · skip
                rcases Nat.lt_or_ge k 117 with h117 | h117
                · skip
                  obtain rfl : k = 116 := by omega
                  exact f_r116 x y u r
                · skip
                  obtain rfl : k = 117 := by omega
                  exact f_r117 x y u r
          · skip
            rcases Nat.lt_or_ge k 121 with h121 | h121
            · skip
              rcases Nat.lt_or_ge k 119 with h119 | h119
              · skip
                obtain rfl : k = 118 := by omega
                exact f_r118 x y u r
              · skip
                rcases Nat.lt_or_ge k 120 with h120 | h120
                · skip
                  obtain rfl : k = 119 := by omega
                  exact f_r119 x y u r
                · skip
                  obtain rfl : k = 120 := by omega
                  exact f_r120 x y u r
            · skip
              rcases Nat.lt_or_ge k 123 with h123 | h123
              · skip
                rcases Nat.lt_or_ge k 122 with h122 | h122
                · skip
                  obtain rfl : k = 121 := by omega
                  exact f_r121 x y u r
                · skip
                  obtain rfl : k = 122 := by omega
                  exact f_r122 x y u r
              · skip
                rcases Nat.lt_or_ge k 124 with h124 | h124
                · skip
                  obtain rfl : k = 123 := by omega
                  exact f_r123 x y u r
                · skip
                  obtain rfl : k = 124 := by omega
                  exact f_r124 x y u r
      · skip
        rcases Nat.lt_or_ge k 137 with h137 | h137
        · skip
          rcases Nat.lt_or_ge k 131 with h131 | h131
          · skip
            rcases Nat.lt_or_ge k 128 with h128 | h128
            · skip
              rcases Nat.lt_or_ge k 126 with h126 | h126
              · skip
                obtain rfl : k = 125 := by omega
                exact f_r125 x y u r
              · skip
                rcases Nat.lt_or_ge k 127 with h127 | h127
                · skip
                  obtain rfl : k = 126 := by omega
                  exact f_r126 x y u r
                · skip
                  obtain rfl : k = 127 := by omega
                  exact f_r127 x y u r
            · skip
              rcases Nat.lt_or_ge k 129 with h129 | h129
              · skip
                obtain rfl : k = 128 := by omega
                exact f_r128 x y u r
              · skip
                rcases Nat.lt_or_ge k 130 with h130 | h130
                · skip
                  obtain rfl : k = 129 := by omega
                  exact f_r129 x y u r
                · skip
                  obtain rfl : k = 130 := by omega
                  exact f_r130 x y u r
          · skip
            rcases Nat.lt_or_ge k 134 with h134 | h134
            · skip
              rcases Nat.lt_or_ge k 132 with h132 | h132
              · skip
                obtain rfl : k = 131 := by omega
                exact f_r131 x y u r
              · skip
                rcases Nat.lt_or_ge k 133 with h133 | h133
                · skip
                  obtain rfl : k = 132 := by omega
                  exact f_r132 x y u r
                · skip
                  obtain rfl : k = 133 := by omega
                  exact f_r133 x y u r
            · skip
              rcases Nat.lt_or_ge k 135 with h135 | h135
              · skip
                obtain rfl : k = 134 := by omega
                exact f_r134 x y u r
              · skip
                rcases Nat.lt_or_ge k 136 with h136 | h136
                · skip
                  obtain rfl : k = 135 := by omega
                  exact f_r135 x y u r
                · skip
                  obtain rfl : k = 136 := by omega
                  exact f_r136 x y u r
        · skip
          rcases Nat.lt_or_ge k 143 with h143 | h143
          · skip
            rcases Nat.lt_or_ge k 140 with h140 | h140
            · skip
              rcases Nat.lt_or_ge k 138 with h138 | h138
              · skip
                obtain rfl : k = 137 := by omega
                exact f_r137 x y u r
              · skip
                rcases Nat.lt_or_ge k 139 with h139 | h139
                · skip
                  obtain rfl : k = 138 := by omega
                  exact f_r138 x y u r
                · skip
                  obtain rfl : k = 139 := by omega
                  exact f_r139 x y u r
            · skip
              rcases Nat.lt_or_ge k 141 with h141 | h141
              · skip
                obtain rfl : k = 140 := by omega
                exact f_r140 x y u r
              · skip
                rcases Nat.lt_or_ge k 142 with h142 | h142
                · skip
                  obtain rfl : k = 141 := by omega
                  exact f_r141 x y u r
                · skip
                  obtain rfl : k = 142 := by omega
                  exact f_r142 x y u r
          · skip
            rcases Nat.lt_or_ge k 146 with h146 | h146
            · skip
              rcases Nat.lt_or_ge k 144 with h144 | h144
              · skip
                obtain rfl : k = 143 := by omega
                exact f_r143 x y u r
              · skip
                rcases Nat.lt_or_ge k 145 with h145 | h145
                · skip
                  obtain rfl : k = 144 := by omega
                  exact f_r144 x y u r
                · skip
                  obtain rfl : k = 145 := by omega
                  exact f_r145 x y u r
            · skip
              rcases Nat.lt_or_ge k 148 with h148 | h148
              · skip
                rcases Nat.lt_or_ge k 147 with h147 | h147
                · skip
                  obtain rfl : k = 146 := by omega
                  exact f_r146 x y u r
                · skip
                  obtain rfl : k = 147 := by omega
                  exact f_r147 x y u r
              · skip
                rcases Nat.lt_or_ge k 149 with h149 | h149
                · skip
                  obtain rfl : k = 148 := by omega
                  exact f_r148 x y u r
                · skip
                  obtain rfl : k = 149 := by omega
                  exact f_r149 x y u r
    · skip
      rcases Nat.lt_or_ge k 175 with h175 | h175
      · skip
        rcases Nat.lt_or_ge k 162 with h162 | h162
        · skip
          rcases Nat.lt_or_ge k 156 with h156 | h156
          · skip
            rcases Nat.lt_or_ge k 153 with h153 | h153
            · skip
              rcases Nat.lt_or_ge k 151 with h151 | h151
              · skip
                obtain rfl : k = 150 := by omega
                exact f_r150 x y u r
              · skip
                rcases Nat.lt_or_ge k 152 with h152 | h152
                · skip
                  obtain rfl : k = 151 := by omega
                  exact f_r151 x y u r
                · skip
                  obtain rfl : k = 152 := by omega
                  exact f_r152 x y u r
            · skip
              rcases Nat.lt_or_ge k 154 with h154 | h154
              · skip
                obtain rfl : k = 153 := by omega
                exact f_r153 x y u r
              · skip
                rcases Nat.lt_or_ge k 155 with h155 | h155
                · skip
                  obtain rfl : k = 154 := by omega
                  exact f_r154 x y u r
                · skip
                  obtain rfl : k = 155 := by omega
                  exact f_r155 x y u r
          · skip
            rcases Nat.lt_or_ge k 159 with h159 | h159
            · skip
              rcases Nat.lt_or_ge k 157 with h157 | h157
              · skip
                obtain rfl : k = 156 := by omega
                exact f_r156 x y u r
              · skip
                rcases Nat.lt_or_ge k 158 with h158 | h158
                · skip
                  obtain rfl : k = 157 := by omega
                  exact f_r157 x y u r
                · skip
                  obtain rfl : k = 158 := by omega
                  exact f_r158 x y u r
            · skip
              rcases Nat.lt_or_ge k 160 with h160 | h160
              · skip
                obtain rfl : k = 159 := by omega
                exact f_r159 x y u r
              · skip
                rcases Nat.lt_or_ge k 161 with h161 | h161
                · skip
                  obtain rfl : k = 160 := by omega
                  exact f_r160 x y u r
                · skip
                  obtain rfl : k = 161 := by omega
                  exact f_r161 x y u r
        · skip
          rcases Nat.lt_or_ge k 168 with h168 | h168
          · skip
            rcases Nat.lt_or_ge k 165 with h165 | h165
            · skip
              rcases Nat.lt_or_ge k 163 with h163 | h163
              · skip
                obtain rfl : k = 162 := by omega
                exact f_r162 x y u r
              · skip
                rcases Nat.lt_or_ge k 164 with h164 | h164
                · skip
                  obtain rfl : k = 163 := by omega
                  exact f_r163 x y u r
                · skip
                  obtain rfl : k = 164 := by omega
                  exact f_r164 x y u r
            · skip
              rcases Nat.lt_or_ge k 166 with h166 | h166
              · skip
                obtain rfl : k = 165 := by omega
                exact f_r165 x y u r
              · skip
                rcases Nat.lt_or_ge k 167 with h167 | h167
                · skip
                  obtain rfl : k = 166 := by omega
                  exact f_r166 x y u r
                · skip
                  obtain rfl : k = 167 := by omega
                  exact f_r167 x y u r
          · skip
            rcases Nat.lt_or_ge k 171 with h171 | h171
            · skip
              rcases Nat.lt_or_ge k 169 with h169 | h169
              · skip
                obtain rfl : k = 168 := by omega
                exact f_r168 x y u r
              · skip
                rcases Nat.lt_or_ge k 170 with h170 | h170
                · skip
                  obtain rfl : k = 169 := by omega
                  exact f_r169 x y u r
                · skip
                  obtain rfl : k = 170 := by omega
                  exact f_r170 x y u r
            · skip
              rcases Nat.lt_or_ge k 173 with h173 | h173
              · skip
                rcases Nat.lt_or_ge k 172 with h172 | h172
                · skip
                  obtain rfl : k = 171 := by omega
                  exact f_r171 x y u r
                · skip
                  obtain rfl : k = 172 := by omega
                  exact f_r172 x y u r
              · skip
                rcases Nat.lt_or_ge k 174 with h174 | h174
                · skip
                  obtain rfl : k = 173 := by omega
                  exact f_r173 x y u r
                · skip
                  obtain rfl : k = 174 := by omega
                  exact f_r174 x y u r
      · skip
        rcases Nat.lt_or_ge k 187 with h187 | h187
        · skip
          rcases Nat.lt_or_ge k 181 with h181 | h181
          · skip
            rcases Nat.lt_or_ge k 178 with h178 | h178
            · skip
              rcases Nat.lt_or_ge k 176 with h176 | h176
              · skip
                obtain rfl : k = 175 := by omega
                exact f_r175 x y u r
              · skip
                rcases Nat.lt_or_ge k 177 with h177 | h177
                · skip
                  obtain rfl : k = 176 := by omega
                  exact f_r176 x y u r
                · skip
                  obtain rfl : k = 177 := by omega
                  exact f_r177 x y u r
            · skip
              rcases Nat.lt_or_ge k 179 with h179 | h179
              · skip
                obtain rfl : k = 178 := by omega
                exact f_r178 x y u r
              · skip
                rcases Nat.lt_or_ge k 180 with h180 | h180
                · skip
                  obtain rfl : k = 179 := by omega
                  exact f_r179 x y u r
                · skip
                  obtain rfl : k = 180 := by omega
                  exact f_r180 x y u r
          · skip
            rcases Nat.lt_or_ge k 184 with h184 | h184
            · skip
              rcases Nat.lt_or_ge k 182 with h182 | h182
              · skip
                obtain rfl : k = 181 := by omega
                exact f_r181 x y u r
              · skip
                rcases Nat.lt_or_ge k 183 with h183 | h183
                · skip
                  obtain rfl : k = 182 := by omega
                  exact f_r182 x y u r
                · skip
                  obtain rfl : k = 183 := by omega
                  exact f_r183 x y u r
            · skip
              rcases Nat.lt_or_ge k 185 with h185 | h185
              · skip
                obtain rfl : k = 184 := by omega
                exact f_r184 x y u r
              · skip
                rcases Nat.lt_or_ge k 186 with h186 | h186
                · skip
                  obtain rfl : k = 185 := by omega
                  exact f_r185 x y u r
                · skip
                  obtain rfl : k = 186 := by omega
                  exact f_r186 x y u r
        · skip
          rcases Nat.lt_or_ge k 193 with h193 | h193
          · skip
            rcases Nat.lt_or_ge k 190 with h190 | h190
            · skip
              rcases Nat.lt_or_ge k 188 with h188 | h188
              · skip
                obtain rfl : k = 187 := by omega
                exact f_r187 x y u r
              · skip
                rcases Nat.lt_or_ge k 189 with h189 | h189
                · skip
                  obtain rfl : k = 188 := by omega
                  exact f_r188 x y u r
                · skip
                  obtain rfl : k = 189 := by omega
                  exact f_r189 x y u r
            · skip
              rcases Nat.lt_or_ge k 191 with h191 | h191
              · skip
                obtain rfl : k = 190 := by omega
                exact f_r190 x y u r
              · skip
                rcases Nat.lt_or_ge k 192 with h192 | h192
                · skip
                  obtain rfl : k = 191 := by omega
                  exact f_r191 x y u r
                · skip
                  obtain rfl : k = 192 := by omega
                  exact f_r192 x y u r
          · skip
            rcases Nat.lt_or_ge k 196 with h196 | h196
            · skip
              rcases Nat.lt_or_ge k 194 with h194 | h194
              · skip
                obtain rfl : k = 193 := by omega
                exact f_r193 x y u r
              · skip
                rcases Nat.lt_or_ge k 195 with h195 | h195
                · skip
                  obtain rfl : k = 194 := by omega
                  exact f_r194 x y u r
                · skip
                  obtain rfl : k = 195 := by omega
                  exact f_r195 x y u r
            · skip
              rcases Nat.lt_or_ge k 198 with h198 | h198
              · skip
                rcases Nat.lt_or_ge k 197 with h197 | h197
                · skip
                  obtain rfl : k = 196 := by omega
                  exact f_r196 x y u r
                · skip
                  obtain rfl : k = 197 := by omega
                  exact f_r197 x y u r
              · skip
                rcases Nat.lt_or_ge k 199 with h199 | h199
                · skip
                  obtain rfl : k = 198 := by omega
                  exact f_r198 x y u r
                · skip
                  obtain rfl : k = 199 := by omega
                  exact f_r199 x y u r

theorem fTl_nu (x y : Int) : ∀ k v, (k, v) ∈ fTl x y → v ≠ undef := by
  intro k v h
  unfold fTl at h
  simp only [List.mem_cons, List.mem_nil_iff, or_false, Prod.mk.injEq] at h
  rcases h with ⟨_, rfl⟩ | ⟨_, rfl⟩ | ⟨_, rfl⟩ | ⟨_, rfl⟩ | ⟨_, rfl⟩ | ⟨_, rfl⟩
  all_goals exact fun e => by cases e
theorem fTl_vl (x y : Int) : ∀ k v, (k, v) ∈ fTl x y → vl 4092 v = true := by
  intro k v h
  unfold fTl at h
  simp only [List.mem_cons, List.mem_nil_iff, or_false, Prod.mk.injEq] at h
  rcases h with ⟨_, rfl⟩ | ⟨_, rfl⟩ | ⟨_, rfl⟩ | ⟨_, rfl⟩ | ⟨_, rfl⟩ | ⟨_, rfl⟩
  all_goals rfl
theorem fPre_ok : preL 4092 fPre = true := by kernel_rfl
theorem fPreR_ok (r : Nat) : preL 4092 (fPreR (.int .u8 (.ofNat r))) = true := by kernel_rfl
theorem fPreA_keys : fPreA.map (·.1) = [0, 1003, 1004, 1005, 1015, 1017, 1018] := by kernel_rfl
theorem fPre_keys : fPre.map (·.1) = [0, 1003, 1004, 1005, 1015, 1017, 1018, 4091] := by kernel_rfl
theorem fPreA_ne {b : Nat} {x : OS} (h : (b, x) ∈ fPreA) : b ≠ 4091 := by
  have : b ∈ fPreA.map (·.1) := List.mem_map.2 ⟨_, h, rfl⟩
  rw [fPreA_keys] at this
  simp only [List.mem_cons, List.mem_nil_iff, or_false] at this
  omega
theorem fPreA_alive : (fPreA.all fun x => alive x.2.mk) = true := by kernel_rfl
theorem repV_get (v : Value) : ∀ n k w, (repV n v)[k]? = some w → k < n ∧ w = v
  | 0, k, w, h => by cases k <;> cases h
  | n + 1, 0, w, h => by
    have h' : some v = some w := h
    exact ⟨by omega, (Option.some.inj h').symm⟩
  | n + 1, k + 1, w, h => by
    have h' : (repV n v)[k]? = some w := h
    obtain ⟨h1, h2⟩ := repV_get v n k w h'
    exact ⟨by omega, h2⟩

theorem f_law {w0 : World} (x y : Int) {P1 P2 : Prop} (_ : P1) (_ : P2) (hTab : TabAt w0 0 tabV) :
    Calls Tryz.prog 5 ⟨[.int .i64 x, .int .i64 y]⟩ w0 fun e w' => e = .returned (.bool true) ∧ Below w0.heap.size w0 w' := by
  have hT : TyOk SEF := envOf_ty _
  have hB : BackOk SEF := envOf_back _
  have hs : Started (ioI none) p0 0 tabV w0 := start_inp (by decide) hTab (o := none) (fun _ => rfl) (fun _ _ _ h => by cases h) _
  have hp : p0.Ok := .inl ⟨rfl, rfl⟩
  refine law_calls (P := SEF.P) (f := 5) (fn := Tryz.f5) (r := 4) Tryz.func5 fC_eq (by kernel_rfl) (args := [.int .i64 x, .int .i64 y]) hs.rel hs.gl hs.up (.cons (.int _ _) (.cons (.int _ _) .nil)) (by rw [show Tryz.f5.ntmps = 83 by kernel_rfl]; simp) (fun Q a hret hc => ?_)
  have hN : Nat.pred Tryz.f5.ntmps = 82 := by kernel_rfl
  rw [hN] at hret hc
  have h0 : ∀ b x, ioI none b = some x → b < 4092 := fun b x h => by have := hs.lt b x h; omega
  have hin : ∀ s, p0.In s := fun s b x h => by cases h
  obtain ⟨tm1, s1, e1, n1, b1, t1⟩ := out_spec (f_a x y) (fTl_nu x y)
  refine hc.pre2 (E := SEF) hT hB SEF_calls SEF_draw 7 100000 fC (by kernel_rfl) e1 (by kernel_rfl) (fun a1 w1 hk1 hc1 => ?_)
  have hc2 := hc1.weakI (p := p0) (pre := fPre) (nx := 4092) (tl := fTl x y) h0 (by omega) fPre_ok (fTl_vl x y) (hin _) b1 t1
  rw [fD_eq]
  refine wp_seq (wp_seq ?_)
  obtain ⟨tm3, s3, e3, n3, b3, t3⟩ := out_spec (f_b x y) (cons_nu (fTl_nu x y) 11 0)
  refine hc2.code2 hT hB SEF_calls SEF_draw e3 (by kernel_rfl) (fun a3 w3 hk3 hc3 => ?_)
  have hc4 := hc3.weakI (p := p0) (pre := fPre) (nx := 4092) (tl := (11, iv 0) :: fTl x y) h0 (by omega) fPre_ok (cons_vl (fTl_vl x y) 11 0) (hin _) b3 t3
  refine wp_block ?_
  rw [fB_eq]
  have hnd : (fPre.map (·.1)).Nodup := by rw [fPre_keys]; decide
  have hst : ∀ b x, (b, x) ∈ fPre → (stL (p0.blocks ++ fPre) 4092).h.get b = some x.mk := fun b x h => stL_mem (pre := fPre) hnd h
  refine loop_fill hT hB SEF_calls SEF_draw fH1 fH2 fH3 (tl := fTl x y) ⟨by decide, by decide, by decide⟩ ⟨by decide, by decide, by decide, by decide, by decide, by decide⟩ ?_ (show ([11, 0, 1, 5, 6, 8, 10] : List Nat).Nodup by decide) (B := 4091) (n := 256) (c0 := 513) (z := 0) (nx := 4092) (v := y) (by unfold fTl; simp) (by unfold fTl; simp) (by omega)
    (iT := ⟨.slice 5, 1, zeroL Tryz.t50, Tryz.t50.bytes⟩) (by kernel_rfl) rfl (i5 := ⟨.int .u8, 1, zeroL Tryz.t5, 1⟩) (by kernel_rfl) rfl (i3 := ⟨.int .i64, 1, zeroL Tryz.t3, 8⟩) (by kernel_rfl) (by kernel_rfl) rfl (it := ⟨.slice 5, 1, zeroL Tryz.t50, Tryz.t50.bytes⟩) (by kernel_rfl) rfl
    (base := (stL (p0.blocks ++ fPre) 4092).h) (c1 := T.e.fill 0 (nbV 256 0)) ⟨rfl, hst 4091 (.cells (nbV 256 0) 256 0) (List.mem_append.2 (.inr (List.mem_singleton.2 rfl))), fun k h => by omega, fun _ _ => rfl⟩ hc4 (fun s c a5 w5 hf hc5 => ?_)
  · intro k v h
    unfold fTl at h
    simp only [List.mem_cons, List.mem_nil_iff, or_false, Prod.mk.injEq] at h
    rcases h with ⟨rfl, _⟩ | ⟨rfl, _⟩ | ⟨rfl, _⟩ | ⟨rfl, _⟩ | ⟨rfl, _⟩ | ⟨rfl, _⟩ <;> decide
  · have hc6 := hc5.weakI (p := p0) (pre := fPreR (.int .u8 (.ofNat (imod y 256)))) (nx := 4092) (tl := fTl x y) h0 (by omega) (fPreR_ok _) (fTl_vl x y) (hin _) (fun b x h => by
      rcases List.mem_append.1 h with h | h
      · exact ⟨x.mk, (hf.rest b (fPreA_ne h)).trans (hst b x (List.mem_append.2 (.inl h))), Wk.refl _ (List.all_eq_true.1 fPreA_alive _ h)⟩
      · cases List.mem_singleton.1 h
        refine ⟨_, hf.blk, rfl, rfl, fun k v _ hv => ?_⟩
        rw [T.get_fill] at hv
        split at hv
        · obtain ⟨h1, rfl⟩ := repV_get _ _ _ _ hv
          exact hf.done k (by omega)
        · cases hv) (fun k v h => tmL_nodup ((11, iv 256) :: fTl x y) (show ([11, 0, 1, 5, 6, 8, 10] : List Nat).Nodup by decide) k v (List.mem_cons_of_mem _ h))
    obtain ⟨k, u, hk, hr⟩ := run_at (E := SEF) (call := callA SEF 100000 200) (N := 82) (ops := fO4.toList) (rest := fRest) (o1 := nthO fO4 0) (o2 := nthO fO4 1) (o3 := nthO fO4 2) (o4 := nthO fO4 3) (o5 := nthO fO4 4) (tp := 6) (ta := 0) (d := 54) (M := 200) (t3 := 3) (t6 := 46) (u1 := xTy (nthO fO4 3).op) (u2 := yTy (nthO fO4 3).op)
      (by refine ⟨?_, ?_, ?_⟩ <;> kernel_rfl) (by refine ⟨?_, ?_, ?_⟩ <;> kernel_rfl) (by refine ⟨?_, ?_, ?_⟩ <;> kernel_rfl) (by refine ⟨?_, ?_, ?_⟩ <;> kernel_rfl) (by refine ⟨?_, ?_, ?_⟩ <;> kernel_rfl) (by decide) (by omega) (by omega) (by omega)
      (i3 := ⟨.int .i64, 1, zeroL Tryz.t3, 8⟩) (by kernel_rfl) rfl (i6 := ⟨.int .u64, 1, zeroL Tryz.t46, 8⟩) (by kernel_rfl) rfl (tm := tmL (fTl x y)) (s := stL (p0.blocks ++ fPreR (.int .u8 (.ofNat (imod y 256)))) 4092) (v := x) (pv := .pointer (some ⟨1005, 0, none⟩)) (by kernel_rfl) (by kernel_rfl)
    rw [← fO4_eq] at hr
    obtain ⟨tm1, s1, tm2, s2, tm3, s3, e1, e2, e3, e4⟩ := run3_spec (f_all hk (imod_lt y 256 (by omega)) x y u)
    rw [fE_eq]
    refine wp_seq (wp_seq ?_)
    refine hc6.code2 hT hB SEF_calls SEF_draw (codeA_region (F := 0) (hr.trans e1)) (by kernel_rfl) (fun a7 w7 _ hc7 => ?_)
    refine hc7.code2 hT hB SEF_calls SEF_draw e2 (by kernel_rfl) (fun a8 w8 _ hc8 => ?_)
    refine hc8.code2 hT hB SEF_calls SEF_draw e3 (by kernel_rfl) (fun a9 w9 _ hc9 => ?_)
    exact hret tm3 s3 a9 w9 hc9 e4
end Go.Proofs
