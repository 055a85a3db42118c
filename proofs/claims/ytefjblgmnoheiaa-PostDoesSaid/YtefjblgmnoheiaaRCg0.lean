import Derived.Test.YtefjblgmnoheiaaRDefs
import Derived.Test.YtefjblgmnoheiaaProg
import Derived.KernelRfl
namespace Go.Proofs.Ytefjblgmnoheiaa.R
open Go
set_option maxRecDepth 100000
/-! The compact code, and that it is the program's. -/
/-! funicular/funicularlaw22.PostDoes -/
abbrev i4_R0 := [oo 2 (.box (.t 0)), oo 3 (.box (.t 1)), oo 4 (.mv kF)]
abbrev i4_R1 := [oo 13 (lT 3 2), oo 14 (.call 15 [(.t 13)]), oo 15 (.nt (.t 14)), oo 16 (mT 15), og 17 16 false (fA 3 3), og 18 16 false (fA 0 17), og 19 16 false (lF 18), og 20 16 false (lL 19), og 21 16 false (bK .gtr 20 100), oo 22 (.pick (.t 16) kT (.t 21)), oo 23 (mT 22), og 24 23 false (fA 3 3), og 25 23 false (fA 1 24), og 26 23 false (lF 25), og 27 23 false (lL 26), og 28 23 false (bK .gtr 27 100), oo 29 (.pick (.t 23) kT (.t 28)), oo 30 (mT 29), og 31 30 false (fA 1 3), og 32 30 false (lF 31), og 33 30 false (.lens (.t 32)), og 34 30 false (bK .gtr 33 100), oo 35 (.pick (.t 30) kT (.t 34))]
abbrev i4_R2 := [oo 36 (.call 9 []), oo 4 (mT 36)]
abbrev i4_R3 := [oo 38 (lT 3 2), oo 39 (fA 1 3), oo 40 (lF 39), oo 41 (fA 2 3), oo 42 (lF 41), oo 43 (fA 3 3), oo 44 (lT 2 43), oo 45 (fA 5 3), oo 46 (lF 45), oo 47 (fA 6 3), oo 48 (lF 47), oo 49 (.call 16 [(.t 38), (.t 40), (.t 42), (.t 44), (.t 46), (.t 48)]), oo 37 (mT 49), oo 50 (xT 0 37), oo 51 (xT 1 37), oo 52 (xT 2 37), oo 53 (xT 3 37), oo 5 (.alloc [zI, .nil, .nil]), oe (sT 3 5 50), oo 6 (mT 51), oo 7 (mT 52), oo 8 (mT 53)]
abbrev i4_R4 := [oo 55 (lT 3 2), oo 56 (fA 1 3), oo 57 (lF 56), oo 58 (fA 2 3), oo 59 (lF 58), oo 60 (fA 3 3), oo 61 (lT 2 60), oo 62 (fA 5 3), oo 63 (lF 62), oo 64 (fA 6 3), oo 65 (lF 64), oo 66 (.call 17 [(.t 55), (.t 57), (.t 59), (.t 61), (.t 63), (.t 65)]), oo 54 (mT 66), oo 67 (xT 0 54), oo 68 (xT 1 54), oo 69 (xT 2 54), oo 70 (xT 3 54), oo 9 (.alloc [zI, .nil, .nil]), oe (sT 3 9 67), oo 10 (mT 68), oo 11 (mT 69), oo 12 (mT 70)]
abbrev i4_R5 := [oo 71 (mT 8), oo 72 (mT 12), oo 73 (bB .neq 71 72), oo 74 (mT 73), og 75 74 false (mT 6), og 76 74 false (mT 10), og 77 74 false (bB .neq 75 76), oo 78 (.pick (.t 74) kT (.t 77)), oo 79 (mT 78), og 80 79 false (mT 7), og 81 79 false (mT 11), og 82 79 false (.call 18 [(.t 80), (.t 81)]), og 83 79 false (.nt (.t 82)), oo 84 (.pick (.t 79) kT (.t 83)), oo 85 (mT 84), og 86 85 false (lT 3 5), og 87 85 false (lT 3 9), og 88 85 false (.call 13 [(.t 86), (.t 87)]), og 89 85 false (.nt (.t 88)), oo 90 (.pick (.t 85) kT (.t 89))]
abbrev i4_R6 := [oo 4 (.mv kF)]
abbrev i4_R7 := [oo 92 (lT 3 2), oo 93 (lT 10 3), oo 94 (.call 20 [(.t 93)]), oo 95 (.call 19 [(.t 92), (.t 94)]), oo 91 (mT 95), oo 96 (xT 0 91), oo 97 (xT 1 91), oo 98 (xT 2 91), oe (sT 3 5 96), oo 7 (mT 97), oo 8 (mT 98)]
abbrev i4_R8 := [oo 100 (lT 3 2), oo 101 (lT 10 3), oo 102 (.call 20 [(.t 101)]), oo 103 (.call 21 [(.t 100), (.t 102)]), oo 99 (mT 103), oo 104 (xT 0 99), oo 105 (xT 1 99), oo 106 (xT 2 99), oe (sT 3 9 104), oo 11 (mT 105), oo 12 (mT 106)]
abbrev i4_R9 := [oo 107 (mT 8), oo 108 (mT 12), oo 109 (bB .neq 107 108), oo 110 (mT 109), og 111 110 false (mT 7), og 112 110 false (mT 11), og 113 110 false (.call 18 [(.t 111), (.t 112)]), og 114 110 false (.nt (.t 113)), oo 115 (.pick (.t 110) kT (.t 114)), oo 116 (mT 115), og 117 116 false (lT 3 5), og 118 116 false (lT 3 9), og 119 116 false (.call 13 [(.t 117), (.t 118)]), og 120 116 false (.nt (.t 119)), oo 121 (.pick (.t 116) kT (.t 120))]
abbrev i4_R10 := [oo 4 (.mv kF)]
abbrev i4_R11 := [oo 123 (lT 3 2), oo 124 (fA 7 3), oo 125 (lF 124), oo 126 (fA 8 3), oo 127 (lF 126), oo 128 (.call 22 [(.t 123), (.t 125), (.t 127)]), oo 122 (mT 128), oo 129 (xT 0 122), oo 130 (xT 1 122), oe (sT 3 5 129), oo 8 (mT 130)]
abbrev i4_R12 := [oo 132 (lT 3 2), oo 133 (fA 7 3), oo 134 (lF 133), oo 135 (fA 8 3), oo 136 (lF 135), oo 137 (.call 23 [(.t 132), (.t 134), (.t 136)]), oo 131 (mT 137), oo 138 (xT 0 131), oo 139 (xT 1 131), oe (sT 3 9 138), oo 12 (mT 139)]
abbrev i4_R13 := [oo 140 (mT 8), oo 141 (mT 12), oo 142 (bB .eql 140 141), oo 143 (mT 142), og 144 143 true (lT 3 5), og 145 143 true (lT 3 9), og 146 143 true (.call 13 [(.t 144), (.t 145)]), oo 147 (.pick (.t 143) (.t 146) kF), oo 148 (mT 147), og 149 148 true (lT 3 2), og 150 148 true (fA 5 3), og 151 148 true (lF 150), og 152 148 true (.call 24 [(.t 149), (.t 151)]), og 153 148 true (lT 3 2), og 154 148 true (fA 5 3), og 155 148 true (lF 154), og 156 148 true (.call 25 [(.t 153), (.t 155)]), og 157 148 true (.call 13 [(.t 152), (.t 156)]), oo 158 (.pick (.t 148) (.t 157) kF), oo 159 (mT 158), og 160 159 true (.call 9 []), oo 161 (.pick (.t 159) (.t 160) kF), oo 4 (mT 161)]
abbrev i4_B : IC := (.seq (.reg none i4_R0) (.seq (.seq (.reg none i4_R1) (.cond (.t 35) (.seq (.reg none i4_R2) .ret) .skip)) (.seq (.reg none i4_R3) (.seq (.reg none i4_R4) (.seq (.seq (.reg none i4_R5) (.cond (.t 90) (.seq (.reg none i4_R6) .ret) .skip)) (.seq (.reg (some [(0, 2)]) i4_R7) (.seq (.reg (some [(0, 2)]) i4_R8) (.seq (.seq (.reg none i4_R9) (.cond (.t 121) (.seq (.reg none i4_R10) .ret) .skip)) (.seq (.reg none i4_R11) (.seq (.reg none i4_R12) (.seq (.reg (some [(12, 13), (12, 15)]) i4_R13) .ret)))))))))))
abbrev i4_V : List Nat := [0, 1, 2, 3, 4, 5, 6, 7, 8, 9, 10, 11, 12, 35, 90, 121]
def i4 : IFn := ⟨162, i4_V, [.tmp 4], i4_B⟩
theorem i4_ok : compF Try.prog i4_V Try.f4 = some i4 := by kernel_rfl
/-! funicular/funicularlaw22.light -/
abbrev i8_R0 := [oo 1 (.box (.t 0)), oo 2 (.mv kF)]
abbrev i8_R1 := [oo 3 (lT 3 1), oo 4 (.call 33 [(.t 3), (kI 200)]), oo 5 (bK .leq 4 200), oo 2 (mT 5)]
abbrev i8_B : IC := (.seq (.reg none i8_R0) (.seq (.reg none i8_R1) .ret))
abbrev i8_V : List Nat := [0, 1, 2]
def i8 : IFn := ⟨6, i8_V, [.tmp 2], i8_B⟩
theorem i8_ok : compF Try.prog i8_V Try.f8 = some i8 := by kernel_rfl
/-! funicular/funicularlaw22.works -/
abbrev i9_R0 := [oo 0 (.mv kF)]
abbrev i9_R1 := [oo 17 (.call 30 []), oo 18 (.build [zI, zI, zI, .str ⟨#[]⟩, zI, zI] [(0, 1, (kI 1)), (1, 1, (kI 4)), (2, 1, (kI 9)), (3, 1, (.c (.str ⟨#[112, 97, 105, 100]⟩))), (4, 1, (kI 7))]), oo 19 (.call 19 [(.t 17), (.t 18)]), oo 16 (mT 19), oo 20 (xT 0 16), oo 21 (xT 1 16), oo 22 (xT 2 16), oo 1 (.alloc [zI, .nil, .nil]), oe (sT 3 1 20), oo 2 (mT 21), oo 3 (mT 22)]
abbrev i9_R2 := [oo 24 (lT 3 1), oo 25 (.call 34 [(.c (.str ⟨#[97]⟩)), (kI 5)]), oo 26 (.call 16 [(.t 24), (.c (.str ⟨#[112, 97, 105, 100]⟩)), (kI 7), (.t 25), (kI 10), (kI 5)]), oo 23 (mT 26), oo 27 (xT 0 23), oo 28 (xT 1 23), oo 29 (xT 2 23), oo 30 (xT 3 23), oo 4 (.alloc [zI, .nil, .nil]), oe (sT 3 4 27), oo 5 (mT 28), oo 6 (mT 29), oo 7 (mT 30)]
abbrev i9_R3 := [oo 32 (lT 3 4), oo 33 (.build [zI, zI, zI, .str ⟨#[]⟩, zI, zI] [(0, 1, (kI 2)), (1, 1, (kI 1)), (2, 1, (kI 9)), (3, 1, (.c (.str ⟨#[112, 97, 105, 100]⟩))), (4, 1, (kI 7))]), oo 34 (.call 19 [(.t 32), (.t 33)]), oo 31 (mT 34), oo 35 (xT 0 31), oo 36 (xT 1 31), oo 37 (xT 2 31), oo 8 (.alloc [zI, .nil, .nil]), oe (sT 3 8 35), oo 9 (mT 36), oo 10 (mT 37)]
abbrev i9_R4 := [oo 39 (lT 3 8), oo 40 (.call 22 [(.t 39), (kI 1), (kI 4)]), oo 38 (mT 40), oo 41 (xT 0 38), oo 42 (xT 1 38), oo 11 (.alloc [zI, .nil, .nil]), oe (sT 3 11 41), oo 12 (mT 42)]
abbrev i9_R5 := [oo 44 (lT 3 8), oo 45 (.call 27 [(.c (.nil)), (.t 44)]), oo 46 (.bsl 1 [.int .u8 0] 1 [(0, (.c (.int .u8 3)))]), oo 47 (.app 1 (.t 45) (.t 46)), oo 48 (.call 26 [(.t 47)]), oo 43 (mT 48), oo 49 (xT 0 43), oo 50 (xT 1 43), oo 51 (xT 2 43), oo 13 (.alloc [zI, .nil, .nil]), oe (sT 3 13 49), oo 14 (mT 50), oo 15 (mT 51)]
abbrev i9_R6 := [oo 52 (mT 3), oo 53 (bK .eql 52 0), oo 54 (mT 53), og 55 54 true (mT 2), og 56 54 true (lL 55), og 57 54 true (bK .eql 56 0), oo 58 (.pick (.t 54) (.t 57) kF), oo 59 (mT 58), og 60 59 true (mT 7), og 61 59 true (bK .eql 60 0), oo 62 (.pick (.t 59) (.t 61) kF), oo 63 (mT 62), og 64 63 true (mT 5), og 65 63 true (bK .eql 64 1), oo 66 (.pick (.t 63) (.t 65) kF), oo 67 (mT 66), og 68 67 true (mT 6), og 69 67 true (lL 68), og 70 67 true (bK .eql 69 1), oo 71 (.pick (.t 67) (.t 70) kF), oo 72 (mT 71), og 73 72 true (mT 6), og 74 72 true (.ias 5 (.t 73) (kI 0)), og 75 72 true (fA 1 74), og 76 72 true (lF 75), og 77 72 true (bK .eql 76 4), oo 78 (.pick (.t 72) (.t 77) kF), oo 79 (mT 78), og 80 79 true (mT 10), og 81 79 true (bK .eql 80 0), oo 82 (.pick (.t 79) (.t 81) kF), oo 83 (mT 82), og 84 83 true (mT 9), og 85 83 true (lL 84), og 86 83 true (bK .eql 85 1), oo 87 (.pick (.t 83) (.t 86) kF), oo 88 (mT 87), og 89 88 true (mT 12), og 90 88 true (bK .eql 89 0), oo 91 (.pick (.t 88) (.t 90) kF), oo 92 (mT 91), og 93 92 true (fA 2 11), og 94 92 true (lF 93), og 95 92 true (lL 94), og 96 92 true (bK .eql 95 1), oo 97 (.pick (.t 92) (.t 96) kF), oo 98 (mT 97), og 99 98 true (lT 3 11), og 100 98 true (.call 24 [(.t 99), (kI 15)]), og 101 98 true (.fld false 1 1 (.t 100)), og 102 98 true (lL 101), og 103 98 true (bK .eql 102 0), oo 104 (.pick (.t 98) (.t 103) kF), oo 105 (mT 104), og 106 105 true (mT 15), og 107 105 true (bK .eql 106 0), oo 108 (.pick (.t 105) (.t 107) kF), oo 109 (mT 108), og 110 109 true (mT 14), og 111 109 true (lL 110), og 112 109 true (bK .eql 111 1), oo 113 (.pick (.t 109) (.t 112) kF), oo 114 (mT 113), og 115 114 true (lT 3 13), og 116 114 true (lT 3 8), og 117 114 true (.call 12 [(.t 115), (.t 116)]), oo 118 (.pick (.t 114) (.t 117) kF), oo 119 (mT 118), og 120 119 true (lT 3 8), og 121 119 true (.call 10 [(.t 120)]), og 122 119 true (bK .eql 121 0), oo 123 (.pick (.t 119) (.t 122) kF), oo 124 (mT 123), og 125 124 true (lT 3 8), og 126 124 true (lT 3 8), og 127 124 true (.call 14 [(.t 126)]), og 128 124 true (.call 12 [(.t 125), (.t 127)]), oo 129 (.pick (.t 124) (.t 128) kF), oo 0 (mT 129)]
abbrev i9_B : IC := (.seq (.reg none i9_R0) (.seq (.reg none i9_R1) (.seq (.reg (some [(0, 1), (0, 8), (1, 8), (2, 8)]) i9_R2) (.seq (.reg none i9_R3) (.seq (.reg none i9_R4) (.seq (.reg none i9_R5) (.seq (.reg (some [(73, 75)]) i9_R6) .ret)))))))
abbrev i9_V : List Nat := [0, 1, 2, 3, 4, 5, 6, 7, 8, 9, 10, 11, 12, 13, 14, 15]
def i9 : IFn := ⟨130, i9_V, [.tmp 0], i9_B⟩
theorem i9_ok : compF Try.prog i9_V Try.f9 = some i9 := by kernel_rfl
/-! funicular/post.Check -/
abbrev i10_R0 := [oo 1 (.box (.t 0)), oo 2 (.mv (kI 0))]
abbrev i10_R1 := [oo 10 (fA 0 1), oo 11 (lF 10), oo 12 (.call 35 [(.t 11)]), oo 13 (.nt (.t 12)), oo 9 (mT 13)]
abbrev i10_R2 := [oo 2 (.mv (kI 1))]
abbrev i10_R3 := [oo 15 (fA 1 1), oo 16 (lF 15), oo 17 (lL 16), oo 18 (bK .gtr 17 4096), oo 19 (mT 18), og 20 19 false (fA 2 1), og 21 19 false (lF 20), og 22 19 false (lL 21), og 23 19 false (bK .gtr 22 4096), oo 24 (.pick (.t 19) kT (.t 23)), oo 14 (mT 24)]
abbrev i10_R4 := [oo 2 (.mv (kI 6))]
abbrev i10_R5 := [oo 3 (.mv (kI 0))]
abbrev i10_R6 := [oo 25 (fA 1 1), oo 26 (lF 25), oo 27 (lL 26), oo 28 (.mv (kI 0))]
abbrev i10_R7 := [oo 29 (bB .lss 28 27)]
abbrev i10_R8 := [oo 30 (iA 7 26 28), oo 31 (lT 7 30), oo 5 (.alloc [zI, .str ⟨#[]⟩, zI, .nil, .nil, zI, .nil]), oe (sT 7 5 31)]
abbrev i10_R9 := [oo 32 (lT 7 5), oo 33 (.call 36 [(.t 32)]), oo 6 (mT 33)]
abbrev i10_R10 := [oo 34 (mT 6), oo 35 (bK .neq 34 0)]
abbrev i10_R11 := [oo 36 (mT 6), oo 2 (mT 36)]
abbrev i10_R12 := [oo 37 (fA 0 5), oo 38 (lF 37), oo 39 (mT 3), oo 40 (bB .leq 38 39), oo 41 (mT 40), og 42 41 false (fA 0 5), og 43 41 false (lF 42), og 44 41 false (fA 0 1), og 45 41 false (lF 44), og 46 41 false (bB .geq 43 45), oo 47 (.pick (.t 41) kT (.t 46))]
abbrev i10_R13 := [oo 2 (.mv (kI 1))]
abbrev i10_R14 := [oo 48 (fA 0 5), oo 49 (lF 48), oo 3 (mT 49)]
abbrev i10_R15 := [oo 50 (bK .add 28 1), oo 28 (mT 50)]
abbrev i10_L0 : IC := (.seq (.reg none i10_R7) (.seq (.cond (.t 29) .skip (.out 1)) (.seq (.block 2 (.seq (.reg none i10_R8) (.seq (.seq (.reg none i10_R9) (.seq (.reg none i10_R10) (.cond (.t 35) (.seq (.reg none i10_R11) .ret) .skip))) (.seq (.seq (.reg none i10_R12) (.cond (.t 47) (.seq (.reg none i10_R13) .ret) .skip)) (.reg none i10_R14))))) (.reg none i10_R15))))
abbrev i10_R16 := [oo 51 (fA 2 1), oo 52 (lF 51), oo 53 (lL 52), oo 54 (.mv (kI 0))]
abbrev i10_R17 := [oo 55 (bB .lss 54 53)]
abbrev i10_R18 := [oo 56 (mT 54), oo 57 (iA 6 52 54), oo 58 (lT 6 57), oo 8 (.alloc [zI, zI, zI, .str ⟨#[]⟩, zI, zI]), oo 7 (mT 56), oe (sT 6 8 58)]
abbrev i10_R19 := [oo 59 (lT 6 8), oo 60 (.call 37 [(.t 59)]), oo 61 (.nt (.t 60)), oo 62 (mT 61), og 63 62 false (fA 5 8), og 64 62 false (lF 63), og 65 62 false (fA 0 1), og 66 62 false (lF 65), og 67 62 false (bB .geq 64 66), oo 68 (.pick (.t 62) kT (.t 67)), oo 69 (mT 68), og 70 69 false (mT 7), og 71 69 false (bK .gtr 70 0), og 72 69 false (mT 71), og 73 72 true (fA 2 1), og 74 72 true (lF 73), og 75 72 true (mT 7), og 76 72 true (bK .sub 75 1), og 77 72 true (iA 6 74 76), og 78 72 true (lT 6 77), og 79 72 true (.call 38 [(.t 78)]), og 80 72 true (lT 6 8), og 81 72 true (.call 38 [(.t 80)]), og 82 72 true (.call 39 [(.t 79), (.t 81)]), og 83 72 true (bK .geq 82 0), og 84 69 false (.pick (.t 72) (.t 83) kF), oo 85 (.pick (.t 69) kT (.t 84))]
abbrev i10_R20 := [oo 2 (.mv (kI 1))]
abbrev i10_R21 := [oo 86 (bK .add 54 1), oo 54 (mT 86)]
abbrev i10_L1 : IC := (.seq (.reg none i10_R17) (.seq (.cond (.t 55) .skip (.out 3)) (.seq (.block 4 (.seq (.reg none i10_R18) (.seq (.reg (some [(20, 21)]) i10_R19) (.cond (.t 85) (.seq (.reg none i10_R20) .ret) .skip)))) (.reg none i10_R21))))
abbrev i10_R22 := [oo 2 (.mv (kI 0))]
abbrev i10_B : IC := (.seq (.reg none i10_R0) (.seq (.block 0 (.seq (.reg none i10_R1) (.cond (.t 9) (.seq (.reg none i10_R2) .ret) (.seq (.reg none i10_R3) (.cond (.t 14) (.seq (.reg none i10_R4) .ret) .skip))))) (.seq (.reg none i10_R5) (.seq (.seq (.reg none i10_R6) (.block 1 (.loop i10_L0))) (.seq (.seq (.reg none i10_R16) (.block 3 (.loop i10_L1))) (.seq (.reg none i10_R22) .ret))))))
abbrev i10_V : List Nat := [0, 1, 2, 3, 5, 6, 7, 8, 9, 14, 26, 27, 28, 29, 35, 47, 52, 53, 54, 55, 85]
def i10 : IFn := ⟨87, i10_V, [.tmp 2], i10_B⟩
theorem i10_ok : compF Try.prog i10_V Try.f10 = some i10 := by kernel_rfl
/-! funicular/funicularref22.Check -/
abbrev i11_R0 := [oo 1 (.box (.t 0)), oo 2 (.mv (kI 0))]
abbrev i11_R1 := [oo 6 (fA 0 1), oo 7 (lF 6), oo 8 (.call 40 [(.t 7), (kI 1), (kI 1099511627776)]), oo 9 (.nt (.t 8))]
abbrev i11_R2 := [oo 2 (.mv (kI 1))]
abbrev i11_R3 := [oo 10 (fA 1 1), oo 11 (lF 10), oo 12 (lL 11), oo 13 (bK .gtr 12 4096), oo 14 (mT 13), og 15 14 false (fA 2 1), og 16 14 false (lF 15), og 17 14 false (lL 16), og 18 14 false (bK .gtr 17 4096), oo 19 (.pick (.t 14) kT (.t 18))]
abbrev i11_R4 := [oo 2 (.mv (kI 6))]
abbrev i11_R5 := [oo 3 (.mv (kI 0))]
abbrev i11_R6 := [oo 20 (mT 3), oo 21 (fA 1 1), oo 22 (lF 21), oo 23 (lL 22), oo 24 (bB .lss 20 23)]
abbrev i11_R7 := [oo 27 (fA 1 1), oo 28 (lF 27), oo 29 (mT 3), oo 30 (iA 7 28 29), oo 31 (lT 7 30), oo 32 (.call 41 [(.t 31)]), oo 4 (mT 32)]
abbrev i11_R8 := [oo 33 (mT 4), oo 34 (bK .neq 33 0)]
abbrev i11_R9 := [oo 35 (mT 4), oo 2 (mT 35)]
abbrev i11_R10 := [oo 36 (fA 1 1), oo 37 (lF 36), oo 38 (mT 3), oo 39 (iA 7 37 38), oo 40 (fA 0 39), oo 41 (lF 40), oo 42 (fA 0 1), oo 43 (lF 42), oo 44 (bB .geq 41 43), oo 45 (mT 44), og 46 45 false (mT 3), og 47 45 false (bK .gtr 46 0), og 48 45 false (mT 47), og 49 48 true (fA 1 1), og 50 48 true (lF 49), og 51 48 true (mT 3), og 52 48 true (bK .sub 51 1), og 53 48 true (iA 7 50 52), og 54 48 true (fA 0 53), og 55 48 true (lF 54), og 56 48 true (fA 1 1), og 57 48 true (lF 56), og 58 48 true (mT 3), og 59 48 true (iA 7 57 58), og 60 48 true (fA 0 59), og 61 48 true (lF 60), og 62 48 true (bB .geq 55 61), og 63 45 false (.pick (.t 48) (.t 62) kF), oo 64 (.pick (.t 45) kT (.t 63))]
abbrev i11_R11 := [oo 2 (.mv (kI 1))]
abbrev i11_R12 := [oo 25 (mT 3), oo 26 (bK .add 25 1), oo 3 (mT 26)]
abbrev i11_L0 : IC := (.seq (.seq (.reg none i11_R6) (.cond (.t 24) .skip (.out 0))) (.seq (.block 1 (.seq (.seq (.reg none i11_R7) (.seq (.reg none i11_R8) (.cond (.t 34) (.seq (.reg none i11_R9) .ret) .skip))) (.seq (.reg (some []) i11_R10) (.cond (.t 64) (.seq (.reg none i11_R11) .ret) .skip)))) (.reg none i11_R12)))
abbrev i11_R13 := [oo 5 (.mv (kI 0))]
abbrev i11_R14 := [oo 65 (mT 5), oo 66 (fA 2 1), oo 67 (lF 66), oo 68 (lL 67), oo 69 (bB .lss 65 68)]
abbrev i11_R15 := [oo 72 (fA 2 1), oo 73 (lF 72), oo 74 (mT 5), oo 75 (iA 6 73 74), oo 76 (lT 6 75), oo 77 (.call 42 [(.t 76)]), oo 78 (.nt (.t 77)), oo 79 (mT 78), og 80 79 false (fA 2 1), og 81 79 false (lF 80), og 82 79 false (mT 5), og 83 79 false (iA 6 81 82), og 84 79 false (fA 5 83), og 85 79 false (lF 84), og 86 79 false (fA 0 1), og 87 79 false (lF 86), og 88 79 false (bB .geq 85 87), oo 89 (.pick (.t 79) kT (.t 88)), oo 90 (mT 89), og 91 90 false (mT 5), og 92 90 false (bK .gtr 91 0), og 93 90 false (mT 92), og 94 93 true (fA 2 1), og 95 93 true (lF 94), og 96 93 true (mT 5), og 97 93 true (bK .sub 96 1), og 98 93 true (iA 6 95 97), og 99 93 true (lT 6 98), og 100 93 true (fA 2 1), og 101 93 true (lF 100), og 102 93 true (mT 5), og 103 93 true (iA 6 101 102), og 104 93 true (lT 6 103), og 105 93 true (.call 43 [(.t 99), (.t 104)]), og 106 93 true (.nt (.t 105)), og 107 90 false (.pick (.t 93) (.t 106) kF), oo 108 (.pick (.t 90) kT (.t 107))]
abbrev i11_R16 := [oo 2 (.mv (kI 1))]
abbrev i11_R17 := [oo 70 (mT 5), oo 71 (bK .add 70 1), oo 5 (mT 71)]
abbrev i11_L1 : IC := (.seq (.seq (.reg none i11_R14) (.cond (.t 69) .skip (.out 2))) (.seq (.block 3 (.seq (.reg (some []) i11_R15) (.cond (.t 108) (.seq (.reg none i11_R16) .ret) .skip))) (.reg none i11_R17)))
abbrev i11_R18 := [oo 2 (.mv (kI 0))]
abbrev i11_B : IC := (.seq (.reg none i11_R0) (.seq (.seq (.reg none i11_R1) (.cond (.t 9) (.seq (.reg none i11_R2) .ret) .skip)) (.seq (.seq (.reg none i11_R3) (.cond (.t 19) (.seq (.reg none i11_R4) .ret) .skip)) (.seq (.seq (.reg none i11_R5) (.block 0 (.loop i11_L0))) (.seq (.seq (.reg none i11_R13) (.block 2 (.loop i11_L1))) (.seq (.reg none i11_R18) .ret))))))
abbrev i11_V : List Nat := [0, 1, 2, 3, 4, 5, 9, 19, 24, 34, 64, 69, 108]
def i11 : IFn := ⟨109, i11_V, [.tmp 2], i11_B⟩
theorem i11_ok : compF Try.prog i11_V Try.f11 = some i11 := by kernel_rfl
/-! funicular/post.Same -/
abbrev i12_R0 := [oo 2 (.box (.t 0)), oo 3 (.box (.t 1)), oo 4 (.mv kF)]
abbrev i12_R1 := [oo 5 (fA 0 2), oo 6 (lF 5), oo 7 (fA 0 3), oo 8 (lF 7), oo 9 (bB .eql 6 8), oo 10 (mT 9), og 11 10 true (fA 2 2), og 12 10 true (lF 11), og 13 10 true (fA 2 3), og 14 10 true (lF 13), og 15 10 true (.call 44 [(.t 12), (.t 14)]), oo 16 (.pick (.t 10) (.t 15) kF), oo 17 (mT 16), og 18 17 true (fA 1 2), og 19 17 true (lF 18), og 20 17 true (fA 1 3), og 21 17 true (lF 20), og 22 17 true (.call 45 [(.t 19), (.t 21), (.c (.fn (.func 46) [] []))]), oo 23 (.pick (.t 17) (.t 22) kF), oo 4 (mT 23)]
abbrev i12_B : IC := (.seq (.reg none i12_R0) (.seq (.reg none i12_R1) .ret))
abbrev i12_V : List Nat := [0, 1, 2, 3, 4]
def i12 : IFn := ⟨24, i12_V, [.tmp 4], i12_B⟩
theorem i12_ok : compF Try.prog i12_V Try.f12 = some i12 := by kernel_rfl
/-! funicular/funicularref22.Same -/
abbrev i13_R0 := [oo 2 (.box (.t 0)), oo 3 (.box (.t 1)), oo 4 (.mv kF)]
abbrev i13_R1 := [oo 7 (fA 0 2), oo 8 (lF 7), oo 9 (fA 0 3), oo 10 (lF 9), oo 11 (bB .neq 8 10), oo 12 (mT 11), og 13 12 false (fA 1 2), og 14 12 false (lF 13), og 15 12 false (lL 14), og 16 12 false (fA 1 3), og 17 12 false (lF 16), og 18 12 false (lL 17), og 19 12 false (bB .neq 15 18), oo 20 (.pick (.t 12) kT (.t 19)), oo 21 (mT 20), og 22 21 false (fA 2 2), og 23 21 false (lF 22), og 24 21 false (lL 23), og 25 21 false (fA 2 3), og 26 21 false (lF 25), og 27 21 false (lL 26), og 28 21 false (bB .neq 24 27), oo 29 (.pick (.t 21) kT (.t 28))]
abbrev i13_R2 := [oo 4 (.mv kF)]
abbrev i13_R3 := [oo 5 (.mv (kI 0))]
abbrev i13_R4 := [oo 30 (mT 5), oo 31 (fA 1 2), oo 32 (lF 31), oo 33 (lL 32), oo 34 (bB .lss 30 33)]
abbrev i13_R5 := [oo 37 (fA 1 2), oo 38 (lF 37), oo 39 (mT 5), oo 40 (iA 7 38 39), oo 41 (lT 7 40), oo 42 (fA 1 3), oo 43 (lF 42), oo 44 (mT 5), oo 45 (iA 7 43 44), oo 46 (lT 7 45), oo 47 (.call 49 [(.t 41), (.t 46)]), oo 48 (.nt (.t 47))]
abbrev i13_R6 := [oo 4 (.mv kF)]
abbrev i13_R7 := [oo 35 (mT 5), oo 36 (bK .add 35 1), oo 5 (mT 36)]
abbrev i13_L0 : IC := (.seq (.seq (.reg none i13_R4) (.cond (.t 34) .skip (.out 0))) (.seq (.block 1 (.seq (.reg (some []) i13_R5) (.cond (.t 48) (.seq (.reg none i13_R6) .ret) .skip))) (.reg none i13_R7)))
abbrev i13_R8 := [oo 6 (.mv (kI 0))]
abbrev i13_R9 := [oo 49 (mT 6), oo 50 (fA 2 2), oo 51 (lF 50), oo 52 (lL 51), oo 53 (bB .lss 49 52)]
abbrev i13_R10 := [oo 56 (fA 2 2), oo 57 (lF 56), oo 58 (mT 6), oo 59 (iA 6 57 58), oo 60 (lT 6 59), oo 61 (fA 2 3), oo 62 (lF 61), oo 63 (mT 6), oo 64 (iA 6 62 63), oo 65 (lT 6 64), oo 66 (.eqc true [(0, 1), (1, 1), (2, 1), (3, 2), (4, 1), (5, 1)] (.t 60) (.t 65))]
abbrev i13_R11 := [oo 4 (.mv kF)]
abbrev i13_R12 := [oo 54 (mT 6), oo 55 (bK .add 54 1), oo 6 (mT 55)]
abbrev i13_L1 : IC := (.seq (.seq (.reg none i13_R9) (.cond (.t 53) .skip (.out 2))) (.seq (.block 3 (.seq (.reg (some []) i13_R10) (.cond (.t 66) (.seq (.reg none i13_R11) .ret) .skip))) (.reg none i13_R12)))
abbrev i13_R13 := [oo 4 (.mv kT)]
abbrev i13_B : IC := (.seq (.reg none i13_R0) (.seq (.seq (.reg none i13_R1) (.cond (.t 29) (.seq (.reg none i13_R2) .ret) .skip)) (.seq (.seq (.reg none i13_R3) (.block 0 (.loop i13_L0))) (.seq (.seq (.reg none i13_R8) (.block 2 (.loop i13_L1))) (.seq (.reg none i13_R13) .ret)))))
abbrev i13_V : List Nat := [0, 1, 2, 3, 4, 5, 6, 29, 34, 48, 53, 66]
def i13 : IFn := ⟨67, i13_V, [.tmp 4], i13_B⟩
theorem i13_ok : compF Try.prog i13_V Try.f13 = some i13 := by kernel_rfl
/-! funicular/post.Copy -/
abbrev i14_R0 := [oo 1 (.box (.t 0)), oo 2 (.alloc [zI, .nil, .nil])]
abbrev i14_R1 := [oo 5 (fA 2 1), oo 6 (lF 5), oo 7 (.cln 6 (.t 6)), oo 8 (fA 2 1), oe (sT 1 8 7)]
abbrev i14_R2 := [oo 9 (fA 1 1), oo 10 (lF 9), oo 11 (.cln 7 (.t 10)), oo 12 (fA 1 1), oe (sT 1 12 11)]
abbrev i14_R3 := [oo 13 (fA 1 1), oo 14 (lF 13), oo 15 (lL 14), oo 16 (.mv (kI 0))]
abbrev i14_R4 := [oo 17 (bB .lss 16 15)]
abbrev i14_R5 := [oo 18 (mT 16), oo 3 (mT 18)]
abbrev i14_R6 := [oo 19 (fA 1 1), oo 20 (lF 19), oo 21 (mT 3), oo 22 (iA 7 20 21), oo 4 (mT 22)]
abbrev i14_R7 := [oo 23 (mT 4), oo 24 (mT 4), oo 25 (mT 4), oo 26 (nT 25), oo 27 (fA 3 26), oo 28 (lT 2 27), oo 29 (.call 52 [(.t 28)]), oo 30 (mT 4), oo 31 (nT 30), oo 32 (fA 6 31), oo 33 (lF 32), oo 34 (.cln 2 (.t 33)), oo 35 (nT 23), oo 36 (fA 3 35), oe (sT 2 36 29), oo 37 (nT 24), oo 38 (fA 6 37), oe (sT 1 38 34)]
abbrev i14_R8 := [oo 39 (bK .add 16 1), oo 16 (mT 39)]
abbrev i14_L0 : IC := (.seq (.reg none i14_R4) (.seq (.cond (.t 17) .skip (.out 0)) (.seq (.block 1 (.seq (.reg none i14_R5) (.seq (.reg none i14_R6) (.reg (some [(6, 10)]) i14_R7)))) (.reg none i14_R8))))
abbrev i14_R9 := [oo 40 (lT 3 1), oe (sT 3 2 40)]
abbrev i14_B : IC := (.seq (.reg none i14_R0) (.seq (.reg none i14_R1) (.seq (.reg none i14_R2) (.seq (.seq (.reg none i14_R3) (.block 0 (.loop i14_L0))) (.seq (.reg none i14_R9) .ret)))))
abbrev i14_V : List Nat := [0, 1, 2, 3, 4, 15, 16, 17]
def i14 : IFn := ⟨41, i14_V, [.cell 2 true 3], i14_B⟩
theorem i14_ok : compF Try.prog i14_V Try.f14 = some i14 := by kernel_rfl
/-! funicular/funicularlaw22.may -/
abbrev i15_R0 := [oo 1 (.box (.t 0)), oo 2 (.mv kF)]
abbrev i15_R1 := [oo 3 (lT 3 1), oo 4 (.call 8 [(.t 3)]), oo 5 (mT 4), og 6 5 true (lT 3 1), og 7 5 true (.call 11 [(.t 6)]), og 8 5 true (bK .eql 7 0), oo 9 (.pick (.t 5) (.t 8) kF), oo 2 (mT 9)]
abbrev i15_B : IC := (.seq (.reg none i15_R0) (.seq (.reg none i15_R1) .ret))
abbrev i15_V : List Nat := [0, 1, 2]
def i15 : IFn := ⟨10, i15_V, [.tmp 2], i15_B⟩
theorem i15_ok : compF Try.prog i15_V Try.f15 = some i15 := by kernel_rfl
/-! funicular/post.Publish -/
abbrev i16_R0 := [oo 6 (.box (.t 0)), oo 9 (.box (.t 3)), oo 12 (.alloc [zI, .nil, .nil]), oo 13 (.mv (kI 0)), oo 14 (.mv (.c (.nil))), oo 15 (.mv (kI 0))]
abbrev i16_R1 := [oo 16 (.mv (.c (.fn (.func 54) [] [])))]
abbrev i16_R2 := [oo 24 (mT 1), oo 25 (.call 55 [(.t 24)]), oo 26 (.nt (.t 25)), oo 23 (mT 26)]
abbrev i16_R3 := [oo 27 (mT 16), oo 28 (.callv (.t 27) [(kI 1)]), oo 29 (xT 0 28), oo 30 (xT 1 28), oo 31 (xT 2 28), oo 32 (xT 3 28), oe (sT 3 12 29), oo 13 (mT 30), oo 14 (mT 31), oo 15 (mT 32)]
abbrev i16_R4 := [oo 34 (mT 4), oo 35 (bK .lss 34 0), oo 36 (mT 35), og 37 36 false (mT 4), og 38 36 false (bK .gtr 37 1099511627776), oo 39 (.pick (.t 36) kT (.t 38)), oo 40 (mT 39), og 41 40 false (mT 5), og 42 40 false (bK .lss 41 0), oo 43 (.pick (.t 40) kT (.t 42)), oo 44 (mT 43), og 45 44 false (mT 5), og 46 44 false (mT 4), og 47 44 false (.bin .sub (kI 1099511627776) (.t 46)), og 48 44 false (bB .gtr 45 47), oo 49 (.pick (.t 44) kT (.t 48)), oo 33 (mT 49)]
abbrev i16_R5 := [oo 50 (mT 16), oo 51 (.callv (.t 50) [(kI 2)]), oo 52 (xT 0 51), oo 53 (xT 1 51), oo 54 (xT 2 51), oo 55 (xT 3 51), oe (sT 3 12 52), oo 13 (mT 53), oo 14 (mT 54), oo 15 (mT 55)]
abbrev i16_R6 := [oo 56 (lT 2 9), oo 57 (.call 56 [(.t 56)]), oo 17 (mT 57)]
abbrev i16_R7 := [oo 58 (mT 17), oo 59 (bK .neq 58 0)]
abbrev i16_R8 := [oo 60 (mT 16), oo 61 (mT 17), oo 62 (.callv (.t 60) [(.t 61)]), oo 63 (xT 0 62), oo 64 (xT 1 62), oo 65 (xT 2 62), oo 66 (xT 3 62), oe (sT 3 12 63), oo 13 (mT 64), oo 14 (mT 65), oo 15 (mT 66)]
abbrev i16_R9 := [oo 67 (fA 0 6), oo 68 (lF 67), oo 69 (bK .geq 68 1099511627776), oo 70 (mT 69), og 71 70 false (mT 5), og 72 70 false (bK .gtr 71 0), og 73 70 false (mT 72), og 74 73 true (fA 1 6), og 75 73 true (lF 74), og 76 73 true (lL 75), og 77 73 true (bK .geq 76 4096), og 78 70 false (.pick (.t 73) (.t 77) kF), oo 79 (.pick (.t 70) kT (.t 78))]
abbrev i16_R10 := [oo 80 (mT 16), oo 81 (.callv (.t 80) [(kI 14)]), oo 82 (xT 0 81), oo 83 (xT 1 81), oo 84 (xT 2 81), oo 85 (xT 3 81), oe (sT 3 12 82), oo 13 (mT 83), oo 14 (mT 84), oo 15 (mT 85)]
abbrev i16_R11 := [oo 86 (lT 3 6), oo 87 (.call 14 [(.t 86)]), oo 18 (.alloc [zI, .nil, .nil]), oe (sT 3 18 87)]
abbrev i16_R12 := [oo 88 (fA 0 6), oo 89 (lF 88), oo 90 (mT 1), oo 91 (mT 2), oo 92 (lT 2 9), oo 93 (.call 52 [(.t 92)]), oo 94 (mT 4), oo 95 (mT 5), oo 96 (bB .add 94 95), oo 97 (.build [zI, .str ⟨#[]⟩, zI, .nil, .nil, zI, .nil] [(0, 1, (.t 89)), (1, 1, (.t 90)), (2, 1, (.t 91)), (3, 2, (.t 93)), (5, 1, (.t 96))]), oo 19 (.alloc [zI, .str ⟨#[]⟩, zI, .nil, .nil, zI, .nil]), oe (sT 7 19 97)]
abbrev i16_R13 := [oo 98 (fA 0 18), oo 99 (lF 98), oo 100 (bK .add 99 1), oo 101 (fA 0 18), oe (sT 1 101 100)]
abbrev i16_R14 := [oo 20 (.mv (.c (.nil)))]
abbrev i16_R15 := [oo 102 (fA 2 18), oo 103 (lF 102), oo 104 (lL 103), oo 105 (.mv (kI 0))]
abbrev i16_R16 := [oo 106 (bB .lss 105 104)]
abbrev i16_R17 := [oo 107 (mT 105), oo 21 (mT 107)]
abbrev i16_R18 := [oo 108 (fA 2 18), oo 109 (lF 108), oo 110 (mT 21), oo 111 (iA 6 109 110), oo 22 (mT 111)]
abbrev i16_R19 := [oo 112 (lT 7 19), oo 113 (mT 22), oo 114 (nT 113), oo 115 (lT 6 114), oo 116 (.call 57 [(.t 112), (.t 115)])]
abbrev i16_R20 := [oo 117 (mT 20), oo 118 (mT 22), oo 119 (.call 58 [(.t 19), (.t 118)]), oo 120 (.bsl 5 [zI, zI, zI, .imm 0 [] false, .imm 0 [] false] 1 [(0, (.t 119))]), oo 121 (.app 5 (.t 117) (.t 120)), oo 20 (mT 121)]
abbrev i16_R21 := [oo 122 (bK .add 105 1), oo 105 (mT 122)]
abbrev i16_L0 : IC := (.seq (.reg none i16_R16) (.seq (.cond (.t 106) .skip (.out 1)) (.seq (.block 2 (.seq (.reg none i16_R17) (.seq (.reg none i16_R18) (.seq (.reg (some []) i16_R19) (.cond (.t 116) (.reg none i16_R20) .skip))))) (.reg none i16_R21))))
abbrev i16_R22 := [oo 123 (mT 5), oo 124 (bK .gtr 123 0)]
abbrev i16_R23 := [oo 125 (fA 1 18), oo 126 (lF 125), oo 127 (lT 7 19), oo 128 (.bsl 7 [zI, .str ⟨#[]⟩, zI, .imm 0 [] false, .imm 0 [] false, zI, .imm 0 [] false] 1 [(0, (.t 127))]), oo 129 (.app 7 (.t 126) (.t 128)), oo 130 (fA 1 18), oe (sT 1 130 129)]
abbrev i16_R24 := [oo 131 (lT 3 18), oo 132 (fA 0 19), oo 133 (lF 132), oo 134 (mT 20), oe (sT 3 12 131), oo 13 (mT 133), oo 14 (mT 134), oo 15 (.mv (kI 0))]
abbrev i16_B : IC := (.seq (.reg none i16_R0) (.seq (.reg none i16_R1) (.seq (.block 0 (.seq (.reg none i16_R2) (.cond (.t 23) (.seq (.reg none i16_R3) .ret) (.seq (.reg none i16_R4) (.cond (.t 33) (.seq (.reg none i16_R5) .ret) .skip))))) (.seq (.seq (.reg none i16_R6) (.seq (.reg none i16_R7) (.cond (.t 59) (.seq (.reg none i16_R8) .ret) .skip))) (.seq (.seq (.reg none i16_R9) (.cond (.t 79) (.seq (.reg none i16_R10) .ret) .skip)) (.seq (.reg none i16_R11) (.seq (.reg (some [(1, 5), (1, 10), (4, 10), (5, 10)]) i16_R12) (.seq (.reg none i16_R13) (.seq (.reg none i16_R14) (.seq (.seq (.reg none i16_R15) (.block 1 (.loop i16_L0))) (.seq (.seq (.reg none i16_R22) (.cond (.t 124) (.reg none i16_R23) .skip)) (.seq (.reg (some [(2, 4)]) i16_R24) .ret))))))))))))
abbrev i16_V : List Nat := [0, 1, 2, 3, 4, 5, 6, 9, 12, 13, 14, 15, 16, 17, 18, 19, 20, 21, 22, 23, 33, 59, 79, 104, 105, 106, 116, 124]
def i16 : IFn := ⟨135, i16_V, [.cell 12 true 3, .tmp 13, .tmp 14, .tmp 15], i16_B⟩
theorem i16_ok : compF Try.prog i16_V Try.f16 = some i16 := by kernel_rfl
/-! funicular/funicularref22.Publish -/
abbrev i17_R0 := [oo 6 (.box (.t 0)), oo 9 (.box (.t 3)), oo 12 (.alloc [zI, .nil, .nil]), oo 13 (.mv (kI 0)), oo 14 (.mv (.c (.nil))), oo 15 (.mv (kI 0))]
abbrev i17_R1 := [oo 22 (mT 1), oo 23 (.call 59 [(.t 22)]), oo 24 (.nt (.t 23))]
abbrev i17_R2 := [oo 25 (.build [zI, .nil, .nil] []), oe (sT 3 12 25), oo 13 (.mv (kI 0)), oo 14 (.mv (.c (.nil))), oo 15 (.mv (kI 1))]
abbrev i17_R3 := [oo 26 (mT 4), oo 27 (.call 40 [(.t 26), (kI 0), (kI 1099511627776)]), oo 28 (.nt (.t 27)), oo 29 (mT 28), og 30 29 false (mT 5), og 31 29 false (bK .lss 30 0), oo 32 (.pick (.t 29) kT (.t 31)), oo 33 (mT 32), og 34 33 false (mT 5), og 35 33 false (mT 4), og 36 33 false (.bin .sub (kI 1099511627776) (.t 35)), og 37 33 false (bB .gtr 34 36), oo 38 (.pick (.t 33) kT (.t 37))]
abbrev i17_R4 := [oo 39 (.build [zI, .nil, .nil] []), oe (sT 3 12 39), oo 13 (.mv (kI 0)), oo 14 (.mv (.c (.nil))), oo 15 (.mv (kI 2))]
abbrev i17_R5 := [oo 40 (lT 2 9), oo 41 (.call 60 [(.t 40)]), oo 16 (mT 41)]
abbrev i17_R6 := [oo 42 (mT 16), oo 43 (bK .neq 42 0)]
abbrev i17_R7 := [oo 44 (.build [zI, .nil, .nil] []), oo 45 (mT 16), oe (sT 3 12 44), oo 13 (.mv (kI 0)), oo 14 (.mv (.c (.nil))), oo 15 (mT 45)]
abbrev i17_R8 := [oo 46 (fA 0 6), oo 47 (lF 46), oo 48 (bK .geq 47 1099511627776), oo 49 (mT 48), og 50 49 false (mT 5), og 51 49 false (bK .gtr 50 0), og 52 49 false (mT 51), og 53 52 true (fA 1 6), og 54 52 true (lF 53), og 55 52 true (lL 54), og 56 52 true (bK .geq 55 4096), og 57 49 false (.pick (.t 52) (.t 56) kF), oo 58 (.pick (.t 49) kT (.t 57))]
abbrev i17_R9 := [oo 59 (.build [zI, .nil, .nil] []), oe (sT 3 12 59), oo 13 (.mv (kI 0)), oo 14 (.mv (.c (.nil))), oo 15 (.mv (kI 14))]
abbrev i17_R10 := [oo 60 (fA 0 6), oo 61 (lF 60), oo 62 (mT 1), oo 63 (mT 2), oo 64 (lT 2 9), oo 65 (mT 4), oo 66 (mT 5), oo 67 (bB .add 65 66), oo 68 (.build [zI, .str ⟨#[]⟩, zI, .nil, .nil, zI, .nil] [(0, 1, (.t 61)), (1, 1, (.t 62)), (2, 1, (.t 63)), (3, 2, (.t 64)), (5, 1, (.t 67))]), oo 17 (.alloc [zI, .str ⟨#[]⟩, zI, .nil, .nil, zI, .nil]), oe (sT 7 17 68)]
abbrev i17_R11 := [oo 69 (fA 0 6), oo 70 (lF 69), oo 71 (bK .add 70 1), oo 72 (.build [zI, .nil, .nil] [(0, 1, (.t 71))]), oo 18 (.alloc [zI, .nil, .nil]), oe (sT 3 18 72)]
abbrev i17_R12 := [oo 19 (.mv (.c (.nil)))]
abbrev i17_R13 := [oo 20 (.mv (kI 0))]
abbrev i17_R14 := [oo 73 (mT 20), oo 74 (fA 2 6), oo 75 (lF 74), oo 76 (lL 75), oo 77 (bB .lss 73 76)]
abbrev i17_R15 := [oo 80 (fA 2 6), oo 81 (lF 80), oo 82 (mT 20), oo 83 (iA 6 81 82), oo 84 (lT 6 83), oo 21 (.alloc [zI, zI, zI, .str ⟨#[]⟩, zI, zI]), oe (sT 6 21 84)]
abbrev i17_R16 := [oo 85 (lT 7 17), oo 86 (lT 6 21), oo 87 (.call 61 [(.t 85), (.t 86)])]
abbrev i17_R17 := [oo 88 (mT 19), oo 89 (lT 7 17), oo 90 (lT 6 21), oo 91 (.call 62 [(.t 89), (.t 90)]), oo 92 (.bsl 5 [zI, zI, zI, .imm 0 [] false, .imm 0 [] false] 1 [(0, (.t 91))]), oo 93 (.app 5 (.t 88) (.t 92)), oo 19 (mT 93)]
abbrev i17_R18 := [oo 94 (lT 7 17), oo 95 (lT 6 21), oo 96 (.call 63 [(.t 94), (.t 95)]), oe (sT 7 17 96)]
abbrev i17_R19 := [oo 97 (fA 0 17), oo 98 (lF 97), oo 99 (fA 5 21), oe (sT 1 99 98)]
abbrev i17_R20 := [oo 100 (fA 2 18), oo 101 (lF 100), oo 102 (lT 6 21), oo 103 (.bsl 6 [zI, zI, zI, .str ⟨#[]⟩, zI, zI] 1 [(0, (.t 102))]), oo 104 (.app 6 (.t 101) (.t 103)), oo 105 (fA 2 18), oe (sT 1 105 104)]
abbrev i17_R21 := [oo 78 (mT 20), oo 79 (bK .add 78 1), oo 20 (mT 79)]
abbrev i17_L0 : IC := (.seq (.seq (.reg none i17_R14) (.cond (.t 77) .skip (.out 0))) (.seq (.block 1 (.seq (.reg none i17_R15) (.seq (.seq (.reg none i17_R16) (.cond (.t 87) (.seq (.reg none i17_R17) (.seq (.reg none i17_R18) (.reg none i17_R19))) .skip)) (.reg none i17_R20)))) (.reg none i17_R21)))
abbrev i17_R22 := [oo 106 (fA 1 18), oo 107 (lF 106), oo 108 (fA 1 6), oo 109 (lF 108), oo 110 (.app 7 (.t 107) (.t 109)), oo 111 (fA 1 18), oe (sT 1 111 110)]
abbrev i17_R23 := [oo 112 (mT 5), oo 113 (bK .gtr 112 0)]
abbrev i17_R24 := [oo 114 (fA 1 18), oo 115 (lF 114), oo 116 (lT 7 17), oo 117 (.bsl 7 [zI, .str ⟨#[]⟩, zI, .imm 0 [] false, .imm 0 [] false, zI, .imm 0 [] false] 1 [(0, (.t 116))]), oo 118 (.app 7 (.t 115) (.t 117)), oo 119 (fA 1 18), oe (sT 1 119 118)]
abbrev i17_R25 := [oo 120 (lT 3 18), oo 121 (fA 0 6), oo 122 (lF 121), oo 123 (mT 19), oe (sT 3 12 120), oo 13 (mT 122), oo 14 (mT 123), oo 15 (.mv (kI 0))]
abbrev i17_B : IC := (.seq (.reg none i17_R0) (.seq (.seq (.reg none i17_R1) (.cond (.t 24) (.seq (.reg none i17_R2) .ret) .skip)) (.seq (.seq (.reg none i17_R3) (.cond (.t 38) (.seq (.reg none i17_R4) .ret) .skip)) (.seq (.seq (.reg none i17_R5) (.seq (.reg none i17_R6) (.cond (.t 43) (.seq (.reg none i17_R7) .ret) .skip))) (.seq (.seq (.reg none i17_R8) (.cond (.t 58) (.seq (.reg none i17_R9) .ret) .skip)) (.seq (.reg none i17_R10) (.seq (.reg none i17_R11) (.seq (.reg none i17_R12) (.seq (.seq (.reg none i17_R13) (.block 0 (.loop i17_L0))) (.seq (.reg none i17_R22) (.seq (.seq (.reg none i17_R23) (.cond (.t 113) (.reg none i17_R24) .skip)) (.seq (.reg (some [(2, 4)]) i17_R25) .ret))))))))))))
abbrev i17_V : List Nat := [0, 1, 2, 3, 4, 5, 6, 9, 12, 13, 14, 15, 16, 17, 18, 19, 20, 21, 24, 38, 43, 58, 77, 87, 113]
def i17 : IFn := ⟨124, i17_V, [.cell 12 true 3, .tmp 13, .tmp 14, .tmp 15], i17_B⟩
theorem i17_ok : compF Try.prog i17_V Try.f17 = some i17 := by kernel_rfl
/-! funicular/funicularref22.Hits -/
abbrev i18_R0 := [oo 4 (.mv kF)]
abbrev i18_R1 := [oo 6 (mT 0), oo 7 (lL 6), oo 8 (mT 1), oo 9 (lL 8), oo 10 (bB .neq 7 9)]
abbrev i18_R2 := [oo 4 (.mv kF)]
abbrev i18_R3 := [oo 5 (.mv (kI 0))]
abbrev i18_R4 := [oo 11 (mT 5), oo 12 (mT 0), oo 13 (lL 12), oo 14 (bB .lss 11 13)]
abbrev i18_R5 := [oo 17 (mT 0), oo 18 (mT 5), oo 19 (iA 5 17 18), oo 20 (fA 0 19), oo 21 (lF 20), oo 22 (mT 1), oo 23 (mT 5), oo 24 (iA 5 22 23), oo 25 (fA 0 24), oo 26 (lF 25), oo 27 (bB .neq 21 26), oo 28 (mT 27), og 29 28 false (mT 0), og 30 28 false (mT 5), og 31 28 false (iA 5 29 30), og 32 28 false (fA 1 31), og 33 28 false (lF 32), og 34 28 false (mT 1), og 35 28 false (mT 5), og 36 28 false (iA 5 34 35), og 37 28 false (fA 1 36), og 38 28 false (lF 37), og 39 28 false (bB .neq 33 38), oo 40 (.pick (.t 28) kT (.t 39)), oo 41 (mT 40), og 42 41 false (mT 0), og 43 41 false (mT 5), og 44 41 false (iA 5 42 43), og 45 41 false (fA 2 44), og 46 41 false (lF 45), og 47 41 false (mT 1), og 48 41 false (mT 5), og 49 41 false (iA 5 47 48), og 50 41 false (fA 2 49), og 51 41 false (lF 50), og 52 41 false (bB .neq 46 51), oo 53 (.pick (.t 41) kT (.t 52)), oo 54 (mT 53), og 55 54 false (mT 0), og 56 54 false (mT 5), og 57 54 false (iA 5 55 56), og 58 54 false (fA 3 57), og 59 54 false (lT 2 58), og 60 54 false (mT 1), og 61 54 false (mT 5), og 62 54 false (iA 5 60 61), og 63 54 false (fA 3 62), og 64 54 false (lT 2 63), og 65 54 false (.call 64 [(.t 59), (.t 64)]), og 66 54 false (.nt (.t 65)), oo 67 (.pick (.t 54) kT (.t 66))]
abbrev i18_R6 := [oo 4 (.mv kF)]
abbrev i18_R7 := [oo 15 (mT 5), oo 16 (bK .add 15 1), oo 5 (mT 16)]
abbrev i18_L0 : IC := (.seq (.seq (.reg none i18_R4) (.cond (.t 14) .skip (.out 0))) (.seq (.block 1 (.seq (.reg (some []) i18_R5) (.cond (.t 67) (.seq (.reg none i18_R6) .ret) .skip))) (.reg none i18_R7)))
abbrev i18_R8 := [oo 4 (.mv kT)]
abbrev i18_B : IC := (.seq (.reg none i18_R0) (.seq (.seq (.reg none i18_R1) (.cond (.t 10) (.seq (.reg none i18_R2) .ret) .skip)) (.seq (.seq (.reg none i18_R3) (.block 0 (.loop i18_L0))) (.seq (.reg none i18_R8) .ret))))
abbrev i18_V : List Nat := [0, 1, 4, 5, 10, 14, 67]
def i18 : IFn := ⟨68, i18_V, [.tmp 4], i18_B⟩
theorem i18_ok : compF Try.prog i18_V Try.f18 = some i18 := by kernel_rfl
/-! funicular/post.Open -/
abbrev i19_R0 := [oo 2 (.box (.t 0)), oo 3 (.box (.t 1)), oo 4 (.alloc [zI, .nil, .nil]), oo 5 (.mv (.c (.nil))), oo 6 (.mv (kI 0))]
abbrev i19_R1 := [oo 13 (lT 6 3), oo 14 (.call 37 [(.t 13)]), oo 15 (.nt (.t 14)), oo 16 (mT 15), og 17 16 false (fA 5 3), og 18 16 false (lF 17), og 19 16 false (bK .neq 18 0), oo 20 (.pick (.t 16) kT (.t 19))]
abbrev i19_R2 := [oo 21 (.build [zI, .nil, .nil] []), oe (sT 3 4 21), oo 5 (.mv (.c (.nil))), oo 6 (.mv (kI 1))]
abbrev i19_R3 := [oo 23 (lT 3 2), oo 24 (lT 6 3), oo 25 (.call 38 [(.t 24)]), oo 26 (.call 65 [(.t 23), (.t 25)]), oo 22 (mT 26), oo 27 (xT 0 22), oo 28 (xT 1 22), oo 7 (mT 27), oo 8 (mT 28)]
abbrev i19_R4 := [oo 30 (mT 8), oo 29 (mT 30)]
abbrev i19_R5 := [oo 31 (.build [zI, .nil, .nil] []), oe (sT 3 4 31), oo 5 (.mv (.c (.nil))), oo 6 (.mv (kI 10))]
abbrev i19_R6 := [oo 33 (fA 2 2), oo 34 (lF 33), oo 35 (lL 34), oo 36 (bK .geq 35 4096), oo 32 (mT 36)]
abbrev i19_R7 := [oo 37 (.build [zI, .nil, .nil] []), oe (sT 3 4 37), oo 5 (.mv (.c (.nil))), oo 6 (.mv (kI 14))]
abbrev i19_R8 := [oo 38 (lT 3 2), oo 39 (.call 14 [(.t 38)]), oo 9 (.alloc [zI, .nil, .nil]), oe (sT 3 9 39)]
abbrev i19_R9 := [oo 10 (.mv (.c (.nil)))]
abbrev i19_R10 := [oo 40 (fA 1 9), oo 41 (lF 40), oo 42 (lL 41), oo 43 (.mv (kI 0))]
abbrev i19_R11 := [oo 44 (bB .lss 43 42)]
abbrev i19_R12 := [oo 45 (mT 43), oo 11 (mT 45)]
abbrev i19_R13 := [oo 46 (fA 1 9), oo 47 (lF 46), oo 48 (mT 11), oo 49 (iA 7 47 48), oo 12 (mT 49)]
abbrev i19_R14 := [oo 50 (mT 12), oo 51 (nT 50), oo 52 (lT 7 51), oo 53 (lT 6 3), oo 54 (.call 57 [(.t 52), (.t 53)])]
abbrev i19_R15 := [oo 55 (mT 10), oo 56 (mT 12), oo 57 (.call 58 [(.t 56), (.t 3)]), oo 58 (.bsl 5 [zI, zI, zI, .imm 0 [] false, .imm 0 [] false] 1 [(0, (.t 57))]), oo 59 (.app 5 (.t 55) (.t 58)), oo 10 (mT 59)]
abbrev i19_R16 := [oo 60 (bK .add 43 1), oo 43 (mT 60)]
abbrev i19_L0 : IC := (.seq (.reg none i19_R11) (.seq (.cond (.t 44) .skip (.out 1)) (.seq (.block 2 (.seq (.reg none i19_R12) (.seq (.reg none i19_R13) (.seq (.reg (some []) i19_R14) (.cond (.t 54) (.seq (.reg none i19_R15) (.out 1)) .skip))))) (.reg none i19_R16))))
abbrev i19_R17 := [oo 61 (fA 2 9), oo 62 (lF 61), oo 63 (mT 7), oo 64 (lT 6 3), oo 65 (.bsl 6 [zI, zI, zI, .str ⟨#[]⟩, zI, zI] 1 [(0, (.t 64))]), oo 66 (.call 66 [(.t 62), (.t 63), (.t 65)]), oo 67 (fA 2 9), oe (sT 1 67 66)]
abbrev i19_R18 := [oo 68 (lT 3 9), oo 69 (mT 10), oe (sT 3 4 68), oo 5 (mT 69), oo 6 (.mv (kI 0))]
abbrev i19_B : IC := (.seq (.reg none i19_R0) (.seq (.seq (.reg none i19_R1) (.cond (.t 20) (.seq (.reg none i19_R2) .ret) .skip)) (.seq (.reg (some [(0, 2)]) i19_R3) (.seq (.block 0 (.seq (.reg none i19_R4) (.cond (.t 29) (.seq (.reg none i19_R5) .ret) (.seq (.reg none i19_R6) (.cond (.t 32) (.seq (.reg none i19_R7) .ret) .skip))))) (.seq (.reg none i19_R8) (.seq (.reg none i19_R9) (.seq (.seq (.reg none i19_R10) (.block 1 (.loop i19_L0))) (.seq (.reg none i19_R17) (.seq (.reg none i19_R18) .ret)))))))))
abbrev i19_V : List Nat := [0, 1, 2, 3, 4, 5, 6, 7, 8, 9, 10, 11, 12, 20, 29, 32, 42, 43, 44, 54]
def i19 : IFn := ⟨70, i19_V, [.cell 4 true 3, .tmp 5, .tmp 6], i19_B⟩
theorem i19_ok : compF Try.prog i19_V Try.f19 = some i19 := by kernel_rfl
/-! (funicular/funicularlaw22.Op).Sub -/
abbrev i20_R0 := [oo 1 (.box (.t 0)), oo 2 (.alloc [zI, zI, zI, .str ⟨#[]⟩, zI, zI])]
abbrev i20_R1 := [oo 3 (fA 7 1), oo 4 (lF 3), oo 5 (fA 8 1), oo 6 (lF 5), oo 7 (fA 9 1), oo 8 (lF 7), oo 9 (fA 1 1), oo 10 (lF 9), oo 11 (fA 2 1), oo 12 (lF 11), oo 13 (.build [zI, zI, zI, .str ⟨#[]⟩, zI, zI] [(0, 1, (.t 4)), (1, 1, (.t 6)), (2, 1, (.t 8)), (3, 1, (.t 10)), (4, 1, (.t 12))]), oe (sT 6 2 13)]
abbrev i20_B : IC := (.seq (.reg none i20_R0) (.seq (.reg none i20_R1) .ret))
abbrev i20_V : List Nat := [0, 1, 2]
def i20 : IFn := ⟨14, i20_V, [.cell 2 true 6], i20_B⟩
theorem i20_ok : compF Try.prog i20_V Try.f20 = some i20 := by kernel_rfl
/-! funicular/funicularref22.Open -/
abbrev i21_R0 := [oo 2 (.box (.t 0)), oo 3 (.box (.t 1)), oo 4 (.alloc [zI, .nil, .nil]), oo 5 (.mv (.c (.nil))), oo 6 (.mv (kI 0))]
abbrev i21_R1 := [oo 14 (lT 6 3), oo 15 (.call 42 [(.t 14)]), oo 16 (.nt (.t 15)), oo 17 (mT 16), og 18 17 false (fA 5 3), og 19 17 false (lF 18), og 20 17 false (bK .neq 19 0), oo 21 (.pick (.t 17) kT (.t 20))]
abbrev i21_R2 := [oo 22 (.build [zI, .nil, .nil] []), oe (sT 3 4 22), oo 5 (.mv (.c (.nil))), oo 6 (.mv (kI 1))]
abbrev i21_R3 := [oo 23 (lT 3 2), oo 24 (fA 0 3), oo 25 (lF 24), oo 26 (fA 1 3), oo 27 (lF 26), oo 28 (.call 32 [(.t 23), (.t 25), (.t 27)]), oo 29 (bK .geq 28 0)]
abbrev i21_R4 := [oo 30 (.build [zI, .nil, .nil] []), oe (sT 3 4 30), oo 5 (.mv (.c (.nil))), oo 6 (.mv (kI 10))]
abbrev i21_R5 := [oo 31 (fA 2 2), oo 32 (lF 31), oo 33 (lL 32), oo 34 (bK .geq 33 4096)]
abbrev i21_R6 := [oo 35 (.build [zI, .nil, .nil] []), oe (sT 3 4 35), oo 5 (.mv (.c (.nil))), oo 6 (.mv (kI 14))]
abbrev i21_R7 := [oo 36 (fA 0 2), oo 37 (lF 36), oo 38 (.build [zI, .nil, .nil] [(0, 1, (.t 37))]), oo 7 (.alloc [zI, .nil, .nil]), oe (sT 3 7 38)]
abbrev i21_R8 := [oo 8 (.mv (.c (.nil)))]
abbrev i21_R9 := [oo 39 (lT 6 3), oo 9 (.alloc [zI, zI, zI, .str ⟨#[]⟩, zI, zI]), oe (sT 6 9 39)]
abbrev i21_R10 := [oo 10 (.mv (kI 0))]
abbrev i21_R11 := [oo 40 (mT 10), oo 41 (fA 1 2), oo 42 (lF 41), oo 43 (lL 42), oo 44 (bB .lss 40 43)]
abbrev i21_R12 := [oo 47 (fA 1 2), oo 48 (lF 47), oo 49 (mT 10), oo 50 (iA 7 48 49), oo 51 (lT 7 50), oo 11 (.alloc [zI, .str ⟨#[]⟩, zI, .nil, .nil, zI, .nil]), oe (sT 7 11 51)]
abbrev i21_R13 := [oo 52 (lT 7 11), oo 53 (lT 6 9), oo 54 (.call 61 [(.t 52), (.t 53)])]
abbrev i21_R14 := [oo 55 (mT 8), oo 56 (lT 7 11), oo 57 (lT 6 9), oo 58 (.call 62 [(.t 56), (.t 57)]), oo 59 (.bsl 5 [zI, zI, zI, .imm 0 [] false, .imm 0 [] false] 1 [(0, (.t 58))]), oo 60 (.app 5 (.t 55) (.t 59)), oo 8 (mT 60)]
abbrev i21_R15 := [oo 61 (lT 7 11), oo 62 (lT 6 9), oo 63 (.call 63 [(.t 61), (.t 62)]), oe (sT 7 11 63)]
abbrev i21_R16 := [oo 64 (fA 0 11), oo 65 (lF 64), oo 66 (fA 5 9), oe (sT 1 66 65)]
abbrev i21_R17 := [oo 67 (fA 1 7), oo 68 (lF 67), oo 69 (lT 7 11), oo 70 (.bsl 7 [zI, .str ⟨#[]⟩, zI, .imm 0 [] false, .imm 0 [] false, zI, .imm 0 [] false] 1 [(0, (.t 69))]), oo 71 (.app 7 (.t 68) (.t 70)), oo 72 (fA 1 7), oe (sT 1 72 71)]
abbrev i21_R18 := [oo 45 (mT 10), oo 46 (bK .add 45 1), oo 10 (mT 46)]
abbrev i21_L0 : IC := (.seq (.seq (.reg none i21_R11) (.cond (.t 44) .skip (.out 0))) (.seq (.block 1 (.seq (.reg none i21_R12) (.seq (.seq (.reg none i21_R13) (.cond (.t 54) (.seq (.reg none i21_R14) (.seq (.reg none i21_R15) (.reg none i21_R16))) .skip)) (.reg none i21_R17)))) (.reg none i21_R18)))
abbrev i21_R19 := [oo 12 (.mv kF)]
abbrev i21_R20 := [oo 13 (.mv (kI 0))]
abbrev i21_R21 := [oo 73 (mT 13), oo 74 (fA 2 2), oo 75 (lF 74), oo 76 (lL 75), oo 77 (bB .lss 73 76)]
abbrev i21_R22 := [oo 80 (mT 12), oo 81 (.nt (.t 80)), oo 82 (mT 81), og 83 82 true (lT 6 9), og 84 82 true (fA 2 2), og 85 82 true (lF 84), og 86 82 true (mT 13), og 87 82 true (iA 6 85 86), og 88 82 true (lT 6 87), og 89 82 true (.call 43 [(.t 83), (.t 88)]), oo 90 (.pick (.t 82) (.t 89) kF)]
abbrev i21_R23 := [oo 91 (fA 2 7), oo 92 (lF 91), oo 93 (lT 6 9), oo 94 (.bsl 6 [zI, zI, zI, .str ⟨#[]⟩, zI, zI] 1 [(0, (.t 93))]), oo 95 (.app 6 (.t 92) (.t 94)), oo 96 (fA 2 7), oe (sT 1 96 95)]
abbrev i21_R24 := [oo 12 (.mv kT)]
abbrev i21_R25 := [oo 97 (fA 2 7), oo 98 (lF 97), oo 99 (fA 2 2), oo 100 (lF 99), oo 101 (mT 13), oo 102 (iA 6 100 101), oo 103 (lT 6 102), oo 104 (.bsl 6 [zI, zI, zI, .str ⟨#[]⟩, zI, zI] 1 [(0, (.t 103))]), oo 105 (.app 6 (.t 98) (.t 104)), oo 106 (fA 2 7), oe (sT 1 106 105)]
abbrev i21_R26 := [oo 78 (mT 13), oo 79 (bK .add 78 1), oo 13 (mT 79)]
abbrev i21_L1 : IC := (.seq (.seq (.reg none i21_R21) (.cond (.t 77) .skip (.out 2))) (.seq (.block 3 (.seq (.seq (.reg (some []) i21_R22) (.cond (.t 90) (.seq (.reg none i21_R23) (.reg none i21_R24)) .skip)) (.reg (some [(1, 7)]) i21_R25))) (.reg none i21_R26)))
abbrev i21_R27 := [oo 107 (mT 12), oo 108 (.nt (.t 107))]
abbrev i21_R28 := [oo 109 (fA 2 7), oo 110 (lF 109), oo 111 (lT 6 9), oo 112 (.bsl 6 [zI, zI, zI, .str ⟨#[]⟩, zI, zI] 1 [(0, (.t 111))]), oo 113 (.app 6 (.t 110) (.t 112)), oo 114 (fA 2 7), oe (sT 1 114 113)]
abbrev i21_R29 := [oo 115 (lT 3 7), oo 116 (mT 8), oe (sT 3 4 115), oo 5 (mT 116), oo 6 (.mv (kI 0))]
abbrev i21_B : IC := (.seq (.reg none i21_R0) (.seq (.seq (.reg none i21_R1) (.cond (.t 21) (.seq (.reg none i21_R2) .ret) .skip)) (.seq (.seq (.reg none i21_R3) (.cond (.t 29) (.seq (.reg none i21_R4) .ret) .skip)) (.seq (.seq (.reg none i21_R5) (.cond (.t 34) (.seq (.reg none i21_R6) .ret) .skip)) (.seq (.reg none i21_R7) (.seq (.reg none i21_R8) (.seq (.reg none i21_R9) (.seq (.seq (.reg none i21_R10) (.block 0 (.loop i21_L0))) (.seq (.reg none i21_R19) (.seq (.seq (.reg none i21_R20) (.block 2 (.loop i21_L1))) (.seq (.seq (.reg none i21_R27) (.cond (.t 108) (.reg none i21_R28) .skip)) (.seq (.reg none i21_R29) .ret))))))))))))
abbrev i21_V : List Nat := [0, 1, 2, 3, 4, 5, 6, 7, 8, 9, 10, 11, 12, 13, 21, 29, 34, 44, 54, 77, 90, 108]
def i21 : IFn := ⟨117, i21_V, [.cell 4 true 3, .tmp 5, .tmp 6], i21_B⟩
theorem i21_ok : compF Try.prog i21_V Try.f21 = some i21 := by kernel_rfl
/-! funicular/post.Close -/
abbrev i22_R0 := [oo 3 (.box (.t 0)), oo 6 (.alloc [zI, .nil, .nil]), oo 7 (.mv (kI 0))]
abbrev i22_R1 := [oo 12 (lT 3 3), oo 13 (mT 1), oo 14 (mT 2), oo 15 (.build [zI, zI] [(0, 1, (.t 13)), (1, 1, (.t 14))]), oo 16 (.call 65 [(.t 12), (.t 15)]), oo 11 (mT 16), oo 17 (xT 0 11), oo 18 (xT 1 11), oo 8 (mT 17), oo 9 (mT 18)]
abbrev i22_R2 := [oo 19 (mT 9), oo 20 (.nt (.t 19))]
abbrev i22_R3 := [oo 21 (.build [zI, .nil, .nil] []), oe (sT 3 6 21), oo 7 (.mv (kI 9))]
abbrev i22_R4 := [oo 22 (lT 3 3), oo 23 (.call 14 [(.t 22)]), oo 10 (.alloc [zI, .nil, .nil]), oe (sT 3 10 23)]
abbrev i22_R5 := [oo 24 (fA 2 10), oo 25 (lF 24), oo 26 (mT 8), oo 27 (mT 8), oo 28 (bK .add 27 1), oo 29 (.call 67 [(.t 25), (.t 26), (.t 28)]), oo 30 (fA 2 10), oe (sT 1 30 29)]
abbrev i22_R6 := [oo 31 (lT 3 10), oe (sT 3 6 31), oo 7 (.mv (kI 0))]
abbrev i22_B : IC := (.seq (.reg none i22_R0) (.seq (.reg none i22_R1) (.seq (.seq (.reg none i22_R2) (.cond (.t 20) (.seq (.reg none i22_R3) .ret) .skip)) (.seq (.reg none i22_R4) (.seq (.reg none i22_R5) (.seq (.reg none i22_R6) .ret))))))
abbrev i22_V : List Nat := [0, 1, 2, 3, 6, 7, 8, 9, 10, 20]
def i22 : IFn := ⟨32, i22_V, [.cell 6 true 3, .tmp 7], i22_B⟩
theorem i22_ok : compF Try.prog i22_V Try.f22 = some i22 := by kernel_rfl
/-! funicular/funicularref22.Close -/
abbrev i23_R0 := [oo 3 (.box (.t 0)), oo 6 (.alloc [zI, .nil, .nil]), oo 7 (.mv (kI 0))]
abbrev i23_R1 := [oo 11 (lT 3 3), oo 12 (mT 1), oo 13 (mT 2), oo 14 (.call 32 [(.t 11), (.t 12), (.t 13)]), oo 8 (mT 14)]
abbrev i23_R2 := [oo 15 (mT 8), oo 16 (bK .lss 15 0)]
abbrev i23_R3 := [oo 17 (.build [zI, .nil, .nil] []), oe (sT 3 6 17), oo 7 (.mv (kI 9))]
abbrev i23_R4 := [oo 18 (fA 0 3), oo 19 (lF 18), oo 20 (fA 1 3), oo 21 (lF 20), oo 22 (.build [zI, .nil, .nil] [(0, 1, (.t 19)), (1, 1, (.t 21))]), oo 9 (.alloc [zI, .nil, .nil]), oe (sT 3 9 22)]
abbrev i23_R5 := [oo 10 (.mv (kI 0))]
abbrev i23_R6 := [oo 23 (mT 10), oo 24 (fA 2 3), oo 25 (lF 24), oo 26 (lL 25), oo 27 (bB .lss 23 26)]
abbrev i23_R7 := [oo 30 (mT 10), oo 31 (mT 8), oo 32 (bB .neq 30 31)]
abbrev i23_R8 := [oo 33 (fA 2 9), oo 34 (lF 33), oo 35 (fA 2 3), oo 36 (lF 35), oo 37 (mT 10), oo 38 (iA 6 36 37), oo 39 (lT 6 38), oo 40 (.bsl 6 [zI, zI, zI, .str ⟨#[]⟩, zI, zI] 1 [(0, (.t 39))]), oo 41 (.app 6 (.t 34) (.t 40)), oo 42 (fA 2 9), oe (sT 1 42 41)]
abbrev i23_R9 := [oo 28 (mT 10), oo 29 (bK .add 28 1), oo 10 (mT 29)]
abbrev i23_L0 : IC := (.seq (.seq (.reg none i23_R6) (.cond (.t 27) .skip (.out 0))) (.seq (.block 1 (.seq (.reg none i23_R7) (.cond (.t 32) (.reg (some [(1, 7)]) i23_R8) .skip))) (.reg none i23_R9)))
abbrev i23_R10 := [oo 43 (lT 3 9), oe (sT 3 6 43), oo 7 (.mv (kI 0))]
abbrev i23_B : IC := (.seq (.reg none i23_R0) (.seq (.reg none i23_R1) (.seq (.seq (.reg none i23_R2) (.cond (.t 16) (.seq (.reg none i23_R3) .ret) .skip)) (.seq (.reg none i23_R4) (.seq (.seq (.reg none i23_R5) (.block 0 (.loop i23_L0))) (.seq (.reg none i23_R10) .ret))))))
abbrev i23_V : List Nat := [0, 1, 2, 3, 6, 7, 8, 9, 10, 16, 27, 32]
def i23 : IFn := ⟨44, i23_V, [.cell 6 true 3, .tmp 7], i23_B⟩
theorem i23_ok : compF Try.prog i23_V Try.f23 = some i23 := by kernel_rfl
/-! funicular/post.Expire -/
abbrev i24_R0 := [oo 2 (.box (.t 0)), oo 3 (.box (.t 1)), oo 4 (.alloc [zI, .nil, .nil])]
abbrev i24_R1 := [oo 6 (lT 3 2), oo 7 (.call 14 [(.t 6)]), oo 5 (.alloc [zI, .nil, .nil]), oe (sT 3 5 7)]
abbrev i24_R2 := [oo 8 (fA 1 5), oo 9 (lF 8), oo 10 (.mkf 69 [] [(.t 3)]), oo 11 (.call 68 [(.t 9), (.t 10)]), oo 12 (fA 1 5), oe (sT 1 12 11)]
abbrev i24_R3 := [oo 13 (lT 3 5), oe (sT 3 4 13)]
abbrev i24_B : IC := (.seq (.reg none i24_R0) (.seq (.reg none i24_R1) (.seq (.reg none i24_R2) (.seq (.reg none i24_R3) .ret))))
abbrev i24_V : List Nat := [0, 1, 2, 3, 4, 5]
def i24 : IFn := ⟨14, i24_V, [.cell 4 true 3], i24_B⟩
theorem i24_ok : compF Try.prog i24_V Try.f24 = some i24 := by kernel_rfl
/-! funicular/funicularref22.Expire -/
abbrev i25_R0 := [oo 2 (.box (.t 0)), oo 4 (.alloc [zI, .nil, .nil])]
abbrev i25_R1 := [oo 7 (fA 0 2), oo 8 (lF 7), oo 9 (fA 2 2), oo 10 (lF 9), oo 11 (.build [zI, .nil, .nil] [(0, 1, (.t 8)), (2, 1, (.t 10))]), oo 5 (.alloc [zI, .nil, .nil]), oe (sT 3 5 11)]
abbrev i25_R2 := [oo 6 (.mv (kI 0))]
abbrev i25_R3 := [oo 12 (mT 6), oo 13 (fA 1 2), oo 14 (lF 13), oo 15 (lL 14), oo 16 (bB .lss 12 15)]
abbrev i25_R4 := [oo 19 (fA 1 2), oo 20 (lF 19), oo 21 (mT 6), oo 22 (iA 7 20 21), oo 23 (fA 5 22), oo 24 (lF 23), oo 25 (mT 1), oo 26 (bB .gtr 24 25)]
abbrev i25_R5 := [oo 27 (fA 1 5), oo 28 (lF 27), oo 29 (fA 1 2), oo 30 (lF 29), oo 31 (mT 6), oo 32 (iA 7 30 31), oo 33 (lT 7 32), oo 34 (.bsl 7 [zI, .str ⟨#[]⟩, zI, .imm 0 [] false, .imm 0 [] false, zI, .imm 0 [] false] 1 [(0, (.t 33))]), oo 35 (.app 7 (.t 28) (.t 34)), oo 36 (fA 1 5), oe (sT 1 36 35)]
abbrev i25_R6 := [oo 17 (mT 6), oo 18 (bK .add 17 1), oo 6 (mT 18)]
abbrev i25_L0 : IC := (.seq (.seq (.reg none i25_R3) (.cond (.t 16) .skip (.out 0))) (.seq (.block 1 (.seq (.reg none i25_R4) (.cond (.t 26) (.reg (some [(1, 7)]) i25_R5) .skip))) (.reg none i25_R6)))
abbrev i25_R7 := [oo 37 (lT 3 5), oe (sT 3 4 37)]
abbrev i25_B : IC := (.seq (.reg none i25_R0) (.seq (.reg none i25_R1) (.seq (.seq (.reg none i25_R2) (.block 0 (.loop i25_L0))) (.seq (.reg none i25_R7) .ret))))
abbrev i25_V : List Nat := [0, 1, 2, 4, 5, 6, 16, 26]
def i25 : IFn := ⟨38, i25_V, [.cell 4 true 3], i25_B⟩
theorem i25_ok : compF Try.prog i25_V Try.f25 = some i25 := by kernel_rfl
/-! funicular/post.Read -/
abbrev i26_R0 := [oo 2 (.alloc [zI, .nil, .nil]), oo 3 (.mv (.c (.nil))), oo 4 (.mv (kI 0))]
abbrev i26_R1 := [oo 11 (mT 0), oo 12 (.build [.nil, zI] [(0, 1, (.t 11))]), oo 13 (.box (.t 12)), oo 5 (mT 13)]
abbrev i26_R2 := [oo 14 (mT 5), oo 15 (.call 70 [(.t 14)]), oo 16 (.build [zI, .nil, .nil] [(0, 1, (.t 15))]), oo 6 (.alloc [zI, .nil, .nil]), oe (sT 3 6 16)]
abbrev i26_R3 := [oo 17 (mT 5), oo 18 (.call 70 [(.t 17)]), oo 7 (mT 18)]
abbrev i26_R4 := [oo 19 (mT 7), oo 20 (bK .gtr 19 0), oo 21 (mT 20), og 22 21 true (mT 5), og 23 21 true (nT 22), og 24 21 true (fA 1 23), og 25 21 true (lF 24), og 26 21 true (bK .eql 25 0), oo 27 (.pick (.t 21) (.t 26) kF)]
abbrev i26_R5 := [oo 30 (mT 5), oo 31 (.call 70 [(.t 30)]), oo 32 (mT 5), oo 33 (.call 71 [(.t 32)]), oo 34 (mT 5), oo 35 (.call 72 [(.t 34)]), oo 36 (mT 5), oo 37 (.call 73 [(.t 36)]), oo 38 (mT 5), oo 39 (.call 70 [(.t 38)]), oo 40 (.build [zI, .str ⟨#[]⟩, zI, .nil, .nil, zI, .nil] [(0, 1, (.t 31)), (1, 1, (.t 33)), (2, 1, (.t 35)), (3, 2, (.t 37)), (5, 1, (.t 39))]), oo 8 (.alloc [zI, .str ⟨#[]⟩, zI, .nil, .nil, zI, .nil]), oe (sT 7 8 40)]
abbrev i26_R6 := [oo 41 (mT 5), oo 42 (.call 70 [(.t 41)]), oo 9 (mT 42)]
abbrev i26_R7 := [oo 43 (mT 9), oo 44 (bK .gtr 43 0), oo 45 (mT 44), og 46 45 true (mT 5), og 47 45 true (nT 46), og 48 45 true (fA 1 47), og 49 45 true (lF 48), og 50 45 true (bK .eql 49 0), oo 51 (.pick (.t 45) (.t 50) kF)]
abbrev i26_R8 := [oo 54 (fA 6 8), oo 55 (lF 54), oo 56 (mT 5), oo 57 (.call 70 [(.t 56)]), oo 58 (mT 5), oo 59 (.call 70 [(.t 58)]), oo 60 (.build [zI, zI] [(0, 1, (.t 57)), (1, 1, (.t 59))]), oo 61 (.bsl 2 [zI, zI] 1 [(0, (.t 60))]), oo 62 (.app 2 (.t 55) (.t 61)), oo 63 (fA 6 8), oe (sT 1 63 62)]
abbrev i26_R9 := [oo 52 (mT 9), oo 53 (bK .sub 52 1), oo 9 (mT 53)]
abbrev i26_L0 : IC := (.seq (.seq (.reg none i26_R7) (.cond (.t 51) .skip (.out 2))) (.seq (.block 3 (.reg (some [(1, 3), (1, 5), (1, 7)]) i26_R8)) (.reg none i26_R9)))
abbrev i26_R10 := [oo 64 (fA 1 6), oo 65 (lF 64), oo 66 (lT 7 8), oo 67 (.bsl 7 [zI, .str ⟨#[]⟩, zI, .imm 0 [] false, .imm 0 [] false, zI, .imm 0 [] false] 1 [(0, (.t 66))]), oo 68 (.app 7 (.t 65) (.t 67)), oo 69 (fA 1 6), oe (sT 1 69 68)]
abbrev i26_R11 := [oo 28 (mT 7), oo 29 (bK .sub 28 1), oo 7 (mT 29)]
abbrev i26_L1 : IC := (.seq (.seq (.reg none i26_R4) (.cond (.t 27) .skip (.out 0))) (.seq (.block 1 (.seq (.reg none i26_R5) (.seq (.seq (.reg none i26_R6) (.block 2 (.loop i26_L0))) (.reg none i26_R10)))) (.reg none i26_R11)))
abbrev i26_R12 := [oo 70 (mT 5), oo 71 (.call 70 [(.t 70)]), oo 10 (mT 71)]
abbrev i26_R13 := [oo 72 (mT 10), oo 73 (bK .gtr 72 0), oo 74 (mT 73), og 75 74 true (mT 5), og 76 74 true (nT 75), og 77 74 true (fA 1 76), og 78 74 true (lF 77), og 79 74 true (bK .eql 78 0), oo 80 (.pick (.t 74) (.t 79) kF)]
abbrev i26_R14 := [oo 83 (fA 2 6), oo 84 (lF 83), oo 85 (mT 5), oo 86 (.call 70 [(.t 85)]), oo 87 (mT 5), oo 88 (.call 70 [(.t 87)]), oo 89 (mT 5), oo 90 (.call 70 [(.t 89)]), oo 91 (mT 5), oo 92 (.call 71 [(.t 91)]), oo 93 (mT 5), oo 94 (.call 72 [(.t 93)]), oo 95 (mT 5), oo 96 (.call 70 [(.t 95)]), oo 97 (.build [zI, zI, zI, .str ⟨#[]⟩, zI, zI] [(0, 1, (.t 86)), (1, 1, (.t 88)), (2, 1, (.t 90)), (3, 1, (.t 92)), (4, 1, (.t 94)), (5, 1, (.t 96))]), oo 98 (.bsl 6 [zI, zI, zI, .str ⟨#[]⟩, zI, zI] 1 [(0, (.t 97))]), oo 99 (.app 6 (.t 84) (.t 98)), oo 100 (fA 2 6), oe (sT 1 100 99)]
abbrev i26_R15 := [oo 81 (mT 10), oo 82 (bK .sub 81 1), oo 10 (mT 82)]
abbrev i26_L2 : IC := (.seq (.seq (.reg none i26_R13) (.cond (.t 80) .skip (.out 4))) (.seq (.block 5 (.reg (some [(1, 3), (1, 5), (1, 7), (1, 9), (1, 11), (1, 13), (1, 15)]) i26_R14)) (.reg none i26_R15)))
abbrev i26_R16 := [oo 101 (mT 5), oo 102 (nT 101), oo 103 (fA 1 102), oo 104 (lF 103), oo 105 (bK .eql 104 0)]
abbrev i26_R17 := [oo 106 (mT 5), oo 107 (lT 3 6), oo 108 (.call 10 [(.t 107)]), oo 109 (nT 106), oo 110 (fA 1 109), oe (sT 1 110 108)]
abbrev i26_R18 := [oo 111 (mT 5), oo 112 (nT 111), oo 113 (fA 1 112), oo 114 (lF 113), oo 115 (bK .neq 114 0)]
abbrev i26_R19 := [oo 116 (.build [zI, .nil, .nil] []), oo 117 (mT 5), oo 118 (nT 117), oo 119 (fA 1 118), oo 120 (lF 119), oe (sT 3 2 116), oo 3 (.mv (.c (.nil))), oo 4 (mT 120)]
abbrev i26_R20 := [oo 121 (lT 3 6), oo 122 (mT 5), oo 123 (nT 122), oo 124 (fA 0 123), oo 125 (lF 124), oe (sT 3 2 121), oo 3 (mT 125), oo 4 (.mv (kI 0))]
abbrev i26_B : IC := (.seq (.reg none i26_R0) (.seq (.reg none i26_R1) (.seq (.reg none i26_R2) (.seq (.seq (.reg none i26_R3) (.block 0 (.loop i26_L1))) (.seq (.seq (.reg none i26_R12) (.block 4 (.loop i26_L2))) (.seq (.seq (.reg none i26_R16) (.cond (.t 105) (.reg none i26_R17) .skip)) (.seq (.seq (.reg none i26_R18) (.cond (.t 115) (.seq (.reg (some [(4, 5)]) i26_R19) .ret) .skip)) (.seq (.reg (some [(4, 5)]) i26_R20) .ret))))))))
abbrev i26_V : List Nat := [0, 2, 3, 4, 5, 6, 7, 8, 9, 10, 27, 51, 80, 105, 115]
def i26 : IFn := ⟨126, i26_V, [.cell 2 true 3, .tmp 3, .tmp 4], i26_B⟩
theorem i26_ok : compF Try.prog i26_V Try.f26 = some i26 := by kernel_rfl
/-! funicular/post.Put -/
abbrev i27_R0 := [oo 3 (.box (.t 1)), oo 4 (.mv (.c (.nil)))]
abbrev i27_R1 := [oo 11 (mT 0), oo 12 (fA 0 3), oo 13 (lF 12), oo 14 (fA 1 3), oo 15 (lF 14), oo 16 (lL 15), oo 17 (.bsl 1 [zI] 2 [(0, (.t 13)), (1, (.t 16))]), oo 18 (.call 74 [(.t 11), (.t 17)]), oo 0 (mT 18)]
abbrev i27_R2 := [oo 19 (fA 1 3), oo 20 (lF 19), oo 21 (lL 20), oo 22 (.mv (kI 0))]
abbrev i27_R3 := [oo 23 (bB .lss 22 21)]
abbrev i27_R4 := [oo 24 (iA 7 20 22), oo 25 (lT 7 24), oo 6 (.alloc [zI, .str ⟨#[]⟩, zI, .nil, .nil, zI, .nil]), oe (sT 7 6 25)]
abbrev i27_R5 := [oo 26 (mT 0), oo 27 (fA 0 6), oo 28 (lF 27), oo 29 (.bsl 1 [zI] 1 [(0, (.t 28))]), oo 30 (.call 74 [(.t 26), (.t 29)]), oo 31 (fA 1 6), oo 32 (lF 31), oo 33 (.s2b (.t 32)), oo 34 (.call 75 [(.t 30), (.t 33)]), oo 0 (mT 34)]
abbrev i27_R6 := [oo 35 (mT 0), oo 36 (fA 2 6), oo 37 (lF 36), oo 38 (.call 77 [(.t 35), (.t 37)]), oo 39 (fA 3 6), oo 40 (lT 2 39), oo 41 (.call 76 [(.t 38), (.t 40)]), oo 0 (mT 41)]
abbrev i27_R7 := [oo 42 (mT 0), oo 43 (fA 5 6), oo 44 (lF 43), oo 45 (fA 6 6), oo 46 (lF 45), oo 47 (lL 46), oo 48 (.bsl 1 [zI] 2 [(0, (.t 44)), (1, (.t 47))]), oo 49 (.call 74 [(.t 42), (.t 48)]), oo 0 (mT 49)]
abbrev i27_R8 := [oo 50 (fA 6 6), oo 51 (lF 50), oo 52 (lL 51), oo 53 (.mv (kI 0))]
abbrev i27_R9 := [oo 54 (bB .lss 53 52)]
abbrev i27_R10 := [oo 55 (iA 2 51 53), oo 56 (lT 2 55), oo 8 (.alloc [zI, zI]), oe (sT 2 8 56)]
abbrev i27_R11 := [oo 57 (mT 0), oo 58 (fA 0 8), oo 59 (lF 58), oo 60 (fA 1 8), oo 61 (lF 60), oo 62 (.bsl 1 [zI] 2 [(0, (.t 59)), (1, (.t 61))]), oo 63 (.call 74 [(.t 57), (.t 62)]), oo 0 (mT 63)]
abbrev i27_R12 := [oo 64 (bK .add 53 1), oo 53 (mT 64)]
abbrev i27_L0 : IC := (.seq (.reg none i27_R9) (.seq (.cond (.t 54) .skip (.out 2)) (.seq (.block 3 (.seq (.reg none i27_R10) (.reg none i27_R11))) (.reg none i27_R12))))
abbrev i27_R13 := [oo 65 (bK .add 22 1), oo 22 (mT 65)]
abbrev i27_L1 : IC := (.seq (.reg none i27_R3) (.seq (.cond (.t 23) .skip (.out 0)) (.seq (.block 1 (.seq (.reg none i27_R4) (.seq (.reg (some [(3, 6), (4, 6), (2, 7), (3, 7), (4, 7)]) i27_R5) (.seq (.reg (some [(3, 5)]) i27_R6) (.seq (.reg none i27_R7) (.seq (.reg none i27_R8) (.block 2 (.loop i27_L0)))))))) (.reg none i27_R13))))
abbrev i27_R14 := [oo 66 (mT 0), oo 67 (fA 2 3), oo 68 (lF 67), oo 69 (lL 68), oo 70 (.bsl 1 [zI] 1 [(0, (.t 69))]), oo 71 (.call 74 [(.t 66), (.t 70)]), oo 0 (mT 71)]
abbrev i27_R15 := [oo 72 (fA 2 3), oo 73 (lF 72), oo 74 (lL 73), oo 75 (.mv (kI 0))]
abbrev i27_R16 := [oo 76 (bB .lss 75 74)]
abbrev i27_R17 := [oo 77 (iA 6 73 75), oo 78 (lT 6 77), oo 10 (.alloc [zI, zI, zI, .str ⟨#[]⟩, zI, zI]), oe (sT 6 10 78)]
abbrev i27_R18 := [oo 79 (mT 0), oo 80 (fA 0 10), oo 81 (lF 80), oo 82 (fA 1 10), oo 83 (lF 82), oo 84 (fA 2 10), oo 85 (lF 84), oo 86 (.bsl 1 [zI] 3 [(0, (.t 81)), (1, (.t 83)), (2, (.t 85))]), oo 87 (.call 74 [(.t 79), (.t 86)]), oo 88 (fA 3 10), oo 89 (lF 88), oo 90 (.s2b (.t 89)), oo 91 (.call 75 [(.t 87), (.t 90)]), oo 0 (mT 91)]
abbrev i27_R19 := [oo 92 (mT 0), oo 93 (fA 4 10), oo 94 (lF 93), oo 95 (.call 77 [(.t 92), (.t 94)]), oo 96 (fA 5 10), oo 97 (lF 96), oo 98 (.bsl 1 [zI] 1 [(0, (.t 97))]), oo 99 (.call 74 [(.t 95), (.t 98)]), oo 0 (mT 99)]
abbrev i27_R20 := [oo 100 (bK .add 75 1), oo 75 (mT 100)]
abbrev i27_L2 : IC := (.seq (.reg none i27_R16) (.seq (.cond (.t 76) .skip (.out 4)) (.seq (.block 5 (.seq (.reg none i27_R17) (.seq (.reg (some [(7, 10), (8, 10), (2, 11), (4, 11), (6, 11), (7, 11), (8, 11)]) i27_R18) (.reg (some [(3, 5), (2, 6), (3, 6)]) i27_R19)))) (.reg none i27_R20))))
abbrev i27_R21 := [oo 101 (mT 0), oo 4 (mT 101)]
abbrev i27_B : IC := (.seq (.reg none i27_R0) (.seq (.reg none i27_R1) (.seq (.seq (.reg none i27_R2) (.block 0 (.loop i27_L1))) (.seq (.reg none i27_R14) (.seq (.seq (.reg none i27_R15) (.block 4 (.loop i27_L2))) (.seq (.reg none i27_R21) .ret))))))
abbrev i27_V : List Nat := [0, 1, 3, 4, 6, 8, 10, 20, 21, 22, 23, 51, 52, 53, 54, 73, 74, 75, 76]
def i27 : IFn := ⟨102, i27_V, [.tmp 4], i27_B⟩
theorem i27_ok : compF Try.prog i27_V Try.f27 = some i27 := by kernel_rfl
/-! funicular/post.New -/
abbrev i30_R0 := [oo 0 (.alloc [zI, .nil, .nil])]
abbrev i30_R1 := [oo 1 (.build [zI, .nil, .nil] [(0, 1, (kI 1))]), oe (sT 3 0 1)]
abbrev i30_B : IC := (.seq (.reg none i30_R0) (.seq (.reg none i30_R1) .ret))
abbrev i30_V : List Nat := [0]
def i30 : IFn := ⟨2, i30_V, [.cell 0 true 3], i30_B⟩
theorem i30_ok : compF Try.prog i30_V Try.f30 = some i30 := by kernel_rfl
/-! funicular/funicularref22.Find -/
abbrev i32_R0 := [oo 3 (.box (.t 0)), oo 6 (.mv (kI 0))]
abbrev i32_R1 := [oo 7 (.mv (kI 0))]
abbrev i32_R2 := [oo 8 (mT 7), oo 9 (fA 2 3), oo 10 (lF 9), oo 11 (lL 10), oo 12 (bB .lss 8 11)]
abbrev i32_R3 := [oo 15 (fA 2 3), oo 16 (lF 15), oo 17 (mT 7), oo 18 (iA 6 16 17), oo 19 (fA 0 18), oo 20 (lF 19), oo 21 (mT 1), oo 22 (bB .eql 20 21), oo 23 (mT 22), og 24 23 true (fA 2 3), og 25 23 true (lF 24), og 26 23 true (mT 7), og 27 23 true (iA 6 25 26), og 28 23 true (fA 1 27), og 29 23 true (lF 28), og 30 23 true (mT 2), og 31 23 true (bB .eql 29 30), oo 32 (.pick (.t 23) (.t 31) kF)]
abbrev i32_R4 := [oo 33 (mT 7), oo 6 (mT 33)]
abbrev i32_R5 := [oo 13 (mT 7), oo 14 (bK .add 13 1), oo 7 (mT 14)]
abbrev i32_L0 : IC := (.seq (.seq (.reg none i32_R2) (.cond (.t 12) .skip (.out 0))) (.seq (.block 1 (.seq (.reg none i32_R3) (.cond (.t 32) (.seq (.reg none i32_R4) .ret) .skip))) (.reg none i32_R5)))
abbrev i32_R6 := [oo 6 (.mv (kI (-1)))]
abbrev i32_B : IC := (.seq (.reg none i32_R0) (.seq (.seq (.reg none i32_R1) (.block 0 (.loop i32_L0))) (.seq (.reg none i32_R6) .ret)))
abbrev i32_V : List Nat := [0, 1, 2, 3, 6, 7, 12, 32]
def i32 : IFn := ⟨34, i32_V, [.tmp 6], i32_B⟩
theorem i32_ok : compF Try.prog i32_V Try.f32 = some i32 := by kernel_rfl
/-! funicular/funicularref22.Weight -/
abbrev i33_R0 := [oo 2 (.box (.t 0)), oo 4 (.mv (kI 0))]
abbrev i33_R1 := [oo 10 (fA 2 2), oo 11 (lF 10), oo 12 (lL 11), oo 5 (mT 12)]
abbrev i33_R2 := [oo 6 (.mv (kI 0))]
abbrev i33_R3 := [oo 13 (mT 6), oo 14 (fA 2 2), oo 15 (lF 14), oo 16 (lL 15), oo 17 (bB .lss 13 16), oo 18 (mT 17), og 19 18 true (mT 5), og 20 18 true (mT 1), og 21 18 true (bB .leq 19 20), oo 22 (.pick (.t 18) (.t 21) kF)]
abbrev i33_R4 := [oo 25 (mT 5), oo 26 (fA 2 2), oo 27 (lF 26), oo 28 (mT 6), oo 29 (iA 6 27 28), oo 30 (fA 3 29), oo 31 (lF 30), oo 32 (.lens (.t 31)), oo 33 (bK .quo 32 40), oo 34 (bB .add 25 33), oo 5 (mT 34)]
abbrev i33_R5 := [oo 23 (mT 6), oo 24 (bK .add 23 1), oo 6 (mT 24)]
abbrev i33_L0 : IC := (.seq (.seq (.reg none i33_R3) (.cond (.t 22) .skip (.out 0))) (.seq (.block 1 (.reg none i33_R4)) (.reg none i33_R5)))
abbrev i33_R6 := [oo 7 (.mv (kI 0))]
abbrev i33_R7 := [oo 35 (mT 7), oo 36 (fA 1 2), oo 37 (lF 36), oo 38 (lL 37), oo 39 (bB .lss 35 38), oo 40 (mT 39), og 41 40 true (mT 5), og 42 40 true (mT 1), og 43 40 true (bB .leq 41 42), oo 44 (.pick (.t 40) (.t 43) kF)]
abbrev i33_R8 := [oo 47 (fA 1 2), oo 48 (lF 47), oo 49 (mT 7), oo 50 (iA 7 48 49), oo 51 (lT 7 50), oo 8 (.alloc [zI, .str ⟨#[]⟩, zI, .nil, .nil, zI, .nil]), oe (sT 7 8 51)]
abbrev i33_R9 := [oo 52 (mT 5), oo 53 (bK .add 52 1), oo 54 (fA 1 8), oo 55 (lF 54), oo 56 (.lens (.t 55)), oo 57 (bK .quo 56 40), oo 58 (bB .add 53 57), oo 59 (fA 6 8), oo 60 (lF 59), oo 61 (lL 60), oo 62 (bB .add 58 61), oo 63 (fA 3 8), oo 64 (fA 0 63), oo 65 (lF 64), oo 66 (lL 65), oo 67 (bB .add 62 66), oo 68 (fA 3 8), oo 69 (fA 1 68), oo 70 (lF 69), oo 71 (lL 70), oo 72 (bB .add 67 71), oo 5 (mT 72)]
abbrev i33_R10 := [oo 9 (.mv (kI 0))]
abbrev i33_R11 := [oo 73 (mT 9), oo 74 (fA 3 8), oo 75 (fA 0 74), oo 76 (lF 75), oo 77 (lL 76), oo 78 (bB .lss 73 77), oo 79 (mT 78), og 80 79 true (mT 5), og 81 79 true (mT 1), og 82 79 true (bB .leq 80 81), oo 83 (.pick (.t 79) (.t 82) kF)]
abbrev i33_R12 := [oo 86 (mT 5), oo 87 (fA 3 8), oo 88 (fA 0 87), oo 89 (lF 88), oo 90 (mT 9), oo 91 (iA 1 89 90), oo 92 (lF 91), oo 93 (.lens (.t 92)), oo 94 (bK .quo 93 40), oo 95 (bB .add 86 94), oo 5 (mT 95)]
abbrev i33_R13 := [oo 84 (mT 9), oo 85 (bK .add 84 1), oo 9 (mT 85)]
abbrev i33_L1 : IC := (.seq (.seq (.reg none i33_R11) (.cond (.t 83) .skip (.out 4))) (.seq (.block 5 (.reg none i33_R12)) (.reg none i33_R13)))
abbrev i33_R14 := [oo 45 (mT 7), oo 46 (bK .add 45 1), oo 7 (mT 46)]
abbrev i33_L2 : IC := (.seq (.seq (.reg none i33_R7) (.cond (.t 44) .skip (.out 2))) (.seq (.block 3 (.seq (.reg none i33_R8) (.seq (.reg none i33_R9) (.seq (.reg none i33_R10) (.block 4 (.loop i33_L1)))))) (.reg none i33_R14)))
abbrev i33_R15 := [oo 96 (mT 5), oo 4 (mT 96)]
abbrev i33_B : IC := (.seq (.reg none i33_R0) (.seq (.reg none i33_R1) (.seq (.seq (.reg none i33_R2) (.block 0 (.loop i33_L0))) (.seq (.seq (.reg none i33_R6) (.block 2 (.loop i33_L2))) (.seq (.reg none i33_R15) .ret)))))
abbrev i33_V : List Nat := [0, 1, 2, 4, 5, 6, 7, 8, 9, 22, 44, 83]
def i33 : IFn := ⟨97, i33_V, [.tmp 4], i33_B⟩
theorem i33_ok : compF Try.prog i33_V Try.f33 = some i33 := by kernel_rfl
/-! funicular/funicularref09.One -/
abbrev i34_R0 := [oo 4 (.alloc [.nil, .nil])]
abbrev i34_R1 := [oo 5 (mT 0), oo 6 (.bsl 1 [.str ⟨#[]⟩] 1 [(0, (.t 5))]), oo 7 (mT 1), oo 8 (.bsl 1 [zI] 1 [(0, (.t 7))]), oo 9 (.build [.nil, .nil] [(0, 1, (.t 6)), (1, 1, (.t 8))]), oe (sT 2 4 9)]
abbrev i34_B : IC := (.seq (.reg none i34_R0) (.seq (.reg none i34_R1) .ret))
abbrev i34_V : List Nat := [0, 1, 4]
def i34 : IFn := ⟨10, i34_V, [.cell 4 true 2], i34_B⟩
theorem i34_ok : compF Try.prog i34_V Try.f34 = some i34 := by kernel_rfl
/-! funicular/post.wide -/
abbrev i35_R0 := [oo 2 (.mv kF)]
abbrev i35_R1 := [oo 3 (mT 0), oo 4 (bK .geq 3 1), oo 5 (mT 4), og 6 5 true (mT 0), og 7 5 true (bK .leq 6 1099511627776), oo 8 (.pick (.t 5) (.t 7) kF), oo 2 (mT 8)]
abbrev i35_B : IC := (.seq (.reg none i35_R0) (.seq (.reg none i35_R1) .ret))
abbrev i35_V : List Nat := [0, 2]
def i35 : IFn := ⟨9, i35_V, [.tmp 2], i35_B⟩
theorem i35_ok : compF Try.prog i35_V Try.f35 = some i35 := by kernel_rfl
/-! funicular/post.mail -/
abbrev i36_R0 := [oo 1 (.box (.t 0)), oo 2 (.mv (kI 0))]
abbrev i36_R1 := [oo 6 (fA 0 1), oo 7 (lF 6), oo 8 (.call 35 [(.t 7)]), oo 9 (.nt (.t 8)), oo 10 (mT 9), og 11 10 false (fA 1 1), og 12 10 false (lF 11), og 13 10 false (.call 55 [(.t 12)]), og 14 10 false (.nt (.t 13)), oo 15 (.pick (.t 10) kT (.t 14)), oo 16 (mT 15), og 17 16 false (fA 5 1), og 18 16 false (lF 17), og 19 16 false (bK .lss 18 0), oo 20 (.pick (.t 16) kT (.t 19)), oo 21 (mT 20), og 22 21 false (fA 5 1), og 23 21 false (lF 22), og 24 21 false (bK .gtr 23 1099511627776), oo 25 (.pick (.t 21) kT (.t 24))]
abbrev i36_R2 := [oo 2 (.mv (kI 1))]
abbrev i36_R3 := [oo 26 (fA 3 1), oo 27 (lT 2 26), oo 28 (.call 56 [(.t 27)]), oo 3 (mT 28)]
abbrev i36_R4 := [oo 29 (mT 3), oo 30 (bK .neq 29 0)]
abbrev i36_R5 := [oo 31 (mT 3), oo 2 (mT 31)]
abbrev i36_R6 := [oo 32 (fA 6 1), oo 33 (lF 32), oo 34 (lL 33), oo 35 (.mv (kI 0))]
abbrev i36_R7 := [oo 36 (bB .lss 35 34)]
abbrev i36_R8 := [oo 37 (mT 35), oo 38 (iA 2 33 35), oo 39 (lT 2 38), oo 5 (.alloc [zI, zI]), oo 4 (mT 37), oe (sT 2 5 39)]
abbrev i36_R9 := [oo 40 (fA 0 5), oo 41 (lF 40), oo 42 (.call 78 [(.t 41)]), oo 43 (.nt (.t 42)), oo 44 (mT 43), og 45 44 false (fA 1 5), og 46 44 false (lF 45), og 47 44 false (.call 35 [(.t 46)]), og 48 44 false (.nt (.t 47)), oo 49 (.pick (.t 44) kT (.t 48)), oo 50 (mT 49), og 51 50 false (fA 6 1), og 52 50 false (lF 51), og 53 50 false (mT 4), og 54 50 false (.sll 2 (.t 52) none (some (.t 53)) none), og 55 50 false (lT 2 5), og 56 50 false (.call 79 [(.t 54), (.t 55)]), oo 57 (.pick (.t 50) kT (.t 56))]
abbrev i36_R10 := [oo 2 (.mv (kI 1))]
abbrev i36_R11 := [oo 58 (bK .add 35 1), oo 35 (mT 58)]
abbrev i36_L0 : IC := (.seq (.reg none i36_R7) (.seq (.cond (.t 36) .skip (.out 0)) (.seq (.block 1 (.seq (.reg none i36_R8) (.seq (.reg (some []) i36_R9) (.cond (.t 57) (.seq (.reg none i36_R10) .ret) .skip)))) (.reg none i36_R11))))
abbrev i36_R12 := [oo 2 (.mv (kI 0))]
abbrev i36_B : IC := (.seq (.reg none i36_R0) (.seq (.seq (.reg none i36_R1) (.cond (.t 25) (.seq (.reg none i36_R2) .ret) .skip)) (.seq (.seq (.reg none i36_R3) (.seq (.reg none i36_R4) (.cond (.t 30) (.seq (.reg none i36_R5) .ret) .skip))) (.seq (.seq (.reg none i36_R6) (.block 0 (.loop i36_L0))) (.seq (.reg none i36_R12) .ret)))))
abbrev i36_V : List Nat := [0, 1, 2, 3, 4, 5, 25, 30, 33, 34, 35, 36, 57]
def i36 : IFn := ⟨59, i36_V, [.tmp 2], i36_B⟩
theorem i36_ok : compF Try.prog i36_V Try.f36 = some i36 := by kernel_rfl
/-! funicular/post.sub -/
abbrev i37_R0 := [oo 1 (.box (.t 0)), oo 2 (.mv kF)]
abbrev i37_R1 := [oo 3 (fA 0 1), oo 4 (lF 3), oo 5 (.call 78 [(.t 4)]), oo 6 (mT 5), og 7 6 true (fA 1 1), og 8 6 true (lF 7), og 9 6 true (.call 35 [(.t 8)]), oo 10 (.pick (.t 6) (.t 9) kF), oo 11 (mT 10), og 12 11 true (fA 2 1), og 13 11 true (lF 12), og 14 11 true (.call 35 [(.t 13)]), oo 15 (.pick (.t 11) (.t 14) kF), oo 16 (mT 15), og 17 16 true (fA 3 1), og 18 16 true (lF 17), og 19 16 true (.call 55 [(.t 18)]), oo 20 (.pick (.t 16) (.t 19) kF), oo 21 (mT 20), og 22 21 true (fA 5 1), og 23 21 true (lF 22), og 24 21 true (bK .geq 23 0), oo 25 (.pick (.t 21) (.t 24) kF), oo 26 (mT 25), og 27 26 true (fA 5 1), og 28 26 true (lF 27), og 29 26 true (bK .leq 28 1099511627776), oo 30 (.pick (.t 26) (.t 29) kF), oo 2 (mT 30)]
abbrev i37_B : IC := (.seq (.reg none i37_R0) (.seq (.reg none i37_R1) .ret))
abbrev i37_V : List Nat := [0, 1, 2]
def i37 : IFn := ⟨31, i37_V, [.tmp 2], i37_B⟩
theorem i37_ok : compF Try.prog i37_V Try.f37 = some i37 := by kernel_rfl
/-! funicular/post.of -/
abbrev i38_R0 := [oo 1 (.box (.t 0)), oo 2 (.alloc [zI, zI])]
abbrev i38_R1 := [oo 3 (fA 0 1), oo 4 (lF 3), oo 5 (fA 1 1), oo 6 (lF 5), oo 7 (.build [zI, zI] [(0, 1, (.t 4)), (1, 1, (.t 6))]), oe (sT 2 2 7)]
abbrev i38_B : IC := (.seq (.reg none i38_R0) (.seq (.reg none i38_R1) .ret))
abbrev i38_V : List Nat := [0, 1, 2]
def i38 : IFn := ⟨8, i38_V, [.cell 2 true 2], i38_B⟩
theorem i38_ok : compF Try.prog i38_V Try.f38 = some i38 := by kernel_rfl
/-! (funicular/post.key).order -/
abbrev i39_R0 := [oo 2 (.box (.t 0)), oo 3 (.box (.t 1)), oo 4 (.mv (kI 0))]
abbrev i39_R1 := [oo 6 (lT 2 2), oo 7 (lT 2 3), oo 8 (.eqc false [(0, 1), (1, 1)] (.t 6) (.t 7)), oo 5 (mT 8)]
abbrev i39_R2 := [oo 4 (.mv (kI 0))]
abbrev i39_R3 := [oo 10 (fA 0 2), oo 11 (lF 10), oo 12 (fA 0 3), oo 13 (lF 12), oo 14 (bB .lss 11 13), oo 15 (mT 14), og 16 15 false (fA 0 2), og 17 15 false (lF 16), og 18 15 false (fA 0 3), og 19 15 false (lF 18), og 20 15 false (bB .eql 17 19), og 21 15 false (mT 20), og 22 21 true (fA 1 2), og 23 21 true (lF 22), og 24 21 true (fA 1 3), og 25 21 true (lF 24), og 26 21 true (bB .lss 23 25), og 27 15 false (.pick (.t 21) (.t 26) kF), oo 28 (.pick (.t 15) kT (.t 27)), oo 9 (mT 28)]
abbrev i39_R4 := [oo 4 (.mv (kI (-1)))]
abbrev i39_R5 := [oo 4 (.mv (kI 1))]
abbrev i39_B : IC := (.seq (.reg none i39_R0) (.seq (.block 0 (.seq (.reg none i39_R1) (.cond (.t 5) (.seq (.reg none i39_R2) .ret) (.seq (.reg none i39_R3) (.cond (.t 9) (.seq (.reg none i39_R4) .ret) .skip))))) (.seq (.reg none i39_R5) .ret)))
abbrev i39_V : List Nat := [0, 1, 2, 3, 4, 5, 9]
def i39 : IFn := ⟨29, i39_V, [.tmp 4], i39_B⟩
theorem i39_ok : compF Try.prog i39_V Try.f39 = some i39 := by kernel_rfl
/-! funicular/funicularref22.in -/
abbrev i40_R0 := [oo 6 (.mv kF)]
abbrev i40_R1 := [oo 7 (mT 0), oo 8 (mT 1), oo 9 (bB .geq 7 8), oo 10 (mT 9), og 11 10 true (mT 0), og 12 10 true (mT 2), og 13 10 true (bB .leq 11 12), oo 14 (.pick (.t 10) (.t 13) kF), oo 6 (mT 14)]
abbrev i40_B : IC := (.seq (.reg none i40_R0) (.seq (.reg none i40_R1) .ret))
abbrev i40_V : List Nat := [0, 1, 2, 6]
def i40 : IFn := ⟨15, i40_V, [.tmp 6], i40_B⟩
theorem i40_ok : compF Try.prog i40_V Try.f40 = some i40 := by kernel_rfl
/-! funicular/funicularref22.Mail -/
abbrev i41_R0 := [oo 1 (.box (.t 0)), oo 2 (.mv (kI 0))]
abbrev i41_R1 := [oo 6 (fA 0 1), oo 7 (lF 6), oo 8 (.call 40 [(.t 7), (kI 1), (kI 1099511627776)]), oo 9 (.nt (.t 8)), oo 10 (mT 9), og 11 10 false (fA 1 1), og 12 10 false (lF 11), og 13 10 false (.call 59 [(.t 12)]), og 14 10 false (.nt (.t 13)), oo 15 (.pick (.t 10) kT (.t 14)), oo 16 (mT 15), og 17 16 false (fA 5 1), og 18 16 false (lF 17), og 19 16 false (.call 40 [(.t 18), (kI 0), (kI 1099511627776)]), og 20 16 false (.nt (.t 19)), oo 21 (.pick (.t 16) kT (.t 20))]
abbrev i41_R2 := [oo 2 (.mv (kI 1))]
abbrev i41_R3 := [oo 22 (fA 3 1), oo 23 (lT 2 22), oo 24 (.call 60 [(.t 23)]), oo 3 (mT 24)]
abbrev i41_R4 := [oo 25 (mT 3), oo 26 (bK .neq 25 0)]
abbrev i41_R5 := [oo 27 (mT 3), oo 2 (mT 27)]
abbrev i41_R6 := [oo 4 (.mv (kI 0))]
abbrev i41_R7 := [oo 28 (mT 4), oo 29 (fA 6 1), oo 30 (lF 29), oo 31 (lL 30), oo 32 (bB .lss 28 31)]
abbrev i41_R8 := [oo 35 (fA 6 1), oo 36 (lF 35), oo 37 (mT 4), oo 38 (iA 2 36 37), oo 39 (lT 2 38), oo 5 (.alloc [zI, zI]), oe (sT 2 5 39)]
abbrev i41_R9 := [oo 40 (fA 0 5), oo 41 (lF 40), oo 42 (.call 40 [(.t 41), (kI 0), (kI 63)]), oo 43 (.nt (.t 42)), oo 44 (mT 43), og 45 44 false (fA 1 5), og 46 44 false (lF 45), og 47 44 false (.call 40 [(.t 46), (kI 1), (kI 1099511627776)]), og 48 44 false (.nt (.t 47)), oo 49 (.pick (.t 44) kT (.t 48)), oo 50 (mT 49), og 51 50 false (fA 6 1), og 52 50 false (lF 51), og 53 50 false (mT 4), og 54 50 false (.sll 2 (.t 52) none (some (.t 53)) none), og 55 50 false (fA 0 5), og 56 50 false (lF 55), og 57 50 false (fA 1 5), og 58 50 false (lF 57), og 59 50 false (.call 80 [(.t 54), (.t 56), (.t 58)]), oo 60 (.pick (.t 50) kT (.t 59))]
abbrev i41_R10 := [oo 2 (.mv (kI 1))]
abbrev i41_R11 := [oo 33 (mT 4), oo 34 (bK .add 33 1), oo 4 (mT 34)]
abbrev i41_L0 : IC := (.seq (.seq (.reg none i41_R7) (.cond (.t 32) .skip (.out 0))) (.seq (.block 1 (.seq (.reg none i41_R8) (.seq (.reg (some []) i41_R9) (.cond (.t 60) (.seq (.reg none i41_R10) .ret) .skip)))) (.reg none i41_R11)))
abbrev i41_R12 := [oo 2 (.mv (kI 0))]
abbrev i41_B : IC := (.seq (.reg none i41_R0) (.seq (.seq (.reg none i41_R1) (.cond (.t 21) (.seq (.reg none i41_R2) .ret) .skip)) (.seq (.seq (.reg none i41_R3) (.seq (.reg none i41_R4) (.cond (.t 26) (.seq (.reg none i41_R5) .ret) .skip))) (.seq (.seq (.reg none i41_R6) (.block 0 (.loop i41_L0))) (.seq (.reg none i41_R12) .ret)))))
abbrev i41_V : List Nat := [0, 1, 2, 3, 4, 5, 21, 26, 32, 60]
def i41 : IFn := ⟨61, i41_V, [.tmp 2], i41_B⟩
theorem i41_ok : compF Try.prog i41_V Try.f41 = some i41 := by kernel_rfl
/-! funicular/funicularref22.Sub -/
abbrev i42_R0 := [oo 1 (.box (.t 0)), oo 2 (.mv kF)]
abbrev i42_R1 := [oo 3 (fA 0 1), oo 4 (lF 3), oo 5 (.call 40 [(.t 4), (kI 0), (kI 63)]), oo 6 (mT 5), og 7 6 true (fA 1 1), og 8 6 true (lF 7), og 9 6 true (.call 40 [(.t 8), (kI 1), (kI 1099511627776)]), oo 10 (.pick (.t 6) (.t 9) kF), oo 11 (mT 10), og 12 11 true (fA 2 1), og 13 11 true (lF 12), og 14 11 true (.call 40 [(.t 13), (kI 1), (kI 1099511627776)]), oo 15 (.pick (.t 11) (.t 14) kF), oo 16 (mT 15), og 17 16 true (fA 3 1), og 18 16 true (lF 17), og 19 16 true (.call 59 [(.t 18)]), oo 20 (.pick (.t 16) (.t 19) kF), oo 21 (mT 20), og 22 21 true (fA 5 1), og 23 21 true (lF 22), og 24 21 true (.call 40 [(.t 23), (kI 0), (kI 1099511627776)]), oo 25 (.pick (.t 21) (.t 24) kF), oo 2 (mT 25)]
abbrev i42_B : IC := (.seq (.reg none i42_R0) (.seq (.reg none i42_R1) .ret))
abbrev i42_V : List Nat := [0, 1, 2]
def i42 : IFn := ⟨26, i42_V, [.tmp 2], i42_B⟩
theorem i42_ok : compF Try.prog i42_V Try.f42 = some i42 := by kernel_rfl
/-! funicular/funicularref22.ahead -/
abbrev i43_R0 := [oo 2 (.box (.t 0)), oo 3 (.box (.t 1)), oo 4 (.mv kF)]
abbrev i43_R1 := [oo 5 (fA 0 2), oo 6 (lF 5), oo 7 (fA 0 3), oo 8 (lF 7), oo 9 (bB .lss 6 8), oo 10 (mT 9), og 11 10 false (fA 0 2), og 12 10 false (lF 11), og 13 10 false (fA 0 3), og 14 10 false (lF 13), og 15 10 false (bB .eql 12 14), og 16 10 false (mT 15), og 17 16 true (fA 1 2), og 18 16 true (lF 17), og 19 16 true (fA 1 3), og 20 16 true (lF 19), og 21 16 true (bB .lss 18 20), og 22 10 false (.pick (.t 16) (.t 21) kF), oo 23 (.pick (.t 10) kT (.t 22)), oo 4 (mT 23)]
abbrev i43_B : IC := (.seq (.reg none i43_R0) (.seq (.reg none i43_R1) .ret))
abbrev i43_V : List Nat := [0, 1, 2, 3, 4]
def i43 : IFn := ⟨24, i43_V, [.tmp 4], i43_B⟩
theorem i43_ok : compF Try.prog i43_V Try.f43 = some i43 := by kernel_rfl
/-! slices.Equal[[]funicular/api.Sub,funicular/api.Sub] -/
abbrev i44_R0 := [oo 4 (.mv kF)]
abbrev i44_R1 := [oo 6 (mT 0), oo 7 (lL 6), oo 8 (mT 1), oo 9 (lL 8), oo 10 (bB .neq 7 9)]
abbrev i44_R2 := [oo 4 (.mv kF)]
abbrev i44_R3 := [oo 11 (mT 0), oo 12 (lL 11), oo 13 (.mv (kI 0))]
abbrev i44_R4 := [oo 14 (bB .lss 13 12)]
abbrev i44_R5 := [oo 15 (mT 13), oo 5 (mT 15)]
abbrev i44_R6 := [oo 16 (mT 0), oo 17 (mT 5), oo 18 (iA 6 16 17), oo 19 (lT 6 18), oo 20 (mT 1), oo 21 (mT 5), oo 22 (iA 6 20 21), oo 23 (lT 6 22), oo 24 (.eqc true [(0, 1), (1, 1), (2, 1), (3, 2), (4, 1), (5, 1)] (.t 19) (.t 23))]
abbrev i44_R7 := [oo 4 (.mv kF)]
abbrev i44_R8 := [oo 25 (bK .add 13 1), oo 13 (mT 25)]
abbrev i44_L0 : IC := (.seq (.reg none i44_R4) (.seq (.cond (.t 14) .skip (.out 0)) (.seq (.block 1 (.seq (.reg none i44_R5) (.seq (.reg (some []) i44_R6) (.cond (.t 24) (.seq (.reg none i44_R7) .ret) .skip)))) (.reg none i44_R8))))
abbrev i44_R9 := [oo 4 (.mv kT)]
abbrev i44_B : IC := (.seq (.reg none i44_R0) (.seq (.seq (.reg none i44_R1) (.cond (.t 10) (.seq (.reg none i44_R2) .ret) .skip)) (.seq (.seq (.reg none i44_R3) (.block 0 (.loop i44_L0))) (.seq (.reg none i44_R9) .ret))))
abbrev i44_V : List Nat := [0, 1, 4, 5, 10, 12, 13, 14, 24]
def i44 : IFn := ⟨26, i44_V, [.tmp 4], i44_B⟩
theorem i44_ok : compF Try.prog i44_V Try.f44 = some i44 := by kernel_rfl
/-! slices.EqualFunc[[]funicular/api.Mail,[]funicular/api.Mail,funicular/api.Mail,funicular/api.Mail] -/
abbrev i45_R0 := [oo 6 (.mv kF)]
abbrev i45_R1 := [oo 10 (mT 0), oo 11 (lL 10), oo 12 (mT 1), oo 13 (lL 12), oo 14 (bB .neq 11 13)]
abbrev i45_R2 := [oo 6 (.mv kF)]
abbrev i45_R3 := [oo 15 (mT 0), oo 16 (lL 15), oo 17 (.mv (kI 0))]
abbrev i45_R4 := [oo 18 (bB .lss 17 16)]
abbrev i45_R5 := [oo 19 (mT 17), oo 20 (iA 7 15 17), oo 21 (lT 7 20), oo 8 (.alloc [zI, .str ⟨#[]⟩, zI, .nil, .nil, zI, .nil]), oo 7 (mT 19), oe (sT 7 8 21)]
abbrev i45_R6 := [oo 22 (mT 1), oo 23 (mT 7), oo 24 (iA 7 22 23), oo 25 (lT 7 24), oo 9 (.alloc [zI, .str ⟨#[]⟩, zI, .nil, .nil, zI, .nil]), oe (sT 7 9 25)]
abbrev i45_R7 := [oo 26 (mT 2), oo 27 (lT 7 8), oo 28 (lT 7 9), oo 29 (.callv (.t 26) [(.t 27), (.t 28)]), oo 30 (.nt (.t 29))]
abbrev i45_R8 := [oo 6 (.mv kF)]
abbrev i45_R9 := [oo 31 (bK .add 17 1), oo 17 (mT 31)]
abbrev i45_L0 : IC := (.seq (.reg none i45_R4) (.seq (.cond (.t 18) .skip (.out 0)) (.seq (.block 1 (.seq (.reg none i45_R5) (.seq (.reg none i45_R6) (.seq (.reg none i45_R7) (.cond (.t 30) (.seq (.reg none i45_R8) .ret) .skip))))) (.reg none i45_R9))))
abbrev i45_R10 := [oo 6 (.mv kT)]
abbrev i45_B : IC := (.seq (.reg none i45_R0) (.seq (.seq (.reg none i45_R1) (.cond (.t 14) (.seq (.reg none i45_R2) .ret) .skip)) (.seq (.seq (.reg none i45_R3) (.block 0 (.loop i45_L0))) (.seq (.reg none i45_R10) .ret))))
abbrev i45_V : List Nat := [0, 1, 2, 6, 7, 8, 9, 14, 15, 16, 17, 18, 30]
def i45 : IFn := ⟨32, i45_V, [.tmp 6], i45_B⟩
theorem i45_ok : compF Try.prog i45_V Try.f45 = some i45 := by kernel_rfl
/-! funicular/post.Same$1 -/
abbrev i46_R0 := [oo 2 (.box (.t 0)), oo 3 (.box (.t 1)), oo 4 (.mv kF)]
abbrev i46_R1 := [oo 5 (fA 0 2), oo 6 (lF 5), oo 7 (fA 0 3), oo 8 (lF 7), oo 9 (bB .eql 6 8), oo 10 (mT 9), og 11 10 true (fA 1 2), og 12 10 true (lF 11), og 13 10 true (fA 1 3), og 14 10 true (lF 13), og 15 10 true (bB .eql 12 14), oo 16 (.pick (.t 10) (.t 15) kF), oo 17 (mT 16), og 18 17 true (fA 2 2), og 19 17 true (lF 18), og 20 17 true (fA 2 3), og 21 17 true (lF 20), og 22 17 true (bB .eql 19 21), oo 23 (.pick (.t 17) (.t 22) kF), oo 24 (mT 23), og 25 24 true (fA 5 2), og 26 24 true (lF 25), og 27 24 true (fA 5 3), og 28 24 true (lF 27), og 29 24 true (bB .eql 26 28), oo 30 (.pick (.t 24) (.t 29) kF), oo 31 (mT 30), og 32 31 true (fA 3 2), og 33 31 true (lT 2 32), og 34 31 true (fA 3 3), og 35 31 true (lT 2 34), og 36 31 true (.call 47 [(.t 33), (.t 35)]), oo 37 (.pick (.t 31) (.t 36) kF), oo 38 (mT 37), og 39 38 true (fA 6 2), og 40 38 true (lF 39), og 41 38 true (fA 6 3), og 42 38 true (lF 41), og 43 38 true (.call 48 [(.t 40), (.t 42)]), oo 44 (.pick (.t 38) (.t 43) kF), oo 4 (mT 44)]
abbrev i46_B : IC := (.seq (.reg none i46_R0) (.seq (.reg none i46_R1) .ret))
abbrev i46_V : List Nat := [0, 1, 2, 3, 4]
def i46 : IFn := ⟨45, i46_V, [.tmp 4], i46_B⟩
theorem i46_ok : compF Try.prog i46_V Try.f46 = some i46 := by kernel_rfl
/-! funicular/vars.Same -/
abbrev i47_R0 := [oo 2 (.box (.t 0)), oo 3 (.box (.t 1)), oo 4 (.mv kF)]
abbrev i47_R1 := [oo 5 (fA 0 2), oo 6 (lF 5), oo 7 (fA 0 3), oo 8 (lF 7), oo 9 (.call 81 [(.t 6), (.t 8)]), oo 10 (mT 9), og 11 10 true (fA 1 2), og 12 10 true (lF 11), og 13 10 true (fA 1 3), og 14 10 true (lF 13), og 15 10 true (.call 82 [(.t 12), (.t 14)]), oo 16 (.pick (.t 10) (.t 15) kF), oo 4 (mT 16)]
abbrev i47_B : IC := (.seq (.reg none i47_R0) (.seq (.reg none i47_R1) .ret))
abbrev i47_V : List Nat := [0, 1, 2, 3, 4]
def i47 : IFn := ⟨17, i47_V, [.tmp 4], i47_B⟩
theorem i47_ok : compF Try.prog i47_V Try.f47 = some i47 := by kernel_rfl
/-! slices.Equal[[]funicular/api.Who,funicular/api.Who] -/
abbrev i48_R0 := [oo 4 (.mv kF)]
abbrev i48_R1 := [oo 6 (mT 0), oo 7 (lL 6), oo 8 (mT 1), oo 9 (lL 8), oo 10 (bB .neq 7 9)]
abbrev i48_R2 := [oo 4 (.mv kF)]
abbrev i48_R3 := [oo 11 (mT 0), oo 12 (lL 11), oo 13 (.mv (kI 0))]
abbrev i48_R4 := [oo 14 (bB .lss 13 12)]
abbrev i48_R5 := [oo 15 (mT 13), oo 5 (mT 15)]
abbrev i48_R6 := [oo 16 (mT 0), oo 17 (mT 5), oo 18 (iA 2 16 17), oo 19 (lT 2 18), oo 20 (mT 1), oo 21 (mT 5), oo 22 (iA 2 20 21), oo 23 (lT 2 22), oo 24 (.eqc true [(0, 1), (1, 1)] (.t 19) (.t 23))]
abbrev i48_R7 := [oo 4 (.mv kF)]
abbrev i48_R8 := [oo 25 (bK .add 13 1), oo 13 (mT 25)]
abbrev i48_L0 : IC := (.seq (.reg none i48_R4) (.seq (.cond (.t 14) .skip (.out 0)) (.seq (.block 1 (.seq (.reg none i48_R5) (.seq (.reg (some []) i48_R6) (.cond (.t 24) (.seq (.reg none i48_R7) .ret) .skip)))) (.reg none i48_R8))))
abbrev i48_R9 := [oo 4 (.mv kT)]
abbrev i48_B : IC := (.seq (.reg none i48_R0) (.seq (.seq (.reg none i48_R1) (.cond (.t 10) (.seq (.reg none i48_R2) .ret) .skip)) (.seq (.seq (.reg none i48_R3) (.block 0 (.loop i48_L0))) (.seq (.reg none i48_R9) .ret))))
abbrev i48_V : List Nat := [0, 1, 4, 5, 10, 12, 13, 14, 24]
def i48 : IFn := ⟨26, i48_V, [.tmp 4], i48_B⟩
theorem i48_ok : compF Try.prog i48_V Try.f48 = some i48 := by kernel_rfl
/-! funicular/funicularref22.sameMail -/
abbrev i49_R0 := [oo 2 (.box (.t 0)), oo 3 (.box (.t 1)), oo 4 (.mv kF)]
abbrev i49_R1 := [oo 6 (fA 0 2), oo 7 (lF 6), oo 8 (fA 0 3), oo 9 (lF 8), oo 10 (bB .neq 7 9), oo 11 (mT 10), og 12 11 false (fA 1 2), og 13 11 false (lF 12), og 14 11 false (fA 1 3), og 15 11 false (lF 14), og 16 11 false (bB .neq 13 15), oo 17 (.pick (.t 11) kT (.t 16)), oo 18 (mT 17), og 19 18 false (fA 2 2), og 20 18 false (lF 19), og 21 18 false (fA 2 3), og 22 18 false (lF 21), og 23 18 false (bB .neq 20 22), oo 24 (.pick (.t 18) kT (.t 23)), oo 25 (mT 24), og 26 25 false (fA 5 2), og 27 25 false (lF 26), og 28 25 false (fA 5 3), og 29 25 false (lF 28), og 30 25 false (bB .neq 27 29), oo 31 (.pick (.t 25) kT (.t 30)), oo 32 (mT 31), og 33 32 false (fA 3 2), og 34 32 false (lT 2 33), og 35 32 false (fA 3 3), og 36 32 false (lT 2 35), og 37 32 false (.call 64 [(.t 34), (.t 36)]), og 38 32 false (.nt (.t 37)), oo 39 (.pick (.t 32) kT (.t 38)), oo 40 (mT 39), og 41 40 false (fA 6 2), og 42 40 false (lF 41), og 43 40 false (lL 42), og 44 40 false (fA 6 3), og 45 40 false (lF 44), og 46 40 false (lL 45), og 47 40 false (bB .neq 43 46), oo 48 (.pick (.t 40) kT (.t 47))]
abbrev i49_R2 := [oo 4 (.mv kF)]
abbrev i49_R3 := [oo 5 (.mv (kI 0))]
abbrev i49_R4 := [oo 49 (mT 5), oo 50 (fA 6 2), oo 51 (lF 50), oo 52 (lL 51), oo 53 (bB .lss 49 52)]
abbrev i49_R5 := [oo 56 (fA 6 2), oo 57 (lF 56), oo 58 (mT 5), oo 59 (iA 2 57 58), oo 60 (lT 2 59), oo 61 (fA 6 3), oo 62 (lF 61), oo 63 (mT 5), oo 64 (iA 2 62 63), oo 65 (lT 2 64), oo 66 (.eqc true [(0, 1), (1, 1)] (.t 60) (.t 65))]
abbrev i49_R6 := [oo 4 (.mv kF)]
abbrev i49_R7 := [oo 54 (mT 5), oo 55 (bK .add 54 1), oo 5 (mT 55)]
abbrev i49_L0 : IC := (.seq (.seq (.reg none i49_R4) (.cond (.t 53) .skip (.out 0))) (.seq (.block 1 (.seq (.reg (some []) i49_R5) (.cond (.t 66) (.seq (.reg none i49_R6) .ret) .skip))) (.reg none i49_R7)))
abbrev i49_R8 := [oo 4 (.mv kT)]
abbrev i49_B : IC := (.seq (.reg none i49_R0) (.seq (.seq (.reg none i49_R1) (.cond (.t 48) (.seq (.reg none i49_R2) .ret) .skip)) (.seq (.seq (.reg none i49_R3) (.block 0 (.loop i49_L0))) (.seq (.reg none i49_R8) .ret))))
abbrev i49_V : List Nat := [0, 1, 2, 3, 4, 5, 48, 53, 66]
def i49 : IFn := ⟨67, i49_V, [.tmp 4], i49_B⟩
theorem i49_ok : compF Try.prog i49_V Try.f49 = some i49 := by kernel_rfl
/-! funicular/vars.Copy -/
abbrev i52_R0 := [oo 1 (.box (.t 0)), oo 2 (.alloc [.nil, .nil])]
abbrev i52_R1 := [oo 3 (fA 0 1), oo 4 (lF 3), oo 5 (.cln 1 (.t 4)), oo 6 (fA 1 1), oo 7 (lF 6), oo 8 (.cln 1 (.t 7)), oo 9 (.build [.nil, .nil] [(0, 1, (.t 5)), (1, 1, (.t 8))]), oe (sT 2 2 9)]
abbrev i52_B : IC := (.seq (.reg none i52_R0) (.seq (.reg (some [(2, 4)]) i52_R1) .ret))
abbrev i52_V : List Nat := [0, 1, 2]
def i52 : IFn := ⟨10, i52_V, [.cell 2 true 2], i52_B⟩
theorem i52_ok : compF Try.prog i52_V Try.f52 = some i52 := by kernel_rfl
/-! funicular/post.Publish$1 -/
abbrev i54_R0 := [oo 2 (.alloc [zI, .nil, .nil]), oo 3 (.mv (kI 0)), oo 4 (.mv (.c (.nil))), oo 5 (.mv (kI 0))]
abbrev i54_R1 := [oo 6 (.build [zI, .nil, .nil] []), oo 7 (mT 0), oe (sT 3 2 6), oo 3 (.mv (kI 0)), oo 4 (.mv (.c (.nil))), oo 5 (mT 7)]
abbrev i54_B : IC := (.seq (.reg none i54_R0) (.seq (.reg none i54_R1) .ret))
abbrev i54_V : List Nat := [0, 2, 3, 4, 5]
def i54 : IFn := ⟨8, i54_V, [.cell 2 true 3, .tmp 3, .tmp 4, .tmp 5], i54_B⟩
theorem i54_ok : compF Try.prog i54_V Try.f54 = some i54 := by kernel_rfl
/-! funicular/pack.Name -/
abbrev i55_R0 := [oo 2 (.mv kF)]
abbrev i55_R1 := [oo 6 (mT 0), oo 7 (.s2b (.t 6)), oo 8 (lL 7), oo 9 (.mv (kI 0))]
abbrev i55_R2 := [oo 10 (bB .lss 9 8)]
abbrev i55_R3 := [oo 11 (mT 9), oo 12 (iA 1 7 9), oo 13 (lF 12), oo 3 (mT 11), oo 4 (mT 13)]
abbrev i55_R4 := [oo 14 (mT 4), oo 15 (.bin .geq (.t 14) (.c (.int .u8 97))), oo 16 (mT 15), og 17 16 true (mT 4), og 18 16 true (.bin .leq (.t 17) (.c (.int .u8 122))), oo 19 (.pick (.t 16) (.t 18) kF), oo 5 (mT 19)]
abbrev i55_R5 := [oo 20 (mT 5), oo 21 (.nt (.t 20)), oo 22 (mT 21), og 23 22 true (mT 3), og 24 22 true (bK .eql 23 0), og 25 22 true (mT 24), og 26 25 false (mT 4), og 27 25 false (.bin .lss (.t 26) (.c (.int .u8 48))), og 28 22 true (.pick (.t 25) kT (.t 27)), og 29 22 true (mT 28), og 30 29 false (mT 4), og 31 29 false (.bin .gtr (.t 30) (.c (.int .u8 57))), og 32 22 true (.pick (.t 29) kT (.t 31)), oo 33 (.pick (.t 22) (.t 32) kF)]
abbrev i55_R6 := [oo 2 (.mv kF)]
abbrev i55_R7 := [oo 34 (bK .add 9 1), oo 9 (mT 34)]
abbrev i55_L0 : IC := (.seq (.reg none i55_R2) (.seq (.cond (.t 10) .skip (.out 0)) (.seq (.block 1 (.seq (.reg none i55_R3) (.seq (.reg none i55_R4) (.seq (.reg none i55_R5) (.cond (.t 33) (.seq (.reg none i55_R6) .ret) .skip))))) (.reg none i55_R7))))
abbrev i55_R8 := [oo 35 (mT 0), oo 36 (.lens (.t 35)), oo 37 (bK .geq 36 1), oo 38 (mT 37), og 39 38 true (mT 0), og 40 38 true (.lens (.t 39)), og 41 38 true (bK .leq 40 32), oo 42 (.pick (.t 38) (.t 41) kF), oo 2 (mT 42)]
abbrev i55_B : IC := (.seq (.reg none i55_R0) (.seq (.seq (.reg none i55_R1) (.block 0 (.loop i55_L0))) (.seq (.reg none i55_R8) .ret)))
abbrev i55_V : List Nat := [0, 2, 3, 4, 5, 7, 8, 9, 10, 33]
def i55 : IFn := ⟨43, i55_V, [.tmp 2], i55_B⟩
theorem i55_ok : compF Try.prog i55_V Try.f55 = some i55 := by kernel_rfl
/-! funicular/vars.Check -/
abbrev i56_R0 := [oo 1 (.box (.t 0)), oo 2 (.mv (kI 0))]
abbrev i56_R1 := [oo 6 (fA 0 1), oo 7 (lF 6), oo 8 (lL 7), oo 9 (fA 1 1), oo 10 (lF 9), oo 11 (lL 10), oo 12 (bB .neq 8 11), oo 5 (mT 12)]
abbrev i56_R2 := [oo 2 (.mv (kI 1))]
abbrev i56_R3 := [oo 14 (fA 0 1), oo 15 (lF 14), oo 16 (lL 15), oo 17 (bK .gtr 16 64), oo 13 (mT 17)]
abbrev i56_R4 := [oo 2 (.mv (kI 6))]
abbrev i56_R5 := [oo 18 (fA 0 1), oo 19 (lF 18), oo 20 (lL 19), oo 21 (.mv (kI 0))]
abbrev i56_R6 := [oo 22 (bB .lss 21 20)]
abbrev i56_R7 := [oo 23 (mT 21), oo 24 (iA 1 19 21), oo 25 (lF 24), oo 3 (mT 23), oo 4 (mT 25)]
abbrev i56_R8 := [oo 26 (mT 4), oo 27 (.call 55 [(.t 26)]), oo 28 (.nt (.t 27)), oo 29 (mT 28), og 30 29 false (mT 4), og 31 29 false (.bin .eql (.t 30) (.c (.str ⟨#[121, 101, 115]⟩))), oo 32 (.pick (.t 29) kT (.t 31)), oo 33 (mT 32), og 34 33 false (mT 4), og 35 33 false (.bin .eql (.t 34) (.c (.str ⟨#[110, 111]⟩))), oo 36 (.pick (.t 33) kT (.t 35))]
abbrev i56_R9 := [oo 2 (.mv (kI 1))]
abbrev i56_R10 := [oo 37 (mT 3), oo 38 (bK .gtr 37 0), oo 39 (mT 38), og 40 39 true (fA 0 1), og 41 39 true (lF 40), og 42 39 true (mT 3), og 43 39 true (bK .sub 42 1), og 44 39 true (iA 1 41 43), og 45 39 true (lF 44), og 46 39 true (mT 4), og 47 39 true (bB .geq 45 46), oo 48 (.pick (.t 39) (.t 47) kF)]
abbrev i56_R11 := [oo 2 (.mv (kI 1))]
abbrev i56_R12 := [oo 49 (bK .add 21 1), oo 21 (mT 49)]
abbrev i56_L0 : IC := (.seq (.reg none i56_R6) (.seq (.cond (.t 22) .skip (.out 1)) (.seq (.block 2 (.seq (.reg none i56_R7) (.seq (.seq (.reg none i56_R8) (.cond (.t 36) (.seq (.reg none i56_R9) .ret) .skip)) (.seq (.reg none i56_R10) (.cond (.t 48) (.seq (.reg none i56_R11) .ret) .skip))))) (.reg none i56_R12))))
abbrev i56_R13 := [oo 2 (.mv (kI 0))]
abbrev i56_B : IC := (.seq (.reg none i56_R0) (.seq (.block 0 (.seq (.reg none i56_R1) (.cond (.t 5) (.seq (.reg none i56_R2) .ret) (.seq (.reg none i56_R3) (.cond (.t 13) (.seq (.reg none i56_R4) .ret) .skip))))) (.seq (.seq (.reg none i56_R5) (.block 1 (.loop i56_L0))) (.seq (.reg none i56_R13) .ret))))
abbrev i56_V : List Nat := [0, 1, 2, 3, 4, 5, 13, 19, 20, 21, 22, 36, 48]
def i56 : IFn := ⟨50, i56_V, [.tmp 2], i56_B⟩
theorem i56_ok : compF Try.prog i56_V Try.f56 = some i56 := by kernel_rfl
/-! funicular/post.suits -/
abbrev i57_R0 := [oo 2 (.box (.t 0)), oo 3 (.box (.t 1)), oo 4 (.mv kF)]
abbrev i57_R1 := [oo 5 (fA 5 3), oo 6 (lF 5), oo 7 (bK .eql 6 0), oo 8 (mT 7), og 9 8 true (fA 3 3), og 10 8 true (lF 9), og 11 8 true (fA 1 2), og 12 8 true (lF 11), og 13 8 true (bB .eql 10 12), oo 14 (.pick (.t 8) (.t 13) kF), oo 15 (mT 14), og 16 15 true (fA 4 3), og 17 15 true (lF 16), og 18 15 true (fA 2 2), og 19 15 true (lF 18), og 20 15 true (bB .eql 17 19), oo 21 (.pick (.t 15) (.t 20) kF), oo 22 (mT 21), og 23 22 true (fA 6 2), og 24 22 true (lF 23), og 25 22 true (fA 0 3), og 26 22 true (lF 25), og 27 22 true (fA 2 3), og 28 22 true (lF 27), og 29 22 true (.build [zI, zI] [(0, 1, (.t 26)), (1, 1, (.t 28))]), og 30 22 true (.call 79 [(.t 24), (.t 29)]), og 31 22 true (.nt (.t 30)), oo 32 (.pick (.t 22) (.t 31) kF), oo 4 (mT 32)]
abbrev i57_B : IC := (.seq (.reg none i57_R0) (.seq (.reg none i57_R1) .ret))
abbrev i57_V : List Nat := [0, 1, 2, 3, 4]
def i57 : IFn := ⟨33, i57_V, [.tmp 4], i57_B⟩
theorem i57_ok : compF Try.prog i57_V Try.f57 = some i57 := by kernel_rfl
/-! funicular/post.give -/
abbrev i58_R0 := [oo 4 (.alloc [zI, zI, zI, .nil, .nil])]
abbrev i58_R1 := [oo 5 (mT 1), oo 6 (mT 0), oo 7 (nT 6), oo 8 (fA 0 7), oo 9 (lF 8), oo 10 (nT 5), oo 11 (fA 5 10), oe (sT 1 11 9)]
abbrev i58_R2 := [oo 12 (mT 0), oo 13 (mT 0), oo 14 (nT 13), oo 15 (fA 6 14), oo 16 (lF 15), oo 17 (mT 1), oo 18 (nT 17), oo 19 (fA 0 18), oo 20 (lF 19), oo 21 (mT 1), oo 22 (nT 21), oo 23 (fA 2 22), oo 24 (lF 23), oo 25 (.build [zI, zI] [(0, 1, (.t 20)), (1, 1, (.t 24))]), oo 26 (.bsl 2 [zI, zI] 1 [(0, (.t 25))]), oo 27 (.app 2 (.t 16) (.t 26)), oo 28 (nT 12), oo 29 (fA 6 28), oe (sT 1 29 27)]
abbrev i58_R3 := [oo 30 (mT 1), oo 31 (nT 30), oo 32 (fA 0 31), oo 33 (lF 32), oo 34 (mT 1), oo 35 (nT 34), oo 36 (fA 1 35), oo 37 (lF 36), oo 38 (mT 0), oo 39 (nT 38), oo 40 (fA 0 39), oo 41 (lF 40), oo 42 (mT 0), oo 43 (nT 42), oo 44 (fA 3 43), oo 45 (lT 2 44), oo 46 (.call 52 [(.t 45)]), oo 47 (.build [zI, zI, zI, .nil, .nil] [(0, 1, (.t 33)), (1, 1, (.t 37)), (2, 1, (.t 41)), (3, 2, (.t 46))]), oe (sT 5 4 47)]
abbrev i58_B : IC := (.seq (.reg none i58_R0) (.seq (.reg none i58_R1) (.seq (.reg (some [(4, 14)]) i58_R2) (.seq (.reg (some [(3, 16), (7, 16), (11, 16)]) i58_R3) .ret))))
abbrev i58_V : List Nat := [0, 1, 4]
def i58 : IFn := ⟨48, i58_V, [.cell 4 true 5], i58_B⟩
theorem i58_ok : compF Try.prog i58_V Try.f58 = some i58 := by kernel_rfl
/-! funicular/funicularref02.Name -/
abbrev i59_R0 := [oo 2 (.mv kF)]
abbrev i59_R1 := [oo 6 (mT 0), oo 7 (.lens (.t 6)), oo 8 (bK .eql 7 0), oo 9 (mT 8), og 10 9 false (mT 0), og 11 9 false (.lens (.t 10)), og 12 9 false (bK .gtr 11 32), oo 13 (.pick (.t 9) kT (.t 12)), oo 14 (mT 13), og 15 14 false (mT 0), og 16 14 false (.ixs (.t 15) (kI 0)), og 17 14 false (.bin .lss (.t 16) (.c (.int .u8 97))), oo 18 (.pick (.t 14) kT (.t 17))]
abbrev i59_R2 := [oo 2 (.mv kF)]
abbrev i59_R3 := [oo 3 (.mv (kI 0))]
abbrev i59_R4 := [oo 19 (mT 3), oo 20 (mT 0), oo 21 (.lens (.t 20)), oo 22 (bB .lss 19 21)]
abbrev i59_R5 := [oo 25 (mT 0), oo 26 (mT 3), oo 27 (.ixs (.t 25) (.t 26)), oo 28 (.bin .geq (.t 27) (.c (.int .u8 48))), oo 29 (mT 28), og 30 29 true (mT 0), og 31 29 true (mT 3), og 32 29 true (.ixs (.t 30) (.t 31)), og 33 29 true (.bin .leq (.t 32) (.c (.int .u8 57))), oo 34 (.pick (.t 29) (.t 33) kF), oo 4 (mT 34)]
abbrev i59_R6 := [oo 35 (mT 0), oo 36 (mT 3), oo 37 (.ixs (.t 35) (.t 36)), oo 38 (.bin .geq (.t 37) (.c (.int .u8 97))), oo 39 (mT 38), og 40 39 true (mT 0), og 41 39 true (mT 3), og 42 39 true (.ixs (.t 40) (.t 41)), og 43 39 true (.bin .leq (.t 42) (.c (.int .u8 122))), oo 44 (.pick (.t 39) (.t 43) kF), oo 5 (mT 44)]
abbrev i59_R7 := [oo 45 (mT 4), oo 46 (.nt (.t 45)), oo 47 (mT 46), og 48 47 true (mT 5), og 49 47 true (.nt (.t 48)), oo 50 (.pick (.t 47) (.t 49) kF)]
abbrev i59_R8 := [oo 2 (.mv kF)]
abbrev i59_R9 := [oo 23 (mT 3), oo 24 (bK .add 23 1), oo 3 (mT 24)]
abbrev i59_L0 : IC := (.seq (.seq (.reg none i59_R4) (.cond (.t 22) .skip (.out 0))) (.seq (.block 1 (.seq (.reg none i59_R5) (.seq (.reg none i59_R6) (.seq (.reg none i59_R7) (.cond (.t 50) (.seq (.reg none i59_R8) .ret) .skip))))) (.reg none i59_R9)))
abbrev i59_R10 := [oo 2 (.mv kT)]
abbrev i59_B : IC := (.seq (.reg none i59_R0) (.seq (.seq (.reg none i59_R1) (.cond (.t 18) (.seq (.reg none i59_R2) .ret) .skip)) (.seq (.seq (.reg none i59_R3) (.block 0 (.loop i59_L0))) (.seq (.reg none i59_R10) .ret))))
abbrev i59_V : List Nat := [0, 2, 3, 4, 5, 18, 22, 50]
def i59 : IFn := ⟨51, i59_V, [.tmp 2], i59_B⟩
theorem i59_ok : compF Try.prog i59_V Try.f59 = some i59 := by kernel_rfl
/-! funicular/funicularref09.Check -/
abbrev i60_R0 := [oo 1 (.box (.t 0)), oo 2 (.mv (kI 0))]
abbrev i60_R1 := [oo 5 (fA 0 1), oo 6 (lF 5), oo 7 (lL 6), oo 8 (fA 1 1), oo 9 (lF 8), oo 10 (lL 9), oo 11 (bB .neq 7 10)]
abbrev i60_R2 := [oo 2 (.mv (kI 1))]
abbrev i60_R3 := [oo 12 (fA 0 1), oo 13 (lF 12), oo 14 (lL 13), oo 15 (bK .gtr 14 64)]
abbrev i60_R4 := [oo 2 (.mv (kI 6))]
abbrev i60_R5 := [oo 3 (.mv (kI 0))]
abbrev i60_R6 := [oo 16 (mT 3), oo 17 (fA 0 1), oo 18 (lF 17), oo 19 (lL 18), oo 20 (bB .lss 16 19)]
abbrev i60_R7 := [oo 23 (fA 0 1), oo 24 (lF 23), oo 25 (mT 3), oo 26 (iA 1 24 25), oo 27 (lF 26), oo 4 (mT 27)]
abbrev i60_R8 := [oo 28 (mT 4), oo 29 (.call 59 [(.t 28)]), oo 30 (.nt (.t 29)), oo 31 (mT 30), og 32 31 false (mT 4), og 33 31 false (.bin .eql (.t 32) (.c (.str ⟨#[121, 101, 115]⟩))), oo 34 (.pick (.t 31) kT (.t 33)), oo 35 (mT 34), og 36 35 false (mT 4), og 37 35 false (.bin .eql (.t 36) (.c (.str ⟨#[110, 111]⟩))), oo 38 (.pick (.t 35) kT (.t 37)), oo 39 (mT 38), og 40 39 false (mT 3), og 41 39 false (bK .gtr 40 0), og 42 39 false (mT 41), og 43 42 true (fA 0 1), og 44 42 true (lF 43), og 45 42 true (mT 3), og 46 42 true (bK .sub 45 1), og 47 42 true (iA 1 44 46), og 48 42 true (lF 47), og 49 42 true (mT 4), og 50 42 true (bB .lss 48 49), og 51 42 true (.nt (.t 50)), og 52 39 false (.pick (.t 42) (.t 51) kF), oo 53 (.pick (.t 39) kT (.t 52))]
abbrev i60_R9 := [oo 2 (.mv (kI 1))]
abbrev i60_R10 := [oo 21 (mT 3), oo 22 (bK .add 21 1), oo 3 (mT 22)]
abbrev i60_L0 : IC := (.seq (.seq (.reg none i60_R6) (.cond (.t 20) .skip (.out 0))) (.seq (.block 1 (.seq (.reg none i60_R7) (.seq (.reg none i60_R8) (.cond (.t 53) (.seq (.reg none i60_R9) .ret) .skip)))) (.reg none i60_R10)))
abbrev i60_R11 := [oo 2 (.mv (kI 0))]
abbrev i60_B : IC := (.seq (.reg none i60_R0) (.seq (.seq (.reg none i60_R1) (.cond (.t 11) (.seq (.reg none i60_R2) .ret) .skip)) (.seq (.seq (.reg none i60_R3) (.cond (.t 15) (.seq (.reg none i60_R4) .ret) .skip)) (.seq (.seq (.reg none i60_R5) (.block 0 (.loop i60_L0))) (.seq (.reg none i60_R11) .ret)))))
abbrev i60_V : List Nat := [0, 1, 2, 3, 4, 11, 15, 20, 53]
def i60 : IFn := ⟨54, i60_V, [.tmp 2], i60_B⟩
theorem i60_ok : compF Try.prog i60_V Try.f60 = some i60 := by kernel_rfl
/-! funicular/funicularref22.suits -/
abbrev i61_R0 := [oo 2 (.box (.t 0)), oo 3 (.box (.t 1)), oo 4 (.mv kF)]
abbrev i61_R1 := [oo 5 (fA 5 3), oo 6 (lF 5), oo 7 (bK .eql 6 0), oo 8 (mT 7), og 9 8 true (fA 1 2), og 10 8 true (lF 9), og 11 8 true (fA 3 3), og 12 8 true (lF 11), og 13 8 true (bB .eql 10 12), oo 14 (.pick (.t 8) (.t 13) kF), oo 15 (mT 14), og 16 15 true (fA 2 2), og 17 15 true (lF 16), og 18 15 true (fA 4 3), og 19 15 true (lF 18), og 20 15 true (bB .eql 17 19), oo 21 (.pick (.t 15) (.t 20) kF), oo 22 (mT 21), og 23 22 true (fA 6 2), og 24 22 true (lF 23), og 25 22 true (fA 0 3), og 26 22 true (lF 25), og 27 22 true (fA 2 3), og 28 22 true (lF 27), og 29 22 true (.call 80 [(.t 24), (.t 26), (.t 28)]), og 30 22 true (.nt (.t 29)), oo 31 (.pick (.t 22) (.t 30) kF), oo 4 (mT 31)]
abbrev i61_B : IC := (.seq (.reg none i61_R0) (.seq (.reg none i61_R1) .ret))
abbrev i61_V : List Nat := [0, 1, 2, 3, 4]
def i61 : IFn := ⟨32, i61_V, [.tmp 4], i61_B⟩
theorem i61_ok : compF Try.prog i61_V Try.f61 = some i61 := by kernel_rfl
/-! funicular/funicularref22.hit -/
abbrev i62_R0 := [oo 2 (.box (.t 0)), oo 3 (.box (.t 1)), oo 4 (.alloc [zI, zI, zI, .nil, .nil])]
abbrev i62_R1 := [oo 5 (fA 0 3), oo 6 (lF 5), oo 7 (fA 1 3), oo 8 (lF 7), oo 9 (fA 0 2), oo 10 (lF 9), oo 11 (fA 3 2), oo 12 (lT 2 11), oo 13 (.build [zI, zI, zI, .nil, .nil] [(0, 1, (.t 6)), (1, 1, (.t 8)), (2, 1, (.t 10)), (3, 2, (.t 12))]), oe (sT 5 4 13)]
abbrev i62_B : IC := (.seq (.reg none i62_R0) (.seq (.reg none i62_R1) .ret))
abbrev i62_V : List Nat := [0, 1, 2, 3, 4]
def i62 : IFn := ⟨14, i62_V, [.cell 4 true 5], i62_B⟩
theorem i62_ok : compF Try.prog i62_V Try.f62 = some i62 := by kernel_rfl
/-! funicular/funicularref22.and -/
abbrev i63_R0 := [oo 2 (.box (.t 0)), oo 3 (.box (.t 1)), oo 4 (.alloc [zI, .str ⟨#[]⟩, zI, .nil, .nil, zI, .nil])]
abbrev i63_R1 := [oo 5 (.mv (.c (.nil)))]
abbrev i63_R2 := [oo 6 (mT 5), oo 7 (fA 6 2), oo 8 (lF 7), oo 9 (.app 2 (.t 6) (.t 8)), oo 5 (mT 9)]
abbrev i63_R3 := [oo 10 (mT 5), oo 11 (fA 0 3), oo 12 (lF 11), oo 13 (fA 2 3), oo 14 (lF 13), oo 15 (.build [zI, zI] [(0, 1, (.t 12)), (1, 1, (.t 14))]), oo 16 (.bsl 2 [zI, zI] 1 [(0, (.t 15))]), oo 17 (.app 2 (.t 10) (.t 16)), oo 5 (mT 17)]
abbrev i63_R4 := [oo 18 (fA 0 2), oo 19 (lF 18), oo 20 (fA 1 2), oo 21 (lF 20), oo 22 (fA 2 2), oo 23 (lF 22), oo 24 (fA 3 2), oo 25 (lT 2 24), oo 26 (fA 5 2), oo 27 (lF 26), oo 28 (mT 5), oo 29 (.build [zI, .str ⟨#[]⟩, zI, .nil, .nil, zI, .nil] [(0, 1, (.t 19)), (1, 1, (.t 21)), (2, 1, (.t 23)), (3, 2, (.t 25)), (5, 1, (.t 27)), (6, 1, (.t 28))]), oe (sT 7 4 29)]
abbrev i63_B : IC := (.seq (.reg none i63_R0) (.seq (.reg none i63_R1) (.seq (.reg none i63_R2) (.seq (.reg none i63_R3) (.seq (.reg none i63_R4) .ret)))))
abbrev i63_V : List Nat := [0, 1, 2, 3, 4, 5]
def i63 : IFn := ⟨30, i63_V, [.cell 4 true 7], i63_B⟩
theorem i63_ok : compF Try.prog i63_V Try.f63 = some i63 := by kernel_rfl
/-! funicular/funicularref09.Same -/
abbrev i64_R0 := [oo 2 (.box (.t 0)), oo 3 (.box (.t 1)), oo 4 (.mv kF)]
abbrev i64_R1 := [oo 6 (fA 0 2), oo 7 (lF 6), oo 8 (fA 0 3), oo 9 (lF 8), oo 10 (.call 85 [(.t 7), (.t 9)]), oo 11 (.nt (.t 10)), oo 12 (mT 11), og 13 12 false (fA 1 2), og 14 12 false (lF 13), og 15 12 false (lL 14), og 16 12 false (fA 1 3), og 17 12 false (lF 16), og 18 12 false (lL 17), og 19 12 false (bB .neq 15 18), oo 20 (.pick (.t 12) kT (.t 19))]
abbrev i64_R2 := [oo 4 (.mv kF)]
abbrev i64_R3 := [oo 5 (.mv (kI 0))]
abbrev i64_R4 := [oo 21 (mT 5), oo 22 (fA 1 2), oo 23 (lF 22), oo 24 (lL 23), oo 25 (bB .lss 21 24)]
abbrev i64_R5 := [oo 28 (fA 1 2), oo 29 (lF 28), oo 30 (mT 5), oo 31 (iA 1 29 30), oo 32 (lF 31), oo 33 (fA 1 3), oo 34 (lF 33), oo 35 (mT 5), oo 36 (iA 1 34 35), oo 37 (lF 36), oo 38 (bB .neq 32 37)]
abbrev i64_R6 := [oo 4 (.mv kF)]
abbrev i64_R7 := [oo 26 (mT 5), oo 27 (bK .add 26 1), oo 5 (mT 27)]
abbrev i64_L0 : IC := (.seq (.seq (.reg none i64_R4) (.cond (.t 25) .skip (.out 0))) (.seq (.block 1 (.seq (.reg (some []) i64_R5) (.cond (.t 38) (.seq (.reg none i64_R6) .ret) .skip))) (.reg none i64_R7)))
abbrev i64_R8 := [oo 4 (.mv kT)]
abbrev i64_B : IC := (.seq (.reg none i64_R0) (.seq (.seq (.reg none i64_R1) (.cond (.t 20) (.seq (.reg none i64_R2) .ret) .skip)) (.seq (.seq (.reg none i64_R3) (.block 0 (.loop i64_L0))) (.seq (.reg none i64_R8) .ret))))
abbrev i64_V : List Nat := [0, 1, 2, 3, 4, 5, 20, 25, 38]
def i64 : IFn := ⟨39, i64_V, [.tmp 4], i64_B⟩
theorem i64_ok : compF Try.prog i64_V Try.f64 = some i64 := by kernel_rfl
/-! funicular/post.find -/
abbrev i65_R0 := [oo 2 (.box (.t 0)), oo 3 (.box (.t 1)), oo 4 (.mv (kI 0)), oo 5 (.mv kF)]
abbrev i65_R1 := [oo 6 (fA 2 2), oo 7 (lF 6), oo 8 (lT 2 3), oo 9 (.call 86 [(.t 7), (.t 8), (.c (.fn (.func 87) [] []))]), oo 10 (xT 0 9), oo 11 (xT 1 9), oo 4 (mT 10), oo 5 (mT 11)]
abbrev i65_B : IC := (.seq (.reg none i65_R0) (.seq (.reg none i65_R1) .ret))
abbrev i65_V : List Nat := [0, 1, 2, 3, 4, 5]
def i65 : IFn := ⟨12, i65_V, [.tmp 4, .tmp 5], i65_B⟩
theorem i65_ok : compF Try.prog i65_V Try.f65 = some i65 := by kernel_rfl
/-! slices.Insert[[]funicular/api.Sub,funicular/api.Sub] -/
abbrev i66_R0 := [oo 6 (.mv (.c (.nil)))]
abbrev i66_R1 := [oo 10 (mT 0), oo 11 (mT 1), oo 12 (.sll 6 (.t 10) (some (.t 11)) none none)]
abbrev i66_R2 := [oo 13 (mT 2), oo 14 (lL 13), oo 7 (mT 14)]
abbrev i66_R3 := [oo 15 (mT 7), oo 16 (bK .eql 15 0)]
abbrev i66_R4 := [oo 17 (mT 0), oo 6 (mT 17)]
abbrev i66_R5 := [oo 18 (mT 0), oo 19 (lL 18), oo 8 (mT 19)]
abbrev i66_R6 := [oo 20 (mT 1), oo 21 (mT 8), oo 22 (bB .eql 20 21)]
abbrev i66_R7 := [oo 23 (mT 0), oo 24 (mT 2), oo 25 (.app 6 (.t 23) (.t 24)), oo 6 (mT 25)]
abbrev i66_R8 := [oo 26 (mT 8), oo 27 (mT 7), oo 28 (bB .add 26 27), oo 29 (mT 0), oo 30 .no, oo 31 (bB .gtr 28 30)]
abbrev i66_R9 := [oo 32 (mT 0), oo 33 (mT 1), oo 34 (.sll 6 (.t 32) none (some (.t 33)) none), oo 35 (mT 8), oo 36 (mT 7), oo 37 (bB .add 35 36), oo 38 (mT 1), oo 39 (bB .sub 37 38), oo 40 .no, oo 9 (mT 40)]
abbrev i66_R10 := [oo 41 (mT 9), oo 42 (mT 1), oo 43 (.sll 6 (.t 41) (some (.t 42)) none none), oo 44 (mT 2), oo 45 (.cpy 6 (.t 43) (.t 44))]
abbrev i66_R11 := [oo 46 (mT 9), oo 47 (mT 1), oo 48 (mT 7), oo 49 (bB .add 47 48), oo 50 (.sll 6 (.t 46) (some (.t 49)) none none), oo 51 (mT 0), oo 52 (mT 1), oo 53 (.sll 6 (.t 51) (some (.t 52)) none none), oo 54 (.cpy 6 (.t 50) (.t 53))]
abbrev i66_R12 := [oo 55 (mT 9), oo 6 (mT 55)]
abbrev i66_R13 := [oo 56 (mT 0), oo 57 (mT 8), oo 58 (mT 7), oo 59 (bB .add 57 58), oo 60 (.sll 6 (.t 56) none (some (.t 59)) none), oo 0 (mT 60)]
abbrev i66_R14 := [oo 61 (mT 2), oo 62 (mT 0), oo 63 (mT 1), oo 64 (mT 7), oo 65 (bB .add 63 64), oo 66 (.sll 6 (.t 62) (some (.t 65)) none none), oo 67 (.call 88 [(.t 61), (.t 66)]), oo 68 (.nt (.t 67))]
abbrev i66_R15 := [oo 69 (mT 0), oo 70 (mT 1), oo 71 (mT 7), oo 72 (bB .add 70 71), oo 73 (.sll 6 (.t 69) (some (.t 72)) none none), oo 74 (mT 0), oo 75 (mT 1), oo 76 (.sll 6 (.t 74) (some (.t 75)) none none), oo 77 (.cpy 6 (.t 73) (.t 76))]
abbrev i66_R16 := [oo 78 (mT 0), oo 79 (mT 1), oo 80 (.sll 6 (.t 78) (some (.t 79)) none none), oo 81 (mT 2), oo 82 (.cpy 6 (.t 80) (.t 81))]
abbrev i66_R17 := [oo 83 (mT 0), oo 6 (mT 83)]
abbrev i66_R18 := [oo 84 (mT 0), oo 85 (mT 8), oo 86 (.sll 6 (.t 84) (some (.t 85)) none none), oo 87 (mT 2), oo 88 (.cpy 6 (.t 86) (.t 87))]
abbrev i66_R19 := [oo 89 (mT 0), oo 90 (mT 1), oo 91 (.sll 6 (.t 89) (some (.t 90)) none none), oo 92 (mT 7), oo 93 (.call 89 [(.t 91), (.t 92)])]
abbrev i66_R20 := [oo 94 (mT 0), oo 6 (mT 94)]
abbrev i66_B : IC := (.seq (.reg none i66_R0) (.seq (.reg none i66_R1) (.seq (.reg none i66_R2) (.seq (.seq (.reg none i66_R3) (.cond (.t 16) (.seq (.reg none i66_R4) .ret) .skip)) (.seq (.reg none i66_R5) (.seq (.seq (.reg none i66_R6) (.cond (.t 22) (.seq (.reg none i66_R7) .ret) .skip)) (.seq (.seq (.reg none i66_R8) (.cond (.t 31) (.seq (.reg none i66_R9) (.seq (.reg none i66_R10) (.seq (.reg (some []) i66_R11) (.seq (.reg none i66_R12) .ret)))) .skip)) (.seq (.reg none i66_R13) (.seq (.seq (.reg none i66_R14) (.cond (.t 68) (.seq (.reg (some []) i66_R15) (.seq (.reg none i66_R16) (.seq (.reg none i66_R17) .ret))) .skip)) (.seq (.reg none i66_R18) (.seq (.reg none i66_R19) (.seq (.reg none i66_R20) .ret))))))))))))
abbrev i66_V : List Nat := [0, 1, 2, 6, 7, 8, 9, 16, 22, 31, 68]
def i66 : IFn := ⟨95, i66_V, [.tmp 6], i66_B⟩
theorem i66_ok : compF Try.prog i66_V Try.f66 = some i66 := by kernel_rfl
/-! slices.DeleteFunc[[]funicular/api.Mail,funicular/api.Mail] -/
abbrev i68_R0 := [oo 4 (.mv (.c (.nil)))]
abbrev i68_R1 := [oo 8 (mT 0), oo 9 (mT 1), oo 10 (.call 90 [(.t 8), (.t 9)]), oo 5 (mT 10)]
abbrev i68_R2 := [oo 11 (mT 5), oo 12 (bK .eql 11 (-1))]
abbrev i68_R3 := [oo 13 (mT 0), oo 4 (mT 13)]
abbrev i68_R4 := [oo 14 (mT 5), oo 15 (bK .add 14 1), oo 6 (mT 15)]
abbrev i68_R5 := [oo 16 (mT 6), oo 17 (mT 0), oo 18 (lL 17), oo 19 (bB .lss 16 18)]
abbrev i68_R6 := [oo 22 (mT 0), oo 23 (mT 6), oo 24 (iA 7 22 23), oo 25 (lT 7 24), oo 7 (.alloc [zI, .str ⟨#[]⟩, zI, .nil, .nil, zI, .nil]), oe (sT 7 7 25)]
abbrev i68_R7 := [oo 26 (mT 1), oo 27 (lT 7 7), oo 28 (.callv (.t 26) [(.t 27)]), oo 29 (.nt (.t 28))]
abbrev i68_R8 := [oo 30 (mT 0), oo 31 (mT 5), oo 32 (lT 7 7), oo 33 (iA 7 30 31), oe (sT 7 33 32)]
abbrev i68_R9 := [oo 34 (mT 5), oo 35 (bK .add 34 1), oo 5 (mT 35)]
abbrev i68_R10 := [oo 20 (mT 6), oo 21 (bK .add 20 1), oo 6 (mT 21)]
abbrev i68_L0 : IC := (.seq (.seq (.reg none i68_R5) (.cond (.t 19) .skip (.out 0))) (.seq (.block 1 (.seq (.reg none i68_R6) (.seq (.reg none i68_R7) (.cond (.t 29) (.seq (.reg none i68_R8) (.reg none i68_R9)) .skip)))) (.reg none i68_R10)))
abbrev i68_R11 := [oo 36 (mT 0), oo 37 (mT 5), oo 38 (.sll 7 (.t 36) (some (.t 37)) none none), oe (.clr 7 [zI, .str ⟨#[]⟩, zI, .imm 0 [] false, .imm 0 [] false, zI, .imm 0 [] false] (.t 38))]
abbrev i68_R12 := [oo 39 (mT 0), oo 40 (mT 5), oo 41 (.sll 7 (.t 39) none (some (.t 40)) none), oo 4 (mT 41)]
abbrev i68_B : IC := (.seq (.reg none i68_R0) (.seq (.reg none i68_R1) (.seq (.seq (.reg none i68_R2) (.cond (.t 12) (.seq (.reg none i68_R3) .ret) .skip)) (.seq (.seq (.reg none i68_R4) (.block 0 (.loop i68_L0))) (.seq (.reg none i68_R11) (.seq (.reg none i68_R12) .ret))))))
abbrev i68_V : List Nat := [0, 1, 4, 5, 6, 7, 12, 19, 29]
def i68 : IFn := ⟨42, i68_V, [.tmp 4], i68_B⟩
theorem i68_ok : compF Try.prog i68_V Try.f68 = some i68 := by kernel_rfl
/-! funicular/post.Expire$1 -/
abbrev i69_R0 := [oo 2 (.box (.t 0)), oo 3 (.mv kF)]
abbrev i69_R1 := [oo 4 (fA 5 2), oo 5 (lF 4), oo 6 (lF 1), oo 7 (bB .leq 5 6), oo 3 (mT 7)]
abbrev i69_B : IC := (.seq (.reg none i69_R0) (.seq (.reg none i69_R1) .ret))
abbrev i69_V : List Nat := [0, 1, 2, 3]
def i69 : IFn := ⟨8, i69_V, [.tmp 3], i69_B⟩
theorem i69_ok : compF Try.prog i69_V Try.f69 = some i69 := by kernel_rfl
/-! (*funicular/post.reader).next -/
abbrev i70_R0 := [oo 2 (.mv (kI 0))]
abbrev i70_R1 := [oo 7 (mT 0), oo 8 (nT 7), oo 9 (fA 0 8), oo 10 (lF 9), oo 11 (.call 91 [(.t 10)]), oo 6 (mT 11), oo 12 (xT 0 6), oo 13 (xT 1 6), oo 14 (xT 2 6), oo 3 (mT 12), oo 4 (mT 13), oo 5 (mT 14)]
abbrev i70_R2 := [oo 15 (mT 5), oo 16 (bK .eql 15 0), oo 17 (mT 16), og 18 17 true (mT 3), og 19 17 true (.bin .gtr (.t 18) (.c (.int .u64 1099511627776))), oo 20 (.pick (.t 17) (.t 19) kF)]
abbrev i70_R3 := [oo 5 (.mv (kI 6))]
abbrev i70_R4 := [oo 21 (mT 0), oo 22 (mT 4), oo 23 (mT 5), oo 24 (.call 92 [(.t 21), (.t 22), (.t 23)]), oo 25 (.nt (.t 24))]
abbrev i70_R5 := [oo 2 (.mv (kI 0))]
abbrev i70_R6 := [oo 26 (mT 3), oo 27 (.cvt .i64 (.t 26)), oo 2 (mT 27)]
abbrev i70_B : IC := (.seq (.reg none i70_R0) (.seq (.reg none i70_R1) (.seq (.seq (.reg none i70_R2) (.cond (.t 20) (.reg none i70_R3) .skip)) (.seq (.seq (.reg none i70_R4) (.cond (.t 25) (.seq (.reg none i70_R5) .ret) .skip)) (.seq (.reg none i70_R6) .ret)))))
abbrev i70_V : List Nat := [0, 2, 3, 4, 5, 20, 25]
def i70 : IFn := ⟨28, i70_V, [.tmp 2], i70_B⟩
theorem i70_ok : compF Try.prog i70_V Try.f70 = some i70 := by kernel_rfl
/-! (*funicular/post.reader).name -/
abbrev i71_R0 := [oo 2 (.mv (.c (.str ⟨#[]⟩)))]
abbrev i71_R1 := [oo 7 (mT 0), oo 8 (nT 7), oo 9 (fA 0 8), oo 10 (lF 9), oo 11 (.call 93 [(.t 10)]), oo 6 (mT 11), oo 12 (xT 0 6), oo 13 (xT 1 6), oo 14 (xT 2 6), oo 3 (mT 12), oo 4 (mT 13), oo 5 (mT 14)]
abbrev i71_R2 := [oo 15 (mT 0), oo 16 (mT 4), oo 17 (mT 5), oo 18 (.call 92 [(.t 15), (.t 16), (.t 17)]), oo 19 (.nt (.t 18))]
abbrev i71_R3 := [oo 2 (.mv (.c (.str ⟨#[]⟩)))]
abbrev i71_R4 := [oo 20 (mT 3), oo 21 (.b2s (.t 20)), oo 2 (mT 21)]
abbrev i71_B : IC := (.seq (.reg none i71_R0) (.seq (.reg none i71_R1) (.seq (.seq (.reg none i71_R2) (.cond (.t 19) (.seq (.reg none i71_R3) .ret) .skip)) (.seq (.reg none i71_R4) .ret))))
abbrev i71_V : List Nat := [0, 2, 3, 4, 5, 19]
def i71 : IFn := ⟨22, i71_V, [.tmp 2], i71_B⟩
theorem i71_ok : compF Try.prog i71_V Try.f71 = some i71 := by kernel_rfl
/-! (*funicular/post.reader).key -/
abbrev i72_R0 := [oo 2 (.mv (kI 0))]
abbrev i72_R1 := [oo 7 (mT 0), oo 8 (nT 7), oo 9 (fA 0 8), oo 10 (lF 9), oo 11 (.call 94 [(.t 10)]), oo 6 (mT 11), oo 12 (xT 0 6), oo 13 (xT 1 6), oo 14 (xT 2 6), oo 3 (mT 12), oo 4 (mT 13), oo 5 (mT 14)]
abbrev i72_R2 := [oo 15 (mT 0), oo 16 (mT 4), oo 17 (mT 5), oo 18 (.call 92 [(.t 15), (.t 16), (.t 17)]), oo 19 (.nt (.t 18))]
abbrev i72_R3 := [oo 2 (.mv (kI 0))]
abbrev i72_R4 := [oo 20 (mT 3), oo 2 (mT 20)]
abbrev i72_B : IC := (.seq (.reg none i72_R0) (.seq (.reg none i72_R1) (.seq (.seq (.reg none i72_R2) (.cond (.t 19) (.seq (.reg none i72_R3) .ret) .skip)) (.seq (.reg none i72_R4) .ret))))
abbrev i72_V : List Nat := [0, 2, 3, 4, 5, 19]
def i72 : IFn := ⟨21, i72_V, [.tmp 2], i72_B⟩
theorem i72_ok : compF Try.prog i72_V Try.f72 = some i72 := by kernel_rfl
/-! (*funicular/post.reader).vars -/
abbrev i73_R0 := [oo 2 (.alloc [.nil, .nil])]
abbrev i73_R1 := [oo 7 (mT 0), oo 8 (nT 7), oo 9 (fA 0 8), oo 10 (lF 9), oo 11 (.call 95 [(.t 10)]), oo 6 (mT 11), oo 12 (xT 0 6), oo 13 (xT 1 6), oo 14 (xT 2 6), oo 3 (.alloc [.nil, .nil]), oe (sT 2 3 12), oo 4 (mT 13), oo 5 (mT 14)]
abbrev i73_R2 := [oo 15 (mT 0), oo 16 (mT 4), oo 17 (mT 5), oo 18 (.call 92 [(.t 15), (.t 16), (.t 17)]), oo 19 (.nt (.t 18))]
abbrev i73_R3 := [oo 20 (.build [.nil, .nil] []), oe (sT 2 2 20)]
abbrev i73_R4 := [oo 21 (lT 2 3), oe (sT 2 2 21)]
abbrev i73_B : IC := (.seq (.reg none i73_R0) (.seq (.reg none i73_R1) (.seq (.seq (.reg none i73_R2) (.cond (.t 19) (.seq (.reg none i73_R3) .ret) .skip)) (.seq (.reg none i73_R4) .ret))))
abbrev i73_V : List Nat := [0, 2, 3, 4, 5, 19]
def i73 : IFn := ⟨22, i73_V, [.cell 2 true 2], i73_B⟩
theorem i73_ok : compF Try.prog i73_V Try.f73 = some i73 := by kernel_rfl
/-! funicular/post.number -/
abbrev i74_R0 := [oo 4 (.mv (.c (.nil)))]
abbrev i74_R1 := [oo 7 (mT 1), oo 8 (lL 7), oo 9 (.mv (kI 0))]
abbrev i74_R2 := [oo 10 (bB .lss 9 8)]
abbrev i74_R3 := [oo 11 (iA 1 7 9), oo 12 (lF 11), oo 6 (mT 12)]
abbrev i74_R4 := [oo 13 (mT 0), oo 14 (mT 6), oo 15 (.cvt .u64 (.t 14)), oo 16 (.call 96 [(.t 13), (.t 15)]), oo 0 (mT 16)]
abbrev i74_R5 := [oo 17 (bK .add 9 1), oo 9 (mT 17)]
abbrev i74_L0 : IC := (.seq (.reg none i74_R2) (.seq (.cond (.t 10) .skip (.out 0)) (.seq (.block 1 (.seq (.reg none i74_R3) (.reg none i74_R4))) (.reg none i74_R5))))
abbrev i74_R6 := [oo 18 (mT 0), oo 4 (mT 18)]
abbrev i74_B : IC := (.seq (.reg none i74_R0) (.seq (.seq (.reg none i74_R1) (.block 0 (.loop i74_L0))) (.seq (.reg none i74_R6) .ret)))
abbrev i74_V : List Nat := [0, 1, 4, 6, 7, 8, 9, 10]
def i74 : IFn := ⟨19, i74_V, [.tmp 4], i74_B⟩
theorem i74_ok : compF Try.prog i74_V Try.f74 = some i74 := by kernel_rfl
/-! funicular/pack.Bytes -/
abbrev i75_R0 := [oo 4 (.mv (.c (.nil)))]
abbrev i75_R1 := [oo 5 (mT 0), oo 6 (mT 1), oo 7 (lL 6), oo 8 (.cvt .u64 (.t 7)), oo 9 (.call 96 [(.t 5), (.t 8)]), oo 10 (mT 1), oo 11 (.app 1 (.t 9) (.t 10)), oo 4 (mT 11)]
abbrev i75_B : IC := (.seq (.reg none i75_R0) (.seq (.reg none i75_R1) .ret))
abbrev i75_V : List Nat := [0, 1, 4]
def i75 : IFn := ⟨12, i75_V, [.tmp 4], i75_B⟩
theorem i75_ok : compF Try.prog i75_V Try.f75 = some i75 := by kernel_rfl
/-! funicular/vars.Put -/
abbrev i76_R0 := [oo 3 (.box (.t 1)), oo 4 (.mv (.c (.nil)))]
abbrev i76_R1 := [oo 7 (mT 0), oo 8 (fA 0 3), oo 9 (lF 8), oo 10 (lL 9), oo 11 (.cvt .u64 (.t 10)), oo 12 (.call 96 [(.t 7), (.t 11)]), oo 0 (mT 12)]
abbrev i76_R2 := [oo 13 (fA 0 3), oo 14 (lF 13), oo 15 (lL 14), oo 16 (.mv (kI 0))]
abbrev i76_R3 := [oo 17 (bB .lss 16 15)]
abbrev i76_R4 := [oo 18 (mT 16), oo 19 (iA 1 14 16), oo 20 (lF 19), oo 5 (mT 18), oo 6 (mT 20)]
abbrev i76_R5 := [oo 21 (mT 0), oo 22 (mT 6), oo 23 (.s2b (.t 22)), oo 24 (.call 75 [(.t 21), (.t 23)]), oo 0 (mT 24)]
abbrev i76_R6 := [oo 25 (mT 0), oo 26 (fA 1 3), oo 27 (lF 26), oo 28 (mT 5), oo 29 (iA 1 27 28), oo 30 (lF 29), oo 31 (.call 77 [(.t 25), (.t 30)]), oo 0 (mT 31)]
abbrev i76_R7 := [oo 32 (bK .add 16 1), oo 16 (mT 32)]
abbrev i76_L0 : IC := (.seq (.reg none i76_R3) (.seq (.cond (.t 17) .skip (.out 0)) (.seq (.block 1 (.seq (.reg none i76_R4) (.seq (.reg none i76_R5) (.reg none i76_R6)))) (.reg none i76_R7))))
abbrev i76_R8 := [oo 33 (mT 0), oo 4 (mT 33)]
abbrev i76_B : IC := (.seq (.reg none i76_R0) (.seq (.reg none i76_R1) (.seq (.seq (.reg none i76_R2) (.block 0 (.loop i76_L0))) (.seq (.reg none i76_R8) .ret))))
abbrev i76_V : List Nat := [0, 1, 3, 4, 5, 6, 14, 15, 16, 17]
def i76 : IFn := ⟨34, i76_V, [.tmp 4], i76_B⟩
theorem i76_ok : compF Try.prog i76_V Try.f76 = some i76 := by kernel_rfl
/-! funicular/pack.Int -/
abbrev i77_R0 := [oo 4 (.mv (.c (.nil)))]
abbrev i77_R1 := [oo 5 (mT 0), oo 6 (mT 1), oo 7 (.cvt .u64 (.t 6)), oo 8 (.bin .shl (.t 7) (.c (.int .u64 1))), oo 9 (mT 1), oo 10 (.bin .shr (.t 9) (.c (.int .u64 63))), oo 11 (.cvt .u64 (.t 10)), oo 12 (bB .xor 8 11), oo 13 (.call 96 [(.t 5), (.t 12)]), oo 4 (mT 13)]
abbrev i77_B : IC := (.seq (.reg none i77_R0) (.seq (.reg none i77_R1) .ret))
abbrev i77_V : List Nat := [0, 1, 4]
def i77 : IFn := ⟨14, i77_V, [.tmp 4], i77_B⟩
theorem i77_ok : compF Try.prog i77_V Try.f77 = some i77 := by kernel_rfl
/-! funicular/post.part -/
abbrev i78_R0 := [oo 2 (.mv kF)]
abbrev i78_R1 := [oo 3 (mT 0), oo 4 (bK .geq 3 0), oo 5 (mT 4), og 6 5 true (mT 0), og 7 5 true (bK .lss 6 64), oo 8 (.pick (.t 5) (.t 7) kF), oo 2 (mT 8)]
abbrev i78_B : IC := (.seq (.reg none i78_R0) (.seq (.reg none i78_R1) .ret))
abbrev i78_V : List Nat := [0, 2]
def i78 : IFn := ⟨9, i78_V, [.tmp 2], i78_B⟩
theorem i78_ok : compF Try.prog i78_V Try.f78 = some i78 := by kernel_rfl
/-! slices.Contains[[]funicular/api.Who,funicular/api.Who] -/
abbrev i79_R0 := [oo 3 (.box (.t 1)), oo 4 (.mv kF)]
abbrev i79_R1 := [oo 5 (mT 0), oo 6 (lT 2 3), oo 7 (.call 97 [(.t 5), (.t 6)]), oo 8 (bK .geq 7 0), oo 4 (mT 8)]
abbrev i79_B : IC := (.seq (.reg none i79_R0) (.seq (.reg none i79_R1) .ret))
abbrev i79_V : List Nat := [0, 1, 3, 4]
def i79 : IFn := ⟨9, i79_V, [.tmp 4], i79_B⟩
theorem i79_ok : compF Try.prog i79_V Try.f79 = some i79 := by kernel_rfl
/-! funicular/funicularref22.took -/
abbrev i80_R0 := [oo 6 (.mv kF)]
abbrev i80_R1 := [oo 7 (.mv (kI 0))]
abbrev i80_R2 := [oo 8 (mT 7), oo 9 (mT 0), oo 10 (lL 9), oo 11 (bB .lss 8 10)]
abbrev i80_R3 := [oo 14 (mT 0), oo 15 (mT 7), oo 16 (iA 2 14 15), oo 17 (fA 0 16), oo 18 (lF 17), oo 19 (mT 1), oo 20 (bB .eql 18 19), oo 21 (mT 20), og 22 21 true (mT 0), og 23 21 true (mT 7), og 24 21 true (iA 2 22 23), og 25 21 true (fA 1 24), og 26 21 true (lF 25), og 27 21 true (mT 2), og 28 21 true (bB .eql 26 27), oo 29 (.pick (.t 21) (.t 28) kF)]
abbrev i80_R4 := [oo 6 (.mv kT)]
abbrev i80_R5 := [oo 12 (mT 7), oo 13 (bK .add 12 1), oo 7 (mT 13)]
abbrev i80_L0 : IC := (.seq (.seq (.reg none i80_R2) (.cond (.t 11) .skip (.out 0))) (.seq (.block 1 (.seq (.reg none i80_R3) (.cond (.t 29) (.seq (.reg none i80_R4) .ret) .skip))) (.reg none i80_R5)))
abbrev i80_R6 := [oo 6 (.mv kF)]
abbrev i80_B : IC := (.seq (.reg none i80_R0) (.seq (.seq (.reg none i80_R1) (.block 0 (.loop i80_L0))) (.seq (.reg none i80_R6) .ret)))
abbrev i80_V : List Nat := [0, 1, 2, 6, 7, 11, 29]
def i80 : IFn := ⟨30, i80_V, [.tmp 6], i80_B⟩
theorem i80_ok : compF Try.prog i80_V Try.f80 = some i80 := by kernel_rfl
/-! slices.Equal[[]string,string] -/
abbrev i81_R0 := [oo 4 (.mv kF)]
abbrev i81_R1 := [oo 6 (mT 0), oo 7 (lL 6), oo 8 (mT 1), oo 9 (lL 8), oo 10 (bB .neq 7 9)]
abbrev i81_R2 := [oo 4 (.mv kF)]
abbrev i81_R3 := [oo 11 (mT 0), oo 12 (lL 11), oo 13 (.mv (kI 0))]
abbrev i81_R4 := [oo 14 (bB .lss 13 12)]
abbrev i81_R5 := [oo 15 (mT 13), oo 5 (mT 15)]
abbrev i81_R6 := [oo 16 (mT 0), oo 17 (mT 5), oo 18 (iA 1 16 17), oo 19 (lF 18), oo 20 (mT 1), oo 21 (mT 5), oo 22 (iA 1 20 21), oo 23 (lF 22), oo 24 (bB .neq 19 23)]
abbrev i81_R7 := [oo 4 (.mv kF)]
abbrev i81_R8 := [oo 25 (bK .add 13 1), oo 13 (mT 25)]
abbrev i81_L0 : IC := (.seq (.reg none i81_R4) (.seq (.cond (.t 14) .skip (.out 0)) (.seq (.block 1 (.seq (.reg none i81_R5) (.seq (.reg (some []) i81_R6) (.cond (.t 24) (.seq (.reg none i81_R7) .ret) .skip)))) (.reg none i81_R8))))
abbrev i81_R9 := [oo 4 (.mv kT)]
abbrev i81_B : IC := (.seq (.reg none i81_R0) (.seq (.seq (.reg none i81_R1) (.cond (.t 10) (.seq (.reg none i81_R2) .ret) .skip)) (.seq (.seq (.reg none i81_R3) (.block 0 (.loop i81_L0))) (.seq (.reg none i81_R9) .ret))))
abbrev i81_V : List Nat := [0, 1, 4, 5, 10, 12, 13, 14, 24]
def i81 : IFn := ⟨26, i81_V, [.tmp 4], i81_B⟩
theorem i81_ok : compF Try.prog i81_V Try.f81 = some i81 := by kernel_rfl
/-! slices.Equal[[]int64,int64] -/
abbrev i82_R0 := [oo 4 (.mv kF)]
abbrev i82_R1 := [oo 6 (mT 0), oo 7 (lL 6), oo 8 (mT 1), oo 9 (lL 8), oo 10 (bB .neq 7 9)]
abbrev i82_R2 := [oo 4 (.mv kF)]
abbrev i82_R3 := [oo 11 (mT 0), oo 12 (lL 11), oo 13 (.mv (kI 0))]
abbrev i82_R4 := [oo 14 (bB .lss 13 12)]
abbrev i82_R5 := [oo 15 (mT 13), oo 5 (mT 15)]
abbrev i82_R6 := [oo 16 (mT 0), oo 17 (mT 5), oo 18 (iA 1 16 17), oo 19 (lF 18), oo 20 (mT 1), oo 21 (mT 5), oo 22 (iA 1 20 21), oo 23 (lF 22), oo 24 (bB .neq 19 23)]
abbrev i82_R7 := [oo 4 (.mv kF)]
abbrev i82_R8 := [oo 25 (bK .add 13 1), oo 13 (mT 25)]
abbrev i82_L0 : IC := (.seq (.reg none i82_R4) (.seq (.cond (.t 14) .skip (.out 0)) (.seq (.block 1 (.seq (.reg none i82_R5) (.seq (.reg (some []) i82_R6) (.cond (.t 24) (.seq (.reg none i82_R7) .ret) .skip)))) (.reg none i82_R8))))
abbrev i82_R9 := [oo 4 (.mv kT)]
abbrev i82_B : IC := (.seq (.reg none i82_R0) (.seq (.seq (.reg none i82_R1) (.cond (.t 10) (.seq (.reg none i82_R2) .ret) .skip)) (.seq (.seq (.reg none i82_R3) (.block 0 (.loop i82_L0))) (.seq (.reg none i82_R9) .ret))))
abbrev i82_V : List Nat := [0, 1, 4, 5, 10, 12, 13, 14, 24]
def i82 : IFn := ⟨26, i82_V, [.tmp 4], i82_B⟩
theorem i82_ok : compF Try.prog i82_V Try.f82 = some i82 := by kernel_rfl
/-! funicular/funicularref08.Texts -/
abbrev i85_R0 := [oo 4 (.mv kF)]
abbrev i85_R1 := [oo 6 (mT 0), oo 7 (lL 6), oo 8 (mT 1), oo 9 (lL 8), oo 10 (bB .neq 7 9)]
abbrev i85_R2 := [oo 4 (.mv kF)]
abbrev i85_R3 := [oo 5 (.mv (kI 0))]
abbrev i85_R4 := [oo 11 (mT 5), oo 12 (mT 0), oo 13 (lL 12), oo 14 (bB .lss 11 13)]
abbrev i85_R5 := [oo 17 (mT 0), oo 18 (mT 5), oo 19 (iA 1 17 18), oo 20 (lF 19), oo 21 (mT 1), oo 22 (mT 5), oo 23 (iA 1 21 22), oo 24 (lF 23), oo 25 (bB .neq 20 24)]
abbrev i85_R6 := [oo 4 (.mv kF)]
abbrev i85_R7 := [oo 15 (mT 5), oo 16 (bK .add 15 1), oo 5 (mT 16)]
abbrev i85_L0 : IC := (.seq (.seq (.reg none i85_R4) (.cond (.t 14) .skip (.out 0))) (.seq (.block 1 (.seq (.reg (some []) i85_R5) (.cond (.t 25) (.seq (.reg none i85_R6) .ret) .skip))) (.reg none i85_R7)))
abbrev i85_R8 := [oo 4 (.mv kT)]
abbrev i85_B : IC := (.seq (.reg none i85_R0) (.seq (.seq (.reg none i85_R1) (.cond (.t 10) (.seq (.reg none i85_R2) .ret) .skip)) (.seq (.seq (.reg none i85_R3) (.block 0 (.loop i85_L0))) (.seq (.reg none i85_R8) .ret))))
abbrev i85_V : List Nat := [0, 1, 4, 5, 10, 14, 25]
def i85 : IFn := ⟨26, i85_V, [.tmp 4], i85_B⟩
theorem i85_ok : compF Try.prog i85_V Try.f85 = some i85 := by kernel_rfl
end Go.Proofs.Ytefjblgmnoheiaa.R
