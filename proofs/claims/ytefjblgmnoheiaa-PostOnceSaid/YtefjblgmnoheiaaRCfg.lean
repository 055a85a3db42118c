import Derived.Test.YtefjblgmnoheiaaRDefs
import Derived.Test.YtefjblgmnoheiaaProg
import Derived.KernelRfl
namespace Go.Proofs.Ytefjblgmnoheiaa.R
open Go
set_option maxRecDepth 100000
/-! The compact code, and that it is the program's. -/
/-! funicular/funicularlaw22.PostOnce -/
abbrev i6_R0 := [oo 2 (.mv kF)]
abbrev i6_R1 := [oo 14 (mT 0), oo 15 (.call 29 [(.t 14)]), oo 16 (.nt (.t 15))]
abbrev i6_R2 := [oo 17 (.call 9 []), oo 2 (mT 17)]
abbrev i6_R3 := [oo 18 (.call 30 []), oo 3 (.alloc [zI, .nil, .nil]), oe (sT 3 3 18)]
abbrev i6_R4 := [oo 4 (.mv (.c (.nil)))]
abbrev i6_R5 := [oo 5 (.mv (.c (.nil)))]
abbrev i6_R6 := [oo 6 (.mv (kI 0))]
abbrev i6_R7 := [oo 19 (mT 6), oo 20 (mT 0), oo 21 (lL 20), oo 22 (bB .lss 19 21)]
abbrev i6_R8 := [oo 26 (lT 3 3), oo 27 (mT 0), oo 28 (mT 6), oo 29 (iA 10 27 28), oo 30 (lT 10 29), oo 31 (.call 31 [(.t 26), (.t 30)]), oo 25 (mT 31), oo 32 (xT 0 25), oo 33 (xT 1 25), oo 7 (.alloc [zI, .nil, .nil]), oe (sT 3 7 32), oo 8 (mT 33)]
abbrev i6_R9 := [oo 34 (lT 3 7), oo 35 (.call 10 [(.t 34)]), oo 36 (bK .neq 35 0)]
abbrev i6_R10 := [oo 2 (.mv kF)]
abbrev i6_R11 := [oo 9 (.mv (kI 0))]
abbrev i6_R12 := [oo 37 (mT 9), oo 38 (mT 8), oo 39 (lL 38), oo 40 (bB .lss 37 39)]
abbrev i6_R13 := [oo 43 (lT 3 7), oo 44 (mT 8), oo 45 (mT 9), oo 46 (iA 5 44 45), oo 47 (fA 0 46), oo 48 (lF 47), oo 49 (mT 8), oo 50 (mT 9), oo 51 (iA 5 49 50), oo 52 (fA 1 51), oo 53 (lF 52), oo 54 (.call 32 [(.t 43), (.t 48), (.t 53)]), oo 10 (mT 54)]
abbrev i6_R14 := [oo 55 (lT 3 3), oo 56 (mT 8), oo 57 (mT 9), oo 58 (iA 5 56 57), oo 59 (fA 0 58), oo 60 (lF 59), oo 61 (mT 8), oo 62 (mT 9), oo 63 (iA 5 61 62), oo 64 (fA 1 63), oo 65 (lF 64), oo 66 (.call 32 [(.t 55), (.t 60), (.t 65)]), oo 11 (mT 66)]
abbrev i6_R15 := [oo 67 (mT 10), oo 68 (bK .lss 67 0), oo 69 (mT 68), og 70 69 false (fA 2 7), og 71 69 false (lF 70), og 72 69 false (mT 10), og 73 69 false (iA 6 71 72), og 74 69 false (fA 5 73), og 75 69 false (lF 74), og 76 69 false (mT 8), og 77 69 false (mT 9), og 78 69 false (iA 5 76 77), og 79 69 false (fA 2 78), og 80 69 false (lF 79), og 81 69 false (bB .neq 75 80), oo 82 (.pick (.t 69) kT (.t 81)), oo 83 (mT 82), og 84 83 false (mT 11), og 85 83 false (bK .geq 84 0), og 86 83 false (mT 85), og 87 86 true (fA 2 3), og 88 86 true (lF 87), og 89 86 true (mT 11), og 90 86 true (iA 6 88 89), og 91 86 true (fA 5 90), og 92 86 true (lF 91), og 93 86 true (bK .neq 92 0), og 94 83 false (.pick (.t 86) (.t 93) kF), oo 95 (.pick (.t 83) kT (.t 94))]
abbrev i6_R16 := [oo 2 (.mv kF)]
abbrev i6_R17 := [oo 96 (mT 8), oo 97 (mT 9), oo 98 (iA 5 96 97), oo 99 (fA 0 98), oo 100 (lF 99), oo 101 (fA 2 7), oo 102 (lF 101), oo 103 (mT 10), oo 104 (iA 6 102 103), oo 105 (fA 2 104), oo 106 (lF 105), oo 107 (.build [zI, zI] [(0, 1, (.t 100)), (1, 1, (.t 106))]), oo 12 (.alloc [zI, zI]), oe (sT 2 12 107)]
abbrev i6_R18 := [oo 13 (.mv (kI 0))]
abbrev i6_R19 := [oo 108 (mT 13), oo 109 (mT 4), oo 110 (lL 109), oo 111 (bB .lss 108 110)]
abbrev i6_R20 := [oo 114 (mT 4), oo 115 (mT 13), oo 116 (iA 1 114 115), oo 117 (lF 116), oo 118 (mT 8), oo 119 (mT 9), oo 120 (iA 5 118 119), oo 121 (fA 2 120), oo 122 (lF 121), oo 123 (bB .eql 117 122), oo 124 (mT 123), og 125 124 true (mT 5), og 126 124 true (mT 13), og 127 124 true (iA 2 125 126), og 128 124 true (lT 2 127), og 129 124 true (lT 2 12), og 130 124 true (.eqc false [(0, 1), (1, 1)] (.t 128) (.t 129)), oo 131 (.pick (.t 124) (.t 130) kF)]
abbrev i6_R21 := [oo 2 (.mv kF)]
abbrev i6_R22 := [oo 112 (mT 13), oo 113 (bK .add 112 1), oo 13 (mT 113)]
abbrev i6_L0 : IC := (.seq (.seq (.reg none i6_R19) (.cond (.t 111) .skip (.out 4))) (.seq (.block 5 (.seq (.reg (some []) i6_R20) (.cond (.t 131) (.seq (.reg none i6_R21) .ret) .skip))) (.reg none i6_R22)))
abbrev i6_R23 := [oo 132 (mT 4), oo 133 (mT 8), oo 134 (mT 9), oo 135 (iA 5 133 134), oo 136 (fA 2 135), oo 137 (lF 136), oo 138 (.bsl 1 [zI] 1 [(0, (.t 137))]), oo 139 (.app 1 (.t 132) (.t 138)), oo 4 (mT 139)]
abbrev i6_R24 := [oo 140 (mT 5), oo 141 (lT 2 12), oo 142 (.bsl 2 [zI, zI] 1 [(0, (.t 141))]), oo 143 (.app 2 (.t 140) (.t 142)), oo 5 (mT 143)]
abbrev i6_R25 := [oo 41 (mT 9), oo 42 (bK .add 41 1), oo 9 (mT 42)]
abbrev i6_L1 : IC := (.seq (.seq (.reg none i6_R12) (.cond (.t 40) .skip (.out 2))) (.seq (.block 3 (.seq (.reg (some []) i6_R13) (.seq (.reg (some []) i6_R14) (.seq (.seq (.reg (some []) i6_R15) (.cond (.t 95) (.seq (.reg none i6_R16) .ret) .skip)) (.seq (.reg (some [(4, 12), (6, 12), (10, 12)]) i6_R17) (.seq (.seq (.reg none i6_R18) (.block 4 (.loop i6_L0))) (.seq (.reg none i6_R23) (.reg none i6_R24)))))))) (.reg none i6_R25)))
abbrev i6_R26 := [oo 144 (lT 3 7), oe (sT 3 3 144)]
abbrev i6_R27 := [oo 23 (mT 6), oo 24 (bK .add 23 1), oo 6 (mT 24)]
abbrev i6_L2 : IC := (.seq (.seq (.reg none i6_R7) (.cond (.t 22) .skip (.out 0))) (.seq (.block 1 (.seq (.reg (some [(0, 9), (4, 9), (5, 9)]) i6_R8) (.seq (.seq (.reg none i6_R9) (.cond (.t 36) (.seq (.reg none i6_R10) .ret) .skip)) (.seq (.seq (.reg none i6_R11) (.block 2 (.loop i6_L1))) (.reg none i6_R26))))) (.reg none i6_R27)))
abbrev i6_R28 := [oo 145 (.call 9 []), oo 2 (mT 145)]
abbrev i6_B : IC := (.seq (.reg none i6_R0) (.seq (.seq (.reg none i6_R1) (.cond (.t 16) (.seq (.reg none i6_R2) .ret) .skip)) (.seq (.reg none i6_R3) (.seq (.reg none i6_R4) (.seq (.reg none i6_R5) (.seq (.seq (.reg none i6_R6) (.block 0 (.loop i6_L2))) (.seq (.reg none i6_R28) .ret)))))))
abbrev i6_V : List Nat := [0, 2, 3, 4, 5, 6, 7, 8, 9, 10, 11, 12, 13, 16, 22, 36, 40, 95, 111, 131]
def i6 : IFn := ⟨146, i6_V, [.tmp 2], i6_B⟩
theorem i6_ok : compF Try.prog i6_V Try.f6 = some i6 := by kernel_rfl
/-! funicular/funicularlaw22.works -/
abbrev i9_R0 := [oo 0 (.mv kF)]
abbrev i9_R1 := [oo 17 (.call 30 []), oo 18 (.build [zI, zI, zI, .str ⟨#[]⟩, zI, zI] [(0, 1, (kI 1)), (1, 1, (kI 4)), (2, 1, (kI 9)), (3, 1, (.c (.str ⟨#[112, 97, 105, 100]⟩))), (4, 1, (kI 7))]), oo 19 (.call 19 [(.t 17), (.t 18)]), oo 16 (mT 19), oo 20 (xT 0 16), oo 21 (xT 1 16), oo 22 (xT 2 16), oo 1 (.alloc [zI, .nil, .nil]), oe (sT 3 1 20), oo 2 (mT 21), oo 3 (mT 22)]
abbrev i9_R2 := [oo 24 (lT 3 1), oo 25 (.call 34 [(.c (.str ⟨#[97]⟩)), (kI 5)]), oo 26 (.call 16 [(.t 24), (.c (.str ⟨#[112, 97, 105, 100]⟩)), (kI 7), (.t 25), (kI 10), (kI 5)]), oo 23 (mT 26), oo 27 (xT 0 23), oo 28 (xT 1 23), oo 29 (xT 2 23), oo 30 (xT 3 23), oo 4 (.alloc [zI, .nil, .nil]), oe (sT 3 4 27), oo 5 (mT 28), oo 6 (mT 29), oo 7 (mT 30)]
abbrev i9_R3 := [oo 32 (lT 3 4), oo 33 (.build [zI, zI, zI, .str ⟨#[]⟩, zI, zI] [(0, 1, (kI 2)), (1, 1, (kI 1)), (2, 1, (kI 9)), (3, 1, (.c (.str ⟨#[112, 97, 105, 100]⟩))), (4, 1, (kI 7))]), oo 34 (.call 19 [(.t 32), (.t 33)]), oo 31 (mT 34), oo 35 (xT 0 31), oo 36 (xT 1 31), oo 37 (xT 2 31), oo 8 (.alloc [zI, .nil, .nil]), oe (sT 3 8 35), oo 9 (mT 36), oo 10 (mT 37)]
abbrev i9_R4 := [oo 39 (lT 3 8), oo 40 (.call 22 [(.t 39), (kI 1), (kI 4)]), oo 38 (mT 40), oo 41 (xT 0 38), oo 42 (xT 1 38), oo 11 (.alloc [zI, .nil, .nil]), oe (sT 3 11 41), oo 12 (mT 42)]
abbrev i9_R5 := [oo 44 (lT 3 8), oo 45 (.call 27 [(.c (.nil)), (.t 44)]), oo 46 (.bsl 1 [.int .u8 0] 1 [(0, (.c (.int .u8 3)))]), oo 47 (.app 1 (.t 45) (.t 46)), oo 48 (.call 26 [(.t 47)]), oo 43 (mT 48), oo 49 (xT 0 43), oo 50 (xT 1 43), oo 51 (xT 2 43), oo 13 (.alloc [zI, .nil, .nil]), oe (sT 3 13 49), oo 14 (mT 50), oo 15 (mT 51)]
abbrev i9_R6 := [oo 52 (mT 3), oo 53 (bK .eql 52 0), oo 54 (mT 53), og 55 54 true (mT 2), og 56 54 true (lL 55), og 57 54 true (bK .eql 56 0), oo 58 (.pick (.t 54) (.t 57) kF), oo 59 (mT 58), og 60 59 true (mT 7), og 61 59 true (bK .eql 60 0), oo 62 (.pick (.t 59) (.t 61) kF), oo 63 (mT 62), og 64 63 true (mT 5), og 65 63 true (bK .eql 64 1), oo 66 (.pick (.t 63) (.t 65) kF), oo 67 (mT 66), og 68 67 true (mT 6), og 69 67 true (lL 68), og 70 67 true (bK .eql 69 1), oo 71 (.pick (.t 67) (.t 70) kF), oo 72 (mT 71), og 73 72 true (mT 6), og 74 72 true (.ias 5 (.t 73) (kI 0)), og 75 72 true (fA 1 74), og 76 72 true (lF 75), og 77 72 true (bK .eql 76 4), oo 78 (.pick (.t 72) (.t 77) kF), oo 79 (mT 78), og 80 79 true (mT 10), og 81 79 true (bK .eql 80 0), oo 82 (.pick (.t 79) (.t 81) kF), oo 83 (mT 82), og 84 83 true (mT 9), og 85 83 true (lL 84), og 86 83 true (bK .eql 85 1), oo 87 (.pick (.t 83) (.t 86) kF), oo 88 (mT 87), og 89 88 true (mT 12), og 90 88 true (bK .eql 89 0), oo 91 (.pick (.t 88) (.t 90) kF), oo 92 (mT 91), og 93 92 true (fA 2 11), og 94 92 true (lF 93), og 95 92 true (lL 94), og 96 92 true (bK .eql 95 1), oo 97 (.pick (.t 92) (.t 96) kF), oo 98 (mT 97), og 99 98 true (lT 3 11), og 100 98 true (.call 24 [(.t 99), (kI 15)]), og 101 98 true (.fld false 1 1 (.t 100)), og 102 98 true (lL 101), og 103 98 true (bK .eql 102 0), oo 104 (.pick (.t 98) (.t 103) kF), oo 105 (mT 104), og 106 105 true (mT 15), og 107 105 true (bK .eql 106 0), oo 108 (.pick (.t 105) (.t 107) kF), oo 109 (mT 108), og 110 109 true (mT 14), og 111 109 true (lL 110), og 112 109 true (bK .eql 111 1), oo 113 (.pick (.t 109) (.t 112) kF), oo 114 (mT 113), og 115 114 true (lT 3 13), og 116 114 true (lT 3 8), og 117 114 true (.call 12 [(.t 115), (.t 116)]), oo 118 (.pick (.t 114) (.t 117) kF), oo 119 (mT 118), og 120 119 true (lT 3 8), og 121 119 true (.call 10 [(.t 120)]), og 122 119 true (bK .eql 121 0), oo 123 (.pick (.t 119) (.t 122) kF), oo 124 (mT 123), og 125 124 true (lT 3 8), og 126 124 true (lT 3 8), og 127 124 true (.call 14 [(.t 126)]), og 128 124 true (.call 12 [(.t 125), (.t 127)]), oo 129 (.pick (.t 124) (.t 128) kF), oo 0 (mT 129)]
abbrev i9_B : IC := (.seq (.reg none i9_R0) (.seq (.reg none i9_R1) (.seq (.reg (some [(0, 1), (0, 8), (1, 8), (2, 8)]) i9_R2) (.seq (.reg none i9_R3) (.seq (.reg none i9_R4) (.seq (.reg none i9_R5) (.seq (.reg (some [(73, 75)]) i9_R6) .ret)))))))
abbrev i9_V : List Nat := [0, 1, 2, 3, 4, 5, 6, 7, 8, 9, 10, 11, 12, 13, 14, 15]
def i9 : IFn := ⟨130, i9_V, [.tmp 0], i9_B⟩
theorem i9_ok : compF Try.prog i9_V Try.f9 = some i9 := by kernel_rfl
/-! funicular/post.Check -/
abbrev i10_R0 := [oo 1 (.box (.t 0)), oo 2 (.mv (kI 0))]
abbrev i10_R1 := [oo 10 (fA 0 1), oo 11 (lF 10), oo 12 (.call 35 [(.t 11)]), oo 13 (.nt (.t 12)), oo 9 (mT 13)]
abbrev i10_R2 := [oo 2 (.mv (kI 1))]
abbrev i10_R3 := [oo 15 (fA 1 1), oo 16 (lF 15), oo 17 (lL 16), oo 18 (bK .gtr 17 4096), oo 19 (mT 18), og 20 19 false (fA 2 1), og 21 19 false (lF 20), og 22 19 false (lL 21), og 23 19 false (bK .gtr 22 4096), oo 24 (.pick (.t 19) kT (.t 23)), oo 14 (mT 24)]
abbrev i10_R4 := [oo 2 (.mv (kI 6))]
abbrev i10_R5 := [oo 3 (.mv (kI 0))]
abbrev i10_R6 := [oo 25 (fA 1 1), oo 26 (lF 25), oo 27 (lL 26), oo 28 (.mv (kI 0))]
abbrev i10_R7 := [oo 29 (bB .lss 28 27)]
abbrev i10_R8 := [oo 30 (iA 7 26 28), oo 31 (lT 7 30), oo 5 (.alloc [zI, .str ⟨#[]⟩, zI, .nil, .nil, zI, .nil]), oe (sT 7 5 31)]
abbrev i10_R9 := [oo 32 (lT 7 5), oo 33 (.call 36 [(.t 32)]), oo 6 (mT 33)]
abbrev i10_R10 := [oo 34 (mT 6), oo 35 (bK .neq 34 0)]
abbrev i10_R11 := [oo 36 (mT 6), oo 2 (mT 36)]
abbrev i10_R12 := [oo 37 (fA 0 5), oo 38 (lF 37), oo 39 (mT 3), oo 40 (bB .leq 38 39), oo 41 (mT 40), og 42 41 false (fA 0 5), og 43 41 false (lF 42), og 44 41 false (fA 0 1), og 45 41 false (lF 44), og 46 41 false (bB .geq 43 45), oo 47 (.pick (.t 41) kT (.t 46))]
abbrev i10_R13 := [oo 2 (.mv (kI 1))]
abbrev i10_R14 := [oo 48 (fA 0 5), oo 49 (lF 48), oo 3 (mT 49)]
abbrev i10_R15 := [oo 50 (bK .add 28 1), oo 28 (mT 50)]
abbrev i10_L0 : IC := (.seq (.reg none i10_R7) (.seq (.cond (.t 29) .skip (.out 1)) (.seq (.block 2 (.seq (.reg none i10_R8) (.seq (.seq (.reg none i10_R9) (.seq (.reg none i10_R10) (.cond (.t 35) (.seq (.reg none i10_R11) .ret) .skip))) (.seq (.seq (.reg none i10_R12) (.cond (.t 47) (.seq (.reg none i10_R13) .ret) .skip)) (.reg none i10_R14))))) (.reg none i10_R15))))
abbrev i10_R16 := [oo 51 (fA 2 1), oo 52 (lF 51), oo 53 (lL 52), oo 54 (.mv (kI 0))]
abbrev i10_R17 := [oo 55 (bB .lss 54 53)]
abbrev i10_R18 := [oo 56 (mT 54), oo 57 (iA 6 52 54), oo 58 (lT 6 57), oo 8 (.alloc [zI, zI, zI, .str ⟨#[]⟩, zI, zI]), oo 7 (mT 56), oe (sT 6 8 58)]
abbrev i10_R19 := [oo 59 (lT 6 8), oo 60 (.call 37 [(.t 59)]), oo 61 (.nt (.t 60)), oo 62 (mT 61), og 63 62 false (fA 5 8), og 64 62 false (lF 63), og 65 62 false (fA 0 1), og 66 62 false (lF 65), og 67 62 false (bB .geq 64 66), oo 68 (.pick (.t 62) kT (.t 67)), oo 69 (mT 68), og 70 69 false (mT 7), og 71 69 false (bK .gtr 70 0), og 72 69 false (mT 71), og 73 72 true (fA 2 1), og 74 72 true (lF 73), og 75 72 true (mT 7), og 76 72 true (bK .sub 75 1), og 77 72 true (iA 6 74 76), og 78 72 true (lT 6 77), og 79 72 true (.call 38 [(.t 78)]), og 80 72 true (lT 6 8), og 81 72 true (.call 38 [(.t 80)]), og 82 72 true (.call 39 [(.t 79), (.t 81)]), og 83 72 true (bK .geq 82 0), og 84 69 false (.pick (.t 72) (.t 83) kF), oo 85 (.pick (.t 69) kT (.t 84))]
abbrev i10_R20 := [oo 2 (.mv (kI 1))]
abbrev i10_R21 := [oo 86 (bK .add 54 1), oo 54 (mT 86)]
abbrev i10_L1 : IC := (.seq (.reg none i10_R17) (.seq (.cond (.t 55) .skip (.out 3)) (.seq (.block 4 (.seq (.reg none i10_R18) (.seq (.reg (some [(20, 21)]) i10_R19) (.cond (.t 85) (.seq (.reg none i10_R20) .ret) .skip)))) (.reg none i10_R21))))
abbrev i10_R22 := [oo 2 (.mv (kI 0))]
abbrev i10_B : IC := (.seq (.reg none i10_R0) (.seq (.block 0 (.seq (.reg none i10_R1) (.cond (.t 9) (.seq (.reg none i10_R2) .ret) (.seq (.reg none i10_R3) (.cond (.t 14) (.seq (.reg none i10_R4) .ret) .skip))))) (.seq (.reg none i10_R5) (.seq (.seq (.reg none i10_R6) (.block 1 (.loop i10_L0))) (.seq (.seq (.reg none i10_R16) (.block 3 (.loop i10_L1))) (.seq (.reg none i10_R22) .ret))))))
abbrev i10_V : List Nat := [0, 1, 2, 3, 5, 6, 7, 8, 9, 14, 26, 27, 28, 29, 35, 47, 52, 53, 54, 55, 85]
def i10 : IFn := ⟨87, i10_V, [.tmp 2], i10_B⟩
theorem i10_ok : compF Try.prog i10_V Try.f10 = some i10 := by kernel_rfl
/-! funicular/post.Same -/
abbrev i12_R0 := [oo 2 (.box (.t 0)), oo 3 (.box (.t 1)), oo 4 (.mv kF)]
abbrev i12_R1 := [oo 5 (fA 0 2), oo 6 (lF 5), oo 7 (fA 0 3), oo 8 (lF 7), oo 9 (bB .eql 6 8), oo 10 (mT 9), og 11 10 true (fA 2 2), og 12 10 true (lF 11), og 13 10 true (fA 2 3), og 14 10 true (lF 13), og 15 10 true (.call 44 [(.t 12), (.t 14)]), oo 16 (.pick (.t 10) (.t 15) kF), oo 17 (mT 16), og 18 17 true (fA 1 2), og 19 17 true (lF 18), og 20 17 true (fA 1 3), og 21 17 true (lF 20), og 22 17 true (.call 45 [(.t 19), (.t 21), (.c (.fn (.func 46) [] []))]), oo 23 (.pick (.t 17) (.t 22) kF), oo 4 (mT 23)]
abbrev i12_B : IC := (.seq (.reg none i12_R0) (.seq (.reg none i12_R1) .ret))
abbrev i12_V : List Nat := [0, 1, 2, 3, 4]
def i12 : IFn := ⟨24, i12_V, [.tmp 4], i12_B⟩
theorem i12_ok : compF Try.prog i12_V Try.f12 = some i12 := by kernel_rfl
/-! funicular/post.Copy -/
abbrev i14_R0 := [oo 1 (.box (.t 0)), oo 2 (.alloc [zI, .nil, .nil])]
abbrev i14_R1 := [oo 5 (fA 2 1), oo 6 (lF 5), oo 7 (.cln 6 (.t 6)), oo 8 (fA 2 1), oe (sT 1 8 7)]
abbrev i14_R2 := [oo 9 (fA 1 1), oo 10 (lF 9), oo 11 (.cln 7 (.t 10)), oo 12 (fA 1 1), oe (sT 1 12 11)]
abbrev i14_R3 := [oo 13 (fA 1 1), oo 14 (lF 13), oo 15 (lL 14), oo 16 (.mv (kI 0))]
abbrev i14_R4 := [oo 17 (bB .lss 16 15)]
abbrev i14_R5 := [oo 18 (mT 16), oo 3 (mT 18)]
abbrev i14_R6 := [oo 19 (fA 1 1), oo 20 (lF 19), oo 21 (mT 3), oo 22 (iA 7 20 21), oo 4 (mT 22)]
abbrev i14_R7 := [oo 23 (mT 4), oo 24 (mT 4), oo 25 (mT 4), oo 26 (nT 25), oo 27 (fA 3 26), oo 28 (lT 2 27), oo 29 (.call 52 [(.t 28)]), oo 30 (mT 4), oo 31 (nT 30), oo 32 (fA 6 31), oo 33 (lF 32), oo 34 (.cln 2 (.t 33)), oo 35 (nT 23), oo 36 (fA 3 35), oe (sT 2 36 29), oo 37 (nT 24), oo 38 (fA 6 37), oe (sT 1 38 34)]
abbrev i14_R8 := [oo 39 (bK .add 16 1), oo 16 (mT 39)]
abbrev i14_L0 : IC := (.seq (.reg none i14_R4) (.seq (.cond (.t 17) .skip (.out 0)) (.seq (.block 1 (.seq (.reg none i14_R5) (.seq (.reg none i14_R6) (.reg (some [(6, 10)]) i14_R7)))) (.reg none i14_R8))))
abbrev i14_R9 := [oo 40 (lT 3 1), oe (sT 3 2 40)]
abbrev i14_B : IC := (.seq (.reg none i14_R0) (.seq (.reg none i14_R1) (.seq (.reg none i14_R2) (.seq (.seq (.reg none i14_R3) (.block 0 (.loop i14_L0))) (.seq (.reg none i14_R9) .ret)))))
abbrev i14_V : List Nat := [0, 1, 2, 3, 4, 15, 16, 17]
def i14 : IFn := ⟨41, i14_V, [.cell 2 true 3], i14_B⟩
theorem i14_ok : compF Try.prog i14_V Try.f14 = some i14 := by kernel_rfl
/-! funicular/post.Publish -/
abbrev i16_R0 := [oo 6 (.box (.t 0)), oo 9 (.box (.t 3)), oo 12 (.alloc [zI, .nil, .nil]), oo 13 (.mv (kI 0)), oo 14 (.mv (.c (.nil))), oo 15 (.mv (kI 0))]
abbrev i16_R1 := [oo 16 (.mv (.c (.fn (.func 54) [] [])))]
abbrev i16_R2 := [oo 24 (mT 1), oo 25 (.call 55 [(.t 24)]), oo 26 (.nt (.t 25)), oo 23 (mT 26)]
abbrev i16_R3 := [oo 27 (mT 16), oo 28 (.callv (.t 27) [(kI 1)]), oo 29 (xT 0 28), oo 30 (xT 1 28), oo 31 (xT 2 28), oo 32 (xT 3 28), oe (sT 3 12 29), oo 13 (mT 30), oo 14 (mT 31), oo 15 (mT 32)]
abbrev i16_R4 := [oo 34 (mT 4), oo 35 (bK .lss 34 0), oo 36 (mT 35), og 37 36 false (mT 4), og 38 36 false (bK .gtr 37 1099511627776), oo 39 (.pick (.t 36) kT (.t 38)), oo 40 (mT 39), og 41 40 false (mT 5), og 42 40 false (bK .lss 41 0), oo 43 (.pick (.t 40) kT (.t 42)), oo 44 (mT 43), og 45 44 false (mT 5), og 46 44 false (mT 4), og 47 44 false (.bin .sub (kI 1099511627776) (.t 46)), og 48 44 false (bB .gtr 45 47), oo 49 (.pick (.t 44) kT (.t 48)), oo 33 (mT 49)]
abbrev i16_R5 := [oo 50 (mT 16), oo 51 (.callv (.t 50) [(kI 2)]), oo 52 (xT 0 51), oo 53 (xT 1 51), oo 54 (xT 2 51), oo 55 (xT 3 51), oe (sT 3 12 52), oo 13 (mT 53), oo 14 (mT 54), oo 15 (mT 55)]
abbrev i16_R6 := [oo 56 (lT 2 9), oo 57 (.call 56 [(.t 56)]), oo 17 (mT 57)]
abbrev i16_R7 := [oo 58 (mT 17), oo 59 (bK .neq 58 0)]
abbrev i16_R8 := [oo 60 (mT 16), oo 61 (mT 17), oo 62 (.callv (.t 60) [(.t 61)]), oo 63 (xT 0 62), oo 64 (xT 1 62), oo 65 (xT 2 62), oo 66 (xT 3 62), oe (sT 3 12 63), oo 13 (mT 64), oo 14 (mT 65), oo 15 (mT 66)]
abbrev i16_R9 := [oo 67 (fA 0 6), oo 68 (lF 67), oo 69 (bK .geq 68 1099511627776), oo 70 (mT 69), og 71 70 false (mT 5), og 72 70 false (bK .gtr 71 0), og 73 70 false (mT 72), og 74 73 true (fA 1 6), og 75 73 true (lF 74), og 76 73 true (lL 75), og 77 73 true (bK .geq 76 4096), og 78 70 false (.pick (.t 73) (.t 77) kF), oo 79 (.pick (.t 70) kT (.t 78))]
abbrev i16_R10 := [oo 80 (mT 16), oo 81 (.callv (.t 80) [(kI 14)]), oo 82 (xT 0 81), oo 83 (xT 1 81), oo 84 (xT 2 81), oo 85 (xT 3 81), oe (sT 3 12 82), oo 13 (mT 83), oo 14 (mT 84), oo 15 (mT 85)]
abbrev i16_R11 := [oo 86 (lT 3 6), oo 87 (.call 14 [(.t 86)]), oo 18 (.alloc [zI, .nil, .nil]), oe (sT 3 18 87)]
abbrev i16_R12 := [oo 88 (fA 0 6), oo 89 (lF 88), oo 90 (mT 1), oo 91 (mT 2), oo 92 (lT 2 9), oo 93 (.call 52 [(.t 92)]), oo 94 (mT 4), oo 95 (mT 5), oo 96 (bB .add 94 95), oo 97 (.build [zI, .str ⟨#[]⟩, zI, .nil, .nil, zI, .nil] [(0, 1, (.t 89)), (1, 1, (.t 90)), (2, 1, (.t 91)), (3, 2, (.t 93)), (5, 1, (.t 96))]), oo 19 (.alloc [zI, .str ⟨#[]⟩, zI, .nil, .nil, zI, .nil]), oe (sT 7 19 97)]
abbrev i16_R13 := [oo 98 (fA 0 18), oo 99 (lF 98), oo 100 (bK .add 99 1), oo 101 (fA 0 18), oe (sT 1 101 100)]
abbrev i16_R14 := [oo 20 (.mv (.c (.nil)))]
abbrev i16_R15 := [oo 102 (fA 2 18), oo 103 (lF 102), oo 104 (lL 103), oo 105 (.mv (kI 0))]
abbrev i16_R16 := [oo 106 (bB .lss 105 104)]
abbrev i16_R17 := [oo 107 (mT 105), oo 21 (mT 107)]
abbrev i16_R18 := [oo 108 (fA 2 18), oo 109 (lF 108), oo 110 (mT 21), oo 111 (iA 6 109 110), oo 22 (mT 111)]
abbrev i16_R19 := [oo 112 (lT 7 19), oo 113 (mT 22), oo 114 (nT 113), oo 115 (lT 6 114), oo 116 (.call 57 [(.t 112), (.t 115)])]
abbrev i16_R20 := [oo 117 (mT 20), oo 118 (mT 22), oo 119 (.call 58 [(.t 19), (.t 118)]), oo 120 (.bsl 5 [zI, zI, zI, .imm 0 [] false, .imm 0 [] false] 1 [(0, (.t 119))]), oo 121 (.app 5 (.t 117) (.t 120)), oo 20 (mT 121)]
abbrev i16_R21 := [oo 122 (bK .add 105 1), oo 105 (mT 122)]
abbrev i16_L0 : IC := (.seq (.reg none i16_R16) (.seq (.cond (.t 106) .skip (.out 1)) (.seq (.block 2 (.seq (.reg none i16_R17) (.seq (.reg none i16_R18) (.seq (.reg (some []) i16_R19) (.cond (.t 116) (.reg none i16_R20) .skip))))) (.reg none i16_R21))))
abbrev i16_R22 := [oo 123 (mT 5), oo 124 (bK .gtr 123 0)]
abbrev i16_R23 := [oo 125 (fA 1 18), oo 126 (lF 125), oo 127 (lT 7 19), oo 128 (.bsl 7 [zI, .str ⟨#[]⟩, zI, .imm 0 [] false, .imm 0 [] false, zI, .imm 0 [] false] 1 [(0, (.t 127))]), oo 129 (.app 7 (.t 126) (.t 128)), oo 130 (fA 1 18), oe (sT 1 130 129)]
abbrev i16_R24 := [oo 131 (lT 3 18), oo 132 (fA 0 19), oo 133 (lF 132), oo 134 (mT 20), oe (sT 3 12 131), oo 13 (mT 133), oo 14 (mT 134), oo 15 (.mv (kI 0))]
abbrev i16_B : IC := (.seq (.reg none i16_R0) (.seq (.reg none i16_R1) (.seq (.block 0 (.seq (.reg none i16_R2) (.cond (.t 23) (.seq (.reg none i16_R3) .ret) (.seq (.reg none i16_R4) (.cond (.t 33) (.seq (.reg none i16_R5) .ret) .skip))))) (.seq (.seq (.reg none i16_R6) (.seq (.reg none i16_R7) (.cond (.t 59) (.seq (.reg none i16_R8) .ret) .skip))) (.seq (.seq (.reg none i16_R9) (.cond (.t 79) (.seq (.reg none i16_R10) .ret) .skip)) (.seq (.reg none i16_R11) (.seq (.reg (some [(1, 5), (1, 10), (4, 10), (5, 10)]) i16_R12) (.seq (.reg none i16_R13) (.seq (.reg none i16_R14) (.seq (.seq (.reg none i16_R15) (.block 1 (.loop i16_L0))) (.seq (.seq (.reg none i16_R22) (.cond (.t 124) (.reg none i16_R23) .skip)) (.seq (.reg (some [(2, 4)]) i16_R24) .ret))))))))))))
abbrev i16_V : List Nat := [0, 1, 2, 3, 4, 5, 6, 9, 12, 13, 14, 15, 16, 17, 18, 19, 20, 21, 22, 23, 33, 59, 79, 104, 105, 106, 116, 124]
def i16 : IFn := ⟨135, i16_V, [.cell 12 true 3, .tmp 13, .tmp 14, .tmp 15], i16_B⟩
theorem i16_ok : compF Try.prog i16_V Try.f16 = some i16 := by kernel_rfl
/-! funicular/post.Open -/
abbrev i19_R0 := [oo 2 (.box (.t 0)), oo 3 (.box (.t 1)), oo 4 (.alloc [zI, .nil, .nil]), oo 5 (.mv (.c (.nil))), oo 6 (.mv (kI 0))]
abbrev i19_R1 := [oo 13 (lT 6 3), oo 14 (.call 37 [(.t 13)]), oo 15 (.nt (.t 14)), oo 16 (mT 15), og 17 16 false (fA 5 3), og 18 16 false (lF 17), og 19 16 false (bK .neq 18 0), oo 20 (.pick (.t 16) kT (.t 19))]
abbrev i19_R2 := [oo 21 (.build [zI, .nil, .nil] []), oe (sT 3 4 21), oo 5 (.mv (.c (.nil))), oo 6 (.mv (kI 1))]
abbrev i19_R3 := [oo 23 (lT 3 2), oo 24 (lT 6 3), oo 25 (.call 38 [(.t 24)]), oo 26 (.call 65 [(.t 23), (.t 25)]), oo 22 (mT 26), oo 27 (xT 0 22), oo 28 (xT 1 22), oo 7 (mT 27), oo 8 (mT 28)]
abbrev i19_R4 := [oo 30 (mT 8), oo 29 (mT 30)]
abbrev i19_R5 := [oo 31 (.build [zI, .nil, .nil] []), oe (sT 3 4 31), oo 5 (.mv (.c (.nil))), oo 6 (.mv (kI 10))]
abbrev i19_R6 := [oo 33 (fA 2 2), oo 34 (lF 33), oo 35 (lL 34), oo 36 (bK .geq 35 4096), oo 32 (mT 36)]
abbrev i19_R7 := [oo 37 (.build [zI, .nil, .nil] []), oe (sT 3 4 37), oo 5 (.mv (.c (.nil))), oo 6 (.mv (kI 14))]
abbrev i19_R8 := [oo 38 (lT 3 2), oo 39 (.call 14 [(.t 38)]), oo 9 (.alloc [zI, .nil, .nil]), oe (sT 3 9 39)]
abbrev i19_R9 := [oo 10 (.mv (.c (.nil)))]
abbrev i19_R10 := [oo 40 (fA 1 9), oo 41 (lF 40), oo 42 (lL 41), oo 43 (.mv (kI 0))]
abbrev i19_R11 := [oo 44 (bB .lss 43 42)]
abbrev i19_R12 := [oo 45 (mT 43), oo 11 (mT 45)]
abbrev i19_R13 := [oo 46 (fA 1 9), oo 47 (lF 46), oo 48 (mT 11), oo 49 (iA 7 47 48), oo 12 (mT 49)]
abbrev i19_R14 := [oo 50 (mT 12), oo 51 (nT 50), oo 52 (lT 7 51), oo 53 (lT 6 3), oo 54 (.call 57 [(.t 52), (.t 53)])]
abbrev i19_R15 := [oo 55 (mT 10), oo 56 (mT 12), oo 57 (.call 58 [(.t 56), (.t 3)]), oo 58 (.bsl 5 [zI, zI, zI, .imm 0 [] false, .imm 0 [] false] 1 [(0, (.t 57))]), oo 59 (.app 5 (.t 55) (.t 58)), oo 10 (mT 59)]
abbrev i19_R16 := [oo 60 (bK .add 43 1), oo 43 (mT 60)]
abbrev i19_L0 : IC := (.seq (.reg none i19_R11) (.seq (.cond (.t 44) .skip (.out 1)) (.seq (.block 2 (.seq (.reg none i19_R12) (.seq (.reg none i19_R13) (.seq (.reg (some []) i19_R14) (.cond (.t 54) (.seq (.reg none i19_R15) (.out 1)) .skip))))) (.reg none i19_R16))))
abbrev i19_R17 := [oo 61 (fA 2 9), oo 62 (lF 61), oo 63 (mT 7), oo 64 (lT 6 3), oo 65 (.bsl 6 [zI, zI, zI, .str ⟨#[]⟩, zI, zI] 1 [(0, (.t 64))]), oo 66 (.call 66 [(.t 62), (.t 63), (.t 65)]), oo 67 (fA 2 9), oe (sT 1 67 66)]
abbrev i19_R18 := [oo 68 (lT 3 9), oo 69 (mT 10), oe (sT 3 4 68), oo 5 (mT 69), oo 6 (.mv (kI 0))]
abbrev i19_B : IC := (.seq (.reg none i19_R0) (.seq (.seq (.reg none i19_R1) (.cond (.t 20) (.seq (.reg none i19_R2) .ret) .skip)) (.seq (.reg (some [(0, 2)]) i19_R3) (.seq (.block 0 (.seq (.reg none i19_R4) (.cond (.t 29) (.seq (.reg none i19_R5) .ret) (.seq (.reg none i19_R6) (.cond (.t 32) (.seq (.reg none i19_R7) .ret) .skip))))) (.seq (.reg none i19_R8) (.seq (.reg none i19_R9) (.seq (.seq (.reg none i19_R10) (.block 1 (.loop i19_L0))) (.seq (.reg none i19_R17) (.seq (.reg none i19_R18) .ret)))))))))
abbrev i19_V : List Nat := [0, 1, 2, 3, 4, 5, 6, 7, 8, 9, 10, 11, 12, 20, 29, 32, 42, 43, 44, 54]
def i19 : IFn := ⟨70, i19_V, [.cell 4 true 3, .tmp 5, .tmp 6], i19_B⟩
theorem i19_ok : compF Try.prog i19_V Try.f19 = some i19 := by kernel_rfl
/-! (funicular/funicularlaw22.Op).Sub -/
abbrev i20_R0 := [oo 1 (.box (.t 0)), oo 2 (.alloc [zI, zI, zI, .str ⟨#[]⟩, zI, zI])]
abbrev i20_R1 := [oo 3 (fA 7 1), oo 4 (lF 3), oo 5 (fA 8 1), oo 6 (lF 5), oo 7 (fA 9 1), oo 8 (lF 7), oo 9 (fA 1 1), oo 10 (lF 9), oo 11 (fA 2 1), oo 12 (lF 11), oo 13 (.build [zI, zI, zI, .str ⟨#[]⟩, zI, zI] [(0, 1, (.t 4)), (1, 1, (.t 6)), (2, 1, (.t 8)), (3, 1, (.t 10)), (4, 1, (.t 12))]), oe (sT 6 2 13)]
abbrev i20_B : IC := (.seq (.reg none i20_R0) (.seq (.reg none i20_R1) .ret))
abbrev i20_V : List Nat := [0, 1, 2]
def i20 : IFn := ⟨14, i20_V, [.cell 2 true 6], i20_B⟩
theorem i20_ok : compF Try.prog i20_V Try.f20 = some i20 := by kernel_rfl
/-! funicular/post.Close -/
abbrev i22_R0 := [oo 3 (.box (.t 0)), oo 6 (.alloc [zI, .nil, .nil]), oo 7 (.mv (kI 0))]
abbrev i22_R1 := [oo 12 (lT 3 3), oo 13 (mT 1), oo 14 (mT 2), oo 15 (.build [zI, zI] [(0, 1, (.t 13)), (1, 1, (.t 14))]), oo 16 (.call 65 [(.t 12), (.t 15)]), oo 11 (mT 16), oo 17 (xT 0 11), oo 18 (xT 1 11), oo 8 (mT 17), oo 9 (mT 18)]
abbrev i22_R2 := [oo 19 (mT 9), oo 20 (.nt (.t 19))]
abbrev i22_R3 := [oo 21 (.build [zI, .nil, .nil] []), oe (sT 3 6 21), oo 7 (.mv (kI 9))]
abbrev i22_R4 := [oo 22 (lT 3 3), oo 23 (.call 14 [(.t 22)]), oo 10 (.alloc [zI, .nil, .nil]), oe (sT 3 10 23)]
abbrev i22_R5 := [oo 24 (fA 2 10), oo 25 (lF 24), oo 26 (mT 8), oo 27 (mT 8), oo 28 (bK .add 27 1), oo 29 (.call 67 [(.t 25), (.t 26), (.t 28)]), oo 30 (fA 2 10), oe (sT 1 30 29)]
abbrev i22_R6 := [oo 31 (lT 3 10), oe (sT 3 6 31), oo 7 (.mv (kI 0))]
abbrev i22_B : IC := (.seq (.reg none i22_R0) (.seq (.reg none i22_R1) (.seq (.seq (.reg none i22_R2) (.cond (.t 20) (.seq (.reg none i22_R3) .ret) .skip)) (.seq (.reg none i22_R4) (.seq (.reg none i22_R5) (.seq (.reg none i22_R6) .ret))))))
abbrev i22_V : List Nat := [0, 1, 2, 3, 6, 7, 8, 9, 10, 20]
def i22 : IFn := ⟨32, i22_V, [.cell 6 true 3, .tmp 7], i22_B⟩
theorem i22_ok : compF Try.prog i22_V Try.f22 = some i22 := by kernel_rfl
/-! funicular/post.Expire -/
abbrev i24_R0 := [oo 2 (.box (.t 0)), oo 3 (.box (.t 1)), oo 4 (.alloc [zI, .nil, .nil])]
abbrev i24_R1 := [oo 6 (lT 3 2), oo 7 (.call 14 [(.t 6)]), oo 5 (.alloc [zI, .nil, .nil]), oe (sT 3 5 7)]
abbrev i24_R2 := [oo 8 (fA 1 5), oo 9 (lF 8), oo 10 (.mkf 69 [] [(.t 3)]), oo 11 (.call 68 [(.t 9), (.t 10)]), oo 12 (fA 1 5), oe (sT 1 12 11)]
abbrev i24_R3 := [oo 13 (lT 3 5), oe (sT 3 4 13)]
abbrev i24_B : IC := (.seq (.reg none i24_R0) (.seq (.reg none i24_R1) (.seq (.reg none i24_R2) (.seq (.reg none i24_R3) .ret))))
abbrev i24_V : List Nat := [0, 1, 2, 3, 4, 5]
def i24 : IFn := ⟨14, i24_V, [.cell 4 true 3], i24_B⟩
theorem i24_ok : compF Try.prog i24_V Try.f24 = some i24 := by kernel_rfl
/-! funicular/post.Read -/
abbrev i26_R0 := [oo 2 (.alloc [zI, .nil, .nil]), oo 3 (.mv (.c (.nil))), oo 4 (.mv (kI 0))]
abbrev i26_R1 := [oo 11 (mT 0), oo 12 (.build [.nil, zI] [(0, 1, (.t 11))]), oo 13 (.box (.t 12)), oo 5 (mT 13)]
abbrev i26_R2 := [oo 14 (mT 5), oo 15 (.call 70 [(.t 14)]), oo 16 (.build [zI, .nil, .nil] [(0, 1, (.t 15))]), oo 6 (.alloc [zI, .nil, .nil]), oe (sT 3 6 16)]
abbrev i26_R3 := [oo 17 (mT 5), oo 18 (.call 70 [(.t 17)]), oo 7 (mT 18)]
abbrev i26_R4 := [oo 19 (mT 7), oo 20 (bK .gtr 19 0), oo 21 (mT 20), og 22 21 true (mT 5), og 23 21 true (nT 22), og 24 21 true (fA 1 23), og 25 21 true (lF 24), og 26 21 true (bK .eql 25 0), oo 27 (.pick (.t 21) (.t 26) kF)]
abbrev i26_R5 := [oo 30 (mT 5), oo 31 (.call 70 [(.t 30)]), oo 32 (mT 5), oo 33 (.call 71 [(.t 32)]), oo 34 (mT 5), oo 35 (.call 72 [(.t 34)]), oo 36 (mT 5), oo 37 (.call 73 [(.t 36)]), oo 38 (mT 5), oo 39 (.call 70 [(.t 38)]), oo 40 (.build [zI, .str ⟨#[]⟩, zI, .nil, .nil, zI, .nil] [(0, 1, (.t 31)), (1, 1, (.t 33)), (2, 1, (.t 35)), (3, 2, (.t 37)), (5, 1, (.t 39))]), oo 8 (.alloc [zI, .str ⟨#[]⟩, zI, .nil, .nil, zI, .nil]), oe (sT 7 8 40)]
abbrev i26_R6 := [oo 41 (mT 5), oo 42 (.call 70 [(.t 41)]), oo 9 (mT 42)]
abbrev i26_R7 := [oo 43 (mT 9), oo 44 (bK .gtr 43 0), oo 45 (mT 44), og 46 45 true (mT 5), og 47 45 true (nT 46), og 48 45 true (fA 1 47), og 49 45 true (lF 48), og 50 45 true (bK .eql 49 0), oo 51 (.pick (.t 45) (.t 50) kF)]
abbrev i26_R8 := [oo 54 (fA 6 8), oo 55 (lF 54), oo 56 (mT 5), oo 57 (.call 70 [(.t 56)]), oo 58 (mT 5), oo 59 (.call 70 [(.t 58)]), oo 60 (.build [zI, zI] [(0, 1, (.t 57)), (1, 1, (.t 59))]), oo 61 (.bsl 2 [zI, zI] 1 [(0, (.t 60))]), oo 62 (.app 2 (.t 55) (.t 61)), oo 63 (fA 6 8), oe (sT 1 63 62)]
abbrev i26_R9 := [oo 52 (mT 9), oo 53 (bK .sub 52 1), oo 9 (mT 53)]
abbrev i26_L0 : IC := (.seq (.seq (.reg none i26_R7) (.cond (.t 51) .skip (.out 2))) (.seq (.block 3 (.reg (some [(1, 3), (1, 5), (1, 7)]) i26_R8)) (.reg none i26_R9)))
abbrev i26_R10 := [oo 64 (fA 1 6), oo 65 (lF 64), oo 66 (lT 7 8), oo 67 (.bsl 7 [zI, .str ⟨#[]⟩, zI, .imm 0 [] false, .imm 0 [] false, zI, .imm 0 [] false] 1 [(0, (.t 66))]), oo 68 (.app 7 (.t 65) (.t 67)), oo 69 (fA 1 6), oe (sT 1 69 68)]
abbrev i26_R11 := [oo 28 (mT 7), oo 29 (bK .sub 28 1), oo 7 (mT 29)]
abbrev i26_L1 : IC := (.seq (.seq (.reg none i26_R4) (.cond (.t 27) .skip (.out 0))) (.seq (.block 1 (.seq (.reg none i26_R5) (.seq (.seq (.reg none i26_R6) (.block 2 (.loop i26_L0))) (.reg none i26_R10)))) (.reg none i26_R11)))
abbrev i26_R12 := [oo 70 (mT 5), oo 71 (.call 70 [(.t 70)]), oo 10 (mT 71)]
abbrev i26_R13 := [oo 72 (mT 10), oo 73 (bK .gtr 72 0), oo 74 (mT 73), og 75 74 true (mT 5), og 76 74 true (nT 75), og 77 74 true (fA 1 76), og 78 74 true (lF 77), og 79 74 true (bK .eql 78 0), oo 80 (.pick (.t 74) (.t 79) kF)]
abbrev i26_R14 := [oo 83 (fA 2 6), oo 84 (lF 83), oo 85 (mT 5), oo 86 (.call 70 [(.t 85)]), oo 87 (mT 5), oo 88 (.call 70 [(.t 87)]), oo 89 (mT 5), oo 90 (.call 70 [(.t 89)]), oo 91 (mT 5), oo 92 (.call 71 [(.t 91)]), oo 93 (mT 5), oo 94 (.call 72 [(.t 93)]), oo 95 (mT 5), oo 96 (.call 70 [(.t 95)]), oo 97 (.build [zI, zI, zI, .str ⟨#[]⟩, zI, zI] [(0, 1, (.t 86)), (1, 1, (.t 88)), (2, 1, (.t 90)), (3, 1, (.t 92)), (4, 1, (.t 94)), (5, 1, (.t 96))]), oo 98 (.bsl 6 [zI, zI, zI, .str ⟨#[]⟩, zI, zI] 1 [(0, (.t 97))]), oo 99 (.app 6 (.t 84) (.t 98)), oo 100 (fA 2 6), oe (sT 1 100 99)]
abbrev i26_R15 := [oo 81 (mT 10), oo 82 (bK .sub 81 1), oo 10 (mT 82)]
abbrev i26_L2 : IC := (.seq (.seq (.reg none i26_R13) (.cond (.t 80) .skip (.out 4))) (.seq (.block 5 (.reg (some [(1, 3), (1, 5), (1, 7), (1, 9), (1, 11), (1, 13), (1, 15)]) i26_R14)) (.reg none i26_R15)))
abbrev i26_R16 := [oo 101 (mT 5), oo 102 (nT 101), oo 103 (fA 1 102), oo 104 (lF 103), oo 105 (bK .eql 104 0)]
abbrev i26_R17 := [oo 106 (mT 5), oo 107 (lT 3 6), oo 108 (.call 10 [(.t 107)]), oo 109 (nT 106), oo 110 (fA 1 109), oe (sT 1 110 108)]
abbrev i26_R18 := [oo 111 (mT 5), oo 112 (nT 111), oo 113 (fA 1 112), oo 114 (lF 113), oo 115 (bK .neq 114 0)]
abbrev i26_R19 := [oo 116 (.build [zI, .nil, .nil] []), oo 117 (mT 5), oo 118 (nT 117), oo 119 (fA 1 118), oo 120 (lF 119), oe (sT 3 2 116), oo 3 (.mv (.c (.nil))), oo 4 (mT 120)]
abbrev i26_R20 := [oo 121 (lT 3 6), oo 122 (mT 5), oo 123 (nT 122), oo 124 (fA 0 123), oo 125 (lF 124), oe (sT 3 2 121), oo 3 (mT 125), oo 4 (.mv (kI 0))]
abbrev i26_B : IC := (.seq (.reg none i26_R0) (.seq (.reg none i26_R1) (.seq (.reg none i26_R2) (.seq (.seq (.reg none i26_R3) (.block 0 (.loop i26_L1))) (.seq (.seq (.reg none i26_R12) (.block 4 (.loop i26_L2))) (.seq (.seq (.reg none i26_R16) (.cond (.t 105) (.reg none i26_R17) .skip)) (.seq (.seq (.reg none i26_R18) (.cond (.t 115) (.seq (.reg (some [(4, 5)]) i26_R19) .ret) .skip)) (.seq (.reg (some [(4, 5)]) i26_R20) .ret))))))))
abbrev i26_V : List Nat := [0, 2, 3, 4, 5, 6, 7, 8, 9, 10, 27, 51, 80, 105, 115]
def i26 : IFn := ⟨126, i26_V, [.cell 2 true 3, .tmp 3, .tmp 4], i26_B⟩
theorem i26_ok : compF Try.prog i26_V Try.f26 = some i26 := by kernel_rfl
/-! funicular/post.Put -/
abbrev i27_R0 := [oo 3 (.box (.t 1)), oo 4 (.mv (.c (.nil)))]
abbrev i27_R1 := [oo 11 (mT 0), oo 12 (fA 0 3), oo 13 (lF 12), oo 14 (fA 1 3), oo 15 (lF 14), oo 16 (lL 15), oo 17 (.bsl 1 [zI] 2 [(0, (.t 13)), (1, (.t 16))]), oo 18 (.call 74 [(.t 11), (.t 17)]), oo 0 (mT 18)]
abbrev i27_R2 := [oo 19 (fA 1 3), oo 20 (lF 19), oo 21 (lL 20), oo 22 (.mv (kI 0))]
abbrev i27_R3 := [oo 23 (bB .lss 22 21)]
abbrev i27_R4 := [oo 24 (iA 7 20 22), oo 25 (lT 7 24), oo 6 (.alloc [zI, .str ⟨#[]⟩, zI, .nil, .nil, zI, .nil]), oe (sT 7 6 25)]
abbrev i27_R5 := [oo 26 (mT 0), oo 27 (fA 0 6), oo 28 (lF 27), oo 29 (.bsl 1 [zI] 1 [(0, (.t 28))]), oo 30 (.call 74 [(.t 26), (.t 29)]), oo 31 (fA 1 6), oo 32 (lF 31), oo 33 (.s2b (.t 32)), oo 34 (.call 75 [(.t 30), (.t 33)]), oo 0 (mT 34)]
abbrev i27_R6 := [oo 35 (mT 0), oo 36 (fA 2 6), oo 37 (lF 36), oo 38 (.call 77 [(.t 35), (.t 37)]), oo 39 (fA 3 6), oo 40 (lT 2 39), oo 41 (.call 76 [(.t 38), (.t 40)]), oo 0 (mT 41)]
abbrev i27_R7 := [oo 42 (mT 0), oo 43 (fA 5 6), oo 44 (lF 43), oo 45 (fA 6 6), oo 46 (lF 45), oo 47 (lL 46), oo 48 (.bsl 1 [zI] 2 [(0, (.t 44)), (1, (.t 47))]), oo 49 (.call 74 [(.t 42), (.t 48)]), oo 0 (mT 49)]
abbrev i27_R8 := [oo 50 (fA 6 6), oo 51 (lF 50), oo 52 (lL 51), oo 53 (.mv (kI 0))]
abbrev i27_R9 := [oo 54 (bB .lss 53 52)]
abbrev i27_R10 := [oo 55 (iA 2 51 53), oo 56 (lT 2 55), oo 8 (.alloc [zI, zI]), oe (sT 2 8 56)]
abbrev i27_R11 := [oo 57 (mT 0), oo 58 (fA 0 8), oo 59 (lF 58), oo 60 (fA 1 8), oo 61 (lF 60), oo 62 (.bsl 1 [zI] 2 [(0, (.t 59)), (1, (.t 61))]), oo 63 (.call 74 [(.t 57), (.t 62)]), oo 0 (mT 63)]
abbrev i27_R12 := [oo 64 (bK .add 53 1), oo 53 (mT 64)]
abbrev i27_L0 : IC := (.seq (.reg none i27_R9) (.seq (.cond (.t 54) .skip (.out 2)) (.seq (.block 3 (.seq (.reg none i27_R10) (.reg none i27_R11))) (.reg none i27_R12))))
abbrev i27_R13 := [oo 65 (bK .add 22 1), oo 22 (mT 65)]
abbrev i27_L1 : IC := (.seq (.reg none i27_R3) (.seq (.cond (.t 23) .skip (.out 0)) (.seq (.block 1 (.seq (.reg none i27_R4) (.seq (.reg (some [(3, 6), (4, 6), (2, 7), (3, 7), (4, 7)]) i27_R5) (.seq (.reg (some [(3, 5)]) i27_R6) (.seq (.reg none i27_R7) (.seq (.reg none i27_R8) (.block 2 (.loop i27_L0)))))))) (.reg none i27_R13))))
abbrev i27_R14 := [oo 66 (mT 0), oo 67 (fA 2 3), oo 68 (lF 67), oo 69 (lL 68), oo 70 (.bsl 1 [zI] 1 [(0, (.t 69))]), oo 71 (.call 74 [(.t 66), (.t 70)]), oo 0 (mT 71)]
abbrev i27_R15 := [oo 72 (fA 2 3), oo 73 (lF 72), oo 74 (lL 73), oo 75 (.mv (kI 0))]
abbrev i27_R16 := [oo 76 (bB .lss 75 74)]
abbrev i27_R17 := [oo 77 (iA 6 73 75), oo 78 (lT 6 77), oo 10 (.alloc [zI, zI, zI, .str ⟨#[]⟩, zI, zI]), oe (sT 6 10 78)]
abbrev i27_R18 := [oo 79 (mT 0), oo 80 (fA 0 10), oo 81 (lF 80), oo 82 (fA 1 10), oo 83 (lF 82), oo 84 (fA 2 10), oo 85 (lF 84), oo 86 (.bsl 1 [zI] 3 [(0, (.t 81)), (1, (.t 83)), (2, (.t 85))]), oo 87 (.call 74 [(.t 79), (.t 86)]), oo 88 (fA 3 10), oo 89 (lF 88), oo 90 (.s2b (.t 89)), oo 91 (.call 75 [(.t 87), (.t 90)]), oo 0 (mT 91)]
abbrev i27_R19 := [oo 92 (mT 0), oo 93 (fA 4 10), oo 94 (lF 93), oo 95 (.call 77 [(.t 92), (.t 94)]), oo 96 (fA 5 10), oo 97 (lF 96), oo 98 (.bsl 1 [zI] 1 [(0, (.t 97))]), oo 99 (.call 74 [(.t 95), (.t 98)]), oo 0 (mT 99)]
abbrev i27_R20 := [oo 100 (bK .add 75 1), oo 75 (mT 100)]
abbrev i27_L2 : IC := (.seq (.reg none i27_R16) (.seq (.cond (.t 76) .skip (.out 4)) (.seq (.block 5 (.seq (.reg none i27_R17) (.seq (.reg (some [(7, 10), (8, 10), (2, 11), (4, 11), (6, 11), (7, 11), (8, 11)]) i27_R18) (.reg (some [(3, 5), (2, 6), (3, 6)]) i27_R19)))) (.reg none i27_R20))))
abbrev i27_R21 := [oo 101 (mT 0), oo 4 (mT 101)]
abbrev i27_B : IC := (.seq (.reg none i27_R0) (.seq (.reg none i27_R1) (.seq (.seq (.reg none i27_R2) (.block 0 (.loop i27_L1))) (.seq (.reg none i27_R14) (.seq (.seq (.reg none i27_R15) (.block 4 (.loop i27_L2))) (.seq (.reg none i27_R21) .ret))))))
abbrev i27_V : List Nat := [0, 1, 3, 4, 6, 8, 10, 20, 21, 22, 23, 51, 52, 53, 54, 73, 74, 75, 76]
def i27 : IFn := ⟨102, i27_V, [.tmp 4], i27_B⟩
theorem i27_ok : compF Try.prog i27_V Try.f27 = some i27 := by kernel_rfl
/-! funicular/funicularlaw22.lightOps -/
abbrev i29_R0 := [oo 2 (.mv kF)]
abbrev i29_R1 := [oo 4 (mT 0), oo 5 (lL 4), oo 6 (bK .gtr 5 60)]
abbrev i29_R2 := [oo 2 (.mv kF)]
abbrev i29_R3 := [oo 3 (.mv (kI 0))]
abbrev i29_R4 := [oo 7 (mT 3), oo 8 (mT 0), oo 9 (lL 8), oo 10 (bB .lss 7 9)]
abbrev i29_R5 := [oo 13 (mT 0), oo 14 (mT 3), oo 15 (iA 10 13 14), oo 16 (fA 3 15), oo 17 (fA 0 16), oo 18 (lF 17), oo 19 (lL 18), oo 20 (bK .gtr 19 20), oo 21 (mT 20), og 22 21 false (mT 0), og 23 21 false (mT 3), og 24 21 false (iA 10 22 23), og 25 21 false (fA 3 24), og 26 21 false (fA 1 25), og 27 21 false (lF 26), og 28 21 false (lL 27), og 29 21 false (bK .gtr 28 20), oo 30 (.pick (.t 21) kT (.t 29)), oo 31 (mT 30), og 32 31 false (mT 0), og 33 31 false (mT 3), og 34 31 false (iA 10 32 33), og 35 31 false (fA 1 34), og 36 31 false (lF 35), og 37 31 false (.lens (.t 36)), og 38 31 false (bK .gtr 37 100), oo 39 (.pick (.t 31) kT (.t 38))]
abbrev i29_R6 := [oo 2 (.mv kF)]
abbrev i29_R7 := [oo 11 (mT 3), oo 12 (bK .add 11 1), oo 3 (mT 12)]
abbrev i29_L0 : IC := (.seq (.seq (.reg none i29_R4) (.cond (.t 10) .skip (.out 0))) (.seq (.block 1 (.seq (.reg none i29_R5) (.cond (.t 39) (.seq (.reg none i29_R6) .ret) .skip))) (.reg none i29_R7)))
abbrev i29_R8 := [oo 2 (.mv kT)]
abbrev i29_B : IC := (.seq (.reg none i29_R0) (.seq (.seq (.reg none i29_R1) (.cond (.t 6) (.seq (.reg none i29_R2) .ret) .skip)) (.seq (.seq (.reg none i29_R3) (.block 0 (.loop i29_L0))) (.seq (.reg none i29_R8) .ret))))
abbrev i29_V : List Nat := [0, 2, 3, 6, 10, 39]
def i29 : IFn := ⟨40, i29_V, [.tmp 2], i29_B⟩
theorem i29_ok : compF Try.prog i29_V Try.f29 = some i29 := by kernel_rfl
/-! funicular/post.New -/
abbrev i30_R0 := [oo 0 (.alloc [zI, .nil, .nil])]
abbrev i30_R1 := [oo 1 (.build [zI, .nil, .nil] [(0, 1, (kI 1))]), oe (sT 3 0 1)]
abbrev i30_B : IC := (.seq (.reg none i30_R0) (.seq (.reg none i30_R1) .ret))
abbrev i30_V : List Nat := [0]
def i30 : IFn := ⟨2, i30_V, [.cell 0 true 3], i30_B⟩
theorem i30_ok : compF Try.prog i30_V Try.f30 = some i30 := by kernel_rfl
/-! funicular/funicularlaw22.step -/
abbrev i31_R0 := [oo 2 (.box (.t 0)), oo 3 (.box (.t 1)), oo 4 (.alloc [zI, .nil, .nil]), oo 5 (.mv (.c (.nil)))]
abbrev i31_R1 := [oo 15 (fA 0 3), oo 16 (lF 15)]
abbrev i31_R2 := [oo 18 (bK .eql 16 0), oo 17 (mT 18)]
abbrev i31_R3 := [oo 20 (lT 3 2), oo 21 (fA 1 3), oo 22 (lF 21), oo 23 (fA 2 3), oo 24 (lF 23), oo 25 (fA 3 3), oo 26 (lT 2 25), oo 27 (fA 5 3), oo 28 (lF 27), oo 29 (fA 6 3), oo 30 (lF 29), oo 31 (.call 16 [(.t 20), (.t 22), (.t 24), (.t 26), (.t 28), (.t 30)]), oo 19 (mT 31), oo 32 (xT 0 19), oo 33 (xT 1 19), oo 34 (xT 2 19), oo 35 (xT 3 19), oo 6 (.alloc [zI, .nil, .nil]), oe (sT 3 6 32), oo 7 (mT 33), oo 8 (mT 34), oo 9 (mT 35)]
abbrev i31_R4 := [oo 36 (mT 9), oo 37 (bK .eql 36 0)]
abbrev i31_R5 := [oo 38 (lT 3 6), oo 39 (mT 8), oe (sT 3 4 38), oo 5 (mT 39)]
abbrev i31_R6 := [oo 41 (bK .eql 16 1), oo 40 (mT 41)]
abbrev i31_R7 := [oo 43 (lT 3 2), oo 44 (lT 10 3), oo 45 (.call 20 [(.t 44)]), oo 46 (.call 19 [(.t 43), (.t 45)]), oo 42 (mT 46), oo 47 (xT 0 42), oo 48 (xT 1 42), oo 49 (xT 2 42), oo 10 (.alloc [zI, .nil, .nil]), oe (sT 3 10 47), oo 11 (mT 48), oo 12 (mT 49)]
abbrev i31_R8 := [oo 50 (mT 12), oo 51 (bK .eql 50 0)]
abbrev i31_R9 := [oo 52 (lT 3 10), oo 53 (mT 11), oe (sT 3 4 52), oo 5 (mT 53)]
abbrev i31_R10 := [oo 55 (bK .eql 16 2), oo 54 (mT 55)]
abbrev i31_R11 := [oo 57 (lT 3 2), oo 58 (fA 7 3), oo 59 (lF 58), oo 60 (fA 8 3), oo 61 (lF 60), oo 62 (.call 22 [(.t 57), (.t 59), (.t 61)]), oo 56 (mT 62), oo 63 (xT 0 56), oo 64 (xT 1 56), oo 13 (.alloc [zI, .nil, .nil]), oe (sT 3 13 63), oo 14 (mT 64)]
abbrev i31_R12 := [oo 65 (mT 14), oo 66 (bK .eql 65 0)]
abbrev i31_R13 := [oo 67 (lT 3 13), oe (sT 3 4 67), oo 5 (.mv (.c (.nil)))]
abbrev i31_R14 := [oo 69 (bK .eql 16 3), oo 68 (mT 69)]
abbrev i31_R15 := [oo 70 (lT 3 2), oo 71 (fA 5 3), oo 72 (lF 71), oo 73 (.call 24 [(.t 70), (.t 72)]), oe (sT 3 4 73), oo 5 (.mv (.c (.nil)))]
abbrev i31_R16 := [oo 74 (lT 3 2), oe (sT 3 4 74), oo 5 (.mv (.c (.nil)))]
abbrev i31_B : IC := (.seq (.reg none i31_R0) (.seq (.seq (.reg none i31_R1) (.block 0 (.seq (.reg none i31_R2) (.cond (.t 17) (.seq (.reg none i31_R3) (.seq (.reg none i31_R4) (.cond (.t 37) (.seq (.reg none i31_R5) .ret) .skip))) (.seq (.reg none i31_R6) (.cond (.t 40) (.seq (.reg (some [(0, 2), (0, 8), (1, 8), (2, 8), (3, 8)]) i31_R7) (.seq (.reg none i31_R8) (.cond (.t 51) (.seq (.reg none i31_R9) .ret) .skip))) (.seq (.reg none i31_R10) (.cond (.t 54) (.seq (.reg none i31_R11) (.seq (.reg none i31_R12) (.cond (.t 66) (.seq (.reg none i31_R13) .ret) .skip))) (.seq (.reg none i31_R14) (.cond (.t 68) (.seq (.reg none i31_R15) .ret) .skip)))))))))) (.seq (.reg none i31_R16) .ret)))
abbrev i31_V : List Nat := [0, 1, 2, 3, 4, 5, 6, 8, 9, 10, 11, 12, 13, 14, 16, 17, 37, 40, 51, 54, 66, 68]
def i31 : IFn := ⟨75, i31_V, [.cell 4 true 3, .tmp 5], i31_B⟩
theorem i31_ok : compF Try.prog i31_V Try.f31 = some i31 := by kernel_rfl
/-! funicular/funicularref22.Find -/
abbrev i32_R0 := [oo 3 (.box (.t 0)), oo 6 (.mv (kI 0))]
abbrev i32_R1 := [oo 7 (.mv (kI 0))]
abbrev i32_R2 := [oo 8 (mT 7), oo 9 (fA 2 3), oo 10 (lF 9), oo 11 (lL 10), oo 12 (bB .lss 8 11)]
abbrev i32_R3 := [oo 15 (fA 2 3), oo 16 (lF 15), oo 17 (mT 7), oo 18 (iA 6 16 17), oo 19 (fA 0 18), oo 20 (lF 19), oo 21 (mT 1), oo 22 (bB .eql 20 21), oo 23 (mT 22), og 24 23 true (fA 2 3), og 25 23 true (lF 24), og 26 23 true (mT 7), og 27 23 true (iA 6 25 26), og 28 23 true (fA 1 27), og 29 23 true (lF 28), og 30 23 true (mT 2), og 31 23 true (bB .eql 29 30), oo 32 (.pick (.t 23) (.t 31) kF)]
abbrev i32_R4 := [oo 33 (mT 7), oo 6 (mT 33)]
abbrev i32_R5 := [oo 13 (mT 7), oo 14 (bK .add 13 1), oo 7 (mT 14)]
abbrev i32_L0 : IC := (.seq (.seq (.reg none i32_R2) (.cond (.t 12) .skip (.out 0))) (.seq (.block 1 (.seq (.reg none i32_R3) (.cond (.t 32) (.seq (.reg none i32_R4) .ret) .skip))) (.reg none i32_R5)))
abbrev i32_R6 := [oo 6 (.mv (kI (-1)))]
abbrev i32_B : IC := (.seq (.reg none i32_R0) (.seq (.seq (.reg none i32_R1) (.block 0 (.loop i32_L0))) (.seq (.reg none i32_R6) .ret)))
abbrev i32_V : List Nat := [0, 1, 2, 3, 6, 7, 12, 32]
def i32 : IFn := ⟨34, i32_V, [.tmp 6], i32_B⟩
theorem i32_ok : compF Try.prog i32_V Try.f32 = some i32 := by kernel_rfl
/-! funicular/funicularref09.One -/
abbrev i34_R0 := [oo 4 (.alloc [.nil, .nil])]
abbrev i34_R1 := [oo 5 (mT 0), oo 6 (.bsl 1 [.str ⟨#[]⟩] 1 [(0, (.t 5))]), oo 7 (mT 1), oo 8 (.bsl 1 [zI] 1 [(0, (.t 7))]), oo 9 (.build [.nil, .nil] [(0, 1, (.t 6)), (1, 1, (.t 8))]), oe (sT 2 4 9)]
abbrev i34_B : IC := (.seq (.reg none i34_R0) (.seq (.reg none i34_R1) .ret))
abbrev i34_V : List Nat := [0, 1, 4]
def i34 : IFn := ⟨10, i34_V, [.cell 4 true 2], i34_B⟩
theorem i34_ok : compF Try.prog i34_V Try.f34 = some i34 := by kernel_rfl
/-! funicular/post.wide -/
abbrev i35_R0 := [oo 2 (.mv kF)]
abbrev i35_R1 := [oo 3 (mT 0), oo 4 (bK .geq 3 1), oo 5 (mT 4), og 6 5 true (mT 0), og 7 5 true (bK .leq 6 1099511627776), oo 8 (.pick (.t 5) (.t 7) kF), oo 2 (mT 8)]
abbrev i35_B : IC := (.seq (.reg none i35_R0) (.seq (.reg none i35_R1) .ret))
abbrev i35_V : List Nat := [0, 2]
def i35 : IFn := ⟨9, i35_V, [.tmp 2], i35_B⟩
theorem i35_ok : compF Try.prog i35_V Try.f35 = some i35 := by kernel_rfl
/-! funicular/post.mail -/
abbrev i36_R0 := [oo 1 (.box (.t 0)), oo 2 (.mv (kI 0))]
abbrev i36_R1 := [oo 6 (fA 0 1), oo 7 (lF 6), oo 8 (.call 35 [(.t 7)]), oo 9 (.nt (.t 8)), oo 10 (mT 9), og 11 10 false (fA 1 1), og 12 10 false (lF 11), og 13 10 false (.call 55 [(.t 12)]), og 14 10 false (.nt (.t 13)), oo 15 (.pick (.t 10) kT (.t 14)), oo 16 (mT 15), og 17 16 false (fA 5 1), og 18 16 false (lF 17), og 19 16 false (bK .lss 18 0), oo 20 (.pick (.t 16) kT (.t 19)), oo 21 (mT 20), og 22 21 false (fA 5 1), og 23 21 false (lF 22), og 24 21 false (bK .gtr 23 1099511627776), oo 25 (.pick (.t 21) kT (.t 24))]
abbrev i36_R2 := [oo 2 (.mv (kI 1))]
abbrev i36_R3 := [oo 26 (fA 3 1), oo 27 (lT 2 26), oo 28 (.call 56 [(.t 27)]), oo 3 (mT 28)]
abbrev i36_R4 := [oo 29 (mT 3), oo 30 (bK .neq 29 0)]
abbrev i36_R5 := [oo 31 (mT 3), oo 2 (mT 31)]
abbrev i36_R6 := [oo 32 (fA 6 1), oo 33 (lF 32), oo 34 (lL 33), oo 35 (.mv (kI 0))]
abbrev i36_R7 := [oo 36 (bB .lss 35 34)]
abbrev i36_R8 := [oo 37 (mT 35), oo 38 (iA 2 33 35), oo 39 (lT 2 38), oo 5 (.alloc [zI, zI]), oo 4 (mT 37), oe (sT 2 5 39)]
abbrev i36_R9 := [oo 40 (fA 0 5), oo 41 (lF 40), oo 42 (.call 78 [(.t 41)]), oo 43 (.nt (.t 42)), oo 44 (mT 43), og 45 44 false (fA 1 5), og 46 44 false (lF 45), og 47 44 false (.call 35 [(.t 46)]), og 48 44 false (.nt (.t 47)), oo 49 (.pick (.t 44) kT (.t 48)), oo 50 (mT 49), og 51 50 false (fA 6 1), og 52 50 false (lF 51), og 53 50 false (mT 4), og 54 50 false (.sll 2 (.t 52) none (some (.t 53)) none), og 55 50 false (lT 2 5), og 56 50 false (.call 79 [(.t 54), (.t 55)]), oo 57 (.pick (.t 50) kT (.t 56))]
abbrev i36_R10 := [oo 2 (.mv (kI 1))]
abbrev i36_R11 := [oo 58 (bK .add 35 1), oo 35 (mT 58)]
abbrev i36_L0 : IC := (.seq (.reg none i36_R7) (.seq (.cond (.t 36) .skip (.out 0)) (.seq (.block 1 (.seq (.reg none i36_R8) (.seq (.reg (some []) i36_R9) (.cond (.t 57) (.seq (.reg none i36_R10) .ret) .skip)))) (.reg none i36_R11))))
abbrev i36_R12 := [oo 2 (.mv (kI 0))]
abbrev i36_B : IC := (.seq (.reg none i36_R0) (.seq (.seq (.reg none i36_R1) (.cond (.t 25) (.seq (.reg none i36_R2) .ret) .skip)) (.seq (.seq (.reg none i36_R3) (.seq (.reg none i36_R4) (.cond (.t 30) (.seq (.reg none i36_R5) .ret) .skip))) (.seq (.seq (.reg none i36_R6) (.block 0 (.loop i36_L0))) (.seq (.reg none i36_R12) .ret)))))
abbrev i36_V : List Nat := [0, 1, 2, 3, 4, 5, 25, 30, 33, 34, 35, 36, 57]
def i36 : IFn := ⟨59, i36_V, [.tmp 2], i36_B⟩
theorem i36_ok : compF Try.prog i36_V Try.f36 = some i36 := by kernel_rfl
/-! funicular/post.sub -/
abbrev i37_R0 := [oo 1 (.box (.t 0)), oo 2 (.mv kF)]
abbrev i37_R1 := [oo 3 (fA 0 1), oo 4 (lF 3), oo 5 (.call 78 [(.t 4)]), oo 6 (mT 5), og 7 6 true (fA 1 1), og 8 6 true (lF 7), og 9 6 true (.call 35 [(.t 8)]), oo 10 (.pick (.t 6) (.t 9) kF), oo 11 (mT 10), og 12 11 true (fA 2 1), og 13 11 true (lF 12), og 14 11 true (.call 35 [(.t 13)]), oo 15 (.pick (.t 11) (.t 14) kF), oo 16 (mT 15), og 17 16 true (fA 3 1), og 18 16 true (lF 17), og 19 16 true (.call 55 [(.t 18)]), oo 20 (.pick (.t 16) (.t 19) kF), oo 21 (mT 20), og 22 21 true (fA 5 1), og 23 21 true (lF 22), og 24 21 true (bK .geq 23 0), oo 25 (.pick (.t 21) (.t 24) kF), oo 26 (mT 25), og 27 26 true (fA 5 1), og 28 26 true (lF 27), og 29 26 true (bK .leq 28 1099511627776), oo 30 (.pick (.t 26) (.t 29) kF), oo 2 (mT 30)]
abbrev i37_B : IC := (.seq (.reg none i37_R0) (.seq (.reg none i37_R1) .ret))
abbrev i37_V : List Nat := [0, 1, 2]
def i37 : IFn := ⟨31, i37_V, [.tmp 2], i37_B⟩
theorem i37_ok : compF Try.prog i37_V Try.f37 = some i37 := by kernel_rfl
/-! funicular/post.of -/
abbrev i38_R0 := [oo 1 (.box (.t 0)), oo 2 (.alloc [zI, zI])]
abbrev i38_R1 := [oo 3 (fA 0 1), oo 4 (lF 3), oo 5 (fA 1 1), oo 6 (lF 5), oo 7 (.build [zI, zI] [(0, 1, (.t 4)), (1, 1, (.t 6))]), oe (sT 2 2 7)]
abbrev i38_B : IC := (.seq (.reg none i38_R0) (.seq (.reg none i38_R1) .ret))
abbrev i38_V : List Nat := [0, 1, 2]
def i38 : IFn := ⟨8, i38_V, [.cell 2 true 2], i38_B⟩
theorem i38_ok : compF Try.prog i38_V Try.f38 = some i38 := by kernel_rfl
/-! (funicular/post.key).order -/
abbrev i39_R0 := [oo 2 (.box (.t 0)), oo 3 (.box (.t 1)), oo 4 (.mv (kI 0))]
abbrev i39_R1 := [oo 6 (lT 2 2), oo 7 (lT 2 3), oo 8 (.eqc false [(0, 1), (1, 1)] (.t 6) (.t 7)), oo 5 (mT 8)]
abbrev i39_R2 := [oo 4 (.mv (kI 0))]
abbrev i39_R3 := [oo 10 (fA 0 2), oo 11 (lF 10), oo 12 (fA 0 3), oo 13 (lF 12), oo 14 (bB .lss 11 13), oo 15 (mT 14), og 16 15 false (fA 0 2), og 17 15 false (lF 16), og 18 15 false (fA 0 3), og 19 15 false (lF 18), og 20 15 false (bB .eql 17 19), og 21 15 false (mT 20), og 22 21 true (fA 1 2), og 23 21 true (lF 22), og 24 21 true (fA 1 3), og 25 21 true (lF 24), og 26 21 true (bB .lss 23 25), og 27 15 false (.pick (.t 21) (.t 26) kF), oo 28 (.pick (.t 15) kT (.t 27)), oo 9 (mT 28)]
abbrev i39_R4 := [oo 4 (.mv (kI (-1)))]
abbrev i39_R5 := [oo 4 (.mv (kI 1))]
abbrev i39_B : IC := (.seq (.reg none i39_R0) (.seq (.block 0 (.seq (.reg none i39_R1) (.cond (.t 5) (.seq (.reg none i39_R2) .ret) (.seq (.reg none i39_R3) (.cond (.t 9) (.seq (.reg none i39_R4) .ret) .skip))))) (.seq (.reg none i39_R5) .ret)))
abbrev i39_V : List Nat := [0, 1, 2, 3, 4, 5, 9]
def i39 : IFn := ⟨29, i39_V, [.tmp 4], i39_B⟩
theorem i39_ok : compF Try.prog i39_V Try.f39 = some i39 := by kernel_rfl
/-! slices.Equal[[]funicular/api.Sub,funicular/api.Sub] -/
abbrev i44_R0 := [oo 4 (.mv kF)]
abbrev i44_R1 := [oo 6 (mT 0), oo 7 (lL 6), oo 8 (mT 1), oo 9 (lL 8), oo 10 (bB .neq 7 9)]
abbrev i44_R2 := [oo 4 (.mv kF)]
abbrev i44_R3 := [oo 11 (mT 0), oo 12 (lL 11), oo 13 (.mv (kI 0))]
abbrev i44_R4 := [oo 14 (bB .lss 13 12)]
abbrev i44_R5 := [oo 15 (mT 13), oo 5 (mT 15)]
abbrev i44_R6 := [oo 16 (mT 0), oo 17 (mT 5), oo 18 (iA 6 16 17), oo 19 (lT 6 18), oo 20 (mT 1), oo 21 (mT 5), oo 22 (iA 6 20 21), oo 23 (lT 6 22), oo 24 (.eqc true [(0, 1), (1, 1), (2, 1), (3, 2), (4, 1), (5, 1)] (.t 19) (.t 23))]
abbrev i44_R7 := [oo 4 (.mv kF)]
abbrev i44_R8 := [oo 25 (bK .add 13 1), oo 13 (mT 25)]
abbrev i44_L0 : IC := (.seq (.reg none i44_R4) (.seq (.cond (.t 14) .skip (.out 0)) (.seq (.block 1 (.seq (.reg none i44_R5) (.seq (.reg (some []) i44_R6) (.cond (.t 24) (.seq (.reg none i44_R7) .ret) .skip)))) (.reg none i44_R8))))
abbrev i44_R9 := [oo 4 (.mv kT)]
abbrev i44_B : IC := (.seq (.reg none i44_R0) (.seq (.seq (.reg none i44_R1) (.cond (.t 10) (.seq (.reg none i44_R2) .ret) .skip)) (.seq (.seq (.reg none i44_R3) (.block 0 (.loop i44_L0))) (.seq (.reg none i44_R9) .ret))))
abbrev i44_V : List Nat := [0, 1, 4, 5, 10, 12, 13, 14, 24]
def i44 : IFn := ⟨26, i44_V, [.tmp 4], i44_B⟩
theorem i44_ok : compF Try.prog i44_V Try.f44 = some i44 := by kernel_rfl
/-! slices.EqualFunc[[]funicular/api.Mail,[]funicular/api.Mail,funicular/api.Mail,funicular/api.Mail] -/
abbrev i45_R0 := [oo 6 (.mv kF)]
abbrev i45_R1 := [oo 10 (mT 0), oo 11 (lL 10), oo 12 (mT 1), oo 13 (lL 12), oo 14 (bB .neq 11 13)]
abbrev i45_R2 := [oo 6 (.mv kF)]
abbrev i45_R3 := [oo 15 (mT 0), oo 16 (lL 15), oo 17 (.mv (kI 0))]
abbrev i45_R4 := [oo 18 (bB .lss 17 16)]
abbrev i45_R5 := [oo 19 (mT 17), oo 20 (iA 7 15 17), oo 21 (lT 7 20), oo 8 (.alloc [zI, .str ⟨#[]⟩, zI, .nil, .nil, zI, .nil]), oo 7 (mT 19), oe (sT 7 8 21)]
abbrev i45_R6 := [oo 22 (mT 1), oo 23 (mT 7), oo 24 (iA 7 22 23), oo 25 (lT 7 24), oo 9 (.alloc [zI, .str ⟨#[]⟩, zI, .nil, .nil, zI, .nil]), oe (sT 7 9 25)]
abbrev i45_R7 := [oo 26 (mT 2), oo 27 (lT 7 8), oo 28 (lT 7 9), oo 29 (.callv (.t 26) [(.t 27), (.t 28)]), oo 30 (.nt (.t 29))]
abbrev i45_R8 := [oo 6 (.mv kF)]
abbrev i45_R9 := [oo 31 (bK .add 17 1), oo 17 (mT 31)]
abbrev i45_L0 : IC := (.seq (.reg none i45_R4) (.seq (.cond (.t 18) .skip (.out 0)) (.seq (.block 1 (.seq (.reg none i45_R5) (.seq (.reg none i45_R6) (.seq (.reg none i45_R7) (.cond (.t 30) (.seq (.reg none i45_R8) .ret) .skip))))) (.reg none i45_R9))))
abbrev i45_R10 := [oo 6 (.mv kT)]
abbrev i45_B : IC := (.seq (.reg none i45_R0) (.seq (.seq (.reg none i45_R1) (.cond (.t 14) (.seq (.reg none i45_R2) .ret) .skip)) (.seq (.seq (.reg none i45_R3) (.block 0 (.loop i45_L0))) (.seq (.reg none i45_R10) .ret))))
abbrev i45_V : List Nat := [0, 1, 2, 6, 7, 8, 9, 14, 15, 16, 17, 18, 30]
def i45 : IFn := ⟨32, i45_V, [.tmp 6], i45_B⟩
theorem i45_ok : compF Try.prog i45_V Try.f45 = some i45 := by kernel_rfl
/-! funicular/post.Same$1 -/
abbrev i46_R0 := [oo 2 (.box (.t 0)), oo 3 (.box (.t 1)), oo 4 (.mv kF)]
abbrev i46_R1 := [oo 5 (fA 0 2), oo 6 (lF 5), oo 7 (fA 0 3), oo 8 (lF 7), oo 9 (bB .eql 6 8), oo 10 (mT 9), og 11 10 true (fA 1 2), og 12 10 true (lF 11), og 13 10 true (fA 1 3), og 14 10 true (lF 13), og 15 10 true (bB .eql 12 14), oo 16 (.pick (.t 10) (.t 15) kF), oo 17 (mT 16), og 18 17 true (fA 2 2), og 19 17 true (lF 18), og 20 17 true (fA 2 3), og 21 17 true (lF 20), og 22 17 true (bB .eql 19 21), oo 23 (.pick (.t 17) (.t 22) kF), oo 24 (mT 23), og 25 24 true (fA 5 2), og 26 24 true (lF 25), og 27 24 true (fA 5 3), og 28 24 true (lF 27), og 29 24 true (bB .eql 26 28), oo 30 (.pick (.t 24) (.t 29) kF), oo 31 (mT 30), og 32 31 true (fA 3 2), og 33 31 true (lT 2 32), og 34 31 true (fA 3 3), og 35 31 true (lT 2 34), og 36 31 true (.call 47 [(.t 33), (.t 35)]), oo 37 (.pick (.t 31) (.t 36) kF), oo 38 (mT 37), og 39 38 true (fA 6 2), og 40 38 true (lF 39), og 41 38 true (fA 6 3), og 42 38 true (lF 41), og 43 38 true (.call 48 [(.t 40), (.t 42)]), oo 44 (.pick (.t 38) (.t 43) kF), oo 4 (mT 44)]
abbrev i46_B : IC := (.seq (.reg none i46_R0) (.seq (.reg none i46_R1) .ret))
abbrev i46_V : List Nat := [0, 1, 2, 3, 4]
def i46 : IFn := ⟨45, i46_V, [.tmp 4], i46_B⟩
theorem i46_ok : compF Try.prog i46_V Try.f46 = some i46 := by kernel_rfl
/-! funicular/vars.Same -/
abbrev i47_R0 := [oo 2 (.box (.t 0)), oo 3 (.box (.t 1)), oo 4 (.mv kF)]
abbrev i47_R1 := [oo 5 (fA 0 2), oo 6 (lF 5), oo 7 (fA 0 3), oo 8 (lF 7), oo 9 (.call 81 [(.t 6), (.t 8)]), oo 10 (mT 9), og 11 10 true (fA 1 2), og 12 10 true (lF 11), og 13 10 true (fA 1 3), og 14 10 true (lF 13), og 15 10 true (.call 82 [(.t 12), (.t 14)]), oo 16 (.pick (.t 10) (.t 15) kF), oo 4 (mT 16)]
abbrev i47_B : IC := (.seq (.reg none i47_R0) (.seq (.reg none i47_R1) .ret))
abbrev i47_V : List Nat := [0, 1, 2, 3, 4]
def i47 : IFn := ⟨17, i47_V, [.tmp 4], i47_B⟩
theorem i47_ok : compF Try.prog i47_V Try.f47 = some i47 := by kernel_rfl
/-! slices.Equal[[]funicular/api.Who,funicular/api.Who] -/
abbrev i48_R0 := [oo 4 (.mv kF)]
abbrev i48_R1 := [oo 6 (mT 0), oo 7 (lL 6), oo 8 (mT 1), oo 9 (lL 8), oo 10 (bB .neq 7 9)]
abbrev i48_R2 := [oo 4 (.mv kF)]
abbrev i48_R3 := [oo 11 (mT 0), oo 12 (lL 11), oo 13 (.mv (kI 0))]
abbrev i48_R4 := [oo 14 (bB .lss 13 12)]
abbrev i48_R5 := [oo 15 (mT 13), oo 5 (mT 15)]
abbrev i48_R6 := [oo 16 (mT 0), oo 17 (mT 5), oo 18 (iA 2 16 17), oo 19 (lT 2 18), oo 20 (mT 1), oo 21 (mT 5), oo 22 (iA 2 20 21), oo 23 (lT 2 22), oo 24 (.eqc true [(0, 1), (1, 1)] (.t 19) (.t 23))]
abbrev i48_R7 := [oo 4 (.mv kF)]
abbrev i48_R8 := [oo 25 (bK .add 13 1), oo 13 (mT 25)]
abbrev i48_L0 : IC := (.seq (.reg none i48_R4) (.seq (.cond (.t 14) .skip (.out 0)) (.seq (.block 1 (.seq (.reg none i48_R5) (.seq (.reg (some []) i48_R6) (.cond (.t 24) (.seq (.reg none i48_R7) .ret) .skip)))) (.reg none i48_R8))))
abbrev i48_R9 := [oo 4 (.mv kT)]
abbrev i48_B : IC := (.seq (.reg none i48_R0) (.seq (.seq (.reg none i48_R1) (.cond (.t 10) (.seq (.reg none i48_R2) .ret) .skip)) (.seq (.seq (.reg none i48_R3) (.block 0 (.loop i48_L0))) (.seq (.reg none i48_R9) .ret))))
abbrev i48_V : List Nat := [0, 1, 4, 5, 10, 12, 13, 14, 24]
def i48 : IFn := ⟨26, i48_V, [.tmp 4], i48_B⟩
theorem i48_ok : compF Try.prog i48_V Try.f48 = some i48 := by kernel_rfl
/-! funicular/vars.Copy -/
abbrev i52_R0 := [oo 1 (.box (.t 0)), oo 2 (.alloc [.nil, .nil])]
abbrev i52_R1 := [oo 3 (fA 0 1), oo 4 (lF 3), oo 5 (.cln 1 (.t 4)), oo 6 (fA 1 1), oo 7 (lF 6), oo 8 (.cln 1 (.t 7)), oo 9 (.build [.nil, .nil] [(0, 1, (.t 5)), (1, 1, (.t 8))]), oe (sT 2 2 9)]
abbrev i52_B : IC := (.seq (.reg none i52_R0) (.seq (.reg (some [(2, 4)]) i52_R1) .ret))
abbrev i52_V : List Nat := [0, 1, 2]
def i52 : IFn := ⟨10, i52_V, [.cell 2 true 2], i52_B⟩
theorem i52_ok : compF Try.prog i52_V Try.f52 = some i52 := by kernel_rfl
/-! funicular/post.Publish$1 -/
abbrev i54_R0 := [oo 2 (.alloc [zI, .nil, .nil]), oo 3 (.mv (kI 0)), oo 4 (.mv (.c (.nil))), oo 5 (.mv (kI 0))]
abbrev i54_R1 := [oo 6 (.build [zI, .nil, .nil] []), oo 7 (mT 0), oe (sT 3 2 6), oo 3 (.mv (kI 0)), oo 4 (.mv (.c (.nil))), oo 5 (mT 7)]
abbrev i54_B : IC := (.seq (.reg none i54_R0) (.seq (.reg none i54_R1) .ret))
abbrev i54_V : List Nat := [0, 2, 3, 4, 5]
def i54 : IFn := ⟨8, i54_V, [.cell 2 true 3, .tmp 3, .tmp 4, .tmp 5], i54_B⟩
theorem i54_ok : compF Try.prog i54_V Try.f54 = some i54 := by kernel_rfl
/-! funicular/pack.Name -/
abbrev i55_R0 := [oo 2 (.mv kF)]
abbrev i55_R1 := [oo 6 (mT 0), oo 7 (.s2b (.t 6)), oo 8 (lL 7), oo 9 (.mv (kI 0))]
abbrev i55_R2 := [oo 10 (bB .lss 9 8)]
abbrev i55_R3 := [oo 11 (mT 9), oo 12 (iA 1 7 9), oo 13 (lF 12), oo 3 (mT 11), oo 4 (mT 13)]
abbrev i55_R4 := [oo 14 (mT 4), oo 15 (.bin .geq (.t 14) (.c (.int .u8 97))), oo 16 (mT 15), og 17 16 true (mT 4), og 18 16 true (.bin .leq (.t 17) (.c (.int .u8 122))), oo 19 (.pick (.t 16) (.t 18) kF), oo 5 (mT 19)]
abbrev i55_R5 := [oo 20 (mT 5), oo 21 (.nt (.t 20)), oo 22 (mT 21), og 23 22 true (mT 3), og 24 22 true (bK .eql 23 0), og 25 22 true (mT 24), og 26 25 false (mT 4), og 27 25 false (.bin .lss (.t 26) (.c (.int .u8 48))), og 28 22 true (.pick (.t 25) kT (.t 27)), og 29 22 true (mT 28), og 30 29 false (mT 4), og 31 29 false (.bin .gtr (.t 30) (.c (.int .u8 57))), og 32 22 true (.pick (.t 29) kT (.t 31)), oo 33 (.pick (.t 22) (.t 32) kF)]
abbrev i55_R6 := [oo 2 (.mv kF)]
abbrev i55_R7 := [oo 34 (bK .add 9 1), oo 9 (mT 34)]
abbrev i55_L0 : IC := (.seq (.reg none i55_R2) (.seq (.cond (.t 10) .skip (.out 0)) (.seq (.block 1 (.seq (.reg none i55_R3) (.seq (.reg none i55_R4) (.seq (.reg none i55_R5) (.cond (.t 33) (.seq (.reg none i55_R6) .ret) .skip))))) (.reg none i55_R7))))
abbrev i55_R8 := [oo 35 (mT 0), oo 36 (.lens (.t 35)), oo 37 (bK .geq 36 1), oo 38 (mT 37), og 39 38 true (mT 0), og 40 38 true (.lens (.t 39)), og 41 38 true (bK .leq 40 32), oo 42 (.pick (.t 38) (.t 41) kF), oo 2 (mT 42)]
abbrev i55_B : IC := (.seq (.reg none i55_R0) (.seq (.seq (.reg none i55_R1) (.block 0 (.loop i55_L0))) (.seq (.reg none i55_R8) .ret)))
abbrev i55_V : List Nat := [0, 2, 3, 4, 5, 7, 8, 9, 10, 33]
def i55 : IFn := ⟨43, i55_V, [.tmp 2], i55_B⟩
theorem i55_ok : compF Try.prog i55_V Try.f55 = some i55 := by kernel_rfl
/-! funicular/vars.Check -/
abbrev i56_R0 := [oo 1 (.box (.t 0)), oo 2 (.mv (kI 0))]
abbrev i56_R1 := [oo 6 (fA 0 1), oo 7 (lF 6), oo 8 (lL 7), oo 9 (fA 1 1), oo 10 (lF 9), oo 11 (lL 10), oo 12 (bB .neq 8 11), oo 5 (mT 12)]
abbrev i56_R2 := [oo 2 (.mv (kI 1))]
abbrev i56_R3 := [oo 14 (fA 0 1), oo 15 (lF 14), oo 16 (lL 15), oo 17 (bK .gtr 16 64), oo 13 (mT 17)]
abbrev i56_R4 := [oo 2 (.mv (kI 6))]
abbrev i56_R5 := [oo 18 (fA 0 1), oo 19 (lF 18), oo 20 (lL 19), oo 21 (.mv (kI 0))]
abbrev i56_R6 := [oo 22 (bB .lss 21 20)]
abbrev i56_R7 := [oo 23 (mT 21), oo 24 (iA 1 19 21), oo 25 (lF 24), oo 3 (mT 23), oo 4 (mT 25)]
abbrev i56_R8 := [oo 26 (mT 4), oo 27 (.call 55 [(.t 26)]), oo 28 (.nt (.t 27)), oo 29 (mT 28), og 30 29 false (mT 4), og 31 29 false (.bin .eql (.t 30) (.c (.str ⟨#[121, 101, 115]⟩))), oo 32 (.pick (.t 29) kT (.t 31)), oo 33 (mT 32), og 34 33 false (mT 4), og 35 33 false (.bin .eql (.t 34) (.c (.str ⟨#[110, 111]⟩))), oo 36 (.pick (.t 33) kT (.t 35))]
abbrev i56_R9 := [oo 2 (.mv (kI 1))]
abbrev i56_R10 := [oo 37 (mT 3), oo 38 (bK .gtr 37 0), oo 39 (mT 38), og 40 39 true (fA 0 1), og 41 39 true (lF 40), og 42 39 true (mT 3), og 43 39 true (bK .sub 42 1), og 44 39 true (iA 1 41 43), og 45 39 true (lF 44), og 46 39 true (mT 4), og 47 39 true (bB .geq 45 46), oo 48 (.pick (.t 39) (.t 47) kF)]
abbrev i56_R11 := [oo 2 (.mv (kI 1))]
abbrev i56_R12 := [oo 49 (bK .add 21 1), oo 21 (mT 49)]
abbrev i56_L0 : IC := (.seq (.reg none i56_R6) (.seq (.cond (.t 22) .skip (.out 1)) (.seq (.block 2 (.seq (.reg none i56_R7) (.seq (.seq (.reg none i56_R8) (.cond (.t 36) (.seq (.reg none i56_R9) .ret) .skip)) (.seq (.reg none i56_R10) (.cond (.t 48) (.seq (.reg none i56_R11) .ret) .skip))))) (.reg none i56_R12))))
abbrev i56_R13 := [oo 2 (.mv (kI 0))]
abbrev i56_B : IC := (.seq (.reg none i56_R0) (.seq (.block 0 (.seq (.reg none i56_R1) (.cond (.t 5) (.seq (.reg none i56_R2) .ret) (.seq (.reg none i56_R3) (.cond (.t 13) (.seq (.reg none i56_R4) .ret) .skip))))) (.seq (.seq (.reg none i56_R5) (.block 1 (.loop i56_L0))) (.seq (.reg none i56_R13) .ret))))
abbrev i56_V : List Nat := [0, 1, 2, 3, 4, 5, 13, 19, 20, 21, 22, 36, 48]
def i56 : IFn := ⟨50, i56_V, [.tmp 2], i56_B⟩
theorem i56_ok : compF Try.prog i56_V Try.f56 = some i56 := by kernel_rfl
/-! funicular/post.suits -/
abbrev i57_R0 := [oo 2 (.box (.t 0)), oo 3 (.box (.t 1)), oo 4 (.mv kF)]
abbrev i57_R1 := [oo 5 (fA 5 3), oo 6 (lF 5), oo 7 (bK .eql 6 0), oo 8 (mT 7), og 9 8 true (fA 3 3), og 10 8 true (lF 9), og 11 8 true (fA 1 2), og 12 8 true (lF 11), og 13 8 true (bB .eql 10 12), oo 14 (.pick (.t 8) (.t 13) kF), oo 15 (mT 14), og 16 15 true (fA 4 3), og 17 15 true (lF 16), og 18 15 true (fA 2 2), og 19 15 true (lF 18), og 20 15 true (bB .eql 17 19), oo 21 (.pick (.t 15) (.t 20) kF), oo 22 (mT 21), og 23 22 true (fA 6 2), og 24 22 true (lF 23), og 25 22 true (fA 0 3), og 26 22 true (lF 25), og 27 22 true (fA 2 3), og 28 22 true (lF 27), og 29 22 true (.build [zI, zI] [(0, 1, (.t 26)), (1, 1, (.t 28))]), og 30 22 true (.call 79 [(.t 24), (.t 29)]), og 31 22 true (.nt (.t 30)), oo 32 (.pick (.t 22) (.t 31) kF), oo 4 (mT 32)]
abbrev i57_B : IC := (.seq (.reg none i57_R0) (.seq (.reg none i57_R1) .ret))
abbrev i57_V : List Nat := [0, 1, 2, 3, 4]
def i57 : IFn := ⟨33, i57_V, [.tmp 4], i57_B⟩
theorem i57_ok : compF Try.prog i57_V Try.f57 = some i57 := by kernel_rfl
/-! funicular/post.give -/
abbrev i58_R0 := [oo 4 (.alloc [zI, zI, zI, .nil, .nil])]
abbrev i58_R1 := [oo 5 (mT 1), oo 6 (mT 0), oo 7 (nT 6), oo 8 (fA 0 7), oo 9 (lF 8), oo 10 (nT 5), oo 11 (fA 5 10), oe (sT 1 11 9)]
abbrev i58_R2 := [oo 12 (mT 0), oo 13 (mT 0), oo 14 (nT 13), oo 15 (fA 6 14), oo 16 (lF 15), oo 17 (mT 1), oo 18 (nT 17), oo 19 (fA 0 18), oo 20 (lF 19), oo 21 (mT 1), oo 22 (nT 21), oo 23 (fA 2 22), oo 24 (lF 23), oo 25 (.build [zI, zI] [(0, 1, (.t 20)), (1, 1, (.t 24))]), oo 26 (.bsl 2 [zI, zI] 1 [(0, (.t 25))]), oo 27 (.app 2 (.t 16) (.t 26)), oo 28 (nT 12), oo 29 (fA 6 28), oe (sT 1 29 27)]
abbrev i58_R3 := [oo 30 (mT 1), oo 31 (nT 30), oo 32 (fA 0 31), oo 33 (lF 32), oo 34 (mT 1), oo 35 (nT 34), oo 36 (fA 1 35), oo 37 (lF 36), oo 38 (mT 0), oo 39 (nT 38), oo 40 (fA 0 39), oo 41 (lF 40), oo 42 (mT 0), oo 43 (nT 42), oo 44 (fA 3 43), oo 45 (lT 2 44), oo 46 (.call 52 [(.t 45)]), oo 47 (.build [zI, zI, zI, .nil, .nil] [(0, 1, (.t 33)), (1, 1, (.t 37)), (2, 1, (.t 41)), (3, 2, (.t 46))]), oe (sT 5 4 47)]
abbrev i58_B : IC := (.seq (.reg none i58_R0) (.seq (.reg none i58_R1) (.seq (.reg (some [(4, 14)]) i58_R2) (.seq (.reg (some [(3, 16), (7, 16), (11, 16)]) i58_R3) .ret))))
abbrev i58_V : List Nat := [0, 1, 4]
def i58 : IFn := ⟨48, i58_V, [.cell 4 true 5], i58_B⟩
theorem i58_ok : compF Try.prog i58_V Try.f58 = some i58 := by kernel_rfl
/-! funicular/post.find -/
abbrev i65_R0 := [oo 2 (.box (.t 0)), oo 3 (.box (.t 1)), oo 4 (.mv (kI 0)), oo 5 (.mv kF)]
abbrev i65_R1 := [oo 6 (fA 2 2), oo 7 (lF 6), oo 8 (lT 2 3), oo 9 (.call 86 [(.t 7), (.t 8), (.c (.fn (.func 87) [] []))]), oo 10 (xT 0 9), oo 11 (xT 1 9), oo 4 (mT 10), oo 5 (mT 11)]
abbrev i65_B : IC := (.seq (.reg none i65_R0) (.seq (.reg none i65_R1) .ret))
abbrev i65_V : List Nat := [0, 1, 2, 3, 4, 5]
def i65 : IFn := ⟨12, i65_V, [.tmp 4, .tmp 5], i65_B⟩
theorem i65_ok : compF Try.prog i65_V Try.f65 = some i65 := by kernel_rfl
/-! slices.Insert[[]funicular/api.Sub,funicular/api.Sub] -/
abbrev i66_R0 := [oo 6 (.mv (.c (.nil)))]
abbrev i66_R1 := [oo 10 (mT 0), oo 11 (mT 1), oo 12 (.sll 6 (.t 10) (some (.t 11)) none none)]
abbrev i66_R2 := [oo 13 (mT 2), oo 14 (lL 13), oo 7 (mT 14)]
abbrev i66_R3 := [oo 15 (mT 7), oo 16 (bK .eql 15 0)]
abbrev i66_R4 := [oo 17 (mT 0), oo 6 (mT 17)]
abbrev i66_R5 := [oo 18 (mT 0), oo 19 (lL 18), oo 8 (mT 19)]
abbrev i66_R6 := [oo 20 (mT 1), oo 21 (mT 8), oo 22 (bB .eql 20 21)]
abbrev i66_R7 := [oo 23 (mT 0), oo 24 (mT 2), oo 25 (.app 6 (.t 23) (.t 24)), oo 6 (mT 25)]
abbrev i66_R8 := [oo 26 (mT 8), oo 27 (mT 7), oo 28 (bB .add 26 27), oo 29 (mT 0), oo 30 .no, oo 31 (bB .gtr 28 30)]
abbrev i66_R9 := [oo 32 (mT 0), oo 33 (mT 1), oo 34 (.sll 6 (.t 32) none (some (.t 33)) none), oo 35 (mT 8), oo 36 (mT 7), oo 37 (bB .add 35 36), oo 38 (mT 1), oo 39 (bB .sub 37 38), oo 40 .no, oo 9 (mT 40)]
abbrev i66_R10 := [oo 41 (mT 9), oo 42 (mT 1), oo 43 (.sll 6 (.t 41) (some (.t 42)) none none), oo 44 (mT 2), oo 45 (.cpy 6 (.t 43) (.t 44))]
abbrev i66_R11 := [oo 46 (mT 9), oo 47 (mT 1), oo 48 (mT 7), oo 49 (bB .add 47 48), oo 50 (.sll 6 (.t 46) (some (.t 49)) none none), oo 51 (mT 0), oo 52 (mT 1), oo 53 (.sll 6 (.t 51) (some (.t 52)) none none), oo 54 (.cpy 6 (.t 50) (.t 53))]
abbrev i66_R12 := [oo 55 (mT 9), oo 6 (mT 55)]
abbrev i66_R13 := [oo 56 (mT 0), oo 57 (mT 8), oo 58 (mT 7), oo 59 (bB .add 57 58), oo 60 (.sll 6 (.t 56) none (some (.t 59)) none), oo 0 (mT 60)]
abbrev i66_R14 := [oo 61 (mT 2), oo 62 (mT 0), oo 63 (mT 1), oo 64 (mT 7), oo 65 (bB .add 63 64), oo 66 (.sll 6 (.t 62) (some (.t 65)) none none), oo 67 (.call 88 [(.t 61), (.t 66)]), oo 68 (.nt (.t 67))]
abbrev i66_R15 := [oo 69 (mT 0), oo 70 (mT 1), oo 71 (mT 7), oo 72 (bB .add 70 71), oo 73 (.sll 6 (.t 69) (some (.t 72)) none none), oo 74 (mT 0), oo 75 (mT 1), oo 76 (.sll 6 (.t 74) (some (.t 75)) none none), oo 77 (.cpy 6 (.t 73) (.t 76))]
abbrev i66_R16 := [oo 78 (mT 0), oo 79 (mT 1), oo 80 (.sll 6 (.t 78) (some (.t 79)) none none), oo 81 (mT 2), oo 82 (.cpy 6 (.t 80) (.t 81))]
abbrev i66_R17 := [oo 83 (mT 0), oo 6 (mT 83)]
abbrev i66_R18 := [oo 84 (mT 0), oo 85 (mT 8), oo 86 (.sll 6 (.t 84) (some (.t 85)) none none), oo 87 (mT 2), oo 88 (.cpy 6 (.t 86) (.t 87))]
abbrev i66_R19 := [oo 89 (mT 0), oo 90 (mT 1), oo 91 (.sll 6 (.t 89) (some (.t 90)) none none), oo 92 (mT 7), oo 93 (.call 89 [(.t 91), (.t 92)])]
abbrev i66_R20 := [oo 94 (mT 0), oo 6 (mT 94)]
abbrev i66_B : IC := (.seq (.reg none i66_R0) (.seq (.reg none i66_R1) (.seq (.reg none i66_R2) (.seq (.seq (.reg none i66_R3) (.cond (.t 16) (.seq (.reg none i66_R4) .ret) .skip)) (.seq (.reg none i66_R5) (.seq (.seq (.reg none i66_R6) (.cond (.t 22) (.seq (.reg none i66_R7) .ret) .skip)) (.seq (.seq (.reg none i66_R8) (.cond (.t 31) (.seq (.reg none i66_R9) (.seq (.reg none i66_R10) (.seq (.reg (some []) i66_R11) (.seq (.reg none i66_R12) .ret)))) .skip)) (.seq (.reg none i66_R13) (.seq (.seq (.reg none i66_R14) (.cond (.t 68) (.seq (.reg (some []) i66_R15) (.seq (.reg none i66_R16) (.seq (.reg none i66_R17) .ret))) .skip)) (.seq (.reg none i66_R18) (.seq (.reg none i66_R19) (.seq (.reg none i66_R20) .ret))))))))))))
abbrev i66_V : List Nat := [0, 1, 2, 6, 7, 8, 9, 16, 22, 31, 68]
def i66 : IFn := ⟨95, i66_V, [.tmp 6], i66_B⟩
theorem i66_ok : compF Try.prog i66_V Try.f66 = some i66 := by kernel_rfl
/-! slices.DeleteFunc[[]funicular/api.Mail,funicular/api.Mail] -/
abbrev i68_R0 := [oo 4 (.mv (.c (.nil)))]
abbrev i68_R1 := [oo 8 (mT 0), oo 9 (mT 1), oo 10 (.call 90 [(.t 8), (.t 9)]), oo 5 (mT 10)]
abbrev i68_R2 := [oo 11 (mT 5), oo 12 (bK .eql 11 (-1))]
abbrev i68_R3 := [oo 13 (mT 0), oo 4 (mT 13)]
abbrev i68_R4 := [oo 14 (mT 5), oo 15 (bK .add 14 1), oo 6 (mT 15)]
abbrev i68_R5 := [oo 16 (mT 6), oo 17 (mT 0), oo 18 (lL 17), oo 19 (bB .lss 16 18)]
abbrev i68_R6 := [oo 22 (mT 0), oo 23 (mT 6), oo 24 (iA 7 22 23), oo 25 (lT 7 24), oo 7 (.alloc [zI, .str ⟨#[]⟩, zI, .nil, .nil, zI, .nil]), oe (sT 7 7 25)]
abbrev i68_R7 := [oo 26 (mT 1), oo 27 (lT 7 7), oo 28 (.callv (.t 26) [(.t 27)]), oo 29 (.nt (.t 28))]
abbrev i68_R8 := [oo 30 (mT 0), oo 31 (mT 5), oo 32 (lT 7 7), oo 33 (iA 7 30 31), oe (sT 7 33 32)]
abbrev i68_R9 := [oo 34 (mT 5), oo 35 (bK .add 34 1), oo 5 (mT 35)]
abbrev i68_R10 := [oo 20 (mT 6), oo 21 (bK .add 20 1), oo 6 (mT 21)]
abbrev i68_L0 : IC := (.seq (.seq (.reg none i68_R5) (.cond (.t 19) .skip (.out 0))) (.seq (.block 1 (.seq (.reg none i68_R6) (.seq (.reg none i68_R7) (.cond (.t 29) (.seq (.reg none i68_R8) (.reg none i68_R9)) .skip)))) (.reg none i68_R10)))
abbrev i68_R11 := [oo 36 (mT 0), oo 37 (mT 5), oo 38 (.sll 7 (.t 36) (some (.t 37)) none none), oe (.clr 7 [zI, .str ⟨#[]⟩, zI, .imm 0 [] false, .imm 0 [] false, zI, .imm 0 [] false] (.t 38))]
abbrev i68_R12 := [oo 39 (mT 0), oo 40 (mT 5), oo 41 (.sll 7 (.t 39) none (some (.t 40)) none), oo 4 (mT 41)]
abbrev i68_B : IC := (.seq (.reg none i68_R0) (.seq (.reg none i68_R1) (.seq (.seq (.reg none i68_R2) (.cond (.t 12) (.seq (.reg none i68_R3) .ret) .skip)) (.seq (.seq (.reg none i68_R4) (.block 0 (.loop i68_L0))) (.seq (.reg none i68_R11) (.seq (.reg none i68_R12) .ret))))))
abbrev i68_V : List Nat := [0, 1, 4, 5, 6, 7, 12, 19, 29]
def i68 : IFn := ⟨42, i68_V, [.tmp 4], i68_B⟩
theorem i68_ok : compF Try.prog i68_V Try.f68 = some i68 := by kernel_rfl
/-! funicular/post.Expire$1 -/
abbrev i69_R0 := [oo 2 (.box (.t 0)), oo 3 (.mv kF)]
abbrev i69_R1 := [oo 4 (fA 5 2), oo 5 (lF 4), oo 6 (lF 1), oo 7 (bB .leq 5 6), oo 3 (mT 7)]
abbrev i69_B : IC := (.seq (.reg none i69_R0) (.seq (.reg none i69_R1) .ret))
abbrev i69_V : List Nat := [0, 1, 2, 3]
def i69 : IFn := ⟨8, i69_V, [.tmp 3], i69_B⟩
theorem i69_ok : compF Try.prog i69_V Try.f69 = some i69 := by kernel_rfl
/-! (*funicular/post.reader).next -/
abbrev i70_R0 := [oo 2 (.mv (kI 0))]
abbrev i70_R1 := [oo 7 (mT 0), oo 8 (nT 7), oo 9 (fA 0 8), oo 10 (lF 9), oo 11 (.call 91 [(.t 10)]), oo 6 (mT 11), oo 12 (xT 0 6), oo 13 (xT 1 6), oo 14 (xT 2 6), oo 3 (mT 12), oo 4 (mT 13), oo 5 (mT 14)]
abbrev i70_R2 := [oo 15 (mT 5), oo 16 (bK .eql 15 0), oo 17 (mT 16), og 18 17 true (mT 3), og 19 17 true (.bin .gtr (.t 18) (.c (.int .u64 1099511627776))), oo 20 (.pick (.t 17) (.t 19) kF)]
abbrev i70_R3 := [oo 5 (.mv (kI 6))]
abbrev i70_R4 := [oo 21 (mT 0), oo 22 (mT 4), oo 23 (mT 5), oo 24 (.call 92 [(.t 21), (.t 22), (.t 23)]), oo 25 (.nt (.t 24))]
abbrev i70_R5 := [oo 2 (.mv (kI 0))]
abbrev i70_R6 := [oo 26 (mT 3), oo 27 (.cvt .i64 (.t 26)), oo 2 (mT 27)]
abbrev i70_B : IC := (.seq (.reg none i70_R0) (.seq (.reg none i70_R1) (.seq (.seq (.reg none i70_R2) (.cond (.t 20) (.reg none i70_R3) .skip)) (.seq (.seq (.reg none i70_R4) (.cond (.t 25) (.seq (.reg none i70_R5) .ret) .skip)) (.seq (.reg none i70_R6) .ret)))))
abbrev i70_V : List Nat := [0, 2, 3, 4, 5, 20, 25]
def i70 : IFn := ⟨28, i70_V, [.tmp 2], i70_B⟩
theorem i70_ok : compF Try.prog i70_V Try.f70 = some i70 := by kernel_rfl
/-! (*funicular/post.reader).name -/
abbrev i71_R0 := [oo 2 (.mv (.c (.str ⟨#[]⟩)))]
abbrev i71_R1 := [oo 7 (mT 0), oo 8 (nT 7), oo 9 (fA 0 8), oo 10 (lF 9), oo 11 (.call 93 [(.t 10)]), oo 6 (mT 11), oo 12 (xT 0 6), oo 13 (xT 1 6), oo 14 (xT 2 6), oo 3 (mT 12), oo 4 (mT 13), oo 5 (mT 14)]
abbrev i71_R2 := [oo 15 (mT 0), oo 16 (mT 4), oo 17 (mT 5), oo 18 (.call 92 [(.t 15), (.t 16), (.t 17)]), oo 19 (.nt (.t 18))]
abbrev i71_R3 := [oo 2 (.mv (.c (.str ⟨#[]⟩)))]
abbrev i71_R4 := [oo 20 (mT 3), oo 21 (.b2s (.t 20)), oo 2 (mT 21)]
abbrev i71_B : IC := (.seq (.reg none i71_R0) (.seq (.reg none i71_R1) (.seq (.seq (.reg none i71_R2) (.cond (.t 19) (.seq (.reg none i71_R3) .ret) .skip)) (.seq (.reg none i71_R4) .ret))))
abbrev i71_V : List Nat := [0, 2, 3, 4, 5, 19]
def i71 : IFn := ⟨22, i71_V, [.tmp 2], i71_B⟩
theorem i71_ok : compF Try.prog i71_V Try.f71 = some i71 := by kernel_rfl
/-! (*funicular/post.reader).key -/
abbrev i72_R0 := [oo 2 (.mv (kI 0))]
abbrev i72_R1 := [oo 7 (mT 0), oo 8 (nT 7), oo 9 (fA 0 8), oo 10 (lF 9), oo 11 (.call 94 [(.t 10)]), oo 6 (mT 11), oo 12 (xT 0 6), oo 13 (xT 1 6), oo 14 (xT 2 6), oo 3 (mT 12), oo 4 (mT 13), oo 5 (mT 14)]
abbrev i72_R2 := [oo 15 (mT 0), oo 16 (mT 4), oo 17 (mT 5), oo 18 (.call 92 [(.t 15), (.t 16), (.t 17)]), oo 19 (.nt (.t 18))]
abbrev i72_R3 := [oo 2 (.mv (kI 0))]
abbrev i72_R4 := [oo 20 (mT 3), oo 2 (mT 20)]
abbrev i72_B : IC := (.seq (.reg none i72_R0) (.seq (.reg none i72_R1) (.seq (.seq (.reg none i72_R2) (.cond (.t 19) (.seq (.reg none i72_R3) .ret) .skip)) (.seq (.reg none i72_R4) .ret))))
abbrev i72_V : List Nat := [0, 2, 3, 4, 5, 19]
def i72 : IFn := ⟨21, i72_V, [.tmp 2], i72_B⟩
theorem i72_ok : compF Try.prog i72_V Try.f72 = some i72 := by kernel_rfl
/-! (*funicular/post.reader).vars -/
abbrev i73_R0 := [oo 2 (.alloc [.nil, .nil])]
abbrev i73_R1 := [oo 7 (mT 0), oo 8 (nT 7), oo 9 (fA 0 8), oo 10 (lF 9), oo 11 (.call 95 [(.t 10)]), oo 6 (mT 11), oo 12 (xT 0 6), oo 13 (xT 1 6), oo 14 (xT 2 6), oo 3 (.alloc [.nil, .nil]), oe (sT 2 3 12), oo 4 (mT 13), oo 5 (mT 14)]
abbrev i73_R2 := [oo 15 (mT 0), oo 16 (mT 4), oo 17 (mT 5), oo 18 (.call 92 [(.t 15), (.t 16), (.t 17)]), oo 19 (.nt (.t 18))]
abbrev i73_R3 := [oo 20 (.build [.nil, .nil] []), oe (sT 2 2 20)]
abbrev i73_R4 := [oo 21 (lT 2 3), oe (sT 2 2 21)]
abbrev i73_B : IC := (.seq (.reg none i73_R0) (.seq (.reg none i73_R1) (.seq (.seq (.reg none i73_R2) (.cond (.t 19) (.seq (.reg none i73_R3) .ret) .skip)) (.seq (.reg none i73_R4) .ret))))
abbrev i73_V : List Nat := [0, 2, 3, 4, 5, 19]
def i73 : IFn := ⟨22, i73_V, [.cell 2 true 2], i73_B⟩
theorem i73_ok : compF Try.prog i73_V Try.f73 = some i73 := by kernel_rfl
/-! funicular/post.number -/
abbrev i74_R0 := [oo 4 (.mv (.c (.nil)))]
abbrev i74_R1 := [oo 7 (mT 1), oo 8 (lL 7), oo 9 (.mv (kI 0))]
abbrev i74_R2 := [oo 10 (bB .lss 9 8)]
abbrev i74_R3 := [oo 11 (iA 1 7 9), oo 12 (lF 11), oo 6 (mT 12)]
abbrev i74_R4 := [oo 13 (mT 0), oo 14 (mT 6), oo 15 (.cvt .u64 (.t 14)), oo 16 (.call 96 [(.t 13), (.t 15)]), oo 0 (mT 16)]
abbrev i74_R5 := [oo 17 (bK .add 9 1), oo 9 (mT 17)]
abbrev i74_L0 : IC := (.seq (.reg none i74_R2) (.seq (.cond (.t 10) .skip (.out 0)) (.seq (.block 1 (.seq (.reg none i74_R3) (.reg none i74_R4))) (.reg none i74_R5))))
abbrev i74_R6 := [oo 18 (mT 0), oo 4 (mT 18)]
abbrev i74_B : IC := (.seq (.reg none i74_R0) (.seq (.seq (.reg none i74_R1) (.block 0 (.loop i74_L0))) (.seq (.reg none i74_R6) .ret)))
abbrev i74_V : List Nat := [0, 1, 4, 6, 7, 8, 9, 10]
def i74 : IFn := ⟨19, i74_V, [.tmp 4], i74_B⟩
theorem i74_ok : compF Try.prog i74_V Try.f74 = some i74 := by kernel_rfl
/-! funicular/pack.Bytes -/
abbrev i75_R0 := [oo 4 (.mv (.c (.nil)))]
abbrev i75_R1 := [oo 5 (mT 0), oo 6 (mT 1), oo 7 (lL 6), oo 8 (.cvt .u64 (.t 7)), oo 9 (.call 96 [(.t 5), (.t 8)]), oo 10 (mT 1), oo 11 (.app 1 (.t 9) (.t 10)), oo 4 (mT 11)]
abbrev i75_B : IC := (.seq (.reg none i75_R0) (.seq (.reg none i75_R1) .ret))
abbrev i75_V : List Nat := [0, 1, 4]
def i75 : IFn := ⟨12, i75_V, [.tmp 4], i75_B⟩
theorem i75_ok : compF Try.prog i75_V Try.f75 = some i75 := by kernel_rfl
/-! funicular/vars.Put -/
abbrev i76_R0 := [oo 3 (.box (.t 1)), oo 4 (.mv (.c (.nil)))]
abbrev i76_R1 := [oo 7 (mT 0), oo 8 (fA 0 3), oo 9 (lF 8), oo 10 (lL 9), oo 11 (.cvt .u64 (.t 10)), oo 12 (.call 96 [(.t 7), (.t 11)]), oo 0 (mT 12)]
abbrev i76_R2 := [oo 13 (fA 0 3), oo 14 (lF 13), oo 15 (lL 14), oo 16 (.mv (kI 0))]
abbrev i76_R3 := [oo 17 (bB .lss 16 15)]
abbrev i76_R4 := [oo 18 (mT 16), oo 19 (iA 1 14 16), oo 20 (lF 19), oo 5 (mT 18), oo 6 (mT 20)]
abbrev i76_R5 := [oo 21 (mT 0), oo 22 (mT 6), oo 23 (.s2b (.t 22)), oo 24 (.call 75 [(.t 21), (.t 23)]), oo 0 (mT 24)]
abbrev i76_R6 := [oo 25 (mT 0), oo 26 (fA 1 3), oo 27 (lF 26), oo 28 (mT 5), oo 29 (iA 1 27 28), oo 30 (lF 29), oo 31 (.call 77 [(.t 25), (.t 30)]), oo 0 (mT 31)]
abbrev i76_R7 := [oo 32 (bK .add 16 1), oo 16 (mT 32)]
abbrev i76_L0 : IC := (.seq (.reg none i76_R3) (.seq (.cond (.t 17) .skip (.out 0)) (.seq (.block 1 (.seq (.reg none i76_R4) (.seq (.reg none i76_R5) (.reg none i76_R6)))) (.reg none i76_R7))))
abbrev i76_R8 := [oo 33 (mT 0), oo 4 (mT 33)]
abbrev i76_B : IC := (.seq (.reg none i76_R0) (.seq (.reg none i76_R1) (.seq (.seq (.reg none i76_R2) (.block 0 (.loop i76_L0))) (.seq (.reg none i76_R8) .ret))))
abbrev i76_V : List Nat := [0, 1, 3, 4, 5, 6, 14, 15, 16, 17]
def i76 : IFn := ⟨34, i76_V, [.tmp 4], i76_B⟩
theorem i76_ok : compF Try.prog i76_V Try.f76 = some i76 := by kernel_rfl
/-! funicular/pack.Int -/
abbrev i77_R0 := [oo 4 (.mv (.c (.nil)))]
abbrev i77_R1 := [oo 5 (mT 0), oo 6 (mT 1), oo 7 (.cvt .u64 (.t 6)), oo 8 (.bin .shl (.t 7) (.c (.int .u64 1))), oo 9 (mT 1), oo 10 (.bin .shr (.t 9) (.c (.int .u64 63))), oo 11 (.cvt .u64 (.t 10)), oo 12 (bB .xor 8 11), oo 13 (.call 96 [(.t 5), (.t 12)]), oo 4 (mT 13)]
abbrev i77_B : IC := (.seq (.reg none i77_R0) (.seq (.reg none i77_R1) .ret))
abbrev i77_V : List Nat := [0, 1, 4]
def i77 : IFn := ⟨14, i77_V, [.tmp 4], i77_B⟩
theorem i77_ok : compF Try.prog i77_V Try.f77 = some i77 := by kernel_rfl
/-! funicular/post.part -/
abbrev i78_R0 := [oo 2 (.mv kF)]
abbrev i78_R1 := [oo 3 (mT 0), oo 4 (bK .geq 3 0), oo 5 (mT 4), og 6 5 true (mT 0), og 7 5 true (bK .lss 6 64), oo 8 (.pick (.t 5) (.t 7) kF), oo 2 (mT 8)]
abbrev i78_B : IC := (.seq (.reg none i78_R0) (.seq (.reg none i78_R1) .ret))
abbrev i78_V : List Nat := [0, 2]
def i78 : IFn := ⟨9, i78_V, [.tmp 2], i78_B⟩
theorem i78_ok : compF Try.prog i78_V Try.f78 = some i78 := by kernel_rfl
/-! slices.Contains[[]funicular/api.Who,funicular/api.Who] -/
abbrev i79_R0 := [oo 3 (.box (.t 1)), oo 4 (.mv kF)]
abbrev i79_R1 := [oo 5 (mT 0), oo 6 (lT 2 3), oo 7 (.call 97 [(.t 5), (.t 6)]), oo 8 (bK .geq 7 0), oo 4 (mT 8)]
abbrev i79_B : IC := (.seq (.reg none i79_R0) (.seq (.reg none i79_R1) .ret))
abbrev i79_V : List Nat := [0, 1, 3, 4]
def i79 : IFn := ⟨9, i79_V, [.tmp 4], i79_B⟩
theorem i79_ok : compF Try.prog i79_V Try.f79 = some i79 := by kernel_rfl
/-! slices.Equal[[]string,string] -/
abbrev i81_R0 := [oo 4 (.mv kF)]
abbrev i81_R1 := [oo 6 (mT 0), oo 7 (lL 6), oo 8 (mT 1), oo 9 (lL 8), oo 10 (bB .neq 7 9)]
abbrev i81_R2 := [oo 4 (.mv kF)]
abbrev i81_R3 := [oo 11 (mT 0), oo 12 (lL 11), oo 13 (.mv (kI 0))]
abbrev i81_R4 := [oo 14 (bB .lss 13 12)]
abbrev i81_R5 := [oo 15 (mT 13), oo 5 (mT 15)]
abbrev i81_R6 := [oo 16 (mT 0), oo 17 (mT 5), oo 18 (iA 1 16 17), oo 19 (lF 18), oo 20 (mT 1), oo 21 (mT 5), oo 22 (iA 1 20 21), oo 23 (lF 22), oo 24 (bB .neq 19 23)]
abbrev i81_R7 := [oo 4 (.mv kF)]
abbrev i81_R8 := [oo 25 (bK .add 13 1), oo 13 (mT 25)]
abbrev i81_L0 : IC := (.seq (.reg none i81_R4) (.seq (.cond (.t 14) .skip (.out 0)) (.seq (.block 1 (.seq (.reg none i81_R5) (.seq (.reg (some []) i81_R6) (.cond (.t 24) (.seq (.reg none i81_R7) .ret) .skip)))) (.reg none i81_R8))))
abbrev i81_R9 := [oo 4 (.mv kT)]
abbrev i81_B : IC := (.seq (.reg none i81_R0) (.seq (.seq (.reg none i81_R1) (.cond (.t 10) (.seq (.reg none i81_R2) .ret) .skip)) (.seq (.seq (.reg none i81_R3) (.block 0 (.loop i81_L0))) (.seq (.reg none i81_R9) .ret))))
abbrev i81_V : List Nat := [0, 1, 4, 5, 10, 12, 13, 14, 24]
def i81 : IFn := ⟨26, i81_V, [.tmp 4], i81_B⟩
theorem i81_ok : compF Try.prog i81_V Try.f81 = some i81 := by kernel_rfl
/-! slices.Equal[[]int64,int64] -/
abbrev i82_R0 := [oo 4 (.mv kF)]
abbrev i82_R1 := [oo 6 (mT 0), oo 7 (lL 6), oo 8 (mT 1), oo 9 (lL 8), oo 10 (bB .neq 7 9)]
abbrev i82_R2 := [oo 4 (.mv kF)]
abbrev i82_R3 := [oo 11 (mT 0), oo 12 (lL 11), oo 13 (.mv (kI 0))]
abbrev i82_R4 := [oo 14 (bB .lss 13 12)]
abbrev i82_R5 := [oo 15 (mT 13), oo 5 (mT 15)]
abbrev i82_R6 := [oo 16 (mT 0), oo 17 (mT 5), oo 18 (iA 1 16 17), oo 19 (lF 18), oo 20 (mT 1), oo 21 (mT 5), oo 22 (iA 1 20 21), oo 23 (lF 22), oo 24 (bB .neq 19 23)]
abbrev i82_R7 := [oo 4 (.mv kF)]
abbrev i82_R8 := [oo 25 (bK .add 13 1), oo 13 (mT 25)]
abbrev i82_L0 : IC := (.seq (.reg none i82_R4) (.seq (.cond (.t 14) .skip (.out 0)) (.seq (.block 1 (.seq (.reg none i82_R5) (.seq (.reg (some []) i82_R6) (.cond (.t 24) (.seq (.reg none i82_R7) .ret) .skip)))) (.reg none i82_R8))))
abbrev i82_R9 := [oo 4 (.mv kT)]
abbrev i82_B : IC := (.seq (.reg none i82_R0) (.seq (.seq (.reg none i82_R1) (.cond (.t 10) (.seq (.reg none i82_R2) .ret) .skip)) (.seq (.seq (.reg none i82_R3) (.block 0 (.loop i82_L0))) (.seq (.reg none i82_R9) .ret))))
abbrev i82_V : List Nat := [0, 1, 4, 5, 10, 12, 13, 14, 24]
def i82 : IFn := ⟨26, i82_V, [.tmp 4], i82_B⟩
theorem i82_ok : compF Try.prog i82_V Try.f82 = some i82 := by kernel_rfl
/-! slices.BinarySearchFunc[[]funicular/api.Sub,funicular/api.Sub,funicular/post.key] -/
abbrev i86_R0 := [oo 4 (.box (.t 1)), oo 6 (.mv (kI 0)), oo 7 (.mv kF)]
abbrev i86_R1 := [oo 12 (mT 0), oo 13 (lL 12), oo 8 (mT 13)]
abbrev i86_R2 := [oo 14 (mT 8), oo 9 (.mv (kI 0)), oo 10 (mT 14)]
abbrev i86_R3 := [oo 15 (mT 9), oo 16 (mT 10), oo 17 (bB .lss 15 16)]
abbrev i86_R4 := [oo 18 (mT 9), oo 19 (mT 10), oo 20 (bB .add 18 19), oo 21 (.cvt .u64 (.t 20)), oo 22 (.bin .shr (.t 21) (.c (.int .u64 1))), oo 23 (.cvt .i64 (.t 22)), oo 11 (mT 23)]
abbrev i86_R5 := [oo 24 (mT 2), oo 25 (mT 0), oo 26 (mT 11), oo 27 (iA 6 25 26), oo 28 (lT 6 27), oo 29 (lT 2 4), oo 30 (.callv (.t 24) [(.t 28), (.t 29)]), oo 31 (bK .lss 30 0)]
abbrev i86_R6 := [oo 32 (mT 11), oo 33 (bK .add 32 1), oo 9 (mT 33)]
abbrev i86_R7 := [oo 34 (mT 11), oo 10 (mT 34)]
abbrev i86_L0 : IC := (.seq (.seq (.reg none i86_R3) (.cond (.t 17) .skip (.out 0))) (.block 1 (.seq (.reg none i86_R4) (.seq (.reg (some []) i86_R5) (.cond (.t 31) (.reg none i86_R6) (.reg none i86_R7))))))
abbrev i86_R8 := [oo 35 (mT 9), oo 36 (mT 9), oo 37 (mT 8), oo 38 (bB .lss 36 37), oo 39 (mT 38), og 40 39 true (mT 2), og 41 39 true (mT 0), og 42 39 true (mT 9), og 43 39 true (iA 6 41 42), og 44 39 true (lT 6 43), og 45 39 true (lT 2 4), og 46 39 true (.callv (.t 40) [(.t 44), (.t 45)]), og 47 39 true (bK .eql 46 0), oo 48 (.pick (.t 39) (.t 47) kF), oo 6 (mT 35), oo 7 (mT 48)]
abbrev i86_B : IC := (.seq (.reg none i86_R0) (.seq (.reg none i86_R1) (.seq (.reg none i86_R2) (.seq (.block 0 (.loop i86_L0)) (.seq (.reg (some []) i86_R8) .ret)))))
abbrev i86_V : List Nat := [0, 1, 2, 4, 6, 7, 8, 9, 10, 11, 17, 31]
def i86 : IFn := ⟨49, i86_V, [.tmp 6, .tmp 7], i86_B⟩
theorem i86_ok : compF Try.prog i86_V Try.f86 = some i86 := by kernel_rfl
/-! funicular/post.find$1 -/
abbrev i87_R0 := [oo 2 (.box (.t 0)), oo 3 (.box (.t 1)), oo 4 (.mv (kI 0))]
abbrev i87_R1 := [oo 5 (lT 6 2), oo 6 (.call 38 [(.t 5)]), oo 7 (lT 2 3), oo 8 (.call 39 [(.t 6), (.t 7)]), oo 4 (mT 8)]
abbrev i87_B : IC := (.seq (.reg none i87_R0) (.seq (.reg (some [(1, 2)]) i87_R1) .ret))
abbrev i87_V : List Nat := [0, 1, 2, 3, 4]
def i87 : IFn := ⟨9, i87_V, [.tmp 4], i87_B⟩
theorem i87_ok : compF Try.prog i87_V Try.f87 = some i87 := by kernel_rfl
/-! slices.rotateRight[funicular/api.Sub] -/
abbrev i89_R0 := [oo 4 (mT 0), oo 5 (mT 0), oo 6 (lL 5), oo 7 (mT 1), oo 8 (bB .sub 6 7), oo 9 (.call 98 [(.t 4), (.t 8)])]
abbrev i89_B : IC := (.reg none i89_R0)
abbrev i89_V : List Nat := [0, 1]
def i89 : IFn := ⟨10, i89_V, [], i89_B⟩
theorem i89_ok : compF Try.prog i89_V Try.f89 = some i89 := by kernel_rfl
/-! slices.IndexFunc[[]funicular/api.Mail,funicular/api.Mail] -/
abbrev i90_R0 := [oo 4 (.mv (kI 0))]
abbrev i90_R1 := [oo 6 (mT 0), oo 7 (lL 6), oo 8 (.mv (kI 0))]
abbrev i90_R2 := [oo 9 (bB .lss 8 7)]
abbrev i90_R3 := [oo 10 (mT 8), oo 5 (mT 10)]
abbrev i90_R4 := [oo 11 (mT 1), oo 12 (mT 0), oo 13 (mT 5), oo 14 (iA 7 12 13), oo 15 (lT 7 14), oo 16 (.callv (.t 11) [(.t 15)])]
abbrev i90_R5 := [oo 17 (mT 5), oo 4 (mT 17)]
abbrev i90_R6 := [oo 18 (bK .add 8 1), oo 8 (mT 18)]
abbrev i90_L0 : IC := (.seq (.reg none i90_R2) (.seq (.cond (.t 9) .skip (.out 0)) (.seq (.block 1 (.seq (.reg none i90_R3) (.seq (.reg none i90_R4) (.cond (.t 16) (.seq (.reg none i90_R5) .ret) .skip)))) (.reg none i90_R6))))
abbrev i90_R7 := [oo 4 (.mv (kI (-1)))]
abbrev i90_B : IC := (.seq (.reg none i90_R0) (.seq (.seq (.reg none i90_R1) (.block 0 (.loop i90_L0))) (.seq (.reg none i90_R7) .ret)))
abbrev i90_V : List Nat := [0, 1, 4, 5, 7, 8, 9, 16]
def i90 : IFn := ⟨19, i90_V, [.tmp 4], i90_B⟩
theorem i90_ok : compF Try.prog i90_V Try.f90 = some i90 := by kernel_rfl
/-! funicular/pack.ReadUint -/
abbrev i91_R0 := [oo 2 (.mv (.c (.int .u64 0))), oo 3 (.mv (.c (.nil))), oo 4 (.mv (kI 0))]
abbrev i91_R1 := [oo 5 (.mv (.c (.int .u64 0)))]
abbrev i91_R2 := [oo 8 (mT 0), oo 9 (lL 8), oo 10 (.mn (.t 9) (kI 10)), oo 11 (.mv (kI 0))]
abbrev i91_R3 := [oo 12 (bB .lss 11 10)]
abbrev i91_R4 := [oo 13 (mT 11), oo 6 (mT 13)]
abbrev i91_R5 := [oo 14 (mT 0), oo 15 (mT 6), oo 16 (iA 1 14 15), oo 17 (lF 16), oo 18 (.cvt .u64 (.t 17)), oo 7 (mT 18)]
abbrev i91_R6 := [oo 19 (mT 6), oo 20 (bK .eql 19 9), oo 21 (mT 20), og 22 21 true (mT 7), og 23 21 true (.bin .gtr (.t 22) (.c (.int .u64 1))), oo 24 (.pick (.t 21) (.t 23) kF)]
abbrev i91_R7 := [oo 2 (.mv (.c (.int .u64 0))), oo 3 (.mv (.c (.nil))), oo 4 (.mv (kI 2))]
abbrev i91_R8 := [oo 25 (mT 5), oo 26 (mT 7), oo 27 (.bin .and (.t 26) (.c (.int .u64 127))), oo 28 (mT 6), oo 29 (.bin .mul (kI 7) (.t 28)), oo 30 (bB .shl 27 29), oo 31 (bB .or 25 30), oo 5 (mT 31)]
abbrev i91_R9 := [oo 32 (mT 7), oo 33 (.bin .lss (.t 32) (.c (.int .u64 128)))]
abbrev i91_R10 := [oo 34 (mT 7), oo 35 (.bin .eql (.t 34) (.c (.int .u64 0))), oo 36 (mT 35), og 37 36 true (mT 6), og 38 36 true (bK .gtr 37 0), oo 39 (.pick (.t 36) (.t 38) kF)]
abbrev i91_R11 := [oo 2 (.mv (.c (.int .u64 0))), oo 3 (.mv (.c (.nil))), oo 4 (.mv (kI 2))]
abbrev i91_R12 := [oo 40 (mT 5), oo 41 (mT 0), oo 42 (mT 6), oo 43 (bK .add 42 1), oo 44 (.sll 1 (.t 41) (some (.t 43)) none none), oo 2 (mT 40), oo 3 (mT 44), oo 4 (.mv (kI 0))]
abbrev i91_R13 := [oo 45 (bK .add 11 1), oo 11 (mT 45)]
abbrev i91_L0 : IC := (.seq (.reg none i91_R3) (.seq (.cond (.t 12) .skip (.out 0)) (.seq (.block 1 (.seq (.reg none i91_R4) (.seq (.reg none i91_R5) (.seq (.seq (.reg none i91_R6) (.cond (.t 24) (.seq (.reg none i91_R7) .ret) .skip)) (.seq (.reg none i91_R8) (.seq (.reg none i91_R9) (.cond (.t 33) (.seq (.seq (.reg none i91_R10) (.cond (.t 39) (.seq (.reg none i91_R11) .ret) .skip)) (.seq (.reg (some []) i91_R12) .ret)) .skip))))))) (.reg none i91_R13))))
abbrev i91_R14 := [oo 2 (.mv (.c (.int .u64 0))), oo 3 (.mv (.c (.nil))), oo 4 (.mv (kI 5))]
abbrev i91_B : IC := (.seq (.reg none i91_R0) (.seq (.reg none i91_R1) (.seq (.seq (.reg none i91_R2) (.block 0 (.loop i91_L0))) (.seq (.reg none i91_R14) .ret))))
abbrev i91_V : List Nat := [0, 2, 3, 4, 5, 6, 7, 10, 11, 12, 24, 33, 39]
def i91 : IFn := ⟨46, i91_V, [.tmp 2, .tmp 3, .tmp 4], i91_B⟩
theorem i91_ok : compF Try.prog i91_V Try.f91 = some i91 := by kernel_rfl
/-! (*funicular/post.reader).keep -/
abbrev i92_R0 := [oo 6 (.mv kF)]
abbrev i92_R1 := [oo 7 (mT 0), oo 8 (nT 7), oo 9 (fA 1 8), oo 10 (lF 9), oo 11 (bK .eql 10 0)]
abbrev i92_R2 := [oo 12 (mT 0), oo 13 (mT 0), oo 14 (mT 1), oo 15 (mT 2), oo 16 (nT 12), oo 17 (fA 0 16), oe (sT 1 17 14), oo 18 (nT 13), oo 19 (fA 1 18), oe (sT 1 19 15)]
abbrev i92_R3 := [oo 20 (mT 0), oo 21 (nT 20), oo 22 (fA 1 21), oo 23 (lF 22), oo 24 (bK .eql 23 0), oo 6 (mT 24)]
abbrev i92_B : IC := (.seq (.reg none i92_R0) (.seq (.seq (.reg none i92_R1) (.cond (.t 11) (.reg none i92_R2) .skip)) (.seq (.reg none i92_R3) .ret)))
abbrev i92_V : List Nat := [0, 1, 2, 6, 11]
def i92 : IFn := ⟨25, i92_V, [.tmp 6], i92_B⟩
theorem i92_ok : compF Try.prog i92_V Try.f92 = some i92 := by kernel_rfl
/-! funicular/pack.ReadBytes -/
abbrev i93_R0 := [oo 2 (.mv (.c (.nil))), oo 3 (.mv (.c (.nil))), oo 4 (.mv (kI 0))]
abbrev i93_R1 := [oo 9 (mT 0), oo 10 (.call 91 [(.t 9)]), oo 8 (mT 10), oo 11 (xT 0 8), oo 12 (xT 1 8), oo 13 (xT 2 8), oo 5 (mT 11), oo 6 (mT 12), oo 7 (mT 13)]
abbrev i93_R2 := [oo 14 (mT 7), oo 15 (bK .neq 14 0)]
abbrev i93_R3 := [oo 16 (mT 7), oo 2 (.mv (.c (.nil))), oo 3 (.mv (.c (.nil))), oo 4 (mT 16)]
abbrev i93_R4 := [oo 17 (mT 5), oo 18 (mT 6), oo 19 (lL 18), oo 20 (.cvt .u64 (.t 19)), oo 21 (bB .gtr 17 20)]
abbrev i93_R5 := [oo 2 (.mv (.c (.nil))), oo 3 (.mv (.c (.nil))), oo 4 (.mv (kI 5))]
abbrev i93_R6 := [oo 22 (mT 6), oo 23 (mT 5), oo 24 (mT 5), oo 25 (.sll 1 (.t 22) none (some (.t 23)) (some (.t 24))), oo 26 (mT 6), oo 27 (mT 5), oo 28 (.sll 1 (.t 26) (some (.t 27)) none none), oo 2 (mT 25), oo 3 (mT 28), oo 4 (.mv (kI 0))]
abbrev i93_B : IC := (.seq (.reg none i93_R0) (.seq (.reg none i93_R1) (.seq (.seq (.reg none i93_R2) (.cond (.t 15) (.seq (.reg none i93_R3) .ret) .skip)) (.seq (.seq (.reg none i93_R4) (.cond (.t 21) (.seq (.reg none i93_R5) .ret) .skip)) (.seq (.reg (some []) i93_R6) .ret)))))
abbrev i93_V : List Nat := [0, 2, 3, 4, 5, 6, 7, 15, 21]
def i93 : IFn := ⟨29, i93_V, [.tmp 2, .tmp 3, .tmp 4], i93_B⟩
theorem i93_ok : compF Try.prog i93_V Try.f93 = some i93 := by kernel_rfl
/-! funicular/pack.ReadInt -/
abbrev i94_R0 := [oo 2 (.mv (kI 0)), oo 3 (.mv (.c (.nil))), oo 4 (.mv (kI 0))]
abbrev i94_R1 := [oo 9 (mT 0), oo 10 (.call 91 [(.t 9)]), oo 8 (mT 10), oo 11 (xT 0 8), oo 12 (xT 1 8), oo 13 (xT 2 8), oo 5 (mT 11), oo 6 (mT 12), oo 7 (mT 13)]
abbrev i94_R2 := [oo 14 (mT 5), oo 15 (.bin .shr (.t 14) (.c (.int .u64 1))), oo 16 (.cvt .i64 (.t 15)), oo 17 (mT 5), oo 18 (.bin .and (.t 17) (.c (.int .u64 1))), oo 19 (.cvt .i64 (.t 18)), oo 20 (.ngt (.t 19)), oo 21 (bB .xor 16 20), oo 22 (mT 6), oo 23 (mT 7), oo 2 (mT 21), oo 3 (mT 22), oo 4 (mT 23)]
abbrev i94_B : IC := (.seq (.reg none i94_R0) (.seq (.reg none i94_R1) (.seq (.reg none i94_R2) .ret)))
abbrev i94_V : List Nat := [0, 2, 3, 4, 5, 6, 7]
def i94 : IFn := ⟨24, i94_V, [.tmp 2, .tmp 3, .tmp 4], i94_B⟩
theorem i94_ok : compF Try.prog i94_V Try.f94 = some i94 := by kernel_rfl
/-! funicular/vars.Read -/
abbrev i95_R0 := [oo 2 (.alloc [.nil, .nil]), oo 3 (.mv (.c (.nil))), oo 4 (.mv (kI 0))]
abbrev i95_R1 := [oo 14 (mT 0), oo 15 (.call 91 [(.t 14)]), oo 13 (mT 15), oo 16 (xT 0 13), oo 17 (xT 1 13), oo 18 (xT 2 13), oo 5 (mT 16), oo 0 (mT 17), oo 6 (mT 18)]
abbrev i95_R2 := [oo 19 (mT 6), oo 20 (bK .neq 19 0)]
abbrev i95_R3 := [oo 21 (.build [.nil, .nil] []), oo 22 (mT 6), oe (sT 2 2 21), oo 3 (.mv (.c (.nil))), oo 4 (mT 22)]
abbrev i95_R4 := [oo 23 (mT 5), oo 24 (.bin .gtr (.t 23) (.c (.int .u64 64)))]
abbrev i95_R5 := [oo 25 (.build [.nil, .nil] []), oe (sT 2 2 25), oo 3 (.mv (.c (.nil))), oo 4 (.mv (kI 6))]
abbrev i95_R6 := [oo 7 (.alloc [.nil, .nil])]
abbrev i95_R7 := [oo 26 (mT 5), oo 27 (.mv (.c (.int .u64 0)))]
abbrev i95_R8 := [oo 28 (bB .lss 27 26)]
abbrev i95_R9 := [oo 30 (mT 0), oo 31 (.call 93 [(.t 30)]), oo 29 (mT 31), oo 32 (xT 0 29), oo 33 (xT 1 29), oo 34 (xT 2 29), oo 8 (mT 32), oo 9 (mT 33), oo 10 (mT 34)]
abbrev i95_R10 := [oo 35 (mT 10), oo 36 (bK .neq 35 0)]
abbrev i95_R11 := [oo 37 (.build [.nil, .nil] []), oo 38 (mT 10), oe (sT 2 2 37), oo 3 (.mv (.c (.nil))), oo 4 (mT 38)]
abbrev i95_R12 := [oo 40 (mT 9), oo 41 (.call 94 [(.t 40)]), oo 39 (mT 41), oo 42 (xT 0 39), oo 43 (xT 1 39), oo 44 (xT 2 39), oo 11 (mT 42), oo 9 (mT 43), oo 10 (mT 44)]
abbrev i95_R13 := [oo 45 (mT 10), oo 46 (bK .neq 45 0)]
abbrev i95_R14 := [oo 47 (.build [.nil, .nil] []), oo 48 (mT 10), oe (sT 2 2 47), oo 3 (.mv (.c (.nil))), oo 4 (mT 48)]
abbrev i95_R15 := [oo 49 (fA 0 7), oo 50 (lF 49), oo 51 (mT 8), oo 52 (.b2s (.t 51)), oo 53 (.bsl 1 [.str ⟨#[]⟩] 1 [(0, (.t 52))]), oo 54 (.app 1 (.t 50) (.t 53)), oo 55 (fA 1 7), oo 56 (lF 55), oo 57 (mT 11), oo 58 (.bsl 1 [zI] 1 [(0, (.t 57))]), oo 59 (.app 1 (.t 56) (.t 58)), oo 60 (mT 9), oo 61 (fA 0 7), oe (sT 1 61 54), oo 62 (fA 1 7), oe (sT 1 62 59), oo 0 (mT 60)]
abbrev i95_R16 := [oo 63 (.bin .add (.t 27) (.c (.int .u64 1))), oo 27 (mT 63)]
abbrev i95_L0 : IC := (.seq (.reg none i95_R8) (.seq (.cond (.t 28) .skip (.out 0)) (.seq (.block 1 (.seq (.reg none i95_R9) (.seq (.seq (.reg none i95_R10) (.cond (.t 36) (.seq (.reg none i95_R11) .ret) .skip)) (.seq (.reg none i95_R12) (.seq (.seq (.reg none i95_R13) (.cond (.t 46) (.seq (.reg none i95_R14) .ret) .skip)) (.reg (some [(1, 3), (1, 4), (3, 7), (4, 7), (5, 7), (1, 9), (3, 9), (4, 9), (5, 9), (7, 9)]) i95_R15)))))) (.reg none i95_R16))))
abbrev i95_R17 := [oo 64 (lT 2 7), oo 65 (.call 56 [(.t 64)]), oo 12 (mT 65)]
abbrev i95_R18 := [oo 66 (mT 12), oo 67 (bK .neq 66 0)]
abbrev i95_R19 := [oo 68 (.build [.nil, .nil] []), oo 69 (mT 12), oe (sT 2 2 68), oo 3 (.mv (.c (.nil))), oo 4 (mT 69)]
abbrev i95_R20 := [oo 70 (lT 2 7), oo 71 (mT 0), oe (sT 2 2 70), oo 3 (mT 71), oo 4 (.mv (kI 0))]
abbrev i95_B : IC := (.seq (.reg none i95_R0) (.seq (.reg none i95_R1) (.seq (.seq (.reg none i95_R2) (.cond (.t 20) (.seq (.reg none i95_R3) .ret) .skip)) (.seq (.seq (.reg none i95_R4) (.cond (.t 24) (.seq (.reg none i95_R5) .ret) .skip)) (.seq (.reg none i95_R6) (.seq (.seq (.reg none i95_R7) (.block 0 (.loop i95_L0))) (.seq (.seq (.reg none i95_R17) (.seq (.reg none i95_R18) (.cond (.t 67) (.seq (.reg none i95_R19) .ret) .skip))) (.seq (.reg none i95_R20) .ret))))))))
abbrev i95_V : List Nat := [0, 2, 3, 4, 5, 6, 7, 8, 9, 10, 11, 12, 20, 24, 26, 27, 28, 36, 46, 67]
def i95 : IFn := ⟨72, i95_V, [.cell 2 true 2, .tmp 3, .tmp 4], i95_B⟩
theorem i95_ok : compF Try.prog i95_V Try.f95 = some i95 := by kernel_rfl
/-! funicular/pack.Uint -/
abbrev i96_R0 := [oo 4 (.mv (.c (.nil)))]
abbrev i96_R1 := [oo 5 (mT 1), oo 6 (.bin .geq (.t 5) (.c (.int .u64 128)))]
abbrev i96_R2 := [oo 7 (mT 0), oo 8 (mT 1), oo 9 (.cvt .u8 (.t 8)), oo 10 (.bin .or (.t 9) (.c (.int .u8 128))), oo 11 (.bsl 1 [.int .u8 0] 1 [(0, (.t 10))]), oo 12 (.app 1 (.t 7) (.t 11)), oo 0 (mT 12)]
abbrev i96_R3 := [oo 13 (mT 1), oo 14 (.bin .shr (.t 13) (.c (.int .u64 7))), oo 1 (mT 14)]
abbrev i96_L0 : IC := (.seq (.seq (.reg none i96_R1) (.cond (.t 6) .skip (.out 0))) (.block 1 (.seq (.reg none i96_R2) (.reg none i96_R3))))
abbrev i96_R4 := [oo 15 (mT 0), oo 16 (mT 1), oo 17 (.cvt .u8 (.t 16)), oo 18 (.bsl 1 [.int .u8 0] 1 [(0, (.t 17))]), oo 19 (.app 1 (.t 15) (.t 18)), oo 4 (mT 19)]
abbrev i96_B : IC := (.seq (.reg none i96_R0) (.seq (.block 0 (.loop i96_L0)) (.seq (.reg none i96_R4) .ret)))
abbrev i96_V : List Nat := [0, 1, 4, 6]
def i96 : IFn := ⟨20, i96_V, [.tmp 4], i96_B⟩
theorem i96_ok : compF Try.prog i96_V Try.f96 = some i96 := by kernel_rfl
/-! slices.Index[[]funicular/api.Who,funicular/api.Who] -/
abbrev i97_R0 := [oo 3 (.box (.t 1)), oo 4 (.mv (kI 0))]
abbrev i97_R1 := [oo 6 (mT 0), oo 7 (lL 6), oo 8 (.mv (kI 0))]
abbrev i97_R2 := [oo 9 (bB .lss 8 7)]
abbrev i97_R3 := [oo 10 (mT 8), oo 5 (mT 10)]
abbrev i97_R4 := [oo 11 (lT 2 3), oo 12 (mT 0), oo 13 (mT 5), oo 14 (iA 2 12 13), oo 15 (lT 2 14), oo 16 (.eqc false [(0, 1), (1, 1)] (.t 11) (.t 15))]
abbrev i97_R5 := [oo 17 (mT 5), oo 4 (mT 17)]
abbrev i97_R6 := [oo 18 (bK .add 8 1), oo 8 (mT 18)]
abbrev i97_L0 : IC := (.seq (.reg none i97_R2) (.seq (.cond (.t 9) .skip (.out 0)) (.seq (.block 1 (.seq (.reg none i97_R3) (.seq (.reg (some []) i97_R4) (.cond (.t 16) (.seq (.reg none i97_R5) .ret) .skip)))) (.reg none i97_R6))))
abbrev i97_R7 := [oo 4 (.mv (kI (-1)))]
abbrev i97_B : IC := (.seq (.reg none i97_R0) (.seq (.seq (.reg none i97_R1) (.block 0 (.loop i97_L0))) (.seq (.reg none i97_R7) .ret)))
abbrev i97_V : List Nat := [0, 1, 3, 4, 5, 7, 8, 9, 16]
def i97 : IFn := ⟨19, i97_V, [.tmp 4], i97_B⟩
theorem i97_ok : compF Try.prog i97_V Try.f97 = some i97 := by kernel_rfl
/-! slices.rotateLeft[funicular/api.Sub] -/
abbrev i98_R0 := [oo 4 (mT 0), oo 5 (mT 1), oo 6 (.sll 6 (.t 4) none (some (.t 5)) none), oo 7 (.call 99 [(.t 6)])]
abbrev i98_R1 := [oo 8 (mT 0), oo 9 (mT 1), oo 10 (.sll 6 (.t 8) (some (.t 9)) none none), oo 11 (.call 99 [(.t 10)])]
abbrev i98_R2 := [oo 12 (mT 0), oo 13 (.call 99 [(.t 12)])]
abbrev i98_B : IC := (.seq (.reg none i98_R0) (.seq (.reg none i98_R1) (.reg none i98_R2)))
abbrev i98_V : List Nat := [0, 1]
def i98 : IFn := ⟨14, i98_V, [], i98_B⟩
theorem i98_ok : compF Try.prog i98_V Try.f98 = some i98 := by kernel_rfl
/-! slices.Reverse[[]funicular/api.Sub,funicular/api.Sub] -/
abbrev i99_R0 := [oo 4 (mT 0), oo 5 (lL 4), oo 6 (bK .sub 5 1), oo 2 (.mv (kI 0)), oo 3 (mT 6)]
abbrev i99_R1 := [oo 7 (mT 2), oo 8 (mT 3), oo 9 (bB .lss 7 8)]
abbrev i99_R2 := [oo 14 (mT 0), oo 15 (mT 2), oo 16 (mT 0), oo 17 (mT 3), oo 18 (mT 0), oo 19 (mT 3), oo 20 (iA 6 18 19), oo 21 (lT 6 20), oo 22 (mT 0), oo 23 (mT 2), oo 24 (iA 6 22 23), oo 25 (lT 6 24), oo 26 (iA 6 14 15), oe (sT 6 26 21), oo 27 (iA 6 16 17), oe (sT 6 27 25)]
abbrev i99_R3 := [oo 10 (mT 2), oo 11 (bK .add 10 1), oo 12 (mT 3), oo 13 (bK .sub 12 1), oo 2 (mT 11), oo 3 (mT 13)]
abbrev i99_L0 : IC := (.seq (.seq (.reg none i99_R1) (.cond (.t 9) .skip (.out 0))) (.seq (.block 1 (.reg (some []) i99_R2)) (.reg none i99_R3)))
abbrev i99_B : IC := (.seq (.reg none i99_R0) (.block 0 (.loop i99_L0)))
abbrev i99_V : List Nat := [0, 2, 3, 9]
def i99 : IFn := ⟨28, i99_V, [], i99_B⟩
theorem i99_ok : compF Try.prog i99_V Try.f99 = some i99 := by kernel_rfl
def fnOf : Nat → Option IFn
  | 6 => some i6
  | 9 => some i9
  | 10 => some i10
  | 12 => some i12
  | 14 => some i14
  | 16 => some i16
  | 19 => some i19
  | 20 => some i20
  | 22 => some i22
  | 24 => some i24
  | 26 => some i26
  | 27 => some i27
  | 29 => some i29
  | 30 => some i30
  | 31 => some i31
  | 32 => some i32
  | 34 => some i34
  | 35 => some i35
  | 36 => some i36
  | 37 => some i37
  | 38 => some i38
  | 39 => some i39
  | 44 => some i44
  | 45 => some i45
  | 46 => some i46
  | 47 => some i47
  | 48 => some i48
  | 52 => some i52
  | 54 => some i54
  | 55 => some i55
  | 56 => some i56
  | 57 => some i57
  | 58 => some i58
  | 65 => some i65
  | 66 => some i66
  | 68 => some i68
  | 69 => some i69
  | 70 => some i70
  | 71 => some i71
  | 72 => some i72
  | 73 => some i73
  | 74 => some i74
  | 75 => some i75
  | 76 => some i76
  | 77 => some i77
  | 78 => some i78
  | 79 => some i79
  | 81 => some i81
  | 82 => some i82
  | 86 => some i86
  | 87 => some i87
  | 89 => some i89
  | 90 => some i90
  | 91 => some i91
  | 92 => some i92
  | 93 => some i93
  | 94 => some i94
  | 95 => some i95
  | 96 => some i96
  | 97 => some i97
  | 98 => some i98
  | 99 => some i99
  | _ => none
def fzOf : Nat → Bool
  | 14 => false
  | 27 => false
  | 45 => false
  | 58 => false
  | 66 => false
  | 67 => false
  | 68 => false
  | 69 => false
  | 70 => false
  | 71 => false
  | 72 => false
  | 73 => false
  | 74 => false
  | 75 => false
  | 76 => false
  | 77 => false
  | 86 => false
  | 89 => false
  | 90 => false
  | 92 => false
  | 96 => false
  | 98 => false
  | 99 => false
  | _ => true
noncomputable def cfg : Cfg := { P := Go.Proofs.Try.prog, fn := fnOf, fz := fzOf }
theorem fnOf_ok : ∀ f i, cfg.fn f = some i → ∃ fn V, cfg.P.funcs[f]? = some fn ∧ compF cfg.P V fn = some i ∧ V = i.live := by
  intro f i h
  change fnOf f = some i at h
  unfold fnOf at h
  split at h
  · obtain rfl := Option.some.inj h; exact ⟨_, _, Try.func6, i6_ok, rfl⟩
  · obtain rfl := Option.some.inj h; exact ⟨_, _, Try.func9, i9_ok, rfl⟩
  · obtain rfl := Option.some.inj h; exact ⟨_, _, Try.func10, i10_ok, rfl⟩
  · obtain rfl := Option.some.inj h; exact ⟨_, _, Try.func12, i12_ok, rfl⟩
  · obtain rfl := Option.some.inj h; exact ⟨_, _, Try.func14, i14_ok, rfl⟩
  · obtain rfl := Option.some.inj h; exact ⟨_, _, Try.func16, i16_ok, rfl⟩
  · obtain rfl := Option.some.inj h; exact ⟨_, _, Try.func19, i19_ok, rfl⟩
  · obtain rfl := Option.some.inj h; exact ⟨_, _, Try.func20, i20_ok, rfl⟩
  · obtain rfl := Option.some.inj h; exact ⟨_, _, Try.func22, i22_ok, rfl⟩
  · obtain rfl := Option.some.inj h; exact ⟨_, _, Try.func24, i24_ok, rfl⟩
  · obtain rfl := Option.some.inj h; exact ⟨_, _, Try.func26, i26_ok, rfl⟩
  · obtain rfl := Option.some.inj h; exact ⟨_, _, Try.func27, i27_ok, rfl⟩
  · obtain rfl := Option.some.inj h; exact ⟨_, _, Try.func29, i29_ok, rfl⟩
  · obtain rfl := Option.some.inj h; exact ⟨_, _, Try.func30, i30_ok, rfl⟩
  · obtain rfl := Option.some.inj h; exact ⟨_, _, Try.func31, i31_ok, rfl⟩
  · obtain rfl := Option.some.inj h; exact ⟨_, _, Try.func32, i32_ok, rfl⟩
  · obtain rfl := Option.some.inj h; exact ⟨_, _, Try.func34, i34_ok, rfl⟩
  · obtain rfl := Option.some.inj h; exact ⟨_, _, Try.func35, i35_ok, rfl⟩
  · obtain rfl := Option.some.inj h; exact ⟨_, _, Try.func36, i36_ok, rfl⟩
  · obtain rfl := Option.some.inj h; exact ⟨_, _, Try.func37, i37_ok, rfl⟩
  · obtain rfl := Option.some.inj h; exact ⟨_, _, Try.func38, i38_ok, rfl⟩
  · obtain rfl := Option.some.inj h; exact ⟨_, _, Try.func39, i39_ok, rfl⟩
  · obtain rfl := Option.some.inj h; exact ⟨_, _, Try.func44, i44_ok, rfl⟩
  · obtain rfl := Option.some.inj h; exact ⟨_, _, Try.func45, i45_ok, rfl⟩
  · obtain rfl := Option.some.inj h; exact ⟨_, _, Try.func46, i46_ok, rfl⟩
  · obtain rfl := Option.some.inj h; exact ⟨_, _, Try.func47, i47_ok, rfl⟩
  · obtain rfl := Option.some.inj h; exact ⟨_, _, Try.func48, i48_ok, rfl⟩
  · obtain rfl := Option.some.inj h; exact ⟨_, _, Try.func52, i52_ok, rfl⟩
  · obtain rfl := Option.some.inj h; exact ⟨_, _, Try.func54, i54_ok, rfl⟩
  · obtain rfl := Option.some.inj h; exact ⟨_, _, Try.func55, i55_ok, rfl⟩
  · obtain rfl := Option.some.inj h; exact ⟨_, _, Try.func56, i56_ok, rfl⟩
  · obtain rfl := Option.some.inj h; exact ⟨_, _, Try.func57, i57_ok, rfl⟩
  · obtain rfl := Option.some.inj h; exact ⟨_, _, Try.func58, i58_ok, rfl⟩
  · obtain rfl := Option.some.inj h; exact ⟨_, _, Try.func65, i65_ok, rfl⟩
  · obtain rfl := Option.some.inj h; exact ⟨_, _, Try.func66, i66_ok, rfl⟩
  · obtain rfl := Option.some.inj h; exact ⟨_, _, Try.func68, i68_ok, rfl⟩
  · obtain rfl := Option.some.inj h; exact ⟨_, _, Try.func69, i69_ok, rfl⟩
  · obtain rfl := Option.some.inj h; exact ⟨_, _, Try.func70, i70_ok, rfl⟩
  · obtain rfl := Option.some.inj h; exact ⟨_, _, Try.func71, i71_ok, rfl⟩
  · obtain rfl := Option.some.inj h; exact ⟨_, _, Try.func72, i72_ok, rfl⟩
  · obtain rfl := Option.some.inj h; exact ⟨_, _, Try.func73, i73_ok, rfl⟩
  · obtain rfl := Option.some.inj h; exact ⟨_, _, Try.func74, i74_ok, rfl⟩
  · obtain rfl := Option.some.inj h; exact ⟨_, _, Try.func75, i75_ok, rfl⟩
  · obtain rfl := Option.some.inj h; exact ⟨_, _, Try.func76, i76_ok, rfl⟩
  · obtain rfl := Option.some.inj h; exact ⟨_, _, Try.func77, i77_ok, rfl⟩
  · obtain rfl := Option.some.inj h; exact ⟨_, _, Try.func78, i78_ok, rfl⟩
  · obtain rfl := Option.some.inj h; exact ⟨_, _, Try.func79, i79_ok, rfl⟩
  · obtain rfl := Option.some.inj h; exact ⟨_, _, Try.func81, i81_ok, rfl⟩
  · obtain rfl := Option.some.inj h; exact ⟨_, _, Try.func82, i82_ok, rfl⟩
  · obtain rfl := Option.some.inj h; exact ⟨_, _, Try.func86, i86_ok, rfl⟩
  · obtain rfl := Option.some.inj h; exact ⟨_, _, Try.func87, i87_ok, rfl⟩
  · obtain rfl := Option.some.inj h; exact ⟨_, _, Try.func89, i89_ok, rfl⟩
  · obtain rfl := Option.some.inj h; exact ⟨_, _, Try.func90, i90_ok, rfl⟩
  · obtain rfl := Option.some.inj h; exact ⟨_, _, Try.func91, i91_ok, rfl⟩
  · obtain rfl := Option.some.inj h; exact ⟨_, _, Try.func92, i92_ok, rfl⟩
  · obtain rfl := Option.some.inj h; exact ⟨_, _, Try.func93, i93_ok, rfl⟩
  · obtain rfl := Option.some.inj h; exact ⟨_, _, Try.func94, i94_ok, rfl⟩
  · obtain rfl := Option.some.inj h; exact ⟨_, _, Try.func95, i95_ok, rfl⟩
  · obtain rfl := Option.some.inj h; exact ⟨_, _, Try.func96, i96_ok, rfl⟩
  · obtain rfl := Option.some.inj h; exact ⟨_, _, Try.func97, i97_ok, rfl⟩
  · obtain rfl := Option.some.inj h; exact ⟨_, _, Try.func98, i98_ok, rfl⟩
  · obtain rfl := Option.some.inj h; exact ⟨_, _, Try.func99, i99_ok, rfl⟩
  · cases h
end Go.Proofs.Ytefjblgmnoheiaa.R
