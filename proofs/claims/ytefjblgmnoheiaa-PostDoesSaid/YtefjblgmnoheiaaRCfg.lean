import Derived.Test.YtefjblgmnoheiaaRDefs
import Derived.Test.YtefjblgmnoheiaaProg
import Derived.KernelRfl
import Derived.Test.YtefjblgmnoheiaaRCg0
namespace Go.Proofs.Ytefjblgmnoheiaa.R
open Go
set_option maxRecDepth 100000
/-! The compact code, and that it is the program's. -/
/-! slices.BinarySearchFunc[[]funicular/api.Sub,funicular/api.Sub,funicular/post.key] -/
abbrev i86_R0 := [oo 4 (.box (.t 1)), oo 6 (.mv (kI 0)), oo 7 (.mv kF)]
abbrev i86_R1 := [oo 12 (mT 0), oo 13 (lL 12), oo 8 (mT 13)]
abbrev i86_R2 := [oo 14 (mT 8), oo 9 (.mv (kI 0)), oo 10 (mT 14)]
abbrev i86_R3 := [oo 15 (mT 9), oo 16 (mT 10), oo 17 (bB .lss 15 16)]
abbrev i86_R4 := [oo 18 (mT 9), oo 19 (mT 10), oo 20 (bB .add 18 19), oo 21 (.cvt .u64 (.t 20)), oo 22 (.bin .shr (.t 21) (.c (.int .u64 1))), oo 23 (.cvt .i64 (.t 22)), oo 11 (mT 23)]
abbrev i86_R5 := [oo 24 (mT 2), oo 25 (mT 0), oo 26 (mT 11), oo 27 (iA 6 25 26), oo 28 (lT 6 27), oo 29 (lT 2 4), oo 30 (.callv (.t 24) [(.t 28), (.t 29)]), oo 31 (bK .lss 30 0)]
abbrev i86_R6 := [oo 32 (mT 11), oo 33 (bK .add 32 1), oo 9 (mT 33)]
abbrev i86_R7 := [oo 34 (mT 11), oo 10 (mT 34)]
abbrev i86_L0 : IC := (.seq (.seq (.reg none i86_R3) (.cond (.t 17) .skip (.out 0))) (.block 1 (.seq (.reg none i86_R4) (.seq (.reg (some []) i86_R5) (.cond (.t 31) (.reg none i86_R6) (.reg none i86_R7))))))
abbrev i86_R8 := [oo 35 (mT 9), oo 36 (mT 9), oo 37 (mT 8), oo 38 (bB .lss 36 37), oo 39 (mT 38), og 40 39 true (mT 2), og 41 39 true (mT 0), og 42 39 true (mT 9), og 43 39 true (iA 6 41 42), og 44 39 true (lT 6 43), og 45 39 true (lT 2 4), og 46 39 true (.callv (.t 40) [(.t 44), (.t 45)]), og 47 39 true (bK .eql 46 0), oo 48 (.pick (.t 39) (.t 47) kF), oo 6 (mT 35), oo 7 (mT 48)]
abbrev i86_B : IC := (.seq (.reg none i86_R0) (.seq (.reg none i86_R1) (.seq (.reg none i86_R2) (.seq (.block 0 (.loop i86_L0)) (.seq (.reg (some []) i86_R8) .ret)))))
abbrev i86_V : List Nat := [0, 1, 2, 4, 6, 7, 8, 9, 10, 11, 17, 31]
def i86 : IFn := ⟨49, i86_V, [.tmp 6, .tmp 7], i86_B⟩
theorem i86_ok : compF Try.prog i86_V Try.f86 = some i86 := by kernel_rfl
/-! funicular/post.find$1 -/
abbrev i87_R0 := [oo 2 (.box (.t 0)), oo 3 (.box (.t 1)), oo 4 (.mv (kI 0))]
abbrev i87_R1 := [oo 5 (lT 6 2), oo 6 (.call 38 [(.t 5)]), oo 7 (lT 2 3), oo 8 (.call 39 [(.t 6), (.t 7)]), oo 4 (mT 8)]
abbrev i87_B : IC := (.seq (.reg none i87_R0) (.seq (.reg (some [(1, 2)]) i87_R1) .ret))
abbrev i87_V : List Nat := [0, 1, 2, 3, 4]
def i87 : IFn := ⟨9, i87_V, [.tmp 4], i87_B⟩
theorem i87_ok : compF Try.prog i87_V Try.f87 = some i87 := by kernel_rfl
/-! slices.rotateRight[funicular/api.Sub] -/
abbrev i89_R0 := [oo 4 (mT 0), oo 5 (mT 0), oo 6 (lL 5), oo 7 (mT 1), oo 8 (bB .sub 6 7), oo 9 (.call 98 [(.t 4), (.t 8)])]
abbrev i89_B : IC := (.reg none i89_R0)
abbrev i89_V : List Nat := [0, 1]
def i89 : IFn := ⟨10, i89_V, [], i89_B⟩
theorem i89_ok : compF Try.prog i89_V Try.f89 = some i89 := by kernel_rfl
/-! slices.IndexFunc[[]funicular/api.Mail,funicular/api.Mail] -/
abbrev i90_R0 := [oo 4 (.mv (kI 0))]
abbrev i90_R1 := [oo 6 (mT 0), oo 7 (lL 6), oo 8 (.mv (kI 0))]
abbrev i90_R2 := [oo 9 (bB .lss 8 7)]
abbrev i90_R3 := [oo 10 (mT 8), oo 5 (mT 10)]
abbrev i90_R4 := [oo 11 (mT 1), oo 12 (mT 0), oo 13 (mT 5), oo 14 (iA 7 12 13), oo 15 (lT 7 14), oo 16 (.callv (.t 11) [(.t 15)])]
abbrev i90_R5 := [oo 17 (mT 5), oo 4 (mT 17)]
abbrev i90_R6 := [oo 18 (bK .add 8 1), oo 8 (mT 18)]
abbrev i90_L0 : IC := (.seq (.reg none i90_R2) (.seq (.cond (.t 9) .skip (.out 0)) (.seq (.block 1 (.seq (.reg none i90_R3) (.seq (.reg none i90_R4) (.cond (.t 16) (.seq (.reg none i90_R5) .ret) .skip)))) (.reg none i90_R6))))
abbrev i90_R7 := [oo 4 (.mv (kI (-1)))]
abbrev i90_B : IC := (.seq (.reg none i90_R0) (.seq (.seq (.reg none i90_R1) (.block 0 (.loop i90_L0))) (.seq (.reg none i90_R7) .ret)))
abbrev i90_V : List Nat := [0, 1, 4, 5, 7, 8, 9, 16]
def i90 : IFn := ⟨19, i90_V, [.tmp 4], i90_B⟩
theorem i90_ok : compF Try.prog i90_V Try.f90 = some i90 := by kernel_rfl
/-! funicular/pack.ReadUint -/
abbrev i91_R0 := [oo 2 (.mv (.c (.int .u64 0))), oo 3 (.mv (.c (.nil))), oo 4 (.mv (kI 0))]
abbrev i91_R1 := [oo 5 (.mv (.c (.int .u64 0)))]
abbrev i91_R2 := [oo 8 (mT 0), oo 9 (lL 8), oo 10 (.mn (.t 9) (kI 10)), oo 11 (.mv (kI 0))]
abbrev i91_R3 := [oo 12 (bB .lss 11 10)]
abbrev i91_R4 := [oo 13 (mT 11), oo 6 (mT 13)]
abbrev i91_R5 := [oo 14 (mT 0), oo 15 (mT 6), oo 16 (iA 1 14 15), oo 17 (lF 16), oo 18 (.cvt .u64 (.t 17)), oo 7 (mT 18)]
abbrev i91_R6 := [oo 19 (mT 6), oo 20 (bK .eql 19 9), oo 21 (mT 20), og 22 21 true (mT 7), og 23 21 true (.bin .gtr (.t 22) (.c (.int .u64 1))), oo 24 (.pick (.t 21) (.t 23) kF)]
abbrev i91_R7 := [oo 2 (.mv (.c (.int .u64 0))), oo 3 (.mv (.c (.nil))), oo 4 (.mv (kI 2))]
abbrev i91_R8 := [oo 25 (mT 5), oo 26 (mT 7), oo 27 (.bin .and (.t 26) (.c (.int .u64 127))), oo 28 (mT 6), oo 29 (.bin .mul (kI 7) (.t 28)), oo 30 (bB .shl 27 29), oo 31 (bB .or 25 30), oo 5 (mT 31)]
abbrev i91_R9 := [oo 32 (mT 7), oo 33 (.bin .lss (.t 32) (.c (.int .u64 128)))]
abbrev i91_R10 := [oo 34 (mT 7), oo 35 (.bin .eql (.t 34) (.c (.int .u64 0))), oo 36 (mT 35), og 37 36 true (mT 6), og 38 36 true (bK .gtr 37 0), oo 39 (.pick (.t 36) (.t 38) kF)]
abbrev i91_R11 := [oo 2 (.mv (.c (.int .u64 0))), oo 3 (.mv (.c (.nil))), oo 4 (.mv (kI 2))]
abbrev i91_R12 := [oo 40 (mT 5), oo 41 (mT 0), oo 42 (mT 6), oo 43 (bK .add 42 1), oo 44 (.sll 1 (.t 41) (some (.t 43)) none none), oo 2 (mT 40), oo 3 (mT 44), oo 4 (.mv (kI 0))]
abbrev i91_R13 := [oo 45 (bK .add 11 1), oo 11 (mT 45)]
abbrev i91_L0 : IC := (.seq (.reg none i91_R3) (.seq (.cond (.t 12) .skip (.out 0)) (.seq (.block 1 (.seq (.reg none i91_R4) (.seq (.reg none i91_R5) (.seq (.seq (.reg none i91_R6) (.cond (.t 24) (.seq (.reg none i91_R7) .ret) .skip)) (.seq (.reg none i91_R8) (.seq (.reg none i91_R9) (.cond (.t 33) (.seq (.seq (.reg none i91_R10) (.cond (.t 39) (.seq (.reg none i91_R11) .ret) .skip)) (.seq (.reg (some []) i91_R12) .ret)) .skip))))))) (.reg none i91_R13))))
abbrev i91_R14 := [oo 2 (.mv (.c (.int .u64 0))), oo 3 (.mv (.c (.nil))), oo 4 (.mv (kI 5))]
abbrev i91_B : IC := (.seq (.reg none i91_R0) (.seq (.reg none i91_R1) (.seq (.seq (.reg none i91_R2) (.block 0 (.loop i91_L0))) (.seq (.reg none i91_R14) .ret))))
abbrev i91_V : List Nat := [0, 2, 3, 4, 5, 6, 7, 10, 11, 12, 24, 33, 39]
def i91 : IFn := ⟨46, i91_V, [.tmp 2, .tmp 3, .tmp 4], i91_B⟩
theorem i91_ok : compF Try.prog i91_V Try.f91 = some i91 := by kernel_rfl
/-! (*funicular/post.reader).keep -/
abbrev i92_R0 := [oo 6 (.mv kF)]
abbrev i92_R1 := [oo 7 (mT 0), oo 8 (nT 7), oo 9 (fA 1 8), oo 10 (lF 9), oo 11 (bK .eql 10 0)]
abbrev i92_R2 := [oo 12 (mT 0), oo 13 (mT 0), oo 14 (mT 1), oo 15 (mT 2), oo 16 (nT 12), oo 17 (fA 0 16), oe (sT 1 17 14), oo 18 (nT 13), oo 19 (fA 1 18), oe (sT 1 19 15)]
abbrev i92_R3 := [oo 20 (mT 0), oo 21 (nT 20), oo 22 (fA 1 21), oo 23 (lF 22), oo 24 (bK .eql 23 0), oo 6 (mT 24)]
abbrev i92_B : IC := (.seq (.reg none i92_R0) (.seq (.seq (.reg none i92_R1) (.cond (.t 11) (.reg none i92_R2) .skip)) (.seq (.reg none i92_R3) .ret)))
abbrev i92_V : List Nat := [0, 1, 2, 6, 11]
def i92 : IFn := ⟨25, i92_V, [.tmp 6], i92_B⟩
theorem i92_ok : compF Try.prog i92_V Try.f92 = some i92 := by kernel_rfl
/-! funicular/pack.ReadBytes -/
abbrev i93_R0 := [oo 2 (.mv (.c (.nil))), oo 3 (.mv (.c (.nil))), oo 4 (.mv (kI 0))]
abbrev i93_R1 := [oo 9 (mT 0), oo 10 (.call 91 [(.t 9)]), oo 8 (mT 10), oo 11 (xT 0 8), oo 12 (xT 1 8), oo 13 (xT 2 8), oo 5 (mT 11), oo 6 (mT 12), oo 7 (mT 13)]
abbrev i93_R2 := [oo 14 (mT 7), oo 15 (bK .neq 14 0)]
abbrev i93_R3 := [oo 16 (mT 7), oo 2 (.mv (.c (.nil))), oo 3 (.mv (.c (.nil))), oo 4 (mT 16)]
abbrev i93_R4 := [oo 17 (mT 5), oo 18 (mT 6), oo 19 (lL 18), oo 20 (.cvt .u64 (.t 19)), oo 21 (bB .gtr 17 20)]
abbrev i93_R5 := [oo 2 (.mv (.c (.nil))), oo 3 (.mv (.c (.nil))), oo 4 (.mv (kI 5))]
abbrev i93_R6 := [oo 22 (mT 6), oo 23 (mT 5), oo 24 (mT 5), oo 25 (.sll 1 (.t 22) none (some (.t 23)) (some (.t 24))), oo 26 (mT 6), oo 27 (mT 5), oo 28 (.sll 1 (.t 26) (some (.t 27)) none none), oo 2 (mT 25), oo 3 (mT 28), oo 4 (.mv (kI 0))]
abbrev i93_B : IC := (.seq (.reg none i93_R0) (.seq (.reg none i93_R1) (.seq (.seq (.reg none i93_R2) (.cond (.t 15) (.seq (.reg none i93_R3) .ret) .skip)) (.seq (.seq (.reg none i93_R4) (.cond (.t 21) (.seq (.reg none i93_R5) .ret) .skip)) (.seq (.reg (some []) i93_R6) .ret)))))
abbrev i93_V : List Nat := [0, 2, 3, 4, 5, 6, 7, 15, 21]
def i93 : IFn := ⟨29, i93_V, [.tmp 2, .tmp 3, .tmp 4], i93_B⟩
theorem i93_ok : compF Try.prog i93_V Try.f93 = some i93 := by kernel_rfl
/-! funicular/pack.ReadInt -/
abbrev i94_R0 := [oo 2 (.mv (kI 0)), oo 3 (.mv (.c (.nil))), oo 4 (.mv (kI 0))]
abbrev i94_R1 := [oo 9 (mT 0), oo 10 (.call 91 [(.t 9)]), oo 8 (mT 10), oo 11 (xT 0 8), oo 12 (xT 1 8), oo 13 (xT 2 8), oo 5 (mT 11), oo 6 (mT 12), oo 7 (mT 13)]
abbrev i94_R2 := [oo 14 (mT 5), oo 15 (.bin .shr (.t 14) (.c (.int .u64 1))), oo 16 (.cvt .i64 (.t 15)), oo 17 (mT 5), oo 18 (.bin .and (.t 17) (.c (.int .u64 1))), oo 19 (.cvt .i64 (.t 18)), oo 20 (.ngt (.t 19)), oo 21 (bB .xor 16 20), oo 22 (mT 6), oo 23 (mT 7), oo 2 (mT 21), oo 3 (mT 22), oo 4 (mT 23)]
abbrev i94_B : IC := (.seq (.reg none i94_R0) (.seq (.reg none i94_R1) (.seq (.reg none i94_R2) .ret)))
abbrev i94_V : List Nat := [0, 2, 3, 4, 5, 6, 7]
def i94 : IFn := ⟨24, i94_V, [.tmp 2, .tmp 3, .tmp 4], i94_B⟩
theorem i94_ok : compF Try.prog i94_V Try.f94 = some i94 := by kernel_rfl
/-! funicular/vars.Read -/
abbrev i95_R0 := [oo 2 (.alloc [.nil, .nil]), oo 3 (.mv (.c (.nil))), oo 4 (.mv (kI 0))]
abbrev i95_R1 := [oo 14 (mT 0), oo 15 (.call 91 [(.t 14)]), oo 13 (mT 15), oo 16 (xT 0 13), oo 17 (xT 1 13), oo 18 (xT 2 13), oo 5 (mT 16), oo 0 (mT 17), oo 6 (mT 18)]
abbrev i95_R2 := [oo 19 (mT 6), oo 20 (bK .neq 19 0)]
abbrev i95_R3 := [oo 21 (.build [.nil, .nil] []), oo 22 (mT 6), oe (sT 2 2 21), oo 3 (.mv (.c (.nil))), oo 4 (mT 22)]
abbrev i95_R4 := [oo 23 (mT 5), oo 24 (.bin .gtr (.t 23) (.c (.int .u64 64)))]
abbrev i95_R5 := [oo 25 (.build [.nil, .nil] []), oe (sT 2 2 25), oo 3 (.mv (.c (.nil))), oo 4 (.mv (kI 6))]
abbrev i95_R6 := [oo 7 (.alloc [.nil, .nil])]
abbrev i95_R7 := [oo 26 (mT 5), oo 27 (.mv (.c (.int .u64 0)))]
abbrev i95_R8 := [oo 28 (bB .lss 27 26)]
abbrev i95_R9 := [oo 30 (mT 0), oo 31 (.call 93 [(.t 30)]), oo 29 (mT 31), oo 32 (xT 0 29), oo 33 (xT 1 29), oo 34 (xT 2 29), oo 8 (mT 32), oo 9 (mT 33), oo 10 (mT 34)]
abbrev i95_R10 := [oo 35 (mT 10), oo 36 (bK .neq 35 0)]
abbrev i95_R11 := [oo 37 (.build [.nil, .nil] []), oo 38 (mT 10), oe (sT 2 2 37), oo 3 (.mv (.c (.nil))), oo 4 (mT 38)]
abbrev i95_R12 := [oo 40 (mT 9), oo 41 (.call 94 [(.t 40)]), oo 39 (mT 41), oo 42 (xT 0 39), oo 43 (xT 1 39), oo 44 (xT 2 39), oo 11 (mT 42), oo 9 (mT 43), oo 10 (mT 44)]
abbrev i95_R13 := [oo 45 (mT 10), oo 46 (bK .neq 45 0)]
abbrev i95_R14 := [oo 47 (.build [.nil, .nil] []), oo 48 (mT 10), oe (sT 2 2 47), oo 3 (.mv (.c (.nil))), oo 4 (mT 48)]
abbrev i95_R15 := [oo 49 (fA 0 7), oo 50 (lF 49), oo 51 (mT 8), oo 52 (.b2s (.t 51)), oo 53 (.bsl 1 [.str ⟨#[]⟩] 1 [(0, (.t 52))]), oo 54 (.app 1 (.t 50) (.t 53)), oo 55 (fA 1 7), oo 56 (lF 55), oo 57 (mT 11), oo 58 (.bsl 1 [zI] 1 [(0, (.t 57))]), oo 59 (.app 1 (.t 56) (.t 58)), oo 60 (mT 9), oo 61 (fA 0 7), oe (sT 1 61 54), oo 62 (fA 1 7), oe (sT 1 62 59), oo 0 (mT 60)]
abbrev i95_R16 := [oo 63 (.bin .add (.t 27) (.c (.int .u64 1))), oo 27 (mT 63)]
abbrev i95_L0 : IC := (.seq (.reg none i95_R8) (.seq (.cond (.t 28) .skip (.out 0)) (.seq (.block 1 (.seq (.reg none i95_R9) (.seq (.seq (.reg none i95_R10) (.cond (.t 36) (.seq (.reg none i95_R11) .ret) .skip)) (.seq (.reg none i95_R12) (.seq (.seq (.reg none i95_R13) (.cond (.t 46) (.seq (.reg none i95_R14) .ret) .skip)) (.reg (some [(1, 3), (1, 4), (3, 7), (4, 7), (5, 7), (1, 9), (3, 9), (4, 9), (5, 9), (7, 9)]) i95_R15)))))) (.reg none i95_R16))))
abbrev i95_R17 := [oo 64 (lT 2 7), oo 65 (.call 56 [(.t 64)]), oo 12 (mT 65)]
abbrev i95_R18 := [oo 66 (mT 12), oo 67 (bK .neq 66 0)]
abbrev i95_R19 := [oo 68 (.build [.nil, .nil] []), oo 69 (mT 12), oe (sT 2 2 68), oo 3 (.mv (.c (.nil))), oo 4 (mT 69)]
abbrev i95_R20 := [oo 70 (lT 2 7), oo 71 (mT 0), oe (sT 2 2 70), oo 3 (mT 71), oo 4 (.mv (kI 0))]
abbrev i95_B : IC := (.seq (.reg none i95_R0) (.seq (.reg none i95_R1) (.seq (.seq (.reg none i95_R2) (.cond (.t 20) (.seq (.reg none i95_R3) .ret) .skip)) (.seq (.seq (.reg none i95_R4) (.cond (.t 24) (.seq (.reg none i95_R5) .ret) .skip)) (.seq (.reg none i95_R6) (.seq (.seq (.reg none i95_R7) (.block 0 (.loop i95_L0))) (.seq (.seq (.reg none i95_R17) (.seq (.reg none i95_R18) (.cond (.t 67) (.seq (.reg none i95_R19) .ret) .skip))) (.seq (.reg none i95_R20) .ret))))))))
abbrev i95_V : List Nat := [0, 2, 3, 4, 5, 6, 7, 8, 9, 10, 11, 12, 20, 24, 26, 27, 28, 36, 46, 67]
def i95 : IFn := ⟨72, i95_V, [.cell 2 true 2, .tmp 3, .tmp 4], i95_B⟩
theorem i95_ok : compF Try.prog i95_V Try.f95 = some i95 := by kernel_rfl
/-! funicular/pack.Uint -/
abbrev i96_R0 := [oo 4 (.mv (.c (.nil)))]
abbrev i96_R1 := [oo 5 (mT 1), oo 6 (.bin .geq (.t 5) (.c (.int .u64 128)))]
abbrev i96_R2 := [oo 7 (mT 0), oo 8 (mT 1), oo 9 (.cvt .u8 (.t 8)), oo 10 (.bin .or (.t 9) (.c (.int .u8 128))), oo 11 (.bsl 1 [.int .u8 0] 1 [(0, (.t 10))]), oo 12 (.app 1 (.t 7) (.t 11)), oo 0 (mT 12)]
abbrev i96_R3 := [oo 13 (mT 1), oo 14 (.bin .shr (.t 13) (.c (.int .u64 7))), oo 1 (mT 14)]
abbrev i96_L0 : IC := (.seq (.seq (.reg none i96_R1) (.cond (.t 6) .skip (.out 0))) (.block 1 (.seq (.reg none i96_R2) (.reg none i96_R3))))
abbrev i96_R4 := [oo 15 (mT 0), oo 16 (mT 1), oo 17 (.cvt .u8 (.t 16)), oo 18 (.bsl 1 [.int .u8 0] 1 [(0, (.t 17))]), oo 19 (.app 1 (.t 15) (.t 18)), oo 4 (mT 19)]
abbrev i96_B : IC := (.seq (.reg none i96_R0) (.seq (.block 0 (.loop i96_L0)) (.seq (.reg none i96_R4) .ret)))
abbrev i96_V : List Nat := [0, 1, 4, 6]
def i96 : IFn := ⟨20, i96_V, [.tmp 4], i96_B⟩
theorem i96_ok : compF Try.prog i96_V Try.f96 = some i96 := by kernel_rfl
/-! slices.Index[[]funicular/api.Who,funicular/api.Who] -/
abbrev i97_R0 := [oo 3 (.box (.t 1)), oo 4 (.mv (kI 0))]
abbrev i97_R1 := [oo 6 (mT 0), oo 7 (lL 6), oo 8 (.mv (kI 0))]
abbrev i97_R2 := [oo 9 (bB .lss 8 7)]
abbrev i97_R3 := [oo 10 (mT 8), oo 5 (mT 10)]
abbrev i97_R4 := [oo 11 (lT 2 3), oo 12 (mT 0), oo 13 (mT 5), oo 14 (iA 2 12 13), oo 15 (lT 2 14), oo 16 (.eqc false [(0, 1), (1, 1)] (.t 11) (.t 15))]
abbrev i97_R5 := [oo 17 (mT 5), oo 4 (mT 17)]
abbrev i97_R6 := [oo 18 (bK .add 8 1), oo 8 (mT 18)]
abbrev i97_L0 : IC := (.seq (.reg none i97_R2) (.seq (.cond (.t 9) .skip (.out 0)) (.seq (.block 1 (.seq (.reg none i97_R3) (.seq (.reg (some []) i97_R4) (.cond (.t 16) (.seq (.reg none i97_R5) .ret) .skip)))) (.reg none i97_R6))))
abbrev i97_R7 := [oo 4 (.mv (kI (-1)))]
abbrev i97_B : IC := (.seq (.reg none i97_R0) (.seq (.seq (.reg none i97_R1) (.block 0 (.loop i97_L0))) (.seq (.reg none i97_R7) .ret)))
abbrev i97_V : List Nat := [0, 1, 3, 4, 5, 7, 8, 9, 16]
def i97 : IFn := ⟨19, i97_V, [.tmp 4], i97_B⟩
theorem i97_ok : compF Try.prog i97_V Try.f97 = some i97 := by kernel_rfl
/-! slices.rotateLeft[funicular/api.Sub] -/
abbrev i98_R0 := [oo 4 (mT 0), oo 5 (mT 1), oo 6 (.sll 6 (.t 4) none (some (.t 5)) none), oo 7 (.call 99 [(.t 6)])]
abbrev i98_R1 := [oo 8 (mT 0), oo 9 (mT 1), oo 10 (.sll 6 (.t 8) (some (.t 9)) none none), oo 11 (.call 99 [(.t 10)])]
abbrev i98_R2 := [oo 12 (mT 0), oo 13 (.call 99 [(.t 12)])]
abbrev i98_B : IC := (.seq (.reg none i98_R0) (.seq (.reg none i98_R1) (.reg none i98_R2)))
abbrev i98_V : List Nat := [0, 1]
def i98 : IFn := ⟨14, i98_V, [], i98_B⟩
theorem i98_ok : compF Try.prog i98_V Try.f98 = some i98 := by kernel_rfl
/-! slices.Reverse[[]funicular/api.Sub,funicular/api.Sub] -/
abbrev i99_R0 := [oo 4 (mT 0), oo 5 (lL 4), oo 6 (bK .sub 5 1), oo 2 (.mv (kI 0)), oo 3 (mT 6)]
abbrev i99_R1 := [oo 7 (mT 2), oo 8 (mT 3), oo 9 (bB .lss 7 8)]
abbrev i99_R2 := [oo 14 (mT 0), oo 15 (mT 2), oo 16 (mT 0), oo 17 (mT 3), oo 18 (mT 0), oo 19 (mT 3), oo 20 (iA 6 18 19), oo 21 (lT 6 20), oo 22 (mT 0), oo 23 (mT 2), oo 24 (iA 6 22 23), oo 25 (lT 6 24), oo 26 (iA 6 14 15), oe (sT 6 26 21), oo 27 (iA 6 16 17), oe (sT 6 27 25)]
abbrev i99_R3 := [oo 10 (mT 2), oo 11 (bK .add 10 1), oo 12 (mT 3), oo 13 (bK .sub 12 1), oo 2 (mT 11), oo 3 (mT 13)]
abbrev i99_L0 : IC := (.seq (.seq (.reg none i99_R1) (.cond (.t 9) .skip (.out 0))) (.seq (.block 1 (.reg (some []) i99_R2)) (.reg none i99_R3)))
abbrev i99_B : IC := (.seq (.reg none i99_R0) (.block 0 (.loop i99_L0)))
abbrev i99_V : List Nat := [0, 2, 3, 9]
def i99 : IFn := ⟨28, i99_V, [], i99_B⟩
theorem i99_ok : compF Try.prog i99_V Try.f99 = some i99 := by kernel_rfl
def fnOf : Nat → Option IFn
  | 4 => some i4
  | 8 => some i8
  | 9 => some i9
  | 10 => some i10
  | 11 => some i11
  | 12 => some i12
  | 13 => some i13
  | 14 => some i14
  | 15 => some i15
  | 16 => some i16
  | 17 => some i17
  | 18 => some i18
  | 19 => some i19
  | 20 => some i20
  | 21 => some i21
  | 22 => some i22
  | 23 => some i23
  | 24 => some i24
  | 25 => some i25
  | 26 => some i26
  | 27 => some i27
  | 30 => some i30
  | 32 => some i32
  | 33 => some i33
  | 34 => some i34
  | 35 => some i35
  | 36 => some i36
  | 37 => some i37
  | 38 => some i38
  | 39 => some i39
  | 40 => some i40
  | 41 => some i41
  | 42 => some i42
  | 43 => some i43
  | 44 => some i44
  | 45 => some i45
  | 46 => some i46
  | 47 => some i47
  | 48 => some i48
  | 49 => some i49
  | 52 => some i52
  | 54 => some i54
  | 55 => some i55
  | 56 => some i56
  | 57 => some i57
  | 58 => some i58
  | 59 => some i59
  | 60 => some i60
  | 61 => some i61
  | 62 => some i62
  | 63 => some i63
  | 64 => some i64
  | 65 => some i65
  | 66 => some i66
  | 68 => some i68
  | 69 => some i69
  | 70 => some i70
  | 71 => some i71
  | 72 => some i72
  | 73 => some i73
  | 74 => some i74
  | 75 => some i75
  | 76 => some i76
  | 77 => some i77
  | 78 => some i78
  | 79 => some i79
  | 80 => some i80
  | 81 => some i81
  | 82 => some i82
  | 85 => some i85
  | 86 => some i86
  | 87 => some i87
  | 89 => some i89
  | 90 => some i90
  | 91 => some i91
  | 92 => some i92
  | 93 => some i93
  | 94 => some i94
  | 95 => some i95
  | 96 => some i96
  | 97 => some i97
  | 98 => some i98
  | 99 => some i99
  | _ => none
def fzOf : Nat → Bool
  | 14 => false
  | 27 => false
  | 45 => false
  | 58 => false
  | 66 => false
  | 67 => false
  | 68 => false
  | 69 => false
  | 70 => false
  | 71 => false
  | 72 => false
  | 73 => false
  | 74 => false
  | 75 => false
  | 76 => false
  | 77 => false
  | 86 => false
  | 89 => false
  | 90 => false
  | 92 => false
  | 96 => false
  | 98 => false
  | 99 => false
  | _ => true
noncomputable def cfg : Cfg := { P := Go.Proofs.Try.prog, fn := fnOf, fz := fzOf }
theorem fnOf_ok : ∀ f i, cfg.fn f = some i → ∃ fn V, cfg.P.funcs[f]? = some fn ∧ compF cfg.P V fn = some i ∧ V = i.live := by
  intro f i h
  change fnOf f = some i at h
  unfold fnOf at h
  split at h
  · obtain rfl := Option.some.inj h; exact ⟨_, _, Try.func4, i4_ok, rfl⟩
  · obtain rfl := Option.some.inj h; exact ⟨_, _, Try.func8, i8_ok, rfl⟩
  · obtain rfl := Option.some.inj h; exact ⟨_, _, Try.func9, i9_ok, rfl⟩
  · obtain rfl := Option.some.inj h; exact ⟨_, _, Try.func10, i10_ok, rfl⟩
  · obtain rfl := Option.some.inj h; exact ⟨_, _, Try.func11, i11_ok, rfl⟩
  · obtain rfl := Option.some.inj h; exact ⟨_, _, Try.func12, i12_ok, rfl⟩
  · obtain rfl := Option.some.inj h; exact ⟨_, _, Try.func13, i13_ok, rfl⟩
  · obtain rfl := Option.some.inj h; exact ⟨_, _, Try.func14, i14_ok, rfl⟩
  · obtain rfl := Option.some.inj h; exact ⟨_, _, Try.func15, i15_ok, rfl⟩
  · obtain rfl := Option.some.inj h; exact ⟨_, _, Try.func16, i16_ok, rfl⟩
  · obtain rfl := Option.some.inj h; exact ⟨_, _, Try.func17, i17_ok, rfl⟩
  · obtain rfl := Option.some.inj h; exact ⟨_, _, Try.func18, i18_ok, rfl⟩
  · obtain rfl := Option.some.inj h; exact ⟨_, _, Try.func19, i19_ok, rfl⟩
  · obtain rfl := Option.some.inj h; exact ⟨_, _, Try.func20, i20_ok, rfl⟩
  · obtain rfl := Option.some.inj h; exact ⟨_, _, Try.func21, i21_ok, rfl⟩
  · obtain rfl := Option.some.inj h; exact ⟨_, _, Try.func22, i22_ok, rfl⟩
  · obtain rfl := Option.some.inj h; exact ⟨_, _, Try.func23, i23_ok, rfl⟩
  · obtain rfl := Option.some.inj h; exact ⟨_, _, Try.func24, i24_ok, rfl⟩
  · obtain rfl := Option.some.inj h; exact ⟨_, _, Try.func25, i25_ok, rfl⟩
  · obtain rfl := Option.some.inj h; exact ⟨_, _, Try.func26, i26_ok, rfl⟩
  · obtain rfl := Option.some.inj h; exact ⟨_, _, Try.func27, i27_ok, rfl⟩
  · obtain rfl := Option.some.inj h; exact ⟨_, _, Try.func30, i30_ok, rfl⟩
  · obtain rfl := Option.some.inj h; exact ⟨_, _, Try.func32, i32_ok, rfl⟩
  · obtain rfl := Option.some.inj h; exact ⟨_, _, Try.func33, i33_ok, rfl⟩
  · obtain rfl := Option.some.inj h; exact ⟨_, _, Try.func34, i34_ok, rfl⟩
  · obtain rfl := Option.some.inj h; exact ⟨_, _, Try.func35, i35_ok, rfl⟩
  · obtain rfl := Option.some.inj h; exact ⟨_, _, Try.func36, i36_ok, rfl⟩
  · obtain rfl := Option.some.inj h; exact ⟨_, _, Try.func37, i37_ok, rfl⟩
  · obtain rfl := Option.some.inj h; exact ⟨_, _, Try.func38, i38_ok, rfl⟩
  · obtain rfl := Option.some.inj h; exact ⟨_, _, Try.func39, i39_ok, rfl⟩
  · obtain rfl := Option.some.inj h; exact ⟨_, _, Try.func40, i40_ok, rfl⟩
  · obtain rfl := Option.some.inj h; exact ⟨_, _, Try.func41, i41_ok, rfl⟩
  · obtain rfl := Option.some.inj h; exact ⟨_, _, Try.func42, i42_ok, rfl⟩
  · obtain rfl := Option.some.inj h; exact ⟨_, _, Try.func43, i43_ok, rfl⟩
  · obtain rfl := Option.some.inj h; exact ⟨_, _, Try.func44, i44_ok, rfl⟩
  · obtain rfl := Option.some.inj h; exact ⟨_, _, Try.func45, i45_ok, rfl⟩
  · obtain rfl := Option.some.inj h; exact ⟨_, _, Try.func46, i46_ok, rfl⟩
  · obtain rfl := Option.some.inj h; exact ⟨_, _, Try.func47, i47_ok, rfl⟩
  · obtain rfl := Option.some.inj h; exact ⟨_, _, Try.func48, i48_ok, rfl⟩
  · obtain rfl := Option.some.inj h; exact ⟨_, _, Try.func49, i49_ok, rfl⟩
  · obtain rfl := Option.some.inj h; exact ⟨_, _, Try.func52, i52_ok, rfl⟩
  · obtain rfl := Option.some.inj h; exact ⟨_, _, Try.func54, i54_ok, rfl⟩
  · obtain rfl := Option.some.inj h; exact ⟨_, _, Try.func55, i55_ok, rfl⟩
  · obtain rfl := Option.some.inj h; exact ⟨_, _, Try.func56, i56_ok, rfl⟩
  · obtain rfl := Option.some.inj h; exact ⟨_, _, Try.func57, i57_ok, rfl⟩
  · obtain rfl := Option.some.inj h; exact ⟨_, _, Try.func58, i58_ok, rfl⟩
  · obtain rfl := Option.some.inj h; exact ⟨_, _, Try.func59, i59_ok, rfl⟩
  · obtain rfl := Option.some.inj h; exact ⟨_, _, Try.func60, i60_ok, rfl⟩
  · obtain rfl := Option.some.inj h; exact ⟨_, _, Try.func61, i61_ok, rfl⟩
  · obtain rfl := Option.some.inj h; exact ⟨_, _, Try.func62, i62_ok, rfl⟩
  · obtain rfl := Option.some.inj h; exact ⟨_, _, Try.func63, i63_ok, rfl⟩
  · obtain rfl := Option.some.inj h; exact ⟨_, _, Try.func64, i64_ok, rfl⟩
  · obtain rfl := Option.some.inj h; exact ⟨_, _, Try.func65, i65_ok, rfl⟩
  · obtain rfl := Option.some.inj h; exact ⟨_, _, Try.func66, i66_ok, rfl⟩
  · obtain rfl := Option.some.inj h; exact ⟨_, _, Try.func68, i68_ok, rfl⟩
  · obtain rfl := Option.some.inj h; exact ⟨_, _, Try.func69, i69_ok, rfl⟩
  · obtain rfl := Option.some.inj h; exact ⟨_, _, Try.func70, i70_ok, rfl⟩
  · obtain rfl := Option.some.inj h; exact ⟨_, _, Try.func71, i71_ok, rfl⟩
  · obtain rfl := Option.some.inj h; exact ⟨_, _, Try.func72, i72_ok, rfl⟩
  · obtain rfl := Option.some.inj h; exact ⟨_, _, Try.func73, i73_ok, rfl⟩
  · obtain rfl := Option.some.inj h; exact ⟨_, _, Try.func74, i74_ok, rfl⟩
  · obtain rfl := Option.some.inj h; exact ⟨_, _, Try.func75, i75_ok, rfl⟩
  · obtain rfl := Option.some.inj h; exact ⟨_, _, Try.func76, i76_ok, rfl⟩
  · obtain rfl := Option.some.inj h; exact ⟨_, _, Try.func77, i77_ok, rfl⟩
  · obtain rfl := Option.some.inj h; exact ⟨_, _, Try.func78, i78_ok, rfl⟩
  · obtain rfl := Option.some.inj h; exact ⟨_, _, Try.func79, i79_ok, rfl⟩
  · obtain rfl := Option.some.inj h; exact ⟨_, _, Try.func80, i80_ok, rfl⟩
  · obtain rfl := Option.some.inj h; exact ⟨_, _, Try.func81, i81_ok, rfl⟩
  · obtain rfl := Option.some.inj h; exact ⟨_, _, Try.func82, i82_ok, rfl⟩
  · obtain rfl := Option.some.inj h; exact ⟨_, _, Try.func85, i85_ok, rfl⟩
  · obtain rfl := Option.some.inj h; exact ⟨_, _, Try.func86, i86_ok, rfl⟩
  · obtain rfl := Option.some.inj h; exact ⟨_, _, Try.func87, i87_ok, rfl⟩
  · obtain rfl := Option.some.inj h; exact ⟨_, _, Try.func89, i89_ok, rfl⟩
  · obtain rfl := Option.some.inj h; exact ⟨_, _, Try.func90, i90_ok, rfl⟩
  · obtain rfl := Option.some.inj h; exact ⟨_, _, Try.func91, i91_ok, rfl⟩
  · obtain rfl := Option.some.inj h; exact ⟨_, _, Try.func92, i92_ok, rfl⟩
  · obtain rfl := Option.some.inj h; exact ⟨_, _, Try.func93, i93_ok, rfl⟩
  · obtain rfl := Option.some.inj h; exact ⟨_, _, Try.func94, i94_ok, rfl⟩
  · obtain rfl := Option.some.inj h; exact ⟨_, _, Try.func95, i95_ok, rfl⟩
  · obtain rfl := Option.some.inj h; exact ⟨_, _, Try.func96, i96_ok, rfl⟩
  · obtain rfl := Option.some.inj h; exact ⟨_, _, Try.func97, i97_ok, rfl⟩
  · obtain rfl := Option.some.inj h; exact ⟨_, _, Try.func98, i98_ok, rfl⟩
  · obtain rfl := Option.some.inj h; exact ⟨_, _, Try.func99, i99_ok, rfl⟩
  · cases h
end Go.Proofs.Ytefjblgmnoheiaa.R
