import Derived.Test.YtcmejocmohohpaaRDefs
import Derived.Test.YtcmejocmohohpaaProg
import Derived.KernelRfl
namespace Go.Proofs.Ytcmejocmohohpaa.R
open Go
set_option maxRecDepth 100000
/-! The compact code, and that it is the program's. -/
/-! gosem.cut.init -/
@[reducible] def i2_R0 : List Iop := [⟨(some 0), none, .call 1 []⟩]
@[reducible] def i2_B : IC := (.reg none i2_R0)
@[reducible] def i2_V : List Nat := []
def i2 : IFn := ⟨1, i2_V, [], i2_B⟩
theorem i2_ok : compF Go.Proofs.Try.prog i2_V Go.Proofs.Try.f2 = some i2 := by kernel_rfl
/-! funicular/funicularlaw10.EvalOf -/
@[reducible] def i3_R0 : List Iop := [⟨(some 2), none, .box (.t 0)⟩,
  ⟨(some 3), none, .box (.t 1)⟩,
  ⟨(some 4), none, .mv (.c (.bool false))⟩]
@[reducible] def i3_R1 : List Iop := [⟨(some 9), none, .ld true 4 (.t 2)⟩,
  ⟨(some 10), none, .ld true 2 (.t 3)⟩,
  ⟨(some 11), none, .call 9 [(.t 9), (.t 10)]⟩,
  ⟨(some 12), none, .nt (.t 11)⟩]
@[reducible] def i3_R2 : List Iop := [⟨(some 13), none, .call 10 []⟩,
  ⟨(some 4), none, .mv (.t 13)⟩]
@[reducible] def i3_R3 : List Iop := [⟨(some 15), none, .ld true 4 (.t 2)⟩,
  ⟨(some 16), none, .ld true 2 (.t 3)⟩,
  ⟨(some 17), none, .call 11 [(.t 15), (.t 16)]⟩,
  ⟨(some 14), none, .mv (.t 17)⟩,
  ⟨(some 18), none, .ext 0 (.t 14)⟩,
  ⟨(some 19), none, .ext 1 (.t 14)⟩,
  ⟨(some 5), none, .alloc [.bool false, .int .i64 0]⟩,
  ⟨none, none, .st 2 (.t 5) (.t 18)⟩,
  ⟨(some 6), none, .mv (.t 19)⟩]
@[reducible] def i3_R4 : List Iop := [⟨(some 21), none, .ld true 4 (.t 2)⟩,
  ⟨(some 22), none, .ld true 2 (.t 3)⟩,
  ⟨(some 23), none, .call 12 [(.t 21), (.t 22)]⟩,
  ⟨(some 20), none, .mv (.t 23)⟩,
  ⟨(some 24), none, .ext 0 (.t 20)⟩,
  ⟨(some 25), none, .ext 1 (.t 20)⟩,
  ⟨(some 7), none, .alloc [.bool false, .int .i64 0]⟩,
  ⟨none, none, .st 2 (.t 7) (.t 24)⟩,
  ⟨(some 8), none, .mv (.t 25)⟩]
@[reducible] def i3_R5 : List Iop := [⟨(some 26), none, .ld true 2 (.t 5)⟩,
  ⟨(some 27), none, .ld true 2 (.t 7)⟩,
  ⟨(some 28), none, .eqc false [(0, 0), (1, 1)] (.t 26) (.t 27)⟩,
  ⟨(some 29), none, .mv (.t 28)⟩,
  ⟨(some 30), (some (29, true)), .mv (.t 6)⟩,
  ⟨(some 31), (some (29, true)), .mv (.t 8)⟩,
  ⟨(some 32), (some (29, true)), .bin .eql (.t 30) (.t 31)⟩,
  ⟨(some 33), none, .pick (.t 29) (.t 32) (.c (.bool false))⟩,
  ⟨(some 34), none, .mv (.t 33)⟩,
  ⟨(some 35), (some (34, true)), .call 10 []⟩,
  ⟨(some 36), none, .pick (.t 34) (.t 35) (.c (.bool false))⟩,
  ⟨(some 4), none, .mv (.t 36)⟩]
@[reducible] def i3_B : IC := (.seq (.reg none i3_R0) (.seq (.seq (.reg none i3_R1) (.cond (.t 12) (.seq (.reg none i3_R2) .ret) .skip)) (.seq (.reg none i3_R3) (.seq (.reg none i3_R4) (.seq (.reg none i3_R5) .ret)))))
@[reducible] def i3_V : List Nat := [0, 1, 2, 3, 4, 5, 6, 7, 8, 12]
def i3 : IFn := ⟨37, i3_V, [.tmp 4], i3_B⟩
theorem i3_ok : compF Go.Proofs.Try.prog i3_V Go.Proofs.Try.f3 = some i3 := by kernel_rfl
/-! funicular/funicularlaw10.EvalAs -/
@[reducible] def i4_R0 : List Iop := [⟨(some 2), none, .box (.t 0)⟩,
  ⟨(some 3), none, .box (.t 1)⟩,
  ⟨(some 4), none, .mv (.c (.bool false))⟩]
@[reducible] def i4_R1 : List Iop := [⟨(some 11), none, .ld true 4 (.t 2)⟩,
  ⟨(some 12), none, .ld true 2 (.t 3)⟩,
  ⟨(some 13), none, .call 9 [(.t 11), (.t 12)]⟩,
  ⟨(some 14), none, .nt (.t 13)⟩]
@[reducible] def i4_R2 : List Iop := [⟨(some 15), none, .call 10 []⟩,
  ⟨(some 4), none, .mv (.t 15)⟩]
@[reducible] def i4_R3 : List Iop := [⟨(some 17), none, .ld true 4 (.t 2)⟩,
  ⟨(some 18), none, .ld true 2 (.t 3)⟩,
  ⟨(some 19), none, .call 12 [(.t 17), (.t 18)]⟩,
  ⟨(some 16), none, .mv (.t 19)⟩,
  ⟨(some 20), none, .ext 0 (.t 16)⟩,
  ⟨(some 21), none, .ext 1 (.t 16)⟩,
  ⟨(some 5), none, .alloc [.bool false, .int .i64 0]⟩,
  ⟨none, none, .st 2 (.t 5) (.t 20)⟩,
  ⟨(some 6), none, .mv (.t 21)⟩]
@[reducible] def i4_R4 : List Iop := [⟨(some 23), none, .ld true 4 (.t 2)⟩,
  ⟨(some 24), none, .ld true 2 (.t 3)⟩,
  ⟨(some 25), none, .call 13 [(.t 23), (.t 24)]⟩,
  ⟨(some 22), none, .mv (.t 25)⟩,
  ⟨(some 26), none, .ext 0 (.t 22)⟩,
  ⟨(some 27), none, .ext 1 (.t 22)⟩,
  ⟨(some 7), none, .mv (.t 26)⟩,
  ⟨(some 8), none, .mv (.t 27)⟩]
@[reducible] def i4_R5 : List Iop := [⟨(some 29), none, .ld true 4 (.t 2)⟩,
  ⟨(some 30), none, .ld true 2 (.t 3)⟩,
  ⟨(some 31), none, .call 14 [(.t 29), (.t 30)]⟩,
  ⟨(some 28), none, .mv (.t 31)⟩,
  ⟨(some 32), none, .ext 0 (.t 28)⟩,
  ⟨(some 33), none, .ext 1 (.t 28)⟩,
  ⟨(some 9), none, .mv (.t 32)⟩,
  ⟨(some 10), none, .mv (.t 33)⟩]
@[reducible] def i4_R6 : List Iop := [⟨(some 34), none, .mv (.t 6)⟩,
  ⟨(some 35), none, .bin .neq (.t 34) (.c (.int .i64 0))⟩]
@[reducible] def i4_R7 : List Iop := [⟨(some 36), none, .mv (.t 8)⟩,
  ⟨(some 37), none, .mv (.t 6)⟩,
  ⟨(some 38), none, .bin .eql (.t 36) (.t 37)⟩,
  ⟨(some 39), none, .mv (.t 38)⟩,
  ⟨(some 40), (some (39, true)), .mv (.t 10)⟩,
  ⟨(some 41), (some (39, true)), .mv (.t 6)⟩,
  ⟨(some 42), (some (39, true)), .bin .eql (.t 40) (.t 41)⟩,
  ⟨(some 43), none, .pick (.t 39) (.t 42) (.c (.bool false))⟩,
  ⟨(some 44), none, .mv (.t 43)⟩,
  ⟨(some 45), (some (44, true)), .mv (.t 7)⟩,
  ⟨(some 46), (some (44, true)), .bin .eql (.t 45) (.c (.int .i64 0))⟩,
  ⟨(some 47), none, .pick (.t 44) (.t 46) (.c (.bool false))⟩,
  ⟨(some 48), none, .mv (.t 47)⟩,
  ⟨(some 49), (some (48, true)), .mv (.t 9)⟩,
  ⟨(some 50), (some (48, true)), .nt (.t 49)⟩,
  ⟨(some 51), none, .pick (.t 48) (.t 50) (.c (.bool false))⟩,
  ⟨(some 52), none, .mv (.t 51)⟩,
  ⟨(some 53), (some (52, true)), .call 10 []⟩,
  ⟨(some 54), none, .pick (.t 52) (.t 53) (.c (.bool false))⟩,
  ⟨(some 4), none, .mv (.t 54)⟩]
@[reducible] def i4_R8 : List Iop := [⟨(some 55), none, .fa 0 (.t 5)⟩,
  ⟨(some 56), none, .ld false 1 (.t 55)⟩]
@[reducible] def i4_R9 : List Iop := [⟨(some 57), none, .mv (.t 8)⟩,
  ⟨(some 58), none, .bin .eql (.t 57) (.c (.int .i64 7))⟩,
  ⟨(some 59), none, .mv (.t 58)⟩,
  ⟨(some 60), (some (59, true)), .mv (.t 7)⟩,
  ⟨(some 61), (some (59, true)), .bin .eql (.t 60) (.c (.int .i64 0))⟩,
  ⟨(some 62), none, .pick (.t 59) (.t 61) (.c (.bool false))⟩,
  ⟨(some 63), none, .mv (.t 62)⟩,
  ⟨(some 64), (some (63, true)), .mv (.t 10)⟩,
  ⟨(some 65), (some (63, true)), .bin .eql (.t 64) (.c (.int .i64 0))⟩,
  ⟨(some 66), none, .pick (.t 63) (.t 65) (.c (.bool false))⟩,
  ⟨(some 67), none, .mv (.t 66)⟩,
  ⟨(some 68), (some (67, true)), .mv (.t 9)⟩,
  ⟨(some 69), (some (67, true)), .fa 1 (.t 5)⟩,
  ⟨(some 70), (some (67, true)), .ld false 1 (.t 69)⟩,
  ⟨(some 71), (some (67, true)), .bin .eql (.t 70) (.c (.int .i64 1))⟩,
  ⟨(some 72), (some (67, true)), .eqb false (.t 68) (.t 71)⟩,
  ⟨(some 73), none, .pick (.t 67) (.t 72) (.c (.bool false))⟩,
  ⟨(some 74), none, .mv (.t 73)⟩,
  ⟨(some 75), (some (74, true)), .call 10 []⟩,
  ⟨(some 76), none, .pick (.t 74) (.t 75) (.c (.bool false))⟩,
  ⟨(some 4), none, .mv (.t 76)⟩]
@[reducible] def i4_R10 : List Iop := [⟨(some 77), none, .mv (.t 10)⟩,
  ⟨(some 78), none, .bin .eql (.t 77) (.c (.int .i64 7))⟩,
  ⟨(some 79), none, .mv (.t 78)⟩,
  ⟨(some 80), (some (79, true)), .mv (.t 9)⟩,
  ⟨(some 81), (some (79, true)), .nt (.t 80)⟩,
  ⟨(some 82), none, .pick (.t 79) (.t 81) (.c (.bool false))⟩,
  ⟨(some 83), none, .mv (.t 82)⟩,
  ⟨(some 84), (some (83, true)), .mv (.t 8)⟩,
  ⟨(some 85), (some (83, true)), .bin .eql (.t 84) (.c (.int .i64 0))⟩,
  ⟨(some 86), none, .pick (.t 83) (.t 85) (.c (.bool false))⟩,
  ⟨(some 87), none, .mv (.t 86)⟩,
  ⟨(some 88), (some (87, true)), .mv (.t 7)⟩,
  ⟨(some 89), (some (87, true)), .fa 1 (.t 5)⟩,
  ⟨(some 90), (some (87, true)), .ld false 1 (.t 89)⟩,
  ⟨(some 91), (some (87, true)), .bin .eql (.t 88) (.t 90)⟩,
  ⟨(some 92), none, .pick (.t 87) (.t 91) (.c (.bool false))⟩,
  ⟨(some 93), none, .mv (.t 92)⟩,
  ⟨(some 94), (some (93, true)), .call 10 []⟩,
  ⟨(some 95), none, .pick (.t 93) (.t 94) (.c (.bool false))⟩,
  ⟨(some 4), none, .mv (.t 95)⟩]
@[reducible] def i4_B : IC := (.seq (.reg none i4_R0) (.seq (.seq (.reg none i4_R1) (.cond (.t 14) (.seq (.reg none i4_R2) .ret) .skip)) (.seq (.reg none i4_R3) (.seq (.reg none i4_R4) (.seq (.reg none i4_R5) (.seq (.seq (.reg none i4_R6) (.cond (.t 35) (.seq (.reg none i4_R7) .ret) .skip)) (.seq (.seq (.reg none i4_R8) (.cond (.t 56) (.seq (.reg none i4_R9) .ret) .skip)) (.seq (.reg none i4_R10) .ret))))))))
@[reducible] def i4_V : List Nat := [0, 1, 2, 3, 4, 5, 6, 7, 8, 9, 10, 14, 35, 56]
def i4 : IFn := ⟨96, i4_V, [.tmp 4], i4_B⟩
theorem i4_ok : compF Go.Proofs.Try.prog i4_V Go.Proofs.Try.f4 = some i4 := by kernel_rfl
/-! funicular/funicularlaw10.EvalTyped -/
@[reducible] def i5_R0 : List Iop := [⟨(some 2), none, .box (.t 0)⟩,
  ⟨(some 3), none, .box (.t 1)⟩,
  ⟨(some 4), none, .mv (.c (.bool false))⟩]
@[reducible] def i5_R1 : List Iop := [⟨(some 9), none, .ld true 4 (.t 2)⟩,
  ⟨(some 10), none, .ld true 2 (.t 3)⟩,
  ⟨(some 11), none, .call 9 [(.t 9), (.t 10)]⟩,
  ⟨(some 12), none, .nt (.t 11)⟩,
  ⟨(some 13), none, .mv (.t 12)⟩,
  ⟨(some 14), (some (13, false)), .ld true 2 (.t 3)⟩,
  ⟨(some 15), (some (13, false)), .call 15 [(.t 14)]⟩,
  ⟨(some 16), (some (13, false)), .bin .neq (.t 15) (.c (.int .i64 0))⟩,
  ⟨(some 17), none, .pick (.t 13) (.c (.bool true)) (.t 16)⟩]
@[reducible] def i5_R2 : List Iop := [⟨(some 18), none, .call 10 []⟩,
  ⟨(some 4), none, .mv (.t 18)⟩]
@[reducible] def i5_R3 : List Iop := [⟨(some 20), none, .ld true 4 (.t 2)⟩,
  ⟨(some 21), none, .call 16 [(.t 20)]⟩,
  ⟨(some 19), none, .mv (.t 21)⟩,
  ⟨(some 22), none, .ext 0 (.t 19)⟩,
  ⟨(some 23), none, .ext 1 (.t 19)⟩,
  ⟨(some 5), none, .mv (.t 22)⟩,
  ⟨(some 6), none, .mv (.t 23)⟩]
@[reducible] def i5_R4 : List Iop := [⟨(some 25), none, .ld true 4 (.t 2)⟩,
  ⟨(some 26), none, .ld true 2 (.t 3)⟩,
  ⟨(some 27), none, .call 11 [(.t 25), (.t 26)]⟩,
  ⟨(some 24), none, .mv (.t 27)⟩,
  ⟨(some 28), none, .ext 0 (.t 24)⟩,
  ⟨(some 29), none, .ext 1 (.t 24)⟩,
  ⟨(some 7), none, .alloc [.bool false, .int .i64 0]⟩,
  ⟨none, none, .st 2 (.t 7) (.t 28)⟩,
  ⟨(some 8), none, .mv (.t 29)⟩]
@[reducible] def i5_R5 : List Iop := [⟨(some 30), none, .mv (.t 6)⟩,
  ⟨(some 31), none, .bin .neq (.t 30) (.c (.int .i64 0))⟩]
@[reducible] def i5_R6 : List Iop := [⟨(some 32), none, .mv (.t 8)⟩,
  ⟨(some 33), none, .mv (.t 6)⟩,
  ⟨(some 34), none, .bin .eql (.t 32) (.t 33)⟩,
  ⟨(some 35), none, .mv (.t 34)⟩,
  ⟨(some 36), (some (35, true)), .call 10 []⟩,
  ⟨(some 37), none, .pick (.t 35) (.t 36) (.c (.bool false))⟩,
  ⟨(some 4), none, .mv (.t 37)⟩]
@[reducible] def i5_R7 : List Iop := [⟨(some 38), none, .mv (.t 8)⟩,
  ⟨(some 39), none, .bin .neq (.t 38) (.c (.int .i64 0))⟩]
@[reducible] def i5_R8 : List Iop := [⟨(some 40), none, .mv (.t 8)⟩,
  ⟨(some 41), none, .bin .eql (.t 40) (.c (.int .i64 9))⟩,
  ⟨(some 42), none, .mv (.t 41)⟩,
  ⟨(some 43), (some (42, false)), .mv (.t 8)⟩,
  ⟨(some 44), (some (42, false)), .bin .eql (.t 43) (.c (.int .i64 12))⟩,
  ⟨(some 45), none, .pick (.t 42) (.c (.bool true)) (.t 44)⟩,
  ⟨(some 46), none, .mv (.t 45)⟩,
  ⟨(some 47), (some (46, false)), .mv (.t 8)⟩,
  ⟨(some 48), (some (46, false)), .bin .eql (.t 47) (.c (.int .i64 13))⟩,
  ⟨(some 49), none, .pick (.t 46) (.c (.bool true)) (.t 48)⟩,
  ⟨(some 50), none, .mv (.t 49)⟩,
  ⟨(some 51), (some (50, true)), .ld true 2 (.t 7)⟩,
  ⟨(some 52), (some (50, true)), .build [.bool false, .int .i64 0] []⟩,
  ⟨(some 53), (some (50, true)), .eqc false [(0, 0), (1, 1)] (.t 51) (.t 52)⟩,
  ⟨(some 54), none, .pick (.t 50) (.t 53) (.c (.bool false))⟩,
  ⟨(some 55), none, .mv (.t 54)⟩,
  ⟨(some 56), (some (55, true)), .call 10 []⟩,
  ⟨(some 57), none, .pick (.t 55) (.t 56) (.c (.bool false))⟩,
  ⟨(some 4), none, .mv (.t 57)⟩]
@[reducible] def i5_R9 : List Iop := [⟨(some 58), none, .fa 0 (.t 7)⟩,
  ⟨(some 59), none, .ld false 1 (.t 58)⟩,
  ⟨(some 60), none, .mv (.t 5)⟩,
  ⟨(some 61), none, .eqb false (.t 59) (.t 60)⟩,
  ⟨(some 62), none, .mv (.t 61)⟩,
  ⟨(some 63), (some (62, true)), .mv (.t 5)⟩,
  ⟨(some 64), (some (62, true)), .nt (.t 63)⟩,
  ⟨(some 65), (some (62, true)), .mv (.t 64)⟩,
  ⟨(some 66), (some (65, false)), .fa 1 (.t 7)⟩,
  ⟨(some 67), (some (65, false)), .ld false 1 (.t 66)⟩,
  ⟨(some 68), (some (65, false)), .bin .eql (.t 67) (.c (.int .i64 0))⟩,
  ⟨(some 69), (some (62, true)), .pick (.t 65) (.c (.bool true)) (.t 68)⟩,
  ⟨(some 70), (some (62, true)), .mv (.t 69)⟩,
  ⟨(some 71), (some (70, false)), .fa 1 (.t 7)⟩,
  ⟨(some 72), (some (70, false)), .ld false 1 (.t 71)⟩,
  ⟨(some 73), (some (70, false)), .bin .eql (.t 72) (.c (.int .i64 1))⟩,
  ⟨(some 74), (some (62, true)), .pick (.t 70) (.c (.bool true)) (.t 73)⟩,
  ⟨(some 75), none, .pick (.t 62) (.t 74) (.c (.bool false))⟩,
  ⟨(some 76), none, .mv (.t 75)⟩,
  ⟨(some 77), (some (76, true)), .call 10 []⟩,
  ⟨(some 78), none, .pick (.t 76) (.t 77) (.c (.bool false))⟩,
  ⟨(some 4), none, .mv (.t 78)⟩]
@[reducible] def i5_B : IC := (.seq (.reg none i5_R0) (.seq (.seq (.reg none i5_R1) (.cond (.t 17) (.seq (.reg none i5_R2) .ret) .skip)) (.seq (.reg none i5_R3) (.seq (.reg none i5_R4) (.seq (.seq (.reg none i5_R5) (.cond (.t 31) (.seq (.reg none i5_R6) .ret) .skip)) (.seq (.seq (.reg none i5_R7) (.cond (.t 39) (.seq (.reg none i5_R8) .ret) .skip)) (.seq (.reg none i5_R9) .ret)))))))
@[reducible] def i5_V : List Nat := [0, 1, 2, 3, 4, 5, 6, 7, 8, 17, 31, 39]
def i5 : IFn := ⟨79, i5_V, [.tmp 4], i5_B⟩
theorem i5_ok : compF Go.Proofs.Try.prog i5_V Go.Proofs.Try.f5 = some i5 := by kernel_rfl
/-! funicular/funicularlaw10.EvalFolds -/
@[reducible] def i6_R0 : List Iop := [⟨(some 2), none, .box (.t 0)⟩,
  ⟨(some 3), none, .box (.t 1)⟩,
  ⟨(some 4), none, .mv (.c (.bool false))⟩]
@[reducible] def i6_R1 : List Iop := [⟨(some 11), none, .ld true 4 (.t 2)⟩,
  ⟨(some 12), none, .ld true 2 (.t 3)⟩,
  ⟨(some 13), none, .call 9 [(.t 11), (.t 12)]⟩,
  ⟨(some 14), none, .nt (.t 13)⟩]
@[reducible] def i6_R2 : List Iop := [⟨(some 15), none, .call 10 []⟩,
  ⟨(some 4), none, .mv (.t 15)⟩]
@[reducible] def i6_R3 : List Iop := [⟨(some 17), none, .ld true 4 (.t 2)⟩,
  ⟨(some 18), none, .call 17 [(.t 17)]⟩,
  ⟨(some 16), none, .mv (.t 18)⟩,
  ⟨(some 19), none, .ext 0 (.t 16)⟩,
  ⟨(some 20), none, .ext 1 (.t 16)⟩,
  ⟨(some 5), none, .alloc [.int .i64 0, .int .i64 0, .str ⟨#[]⟩, .nil]⟩,
  ⟨none, none, .st 4 (.t 5) (.t 19)⟩,
  ⟨(some 6), none, .mv (.t 20)⟩]
@[reducible] def i6_R4 : List Iop := [⟨(some 22), none, .ld true 4 (.t 2)⟩,
  ⟨(some 23), none, .ld true 2 (.t 3)⟩,
  ⟨(some 24), none, .call 11 [(.t 22), (.t 23)]⟩,
  ⟨(some 21), none, .mv (.t 24)⟩,
  ⟨(some 25), none, .ext 0 (.t 21)⟩,
  ⟨(some 26), none, .ext 1 (.t 21)⟩,
  ⟨(some 7), none, .alloc [.bool false, .int .i64 0]⟩,
  ⟨none, none, .st 2 (.t 7) (.t 25)⟩,
  ⟨(some 8), none, .mv (.t 26)⟩]
@[reducible] def i6_R5 : List Iop := [⟨(some 27), none, .mv (.t 6)⟩,
  ⟨(some 28), none, .bin .neq (.t 27) (.c (.int .i64 0))⟩,
  ⟨(some 29), none, .mv (.t 28)⟩,
  ⟨(some 30), (some (29, false)), .mv (.t 8)⟩,
  ⟨(some 31), (some (29, false)), .bin .neq (.t 30) (.c (.int .i64 0))⟩,
  ⟨(some 32), none, .pick (.t 29) (.c (.bool true)) (.t 31)⟩]
@[reducible] def i6_R6 : List Iop := [⟨(some 33), none, .call 10 []⟩,
  ⟨(some 4), none, .mv (.t 33)⟩]
@[reducible] def i6_R7 : List Iop := [⟨(some 35), none, .ld true 4 (.t 5)⟩,
  ⟨(some 36), none, .ld true 2 (.t 3)⟩,
  ⟨(some 37), none, .call 11 [(.t 35), (.t 36)]⟩,
  ⟨(some 34), none, .mv (.t 37)⟩,
  ⟨(some 38), none, .ext 0 (.t 34)⟩,
  ⟨(some 39), none, .ext 1 (.t 34)⟩,
  ⟨(some 9), none, .alloc [.bool false, .int .i64 0]⟩,
  ⟨none, none, .st 2 (.t 9) (.t 38)⟩,
  ⟨(some 10), none, .mv (.t 39)⟩]
@[reducible] def i6_R8 : List Iop := [⟨(some 40), none, .mv (.t 10)⟩,
  ⟨(some 41), none, .bin .eql (.t 40) (.c (.int .i64 0))⟩,
  ⟨(some 42), none, .mv (.t 41)⟩,
  ⟨(some 43), (some (42, true)), .ld true 2 (.t 7)⟩,
  ⟨(some 44), (some (42, true)), .ld true 2 (.t 9)⟩,
  ⟨(some 45), (some (42, true)), .eqc false [(0, 0), (1, 1)] (.t 43) (.t 44)⟩,
  ⟨(some 46), none, .pick (.t 42) (.t 45) (.c (.bool false))⟩,
  ⟨(some 47), none, .mv (.t 46)⟩,
  ⟨(some 48), (some (47, true)), .call 10 []⟩,
  ⟨(some 49), none, .pick (.t 47) (.t 48) (.c (.bool false))⟩,
  ⟨(some 4), none, .mv (.t 49)⟩]
@[reducible] def i6_B : IC := (.seq (.reg none i6_R0) (.seq (.seq (.reg none i6_R1) (.cond (.t 14) (.seq (.reg none i6_R2) .ret) .skip)) (.seq (.reg none i6_R3) (.seq (.reg none i6_R4) (.seq (.seq (.reg none i6_R5) (.cond (.t 32) (.seq (.reg none i6_R6) .ret) .skip)) (.seq (.reg none i6_R7) (.seq (.reg none i6_R8) .ret)))))))
@[reducible] def i6_V : List Nat := [0, 1, 2, 3, 4, 5, 6, 7, 8, 9, 10, 14, 32]
def i6 : IFn := ⟨50, i6_V, [.tmp 4], i6_B⟩
theorem i6_ok : compF Go.Proofs.Try.prog i6_V Go.Proofs.Try.f6 = some i6 := by kernel_rfl
/-! funicular/funicularlaw10.EvalAsks -/
@[reducible] def i7_R0 : List Iop := [⟨(some 4), none, .box (.t 0)⟩,
  ⟨(some 5), none, .box (.t 1)⟩,
  ⟨(some 8), none, .mv (.c (.bool false))⟩]
@[reducible] def i7_R1 : List Iop := [⟨(some 19), none, .ld true 4 (.t 4)⟩,
  ⟨(some 20), none, .ld true 2 (.t 5)⟩,
  ⟨(some 21), none, .call 9 [(.t 19), (.t 20)]⟩,
  ⟨(some 22), none, .nt (.t 21)⟩,
  ⟨(some 23), none, .mv (.t 22)⟩,
  ⟨(some 24), (some (23, false)), .ld true 4 (.t 4)⟩,
  ⟨(some 25), (some (23, false)), .mv (.t 2)⟩,
  ⟨(some 26), (some (23, false)), .call 18 [(.t 24), (.t 25)]⟩,
  ⟨(some 27), none, .pick (.t 23) (.c (.bool true)) (.t 26)⟩,
  ⟨(some 28), none, .mv (.t 27)⟩,
  ⟨(some 29), (some (28, false)), .ld true 2 (.t 5)⟩,
  ⟨(some 30), (some (28, false)), .call 15 [(.t 29)]⟩,
  ⟨(some 31), (some (28, false)), .bin .neq (.t 30) (.c (.int .i64 0))⟩,
  ⟨(some 32), none, .pick (.t 28) (.c (.bool true)) (.t 31)⟩]
@[reducible] def i7_R2 : List Iop := [⟨(some 33), none, .call 10 []⟩,
  ⟨(some 8), none, .mv (.t 33)⟩]
@[reducible] def i7_R3 : List Iop := [⟨(some 35), none, .ld true 2 (.t 5)⟩,
  ⟨(some 36), none, .mv (.t 2)⟩,
  ⟨(some 37), none, .mv (.t 3)⟩,
  ⟨(some 38), none, .call 20 [(.t 36), (.t 37)]⟩,
  ⟨(some 39), none, .bsl 2 [.imm 0 [] false, .imm 0 [] false] 2 [(0, (.t 35)), (1, (.t 38))]⟩,
  ⟨(some 40), none, .call 19 [(.t 39)]⟩,
  ⟨(some 34), none, .mv (.t 40)⟩,
  ⟨(some 41), none, .ext 0 (.t 34)⟩,
  ⟨(some 42), none, .ext 1 (.t 34)⟩,
  ⟨(some 9), none, .alloc [.nil, .nil]⟩,
  ⟨none, none, .st 2 (.t 9) (.t 41)⟩,
  ⟨(some 10), none, .mv (.t 42)⟩]
@[reducible] def i7_R4 : List Iop := [⟨(some 43), none, .mv (.t 10)⟩,
  ⟨(some 44), none, .bin .neq (.t 43) (.c (.int .i64 0))⟩]
@[reducible] def i7_R5 : List Iop := [⟨(some 45), none, .call 10 []⟩,
  ⟨(some 8), none, .mv (.t 45)⟩]
@[reducible] def i7_R6 : List Iop := [⟨(some 47), none, .ld true 4 (.t 4)⟩,
  ⟨(some 48), none, .ld true 2 (.t 5)⟩,
  ⟨(some 49), none, .call 11 [(.t 47), (.t 48)]⟩,
  ⟨(some 46), none, .mv (.t 49)⟩,
  ⟨(some 50), none, .ext 0 (.t 46)⟩,
  ⟨(some 51), none, .ext 1 (.t 46)⟩,
  ⟨(some 11), none, .alloc [.bool false, .int .i64 0]⟩,
  ⟨none, none, .st 2 (.t 11) (.t 50)⟩,
  ⟨(some 12), none, .mv (.t 51)⟩]
@[reducible] def i7_R7 : List Iop := [⟨(some 53), none, .ld true 4 (.t 4)⟩,
  ⟨(some 54), none, .ld true 2 (.t 9)⟩,
  ⟨(some 55), none, .call 11 [(.t 53), (.t 54)]⟩,
  ⟨(some 52), none, .mv (.t 55)⟩,
  ⟨(some 56), none, .ext 0 (.t 52)⟩,
  ⟨(some 57), none, .ext 1 (.t 52)⟩,
  ⟨(some 13), none, .alloc [.bool false, .int .i64 0]⟩,
  ⟨none, none, .st 2 (.t 13) (.t 56)⟩,
  ⟨(some 14), none, .mv (.t 57)⟩]
@[reducible] def i7_R8 : List Iop := [⟨(some 58), none, .ld true 2 (.t 11)⟩,
  ⟨(some 59), none, .ld true 2 (.t 13)⟩,
  ⟨(some 60), none, .eqc true [(0, 0), (1, 1)] (.t 58) (.t 59)⟩,
  ⟨(some 61), none, .mv (.t 60)⟩,
  ⟨(some 62), (some (61, false)), .mv (.t 12)⟩,
  ⟨(some 63), (some (61, false)), .mv (.t 14)⟩,
  ⟨(some 64), (some (61, false)), .bin .neq (.t 62) (.t 63)⟩,
  ⟨(some 65), none, .pick (.t 61) (.c (.bool true)) (.t 64)⟩]
@[reducible] def i7_R9 : List Iop := [⟨(some 8), none, .mv (.c (.bool false))⟩]
@[reducible] def i7_R10 : List Iop := [⟨(some 66), none, .ld true 4 (.t 4)⟩,
  ⟨(some 67), none, .call 21 [(.t 66)]⟩,
  ⟨(some 15), none, .mv (.t 67)⟩]
@[reducible] def i7_R11 : List Iop := [⟨(some 16), none, .mv (.c (.int .i64 0))⟩]
@[reducible] def i7_R12 : List Iop := [⟨(some 68), none, .mv (.t 16)⟩,
  ⟨(some 69), none, .mv (.t 15)⟩,
  ⟨(some 70), none, .lenl (.t 69)⟩,
  ⟨(some 71), none, .bin .lss (.t 68) (.t 70)⟩]
@[reducible] def i7_R13 : List Iop := [⟨(some 75), none, .ld true 2 (.t 5)⟩,
  ⟨(some 76), none, .mv (.t 15)⟩,
  ⟨(some 77), none, .mv (.t 16)⟩,
  ⟨(some 78), none, .ias 1 (.t 76) (.t 77)⟩,
  ⟨(some 79), none, .ld false 1 (.t 78)⟩,
  ⟨(some 80), none, .call 22 [(.t 75), (.t 79)]⟩,
  ⟨(some 74), none, .mv (.t 80)⟩,
  ⟨(some 81), none, .ext 0 (.t 74)⟩,
  ⟨(some 82), none, .ext 1 (.t 74)⟩,
  ⟨(some 17), none, .mv (.t 81)⟩,
  ⟨(some 18), none, .mv (.t 82)⟩]
@[reducible] def i7_R14 : List Iop := [⟨(some 83), none, .mv (.t 18)⟩,
  ⟨(some 84), none, .nt (.t 83)⟩]
@[reducible] def i7_R15 : List Iop := [⟨(some 85), none, .call 10 []⟩,
  ⟨(some 8), none, .mv (.t 85)⟩]
@[reducible] def i7_R16 : List Iop := [⟨(some 72), none, .mv (.t 16)⟩,
  ⟨(some 73), none, .bin .add (.t 72) (.c (.int .i64 1))⟩,
  ⟨(some 16), none, .mv (.t 73)⟩]
@[reducible] def i7_L0 : IC := (.seq (.seq (.reg none i7_R12) (.cond (.t 71) .skip (.out 0))) (.seq (.block 1 (.seq (.reg (some []) i7_R13) (.seq (.reg none i7_R14) (.cond (.t 84) (.seq (.reg none i7_R15) .ret) .skip)))) (.reg none i7_R16)))
@[reducible] def i7_R17 : List Iop := [⟨(some 86), none, .mv (.t 12)⟩,
  ⟨(some 87), none, .bin .neq (.t 86) (.c (.int .i64 9))⟩,
  ⟨(some 88), none, .mv (.t 87)⟩,
  ⟨(some 89), (some (88, true)), .call 10 []⟩,
  ⟨(some 90), none, .pick (.t 88) (.t 89) (.c (.bool false))⟩,
  ⟨(some 8), none, .mv (.t 90)⟩]
@[reducible] def i7_B : IC := (.seq (.reg none i7_R0) (.seq (.seq (.reg none i7_R1) (.cond (.t 32) (.seq (.reg none i7_R2) .ret) .skip)) (.seq (.reg (some []) i7_R3) (.seq (.seq (.reg none i7_R4) (.cond (.t 44) (.seq (.reg none i7_R5) .ret) .skip)) (.seq (.reg none i7_R6) (.seq (.reg none i7_R7) (.seq (.seq (.reg none i7_R8) (.cond (.t 65) (.seq (.reg none i7_R9) .ret) .skip)) (.seq (.reg none i7_R10) (.seq (.seq (.reg none i7_R11) (.block 0 (.loop i7_L0))) (.seq (.reg none i7_R17) .ret))))))))))
@[reducible] def i7_V : List Nat := [0, 1, 2, 3, 4, 5, 8, 9, 10, 11, 12, 13, 14, 15, 16, 18, 32, 44, 65, 71, 84]
def i7 : IFn := ⟨91, i7_V, [.tmp 8], i7_B⟩
theorem i7_ok : compF Go.Proofs.Try.prog i7_V Go.Proofs.Try.f7 = some i7 := by kernel_rfl
/-! funicular/funicularlaw10.EvalRenames -/
@[reducible] def i8_R0 : List Iop := [⟨(some 4), none, .box (.t 0)⟩,
  ⟨(some 5), none, .box (.t 1)⟩,
  ⟨(some 8), none, .mv (.c (.bool false))⟩]
@[reducible] def i8_R1 : List Iop := [⟨(some 19), none, .ld true 4 (.t 4)⟩,
  ⟨(some 20), none, .ld true 2 (.t 5)⟩,
  ⟨(some 21), none, .call 9 [(.t 19), (.t 20)]⟩,
  ⟨(some 22), none, .nt (.t 21)⟩,
  ⟨(some 23), none, .mv (.t 22)⟩,
  ⟨(some 24), (some (23, false)), .ld true 2 (.t 5)⟩,
  ⟨(some 25), (some (23, false)), .call 15 [(.t 24)]⟩,
  ⟨(some 26), (some (23, false)), .bin .neq (.t 25) (.c (.int .i64 0))⟩,
  ⟨(some 27), none, .pick (.t 23) (.c (.bool true)) (.t 26)⟩,
  ⟨(some 28), none, .mv (.t 27)⟩,
  ⟨(some 29), (some (28, false)), .ld true 4 (.t 4)⟩,
  ⟨(some 30), (some (28, false)), .mv (.t 3)⟩,
  ⟨(some 31), (some (28, false)), .call 18 [(.t 29), (.t 30)]⟩,
  ⟨(some 32), none, .pick (.t 28) (.c (.bool true)) (.t 31)⟩]
@[reducible] def i8_R2 : List Iop := [⟨(some 33), none, .call 10 []⟩,
  ⟨(some 8), none, .mv (.t 33)⟩]
@[reducible] def i8_R3 : List Iop := [⟨(some 35), none, .ld true 4 (.t 4)⟩,
  ⟨(some 36), none, .mv (.t 2)⟩,
  ⟨(some 37), none, .mv (.t 3)⟩,
  ⟨(some 38), none, .call 23 [(.t 35), (.t 36), (.t 37)]⟩,
  ⟨(some 34), none, .mv (.t 38)⟩,
  ⟨(some 39), none, .ext 0 (.t 34)⟩,
  ⟨(some 40), none, .ext 1 (.t 34)⟩,
  ⟨(some 9), none, .alloc [.int .i64 0, .int .i64 0, .str ⟨#[]⟩, .nil]⟩,
  ⟨none, none, .st 4 (.t 9) (.t 39)⟩,
  ⟨(some 10), none, .mv (.t 40)⟩]
@[reducible] def i8_R4 : List Iop := [⟨(some 42), none, .ld true 2 (.t 5)⟩,
  ⟨(some 43), none, .mv (.t 2)⟩,
  ⟨(some 44), none, .call 22 [(.t 42), (.t 43)]⟩,
  ⟨(some 41), none, .mv (.t 44)⟩,
  ⟨(some 45), none, .ext 0 (.t 41)⟩,
  ⟨(some 46), none, .ext 1 (.t 41)⟩,
  ⟨(some 11), none, .mv (.t 45)⟩,
  ⟨(some 12), none, .mv (.t 46)⟩]
@[reducible] def i8_R5 : List Iop := [⟨(some 47), none, .mv (.t 10)⟩,
  ⟨(some 48), none, .bin .neq (.t 47) (.c (.int .i64 0))⟩,
  ⟨(some 49), none, .mv (.t 48)⟩,
  ⟨(some 50), (some (49, false)), .mv (.t 12)⟩,
  ⟨(some 51), (some (49, false)), .nt (.t 50)⟩,
  ⟨(some 52), none, .pick (.t 49) (.c (.bool true)) (.t 51)⟩]
@[reducible] def i8_R6 : List Iop := [⟨(some 53), none, .call 10 []⟩,
  ⟨(some 8), none, .mv (.t 53)⟩]
@[reducible] def i8_R7 : List Iop := [⟨(some 55), none, .ld true 2 (.t 5)⟩,
  ⟨(some 56), none, .mv (.t 3)⟩,
  ⟨(some 57), none, .mv (.t 11)⟩,
  ⟨(some 58), none, .call 20 [(.t 56), (.t 57)]⟩,
  ⟨(some 59), none, .bsl 2 [.imm 0 [] false, .imm 0 [] false] 2 [(0, (.t 55)), (1, (.t 58))]⟩,
  ⟨(some 60), none, .call 19 [(.t 59)]⟩,
  ⟨(some 54), none, .mv (.t 60)⟩,
  ⟨(some 61), none, .ext 0 (.t 54)⟩,
  ⟨(some 62), none, .ext 1 (.t 54)⟩,
  ⟨(some 13), none, .alloc [.nil, .nil]⟩,
  ⟨none, none, .st 2 (.t 13) (.t 61)⟩,
  ⟨(some 14), none, .mv (.t 62)⟩]
@[reducible] def i8_R8 : List Iop := [⟨(some 63), none, .mv (.t 14)⟩,
  ⟨(some 64), none, .bin .neq (.t 63) (.c (.int .i64 0))⟩]
@[reducible] def i8_R9 : List Iop := [⟨(some 65), none, .call 10 []⟩,
  ⟨(some 8), none, .mv (.t 65)⟩]
@[reducible] def i8_R10 : List Iop := [⟨(some 67), none, .ld true 4 (.t 4)⟩,
  ⟨(some 68), none, .ld true 2 (.t 5)⟩,
  ⟨(some 69), none, .call 11 [(.t 67), (.t 68)]⟩,
  ⟨(some 66), none, .mv (.t 69)⟩,
  ⟨(some 70), none, .ext 0 (.t 66)⟩,
  ⟨(some 71), none, .ext 1 (.t 66)⟩,
  ⟨(some 15), none, .alloc [.bool false, .int .i64 0]⟩,
  ⟨none, none, .st 2 (.t 15) (.t 70)⟩,
  ⟨(some 16), none, .mv (.t 71)⟩]
@[reducible] def i8_R11 : List Iop := [⟨(some 73), none, .ld true 4 (.t 9)⟩,
  ⟨(some 74), none, .ld true 2 (.t 13)⟩,
  ⟨(some 75), none, .call 11 [(.t 73), (.t 74)]⟩,
  ⟨(some 72), none, .mv (.t 75)⟩,
  ⟨(some 76), none, .ext 0 (.t 72)⟩,
  ⟨(some 77), none, .ext 1 (.t 72)⟩,
  ⟨(some 17), none, .alloc [.bool false, .int .i64 0]⟩,
  ⟨none, none, .st 2 (.t 17) (.t 76)⟩,
  ⟨(some 18), none, .mv (.t 77)⟩]
@[reducible] def i8_R12 : List Iop := [⟨(some 78), none, .ld true 2 (.t 15)⟩,
  ⟨(some 79), none, .ld true 2 (.t 17)⟩,
  ⟨(some 80), none, .eqc false [(0, 0), (1, 1)] (.t 78) (.t 79)⟩,
  ⟨(some 81), none, .mv (.t 80)⟩,
  ⟨(some 82), (some (81, true)), .mv (.t 16)⟩,
  ⟨(some 83), (some (81, true)), .mv (.t 18)⟩,
  ⟨(some 84), (some (81, true)), .bin .eql (.t 82) (.t 83)⟩,
  ⟨(some 85), none, .pick (.t 81) (.t 84) (.c (.bool false))⟩,
  ⟨(some 86), none, .mv (.t 85)⟩,
  ⟨(some 87), (some (86, true)), .call 10 []⟩,
  ⟨(some 88), none, .pick (.t 86) (.t 87) (.c (.bool false))⟩,
  ⟨(some 8), none, .mv (.t 88)⟩]
@[reducible] def i8_B : IC := (.seq (.reg none i8_R0) (.seq (.seq (.reg none i8_R1) (.cond (.t 32) (.seq (.reg none i8_R2) .ret) .skip)) (.seq (.reg none i8_R3) (.seq (.reg none i8_R4) (.seq (.seq (.reg none i8_R5) (.cond (.t 52) (.seq (.reg none i8_R6) .ret) .skip)) (.seq (.reg (some []) i8_R7) (.seq (.seq (.reg none i8_R8) (.cond (.t 64) (.seq (.reg none i8_R9) .ret) .skip)) (.seq (.reg none i8_R10) (.seq (.reg none i8_R11) (.seq (.reg none i8_R12) .ret))))))))))
@[reducible] def i8_V : List Nat := [0, 1, 2, 3, 4, 5, 8, 9, 10, 11, 12, 13, 14, 15, 16, 17, 18, 32, 52, 64]
def i8 : IFn := ⟨89, i8_V, [.tmp 8], i8_B⟩
theorem i8_ok : compF Go.Proofs.Try.prog i8_V Go.Proofs.Try.f8 = some i8 := by kernel_rfl
/-! funicular/funicularlaw10.light -/
@[reducible] def i9_R0 : List Iop := [⟨(some 2), none, .box (.t 0)⟩,
  ⟨(some 3), none, .box (.t 1)⟩,
  ⟨(some 4), none, .mv (.c (.bool false))⟩]
@[reducible] def i9_R1 : List Iop := [⟨(some 5), none, .ld true 4 (.t 2)⟩,
  ⟨(some 6), none, .call 24 [(.t 5), (.c (.int .i64 500))]⟩,
  ⟨(some 7), none, .bin .leq (.t 6) (.c (.int .i64 500))⟩,
  ⟨(some 8), none, .mv (.t 7)⟩,
  ⟨(some 9), (some (8, true)), .fa 0 (.t 3)⟩,
  ⟨(some 10), (some (8, true)), .ld false 1 (.t 9)⟩,
  ⟨(some 11), (some (8, true)), .lenl (.t 10)⟩,
  ⟨(some 12), (some (8, true)), .bin .leq (.t 11) (.c (.int .i64 200))⟩,
  ⟨(some 13), none, .pick (.t 8) (.t 12) (.c (.bool false))⟩,
  ⟨(some 14), none, .mv (.t 13)⟩,
  ⟨(some 15), (some (14, true)), .fa 1 (.t 3)⟩,
  ⟨(some 16), (some (14, true)), .ld false 1 (.t 15)⟩,
  ⟨(some 17), (some (14, true)), .lenl (.t 16)⟩,
  ⟨(some 18), (some (14, true)), .bin .leq (.t 17) (.c (.int .i64 200))⟩,
  ⟨(some 19), none, .pick (.t 14) (.t 18) (.c (.bool false))⟩,
  ⟨(some 4), none, .mv (.t 19)⟩]
@[reducible] def i9_B : IC := (.seq (.reg none i9_R0) (.seq (.reg none i9_R1) .ret))
@[reducible] def i9_V : List Nat := [0, 1, 2, 3, 4]
def i9 : IFn := ⟨20, i9_V, [.tmp 4], i9_B⟩
theorem i9_ok : compF Go.Proofs.Try.prog i9_V Go.Proofs.Try.f9 = some i9 := by kernel_rfl
/-! funicular/funicularlaw10.works -/
@[reducible] def i10_R0 : List Iop := [⟨(some 0), none, .mv (.c (.bool false))⟩]
@[reducible] def i10_R1 : List Iop := [⟨(some 16), none, .call 25 [(.c (.str ⟨#[97, 32, 47, 32, 50, 32, 43, 32, 49, 32, 60, 32, 53, 32, 38, 32, 33, 40, 98, 32, 61, 32, 48, 41]⟩))]⟩,
  ⟨(some 15), none, .mv (.t 16)⟩,
  ⟨(some 17), none, .ext 0 (.t 15)⟩,
  ⟨(some 18), none, .ext 1 (.t 15)⟩,
  ⟨(some 1), none, .alloc [.int .i64 0, .int .i64 0, .str ⟨#[]⟩, .nil]⟩,
  ⟨(some 2), none, .alloc [.int .i64 0, .int .i64 0]⟩,
  ⟨none, none, .st 4 (.t 1) (.t 17)⟩,
  ⟨none, none, .st 2 (.t 2) (.t 18)⟩]
@[reducible] def i10_R2 : List Iop := [⟨(some 20), none, .call 25 [(.c (.str ⟨#[97, 32, 47, 32, 40, 98, 32, 45, 32, 49, 41]⟩))]⟩,
  ⟨(some 19), none, .mv (.t 20)⟩,
  ⟨(some 21), none, .ext 0 (.t 19)⟩,
  ⟨(some 22), none, .ext 1 (.t 19)⟩,
  ⟨(some 3), none, .alloc [.int .i64 0, .int .i64 0, .str ⟨#[]⟩, .nil]⟩,
  ⟨(some 4), none, .alloc [.int .i64 0, .int .i64 0]⟩,
  ⟨none, none, .st 4 (.t 3) (.t 21)⟩,
  ⟨none, none, .st 2 (.t 4) (.t 22)⟩]
@[reducible] def i10_R3 : List Iop := [⟨(some 24), none, .call 20 [(.c (.str ⟨#[97]⟩)), (.c (.int .i64 7))]⟩,
  ⟨(some 25), none, .call 20 [(.c (.str ⟨#[98]⟩)), (.c (.int .i64 1))]⟩,
  ⟨(some 26), none, .bsl 2 [.imm 0 [] false, .imm 0 [] false] 2 [(0, (.t 24)), (1, (.t 25))]⟩,
  ⟨(some 27), none, .call 19 [(.t 26)]⟩,
  ⟨(some 23), none, .mv (.t 27)⟩,
  ⟨(some 28), none, .ext 0 (.t 23)⟩,
  ⟨(some 29), none, .ext 1 (.t 23)⟩,
  ⟨(some 5), none, .alloc [.nil, .nil]⟩,
  ⟨none, none, .st 2 (.t 5) (.t 28)⟩,
  ⟨(some 6), none, .mv (.t 29)⟩]
@[reducible] def i10_R4 : List Iop := [⟨(some 31), none, .ld true 4 (.t 1)⟩,
  ⟨(some 32), none, .ld true 2 (.t 5)⟩,
  ⟨(some 33), none, .call 14 [(.t 31), (.t 32)]⟩,
  ⟨(some 30), none, .mv (.t 33)⟩,
  ⟨(some 34), none, .ext 0 (.t 30)⟩,
  ⟨(some 35), none, .ext 1 (.t 30)⟩,
  ⟨(some 7), none, .mv (.t 34)⟩,
  ⟨(some 8), none, .mv (.t 35)⟩]
@[reducible] def i10_R5 : List Iop := [⟨(some 37), none, .ld true 4 (.t 3)⟩,
  ⟨(some 38), none, .ld true 2 (.t 5)⟩,
  ⟨(some 39), none, .call 13 [(.t 37), (.t 38)]⟩,
  ⟨(some 36), none, .mv (.t 39)⟩,
  ⟨(some 40), none, .ext 0 (.t 36)⟩,
  ⟨(some 41), none, .ext 1 (.t 36)⟩,
  ⟨(some 9), none, .mv (.t 40)⟩,
  ⟨(some 10), none, .mv (.t 41)⟩]
@[reducible] def i10_R6 : List Iop := [⟨(some 43), none, .ld true 4 (.t 1)⟩,
  ⟨(some 44), none, .ld true 2 (.t 5)⟩,
  ⟨(some 45), none, .call 13 [(.t 43), (.t 44)]⟩,
  ⟨(some 42), none, .mv (.t 45)⟩,
  ⟨(some 46), none, .ext 0 (.t 42)⟩,
  ⟨(some 47), none, .ext 1 (.t 42)⟩,
  ⟨(some 11), none, .mv (.t 46)⟩,
  ⟨(some 12), none, .mv (.t 47)⟩]
@[reducible] def i10_R7 : List Iop := [⟨(some 49), none, .ld true 4 (.t 3)⟩,
  ⟨(some 50), none, .build [.nil, .nil] []⟩,
  ⟨(some 51), none, .call 11 [(.t 49), (.t 50)]⟩,
  ⟨(some 48), none, .mv (.t 51)⟩,
  ⟨(some 52), none, .ext 0 (.t 48)⟩,
  ⟨(some 53), none, .ext 1 (.t 48)⟩,
  ⟨(some 13), none, .alloc [.bool false, .int .i64 0]⟩,
  ⟨none, none, .st 2 (.t 13) (.t 52)⟩,
  ⟨(some 14), none, .mv (.t 53)⟩]
@[reducible] def i10_R8 : List Iop := [⟨(some 54), none, .mv (.t 7)⟩,
  ⟨(some 55), none, .mv (.t 54)⟩,
  ⟨(some 56), (some (55, true)), .mv (.t 8)⟩,
  ⟨(some 57), (some (55, true)), .bin .eql (.t 56) (.c (.int .i64 0))⟩,
  ⟨(some 58), none, .pick (.t 55) (.t 57) (.c (.bool false))⟩,
  ⟨(some 59), none, .mv (.t 58)⟩,
  ⟨(some 60), (some (59, true)), .mv (.t 10)⟩,
  ⟨(some 61), (some (59, true)), .bin .eql (.t 60) (.c (.int .i64 12))⟩,
  ⟨(some 62), none, .pick (.t 59) (.t 61) (.c (.bool false))⟩,
  ⟨(some 63), none, .mv (.t 62)⟩,
  ⟨(some 64), (some (63, true)), .mv (.t 12)⟩,
  ⟨(some 65), (some (63, true)), .bin .eql (.t 64) (.c (.int .i64 7))⟩,
  ⟨(some 66), none, .pick (.t 63) (.t 65) (.c (.bool false))⟩,
  ⟨(some 67), none, .mv (.t 66)⟩,
  ⟨(some 68), (some (67, true)), .mv (.t 14)⟩,
  ⟨(some 69), (some (67, true)), .bin .eql (.t 68) (.c (.int .i64 9))⟩,
  ⟨(some 70), none, .pick (.t 67) (.t 69) (.c (.bool false))⟩,
  ⟨(some 0), none, .mv (.t 70)⟩]
@[reducible] def i10_B : IC := (.seq (.reg none i10_R0) (.seq (.reg none i10_R1) (.seq (.reg none i10_R2) (.seq (.reg none i10_R3) (.seq (.reg none i10_R4) (.seq (.reg none i10_R5) (.seq (.reg none i10_R6) (.seq (.reg none i10_R7) (.seq (.reg none i10_R8) .ret)))))))))
@[reducible] def i10_V : List Nat := [0, 1, 3, 5, 7, 8, 10, 12, 14]
def i10 : IFn := ⟨71, i10_V, [.tmp 0], i10_B⟩
theorem i10_ok : compF Go.Proofs.Try.prog i10_V Go.Proofs.Try.f10 = some i10 := by kernel_rfl
/-! funicular/eval.Of -/
@[reducible] def i11_R0 : List Iop := [⟨(some 2), none, .box (.t 0)⟩,
  ⟨(some 3), none, .box (.t 1)⟩,
  ⟨(some 4), none, .alloc [.bool false, .int .i64 0]⟩,
  ⟨(some 5), none, .mv (.c (.int .i64 0))⟩]
@[reducible] def i11_R1 : List Iop := [⟨(some 10), none, .ld true 4 (.t 2)⟩,
  ⟨(some 11), none, .call 26 [(.t 10)]⟩,
  ⟨(some 9), none, .mv (.t 11)⟩,
  ⟨(some 12), none, .ext 0 (.t 9)⟩,
  ⟨(some 13), none, .ext 1 (.t 9)⟩,
  ⟨(some 6), none, .mv (.t 12)⟩,
  ⟨(some 7), none, .mv (.t 13)⟩]
@[reducible] def i11_R2 : List Iop := [⟨(some 14), none, .mv (.t 7)⟩,
  ⟨(some 15), none, .bin .neq (.t 14) (.c (.int .i64 0))⟩]
@[reducible] def i11_R3 : List Iop := [⟨(some 16), none, .build [.bool false, .int .i64 0] []⟩,
  ⟨(some 17), none, .mv (.t 7)⟩,
  ⟨none, none, .st 2 (.t 4) (.t 16)⟩,
  ⟨(some 5), none, .mv (.t 17)⟩]
@[reducible] def i11_R4 : List Iop := [⟨(some 18), none, .ld true 2 (.t 3)⟩,
  ⟨(some 19), none, .call 27 [(.t 18)]⟩,
  ⟨(some 8), none, .mv (.t 19)⟩]
@[reducible] def i11_R5 : List Iop := [⟨(some 20), none, .mv (.t 8)⟩,
  ⟨(some 21), none, .bin .neq (.t 20) (.c (.int .i64 0))⟩]
@[reducible] def i11_R6 : List Iop := [⟨(some 22), none, .build [.bool false, .int .i64 0] []⟩,
  ⟨(some 23), none, .mv (.t 8)⟩,
  ⟨none, none, .st 2 (.t 4) (.t 22)⟩,
  ⟨(some 5), none, .mv (.t 23)⟩]
@[reducible] def i11_R7 : List Iop := [⟨(some 24), none, .ld true 4 (.t 2)⟩,
  ⟨(some 25), none, .ld true 2 (.t 3)⟩,
  ⟨(some 26), none, .call 28 [(.t 24), (.t 25)]⟩,
  ⟨(some 27), none, .ext 0 (.t 26)⟩,
  ⟨(some 28), none, .ext 1 (.t 26)⟩,
  ⟨none, none, .st 2 (.t 4) (.t 27)⟩,
  ⟨(some 5), none, .mv (.t 28)⟩]
@[reducible] def i11_B : IC := (.seq (.reg none i11_R0) (.seq (.seq (.reg none i11_R1) (.seq (.reg none i11_R2) (.cond (.t 15) (.seq (.reg none i11_R3) .ret) .skip))) (.seq (.seq (.reg none i11_R4) (.seq (.reg none i11_R5) (.cond (.t 21) (.seq (.reg none i11_R6) .ret) .skip))) (.seq (.reg none i11_R7) .ret))))
@[reducible] def i11_V : List Nat := [0, 1, 2, 3, 4, 5, 7, 8, 15, 21]
def i11 : IFn := ⟨29, i11_V, [.cell 4 true 2, .tmp 5], i11_B⟩
theorem i11_ok : compF Go.Proofs.Try.prog i11_V Go.Proofs.Try.f11 = some i11 := by kernel_rfl
/-! funicular/funicularref10.Of -/
@[reducible] def i12_R0 : List Iop := [⟨(some 2), none, .box (.t 0)⟩,
  ⟨(some 3), none, .box (.t 1)⟩,
  ⟨(some 4), none, .alloc [.bool false, .int .i64 0]⟩,
  ⟨(some 5), none, .mv (.c (.int .i64 0))⟩]
@[reducible] def i12_R1 : List Iop := [⟨(some 10), none, .ld true 4 (.t 2)⟩,
  ⟨(some 11), none, .call 16 [(.t 10)]⟩,
  ⟨(some 9), none, .mv (.t 11)⟩,
  ⟨(some 12), none, .ext 0 (.t 9)⟩,
  ⟨(some 13), none, .ext 1 (.t 9)⟩,
  ⟨(some 6), none, .mv (.t 12)⟩,
  ⟨(some 7), none, .mv (.t 13)⟩]
@[reducible] def i12_R2 : List Iop := [⟨(some 14), none, .mv (.t 7)⟩,
  ⟨(some 15), none, .bin .neq (.t 14) (.c (.int .i64 0))⟩]
@[reducible] def i12_R3 : List Iop := [⟨(some 16), none, .build [.bool false, .int .i64 0] []⟩,
  ⟨(some 17), none, .mv (.t 7)⟩,
  ⟨none, none, .st 2 (.t 4) (.t 16)⟩,
  ⟨(some 5), none, .mv (.t 17)⟩]
@[reducible] def i12_R4 : List Iop := [⟨(some 18), none, .ld true 2 (.t 3)⟩,
  ⟨(some 19), none, .call 15 [(.t 18)]⟩,
  ⟨(some 8), none, .mv (.t 19)⟩]
@[reducible] def i12_R5 : List Iop := [⟨(some 20), none, .mv (.t 8)⟩,
  ⟨(some 21), none, .bin .neq (.t 20) (.c (.int .i64 0))⟩]
@[reducible] def i12_R6 : List Iop := [⟨(some 22), none, .build [.bool false, .int .i64 0] []⟩,
  ⟨(some 23), none, .mv (.t 8)⟩,
  ⟨none, none, .st 2 (.t 4) (.t 22)⟩,
  ⟨(some 5), none, .mv (.t 23)⟩]
@[reducible] def i12_R7 : List Iop := [⟨(some 24), none, .ld true 4 (.t 2)⟩,
  ⟨(some 25), none, .ld true 2 (.t 3)⟩,
  ⟨(some 26), none, .call 29 [(.t 24), (.t 25)]⟩,
  ⟨(some 27), none, .ext 0 (.t 26)⟩,
  ⟨(some 28), none, .ext 1 (.t 26)⟩,
  ⟨none, none, .st 2 (.t 4) (.t 27)⟩,
  ⟨(some 5), none, .mv (.t 28)⟩]
@[reducible] def i12_B : IC := (.seq (.reg none i12_R0) (.seq (.seq (.reg none i12_R1) (.seq (.reg none i12_R2) (.cond (.t 15) (.seq (.reg none i12_R3) .ret) .skip))) (.seq (.seq (.reg none i12_R4) (.seq (.reg none i12_R5) (.cond (.t 21) (.seq (.reg none i12_R6) .ret) .skip))) (.seq (.reg none i12_R7) .ret))))
@[reducible] def i12_V : List Nat := [0, 1, 2, 3, 4, 5, 7, 8, 15, 21]
def i12 : IFn := ⟨29, i12_V, [.cell 4 true 2, .tmp 5], i12_B⟩
theorem i12_ok : compF Go.Proofs.Try.prog i12_V Go.Proofs.Try.f12 = some i12 := by kernel_rfl
/-! funicular/eval.Number -/
@[reducible] def i13_R0 : List Iop := [⟨(some 2), none, .box (.t 0)⟩,
  ⟨(some 3), none, .box (.t 1)⟩,
  ⟨(some 4), none, .mv (.c (.int .i64 0))⟩,
  ⟨(some 5), none, .mv (.c (.int .i64 0))⟩]
@[reducible] def i13_R1 : List Iop := [⟨(some 9), none, .ld true 4 (.t 2)⟩,
  ⟨(some 10), none, .ld true 2 (.t 3)⟩,
  ⟨(some 11), none, .call 11 [(.t 9), (.t 10)]⟩,
  ⟨(some 8), none, .mv (.t 11)⟩,
  ⟨(some 12), none, .ext 0 (.t 8)⟩,
  ⟨(some 13), none, .ext 1 (.t 8)⟩,
  ⟨(some 6), none, .alloc [.bool false, .int .i64 0]⟩,
  ⟨none, none, .st 2 (.t 6) (.t 12)⟩,
  ⟨(some 7), none, .mv (.t 13)⟩]
@[reducible] def i13_R2 : List Iop := [⟨(some 14), none, .mv (.t 7)⟩,
  ⟨(some 15), none, .bin .eql (.t 14) (.c (.int .i64 0))⟩,
  ⟨(some 16), none, .mv (.t 15)⟩,
  ⟨(some 17), (some (16, true)), .fa 0 (.t 6)⟩,
  ⟨(some 18), (some (16, true)), .ld false 1 (.t 17)⟩,
  ⟨(some 19), none, .pick (.t 16) (.t 18) (.c (.bool false))⟩]
@[reducible] def i13_R3 : List Iop := [⟨(some 4), none, .mv (.c (.int .i64 0))⟩,
  ⟨(some 5), none, .mv (.c (.int .i64 7))⟩]
@[reducible] def i13_R4 : List Iop := [⟨(some 20), none, .fa 1 (.t 6)⟩,
  ⟨(some 21), none, .ld false 1 (.t 20)⟩,
  ⟨(some 22), none, .mv (.t 7)⟩,
  ⟨(some 4), none, .mv (.t 21)⟩,
  ⟨(some 5), none, .mv (.t 22)⟩]
@[reducible] def i13_B : IC := (.seq (.reg none i13_R0) (.seq (.reg none i13_R1) (.seq (.seq (.reg none i13_R2) (.cond (.t 19) (.seq (.reg none i13_R3) .ret) .skip)) (.seq (.reg none i13_R4) .ret))))
@[reducible] def i13_V : List Nat := [0, 1, 2, 3, 4, 5, 6, 7, 19]
def i13 : IFn := ⟨23, i13_V, [.tmp 4, .tmp 5], i13_B⟩
theorem i13_ok : compF Go.Proofs.Try.prog i13_V Go.Proofs.Try.f13 = some i13 := by kernel_rfl
/-! funicular/eval.Truth -/
@[reducible] def i14_R0 : List Iop := [⟨(some 2), none, .box (.t 0)⟩,
  ⟨(some 3), none, .box (.t 1)⟩,
  ⟨(some 4), none, .mv (.c (.bool false))⟩,
  ⟨(some 5), none, .mv (.c (.int .i64 0))⟩]
@[reducible] def i14_R1 : List Iop := [⟨(some 9), none, .ld true 4 (.t 2)⟩,
  ⟨(some 10), none, .ld true 2 (.t 3)⟩,
  ⟨(some 11), none, .call 11 [(.t 9), (.t 10)]⟩,
  ⟨(some 8), none, .mv (.t 11)⟩,
  ⟨(some 12), none, .ext 0 (.t 8)⟩,
  ⟨(some 13), none, .ext 1 (.t 8)⟩,
  ⟨(some 6), none, .alloc [.bool false, .int .i64 0]⟩,
  ⟨none, none, .st 2 (.t 6) (.t 12)⟩,
  ⟨(some 7), none, .mv (.t 13)⟩]
@[reducible] def i14_R2 : List Iop := [⟨(some 14), none, .mv (.t 7)⟩,
  ⟨(some 15), none, .bin .eql (.t 14) (.c (.int .i64 0))⟩,
  ⟨(some 16), none, .mv (.t 15)⟩,
  ⟨(some 17), (some (16, true)), .fa 0 (.t 6)⟩,
  ⟨(some 18), (some (16, true)), .ld false 1 (.t 17)⟩,
  ⟨(some 19), (some (16, true)), .nt (.t 18)⟩,
  ⟨(some 20), none, .pick (.t 16) (.t 19) (.c (.bool false))⟩]
@[reducible] def i14_R3 : List Iop := [⟨(some 4), none, .mv (.c (.bool false))⟩,
  ⟨(some 5), none, .mv (.c (.int .i64 7))⟩]
@[reducible] def i14_R4 : List Iop := [⟨(some 21), none, .fa 1 (.t 6)⟩,
  ⟨(some 22), none, .ld false 1 (.t 21)⟩,
  ⟨(some 23), none, .bin .eql (.t 22) (.c (.int .i64 1))⟩,
  ⟨(some 24), none, .mv (.t 7)⟩,
  ⟨(some 4), none, .mv (.t 23)⟩,
  ⟨(some 5), none, .mv (.t 24)⟩]
@[reducible] def i14_B : IC := (.seq (.reg none i14_R0) (.seq (.reg none i14_R1) (.seq (.seq (.reg none i14_R2) (.cond (.t 20) (.seq (.reg none i14_R3) .ret) .skip)) (.seq (.reg none i14_R4) .ret))))
@[reducible] def i14_V : List Nat := [0, 1, 2, 3, 4, 5, 6, 7, 20]
def i14 : IFn := ⟨25, i14_V, [.tmp 4, .tmp 5], i14_B⟩
theorem i14_ok : compF Go.Proofs.Try.prog i14_V Go.Proofs.Try.f14 = some i14 := by kernel_rfl
/-! funicular/funicularref09.Check -/
@[reducible] def i15_R0 : List Iop := [⟨(some 1), none, .box (.t 0)⟩,
  ⟨(some 2), none, .mv (.c (.int .i64 0))⟩]
@[reducible] def i15_R1 : List Iop := [⟨(some 5), none, .fa 0 (.t 1)⟩,
  ⟨(some 6), none, .ld false 1 (.t 5)⟩,
  ⟨(some 7), none, .lenl (.t 6)⟩,
  ⟨(some 8), none, .fa 1 (.t 1)⟩,
  ⟨(some 9), none, .ld false 1 (.t 8)⟩,
  ⟨(some 10), none, .lenl (.t 9)⟩,
  ⟨(some 11), none, .bin .neq (.t 7) (.t 10)⟩]
@[reducible] def i15_R2 : List Iop := [⟨(some 2), none, .mv (.c (.int .i64 1))⟩]
@[reducible] def i15_R3 : List Iop := [⟨(some 12), none, .fa 0 (.t 1)⟩,
  ⟨(some 13), none, .ld false 1 (.t 12)⟩,
  ⟨(some 14), none, .lenl (.t 13)⟩,
  ⟨(some 15), none, .bin .gtr (.t 14) (.c (.int .i64 64))⟩]
@[reducible] def i15_R4 : List Iop := [⟨(some 2), none, .mv (.c (.int .i64 6))⟩]
@[reducible] def i15_R5 : List Iop := [⟨(some 3), none, .mv (.c (.int .i64 0))⟩]
@[reducible] def i15_R6 : List Iop := [⟨(some 16), none, .mv (.t 3)⟩,
  ⟨(some 17), none, .fa 0 (.t 1)⟩,
  ⟨(some 18), none, .ld false 1 (.t 17)⟩,
  ⟨(some 19), none, .lenl (.t 18)⟩,
  ⟨(some 20), none, .bin .lss (.t 16) (.t 19)⟩]
@[reducible] def i15_R7 : List Iop := [⟨(some 23), none, .fa 0 (.t 1)⟩,
  ⟨(some 24), none, .ld false 1 (.t 23)⟩,
  ⟨(some 25), none, .mv (.t 3)⟩,
  ⟨(some 26), none, .ias 1 (.t 24) (.t 25)⟩,
  ⟨(some 27), none, .ld false 1 (.t 26)⟩,
  ⟨(some 4), none, .mv (.t 27)⟩]
@[reducible] def i15_R8 : List Iop := [⟨(some 28), none, .mv (.t 4)⟩,
  ⟨(some 29), none, .call 30 [(.t 28)]⟩,
  ⟨(some 30), none, .nt (.t 29)⟩,
  ⟨(some 31), none, .mv (.t 30)⟩,
  ⟨(some 32), (some (31, false)), .mv (.t 4)⟩,
  ⟨(some 33), (some (31, false)), .bin .eql (.t 32) (.c (.str ⟨#[121, 101, 115]⟩))⟩,
  ⟨(some 34), none, .pick (.t 31) (.c (.bool true)) (.t 33)⟩,
  ⟨(some 35), none, .mv (.t 34)⟩,
  ⟨(some 36), (some (35, false)), .mv (.t 4)⟩,
  ⟨(some 37), (some (35, false)), .bin .eql (.t 36) (.c (.str ⟨#[110, 111]⟩))⟩,
  ⟨(some 38), none, .pick (.t 35) (.c (.bool true)) (.t 37)⟩,
  ⟨(some 39), none, .mv (.t 38)⟩,
  ⟨(some 40), (some (39, false)), .mv (.t 3)⟩,
  ⟨(some 41), (some (39, false)), .bin .gtr (.t 40) (.c (.int .i64 0))⟩,
  ⟨(some 42), (some (39, false)), .mv (.t 41)⟩,
  ⟨(some 43), (some (42, true)), .fa 0 (.t 1)⟩,
  ⟨(some 44), (some (42, true)), .ld false 1 (.t 43)⟩,
  ⟨(some 45), (some (42, true)), .mv (.t 3)⟩,
  ⟨(some 46), (some (42, true)), .bin .sub (.t 45) (.c (.int .i64 1))⟩,
  ⟨(some 47), (some (42, true)), .ias 1 (.t 44) (.t 46)⟩,
  ⟨(some 48), (some (42, true)), .ld false 1 (.t 47)⟩,
  ⟨(some 49), (some (42, true)), .mv (.t 4)⟩,
  ⟨(some 50), (some (42, true)), .bin .lss (.t 48) (.t 49)⟩,
  ⟨(some 51), (some (42, true)), .nt (.t 50)⟩,
  ⟨(some 52), (some (39, false)), .pick (.t 42) (.t 51) (.c (.bool false))⟩,
  ⟨(some 53), none, .pick (.t 39) (.c (.bool true)) (.t 52)⟩]
@[reducible] def i15_R9 : List Iop := [⟨(some 2), none, .mv (.c (.int .i64 1))⟩]
@[reducible] def i15_R10 : List Iop := [⟨(some 21), none, .mv (.t 3)⟩,
  ⟨(some 22), none, .bin .add (.t 21) (.c (.int .i64 1))⟩,
  ⟨(some 3), none, .mv (.t 22)⟩]
@[reducible] def i15_L0 : IC := (.seq (.seq (.reg none i15_R6) (.cond (.t 20) .skip (.out 0))) (.seq (.block 1 (.seq (.reg none i15_R7) (.seq (.reg none i15_R8) (.cond (.t 53) (.seq (.reg none i15_R9) .ret) .skip)))) (.reg none i15_R10)))
@[reducible] def i15_R11 : List Iop := [⟨(some 2), none, .mv (.c (.int .i64 0))⟩]
@[reducible] def i15_B : IC := (.seq (.reg none i15_R0) (.seq (.seq (.reg none i15_R1) (.cond (.t 11) (.seq (.reg none i15_R2) .ret) .skip)) (.seq (.seq (.reg none i15_R3) (.cond (.t 15) (.seq (.reg none i15_R4) .ret) .skip)) (.seq (.seq (.reg none i15_R5) (.block 0 (.loop i15_L0))) (.seq (.reg none i15_R11) .ret)))))
@[reducible] def i15_V : List Nat := [0, 1, 2, 3, 4, 11, 15, 20, 53]
def i15 : IFn := ⟨54, i15_V, [.tmp 2], i15_B⟩
theorem i15_ok : compF Go.Proofs.Try.prog i15_V Go.Proofs.Try.f15 = some i15 := by kernel_rfl
/-! funicular/funicularref08.Truth -/
@[reducible] def i16_R0 : List Iop := [⟨(some 1), none, .box (.t 0)⟩,
  ⟨(some 2), none, .mv (.c (.bool false))⟩,
  ⟨(some 3), none, .mv (.c (.int .i64 0))⟩]
@[reducible] def i16_R1 : List Iop := [⟨(some 5), none, .ld true 4 (.t 1)⟩,
  ⟨(some 6), none, .call 31 [(.t 5)]⟩,
  ⟨(some 4), none, .mv (.t 6)⟩]
@[reducible] def i16_R2 : List Iop := [⟨(some 7), none, .mv (.t 4)⟩,
  ⟨(some 8), none, .bin .neq (.t 7) (.c (.int .i64 0))⟩]
@[reducible] def i16_R3 : List Iop := [⟨(some 9), none, .mv (.t 4)⟩,
  ⟨(some 2), none, .mv (.c (.bool false))⟩,
  ⟨(some 3), none, .mv (.t 9)⟩]
@[reducible] def i16_R4 : List Iop := [⟨(some 10), none, .ld true 4 (.t 1)⟩,
  ⟨(some 11), none, .call 32 [(.t 10)]⟩,
  ⟨(some 12), none, .nt (.t 11)⟩]
@[reducible] def i16_R5 : List Iop := [⟨(some 2), none, .mv (.c (.bool false))⟩,
  ⟨(some 3), none, .mv (.c (.int .i64 7))⟩]
@[reducible] def i16_R6 : List Iop := [⟨(some 13), none, .fa 0 (.t 1)⟩,
  ⟨(some 14), none, .ld false 1 (.t 13)⟩,
  ⟨(some 15), none, .call 33 [(.t 14)]⟩,
  ⟨(some 2), none, .mv (.t 15)⟩,
  ⟨(some 3), none, .mv (.c (.int .i64 0))⟩]
@[reducible] def i16_B : IC := (.seq (.reg none i16_R0) (.seq (.seq (.reg none i16_R1) (.seq (.reg none i16_R2) (.cond (.t 8) (.seq (.reg none i16_R3) .ret) .skip))) (.seq (.seq (.reg none i16_R4) (.cond (.t 12) (.seq (.reg none i16_R5) .ret) .skip)) (.seq (.reg none i16_R6) .ret))))
@[reducible] def i16_V : List Nat := [0, 1, 2, 3, 4, 8, 12]
def i16 : IFn := ⟨16, i16_V, [.tmp 2, .tmp 3], i16_B⟩
theorem i16_ok : compF Go.Proofs.Try.prog i16_V Go.Proofs.Try.f16 = some i16 := by kernel_rfl
/-! funicular/funicularref08.Fold -/
@[reducible] def i17_R0 : List Iop := [⟨(some 1), none, .box (.t 0)⟩,
  ⟨(some 2), none, .alloc [.int .i64 0, .int .i64 0, .str ⟨#[]⟩, .nil]⟩,
  ⟨(some 3), none, .mv (.c (.int .i64 0))⟩]
@[reducible] def i17_R1 : List Iop := [⟨(some 7), none, .ld true 4 (.t 1)⟩,
  ⟨(some 8), none, .call 16 [(.t 7)]⟩,
  ⟨(some 6), none, .mv (.t 8)⟩,
  ⟨(some 9), none, .ext 0 (.t 6)⟩,
  ⟨(some 10), none, .ext 1 (.t 6)⟩,
  ⟨(some 4), none, .mv (.t 9)⟩,
  ⟨(some 5), none, .mv (.t 10)⟩]
@[reducible] def i17_R2 : List Iop := [⟨(some 11), none, .mv (.t 5)⟩,
  ⟨(some 12), none, .bin .neq (.t 11) (.c (.int .i64 0))⟩]
@[reducible] def i17_R3 : List Iop := [⟨(some 13), none, .build [.int .i64 0, .int .i64 0, .str ⟨#[]⟩, .nil] []⟩,
  ⟨(some 14), none, .mv (.t 5)⟩,
  ⟨none, none, .st 4 (.t 2) (.t 13)⟩,
  ⟨(some 3), none, .mv (.t 14)⟩]
@[reducible] def i17_R4 : List Iop := [⟨(some 15), none, .ld true 4 (.t 1)⟩,
  ⟨(some 16), none, .call 34 [(.t 15)]⟩,
  ⟨none, none, .st 4 (.t 2) (.t 16)⟩,
  ⟨(some 3), none, .mv (.c (.int .i64 0))⟩]
@[reducible] def i17_B : IC := (.seq (.reg none i17_R0) (.seq (.seq (.reg none i17_R1) (.seq (.reg none i17_R2) (.cond (.t 12) (.seq (.reg none i17_R3) .ret) .skip))) (.seq (.reg none i17_R4) .ret)))
@[reducible] def i17_V : List Nat := [0, 1, 2, 3, 5, 12]
def i17 : IFn := ⟨17, i17_V, [.cell 2 true 4, .tmp 3], i17_B⟩
theorem i17_ok : compF Go.Proofs.Try.prog i17_V Go.Proofs.Try.f17 = some i17 := by kernel_rfl
/-! funicular/funicularref08.Asks -/
@[reducible] def i18_R0 : List Iop := [⟨(some 2), none, .box (.t 0)⟩,
  ⟨(some 4), none, .mv (.c (.bool false))⟩]
@[reducible] def i18_R1 : List Iop := [⟨(some 5), none, .ld true 4 (.t 2)⟩,
  ⟨(some 6), none, .mv (.t 1)⟩,
  ⟨(some 7), none, .call 35 [(.t 5), (.t 6)]⟩,
  ⟨(some 4), none, .mv (.t 7)⟩]
@[reducible] def i18_B : IC := (.seq (.reg none i18_R0) (.seq (.reg none i18_R1) .ret))
@[reducible] def i18_V : List Nat := [0, 1, 2, 4]
def i18 : IFn := ⟨8, i18_V, [.tmp 4], i18_B⟩
theorem i18_ok : compF Go.Proofs.Try.prog i18_V Go.Proofs.Try.f18 = some i18 := by kernel_rfl
/-! funicular/funicularref09.Of -/
@[reducible] def i19_R0 : List Iop := [⟨(some 2), none, .alloc [.nil, .nil]⟩,
  ⟨(some 3), none, .mv (.c (.int .i64 0))⟩]
@[reducible] def i19_R1 : List Iop := [⟨(some 8), none, .build [.nil, .nil] []⟩,
  ⟨(some 4), none, .alloc [.nil, .nil]⟩,
  ⟨none, none, .st 2 (.t 4) (.t 8)⟩]
@[reducible] def i19_R2 : List Iop := [⟨(some 5), none, .mv (.c (.int .i64 0))⟩]
@[reducible] def i19_R3 : List Iop := [⟨(some 9), none, .mv (.t 5)⟩,
  ⟨(some 10), none, .mv (.t 0)⟩,
  ⟨(some 11), none, .lenl (.t 10)⟩,
  ⟨(some 12), none, .bin .lss (.t 9) (.t 11)⟩]
@[reducible] def i19_R4 : List Iop := [⟨(some 15), none, .mv (.t 0)⟩,
  ⟨(some 16), none, .mv (.t 5)⟩,
  ⟨(some 17), none, .ias 2 (.t 15) (.t 16)⟩,
  ⟨(some 18), none, .ld true 2 (.t 17)⟩,
  ⟨(some 19), none, .call 15 [(.t 18)]⟩,
  ⟨(some 6), none, .mv (.t 19)⟩]
@[reducible] def i19_R5 : List Iop := [⟨(some 20), none, .mv (.t 6)⟩,
  ⟨(some 21), none, .bin .neq (.t 20) (.c (.int .i64 0))⟩]
@[reducible] def i19_R6 : List Iop := [⟨(some 22), none, .build [.nil, .nil] []⟩,
  ⟨(some 23), none, .mv (.t 6)⟩,
  ⟨none, none, .st 2 (.t 2) (.t 22)⟩,
  ⟨(some 3), none, .mv (.t 23)⟩]
@[reducible] def i19_R7 : List Iop := [⟨(some 7), none, .mv (.c (.int .i64 0))⟩]
@[reducible] def i19_R8 : List Iop := [⟨(some 24), none, .mv (.t 7)⟩,
  ⟨(some 25), none, .mv (.t 0)⟩,
  ⟨(some 26), none, .mv (.t 5)⟩,
  ⟨(some 27), none, .ias 2 (.t 25) (.t 26)⟩,
  ⟨(some 28), none, .fa 0 (.t 27)⟩,
  ⟨(some 29), none, .ld false 1 (.t 28)⟩,
  ⟨(some 30), none, .lenl (.t 29)⟩,
  ⟨(some 31), none, .bin .lss (.t 24) (.t 30)⟩]
@[reducible] def i19_R9 : List Iop := [⟨(some 34), none, .ld true 2 (.t 4)⟩,
  ⟨(some 35), none, .mv (.t 0)⟩,
  ⟨(some 36), none, .mv (.t 5)⟩,
  ⟨(some 37), none, .ias 2 (.t 35) (.t 36)⟩,
  ⟨(some 38), none, .fa 0 (.t 37)⟩,
  ⟨(some 39), none, .ld false 1 (.t 38)⟩,
  ⟨(some 40), none, .mv (.t 7)⟩,
  ⟨(some 41), none, .ias 1 (.t 39) (.t 40)⟩,
  ⟨(some 42), none, .ld false 1 (.t 41)⟩,
  ⟨(some 43), none, .mv (.t 0)⟩,
  ⟨(some 44), none, .mv (.t 5)⟩,
  ⟨(some 45), none, .ias 2 (.t 43) (.t 44)⟩,
  ⟨(some 46), none, .fa 1 (.t 45)⟩,
  ⟨(some 47), none, .ld false 1 (.t 46)⟩,
  ⟨(some 48), none, .mv (.t 7)⟩,
  ⟨(some 49), none, .ias 1 (.t 47) (.t 48)⟩,
  ⟨(some 50), none, .ld false 1 (.t 49)⟩,
  ⟨(some 51), none, .call 36 [(.t 34), (.t 42), (.t 50)]⟩,
  ⟨none, none, .st 2 (.t 4) (.t 51)⟩]
@[reducible] def i19_R10 : List Iop := [⟨(some 32), none, .mv (.t 7)⟩,
  ⟨(some 33), none, .bin .add (.t 32) (.c (.int .i64 1))⟩,
  ⟨(some 7), none, .mv (.t 33)⟩]
@[reducible] def i19_L0 : IC := (.seq (.seq (.reg none i19_R8) (.cond (.t 31) .skip (.out 2))) (.seq (.block 3 (.reg (some []) i19_R9)) (.reg none i19_R10)))
@[reducible] def i19_R11 : List Iop := [⟨(some 13), none, .mv (.t 5)⟩,
  ⟨(some 14), none, .bin .add (.t 13) (.c (.int .i64 1))⟩,
  ⟨(some 5), none, .mv (.t 14)⟩]
@[reducible] def i19_L1 : IC := (.seq (.seq (.reg none i19_R3) (.cond (.t 12) .skip (.out 0))) (.seq (.block 1 (.seq (.seq (.reg none i19_R4) (.seq (.reg none i19_R5) (.cond (.t 21) (.seq (.reg none i19_R6) .ret) .skip))) (.seq (.reg none i19_R7) (.block 2 (.loop i19_L0))))) (.reg none i19_R11)))
@[reducible] def i19_R12 : List Iop := [⟨(some 52), none, .fa 0 (.t 4)⟩,
  ⟨(some 53), none, .ld false 1 (.t 52)⟩,
  ⟨(some 54), none, .lenl (.t 53)⟩,
  ⟨(some 55), none, .bin .gtr (.t 54) (.c (.int .i64 64))⟩]
@[reducible] def i19_R13 : List Iop := [⟨(some 56), none, .build [.nil, .nil] []⟩,
  ⟨none, none, .st 2 (.t 2) (.t 56)⟩,
  ⟨(some 3), none, .mv (.c (.int .i64 6))⟩]
@[reducible] def i19_R14 : List Iop := [⟨(some 57), none, .ld true 2 (.t 4)⟩,
  ⟨none, none, .st 2 (.t 2) (.t 57)⟩,
  ⟨(some 3), none, .mv (.c (.int .i64 0))⟩]
@[reducible] def i19_B : IC := (.seq (.reg none i19_R0) (.seq (.reg none i19_R1) (.seq (.seq (.reg none i19_R2) (.block 0 (.loop i19_L1))) (.seq (.seq (.reg none i19_R12) (.cond (.t 55) (.seq (.reg none i19_R13) .ret) .skip)) (.seq (.reg none i19_R14) .ret)))))
@[reducible] def i19_V : List Nat := [0, 2, 3, 4, 5, 6, 7, 12, 21, 31, 55]
def i19 : IFn := ⟨58, i19_V, [.cell 2 true 2, .tmp 3], i19_B⟩
theorem i19_ok : compF Go.Proofs.Try.prog i19_V Go.Proofs.Try.f19 = some i19 := by kernel_rfl
/-! funicular/funicularref09.One -/
@[reducible] def i20_R0 : List Iop := [⟨(some 4), none, .alloc [.nil, .nil]⟩]
@[reducible] def i20_R1 : List Iop := [⟨(some 5), none, .mv (.t 0)⟩,
  ⟨(some 6), none, .bsl 1 [.str ⟨#[]⟩] 1 [(0, (.t 5))]⟩,
  ⟨(some 7), none, .mv (.t 1)⟩,
  ⟨(some 8), none, .bsl 1 [.int .i64 0] 1 [(0, (.t 7))]⟩,
  ⟨(some 9), none, .build [.nil, .nil] [(0, 1, (.t 6)), (1, 1, (.t 8))]⟩,
  ⟨none, none, .st 2 (.t 4) (.t 9)⟩]
@[reducible] def i20_B : IC := (.seq (.reg none i20_R0) (.seq (.reg none i20_R1) .ret))
@[reducible] def i20_V : List Nat := [0, 1, 4]
def i20 : IFn := ⟨10, i20_V, [.cell 4 true 2], i20_B⟩
theorem i20_ok : compF Go.Proofs.Try.prog i20_V Go.Proofs.Try.f20 = some i20 := by kernel_rfl
/-! funicular/funicularref08.Names -/
@[reducible] def i21_R0 : List Iop := [⟨(some 1), none, .box (.t 0)⟩,
  ⟨(some 2), none, .mv (.c (.nil))⟩]
@[reducible] def i21_R1 : List Iop := [⟨(some 8), none, .ld true 4 (.t 1)⟩,
  ⟨(some 9), none, .call 31 [(.t 8)]⟩,
  ⟨(some 10), none, .bin .neq (.t 9) (.c (.int .i64 0))⟩]
@[reducible] def i21_R2 : List Iop := [⟨(some 2), none, .mv (.c (.nil))⟩]
@[reducible] def i21_R3 : List Iop := [⟨(some 11), none, .ld true 4 (.t 1)⟩,
  ⟨(some 12), none, .call 37 [(.t 11)]⟩,
  ⟨(some 3), none, .mv (.t 12)⟩]
@[reducible] def i21_R4 : List Iop := [⟨(some 4), none, .mv (.c (.nil))⟩]
@[reducible] def i21_R5 : List Iop := [⟨(some 5), none, .mv (.c (.str ⟨#[]⟩))⟩]
@[reducible] def i21_R6 : List Iop := [⟨(some 6), none, .mv (.c (.str ⟨#[]⟩))⟩]
@[reducible] def i21_R7 : List Iop := [⟨(some 7), none, .mv (.c (.int .i64 0))⟩]
@[reducible] def i21_R8 : List Iop := [⟨(some 13), none, .mv (.t 7)⟩,
  ⟨(some 14), none, .mv (.t 3)⟩,
  ⟨(some 15), none, .lenl (.t 14)⟩,
  ⟨(some 16), none, .bin .lss (.t 13) (.t 15)⟩]
@[reducible] def i21_R9 : List Iop := [⟨(some 19), none, .mv (.t 3)⟩,
  ⟨(some 20), none, .mv (.t 7)⟩,
  ⟨(some 21), none, .ias 1 (.t 19) (.t 20)⟩,
  ⟨(some 22), none, .ld false 1 (.t 21)⟩,
  ⟨(some 23), none, .mv (.t 5)⟩,
  ⟨(some 24), none, .bin .gtr (.t 22) (.t 23)⟩,
  ⟨(some 25), none, .mv (.t 24)⟩,
  ⟨(some 26), (some (25, true)), .mv (.t 6)⟩,
  ⟨(some 27), (some (25, true)), .bin .eql (.t 26) (.c (.str ⟨#[]⟩))⟩,
  ⟨(some 28), (some (25, true)), .mv (.t 27)⟩,
  ⟨(some 29), (some (28, false)), .mv (.t 3)⟩,
  ⟨(some 30), (some (28, false)), .mv (.t 7)⟩,
  ⟨(some 31), (some (28, false)), .ias 1 (.t 29) (.t 30)⟩,
  ⟨(some 32), (some (28, false)), .ld false 1 (.t 31)⟩,
  ⟨(some 33), (some (28, false)), .mv (.t 6)⟩,
  ⟨(some 34), (some (28, false)), .bin .lss (.t 32) (.t 33)⟩,
  ⟨(some 35), (some (25, true)), .pick (.t 28) (.c (.bool true)) (.t 34)⟩,
  ⟨(some 36), none, .pick (.t 25) (.t 35) (.c (.bool false))⟩]
@[reducible] def i21_R10 : List Iop := [⟨(some 37), none, .mv (.t 3)⟩,
  ⟨(some 38), none, .mv (.t 7)⟩,
  ⟨(some 39), none, .ias 1 (.t 37) (.t 38)⟩,
  ⟨(some 40), none, .ld false 1 (.t 39)⟩,
  ⟨(some 6), none, .mv (.t 40)⟩]
@[reducible] def i21_R11 : List Iop := [⟨(some 17), none, .mv (.t 7)⟩,
  ⟨(some 18), none, .bin .add (.t 17) (.c (.int .i64 1))⟩,
  ⟨(some 7), none, .mv (.t 18)⟩]
@[reducible] def i21_L0 : IC := (.seq (.seq (.reg none i21_R8) (.cond (.t 16) .skip (.out 2))) (.seq (.block 3 (.seq (.reg none i21_R9) (.cond (.t 36) (.reg none i21_R10) .skip))) (.reg none i21_R11)))
@[reducible] def i21_R12 : List Iop := [⟨(some 41), none, .mv (.t 6)⟩,
  ⟨(some 42), none, .bin .eql (.t 41) (.c (.str ⟨#[]⟩))⟩]
@[reducible] def i21_R13 : List Iop := [⟨(some 43), none, .mv (.t 4)⟩,
  ⟨(some 44), none, .mv (.t 6)⟩,
  ⟨(some 45), none, .bsl 1 [.str ⟨#[]⟩] 1 [(0, (.t 44))]⟩,
  ⟨(some 46), none, .app 1 (.t 43) (.t 45)⟩,
  ⟨(some 4), none, .mv (.t 46)⟩]
@[reducible] def i21_R14 : List Iop := [⟨(some 47), none, .mv (.t 6)⟩,
  ⟨(some 5), none, .mv (.t 47)⟩]
@[reducible] def i21_L1 : IC := (.block 1 (.seq (.reg none i21_R6) (.seq (.seq (.reg none i21_R7) (.block 2 (.loop i21_L0))) (.seq (.seq (.reg none i21_R12) (.cond (.t 42) (.out 0) .skip)) (.seq (.reg none i21_R13) (.reg none i21_R14))))))
@[reducible] def i21_R15 : List Iop := [⟨(some 48), none, .mv (.t 4)⟩,
  ⟨(some 2), none, .mv (.t 48)⟩]
@[reducible] def i21_B : IC := (.seq (.reg none i21_R0) (.seq (.seq (.reg none i21_R1) (.cond (.t 10) (.seq (.reg none i21_R2) .ret) .skip)) (.seq (.reg none i21_R3) (.seq (.reg none i21_R4) (.seq (.reg none i21_R5) (.seq (.block 0 (.loop i21_L1)) (.seq (.reg none i21_R15) .ret)))))))
@[reducible] def i21_V : List Nat := [0, 1, 2, 3, 4, 5, 6, 7, 10, 16, 36, 42]
def i21 : IFn := ⟨49, i21_V, [.tmp 2], i21_B⟩
theorem i21_ok : compF Go.Proofs.Try.prog i21_V Go.Proofs.Try.f21 = some i21 := by kernel_rfl
/-! funicular/funicularref09.Get -/
@[reducible] def i22_R0 : List Iop := [⟨(some 2), none, .box (.t 0)⟩,
  ⟨(some 4), none, .mv (.c (.int .i64 0))⟩,
  ⟨(some 5), none, .mv (.c (.bool false))⟩]
@[reducible] def i22_R1 : List Iop := [⟨(some 6), none, .mv (.c (.int .i64 0))⟩]
@[reducible] def i22_R2 : List Iop := [⟨(some 7), none, .mv (.t 6)⟩,
  ⟨(some 8), none, .fa 0 (.t 2)⟩,
  ⟨(some 9), none, .ld false 1 (.t 8)⟩,
  ⟨(some 10), none, .lenl (.t 9)⟩,
  ⟨(some 11), none, .bin .lss (.t 7) (.t 10)⟩]
@[reducible] def i22_R3 : List Iop := [⟨(some 14), none, .fa 0 (.t 2)⟩,
  ⟨(some 15), none, .ld false 1 (.t 14)⟩,
  ⟨(some 16), none, .mv (.t 6)⟩,
  ⟨(some 17), none, .ias 1 (.t 15) (.t 16)⟩,
  ⟨(some 18), none, .ld false 1 (.t 17)⟩,
  ⟨(some 19), none, .mv (.t 1)⟩,
  ⟨(some 20), none, .bin .eql (.t 18) (.t 19)⟩]
@[reducible] def i22_R4 : List Iop := [⟨(some 21), none, .fa 1 (.t 2)⟩,
  ⟨(some 22), none, .ld false 1 (.t 21)⟩,
  ⟨(some 23), none, .mv (.t 6)⟩,
  ⟨(some 24), none, .ias 1 (.t 22) (.t 23)⟩,
  ⟨(some 25), none, .ld false 1 (.t 24)⟩,
  ⟨(some 4), none, .mv (.t 25)⟩,
  ⟨(some 5), none, .mv (.c (.bool true))⟩]
@[reducible] def i22_R5 : List Iop := [⟨(some 12), none, .mv (.t 6)⟩,
  ⟨(some 13), none, .bin .add (.t 12) (.c (.int .i64 1))⟩,
  ⟨(some 6), none, .mv (.t 13)⟩]
@[reducible] def i22_L0 : IC := (.seq (.seq (.reg none i22_R2) (.cond (.t 11) .skip (.out 0))) (.seq (.block 1 (.seq (.reg none i22_R3) (.cond (.t 20) (.seq (.reg none i22_R4) .ret) .skip))) (.reg none i22_R5)))
@[reducible] def i22_R6 : List Iop := [⟨(some 4), none, .mv (.c (.int .i64 0))⟩,
  ⟨(some 5), none, .mv (.c (.bool false))⟩]
@[reducible] def i22_B : IC := (.seq (.reg none i22_R0) (.seq (.seq (.reg none i22_R1) (.block 0 (.loop i22_L0))) (.seq (.reg none i22_R6) .ret)))
@[reducible] def i22_V : List Nat := [0, 1, 2, 4, 5, 6, 11, 20]
def i22 : IFn := ⟨26, i22_V, [.tmp 4, .tmp 5], i22_B⟩
theorem i22_ok : compF Go.Proofs.Try.prog i22_V Go.Proofs.Try.f22 = some i22 := by kernel_rfl
/-! funicular/funicularref08.Rename -/
@[reducible] def i23_R0 : List Iop := [⟨(some 3), none, .box (.t 0)⟩,
  ⟨(some 6), none, .alloc [.int .i64 0, .int .i64 0, .str ⟨#[]⟩, .nil]⟩,
  ⟨(some 7), none, .mv (.c (.int .i64 0))⟩]
@[reducible] def i23_R1 : List Iop := [⟨(some 10), none, .ld true 4 (.t 3)⟩,
  ⟨(some 11), none, .call 31 [(.t 10)]⟩,
  ⟨(some 8), none, .mv (.t 11)⟩]
@[reducible] def i23_R2 : List Iop := [⟨(some 12), none, .mv (.t 8)⟩,
  ⟨(some 13), none, .bin .neq (.t 12) (.c (.int .i64 0))⟩]
@[reducible] def i23_R3 : List Iop := [⟨(some 14), none, .build [.int .i64 0, .int .i64 0, .str ⟨#[]⟩, .nil] []⟩,
  ⟨(some 15), none, .mv (.t 8)⟩,
  ⟨none, none, .st 4 (.t 6) (.t 14)⟩,
  ⟨(some 7), none, .mv (.t 15)⟩]
@[reducible] def i23_R4 : List Iop := [⟨(some 16), none, .mv (.t 2)⟩,
  ⟨(some 17), none, .build [.int .i64 0, .int .i64 0, .str ⟨#[]⟩, .nil] [(0, 1, (.c (.int .i64 2))), (2, 1, (.t 16))]⟩,
  ⟨(some 18), none, .call 31 [(.t 17)]⟩,
  ⟨(some 9), none, .mv (.t 18)⟩]
@[reducible] def i23_R5 : List Iop := [⟨(some 19), none, .mv (.t 9)⟩,
  ⟨(some 20), none, .bin .neq (.t 19) (.c (.int .i64 0))⟩]
@[reducible] def i23_R6 : List Iop := [⟨(some 21), none, .build [.int .i64 0, .int .i64 0, .str ⟨#[]⟩, .nil] []⟩,
  ⟨(some 22), none, .mv (.t 9)⟩,
  ⟨none, none, .st 4 (.t 6) (.t 21)⟩,
  ⟨(some 7), none, .mv (.t 22)⟩]
@[reducible] def i23_R7 : List Iop := [⟨(some 23), none, .ld true 4 (.t 3)⟩,
  ⟨(some 24), none, .mv (.t 1)⟩,
  ⟨(some 25), none, .mv (.t 2)⟩,
  ⟨(some 26), none, .call 38 [(.t 23), (.t 24), (.t 25)]⟩,
  ⟨none, none, .st 4 (.t 6) (.t 26)⟩,
  ⟨(some 7), none, .mv (.c (.int .i64 0))⟩]
@[reducible] def i23_B : IC := (.seq (.reg none i23_R0) (.seq (.seq (.reg none i23_R1) (.seq (.reg none i23_R2) (.cond (.t 13) (.seq (.reg none i23_R3) .ret) .skip))) (.seq (.seq (.reg none i23_R4) (.seq (.reg none i23_R5) (.cond (.t 20) (.seq (.reg none i23_R6) .ret) .skip))) (.seq (.reg none i23_R7) .ret))))
@[reducible] def i23_V : List Nat := [0, 1, 2, 3, 6, 7, 8, 9, 13, 20]
def i23 : IFn := ⟨27, i23_V, [.cell 6 true 4, .tmp 7], i23_B⟩
theorem i23_ok : compF Go.Proofs.Try.prog i23_V Go.Proofs.Try.f23 = some i23 := by kernel_rfl
/-! funicular/funicularref07.Weight -/
@[reducible] def i24_R0 : List Iop := [⟨(some 2), none, .box (.t 0)⟩,
  ⟨(some 4), none, .mv (.c (.int .i64 0))⟩]
@[reducible] def i24_R1 : List Iop := [⟨(some 5), none, .ld true 4 (.t 2)⟩,
  ⟨(some 6), none, .mv (.t 1)⟩,
  ⟨(some 7), none, .call 39 [(.t 5), (.t 6), (.c (.int .i64 30))]⟩,
  ⟨(some 4), none, .mv (.t 7)⟩]
@[reducible] def i24_B : IC := (.seq (.reg none i24_R0) (.seq (.reg none i24_R1) .ret))
@[reducible] def i24_V : List Nat := [0, 1, 2, 4]
def i24 : IFn := ⟨8, i24_V, [.tmp 4], i24_B⟩
theorem i24_ok : compF Go.Proofs.Try.prog i24_V Go.Proofs.Try.f24 = some i24 := by kernel_rfl
/-! funicular/funicularref07.Parse -/
@[reducible] def i25_R0 : List Iop := [⟨(some 2), none, .alloc [.int .i64 0, .int .i64 0, .str ⟨#[]⟩, .nil]⟩,
  ⟨(some 3), none, .alloc [.int .i64 0, .int .i64 0]⟩]
@[reducible] def i25_R1 : List Iop := [⟨(some 10), none, .mv (.t 0)⟩,
  ⟨(some 11), none, .call 40 [(.t 10)]⟩,
  ⟨(some 9), none, .mv (.t 11)⟩,
  ⟨(some 12), none, .ext 0 (.t 9)⟩,
  ⟨(some 13), none, .ext 1 (.t 9)⟩,
  ⟨(some 5), none, .alloc [.int .i64 0, .int .i64 0]⟩,
  ⟨(some 4), none, .mv (.t 12)⟩,
  ⟨none, none, .st 2 (.t 5) (.t 13)⟩]
@[reducible] def i25_R2 : List Iop := [⟨(some 14), none, .fa 0 (.t 5)⟩,
  ⟨(some 15), none, .ld false 1 (.t 14)⟩,
  ⟨(some 16), none, .bin .neq (.t 15) (.c (.int .i64 0))⟩]
@[reducible] def i25_R3 : List Iop := [⟨(some 17), none, .build [.int .i64 0, .int .i64 0, .str ⟨#[]⟩, .nil] []⟩,
  ⟨(some 18), none, .ld true 2 (.t 5)⟩,
  ⟨none, none, .st 4 (.t 2) (.t 17)⟩,
  ⟨none, none, .st 2 (.t 3) (.t 18)⟩]
@[reducible] def i25_R4 : List Iop := [⟨(some 19), none, .mv (.t 4)⟩,
  ⟨(some 20), none, .mv (.t 0)⟩,
  ⟨(some 21), none, .lens (.t 20)⟩,
  ⟨(some 22), none, .call 41 [(.t 19), (.t 21)]⟩,
  ⟨(some 6), none, .alloc [.int .i64 0, .int .i64 0]⟩,
  ⟨none, none, .st 2 (.t 6) (.t 22)⟩]
@[reducible] def i25_R5 : List Iop := [⟨(some 23), none, .fa 0 (.t 6)⟩,
  ⟨(some 24), none, .ld false 1 (.t 23)⟩,
  ⟨(some 25), none, .bin .neq (.t 24) (.c (.int .i64 0))⟩]
@[reducible] def i25_R6 : List Iop := [⟨(some 26), none, .build [.int .i64 0, .int .i64 0, .str ⟨#[]⟩, .nil] []⟩,
  ⟨(some 27), none, .ld true 2 (.t 6)⟩,
  ⟨none, none, .st 4 (.t 2) (.t 26)⟩,
  ⟨none, none, .st 2 (.t 3) (.t 27)⟩]
@[reducible] def i25_R7 : List Iop := [⟨(some 28), none, .mv (.t 4)⟩,
  ⟨(some 29), none, .call 42 [(.t 28)]⟩,
  ⟨(some 7), none, .alloc [.int .i64 0, .int .i64 0, .str ⟨#[]⟩, .nil]⟩,
  ⟨none, none, .st 4 (.t 7) (.t 29)⟩]
@[reducible] def i25_R8 : List Iop := [⟨(some 30), none, .ld true 4 (.t 7)⟩,
  ⟨(some 31), none, .call 31 [(.t 30)]⟩,
  ⟨(some 8), none, .mv (.t 31)⟩]
@[reducible] def i25_R9 : List Iop := [⟨(some 32), none, .mv (.t 8)⟩,
  ⟨(some 33), none, .bin .neq (.t 32) (.c (.int .i64 0))⟩]
@[reducible] def i25_R10 : List Iop := [⟨(some 34), none, .build [.int .i64 0, .int .i64 0, .str ⟨#[]⟩, .nil] []⟩,
  ⟨(some 35), none, .mv (.t 8)⟩,
  ⟨(some 36), none, .build [.int .i64 0, .int .i64 0] [(0, 1, (.t 35))]⟩,
  ⟨none, none, .st 4 (.t 2) (.t 34)⟩,
  ⟨none, none, .st 2 (.t 3) (.t 36)⟩]
@[reducible] def i25_R11 : List Iop := [⟨(some 37), none, .ld true 4 (.t 7)⟩,
  ⟨(some 38), none, .build [.int .i64 0, .int .i64 0] []⟩,
  ⟨none, none, .st 4 (.t 2) (.t 37)⟩,
  ⟨none, none, .st 2 (.t 3) (.t 38)⟩]
@[reducible] def i25_B : IC := (.seq (.reg none i25_R0) (.seq (.reg none i25_R1) (.seq (.seq (.reg none i25_R2) (.cond (.t 16) (.seq (.reg (some [(1, 2)]) i25_R3) .ret) .skip)) (.seq (.seq (.reg none i25_R4) (.seq (.reg none i25_R5) (.cond (.t 25) (.seq (.reg (some [(1, 2)]) i25_R6) .ret) .skip))) (.seq (.reg none i25_R7) (.seq (.seq (.reg none i25_R8) (.seq (.reg none i25_R9) (.cond (.t 33) (.seq (.reg none i25_R10) .ret) .skip))) (.seq (.reg none i25_R11) .ret)))))))
@[reducible] def i25_V : List Nat := [0, 2, 3, 4, 5, 6, 7, 8, 16, 25, 33]
def i25 : IFn := ⟨39, i25_V, [.cell 2 true 4, .cell 3 true 2], i25_B⟩
theorem i25_ok : compF Go.Proofs.Try.prog i25_V Go.Proofs.Try.f25 = some i25 := by kernel_rfl
/-! funicular/types.Truth -/
@[reducible] def i26_R0 : List Iop := [⟨(some 1), none, .box (.t 0)⟩,
  ⟨(some 2), none, .mv (.c (.bool false))⟩,
  ⟨(some 3), none, .mv (.c (.int .i64 0))⟩]
@[reducible] def i26_R1 : List Iop := [⟨(some 7), none, .ld true 4 (.t 1)⟩,
  ⟨(some 8), none, .call 43 [(.t 7)]⟩,
  ⟨(some 4), none, .mv (.t 8)⟩]
@[reducible] def i26_R2 : List Iop := [⟨(some 9), none, .mv (.t 4)⟩,
  ⟨(some 10), none, .bin .neq (.t 9) (.c (.int .i64 0))⟩]
@[reducible] def i26_R3 : List Iop := [⟨(some 11), none, .mv (.t 4)⟩,
  ⟨(some 2), none, .mv (.c (.bool false))⟩,
  ⟨(some 3), none, .mv (.t 11)⟩]
@[reducible] def i26_R4 : List Iop := [⟨(some 13), none, .ld true 4 (.t 1)⟩,
  ⟨(some 14), none, .call 44 [(.t 13)]⟩,
  ⟨(some 12), none, .mv (.t 14)⟩,
  ⟨(some 15), none, .ext 0 (.t 12)⟩,
  ⟨(some 16), none, .ext 1 (.t 12)⟩,
  ⟨(some 5), none, .mv (.t 15)⟩,
  ⟨(some 6), none, .mv (.t 16)⟩]
@[reducible] def i26_R5 : List Iop := [⟨(some 17), none, .mv (.t 5)⟩,
  ⟨(some 18), none, .bin .eql (.t 17) (.c (.int .i64 1))⟩,
  ⟨(some 19), none, .mv (.t 6)⟩,
  ⟨(some 2), none, .mv (.t 18)⟩,
  ⟨(some 3), none, .mv (.t 19)⟩]
@[reducible] def i26_B : IC := (.seq (.reg none i26_R0) (.seq (.seq (.reg none i26_R1) (.seq (.reg none i26_R2) (.cond (.t 10) (.seq (.reg none i26_R3) .ret) .skip))) (.seq (.reg none i26_R4) (.seq (.reg none i26_R5) .ret))))
@[reducible] def i26_V : List Nat := [0, 1, 2, 3, 4, 5, 6, 10]
def i26 : IFn := ⟨20, i26_V, [.tmp 2, .tmp 3], i26_B⟩
theorem i26_ok : compF Go.Proofs.Try.prog i26_V Go.Proofs.Try.f26 = some i26 := by kernel_rfl
/-! funicular/vars.Check -/
@[reducible] def i27_R0 : List Iop := [⟨(some 1), none, .box (.t 0)⟩,
  ⟨(some 2), none, .mv (.c (.int .i64 0))⟩]
@[reducible] def i27_R1 : List Iop := [⟨(some 6), none, .fa 0 (.t 1)⟩,
  ⟨(some 7), none, .ld false 1 (.t 6)⟩,
  ⟨(some 8), none, .lenl (.t 7)⟩,
  ⟨(some 9), none, .fa 1 (.t 1)⟩,
  ⟨(some 10), none, .ld false 1 (.t 9)⟩,
  ⟨(some 11), none, .lenl (.t 10)⟩,
  ⟨(some 12), none, .bin .neq (.t 8) (.t 11)⟩,
  ⟨(some 5), none, .mv (.t 12)⟩]
@[reducible] def i27_R2 : List Iop := [⟨(some 2), none, .mv (.c (.int .i64 1))⟩]
@[reducible] def i27_R3 : List Iop := [⟨(some 14), none, .fa 0 (.t 1)⟩,
  ⟨(some 15), none, .ld false 1 (.t 14)⟩,
  ⟨(some 16), none, .lenl (.t 15)⟩,
  ⟨(some 17), none, .bin .gtr (.t 16) (.c (.int .i64 64))⟩,
  ⟨(some 13), none, .mv (.t 17)⟩]
@[reducible] def i27_R4 : List Iop := [⟨(some 2), none, .mv (.c (.int .i64 6))⟩]
@[reducible] def i27_R5 : List Iop := [⟨(some 18), none, .fa 0 (.t 1)⟩,
  ⟨(some 19), none, .ld false 1 (.t 18)⟩,
  ⟨(some 20), none, .lenl (.t 19)⟩,
  ⟨(some 21), none, .mv (.c (.int .i64 0))⟩]
@[reducible] def i27_R6 : List Iop := [⟨(some 22), none, .bin .lss (.t 21) (.t 20)⟩]
@[reducible] def i27_R7 : List Iop := [⟨(some 23), none, .mv (.t 21)⟩,
  ⟨(some 24), none, .ias 1 (.t 19) (.t 21)⟩,
  ⟨(some 25), none, .ld false 1 (.t 24)⟩,
  ⟨(some 3), none, .mv (.t 23)⟩,
  ⟨(some 4), none, .mv (.t 25)⟩]
@[reducible] def i27_R8 : List Iop := [⟨(some 26), none, .mv (.t 4)⟩,
  ⟨(some 27), none, .call 45 [(.t 26)]⟩,
  ⟨(some 28), none, .nt (.t 27)⟩,
  ⟨(some 29), none, .mv (.t 28)⟩,
  ⟨(some 30), (some (29, false)), .mv (.t 4)⟩,
  ⟨(some 31), (some (29, false)), .bin .eql (.t 30) (.c (.str ⟨#[121, 101, 115]⟩))⟩,
  ⟨(some 32), none, .pick (.t 29) (.c (.bool true)) (.t 31)⟩,
  ⟨(some 33), none, .mv (.t 32)⟩,
  ⟨(some 34), (some (33, false)), .mv (.t 4)⟩,
  ⟨(some 35), (some (33, false)), .bin .eql (.t 34) (.c (.str ⟨#[110, 111]⟩))⟩,
  ⟨(some 36), none, .pick (.t 33) (.c (.bool true)) (.t 35)⟩]
@[reducible] def i27_R9 : List Iop := [⟨(some 2), none, .mv (.c (.int .i64 1))⟩]
@[reducible] def i27_R10 : List Iop := [⟨(some 37), none, .mv (.t 3)⟩,
  ⟨(some 38), none, .bin .gtr (.t 37) (.c (.int .i64 0))⟩,
  ⟨(some 39), none, .mv (.t 38)⟩,
  ⟨(some 40), (some (39, true)), .fa 0 (.t 1)⟩,
  ⟨(some 41), (some (39, true)), .ld false 1 (.t 40)⟩,
  ⟨(some 42), (some (39, true)), .mv (.t 3)⟩,
  ⟨(some 43), (some (39, true)), .bin .sub (.t 42) (.c (.int .i64 1))⟩,
  ⟨(some 44), (some (39, true)), .ias 1 (.t 41) (.t 43)⟩,
  ⟨(some 45), (some (39, true)), .ld false 1 (.t 44)⟩,
  ⟨(some 46), (some (39, true)), .mv (.t 4)⟩,
  ⟨(some 47), (some (39, true)), .bin .geq (.t 45) (.t 46)⟩,
  ⟨(some 48), none, .pick (.t 39) (.t 47) (.c (.bool false))⟩]
@[reducible] def i27_R11 : List Iop := [⟨(some 2), none, .mv (.c (.int .i64 1))⟩]
@[reducible] def i27_R12 : List Iop := [⟨(some 49), none, .bin .add (.t 21) (.c (.int .i64 1))⟩,
  ⟨(some 21), none, .mv (.t 49)⟩]
@[reducible] def i27_L0 : IC := (.seq (.reg none i27_R6) (.seq (.cond (.t 22) .skip (.out 1)) (.seq (.block 2 (.seq (.reg none i27_R7) (.seq (.seq (.reg none i27_R8) (.cond (.t 36) (.seq (.reg none i27_R9) .ret) .skip)) (.seq (.reg none i27_R10) (.cond (.t 48) (.seq (.reg none i27_R11) .ret) .skip))))) (.reg none i27_R12))))
@[reducible] def i27_R13 : List Iop := [⟨(some 2), none, .mv (.c (.int .i64 0))⟩]
@[reducible] def i27_B : IC := (.seq (.reg none i27_R0) (.seq (.block 0 (.seq (.reg none i27_R1) (.cond (.t 5) (.seq (.reg none i27_R2) .ret) (.seq (.reg none i27_R3) (.cond (.t 13) (.seq (.reg none i27_R4) .ret) .skip))))) (.seq (.seq (.reg none i27_R5) (.block 1 (.loop i27_L0))) (.seq (.reg none i27_R13) .ret))))
@[reducible] def i27_V : List Nat := [0, 1, 2, 3, 4, 5, 13, 19, 20, 21, 22, 36, 48]
def i27 : IFn := ⟨50, i27_V, [.tmp 2], i27_B⟩
theorem i27_ok : compF Go.Proofs.Try.prog i27_V Go.Proofs.Try.f27 = some i27 := by kernel_rfl
/-! funicular/eval.of -/
@[reducible] def i28_R0 : List Iop := [⟨(some 2), none, .box (.t 0)⟩,
  ⟨(some 3), none, .box (.t 1)⟩,
  ⟨(some 4), none, .alloc [.bool false, .int .i64 0]⟩,
  ⟨(some 5), none, .mv (.c (.int .i64 0))⟩]
@[reducible] def i28_R1 : List Iop := [⟨(some 13), none, .mkf 46 [] [(.t 2), (.t 3)]⟩,
  ⟨(some 6), none, .mv (.t 13)⟩]
@[reducible] def i28_R2 : List Iop := [⟨(some 14), none, .fa 0 (.t 2)⟩,
  ⟨(some 15), none, .ld false 1 (.t 14)⟩]
@[reducible] def i28_R3 : List Iop := [⟨(some 17), none, .bin .eql (.t 15) (.c (.int .i64 1))⟩,
  ⟨(some 16), none, .mv (.t 17)⟩]
@[reducible] def i28_R4 : List Iop := [⟨(some 18), none, .fa 1 (.t 2)⟩,
  ⟨(some 19), none, .ld false 1 (.t 18)⟩,
  ⟨(some 20), none, .build [.bool false, .int .i64 0] [(1, 1, (.t 19))]⟩,
  ⟨none, none, .st 2 (.t 4) (.t 20)⟩,
  ⟨(some 5), none, .mv (.c (.int .i64 0))⟩]
@[reducible] def i28_R5 : List Iop := [⟨(some 22), none, .bin .eql (.t 15) (.c (.int .i64 3))⟩,
  ⟨(some 21), none, .mv (.t 22)⟩]
@[reducible] def i28_R6 : List Iop := [⟨(some 23), none, .bin .eql (.t 15) (.c (.int .i64 4))⟩,
  ⟨(some 21), none, .mv (.t 23)⟩]
@[reducible] def i28_R7 : List Iop := [⟨(some 24), none, .fa 0 (.t 2)⟩,
  ⟨(some 25), none, .ld false 1 (.t 24)⟩,
  ⟨(some 26), none, .bin .eql (.t 25) (.c (.int .i64 3))⟩,
  ⟨(some 27), none, .call 47 [(.t 26)]⟩,
  ⟨none, none, .st 2 (.t 4) (.t 27)⟩,
  ⟨(some 5), none, .mv (.c (.int .i64 0))⟩]
@[reducible] def i28_R8 : List Iop := [⟨(some 29), none, .bin .eql (.t 15) (.c (.int .i64 2))⟩,
  ⟨(some 28), none, .mv (.t 29)⟩]
@[reducible] def i28_R9 : List Iop := [⟨(some 31), none, .ld true 2 (.t 3)⟩,
  ⟨(some 32), none, .fa 2 (.t 2)⟩,
  ⟨(some 33), none, .ld false 1 (.t 32)⟩,
  ⟨(some 34), none, .call 48 [(.t 31), (.t 33)]⟩,
  ⟨(some 30), none, .mv (.t 34)⟩,
  ⟨(some 35), none, .ext 0 (.t 30)⟩,
  ⟨(some 36), none, .ext 1 (.t 30)⟩,
  ⟨(some 7), none, .mv (.t 35)⟩,
  ⟨(some 8), none, .mv (.t 36)⟩]
@[reducible] def i28_R10 : List Iop := [⟨(some 37), none, .mv (.t 8)⟩,
  ⟨(some 38), none, .nt (.t 37)⟩]
@[reducible] def i28_R11 : List Iop := [⟨(some 39), none, .build [.bool false, .int .i64 0] []⟩,
  ⟨none, none, .st 2 (.t 4) (.t 39)⟩,
  ⟨(some 5), none, .mv (.c (.int .i64 9))⟩]
@[reducible] def i28_R12 : List Iop := [⟨(some 40), none, .mv (.t 7)⟩,
  ⟨(some 41), none, .build [.bool false, .int .i64 0] [(1, 1, (.t 40))]⟩,
  ⟨none, none, .st 2 (.t 4) (.t 41)⟩,
  ⟨(some 5), none, .mv (.c (.int .i64 0))⟩]
@[reducible] def i28_R13 : List Iop := [⟨(some 43), none, .mv (.t 6)⟩,
  ⟨(some 44), none, .callv (.t 43) [(.c (.int .i64 0))]⟩,
  ⟨(some 42), none, .mv (.t 44)⟩,
  ⟨(some 45), none, .ext 0 (.t 42)⟩,
  ⟨(some 46), none, .ext 1 (.t 42)⟩,
  ⟨(some 9), none, .mv (.t 45)⟩,
  ⟨(some 10), none, .mv (.t 46)⟩]
@[reducible] def i28_R14 : List Iop := [⟨(some 47), none, .mv (.t 10)⟩,
  ⟨(some 48), none, .bin .neq (.t 47) (.c (.int .i64 0))⟩]
@[reducible] def i28_R15 : List Iop := [⟨(some 49), none, .build [.bool false, .int .i64 0] []⟩,
  ⟨(some 50), none, .mv (.t 10)⟩,
  ⟨none, none, .st 2 (.t 4) (.t 49)⟩,
  ⟨(some 5), none, .mv (.t 50)⟩]
@[reducible] def i28_R16 : List Iop := [⟨(some 52), none, .fa 0 (.t 2)⟩,
  ⟨(some 53), none, .ld false 1 (.t 52)⟩,
  ⟨(some 54), none, .bin .eql (.t 53) (.c (.int .i64 6))⟩,
  ⟨(some 51), none, .mv (.t 54)⟩]
@[reducible] def i28_R17 : List Iop := [⟨(some 55), none, .mv (.t 9)⟩,
  ⟨(some 56), none, .bin .eql (.t 55) (.c (.int .i64 0))⟩,
  ⟨(some 57), none, .call 47 [(.t 56)]⟩,
  ⟨none, none, .st 2 (.t 4) (.t 57)⟩,
  ⟨(some 5), none, .mv (.c (.int .i64 0))⟩]
@[reducible] def i28_R18 : List Iop := [⟨(some 59), none, .fa 0 (.t 2)⟩,
  ⟨(some 60), none, .ld false 1 (.t 59)⟩,
  ⟨(some 61), none, .bin .eql (.t 60) (.c (.int .i64 5))⟩,
  ⟨(some 62), none, .mv (.t 61)⟩,
  ⟨(some 63), (some (62, true)), .mv (.t 9)⟩,
  ⟨(some 64), (some (62, true)), .bin .eql (.t 63) (.c (.int .i64 (-9223372036854775808)))⟩,
  ⟨(some 65), none, .pick (.t 62) (.t 64) (.c (.bool false))⟩,
  ⟨(some 58), none, .mv (.t 65)⟩]
@[reducible] def i28_R19 : List Iop := [⟨(some 66), none, .build [.bool false, .int .i64 0] []⟩,
  ⟨none, none, .st 2 (.t 4) (.t 66)⟩,
  ⟨(some 5), none, .mv (.c (.int .i64 13))⟩]
@[reducible] def i28_R20 : List Iop := [⟨(some 68), none, .fa 0 (.t 2)⟩,
  ⟨(some 69), none, .ld false 1 (.t 68)⟩,
  ⟨(some 70), none, .bin .eql (.t 69) (.c (.int .i64 5))⟩,
  ⟨(some 67), none, .mv (.t 70)⟩]
@[reducible] def i28_R21 : List Iop := [⟨(some 71), none, .mv (.t 9)⟩,
  ⟨(some 72), none, .ngt (.t 71)⟩,
  ⟨(some 73), none, .build [.bool false, .int .i64 0] [(1, 1, (.t 72))]⟩,
  ⟨none, none, .st 2 (.t 4) (.t 73)⟩,
  ⟨(some 5), none, .mv (.c (.int .i64 0))⟩]
@[reducible] def i28_R22 : List Iop := [⟨(some 75), none, .fa 0 (.t 2)⟩,
  ⟨(some 76), none, .ld false 1 (.t 75)⟩,
  ⟨(some 77), none, .bin .eql (.t 76) (.c (.int .i64 13))⟩,
  ⟨(some 78), none, .mv (.t 77)⟩,
  ⟨(some 79), (some (78, true)), .mv (.t 9)⟩,
  ⟨(some 80), (some (78, true)), .bin .eql (.t 79) (.c (.int .i64 0))⟩,
  ⟨(some 81), none, .pick (.t 78) (.t 80) (.c (.bool false))⟩,
  ⟨(some 74), none, .mv (.t 81)⟩]
@[reducible] def i28_R23 : List Iop := [⟨(some 82), none, .fa 0 (.t 2)⟩,
  ⟨(some 83), none, .ld false 1 (.t 82)⟩,
  ⟨(some 84), none, .bin .eql (.t 83) (.c (.int .i64 14))⟩,
  ⟨(some 85), none, .mv (.t 84)⟩,
  ⟨(some 86), (some (85, true)), .mv (.t 9)⟩,
  ⟨(some 87), (some (85, true)), .bin .eql (.t 86) (.c (.int .i64 1))⟩,
  ⟨(some 88), none, .pick (.t 85) (.t 87) (.c (.bool false))⟩,
  ⟨(some 74), none, .mv (.t 88)⟩]
@[reducible] def i28_R24 : List Iop := [⟨(some 89), none, .mv (.t 9)⟩,
  ⟨(some 90), none, .bin .eql (.t 89) (.c (.int .i64 1))⟩,
  ⟨(some 91), none, .call 47 [(.t 90)]⟩,
  ⟨none, none, .st 2 (.t 4) (.t 91)⟩,
  ⟨(some 5), none, .mv (.c (.int .i64 0))⟩]
@[reducible] def i28_R25 : List Iop := [⟨(some 93), none, .mv (.t 6)⟩,
  ⟨(some 94), none, .callv (.t 93) [(.c (.int .i64 1))]⟩,
  ⟨(some 92), none, .mv (.t 94)⟩,
  ⟨(some 95), none, .ext 0 (.t 92)⟩,
  ⟨(some 96), none, .ext 1 (.t 92)⟩,
  ⟨(some 11), none, .mv (.t 95)⟩,
  ⟨(some 10), none, .mv (.t 96)⟩]
@[reducible] def i28_R26 : List Iop := [⟨(some 97), none, .mv (.t 10)⟩,
  ⟨(some 98), none, .bin .neq (.t 97) (.c (.int .i64 0))⟩]
@[reducible] def i28_R27 : List Iop := [⟨(some 99), none, .build [.bool false, .int .i64 0] []⟩,
  ⟨(some 100), none, .mv (.t 10)⟩,
  ⟨none, none, .st 2 (.t 4) (.t 99)⟩,
  ⟨(some 5), none, .mv (.t 100)⟩]
@[reducible] def i28_R28 : List Iop := [⟨(some 101), none, .fa 0 (.t 2)⟩,
  ⟨(some 102), none, .ld false 1 (.t 101)⟩]
@[reducible] def i28_R29 : List Iop := [⟨(some 104), none, .bin .eql (.t 102) (.c (.int .i64 13))⟩,
  ⟨(some 103), none, .mv (.t 104)⟩]
@[reducible] def i28_R30 : List Iop := [⟨(some 105), none, .bin .eql (.t 102) (.c (.int .i64 14))⟩,
  ⟨(some 103), none, .mv (.t 105)⟩]
@[reducible] def i28_R31 : List Iop := [⟨(some 106), none, .mv (.t 11)⟩,
  ⟨(some 107), none, .bin .eql (.t 106) (.c (.int .i64 1))⟩,
  ⟨(some 108), none, .call 47 [(.t 107)]⟩,
  ⟨none, none, .st 2 (.t 4) (.t 108)⟩,
  ⟨(some 5), none, .mv (.c (.int .i64 0))⟩]
@[reducible] def i28_R32 : List Iop := [⟨(some 110), none, .bin .eql (.t 102) (.c (.int .i64 11))⟩,
  ⟨(some 109), none, .mv (.t 110)⟩]
@[reducible] def i28_R33 : List Iop := [⟨(some 111), none, .mv (.t 9)⟩,
  ⟨(some 112), none, .mv (.t 11)⟩,
  ⟨(some 113), none, .bin .eql (.t 111) (.t 112)⟩,
  ⟨(some 114), none, .call 47 [(.t 113)]⟩,
  ⟨none, none, .st 2 (.t 4) (.t 114)⟩,
  ⟨(some 5), none, .mv (.c (.int .i64 0))⟩]
@[reducible] def i28_R34 : List Iop := [⟨(some 116), none, .bin .eql (.t 102) (.c (.int .i64 12))⟩,
  ⟨(some 115), none, .mv (.t 116)⟩]
@[reducible] def i28_R35 : List Iop := [⟨(some 117), none, .mv (.t 9)⟩,
  ⟨(some 118), none, .mv (.t 11)⟩,
  ⟨(some 119), none, .bin .lss (.t 117) (.t 118)⟩,
  ⟨(some 120), none, .call 47 [(.t 119)]⟩,
  ⟨none, none, .st 2 (.t 4) (.t 120)⟩,
  ⟨(some 5), none, .mv (.c (.int .i64 0))⟩]
@[reducible] def i28_R36 : List Iop := [⟨(some 122), none, .fa 0 (.t 2)⟩,
  ⟨(some 123), none, .ld false 1 (.t 122)⟩,
  ⟨(some 124), none, .mv (.t 9)⟩,
  ⟨(some 125), none, .mv (.t 11)⟩,
  ⟨(some 126), none, .call 49 [(.t 123), (.t 124), (.t 125)]⟩,
  ⟨(some 121), none, .mv (.t 126)⟩,
  ⟨(some 127), none, .ext 0 (.t 121)⟩,
  ⟨(some 128), none, .ext 1 (.t 121)⟩,
  ⟨(some 12), none, .mv (.t 127)⟩,
  ⟨(some 10), none, .mv (.t 128)⟩]
@[reducible] def i28_R37 : List Iop := [⟨(some 129), none, .mv (.t 12)⟩,
  ⟨(some 130), none, .build [.bool false, .int .i64 0] [(1, 1, (.t 129))]⟩,
  ⟨(some 131), none, .mv (.t 10)⟩,
  ⟨none, none, .st 2 (.t 4) (.t 130)⟩,
  ⟨(some 5), none, .mv (.t 131)⟩]
@[reducible] def i28_B : IC := (.seq (.reg none i28_R0) (.seq (.reg none i28_R1) (.seq (.seq (.reg none i28_R2) (.block 0 (.seq (.reg none i28_R3) (.cond (.t 16) (.seq (.reg none i28_R4) .ret) (.seq (.seq (.reg none i28_R5) (.cond (.t 21) .skip (.reg none i28_R6))) (.cond (.t 21) (.seq (.reg none i28_R7) .ret) (.seq (.reg none i28_R8) (.cond (.t 28) (.seq (.reg none i28_R9) (.seq (.seq (.reg none i28_R10) (.cond (.t 38) (.seq (.reg none i28_R11) .ret) .skip)) (.seq (.reg none i28_R12) .ret))) .skip)))))))) (.seq (.reg none i28_R13) (.seq (.seq (.reg none i28_R14) (.cond (.t 48) (.seq (.reg none i28_R15) .ret) .skip)) (.seq (.block 1 (.seq (.reg none i28_R16) (.cond (.t 51) (.seq (.reg none i28_R17) .ret) (.seq (.reg none i28_R18) (.cond (.t 58) (.seq (.reg none i28_R19) .ret) (.seq (.reg none i28_R20) (.cond (.t 67) (.seq (.reg none i28_R21) .ret) (.seq (.seq (.reg none i28_R22) (.cond (.t 74) .skip (.reg none i28_R23))) (.cond (.t 74) (.seq (.reg none i28_R24) .ret) .skip))))))))) (.seq (.reg none i28_R25) (.seq (.seq (.reg none i28_R26) (.cond (.t 98) (.seq (.reg none i28_R27) .ret) .skip)) (.seq (.seq (.reg none i28_R28) (.block 2 (.seq (.seq (.reg none i28_R29) (.cond (.t 103) .skip (.reg none i28_R30))) (.cond (.t 103) (.seq (.reg none i28_R31) .ret) (.seq (.reg none i28_R32) (.cond (.t 109) (.seq (.reg none i28_R33) .ret) (.seq (.reg none i28_R34) (.cond (.t 115) (.seq (.reg none i28_R35) .ret) .skip)))))))) (.seq (.reg none i28_R36) (.seq (.reg none i28_R37) .ret)))))))))))
@[reducible] def i28_V : List Nat := [0, 1, 2, 3, 4, 5, 6, 7, 8, 9, 10, 11, 12, 15, 16, 21, 28, 38, 48, 51, 58, 67, 74, 98, 102, 103, 109, 115]
def i28 : IFn := ⟨132, i28_V, [.cell 4 true 2, .tmp 5], i28_B⟩
theorem i28_ok : compF Go.Proofs.Try.prog i28_V Go.Proofs.Try.f28 = some i28 := by kernel_rfl
/-! funicular/funicularref10.of -/
@[reducible] def i29_R0 : List Iop := [⟨(some 2), none, .box (.t 0)⟩,
  ⟨(some 3), none, .box (.t 1)⟩,
  ⟨(some 4), none, .alloc [.bool false, .int .i64 0]⟩,
  ⟨(some 5), none, .mv (.c (.int .i64 0))⟩]
@[reducible] def i29_R1 : List Iop := [⟨(some 16), none, .fa 3 (.t 2)⟩,
  ⟨(some 17), none, .ld false 1 (.t 16)⟩,
  ⟨(some 18), none, .lenl (.t 17)⟩,
  ⟨(some 19), none, .bin .eql (.t 18) (.c (.int .i64 0))⟩]
@[reducible] def i29_R2 : List Iop := [⟨(some 20), none, .fa 0 (.t 2)⟩,
  ⟨(some 21), none, .ld false 1 (.t 20)⟩,
  ⟨(some 22), none, .bin .eql (.t 21) (.c (.int .i64 1))⟩]
@[reducible] def i29_R3 : List Iop := [⟨(some 23), none, .fa 1 (.t 2)⟩,
  ⟨(some 24), none, .ld false 1 (.t 23)⟩,
  ⟨(some 25), none, .build [.bool false, .int .i64 0] [(1, 1, (.t 24))]⟩,
  ⟨none, none, .st 2 (.t 4) (.t 25)⟩,
  ⟨(some 5), none, .mv (.c (.int .i64 0))⟩]
@[reducible] def i29_R4 : List Iop := [⟨(some 26), none, .fa 0 (.t 2)⟩,
  ⟨(some 27), none, .ld false 1 (.t 26)⟩,
  ⟨(some 28), none, .bin .neq (.t 27) (.c (.int .i64 2))⟩]
@[reducible] def i29_R5 : List Iop := [⟨(some 29), none, .fa 0 (.t 2)⟩,
  ⟨(some 30), none, .ld false 1 (.t 29)⟩,
  ⟨(some 31), none, .bin .eql (.t 30) (.c (.int .i64 3))⟩,
  ⟨(some 32), none, .call 50 [(.t 31)]⟩,
  ⟨none, none, .st 2 (.t 4) (.t 32)⟩,
  ⟨(some 5), none, .mv (.c (.int .i64 0))⟩]
@[reducible] def i29_R6 : List Iop := [⟨(some 34), none, .ld true 2 (.t 3)⟩,
  ⟨(some 35), none, .fa 2 (.t 2)⟩,
  ⟨(some 36), none, .ld false 1 (.t 35)⟩,
  ⟨(some 37), none, .call 22 [(.t 34), (.t 36)]⟩,
  ⟨(some 33), none, .mv (.t 37)⟩,
  ⟨(some 38), none, .ext 0 (.t 33)⟩,
  ⟨(some 39), none, .ext 1 (.t 33)⟩,
  ⟨(some 6), none, .mv (.t 38)⟩,
  ⟨(some 7), none, .mv (.t 39)⟩]
@[reducible] def i29_R7 : List Iop := [⟨(some 40), none, .mv (.t 7)⟩,
  ⟨(some 41), none, .nt (.t 40)⟩]
@[reducible] def i29_R8 : List Iop := [⟨(some 42), none, .build [.bool false, .int .i64 0] []⟩,
  ⟨none, none, .st 2 (.t 4) (.t 42)⟩,
  ⟨(some 5), none, .mv (.c (.int .i64 9))⟩]
@[reducible] def i29_R9 : List Iop := [⟨(some 43), none, .mv (.t 6)⟩,
  ⟨(some 44), none, .build [.bool false, .int .i64 0] [(1, 1, (.t 43))]⟩,
  ⟨none, none, .st 2 (.t 4) (.t 44)⟩,
  ⟨(some 5), none, .mv (.c (.int .i64 0))⟩]
@[reducible] def i29_R10 : List Iop := [⟨(some 46), none, .fa 3 (.t 2)⟩,
  ⟨(some 47), none, .ld false 1 (.t 46)⟩,
  ⟨(some 48), none, .ias 4 (.t 47) (.c (.int .i64 0))⟩,
  ⟨(some 49), none, .ld true 4 (.t 48)⟩,
  ⟨(some 50), none, .ld true 2 (.t 3)⟩,
  ⟨(some 51), none, .call 29 [(.t 49), (.t 50)]⟩,
  ⟨(some 45), none, .mv (.t 51)⟩,
  ⟨(some 52), none, .ext 0 (.t 45)⟩,
  ⟨(some 53), none, .ext 1 (.t 45)⟩,
  ⟨(some 8), none, .alloc [.bool false, .int .i64 0]⟩,
  ⟨none, none, .st 2 (.t 8) (.t 52)⟩,
  ⟨(some 9), none, .mv (.t 53)⟩]
@[reducible] def i29_R11 : List Iop := [⟨(some 54), none, .mv (.t 9)⟩,
  ⟨(some 55), none, .bin .neq (.t 54) (.c (.int .i64 0))⟩]
@[reducible] def i29_R12 : List Iop := [⟨(some 56), none, .build [.bool false, .int .i64 0] []⟩,
  ⟨(some 57), none, .mv (.t 9)⟩,
  ⟨none, none, .st 2 (.t 4) (.t 56)⟩,
  ⟨(some 5), none, .mv (.t 57)⟩]
@[reducible] def i29_R13 : List Iop := [⟨(some 58), none, .fa 0 (.t 2)⟩,
  ⟨(some 59), none, .ld false 1 (.t 58)⟩,
  ⟨(some 60), none, .bin .eql (.t 59) (.c (.int .i64 6))⟩]
@[reducible] def i29_R14 : List Iop := [⟨(some 61), none, .fa 1 (.t 8)⟩,
  ⟨(some 62), none, .ld false 1 (.t 61)⟩,
  ⟨(some 63), none, .bin .eql (.t 62) (.c (.int .i64 0))⟩,
  ⟨(some 64), none, .call 50 [(.t 63)]⟩,
  ⟨none, none, .st 2 (.t 4) (.t 64)⟩,
  ⟨(some 5), none, .mv (.c (.int .i64 0))⟩]
@[reducible] def i29_R15 : List Iop := [⟨(some 65), none, .fa 0 (.t 2)⟩,
  ⟨(some 66), none, .ld false 1 (.t 65)⟩,
  ⟨(some 67), none, .bin .eql (.t 66) (.c (.int .i64 5))⟩]
@[reducible] def i29_R16 : List Iop := [⟨(some 69), none, .fa 1 (.t 8)⟩,
  ⟨(some 70), none, .ld false 1 (.t 69)⟩,
  ⟨(some 71), none, .call 51 [(.c (.int .i64 8)), (.c (.int .i64 0)), (.t 70)]⟩,
  ⟨(some 68), none, .mv (.t 71)⟩,
  ⟨(some 72), none, .ext 0 (.t 68)⟩,
  ⟨(some 73), none, .ext 1 (.t 68)⟩,
  ⟨(some 10), none, .mv (.t 72)⟩,
  ⟨(some 11), none, .mv (.t 73)⟩]
@[reducible] def i29_R17 : List Iop := [⟨(some 74), none, .mv (.t 11)⟩,
  ⟨(some 75), none, .bin .neq (.t 74) (.c (.int .i64 0))⟩]
@[reducible] def i29_R18 : List Iop := [⟨(some 76), none, .build [.bool false, .int .i64 0] []⟩,
  ⟨(some 77), none, .mv (.t 11)⟩,
  ⟨none, none, .st 2 (.t 4) (.t 76)⟩,
  ⟨(some 5), none, .mv (.t 77)⟩]
@[reducible] def i29_R19 : List Iop := [⟨(some 78), none, .mv (.t 10)⟩,
  ⟨(some 79), none, .build [.bool false, .int .i64 0] [(1, 1, (.t 78))]⟩,
  ⟨none, none, .st 2 (.t 4) (.t 79)⟩,
  ⟨(some 5), none, .mv (.c (.int .i64 0))⟩]
@[reducible] def i29_R20 : List Iop := [⟨(some 80), none, .fa 0 (.t 2)⟩,
  ⟨(some 81), none, .ld false 1 (.t 80)⟩,
  ⟨(some 82), none, .bin .eql (.t 81) (.c (.int .i64 13))⟩,
  ⟨(some 83), none, .mv (.t 82)⟩,
  ⟨(some 84), (some (83, true)), .fa 1 (.t 8)⟩,
  ⟨(some 85), (some (83, true)), .ld false 1 (.t 84)⟩,
  ⟨(some 86), (some (83, true)), .bin .eql (.t 85) (.c (.int .i64 0))⟩,
  ⟨(some 87), none, .pick (.t 83) (.t 86) (.c (.bool false))⟩,
  ⟨(some 88), none, .mv (.t 87)⟩,
  ⟨(some 89), (some (88, false)), .fa 0 (.t 2)⟩,
  ⟨(some 90), (some (88, false)), .ld false 1 (.t 89)⟩,
  ⟨(some 91), (some (88, false)), .bin .eql (.t 90) (.c (.int .i64 14))⟩,
  ⟨(some 92), (some (88, false)), .mv (.t 91)⟩,
  ⟨(some 93), (some (92, true)), .fa 1 (.t 8)⟩,
  ⟨(some 94), (some (92, true)), .ld false 1 (.t 93)⟩,
  ⟨(some 95), (some (92, true)), .bin .eql (.t 94) (.c (.int .i64 1))⟩,
  ⟨(some 96), (some (88, false)), .pick (.t 92) (.t 95) (.c (.bool false))⟩,
  ⟨(some 97), none, .pick (.t 88) (.c (.bool true)) (.t 96)⟩]
@[reducible] def i29_R21 : List Iop := [⟨(some 98), none, .ld true 2 (.t 8)⟩,
  ⟨none, none, .st 2 (.t 4) (.t 98)⟩,
  ⟨(some 5), none, .mv (.c (.int .i64 0))⟩]
@[reducible] def i29_R22 : List Iop := [⟨(some 100), none, .fa 3 (.t 2)⟩,
  ⟨(some 101), none, .ld false 1 (.t 100)⟩,
  ⟨(some 102), none, .ias 4 (.t 101) (.c (.int .i64 1))⟩,
  ⟨(some 103), none, .ld true 4 (.t 102)⟩,
  ⟨(some 104), none, .ld true 2 (.t 3)⟩,
  ⟨(some 105), none, .call 29 [(.t 103), (.t 104)]⟩,
  ⟨(some 99), none, .mv (.t 105)⟩,
  ⟨(some 106), none, .ext 0 (.t 99)⟩,
  ⟨(some 107), none, .ext 1 (.t 99)⟩,
  ⟨(some 12), none, .alloc [.bool false, .int .i64 0]⟩,
  ⟨none, none, .st 2 (.t 12) (.t 106)⟩,
  ⟨(some 13), none, .mv (.t 107)⟩]
@[reducible] def i29_R23 : List Iop := [⟨(some 108), none, .mv (.t 13)⟩,
  ⟨(some 109), none, .bin .neq (.t 108) (.c (.int .i64 0))⟩]
@[reducible] def i29_R24 : List Iop := [⟨(some 110), none, .build [.bool false, .int .i64 0] []⟩,
  ⟨(some 111), none, .mv (.t 13)⟩,
  ⟨none, none, .st 2 (.t 4) (.t 110)⟩,
  ⟨(some 5), none, .mv (.t 111)⟩]
@[reducible] def i29_R25 : List Iop := [⟨(some 112), none, .fa 0 (.t 2)⟩,
  ⟨(some 113), none, .ld false 1 (.t 112)⟩]
@[reducible] def i29_R26 : List Iop := [⟨(some 115), none, .bin .eql (.t 113) (.c (.int .i64 13))⟩,
  ⟨(some 114), none, .mv (.t 115)⟩]
@[reducible] def i29_R27 : List Iop := [⟨(some 116), none, .bin .eql (.t 113) (.c (.int .i64 14))⟩,
  ⟨(some 114), none, .mv (.t 116)⟩]
@[reducible] def i29_R28 : List Iop := [⟨(some 117), none, .ld true 2 (.t 12)⟩,
  ⟨none, none, .st 2 (.t 4) (.t 117)⟩,
  ⟨(some 5), none, .mv (.c (.int .i64 0))⟩]
@[reducible] def i29_R29 : List Iop := [⟨(some 119), none, .bin .eql (.t 113) (.c (.int .i64 11))⟩,
  ⟨(some 118), none, .mv (.t 119)⟩]
@[reducible] def i29_R30 : List Iop := [⟨(some 120), none, .fa 1 (.t 8)⟩,
  ⟨(some 121), none, .ld false 1 (.t 120)⟩,
  ⟨(some 122), none, .fa 1 (.t 12)⟩,
  ⟨(some 123), none, .ld false 1 (.t 122)⟩,
  ⟨(some 124), none, .bin .eql (.t 121) (.t 123)⟩,
  ⟨(some 125), none, .call 50 [(.t 124)]⟩,
  ⟨none, none, .st 2 (.t 4) (.t 125)⟩,
  ⟨(some 5), none, .mv (.c (.int .i64 0))⟩]
@[reducible] def i29_R31 : List Iop := [⟨(some 127), none, .bin .eql (.t 113) (.c (.int .i64 12))⟩,
  ⟨(some 126), none, .mv (.t 127)⟩]
@[reducible] def i29_R32 : List Iop := [⟨(some 128), none, .fa 1 (.t 8)⟩,
  ⟨(some 129), none, .ld false 1 (.t 128)⟩,
  ⟨(some 130), none, .fa 1 (.t 12)⟩,
  ⟨(some 131), none, .ld false 1 (.t 130)⟩,
  ⟨(some 132), none, .bin .lss (.t 129) (.t 131)⟩,
  ⟨(some 133), none, .call 50 [(.t 132)]⟩,
  ⟨none, none, .st 2 (.t 4) (.t 133)⟩,
  ⟨(some 5), none, .mv (.c (.int .i64 0))⟩]
@[reducible] def i29_R33 : List Iop := [⟨(some 135), none, .fa 0 (.t 2)⟩,
  ⟨(some 136), none, .ld false 1 (.t 135)⟩,
  ⟨(some 137), none, .fa 1 (.t 8)⟩,
  ⟨(some 138), none, .ld false 1 (.t 137)⟩,
  ⟨(some 139), none, .fa 1 (.t 12)⟩,
  ⟨(some 140), none, .ld false 1 (.t 139)⟩,
  ⟨(some 141), none, .call 51 [(.t 136), (.t 138), (.t 140)]⟩,
  ⟨(some 134), none, .mv (.t 141)⟩,
  ⟨(some 142), none, .ext 0 (.t 134)⟩,
  ⟨(some 143), none, .ext 1 (.t 134)⟩,
  ⟨(some 14), none, .mv (.t 142)⟩,
  ⟨(some 15), none, .mv (.t 143)⟩]
@[reducible] def i29_R34 : List Iop := [⟨(some 144), none, .mv (.t 15)⟩,
  ⟨(some 145), none, .bin .neq (.t 144) (.c (.int .i64 0))⟩]
@[reducible] def i29_R35 : List Iop := [⟨(some 146), none, .build [.bool false, .int .i64 0] []⟩,
  ⟨(some 147), none, .mv (.t 15)⟩,
  ⟨none, none, .st 2 (.t 4) (.t 146)⟩,
  ⟨(some 5), none, .mv (.t 147)⟩]
@[reducible] def i29_R36 : List Iop := [⟨(some 148), none, .mv (.t 14)⟩,
  ⟨(some 149), none, .build [.bool false, .int .i64 0] [(1, 1, (.t 148))]⟩,
  ⟨none, none, .st 2 (.t 4) (.t 149)⟩,
  ⟨(some 5), none, .mv (.c (.int .i64 0))⟩]
@[reducible] def i29_B : IC := (.seq (.reg none i29_R0) (.seq (.seq (.reg none i29_R1) (.cond (.t 19) (.seq (.seq (.reg none i29_R2) (.cond (.t 22) (.seq (.reg none i29_R3) .ret) .skip)) (.seq (.seq (.reg none i29_R4) (.cond (.t 28) (.seq (.reg none i29_R5) .ret) .skip)) (.seq (.reg none i29_R6) (.seq (.seq (.reg none i29_R7) (.cond (.t 41) (.seq (.reg none i29_R8) .ret) .skip)) (.seq (.reg none i29_R9) .ret))))) .skip)) (.seq (.reg (some []) i29_R10) (.seq (.seq (.reg none i29_R11) (.cond (.t 55) (.seq (.reg none i29_R12) .ret) .skip)) (.seq (.seq (.reg none i29_R13) (.cond (.t 60) (.seq (.reg none i29_R14) .ret) .skip)) (.seq (.seq (.reg none i29_R15) (.cond (.t 67) (.seq (.reg none i29_R16) (.seq (.seq (.reg none i29_R17) (.cond (.t 75) (.seq (.reg none i29_R18) .ret) .skip)) (.seq (.reg none i29_R19) .ret))) .skip)) (.seq (.seq (.reg none i29_R20) (.cond (.t 97) (.seq (.reg none i29_R21) .ret) .skip)) (.seq (.reg (some []) i29_R22) (.seq (.seq (.reg none i29_R23) (.cond (.t 109) (.seq (.reg none i29_R24) .ret) .skip)) (.seq (.seq (.reg none i29_R25) (.block 0 (.seq (.seq (.reg none i29_R26) (.cond (.t 114) .skip (.reg none i29_R27))) (.cond (.t 114) (.seq (.reg none i29_R28) .ret) (.seq (.reg none i29_R29) (.cond (.t 118) (.seq (.reg none i29_R30) .ret) (.seq (.reg none i29_R31) (.cond (.t 126) (.seq (.reg none i29_R32) .ret) .skip)))))))) (.seq (.reg none i29_R33) (.seq (.seq (.reg none i29_R34) (.cond (.t 145) (.seq (.reg none i29_R35) .ret) .skip)) (.seq (.reg none i29_R36) .ret)))))))))))))
@[reducible] def i29_V : List Nat := [0, 1, 2, 3, 4, 5, 6, 7, 8, 9, 10, 11, 12, 13, 14, 15, 19, 22, 28, 41, 55, 60, 67, 75, 97, 109, 113, 114, 118, 126, 145]
def i29 : IFn := ⟨150, i29_V, [.cell 4 true 2, .tmp 5], i29_B⟩
theorem i29_ok : compF Go.Proofs.Try.prog i29_V Go.Proofs.Try.f29 = some i29 := by kernel_rfl
/-! funicular/funicularref02.Name -/
@[reducible] def i30_R0 : List Iop := [⟨(some 2), none, .mv (.c (.bool false))⟩]
@[reducible] def i30_R1 : List Iop := [⟨(some 6), none, .mv (.t 0)⟩,
  ⟨(some 7), none, .lens (.t 6)⟩,
  ⟨(some 8), none, .bin .eql (.t 7) (.c (.int .i64 0))⟩,
  ⟨(some 9), none, .mv (.t 8)⟩,
  ⟨(some 10), (some (9, false)), .mv (.t 0)⟩,
  ⟨(some 11), (some (9, false)), .lens (.t 10)⟩,
  ⟨(some 12), (some (9, false)), .bin .gtr (.t 11) (.c (.int .i64 32))⟩,
  ⟨(some 13), none, .pick (.t 9) (.c (.bool true)) (.t 12)⟩,
  ⟨(some 14), none, .mv (.t 13)⟩,
  ⟨(some 15), (some (14, false)), .mv (.t 0)⟩,
  ⟨(some 16), (some (14, false)), .ixs (.t 15) (.c (.int .i64 0))⟩,
  ⟨(some 17), (some (14, false)), .bin .lss (.t 16) (.c (.int .u8 97))⟩,
  ⟨(some 18), none, .pick (.t 14) (.c (.bool true)) (.t 17)⟩]
@[reducible] def i30_R2 : List Iop := [⟨(some 2), none, .mv (.c (.bool false))⟩]
@[reducible] def i30_R3 : List Iop := [⟨(some 3), none, .mv (.c (.int .i64 0))⟩]
@[reducible] def i30_R4 : List Iop := [⟨(some 19), none, .mv (.t 3)⟩,
  ⟨(some 20), none, .mv (.t 0)⟩,
  ⟨(some 21), none, .lens (.t 20)⟩,
  ⟨(some 22), none, .bin .lss (.t 19) (.t 21)⟩]
@[reducible] def i30_R5 : List Iop := [⟨(some 25), none, .mv (.t 0)⟩,
  ⟨(some 26), none, .mv (.t 3)⟩,
  ⟨(some 27), none, .ixs (.t 25) (.t 26)⟩,
  ⟨(some 28), none, .bin .geq (.t 27) (.c (.int .u8 48))⟩,
  ⟨(some 29), none, .mv (.t 28)⟩,
  ⟨(some 30), (some (29, true)), .mv (.t 0)⟩,
  ⟨(some 31), (some (29, true)), .mv (.t 3)⟩,
  ⟨(some 32), (some (29, true)), .ixs (.t 30) (.t 31)⟩,
  ⟨(some 33), (some (29, true)), .bin .leq (.t 32) (.c (.int .u8 57))⟩,
  ⟨(some 34), none, .pick (.t 29) (.t 33) (.c (.bool false))⟩,
  ⟨(some 4), none, .mv (.t 34)⟩]
@[reducible] def i30_R6 : List Iop := [⟨(some 35), none, .mv (.t 0)⟩,
  ⟨(some 36), none, .mv (.t 3)⟩,
  ⟨(some 37), none, .ixs (.t 35) (.t 36)⟩,
  ⟨(some 38), none, .bin .geq (.t 37) (.c (.int .u8 97))⟩,
  ⟨(some 39), none, .mv (.t 38)⟩,
  ⟨(some 40), (some (39, true)), .mv (.t 0)⟩,
  ⟨(some 41), (some (39, true)), .mv (.t 3)⟩,
  ⟨(some 42), (some (39, true)), .ixs (.t 40) (.t 41)⟩,
  ⟨(some 43), (some (39, true)), .bin .leq (.t 42) (.c (.int .u8 122))⟩,
  ⟨(some 44), none, .pick (.t 39) (.t 43) (.c (.bool false))⟩,
  ⟨(some 5), none, .mv (.t 44)⟩]
@[reducible] def i30_R7 : List Iop := [⟨(some 45), none, .mv (.t 4)⟩,
  ⟨(some 46), none, .nt (.t 45)⟩,
  ⟨(some 47), none, .mv (.t 46)⟩,
  ⟨(some 48), (some (47, true)), .mv (.t 5)⟩,
  ⟨(some 49), (some (47, true)), .nt (.t 48)⟩,
  ⟨(some 50), none, .pick (.t 47) (.t 49) (.c (.bool false))⟩]
@[reducible] def i30_R8 : List Iop := [⟨(some 2), none, .mv (.c (.bool false))⟩]
@[reducible] def i30_R9 : List Iop := [⟨(some 23), none, .mv (.t 3)⟩,
  ⟨(some 24), none, .bin .add (.t 23) (.c (.int .i64 1))⟩,
  ⟨(some 3), none, .mv (.t 24)⟩]
@[reducible] def i30_L0 : IC := (.seq (.seq (.reg none i30_R4) (.cond (.t 22) .skip (.out 0))) (.seq (.block 1 (.seq (.reg none i30_R5) (.seq (.reg none i30_R6) (.seq (.reg none i30_R7) (.cond (.t 50) (.seq (.reg none i30_R8) .ret) .skip))))) (.reg none i30_R9)))
@[reducible] def i30_R10 : List Iop := [⟨(some 2), none, .mv (.c (.bool true))⟩]
@[reducible] def i30_B : IC := (.seq (.reg none i30_R0) (.seq (.seq (.reg none i30_R1) (.cond (.t 18) (.seq (.reg none i30_R2) .ret) .skip)) (.seq (.seq (.reg none i30_R3) (.block 0 (.loop i30_L0))) (.seq (.reg none i30_R10) .ret))))
@[reducible] def i30_V : List Nat := [0, 2, 3, 4, 5, 18, 22, 50]
def i30 : IFn := ⟨51, i30_V, [.tmp 2], i30_B⟩
theorem i30_ok : compF Go.Proofs.Try.prog i30_V Go.Proofs.Try.f30 = some i30 := by kernel_rfl
/-! funicular/funicularref07.Check -/
@[reducible] def i31_R0 : List Iop := [⟨(some 1), none, .box (.t 0)⟩,
  ⟨(some 2), none, .mv (.c (.int .i64 0))⟩]
@[reducible] def i31_R1 : List Iop := [⟨(some 3), none, .ld true 4 (.t 1)⟩,
  ⟨(some 4), none, .call 52 [(.t 3), (.c (.int .i64 1))]⟩,
  ⟨(some 2), none, .mv (.t 4)⟩]
@[reducible] def i31_B : IC := (.seq (.reg none i31_R0) (.seq (.reg none i31_R1) .ret))
@[reducible] def i31_V : List Nat := [0, 1, 2]
def i31 : IFn := ⟨5, i31_V, [.tmp 2], i31_B⟩
theorem i31_ok : compF Go.Proofs.Try.prog i31_V Go.Proofs.Try.f31 = some i31 := by kernel_rfl
/-! funicular/funicularref08.typed -/
@[reducible] def i32_R0 : List Iop := [⟨(some 1), none, .box (.t 0)⟩,
  ⟨(some 2), none, .mv (.c (.bool false))⟩]
@[reducible] def i32_R1 : List Iop := [⟨(some 3), none, .mv (.c (.int .i64 0))⟩]
@[reducible] def i32_R2 : List Iop := [⟨(some 6), none, .mv (.t 3)⟩,
  ⟨(some 7), none, .fa 3 (.t 1)⟩,
  ⟨(some 8), none, .ld false 1 (.t 7)⟩,
  ⟨(some 9), none, .lenl (.t 8)⟩,
  ⟨(some 10), none, .bin .lss (.t 6) (.t 9)⟩]
@[reducible] def i32_R3 : List Iop := [⟨(some 13), none, .fa 3 (.t 1)⟩,
  ⟨(some 14), none, .ld false 1 (.t 13)⟩,
  ⟨(some 15), none, .mv (.t 3)⟩,
  ⟨(some 16), none, .ias 4 (.t 14) (.t 15)⟩,
  ⟨(some 17), none, .ld true 4 (.t 16)⟩,
  ⟨(some 18), none, .call 32 [(.t 17)]⟩,
  ⟨(some 19), none, .nt (.t 18)⟩]
@[reducible] def i32_R4 : List Iop := [⟨(some 2), none, .mv (.c (.bool false))⟩]
@[reducible] def i32_R5 : List Iop := [⟨(some 20), none, .fa 3 (.t 1)⟩,
  ⟨(some 21), none, .ld false 1 (.t 20)⟩,
  ⟨(some 22), none, .mv (.t 3)⟩,
  ⟨(some 23), none, .ias 4 (.t 21) (.t 22)⟩,
  ⟨(some 24), none, .fa 0 (.t 23)⟩,
  ⟨(some 25), none, .ld false 1 (.t 24)⟩,
  ⟨(some 26), none, .call 33 [(.t 25)]⟩,
  ⟨(some 4), none, .mv (.t 26)⟩]
@[reducible] def i32_R6 : List Iop := [⟨(some 27), none, .fa 0 (.t 1)⟩,
  ⟨(some 28), none, .ld false 1 (.t 27)⟩,
  ⟨(some 29), none, .bin .eql (.t 28) (.c (.int .i64 11))⟩]
@[reducible] def i32_R7 : List Iop := [⟨(some 30), none, .mv (.t 4)⟩,
  ⟨(some 31), none, .fa 3 (.t 1)⟩,
  ⟨(some 32), none, .ld false 1 (.t 31)⟩,
  ⟨(some 33), none, .ias 4 (.t 32) (.c (.int .i64 0))⟩,
  ⟨(some 34), none, .fa 0 (.t 33)⟩,
  ⟨(some 35), none, .ld false 1 (.t 34)⟩,
  ⟨(some 36), none, .call 33 [(.t 35)]⟩,
  ⟨(some 37), none, .eqb true (.t 30) (.t 36)⟩]
@[reducible] def i32_R8 : List Iop := [⟨(some 2), none, .mv (.c (.bool false))⟩]
@[reducible] def i32_R9 : List Iop := [⟨(some 38), none, .fa 0 (.t 1)⟩,
  ⟨(some 39), none, .ld false 1 (.t 38)⟩,
  ⟨(some 40), none, .bin .eql (.t 39) (.c (.int .i64 6))⟩,
  ⟨(some 41), none, .mv (.t 40)⟩,
  ⟨(some 42), (some (41, false)), .fa 0 (.t 1)⟩,
  ⟨(some 43), (some (41, false)), .ld false 1 (.t 42)⟩,
  ⟨(some 44), (some (41, false)), .bin .eql (.t 43) (.c (.int .i64 13))⟩,
  ⟨(some 45), none, .pick (.t 41) (.c (.bool true)) (.t 44)⟩,
  ⟨(some 46), none, .mv (.t 45)⟩,
  ⟨(some 47), (some (46, false)), .fa 0 (.t 1)⟩,
  ⟨(some 48), (some (46, false)), .ld false 1 (.t 47)⟩,
  ⟨(some 49), (some (46, false)), .bin .eql (.t 48) (.c (.int .i64 14))⟩,
  ⟨(some 50), none, .pick (.t 46) (.c (.bool true)) (.t 49)⟩,
  ⟨(some 5), none, .mv (.t 50)⟩]
@[reducible] def i32_R10 : List Iop := [⟨(some 51), none, .mv (.t 4)⟩,
  ⟨(some 52), none, .mv (.t 5)⟩,
  ⟨(some 53), none, .eqb true (.t 51) (.t 52)⟩]
@[reducible] def i32_R11 : List Iop := [⟨(some 2), none, .mv (.c (.bool false))⟩]
@[reducible] def i32_R12 : List Iop := [⟨(some 11), none, .mv (.t 3)⟩,
  ⟨(some 12), none, .bin .add (.t 11) (.c (.int .i64 1))⟩,
  ⟨(some 3), none, .mv (.t 12)⟩]
@[reducible] def i32_L0 : IC := (.seq (.seq (.reg none i32_R2) (.cond (.t 10) .skip (.out 0))) (.seq (.block 1 (.seq (.seq (.reg none i32_R3) (.cond (.t 19) (.seq (.reg none i32_R4) .ret) .skip)) (.seq (.reg none i32_R5) (.seq (.seq (.reg none i32_R6) (.cond (.t 29) (.seq (.seq (.reg none i32_R7) (.cond (.t 37) (.seq (.reg none i32_R8) .ret) .skip)) (.out 1)) .skip)) (.seq (.reg none i32_R9) (.seq (.reg none i32_R10) (.cond (.t 53) (.seq (.reg none i32_R11) .ret) .skip))))))) (.reg none i32_R12)))
@[reducible] def i32_R13 : List Iop := [⟨(some 2), none, .mv (.c (.bool true))⟩]
@[reducible] def i32_B : IC := (.seq (.reg none i32_R0) (.seq (.seq (.reg none i32_R1) (.block 0 (.loop i32_L0))) (.seq (.reg none i32_R13) .ret)))
@[reducible] def i32_V : List Nat := [0, 1, 2, 3, 4, 5, 10, 19, 29, 37, 53]
def i32 : IFn := ⟨54, i32_V, [.tmp 2], i32_B⟩
theorem i32_ok : compF Go.Proofs.Try.prog i32_V Go.Proofs.Try.f32 = some i32 := by kernel_rfl
/-! funicular/funicularref08.truth -/
@[reducible] def i33_R0 : List Iop := [⟨(some 2), none, .mv (.c (.bool false))⟩]
@[reducible] def i33_R1 : List Iop := [⟨(some 3), none, .mv (.t 0)⟩,
  ⟨(some 4), none, .bin .eql (.t 3) (.c (.int .i64 3))⟩,
  ⟨(some 5), none, .mv (.t 4)⟩,
  ⟨(some 6), (some (5, false)), .mv (.t 0)⟩,
  ⟨(some 7), (some (5, false)), .bin .eql (.t 6) (.c (.int .i64 4))⟩,
  ⟨(some 8), none, .pick (.t 5) (.c (.bool true)) (.t 7)⟩,
  ⟨(some 9), none, .mv (.t 8)⟩,
  ⟨(some 10), (some (9, false)), .mv (.t 0)⟩,
  ⟨(some 11), (some (9, false)), .bin .eql (.t 10) (.c (.int .i64 6))⟩,
  ⟨(some 12), none, .pick (.t 9) (.c (.bool true)) (.t 11)⟩,
  ⟨(some 13), none, .mv (.t 12)⟩,
  ⟨(some 14), (some (13, false)), .mv (.t 0)⟩,
  ⟨(some 15), (some (13, false)), .bin .eql (.t 14) (.c (.int .i64 11))⟩,
  ⟨(some 16), none, .pick (.t 13) (.c (.bool true)) (.t 15)⟩,
  ⟨(some 17), none, .mv (.t 16)⟩,
  ⟨(some 18), (some (17, false)), .mv (.t 0)⟩,
  ⟨(some 19), (some (17, false)), .bin .eql (.t 18) (.c (.int .i64 12))⟩,
  ⟨(some 20), none, .pick (.t 17) (.c (.bool true)) (.t 19)⟩,
  ⟨(some 21), none, .mv (.t 20)⟩,
  ⟨(some 22), (some (21, false)), .mv (.t 0)⟩,
  ⟨(some 23), (some (21, false)), .bin .eql (.t 22) (.c (.int .i64 13))⟩,
  ⟨(some 24), none, .pick (.t 21) (.c (.bool true)) (.t 23)⟩,
  ⟨(some 25), none, .mv (.t 24)⟩,
  ⟨(some 26), (some (25, false)), .mv (.t 0)⟩,
  ⟨(some 27), (some (25, false)), .bin .eql (.t 26) (.c (.int .i64 14))⟩,
  ⟨(some 28), none, .pick (.t 25) (.c (.bool true)) (.t 27)⟩,
  ⟨(some 2), none, .mv (.t 28)⟩]
@[reducible] def i33_B : IC := (.seq (.reg none i33_R0) (.seq (.reg none i33_R1) .ret))
@[reducible] def i33_V : List Nat := [0, 2]
def i33 : IFn := ⟨29, i33_V, [.tmp 2], i33_B⟩
theorem i33_ok : compF Go.Proofs.Try.prog i33_V Go.Proofs.Try.f33 = some i33 := by kernel_rfl
/-! funicular/funicularref08.fold -/
@[reducible] def i34_R0 : List Iop := [⟨(some 1), none, .box (.t 0)⟩,
  ⟨(some 2), none, .alloc [.int .i64 0, .int .i64 0, .str ⟨#[]⟩, .nil]⟩]
@[reducible] def i34_R1 : List Iop := [⟨(some 5), none, .fa 3 (.t 1)⟩,
  ⟨(some 6), none, .ld false 1 (.t 5)⟩,
  ⟨(some 7), none, .lenl (.t 6)⟩,
  ⟨(some 8), none, .bin .eql (.t 7) (.c (.int .i64 0))⟩]
@[reducible] def i34_R2 : List Iop := [⟨(some 9), none, .ld true 4 (.t 1)⟩,
  ⟨none, none, .st 4 (.t 2) (.t 9)⟩]
@[reducible] def i34_R3 : List Iop := [⟨(some 10), none, .fa 3 (.t 1)⟩,
  ⟨(some 11), none, .ld false 1 (.t 10)⟩,
  ⟨(some 12), none, .ias 4 (.t 11) (.c (.int .i64 0))⟩,
  ⟨(some 13), none, .ld true 4 (.t 12)⟩,
  ⟨(some 14), none, .call 34 [(.t 13)]⟩,
  ⟨(some 3), none, .alloc [.int .i64 0, .int .i64 0, .str ⟨#[]⟩, .nil]⟩,
  ⟨none, none, .st 4 (.t 3) (.t 14)⟩]
@[reducible] def i34_R4 : List Iop := [⟨(some 15), none, .fa 3 (.t 1)⟩,
  ⟨(some 16), none, .ld false 1 (.t 15)⟩,
  ⟨(some 17), none, .lenl (.t 16)⟩,
  ⟨(some 18), none, .bin .eql (.t 17) (.c (.int .i64 2))⟩]
@[reducible] def i34_R5 : List Iop := [⟨(some 19), none, .fa 3 (.t 1)⟩,
  ⟨(some 20), none, .ld false 1 (.t 19)⟩,
  ⟨(some 21), none, .ias 4 (.t 20) (.c (.int .i64 1))⟩,
  ⟨(some 22), none, .ld true 4 (.t 21)⟩,
  ⟨(some 23), none, .call 34 [(.t 22)]⟩,
  ⟨(some 4), none, .alloc [.int .i64 0, .int .i64 0, .str ⟨#[]⟩, .nil]⟩,
  ⟨none, none, .st 4 (.t 4) (.t 23)⟩]
@[reducible] def i34_R6 : List Iop := [⟨(some 24), none, .fa 0 (.t 1)⟩,
  ⟨(some 25), none, .ld false 1 (.t 24)⟩,
  ⟨(some 26), none, .ld true 4 (.t 3)⟩,
  ⟨(some 27), none, .ld true 4 (.t 4)⟩,
  ⟨(some 28), none, .call 53 [(.t 25), (.t 26), (.t 27)]⟩,
  ⟨none, none, .st 4 (.t 2) (.t 28)⟩]
@[reducible] def i34_R7 : List Iop := [⟨(some 29), none, .fa 0 (.t 1)⟩,
  ⟨(some 30), none, .ld false 1 (.t 29)⟩,
  ⟨(some 31), none, .bin .eql (.t 30) (.c (.int .i64 6))⟩,
  ⟨(some 32), none, .mv (.t 31)⟩,
  ⟨(some 33), (some (32, true)), .ld true 4 (.t 3)⟩,
  ⟨(some 34), (some (32, true)), .call 54 [(.t 33)]⟩,
  ⟨(some 35), none, .pick (.t 32) (.t 34) (.c (.bool false))⟩]
@[reducible] def i34_R8 : List Iop := [⟨(some 36), none, .fa 0 (.t 3)⟩,
  ⟨(some 37), none, .ld false 1 (.t 36)⟩,
  ⟨(some 38), none, .bin .eql (.t 37) (.c (.int .i64 4))⟩,
  ⟨(some 39), none, .call 55 [(.t 38)]⟩,
  ⟨none, none, .st 4 (.t 2) (.t 39)⟩]
@[reducible] def i34_R9 : List Iop := [⟨(some 40), none, .fa 0 (.t 1)⟩,
  ⟨(some 41), none, .ld false 1 (.t 40)⟩,
  ⟨(some 42), none, .bin .eql (.t 41) (.c (.int .i64 5))⟩,
  ⟨(some 43), none, .mv (.t 42)⟩,
  ⟨(some 44), (some (43, true)), .fa 0 (.t 3)⟩,
  ⟨(some 45), (some (43, true)), .ld false 1 (.t 44)⟩,
  ⟨(some 46), (some (43, true)), .bin .eql (.t 45) (.c (.int .i64 1))⟩,
  ⟨(some 47), none, .pick (.t 43) (.t 46) (.c (.bool false))⟩,
  ⟨(some 48), none, .mv (.t 47)⟩,
  ⟨(some 49), (some (48, true)), .fa 1 (.t 3)⟩,
  ⟨(some 50), (some (48, true)), .ld false 1 (.t 49)⟩,
  ⟨(some 51), (some (48, true)), .bin .eql (.t 50) (.c (.int .i64 0))⟩,
  ⟨(some 52), none, .pick (.t 48) (.t 51) (.c (.bool false))⟩]
@[reducible] def i34_R10 : List Iop := [⟨(some 53), none, .ld true 4 (.t 3)⟩,
  ⟨none, none, .st 4 (.t 2) (.t 53)⟩]
@[reducible] def i34_R11 : List Iop := [⟨(some 54), none, .fa 0 (.t 1)⟩,
  ⟨(some 55), none, .ld false 1 (.t 54)⟩,
  ⟨(some 56), none, .ld true 4 (.t 3)⟩,
  ⟨(some 57), none, .bsl 4 [.int .i64 0, .int .i64 0, .str ⟨#[]⟩, .imm 0 [] false] 1 [(0, (.t 56))]⟩,
  ⟨(some 58), none, .build [.int .i64 0, .int .i64 0, .str ⟨#[]⟩, .nil] [(0, 1, (.t 55)), (3, 1, (.t 57))]⟩,
  ⟨none, none, .st 4 (.t 2) (.t 58)⟩]
@[reducible] def i34_B : IC := (.seq (.reg none i34_R0) (.seq (.seq (.reg none i34_R1) (.cond (.t 8) (.seq (.reg none i34_R2) .ret) .skip)) (.seq (.reg none i34_R3) (.seq (.seq (.reg none i34_R4) (.cond (.t 18) (.seq (.reg none i34_R5) (.seq (.reg none i34_R6) .ret)) .skip)) (.seq (.seq (.reg none i34_R7) (.cond (.t 35) (.seq (.reg none i34_R8) .ret) .skip)) (.seq (.seq (.reg none i34_R9) (.cond (.t 52) (.seq (.reg none i34_R10) .ret) .skip)) (.seq (.reg none i34_R11) .ret)))))))
@[reducible] def i34_V : List Nat := [0, 1, 2, 3, 4, 8, 18, 35, 52]
def i34 : IFn := ⟨59, i34_V, [.cell 2 true 4], i34_B⟩
theorem i34_ok : compF Go.Proofs.Try.prog i34_V Go.Proofs.Try.f34 = some i34 := by kernel_rfl
/-! funicular/funicularref08.asks -/
@[reducible] def i35_R0 : List Iop := [⟨(some 2), none, .box (.t 0)⟩,
  ⟨(some 4), none, .mv (.c (.bool false))⟩]
@[reducible] def i35_R1 : List Iop := [⟨(some 6), none, .fa 0 (.t 2)⟩,
  ⟨(some 7), none, .ld false 1 (.t 6)⟩,
  ⟨(some 8), none, .bin .eql (.t 7) (.c (.int .i64 2))⟩,
  ⟨(some 9), none, .mv (.t 8)⟩,
  ⟨(some 10), (some (9, true)), .fa 2 (.t 2)⟩,
  ⟨(some 11), (some (9, true)), .ld false 1 (.t 10)⟩,
  ⟨(some 12), (some (9, true)), .mv (.t 1)⟩,
  ⟨(some 13), (some (9, true)), .bin .eql (.t 11) (.t 12)⟩,
  ⟨(some 14), none, .pick (.t 9) (.t 13) (.c (.bool false))⟩]
@[reducible] def i35_R2 : List Iop := [⟨(some 4), none, .mv (.c (.bool true))⟩]
@[reducible] def i35_R3 : List Iop := [⟨(some 5), none, .mv (.c (.int .i64 0))⟩]
@[reducible] def i35_R4 : List Iop := [⟨(some 15), none, .mv (.t 5)⟩,
  ⟨(some 16), none, .fa 3 (.t 2)⟩,
  ⟨(some 17), none, .ld false 1 (.t 16)⟩,
  ⟨(some 18), none, .lenl (.t 17)⟩,
  ⟨(some 19), none, .bin .lss (.t 15) (.t 18)⟩]
@[reducible] def i35_R5 : List Iop := [⟨(some 22), none, .fa 3 (.t 2)⟩,
  ⟨(some 23), none, .ld false 1 (.t 22)⟩,
  ⟨(some 24), none, .mv (.t 5)⟩,
  ⟨(some 25), none, .ias 4 (.t 23) (.t 24)⟩,
  ⟨(some 26), none, .ld true 4 (.t 25)⟩,
  ⟨(some 27), none, .mv (.t 1)⟩,
  ⟨(some 28), none, .call 35 [(.t 26), (.t 27)]⟩]
@[reducible] def i35_R6 : List Iop := [⟨(some 4), none, .mv (.c (.bool true))⟩]
@[reducible] def i35_R7 : List Iop := [⟨(some 20), none, .mv (.t 5)⟩,
  ⟨(some 21), none, .bin .add (.t 20) (.c (.int .i64 1))⟩,
  ⟨(some 5), none, .mv (.t 21)⟩]
@[reducible] def i35_L0 : IC := (.seq (.seq (.reg none i35_R4) (.cond (.t 19) .skip (.out 0))) (.seq (.block 1 (.seq (.reg none i35_R5) (.cond (.t 28) (.seq (.reg none i35_R6) .ret) .skip))) (.reg none i35_R7)))
@[reducible] def i35_R8 : List Iop := [⟨(some 4), none, .mv (.c (.bool false))⟩]
@[reducible] def i35_B : IC := (.seq (.reg none i35_R0) (.seq (.seq (.reg none i35_R1) (.cond (.t 14) (.seq (.reg none i35_R2) .ret) .skip)) (.seq (.seq (.reg none i35_R3) (.block 0 (.loop i35_L0))) (.seq (.reg none i35_R8) .ret))))
@[reducible] def i35_V : List Nat := [0, 1, 2, 4, 5, 14, 19, 28]
def i35 : IFn := ⟨29, i35_V, [.tmp 4], i35_B⟩
theorem i35_ok : compF Go.Proofs.Try.prog i35_V Go.Proofs.Try.f35 = some i35 := by kernel_rfl
/-! funicular/funicularref09.put -/
@[reducible] def i36_R0 : List Iop := [⟨(some 3), none, .box (.t 0)⟩,
  ⟨(some 6), none, .alloc [.nil, .nil]⟩]
@[reducible] def i36_R1 : List Iop := [⟨(some 10), none, .build [.nil, .nil] []⟩,
  ⟨(some 7), none, .alloc [.nil, .nil]⟩,
  ⟨none, none, .st 2 (.t 7) (.t 10)⟩]
@[reducible] def i36_R2 : List Iop := [⟨(some 8), none, .mv (.c (.bool false))⟩]
@[reducible] def i36_R3 : List Iop := [⟨(some 9), none, .mv (.c (.int .i64 0))⟩]
@[reducible] def i36_R4 : List Iop := [⟨(some 11), none, .mv (.t 9)⟩,
  ⟨(some 12), none, .fa 0 (.t 3)⟩,
  ⟨(some 13), none, .ld false 1 (.t 12)⟩,
  ⟨(some 14), none, .lenl (.t 13)⟩,
  ⟨(some 15), none, .bin .lss (.t 11) (.t 14)⟩]
@[reducible] def i36_R5 : List Iop := [⟨(some 18), none, .mv (.t 8)⟩,
  ⟨(some 19), none, .nt (.t 18)⟩,
  ⟨(some 20), none, .mv (.t 19)⟩,
  ⟨(some 21), (some (20, true)), .fa 0 (.t 3)⟩,
  ⟨(some 22), (some (20, true)), .ld false 1 (.t 21)⟩,
  ⟨(some 23), (some (20, true)), .mv (.t 9)⟩,
  ⟨(some 24), (some (20, true)), .ias 1 (.t 22) (.t 23)⟩,
  ⟨(some 25), (some (20, true)), .ld false 1 (.t 24)⟩,
  ⟨(some 26), (some (20, true)), .mv (.t 1)⟩,
  ⟨(some 27), (some (20, true)), .bin .lss (.t 25) (.t 26)⟩,
  ⟨(some 28), (some (20, true)), .nt (.t 27)⟩,
  ⟨(some 29), none, .pick (.t 20) (.t 28) (.c (.bool false))⟩]
@[reducible] def i36_R6 : List Iop := [⟨(some 30), none, .fa 0 (.t 7)⟩,
  ⟨(some 31), none, .ld false 1 (.t 30)⟩,
  ⟨(some 32), none, .mv (.t 1)⟩,
  ⟨(some 33), none, .bsl 1 [.str ⟨#[]⟩] 1 [(0, (.t 32))]⟩,
  ⟨(some 34), none, .app 1 (.t 31) (.t 33)⟩,
  ⟨(some 35), none, .fa 0 (.t 7)⟩,
  ⟨none, none, .st 1 (.t 35) (.t 34)⟩]
@[reducible] def i36_R7 : List Iop := [⟨(some 36), none, .fa 1 (.t 7)⟩,
  ⟨(some 37), none, .ld false 1 (.t 36)⟩,
  ⟨(some 38), none, .mv (.t 2)⟩,
  ⟨(some 39), none, .bsl 1 [.int .i64 0] 1 [(0, (.t 38))]⟩,
  ⟨(some 40), none, .app 1 (.t 37) (.t 39)⟩,
  ⟨(some 41), none, .fa 1 (.t 7)⟩,
  ⟨none, none, .st 1 (.t 41) (.t 40)⟩]
@[reducible] def i36_R8 : List Iop := [⟨(some 8), none, .mv (.c (.bool true))⟩]
@[reducible] def i36_R9 : List Iop := [⟨(some 42), none, .fa 0 (.t 3)⟩,
  ⟨(some 43), none, .ld false 1 (.t 42)⟩,
  ⟨(some 44), none, .mv (.t 9)⟩,
  ⟨(some 45), none, .ias 1 (.t 43) (.t 44)⟩,
  ⟨(some 46), none, .ld false 1 (.t 45)⟩,
  ⟨(some 47), none, .mv (.t 1)⟩,
  ⟨(some 48), none, .bin .neq (.t 46) (.t 47)⟩]
@[reducible] def i36_R10 : List Iop := [⟨(some 49), none, .fa 0 (.t 7)⟩,
  ⟨(some 50), none, .ld false 1 (.t 49)⟩,
  ⟨(some 51), none, .fa 0 (.t 3)⟩,
  ⟨(some 52), none, .ld false 1 (.t 51)⟩,
  ⟨(some 53), none, .mv (.t 9)⟩,
  ⟨(some 54), none, .ias 1 (.t 52) (.t 53)⟩,
  ⟨(some 55), none, .ld false 1 (.t 54)⟩,
  ⟨(some 56), none, .bsl 1 [.str ⟨#[]⟩] 1 [(0, (.t 55))]⟩,
  ⟨(some 57), none, .app 1 (.t 50) (.t 56)⟩,
  ⟨(some 58), none, .fa 0 (.t 7)⟩,
  ⟨none, none, .st 1 (.t 58) (.t 57)⟩]
@[reducible] def i36_R11 : List Iop := [⟨(some 59), none, .fa 1 (.t 7)⟩,
  ⟨(some 60), none, .ld false 1 (.t 59)⟩,
  ⟨(some 61), none, .fa 1 (.t 3)⟩,
  ⟨(some 62), none, .ld false 1 (.t 61)⟩,
  ⟨(some 63), none, .mv (.t 9)⟩,
  ⟨(some 64), none, .ias 1 (.t 62) (.t 63)⟩,
  ⟨(some 65), none, .ld false 1 (.t 64)⟩,
  ⟨(some 66), none, .bsl 1 [.int .i64 0] 1 [(0, (.t 65))]⟩,
  ⟨(some 67), none, .app 1 (.t 60) (.t 66)⟩,
  ⟨(some 68), none, .fa 1 (.t 7)⟩,
  ⟨none, none, .st 1 (.t 68) (.t 67)⟩]
@[reducible] def i36_R12 : List Iop := [⟨(some 16), none, .mv (.t 9)⟩,
  ⟨(some 17), none, .bin .add (.t 16) (.c (.int .i64 1))⟩,
  ⟨(some 9), none, .mv (.t 17)⟩]
@[reducible] def i36_L0 : IC := (.seq (.seq (.reg none i36_R4) (.cond (.t 15) .skip (.out 0))) (.seq (.block 1 (.seq (.seq (.reg none i36_R5) (.cond (.t 29) (.seq (.reg none i36_R6) (.seq (.reg none i36_R7) (.reg none i36_R8))) .skip)) (.seq (.reg none i36_R9) (.cond (.t 48) (.seq (.reg (some []) i36_R10) (.reg (some []) i36_R11)) .skip)))) (.reg none i36_R12)))
@[reducible] def i36_R13 : List Iop := [⟨(some 69), none, .mv (.t 8)⟩,
  ⟨(some 70), none, .nt (.t 69)⟩]
@[reducible] def i36_R14 : List Iop := [⟨(some 71), none, .fa 0 (.t 7)⟩,
  ⟨(some 72), none, .ld false 1 (.t 71)⟩,
  ⟨(some 73), none, .mv (.t 1)⟩,
  ⟨(some 74), none, .bsl 1 [.str ⟨#[]⟩] 1 [(0, (.t 73))]⟩,
  ⟨(some 75), none, .app 1 (.t 72) (.t 74)⟩,
  ⟨(some 76), none, .fa 0 (.t 7)⟩,
  ⟨none, none, .st 1 (.t 76) (.t 75)⟩]
@[reducible] def i36_R15 : List Iop := [⟨(some 77), none, .fa 1 (.t 7)⟩,
  ⟨(some 78), none, .ld false 1 (.t 77)⟩,
  ⟨(some 79), none, .mv (.t 2)⟩,
  ⟨(some 80), none, .bsl 1 [.int .i64 0] 1 [(0, (.t 79))]⟩,
  ⟨(some 81), none, .app 1 (.t 78) (.t 80)⟩,
  ⟨(some 82), none, .fa 1 (.t 7)⟩,
  ⟨none, none, .st 1 (.t 82) (.t 81)⟩]
@[reducible] def i36_R16 : List Iop := [⟨(some 83), none, .ld true 2 (.t 7)⟩,
  ⟨none, none, .st 2 (.t 6) (.t 83)⟩]
@[reducible] def i36_B : IC := (.seq (.reg none i36_R0) (.seq (.reg none i36_R1) (.seq (.reg none i36_R2) (.seq (.seq (.reg none i36_R3) (.block 0 (.loop i36_L0))) (.seq (.seq (.reg none i36_R13) (.cond (.t 70) (.seq (.reg none i36_R14) (.reg none i36_R15)) .skip)) (.seq (.reg none i36_R16) .ret))))))
@[reducible] def i36_V : List Nat := [0, 1, 2, 3, 6, 7, 8, 9, 15, 29, 48, 70]
def i36 : IFn := ⟨84, i36_V, [.cell 6 true 2], i36_B⟩
theorem i36_ok : compF Go.Proofs.Try.prog i36_V Go.Proofs.Try.f36 = some i36 := by kernel_rfl
/-! funicular/funicularref08.collect -/
@[reducible] def i37_R0 : List Iop := [⟨(some 1), none, .box (.t 0)⟩,
  ⟨(some 2), none, .mv (.c (.nil))⟩]
@[reducible] def i37_R1 : List Iop := [⟨(some 5), none, .fa 0 (.t 1)⟩,
  ⟨(some 6), none, .ld false 1 (.t 5)⟩,
  ⟨(some 7), none, .bin .eql (.t 6) (.c (.int .i64 2))⟩]
@[reducible] def i37_R2 : List Iop := [⟨(some 8), none, .fa 2 (.t 1)⟩,
  ⟨(some 9), none, .ld false 1 (.t 8)⟩,
  ⟨(some 10), none, .bsl 1 [.str ⟨#[]⟩] 1 [(0, (.t 9))]⟩,
  ⟨(some 2), none, .mv (.t 10)⟩]
@[reducible] def i37_R3 : List Iop := [⟨(some 3), none, .mv (.c (.nil))⟩]
@[reducible] def i37_R4 : List Iop := [⟨(some 4), none, .mv (.c (.int .i64 0))⟩]
@[reducible] def i37_R5 : List Iop := [⟨(some 11), none, .mv (.t 4)⟩,
  ⟨(some 12), none, .fa 3 (.t 1)⟩,
  ⟨(some 13), none, .ld false 1 (.t 12)⟩,
  ⟨(some 14), none, .lenl (.t 13)⟩,
  ⟨(some 15), none, .bin .lss (.t 11) (.t 14)⟩]
@[reducible] def i37_R6 : List Iop := [⟨(some 18), none, .mv (.t 3)⟩,
  ⟨(some 19), none, .fa 3 (.t 1)⟩,
  ⟨(some 20), none, .ld false 1 (.t 19)⟩,
  ⟨(some 21), none, .mv (.t 4)⟩,
  ⟨(some 22), none, .ias 4 (.t 20) (.t 21)⟩,
  ⟨(some 23), none, .ld true 4 (.t 22)⟩,
  ⟨(some 24), none, .call 37 [(.t 23)]⟩,
  ⟨(some 25), none, .app 1 (.t 18) (.t 24)⟩,
  ⟨(some 3), none, .mv (.t 25)⟩]
@[reducible] def i37_R7 : List Iop := [⟨(some 16), none, .mv (.t 4)⟩,
  ⟨(some 17), none, .bin .add (.t 16) (.c (.int .i64 1))⟩,
  ⟨(some 4), none, .mv (.t 17)⟩]
@[reducible] def i37_L0 : IC := (.seq (.seq (.reg none i37_R5) (.cond (.t 15) .skip (.out 0))) (.seq (.block 1 (.reg none i37_R6)) (.reg none i37_R7)))
@[reducible] def i37_R8 : List Iop := [⟨(some 26), none, .mv (.t 3)⟩,
  ⟨(some 2), none, .mv (.t 26)⟩]
@[reducible] def i37_B : IC := (.seq (.reg none i37_R0) (.seq (.seq (.reg none i37_R1) (.cond (.t 7) (.seq (.reg none i37_R2) .ret) .skip)) (.seq (.reg none i37_R3) (.seq (.seq (.reg none i37_R4) (.block 0 (.loop i37_L0))) (.seq (.reg none i37_R8) .ret)))))
@[reducible] def i37_V : List Nat := [0, 1, 2, 3, 4, 7, 15]
def i37 : IFn := ⟨27, i37_V, [.tmp 2], i37_B⟩
theorem i37_ok : compF Go.Proofs.Try.prog i37_V Go.Proofs.Try.f37 = some i37 := by kernel_rfl
/-! funicular/funicularref08.rename -/
@[reducible] def i38_R0 : List Iop := [⟨(some 3), none, .box (.t 0)⟩,
  ⟨(some 6), none, .alloc [.int .i64 0, .int .i64 0, .str ⟨#[]⟩, .nil]⟩]
@[reducible] def i38_R1 : List Iop := [⟨(some 9), none, .fa 0 (.t 3)⟩,
  ⟨(some 10), none, .ld false 1 (.t 9)⟩,
  ⟨(some 11), none, .bin .eql (.t 10) (.c (.int .i64 2))⟩,
  ⟨(some 12), none, .mv (.t 11)⟩,
  ⟨(some 13), (some (12, true)), .fa 2 (.t 3)⟩,
  ⟨(some 14), (some (12, true)), .ld false 1 (.t 13)⟩,
  ⟨(some 15), (some (12, true)), .mv (.t 1)⟩,
  ⟨(some 16), (some (12, true)), .bin .eql (.t 14) (.t 15)⟩,
  ⟨(some 17), none, .pick (.t 12) (.t 16) (.c (.bool false))⟩]
@[reducible] def i38_R2 : List Iop := [⟨(some 18), none, .mv (.t 2)⟩,
  ⟨(some 19), none, .build [.int .i64 0, .int .i64 0, .str ⟨#[]⟩, .nil] [(0, 1, (.c (.int .i64 2))), (2, 1, (.t 18))]⟩,
  ⟨none, none, .st 4 (.t 6) (.t 19)⟩]
@[reducible] def i38_R3 : List Iop := [⟨(some 20), none, .fa 0 (.t 3)⟩,
  ⟨(some 21), none, .ld false 1 (.t 20)⟩,
  ⟨(some 22), none, .fa 1 (.t 3)⟩,
  ⟨(some 23), none, .ld false 1 (.t 22)⟩,
  ⟨(some 24), none, .fa 2 (.t 3)⟩,
  ⟨(some 25), none, .ld false 1 (.t 24)⟩,
  ⟨(some 26), none, .build [.int .i64 0, .int .i64 0, .str ⟨#[]⟩, .nil] [(0, 1, (.t 21)), (1, 1, (.t 23)), (2, 1, (.t 25))]⟩,
  ⟨(some 7), none, .alloc [.int .i64 0, .int .i64 0, .str ⟨#[]⟩, .nil]⟩,
  ⟨none, none, .st 4 (.t 7) (.t 26)⟩]
@[reducible] def i38_R4 : List Iop := [⟨(some 8), none, .mv (.c (.int .i64 0))⟩]
@[reducible] def i38_R5 : List Iop := [⟨(some 27), none, .mv (.t 8)⟩,
  ⟨(some 28), none, .fa 3 (.t 3)⟩,
  ⟨(some 29), none, .ld false 1 (.t 28)⟩,
  ⟨(some 30), none, .lenl (.t 29)⟩,
  ⟨(some 31), none, .bin .lss (.t 27) (.t 30)⟩]
@[reducible] def i38_R6 : List Iop := [⟨(some 34), none, .fa 3 (.t 7)⟩,
  ⟨(some 35), none, .ld false 1 (.t 34)⟩,
  ⟨(some 36), none, .fa 3 (.t 3)⟩,
  ⟨(some 37), none, .ld false 1 (.t 36)⟩,
  ⟨(some 38), none, .mv (.t 8)⟩,
  ⟨(some 39), none, .ias 4 (.t 37) (.t 38)⟩,
  ⟨(some 40), none, .ld true 4 (.t 39)⟩,
  ⟨(some 41), none, .mv (.t 1)⟩,
  ⟨(some 42), none, .mv (.t 2)⟩,
  ⟨(some 43), none, .call 38 [(.t 40), (.t 41), (.t 42)]⟩,
  ⟨(some 44), none, .bsl 4 [.int .i64 0, .int .i64 0, .str ⟨#[]⟩, .imm 0 [] false] 1 [(0, (.t 43))]⟩,
  ⟨(some 45), none, .app 4 (.t 35) (.t 44)⟩,
  ⟨(some 46), none, .fa 3 (.t 7)⟩,
  ⟨none, none, .st 1 (.t 46) (.t 45)⟩]
@[reducible] def i38_R7 : List Iop := [⟨(some 32), none, .mv (.t 8)⟩,
  ⟨(some 33), none, .bin .add (.t 32) (.c (.int .i64 1))⟩,
  ⟨(some 8), none, .mv (.t 33)⟩]
@[reducible] def i38_L0 : IC := (.seq (.seq (.reg none i38_R5) (.cond (.t 31) .skip (.out 0))) (.seq (.block 1 (.reg (some []) i38_R6)) (.reg none i38_R7)))
@[reducible] def i38_R8 : List Iop := [⟨(some 47), none, .ld true 4 (.t 7)⟩,
  ⟨none, none, .st 4 (.t 6) (.t 47)⟩]
@[reducible] def i38_B : IC := (.seq (.reg none i38_R0) (.seq (.seq (.reg none i38_R1) (.cond (.t 17) (.seq (.reg none i38_R2) .ret) .skip)) (.seq (.reg none i38_R3) (.seq (.seq (.reg none i38_R4) (.block 0 (.loop i38_L0))) (.seq (.reg none i38_R8) .ret)))))
@[reducible] def i38_V : List Nat := [0, 1, 2, 3, 6, 7, 8, 17, 31]
def i38 : IFn := ⟨48, i38_V, [.cell 6 true 4], i38_B⟩
theorem i38_ok : compF Go.Proofs.Try.prog i38_V Go.Proofs.Try.f38 = some i38 := by kernel_rfl
/-! funicular/funicularref07.weigh -/
@[reducible] def i39_R0 : List Iop := [⟨(some 3), none, .box (.t 0)⟩,
  ⟨(some 6), none, .mv (.c (.int .i64 0))⟩]
@[reducible] def i39_R1 : List Iop := [⟨(some 9), none, .fa 2 (.t 3)⟩,
  ⟨(some 10), none, .ld false 1 (.t 9)⟩,
  ⟨(some 11), none, .lens (.t 10)⟩,
  ⟨(some 12), none, .bin .quo (.t 11) (.c (.int .i64 40))⟩,
  ⟨(some 13), none, .bin .add (.c (.int .i64 1)) (.t 12)⟩,
  ⟨(some 7), none, .mv (.t 13)⟩]
@[reducible] def i39_R2 : List Iop := [⟨(some 8), none, .mv (.c (.int .i64 0))⟩]
@[reducible] def i39_R3 : List Iop := [⟨(some 14), none, .mv (.t 8)⟩,
  ⟨(some 15), none, .fa 3 (.t 3)⟩,
  ⟨(some 16), none, .ld false 1 (.t 15)⟩,
  ⟨(some 17), none, .lenl (.t 16)⟩,
  ⟨(some 18), none, .bin .lss (.t 14) (.t 17)⟩,
  ⟨(some 19), none, .mv (.t 18)⟩,
  ⟨(some 20), (some (19, true)), .mv (.t 7)⟩,
  ⟨(some 21), (some (19, true)), .mv (.t 1)⟩,
  ⟨(some 22), (some (19, true)), .bin .leq (.t 20) (.t 21)⟩,
  ⟨(some 23), none, .pick (.t 19) (.t 22) (.c (.bool false))⟩]
@[reducible] def i39_R4 : List Iop := [⟨(some 26), none, .mv (.t 2)⟩,
  ⟨(some 27), none, .bin .eql (.t 26) (.c (.int .i64 0))⟩]
@[reducible] def i39_R5 : List Iop := [⟨(some 28), none, .mv (.t 1)⟩,
  ⟨(some 29), none, .bin .add (.t 28) (.c (.int .i64 1))⟩,
  ⟨(some 6), none, .mv (.t 29)⟩]
@[reducible] def i39_R6 : List Iop := [⟨(some 30), none, .mv (.t 7)⟩,
  ⟨(some 31), none, .fa 3 (.t 3)⟩,
  ⟨(some 32), none, .ld false 1 (.t 31)⟩,
  ⟨(some 33), none, .mv (.t 8)⟩,
  ⟨(some 34), none, .ias 4 (.t 32) (.t 33)⟩,
  ⟨(some 35), none, .ld true 4 (.t 34)⟩,
  ⟨(some 36), none, .mv (.t 1)⟩,
  ⟨(some 37), none, .mv (.t 7)⟩,
  ⟨(some 38), none, .bin .sub (.t 36) (.t 37)⟩,
  ⟨(some 39), none, .mv (.t 2)⟩,
  ⟨(some 40), none, .bin .sub (.t 39) (.c (.int .i64 1))⟩,
  ⟨(some 41), none, .call 39 [(.t 35), (.t 38), (.t 40)]⟩,
  ⟨(some 42), none, .bin .add (.t 30) (.t 41)⟩,
  ⟨(some 7), none, .mv (.t 42)⟩]
@[reducible] def i39_R7 : List Iop := [⟨(some 24), none, .mv (.t 8)⟩,
  ⟨(some 25), none, .bin .add (.t 24) (.c (.int .i64 1))⟩,
  ⟨(some 8), none, .mv (.t 25)⟩]
@[reducible] def i39_L0 : IC := (.seq (.seq (.reg none i39_R3) (.cond (.t 23) .skip (.out 0))) (.seq (.block 1 (.seq (.seq (.reg none i39_R4) (.cond (.t 27) (.seq (.reg none i39_R5) .ret) .skip)) (.reg none i39_R6))) (.reg none i39_R7)))
@[reducible] def i39_R8 : List Iop := [⟨(some 43), none, .mv (.t 7)⟩,
  ⟨(some 6), none, .mv (.t 43)⟩]
@[reducible] def i39_B : IC := (.seq (.reg none i39_R0) (.seq (.reg none i39_R1) (.seq (.seq (.reg none i39_R2) (.block 0 (.loop i39_L0))) (.seq (.reg none i39_R8) .ret))))
@[reducible] def i39_V : List Nat := [0, 1, 2, 3, 6, 7, 8, 23, 27]
def i39 : IFn := ⟨44, i39_V, [.tmp 6], i39_B⟩
theorem i39_ok : compF Go.Proofs.Try.prog i39_V Go.Proofs.Try.f39 = some i39 := by kernel_rfl
/-! funicular/funicularref06.Split -/
@[reducible] def i40_R0 : List Iop := [⟨(some 2), none, .mv (.c (.nil))⟩,
  ⟨(some 3), none, .alloc [.int .i64 0, .int .i64 0]⟩]
@[reducible] def i40_R1 : List Iop := [⟨(some 10), none, .mv (.t 0)⟩,
  ⟨(some 11), none, .lens (.t 10)⟩,
  ⟨(some 12), none, .bin .gtr (.t 11) (.c (.int .i64 4096))⟩]
@[reducible] def i40_R2 : List Iop := [⟨(some 13), none, .build [.int .i64 0, .int .i64 0] [(0, 1, (.c (.int .i64 6)))]⟩,
  ⟨(some 2), none, .mv (.c (.nil))⟩,
  ⟨none, none, .st 2 (.t 3) (.t 13)⟩]
@[reducible] def i40_R3 : List Iop := [⟨(some 4), none, .mv (.c (.nil))⟩]
@[reducible] def i40_R4 : List Iop := [⟨(some 5), none, .mv (.c (.int .i64 0))⟩]
@[reducible] def i40_R5 : List Iop := [⟨(some 14), none, .mv (.t 5)⟩,
  ⟨(some 15), none, .mv (.t 0)⟩,
  ⟨(some 16), none, .lens (.t 15)⟩,
  ⟨(some 17), none, .bin .lss (.t 14) (.t 16)⟩]
@[reducible] def i40_R6 : List Iop := [⟨(some 18), none, .mv (.t 0)⟩,
  ⟨(some 19), none, .mv (.t 5)⟩,
  ⟨(some 20), none, .ixs (.t 18) (.t 19)⟩,
  ⟨(some 21), none, .bin .eql (.t 20) (.c (.int .u8 32))⟩]
@[reducible] def i40_R7 : List Iop := [⟨(some 22), none, .mv (.t 5)⟩,
  ⟨(some 23), none, .bin .add (.t 22) (.c (.int .i64 1))⟩,
  ⟨(some 5), none, .mv (.t 23)⟩]
@[reducible] def i40_R8 : List Iop := [⟨(some 25), none, .mv (.t 0)⟩,
  ⟨(some 26), none, .mv (.t 5)⟩,
  ⟨(some 27), none, .sls (.t 25) (some (.t 26)) none⟩,
  ⟨(some 28), none, .call 56 [(.t 27)]⟩,
  ⟨(some 24), none, .mv (.t 28)⟩,
  ⟨(some 29), none, .ext 0 (.t 24)⟩,
  ⟨(some 30), none, .ext 1 (.t 24)⟩,
  ⟨(some 31), none, .ext 2 (.t 24)⟩,
  ⟨(some 32), none, .ext 3 (.t 24)⟩,
  ⟨(some 6), none, .alloc [.int .i64 0, .str ⟨#[]⟩, .int .i64 0, .int .i64 0]⟩,
  ⟨none, none, .st 4 (.t 6) (.t 29)⟩,
  ⟨(some 7), none, .mv (.t 30)⟩,
  ⟨(some 8), none, .mv (.t 31)⟩,
  ⟨(some 9), none, .mv (.t 32)⟩]
@[reducible] def i40_R9 : List Iop := [⟨(some 33), none, .mv (.t 8)⟩,
  ⟨(some 34), none, .bin .neq (.t 33) (.c (.int .i64 0))⟩]
@[reducible] def i40_R10 : List Iop := [⟨(some 35), none, .mv (.t 8)⟩,
  ⟨(some 36), none, .mv (.t 5)⟩,
  ⟨(some 37), none, .mv (.t 9)⟩,
  ⟨(some 38), none, .bin .add (.t 36) (.t 37)⟩,
  ⟨(some 39), none, .build [.int .i64 0, .int .i64 0] [(0, 1, (.t 35)), (1, 1, (.t 38))]⟩,
  ⟨(some 2), none, .mv (.c (.nil))⟩,
  ⟨none, none, .st 2 (.t 3) (.t 39)⟩]
@[reducible] def i40_R11 : List Iop := [⟨(some 40), none, .mv (.t 5)⟩,
  ⟨(some 41), none, .fa 3 (.t 6)⟩,
  ⟨none, none, .st 1 (.t 41) (.t 40)⟩]
@[reducible] def i40_R12 : List Iop := [⟨(some 42), none, .mv (.t 4)⟩,
  ⟨(some 43), none, .ld true 4 (.t 6)⟩,
  ⟨(some 44), none, .bsl 4 [.int .i64 0, .str ⟨#[]⟩, .int .i64 0, .int .i64 0] 1 [(0, (.t 43))]⟩,
  ⟨(some 45), none, .app 4 (.t 42) (.t 44)⟩,
  ⟨(some 4), none, .mv (.t 45)⟩]
@[reducible] def i40_R13 : List Iop := [⟨(some 46), none, .mv (.t 5)⟩,
  ⟨(some 47), none, .mv (.t 7)⟩,
  ⟨(some 48), none, .bin .add (.t 46) (.t 47)⟩,
  ⟨(some 5), none, .mv (.t 48)⟩]
@[reducible] def i40_L0 : IC := (.seq (.seq (.reg none i40_R5) (.cond (.t 17) .skip (.out 0))) (.block 1 (.seq (.seq (.reg none i40_R6) (.cond (.t 21) (.seq (.reg none i40_R7) (.out 1)) .skip)) (.seq (.reg none i40_R8) (.seq (.seq (.reg none i40_R9) (.cond (.t 34) (.seq (.reg none i40_R10) .ret) .skip)) (.seq (.reg none i40_R11) (.seq (.reg none i40_R12) (.reg none i40_R13))))))))
@[reducible] def i40_R14 : List Iop := [⟨(some 49), none, .mv (.t 4)⟩,
  ⟨(some 50), none, .build [.int .i64 0, .int .i64 0] []⟩,
  ⟨(some 2), none, .mv (.t 49)⟩,
  ⟨none, none, .st 2 (.t 3) (.t 50)⟩]
@[reducible] def i40_B : IC := (.seq (.reg none i40_R0) (.seq (.seq (.reg none i40_R1) (.cond (.t 12) (.seq (.reg none i40_R2) .ret) .skip)) (.seq (.reg none i40_R3) (.seq (.reg none i40_R4) (.seq (.block 0 (.loop i40_L0)) (.seq (.reg none i40_R14) .ret))))))
@[reducible] def i40_V : List Nat := [0, 2, 3, 4, 5, 6, 7, 8, 9, 12, 17, 21, 34]
def i40 : IFn := ⟨51, i40_V, [.tmp 2, .cell 3 true 2], i40_B⟩
theorem i40_ok : compF Go.Proofs.Try.prog i40_V Go.Proofs.Try.f40 = some i40 := by kernel_rfl
/-! funicular/funicularref07.Scan -/
@[reducible] def i41_R0 : List Iop := [⟨(some 4), none, .alloc [.int .i64 0, .int .i64 0]⟩]
@[reducible] def i41_R1 : List Iop := [⟨(some 17), none, .build [.int .i64 0, .nil] [(0, 1, (.c (.int .i64 1)))]⟩,
  ⟨(some 18), none, .bsl 2 [.int .i64 0, .imm 0 [] false] 1 [(0, (.t 17))]⟩,
  ⟨(some 5), none, .mv (.t 18)⟩]
@[reducible] def i41_R2 : List Iop := [⟨(some 6), none, .mv (.c (.int .i64 0))⟩]
@[reducible] def i41_R3 : List Iop := [⟨(some 7), none, .mv (.c (.bool true))⟩]
@[reducible] def i41_R4 : List Iop := [⟨(some 8), none, .mv (.c (.int .i64 0))⟩]
@[reducible] def i41_R5 : List Iop := [⟨(some 19), none, .mv (.t 8)⟩,
  ⟨(some 20), none, .mv (.t 0)⟩,
  ⟨(some 21), none, .lenl (.t 20)⟩,
  ⟨(some 22), none, .bin .leq (.t 19) (.t 21)⟩]
@[reducible] def i41_R6 : List Iop := [⟨(some 25), none, .mv (.t 1)⟩,
  ⟨(some 9), none, .mv (.t 25)⟩]
@[reducible] def i41_R7 : List Iop := [⟨(some 26), none, .build [.int .i64 0, .str ⟨#[]⟩, .int .i64 0, .int .i64 0] []⟩,
  ⟨(some 10), none, .alloc [.int .i64 0, .str ⟨#[]⟩, .int .i64 0, .int .i64 0]⟩,
  ⟨none, none, .st 4 (.t 10) (.t 26)⟩]
@[reducible] def i41_R8 : List Iop := [⟨(some 27), none, .mv (.t 8)⟩,
  ⟨(some 28), none, .mv (.t 0)⟩,
  ⟨(some 29), none, .lenl (.t 28)⟩,
  ⟨(some 30), none, .bin .lss (.t 27) (.t 29)⟩]
@[reducible] def i41_R9 : List Iop := [⟨(some 31), none, .mv (.t 0)⟩,
  ⟨(some 32), none, .mv (.t 8)⟩,
  ⟨(some 33), none, .ias 4 (.t 31) (.t 32)⟩,
  ⟨(some 34), none, .ld true 4 (.t 33)⟩,
  ⟨none, none, .st 4 (.t 10) (.t 34)⟩]
@[reducible] def i41_R10 : List Iop := [⟨(some 35), none, .fa 3 (.t 10)⟩,
  ⟨(some 36), none, .ld false 1 (.t 35)⟩,
  ⟨(some 9), none, .mv (.t 36)⟩]
@[reducible] def i41_R11 : List Iop := [⟨(some 37), none, .mv (.t 5)⟩,
  ⟨(some 38), none, .mv (.t 5)⟩,
  ⟨(some 39), none, .lenl (.t 38)⟩,
  ⟨(some 40), none, .bin .sub (.t 39) (.c (.int .i64 1))⟩,
  ⟨(some 41), none, .ias 2 (.t 37) (.t 40)⟩,
  ⟨(some 42), none, .ld true 2 (.t 41)⟩,
  ⟨(some 11), none, .alloc [.int .i64 0, .nil]⟩,
  ⟨none, none, .st 2 (.t 11) (.t 42)⟩]
@[reducible] def i41_R12 : List Iop := [⟨(some 43), none, .fa 0 (.t 11)⟩,
  ⟨(some 44), none, .ld false 1 (.t 43)⟩,
  ⟨(some 45), none, .fa 1 (.t 11)⟩,
  ⟨(some 46), none, .ld false 1 (.t 45)⟩,
  ⟨(some 47), none, .lenl (.t 46)⟩,
  ⟨(some 48), none, .bin .add (.t 44) (.t 47)⟩,
  ⟨(some 49), none, .mv (.t 6)⟩,
  ⟨(some 50), none, .bin .add (.t 48) (.t 49)⟩,
  ⟨(some 12), none, .mv (.t 50)⟩]
@[reducible] def i41_R13 : List Iop := [⟨(some 51), none, .mv (.t 7)⟩]
@[reducible] def i41_R14 : List Iop := [⟨(some 52), none, .mv (.t 12)⟩,
  ⟨(some 53), none, .bin .gtr (.t 52) (.c (.int .i64 16))⟩]
@[reducible] def i41_R15 : List Iop := [⟨(some 54), none, .mv (.t 9)⟩,
  ⟨(some 55), none, .build [.int .i64 0, .int .i64 0] [(0, 1, (.c (.int .i64 6))), (1, 1, (.t 54))]⟩,
  ⟨none, none, .st 2 (.t 4) (.t 55)⟩]
@[reducible] def i41_R16 : List Iop := [⟨(some 56), none, .ld true 4 (.t 10)⟩,
  ⟨(some 57), none, .call 57 [(.t 56), (.c (.str ⟨#[45]⟩))]⟩,
  ⟨(some 58), none, .mv (.t 57)⟩,
  ⟨(some 59), (some (58, false)), .ld true 4 (.t 10)⟩,
  ⟨(some 60), (some (58, false)), .call 57 [(.t 59), (.c (.str ⟨#[33]⟩))]⟩,
  ⟨(some 61), none, .pick (.t 58) (.c (.bool true)) (.t 60)⟩]
@[reducible] def i41_R17 : List Iop := [⟨(some 62), none, .mv (.t 6)⟩,
  ⟨(some 63), none, .bin .add (.t 62) (.c (.int .i64 1))⟩,
  ⟨(some 6), none, .mv (.t 63)⟩]
@[reducible] def i41_R18 : List Iop := [⟨(some 6), none, .mv (.c (.int .i64 0))⟩]
@[reducible] def i41_R19 : List Iop := [⟨(some 64), none, .ld true 4 (.t 10)⟩,
  ⟨(some 65), none, .call 57 [(.t 64), (.c (.str ⟨#[40]⟩))]⟩]
@[reducible] def i41_R20 : List Iop := [⟨(some 66), none, .mv (.t 5)⟩,
  ⟨(some 67), none, .mv (.t 12)⟩,
  ⟨(some 68), none, .bin .add (.t 67) (.c (.int .i64 1))⟩,
  ⟨(some 69), none, .build [.int .i64 0, .nil] [(0, 1, (.t 68))]⟩,
  ⟨(some 70), none, .bsl 2 [.int .i64 0, .imm 0 [] false] 1 [(0, (.t 69))]⟩,
  ⟨(some 71), none, .app 2 (.t 66) (.t 70)⟩,
  ⟨(some 5), none, .mv (.t 71)⟩]
@[reducible] def i41_R21 : List Iop := [⟨(some 72), none, .fa 0 (.t 10)⟩,
  ⟨(some 73), none, .ld false 1 (.t 72)⟩,
  ⟨(some 74), none, .bin .neq (.t 73) (.c (.int .i64 1))⟩,
  ⟨(some 75), none, .mv (.t 74)⟩,
  ⟨(some 76), (some (75, true)), .fa 0 (.t 10)⟩,
  ⟨(some 77), (some (75, true)), .ld false 1 (.t 76)⟩,
  ⟨(some 78), (some (75, true)), .bin .neq (.t 77) (.c (.int .i64 2))⟩,
  ⟨(some 79), none, .pick (.t 75) (.t 78) (.c (.bool false))⟩]
@[reducible] def i41_R22 : List Iop := [⟨(some 80), none, .mv (.t 9)⟩,
  ⟨(some 81), none, .build [.int .i64 0, .int .i64 0] [(0, 1, (.c (.int .i64 3))), (1, 1, (.t 80))]⟩,
  ⟨none, none, .st 2 (.t 4) (.t 81)⟩]
@[reducible] def i41_R23 : List Iop := [⟨(some 7), none, .mv (.c (.bool false))⟩]
@[reducible] def i41_R24 : List Iop := [⟨(some 82), none, .mv (.t 8)⟩,
  ⟨(some 83), none, .mv (.t 0)⟩,
  ⟨(some 84), none, .lenl (.t 83)⟩,
  ⟨(some 85), none, .bin .eql (.t 82) (.t 84)⟩]
@[reducible] def i41_R25 : List Iop := [⟨(some 86), none, .ld true 4 (.t 10)⟩,
  ⟨(some 87), none, .call 57 [(.t 86), (.c (.str ⟨#[41]⟩))]⟩,
  ⟨(some 88), none, .mv (.t 87)⟩,
  ⟨(some 89), (some (88, true)), .mv (.t 5)⟩,
  ⟨(some 90), (some (88, true)), .lenl (.t 89)⟩,
  ⟨(some 91), (some (88, true)), .bin .gtr (.t 90) (.c (.int .i64 1))⟩,
  ⟨(some 92), none, .pick (.t 88) (.t 91) (.c (.bool false))⟩]
@[reducible] def i41_R26 : List Iop := [⟨(some 93), none, .mv (.t 5)⟩,
  ⟨(some 94), none, .mv (.t 5)⟩,
  ⟨(some 95), none, .lenl (.t 94)⟩,
  ⟨(some 96), none, .bin .sub (.t 95) (.c (.int .i64 1))⟩,
  ⟨(some 97), none, .sll 2 (.t 93) none (some (.t 96)) none⟩,
  ⟨(some 5), none, .mv (.t 97)⟩]
@[reducible] def i41_R27 : List Iop := [⟨(some 98), none, .ld true 4 (.t 10)⟩,
  ⟨(some 99), none, .call 59 [(.t 98)]⟩,
  ⟨(some 100), none, .call 58 [(.t 99)]⟩,
  ⟨(some 13), none, .mv (.t 100)⟩]
@[reducible] def i41_R28 : List Iop := [⟨(some 101), none, .fa 1 (.t 11)⟩,
  ⟨(some 102), none, .ld false 1 (.t 101)⟩,
  ⟨(some 14), none, .mv (.t 102)⟩]
@[reducible] def i41_R29 : List Iop := [⟨(some 103), none, .mv (.t 14)⟩,
  ⟨(some 104), none, .lenl (.t 103)⟩,
  ⟨(some 105), none, .bin .gtr (.t 104) (.c (.int .i64 0))⟩,
  ⟨(some 106), none, .mv (.t 105)⟩,
  ⟨(some 107), (some (106, true)), .mv (.t 14)⟩,
  ⟨(some 108), (some (106, true)), .mv (.t 14)⟩,
  ⟨(some 109), (some (106, true)), .lenl (.t 108)⟩,
  ⟨(some 110), (some (106, true)), .bin .sub (.t 109) (.c (.int .i64 1))⟩,
  ⟨(some 111), (some (106, true)), .ias 1 (.t 107) (.t 110)⟩,
  ⟨(some 112), (some (106, true)), .ld false 1 (.t 111)⟩,
  ⟨(some 113), (some (106, true)), .mv (.t 13)⟩,
  ⟨(some 114), (some (106, true)), .bin .gtr (.t 112) (.t 113)⟩,
  ⟨(some 115), none, .pick (.t 106) (.t 114) (.c (.bool false))⟩]
@[reducible] def i41_R30 : List Iop := [⟨(some 116), none, .mv (.t 14)⟩,
  ⟨(some 117), none, .mv (.t 14)⟩,
  ⟨(some 118), none, .lenl (.t 117)⟩,
  ⟨(some 119), none, .bin .sub (.t 118) (.c (.int .i64 1))⟩,
  ⟨(some 120), none, .sll 1 (.t 116) none (some (.t 119)) none⟩,
  ⟨(some 14), none, .mv (.t 120)⟩]
@[reducible] def i41_L0 : IC := (.seq (.seq (.reg none i41_R29) (.cond (.t 115) .skip (.out 2))) (.block 3 (.reg none i41_R30)))
@[reducible] def i41_R31 : List Iop := [⟨(some 121), none, .mv (.t 14)⟩,
  ⟨(some 122), none, .lenl (.t 121)⟩,
  ⟨(some 123), none, .bin .gtr (.t 122) (.c (.int .i64 0))⟩,
  ⟨(some 124), none, .mv (.t 123)⟩,
  ⟨(some 125), (some (124, true)), .mv (.t 14)⟩,
  ⟨(some 126), (some (124, true)), .mv (.t 14)⟩,
  ⟨(some 127), (some (124, true)), .lenl (.t 126)⟩,
  ⟨(some 128), (some (124, true)), .bin .sub (.t 127) (.c (.int .i64 1))⟩,
  ⟨(some 129), (some (124, true)), .ias 1 (.t 125) (.t 128)⟩,
  ⟨(some 130), (some (124, true)), .ld false 1 (.t 129)⟩,
  ⟨(some 131), (some (124, true)), .mv (.t 13)⟩,
  ⟨(some 132), (some (124, true)), .bin .eql (.t 130) (.t 131)⟩,
  ⟨(some 133), none, .pick (.t 124) (.t 132) (.c (.bool false))⟩,
  ⟨(some 15), none, .mv (.t 133)⟩]
@[reducible] def i41_R32 : List Iop := [⟨(some 134), none, .mv (.t 13)⟩,
  ⟨(some 135), none, .bin .eql (.t 134) (.c (.int .i64 6))⟩,
  ⟨(some 136), none, .mv (.t 135)⟩,
  ⟨(some 137), (some (136, false)), .mv (.t 15)⟩,
  ⟨(some 138), (some (136, false)), .mv (.t 137)⟩,
  ⟨(some 139), (some (138, true)), .mv (.t 13)⟩,
  ⟨(some 140), (some (138, true)), .bin .eql (.t 139) (.c (.int .i64 3))⟩,
  ⟨(some 141), (some (136, false)), .pick (.t 138) (.t 140) (.c (.bool false))⟩,
  ⟨(some 142), none, .pick (.t 136) (.c (.bool true)) (.t 141)⟩]
@[reducible] def i41_R33 : List Iop := [⟨(some 143), none, .mv (.t 9)⟩,
  ⟨(some 144), none, .build [.int .i64 0, .int .i64 0] [(0, 1, (.c (.int .i64 3))), (1, 1, (.t 143))]⟩,
  ⟨none, none, .st 2 (.t 4) (.t 144)⟩]
@[reducible] def i41_R34 : List Iop := [⟨(some 16), none, .mv (.c (.nil))⟩]
@[reducible] def i41_R35 : List Iop := [⟨(some 145), none, .mv (.t 16)⟩,
  ⟨(some 146), none, .mv (.t 14)⟩,
  ⟨(some 147), none, .app 1 (.t 145) (.t 146)⟩,
  ⟨(some 16), none, .mv (.t 147)⟩]
@[reducible] def i41_R36 : List Iop := [⟨(some 148), none, .mv (.t 15)⟩,
  ⟨(some 149), none, .nt (.t 148)⟩]
@[reducible] def i41_R37 : List Iop := [⟨(some 150), none, .mv (.t 16)⟩,
  ⟨(some 151), none, .mv (.t 13)⟩,
  ⟨(some 152), none, .bsl 1 [.int .i64 0] 1 [(0, (.t 151))]⟩,
  ⟨(some 153), none, .app 1 (.t 150) (.t 152)⟩,
  ⟨(some 16), none, .mv (.t 153)⟩]
@[reducible] def i41_R38 : List Iop := [⟨(some 154), none, .mv (.t 5)⟩,
  ⟨(some 155), none, .mv (.t 5)⟩,
  ⟨(some 156), none, .lenl (.t 155)⟩,
  ⟨(some 157), none, .bin .sub (.t 156) (.c (.int .i64 1))⟩,
  ⟨(some 158), none, .fa 0 (.t 11)⟩,
  ⟨(some 159), none, .ld false 1 (.t 158)⟩,
  ⟨(some 160), none, .mv (.t 16)⟩,
  ⟨(some 161), none, .build [.int .i64 0, .nil] [(0, 1, (.t 159)), (1, 1, (.t 160))]⟩,
  ⟨(some 162), none, .ias 2 (.t 154) (.t 157)⟩,
  ⟨none, none, .st 2 (.t 162) (.t 161)⟩]
@[reducible] def i41_R39 : List Iop := [⟨(some 7), none, .mv (.c (.bool true))⟩]
@[reducible] def i41_R40 : List Iop := [⟨(some 23), none, .mv (.t 8)⟩,
  ⟨(some 24), none, .bin .add (.t 23) (.c (.int .i64 1))⟩,
  ⟨(some 8), none, .mv (.t 24)⟩]
@[reducible] def i41_L1 : IC := (.seq (.seq (.reg none i41_R5) (.cond (.t 22) .skip (.out 0))) (.seq (.block 1 (.seq (.reg none i41_R6) (.seq (.reg none i41_R7) (.seq (.seq (.reg none i41_R8) (.cond (.t 30) (.seq (.reg none i41_R9) (.reg none i41_R10)) .skip)) (.seq (.reg none i41_R11) (.seq (.reg none i41_R12) (.seq (.seq (.reg none i41_R13) (.cond (.t 51) (.seq (.seq (.reg none i41_R14) (.cond (.t 53) (.seq (.reg none i41_R15) .ret) .skip)) (.seq (.seq (.reg none i41_R16) (.cond (.t 61) (.seq (.reg none i41_R17) (.out 1)) .skip)) (.seq (.reg none i41_R18) (.seq (.seq (.reg none i41_R19) (.cond (.t 65) (.seq (.reg none i41_R20) (.out 1)) .skip)) (.seq (.seq (.reg none i41_R21) (.cond (.t 79) (.seq (.reg none i41_R22) .ret) .skip)) (.seq (.reg none i41_R23) (.out 1))))))) .skip)) (.seq (.seq (.reg none i41_R24) (.cond (.t 85) (.out 0) .skip)) (.seq (.seq (.reg none i41_R25) (.cond (.t 92) (.seq (.reg none i41_R26) (.out 1)) .skip)) (.seq (.reg none i41_R27) (.seq (.reg none i41_R28) (.seq (.block 2 (.loop i41_L0)) (.seq (.reg none i41_R31) (.seq (.seq (.reg none i41_R32) (.cond (.t 142) (.seq (.reg none i41_R33) .ret) .skip)) (.seq (.reg none i41_R34) (.seq (.reg none i41_R35) (.seq (.seq (.reg none i41_R36) (.cond (.t 149) (.reg none i41_R37) .skip)) (.seq (.reg none i41_R38) (.reg none i41_R39))))))))))))))))))) (.reg none i41_R40)))
@[reducible] def i41_R41 : List Iop := [⟨(some 163), none, .mv (.t 7)⟩,
  ⟨(some 164), none, .mv (.t 163)⟩,
  ⟨(some 165), (some (164, false)), .mv (.t 5)⟩,
  ⟨(some 166), (some (164, false)), .lenl (.t 165)⟩,
  ⟨(some 167), (some (164, false)), .bin .gtr (.t 166) (.c (.int .i64 1))⟩,
  ⟨(some 168), none, .pick (.t 164) (.c (.bool true)) (.t 167)⟩]
@[reducible] def i41_R42 : List Iop := [⟨(some 169), none, .mv (.t 1)⟩,
  ⟨(some 170), none, .build [.int .i64 0, .int .i64 0] [(0, 1, (.c (.int .i64 3))), (1, 1, (.t 169))]⟩,
  ⟨none, none, .st 2 (.t 4) (.t 170)⟩]
@[reducible] def i41_R43 : List Iop := [⟨(some 171), none, .build [.int .i64 0, .int .i64 0] []⟩,
  ⟨none, none, .st 2 (.t 4) (.t 171)⟩]
@[reducible] def i41_B : IC := (.seq (.reg none i41_R0) (.seq (.reg none i41_R1) (.seq (.reg none i41_R2) (.seq (.reg none i41_R3) (.seq (.seq (.reg none i41_R4) (.block 0 (.loop i41_L1))) (.seq (.seq (.reg none i41_R41) (.cond (.t 168) (.seq (.reg none i41_R42) .ret) .skip)) (.seq (.reg none i41_R43) .ret)))))))
@[reducible] def i41_V : List Nat := [0, 1, 4, 5, 6, 7, 8, 9, 10, 11, 12, 13, 14, 15, 16, 22, 30, 51, 53, 61, 65, 79, 85, 92, 115, 142, 149, 168]
def i41 : IFn := ⟨172, i41_V, [.cell 4 true 2], i41_B⟩
theorem i41_ok : compF Go.Proofs.Try.prog i41_V Go.Proofs.Try.f41 = some i41 := by kernel_rfl
/-! funicular/funicularref07.Tree -/
@[reducible] def i42_R0 : List Iop := [⟨(some 2), none, .alloc [.int .i64 0, .int .i64 0, .str ⟨#[]⟩, .nil]⟩]
@[reducible] def i42_R1 : List Iop := [⟨(some 8), none, .mv (.t 0)⟩,
  ⟨(some 9), none, .call 60 [(.t 8)]⟩,
  ⟨(some 3), none, .mv (.t 9)⟩]
@[reducible] def i42_R2 : List Iop := [⟨(some 10), none, .mv (.t 3)⟩,
  ⟨(some 11), none, .bin .geq (.t 10) (.c (.int .i64 0))⟩]
@[reducible] def i42_R3 : List Iop := [⟨(some 12), none, .mv (.t 0)⟩,
  ⟨(some 13), none, .mv (.t 3)⟩,
  ⟨(some 14), none, .sll 4 (.t 12) none (some (.t 13)) none⟩,
  ⟨(some 15), none, .call 42 [(.t 14)]⟩,
  ⟨(some 4), none, .alloc [.int .i64 0, .int .i64 0, .str ⟨#[]⟩, .nil]⟩,
  ⟨none, none, .st 4 (.t 4) (.t 15)⟩]
@[reducible] def i42_R4 : List Iop := [⟨(some 16), none, .mv (.t 0)⟩,
  ⟨(some 17), none, .mv (.t 3)⟩,
  ⟨(some 18), none, .bin .add (.t 17) (.c (.int .i64 1))⟩,
  ⟨(some 19), none, .sll 4 (.t 16) (some (.t 18)) none none⟩,
  ⟨(some 20), none, .call 42 [(.t 19)]⟩,
  ⟨(some 5), none, .alloc [.int .i64 0, .int .i64 0, .str ⟨#[]⟩, .nil]⟩,
  ⟨none, none, .st 4 (.t 5) (.t 20)⟩]
@[reducible] def i42_R5 : List Iop := [⟨(some 21), none, .mv (.t 0)⟩,
  ⟨(some 22), none, .mv (.t 3)⟩,
  ⟨(some 23), none, .ias 4 (.t 21) (.t 22)⟩,
  ⟨(some 24), none, .ld true 4 (.t 23)⟩,
  ⟨(some 25), none, .call 59 [(.t 24)]⟩,
  ⟨(some 26), none, .ld true 4 (.t 4)⟩,
  ⟨(some 27), none, .ld true 4 (.t 5)⟩,
  ⟨(some 28), none, .bsl 4 [.int .i64 0, .int .i64 0, .str ⟨#[]⟩, .imm 0 [] false] 2 [(0, (.t 26)), (1, (.t 27))]⟩,
  ⟨(some 29), none, .build [.int .i64 0, .int .i64 0, .str ⟨#[]⟩, .nil] [(0, 1, (.t 25)), (3, 1, (.t 28))]⟩,
  ⟨none, none, .st 4 (.t 2) (.t 29)⟩]
@[reducible] def i42_R6 : List Iop := [⟨(some 30), none, .mv (.t 0)⟩,
  ⟨(some 31), none, .ias 4 (.t 30) (.c (.int .i64 0))⟩,
  ⟨(some 32), none, .ld true 4 (.t 31)⟩,
  ⟨(some 33), none, .call 57 [(.t 32), (.c (.str ⟨#[45]⟩))]⟩]
@[reducible] def i42_R7 : List Iop := [⟨(some 34), none, .mv (.t 0)⟩,
  ⟨(some 35), none, .sll 4 (.t 34) (some (.c (.int .i64 1))) none none⟩,
  ⟨(some 36), none, .call 42 [(.t 35)]⟩,
  ⟨(some 6), none, .alloc [.int .i64 0, .int .i64 0, .str ⟨#[]⟩, .nil]⟩,
  ⟨none, none, .st 4 (.t 6) (.t 36)⟩]
@[reducible] def i42_R8 : List Iop := [⟨(some 37), none, .ld true 4 (.t 6)⟩,
  ⟨(some 38), none, .bsl 4 [.int .i64 0, .int .i64 0, .str ⟨#[]⟩, .imm 0 [] false] 1 [(0, (.t 37))]⟩,
  ⟨(some 39), none, .build [.int .i64 0, .int .i64 0, .str ⟨#[]⟩, .nil] [(0, 1, (.c (.int .i64 5))), (3, 1, (.t 38))]⟩,
  ⟨none, none, .st 4 (.t 2) (.t 39)⟩]
@[reducible] def i42_R9 : List Iop := [⟨(some 40), none, .mv (.t 0)⟩,
  ⟨(some 41), none, .ias 4 (.t 40) (.c (.int .i64 0))⟩,
  ⟨(some 42), none, .ld true 4 (.t 41)⟩,
  ⟨(some 43), none, .call 57 [(.t 42), (.c (.str ⟨#[33]⟩))]⟩]
@[reducible] def i42_R10 : List Iop := [⟨(some 44), none, .mv (.t 0)⟩,
  ⟨(some 45), none, .sll 4 (.t 44) (some (.c (.int .i64 1))) none none⟩,
  ⟨(some 46), none, .call 42 [(.t 45)]⟩,
  ⟨(some 7), none, .alloc [.int .i64 0, .int .i64 0, .str ⟨#[]⟩, .nil]⟩,
  ⟨none, none, .st 4 (.t 7) (.t 46)⟩]
@[reducible] def i42_R11 : List Iop := [⟨(some 47), none, .ld true 4 (.t 7)⟩,
  ⟨(some 48), none, .bsl 4 [.int .i64 0, .int .i64 0, .str ⟨#[]⟩, .imm 0 [] false] 1 [(0, (.t 47))]⟩,
  ⟨(some 49), none, .build [.int .i64 0, .int .i64 0, .str ⟨#[]⟩, .nil] [(0, 1, (.c (.int .i64 6))), (3, 1, (.t 48))]⟩,
  ⟨none, none, .st 4 (.t 2) (.t 49)⟩]
@[reducible] def i42_R12 : List Iop := [⟨(some 50), none, .mv (.t 0)⟩,
  ⟨(some 51), none, .ias 4 (.t 50) (.c (.int .i64 0))⟩,
  ⟨(some 52), none, .ld true 4 (.t 51)⟩,
  ⟨(some 53), none, .call 57 [(.t 52), (.c (.str ⟨#[40]⟩))]⟩]
@[reducible] def i42_R13 : List Iop := [⟨(some 54), none, .mv (.t 0)⟩,
  ⟨(some 55), none, .mv (.t 0)⟩,
  ⟨(some 56), none, .lenl (.t 55)⟩,
  ⟨(some 57), none, .bin .sub (.t 56) (.c (.int .i64 1))⟩,
  ⟨(some 58), none, .sll 4 (.t 54) (some (.c (.int .i64 1))) (some (.t 57)) none⟩,
  ⟨(some 59), none, .call 42 [(.t 58)]⟩,
  ⟨none, none, .st 4 (.t 2) (.t 59)⟩]
@[reducible] def i42_R14 : List Iop := [⟨(some 60), none, .mv (.t 0)⟩,
  ⟨(some 61), none, .ias 4 (.t 60) (.c (.int .i64 0))⟩,
  ⟨(some 62), none, .fa 0 (.t 61)⟩,
  ⟨(some 63), none, .ld false 1 (.t 62)⟩,
  ⟨(some 64), none, .bin .eql (.t 63) (.c (.int .i64 1))⟩]
@[reducible] def i42_R15 : List Iop := [⟨(some 65), none, .mv (.t 0)⟩,
  ⟨(some 66), none, .ias 4 (.t 65) (.c (.int .i64 0))⟩,
  ⟨(some 67), none, .fa 2 (.t 66)⟩,
  ⟨(some 68), none, .ld false 1 (.t 67)⟩,
  ⟨(some 69), none, .build [.int .i64 0, .int .i64 0, .str ⟨#[]⟩, .nil] [(0, 1, (.c (.int .i64 1))), (1, 1, (.t 68))]⟩,
  ⟨none, none, .st 4 (.t 2) (.t 69)⟩]
@[reducible] def i42_R16 : List Iop := [⟨(some 70), none, .mv (.t 0)⟩,
  ⟨(some 71), none, .ias 4 (.t 70) (.c (.int .i64 0))⟩,
  ⟨(some 72), none, .fa 1 (.t 71)⟩,
  ⟨(some 73), none, .ld false 1 (.t 72)⟩,
  ⟨(some 74), none, .bin .eql (.t 73) (.c (.str ⟨#[121, 101, 115]⟩))⟩]
@[reducible] def i42_R17 : List Iop := [⟨(some 75), none, .build [.int .i64 0, .int .i64 0, .str ⟨#[]⟩, .nil] [(0, 1, (.c (.int .i64 3)))]⟩,
  ⟨none, none, .st 4 (.t 2) (.t 75)⟩]
@[reducible] def i42_R18 : List Iop := [⟨(some 76), none, .mv (.t 0)⟩,
  ⟨(some 77), none, .ias 4 (.t 76) (.c (.int .i64 0))⟩,
  ⟨(some 78), none, .fa 1 (.t 77)⟩,
  ⟨(some 79), none, .ld false 1 (.t 78)⟩,
  ⟨(some 80), none, .bin .eql (.t 79) (.c (.str ⟨#[110, 111]⟩))⟩]
@[reducible] def i42_R19 : List Iop := [⟨(some 81), none, .build [.int .i64 0, .int .i64 0, .str ⟨#[]⟩, .nil] [(0, 1, (.c (.int .i64 4)))]⟩,
  ⟨none, none, .st 4 (.t 2) (.t 81)⟩]
@[reducible] def i42_R20 : List Iop := [⟨(some 82), none, .mv (.t 0)⟩,
  ⟨(some 83), none, .ias 4 (.t 82) (.c (.int .i64 0))⟩,
  ⟨(some 84), none, .fa 1 (.t 83)⟩,
  ⟨(some 85), none, .ld false 1 (.t 84)⟩,
  ⟨(some 86), none, .build [.int .i64 0, .int .i64 0, .str ⟨#[]⟩, .nil] [(0, 1, (.c (.int .i64 2))), (2, 1, (.t 85))]⟩,
  ⟨none, none, .st 4 (.t 2) (.t 86)⟩]
@[reducible] def i42_B : IC := (.seq (.reg none i42_R0) (.seq (.seq (.reg none i42_R1) (.seq (.reg none i42_R2) (.cond (.t 11) (.seq (.reg none i42_R3) (.seq (.reg none i42_R4) (.seq (.reg (some [(4, 4)]) i42_R5) .ret))) .skip))) (.seq (.seq (.reg none i42_R6) (.cond (.t 33) (.seq (.reg none i42_R7) (.seq (.reg none i42_R8) .ret)) .skip)) (.seq (.seq (.reg none i42_R9) (.cond (.t 43) (.seq (.reg none i42_R10) (.seq (.reg none i42_R11) .ret)) .skip)) (.seq (.seq (.reg none i42_R12) (.cond (.t 53) (.seq (.reg none i42_R13) .ret) .skip)) (.seq (.seq (.reg none i42_R14) (.cond (.t 64) (.seq (.reg none i42_R15) .ret) .skip)) (.seq (.seq (.reg none i42_R16) (.cond (.t 74) (.seq (.reg none i42_R17) .ret) .skip)) (.seq (.seq (.reg none i42_R18) (.cond (.t 80) (.seq (.reg none i42_R19) .ret) .skip)) (.seq (.reg none i42_R20) .ret)))))))))
@[reducible] def i42_V : List Nat := [0, 2, 3, 4, 5, 6, 7, 11, 33, 43, 53, 64, 74, 80]
def i42 : IFn := ⟨87, i42_V, [.cell 2 true 4], i42_B⟩
theorem i42_ok : compF Go.Proofs.Try.prog i42_V Go.Proofs.Try.f42 = some i42 := by kernel_rfl
/-! funicular/expr.Check -/
@[reducible] def i43_R0 : List Iop := [⟨(some 1), none, .box (.t 0)⟩,
  ⟨(some 2), none, .mv (.c (.int .i64 0))⟩]
@[reducible] def i43_R1 : List Iop := [⟨(some 3), none, .ld true 4 (.t 1)⟩,
  ⟨(some 4), none, .call 61 [(.t 3), (.c (.int .i64 1))]⟩,
  ⟨(some 2), none, .mv (.t 4)⟩]
@[reducible] def i43_B : IC := (.seq (.reg none i43_R0) (.seq (.reg none i43_R1) .ret))
@[reducible] def i43_V : List Nat := [0, 1, 2]
def i43 : IFn := ⟨5, i43_V, [.tmp 2], i43_B⟩
theorem i43_ok : compF Go.Proofs.Try.prog i43_V Go.Proofs.Try.f43 = some i43 := by kernel_rfl
/-! funicular/types.of -/
@[reducible] def i44_R0 : List Iop := [⟨(some 1), none, .box (.t 0)⟩,
  ⟨(some 2), none, .mv (.c (.int .i64 0))⟩,
  ⟨(some 3), none, .mv (.c (.int .i64 0))⟩]
@[reducible] def i44_R1 : List Iop := [⟨(some 11), none, .fa 0 (.t 1)⟩,
  ⟨(some 12), none, .ld false 1 (.t 11)⟩,
  ⟨(some 13), none, .call 62 [(.t 12)]⟩,
  ⟨(some 10), none, .mv (.t 13)⟩,
  ⟨(some 14), none, .ext 0 (.t 10)⟩,
  ⟨(some 15), none, .ext 1 (.t 10)⟩,
  ⟨(some 4), none, .mv (.t 14)⟩,
  ⟨(some 5), none, .mv (.t 15)⟩]
@[reducible] def i44_R2 : List Iop := [⟨(some 16), none, .fa 3 (.t 1)⟩,
  ⟨(some 17), none, .ld false 1 (.t 16)⟩,
  ⟨(some 18), none, .lenl (.t 17)⟩,
  ⟨(some 19), none, .mv (.c (.int .i64 0))⟩]
@[reducible] def i44_R3 : List Iop := [⟨(some 20), none, .bin .lss (.t 19) (.t 18)⟩]
@[reducible] def i44_R4 : List Iop := [⟨(some 21), none, .mv (.t 19)⟩,
  ⟨(some 22), none, .ias 4 (.t 17) (.t 19)⟩,
  ⟨(some 23), none, .ld true 4 (.t 22)⟩,
  ⟨(some 7), none, .alloc [.int .i64 0, .int .i64 0, .str ⟨#[]⟩, .nil]⟩,
  ⟨(some 6), none, .mv (.t 21)⟩,
  ⟨none, none, .st 4 (.t 7) (.t 23)⟩]
@[reducible] def i44_R5 : List Iop := [⟨(some 25), none, .ld true 4 (.t 7)⟩,
  ⟨(some 26), none, .call 44 [(.t 25)]⟩,
  ⟨(some 24), none, .mv (.t 26)⟩,
  ⟨(some 27), none, .ext 0 (.t 24)⟩,
  ⟨(some 28), none, .ext 1 (.t 24)⟩,
  ⟨(some 8), none, .mv (.t 27)⟩,
  ⟨(some 9), none, .mv (.t 28)⟩]
@[reducible] def i44_R6 : List Iop := [⟨(some 29), none, .mv (.t 9)⟩,
  ⟨(some 30), none, .bin .neq (.t 29) (.c (.int .i64 0))⟩]
@[reducible] def i44_R7 : List Iop := [⟨(some 31), none, .mv (.t 9)⟩,
  ⟨(some 2), none, .mv (.c (.int .i64 0))⟩,
  ⟨(some 3), none, .mv (.t 31)⟩]
@[reducible] def i44_R8 : List Iop := [⟨(some 32), none, .mv (.t 6)⟩,
  ⟨(some 33), none, .bin .eql (.t 32) (.c (.int .i64 0))⟩,
  ⟨(some 34), none, .mv (.t 33)⟩,
  ⟨(some 35), (some (34, true)), .mv (.t 4)⟩,
  ⟨(some 36), (some (34, true)), .bin .lss (.t 35) (.c (.int .i64 0))⟩,
  ⟨(some 37), none, .pick (.t 34) (.t 36) (.c (.bool false))⟩]
@[reducible] def i44_R9 : List Iop := [⟨(some 38), none, .mv (.t 8)⟩,
  ⟨(some 4), none, .mv (.t 38)⟩]
@[reducible] def i44_R10 : List Iop := [⟨(some 39), none, .mv (.t 8)⟩,
  ⟨(some 40), none, .mv (.t 4)⟩,
  ⟨(some 41), none, .bin .neq (.t 39) (.t 40)⟩]
@[reducible] def i44_R11 : List Iop := [⟨(some 2), none, .mv (.c (.int .i64 0))⟩,
  ⟨(some 3), none, .mv (.c (.int .i64 7))⟩]
@[reducible] def i44_R12 : List Iop := [⟨(some 42), none, .bin .add (.t 19) (.c (.int .i64 1))⟩,
  ⟨(some 19), none, .mv (.t 42)⟩]
@[reducible] def i44_L0 : IC := (.seq (.reg none i44_R3) (.seq (.cond (.t 20) .skip (.out 0)) (.seq (.block 1 (.seq (.reg none i44_R4) (.seq (.reg none i44_R5) (.seq (.seq (.reg none i44_R6) (.cond (.t 30) (.seq (.reg none i44_R7) .ret) .skip)) (.seq (.seq (.reg none i44_R8) (.cond (.t 37) (.reg none i44_R9) .skip)) (.seq (.reg none i44_R10) (.cond (.t 41) (.seq (.reg none i44_R11) .ret) .skip))))))) (.reg none i44_R12))))
@[reducible] def i44_R13 : List Iop := [⟨(some 43), none, .mv (.t 5)⟩,
  ⟨(some 2), none, .mv (.t 43)⟩,
  ⟨(some 3), none, .mv (.c (.int .i64 0))⟩]
@[reducible] def i44_B : IC := (.seq (.reg none i44_R0) (.seq (.reg none i44_R1) (.seq (.seq (.reg none i44_R2) (.block 0 (.loop i44_L0))) (.seq (.reg none i44_R13) .ret))))
@[reducible] def i44_V : List Nat := [0, 1, 2, 3, 4, 5, 6, 7, 8, 9, 17, 18, 19, 20, 30, 37, 41]
def i44 : IFn := ⟨44, i44_V, [.tmp 2, .tmp 3], i44_B⟩
theorem i44_ok : compF Go.Proofs.Try.prog i44_V Go.Proofs.Try.f44 = some i44 := by kernel_rfl
/-! funicular/pack.Name -/
@[reducible] def i45_R0 : List Iop := [⟨(some 2), none, .mv (.c (.bool false))⟩]
@[reducible] def i45_R1 : List Iop := [⟨(some 6), none, .mv (.t 0)⟩,
  ⟨(some 7), none, .s2b (.t 6)⟩,
  ⟨(some 8), none, .lenl (.t 7)⟩,
  ⟨(some 9), none, .mv (.c (.int .i64 0))⟩]
@[reducible] def i45_R2 : List Iop := [⟨(some 10), none, .bin .lss (.t 9) (.t 8)⟩]
@[reducible] def i45_R3 : List Iop := [⟨(some 11), none, .mv (.t 9)⟩,
  ⟨(some 12), none, .ias 1 (.t 7) (.t 9)⟩,
  ⟨(some 13), none, .ld false 1 (.t 12)⟩,
  ⟨(some 3), none, .mv (.t 11)⟩,
  ⟨(some 4), none, .mv (.t 13)⟩]
@[reducible] def i45_R4 : List Iop := [⟨(some 14), none, .mv (.t 4)⟩,
  ⟨(some 15), none, .bin .geq (.t 14) (.c (.int .u8 97))⟩,
  ⟨(some 16), none, .mv (.t 15)⟩,
  ⟨(some 17), (some (16, true)), .mv (.t 4)⟩,
  ⟨(some 18), (some (16, true)), .bin .leq (.t 17) (.c (.int .u8 122))⟩,
  ⟨(some 19), none, .pick (.t 16) (.t 18) (.c (.bool false))⟩,
  ⟨(some 5), none, .mv (.t 19)⟩]
@[reducible] def i45_R5 : List Iop := [⟨(some 20), none, .mv (.t 5)⟩,
  ⟨(some 21), none, .nt (.t 20)⟩,
  ⟨(some 22), none, .mv (.t 21)⟩,
  ⟨(some 23), (some (22, true)), .mv (.t 3)⟩,
  ⟨(some 24), (some (22, true)), .bin .eql (.t 23) (.c (.int .i64 0))⟩,
  ⟨(some 25), (some (22, true)), .mv (.t 24)⟩,
  ⟨(some 26), (some (25, false)), .mv (.t 4)⟩,
  ⟨(some 27), (some (25, false)), .bin .lss (.t 26) (.c (.int .u8 48))⟩,
  ⟨(some 28), (some (22, true)), .pick (.t 25) (.c (.bool true)) (.t 27)⟩,
  ⟨(some 29), (some (22, true)), .mv (.t 28)⟩,
  ⟨(some 30), (some (29, false)), .mv (.t 4)⟩,
  ⟨(some 31), (some (29, false)), .bin .gtr (.t 30) (.c (.int .u8 57))⟩,
  ⟨(some 32), (some (22, true)), .pick (.t 29) (.c (.bool true)) (.t 31)⟩,
  ⟨(some 33), none, .pick (.t 22) (.t 32) (.c (.bool false))⟩]
@[reducible] def i45_R6 : List Iop := [⟨(some 2), none, .mv (.c (.bool false))⟩]
@[reducible] def i45_R7 : List Iop := [⟨(some 34), none, .bin .add (.t 9) (.c (.int .i64 1))⟩,
  ⟨(some 9), none, .mv (.t 34)⟩]
@[reducible] def i45_L0 : IC := (.seq (.reg none i45_R2) (.seq (.cond (.t 10) .skip (.out 0)) (.seq (.block 1 (.seq (.reg none i45_R3) (.seq (.reg none i45_R4) (.seq (.reg none i45_R5) (.cond (.t 33) (.seq (.reg none i45_R6) .ret) .skip))))) (.reg none i45_R7))))
@[reducible] def i45_R8 : List Iop := [⟨(some 35), none, .mv (.t 0)⟩,
  ⟨(some 36), none, .lens (.t 35)⟩,
  ⟨(some 37), none, .bin .geq (.t 36) (.c (.int .i64 1))⟩,
  ⟨(some 38), none, .mv (.t 37)⟩,
  ⟨(some 39), (some (38, true)), .mv (.t 0)⟩,
  ⟨(some 40), (some (38, true)), .lens (.t 39)⟩,
  ⟨(some 41), (some (38, true)), .bin .leq (.t 40) (.c (.int .i64 32))⟩,
  ⟨(some 42), none, .pick (.t 38) (.t 41) (.c (.bool false))⟩,
  ⟨(some 2), none, .mv (.t 42)⟩]
@[reducible] def i45_B : IC := (.seq (.reg none i45_R0) (.seq (.seq (.reg none i45_R1) (.block 0 (.loop i45_L0))) (.seq (.reg none i45_R8) .ret)))
@[reducible] def i45_V : List Nat := [0, 2, 3, 4, 5, 7, 8, 9, 10, 33]
def i45 : IFn := ⟨43, i45_V, [.tmp 2], i45_B⟩
theorem i45_ok : compF Go.Proofs.Try.prog i45_V Go.Proofs.Try.f45 = some i45 := by kernel_rfl
/-! funicular/eval.of$1 -/
@[reducible] def i46_R0 : List Iop := [⟨(some 4), none, .mv (.c (.int .i64 0))⟩,
  ⟨(some 5), none, .mv (.c (.int .i64 0))⟩]
@[reducible] def i46_R1 : List Iop := [⟨(some 9), none, .fa 3 (.t 1)⟩,
  ⟨(some 10), none, .ld false 1 (.t 9)⟩,
  ⟨(some 11), none, .mv (.t 0)⟩,
  ⟨(some 12), none, .ias 4 (.t 10) (.t 11)⟩,
  ⟨(some 13), none, .ld true 4 (.t 12)⟩,
  ⟨(some 14), none, .ld true 2 (.t 2)⟩,
  ⟨(some 15), none, .call 28 [(.t 13), (.t 14)]⟩,
  ⟨(some 8), none, .mv (.t 15)⟩,
  ⟨(some 16), none, .ext 0 (.t 8)⟩,
  ⟨(some 17), none, .ext 1 (.t 8)⟩,
  ⟨(some 6), none, .alloc [.bool false, .int .i64 0]⟩,
  ⟨none, none, .st 2 (.t 6) (.t 16)⟩,
  ⟨(some 7), none, .mv (.t 17)⟩]
@[reducible] def i46_R2 : List Iop := [⟨(some 18), none, .fa 1 (.t 6)⟩,
  ⟨(some 19), none, .ld false 1 (.t 18)⟩,
  ⟨(some 20), none, .mv (.t 7)⟩,
  ⟨(some 4), none, .mv (.t 19)⟩,
  ⟨(some 5), none, .mv (.t 20)⟩]
@[reducible] def i46_B : IC := (.seq (.reg none i46_R0) (.seq (.reg (some []) i46_R1) (.seq (.reg none i46_R2) .ret)))
@[reducible] def i46_V : List Nat := [0, 1, 2, 4, 5, 6, 7]
def i46 : IFn := ⟨21, i46_V, [.tmp 4, .tmp 5], i46_B⟩
theorem i46_ok : compF Go.Proofs.Try.prog i46_V Go.Proofs.Try.f46 = some i46 := by kernel_rfl
/-! funicular/eval.truth -/
@[reducible] def i47_R0 : List Iop := [⟨(some 2), none, .alloc [.bool false, .int .i64 0]⟩]
@[reducible] def i47_R1 : List Iop := [⟨(some 4), none, .build [.bool false, .int .i64 0] [(0, 1, (.c (.bool true)))]⟩,
  ⟨(some 3), none, .alloc [.bool false, .int .i64 0]⟩,
  ⟨none, none, .st 2 (.t 3) (.t 4)⟩]
@[reducible] def i47_R2 : List Iop := [⟨(some 5), none, .mv (.t 0)⟩]
@[reducible] def i47_R3 : List Iop := [⟨(some 6), none, .fa 1 (.t 3)⟩,
  ⟨none, none, .st 1 (.t 6) (.c (.int .i64 1))⟩]
@[reducible] def i47_R4 : List Iop := [⟨(some 7), none, .ld true 2 (.t 3)⟩,
  ⟨none, none, .st 2 (.t 2) (.t 7)⟩]
@[reducible] def i47_B : IC := (.seq (.reg none i47_R0) (.seq (.reg none i47_R1) (.seq (.seq (.reg none i47_R2) (.cond (.t 5) (.reg none i47_R3) .skip)) (.seq (.reg none i47_R4) .ret))))
@[reducible] def i47_V : List Nat := [0, 2, 3, 5]
def i47 : IFn := ⟨8, i47_V, [.cell 2 true 2], i47_B⟩
theorem i47_ok : compF Go.Proofs.Try.prog i47_V Go.Proofs.Try.f47 = some i47 := by kernel_rfl
/-! funicular/vars.Get -/
@[reducible] def i48_R0 : List Iop := [⟨(some 2), none, .box (.t 0)⟩,
  ⟨(some 4), none, .mv (.c (.int .i64 0))⟩,
  ⟨(some 5), none, .mv (.c (.bool false))⟩]
@[reducible] def i48_R1 : List Iop := [⟨(some 9), none, .fa 0 (.t 2)⟩,
  ⟨(some 10), none, .ld false 1 (.t 9)⟩,
  ⟨(some 11), none, .mv (.t 1)⟩,
  ⟨(some 12), none, .call 63 [(.t 10), (.t 11)]⟩,
  ⟨(some 8), none, .mv (.t 12)⟩,
  ⟨(some 13), none, .ext 0 (.t 8)⟩,
  ⟨(some 14), none, .ext 1 (.t 8)⟩,
  ⟨(some 6), none, .mv (.t 13)⟩,
  ⟨(some 7), none, .mv (.t 14)⟩]
@[reducible] def i48_R2 : List Iop := [⟨(some 15), none, .mv (.t 7)⟩,
  ⟨(some 16), none, .nt (.t 15)⟩,
  ⟨(some 17), none, .mv (.t 16)⟩,
  ⟨(some 18), (some (17, false)), .mv (.t 6)⟩,
  ⟨(some 19), (some (17, false)), .fa 1 (.t 2)⟩,
  ⟨(some 20), (some (17, false)), .ld false 1 (.t 19)⟩,
  ⟨(some 21), (some (17, false)), .lenl (.t 20)⟩,
  ⟨(some 22), (some (17, false)), .bin .geq (.t 18) (.t 21)⟩,
  ⟨(some 23), none, .pick (.t 17) (.c (.bool true)) (.t 22)⟩]
@[reducible] def i48_R3 : List Iop := [⟨(some 4), none, .mv (.c (.int .i64 0))⟩,
  ⟨(some 5), none, .mv (.c (.bool false))⟩]
@[reducible] def i48_R4 : List Iop := [⟨(some 24), none, .fa 1 (.t 2)⟩,
  ⟨(some 25), none, .ld false 1 (.t 24)⟩,
  ⟨(some 26), none, .mv (.t 6)⟩,
  ⟨(some 27), none, .ias 1 (.t 25) (.t 26)⟩,
  ⟨(some 28), none, .ld false 1 (.t 27)⟩,
  ⟨(some 4), none, .mv (.t 28)⟩,
  ⟨(some 5), none, .mv (.c (.bool true))⟩]
@[reducible] def i48_B : IC := (.seq (.reg none i48_R0) (.seq (.reg none i48_R1) (.seq (.seq (.reg none i48_R2) (.cond (.t 23) (.seq (.reg none i48_R3) .ret) .skip)) (.seq (.reg none i48_R4) .ret))))
@[reducible] def i48_V : List Nat := [0, 1, 2, 4, 5, 6, 7, 23]
def i48 : IFn := ⟨29, i48_V, [.tmp 4, .tmp 5], i48_B⟩
theorem i48_ok : compF Go.Proofs.Try.prog i48_V Go.Proofs.Try.f48 = some i48 := by kernel_rfl
/-! funicular/eval.number -/
@[reducible] def i49_R0 : List Iop := [⟨(some 6), none, .mv (.c (.int .i64 0))⟩,
  ⟨(some 7), none, .mv (.c (.int .i64 0))⟩]
@[reducible] def i49_R1 : List Iop := [⟨(some 8), none, .mv (.c (.int .i64 0))⟩,
  ⟨(some 9), none, .mv (.c (.bool true))⟩]
@[reducible] def i49_R2 : List Iop := [⟨(some 10), none, .mv (.t 0)⟩]
@[reducible] def i49_R3 : List Iop := [⟨(some 12), none, .bin .eql (.t 10) (.c (.int .i64 7))⟩,
  ⟨(some 11), none, .mv (.t 12)⟩]
@[reducible] def i49_R4 : List Iop := [⟨(some 14), none, .mv (.t 1)⟩,
  ⟨(some 15), none, .mv (.t 2)⟩,
  ⟨(some 16), none, .call 64 [(.t 14), (.t 15)]⟩,
  ⟨(some 13), none, .mv (.t 16)⟩,
  ⟨(some 17), none, .ext 0 (.t 13)⟩,
  ⟨(some 18), none, .ext 1 (.t 13)⟩,
  ⟨(some 8), none, .mv (.t 17)⟩,
  ⟨(some 9), none, .mv (.t 18)⟩]
@[reducible] def i49_R5 : List Iop := [⟨(some 20), none, .bin .eql (.t 10) (.c (.int .i64 8))⟩,
  ⟨(some 19), none, .mv (.t 20)⟩]
@[reducible] def i49_R6 : List Iop := [⟨(some 21), none, .mv (.t 1)⟩,
  ⟨(some 22), none, .mv (.t 2)⟩,
  ⟨(some 23), none, .bin .sub (.t 21) (.t 22)⟩,
  ⟨(some 8), none, .mv (.t 23)⟩]
@[reducible] def i49_R7 : List Iop := [⟨(some 24), none, .mv (.t 8)⟩,
  ⟨(some 25), none, .mv (.t 1)⟩,
  ⟨(some 26), none, .bin .gtr (.t 24) (.t 25)⟩,
  ⟨(some 27), none, .mv (.t 2)⟩,
  ⟨(some 28), none, .bin .lss (.t 27) (.c (.int .i64 0))⟩,
  ⟨(some 29), none, .eqb true (.t 26) (.t 28)⟩]
@[reducible] def i49_R8 : List Iop := [⟨(some 9), none, .mv (.c (.bool false))⟩]
@[reducible] def i49_R9 : List Iop := [⟨(some 31), none, .bin .eql (.t 10) (.c (.int .i64 9))⟩,
  ⟨(some 30), none, .mv (.t 31)⟩]
@[reducible] def i49_R10 : List Iop := [⟨(some 33), none, .mv (.t 1)⟩,
  ⟨(some 34), none, .mv (.t 2)⟩,
  ⟨(some 35), none, .call 65 [(.t 33), (.t 34)]⟩,
  ⟨(some 32), none, .mv (.t 35)⟩,
  ⟨(some 36), none, .ext 0 (.t 32)⟩,
  ⟨(some 37), none, .ext 1 (.t 32)⟩,
  ⟨(some 8), none, .mv (.t 36)⟩,
  ⟨(some 9), none, .mv (.t 37)⟩]
@[reducible] def i49_R11 : List Iop := [⟨(some 39), none, .bin .eql (.t 10) (.c (.int .i64 10))⟩,
  ⟨(some 38), none, .mv (.t 39)⟩]
@[reducible] def i49_R12 : List Iop := [⟨(some 44), none, .mv (.t 2)⟩,
  ⟨(some 45), none, .bin .eql (.t 44) (.c (.int .i64 0))⟩,
  ⟨(some 43), none, .mv (.t 45)⟩]
@[reducible] def i49_R13 : List Iop := [⟨(some 6), none, .mv (.c (.int .i64 0))⟩,
  ⟨(some 7), none, .mv (.c (.int .i64 12))⟩]
@[reducible] def i49_R14 : List Iop := [⟨(some 47), none, .mv (.t 2)⟩,
  ⟨(some 48), none, .bin .eql (.t 47) (.c (.int .i64 (-1)))⟩,
  ⟨(some 49), none, .mv (.t 48)⟩,
  ⟨(some 50), (some (49, true)), .mv (.t 1)⟩,
  ⟨(some 51), (some (49, true)), .bin .eql (.t 50) (.c (.int .i64 (-9223372036854775808)))⟩,
  ⟨(some 52), none, .pick (.t 49) (.t 51) (.c (.bool false))⟩,
  ⟨(some 46), none, .mv (.t 52)⟩]
@[reducible] def i49_R15 : List Iop := [⟨(some 9), none, .mv (.c (.bool false))⟩]
@[reducible] def i49_R16 : List Iop := [⟨(some 40), none, .mv (.t 1)⟩,
  ⟨(some 41), none, .mv (.t 2)⟩,
  ⟨(some 42), none, .bin .quo (.t 40) (.t 41)⟩,
  ⟨(some 8), none, .mv (.t 42)⟩]
@[reducible] def i49_R17 : List Iop := [⟨(some 53), none, .mv (.t 9)⟩,
  ⟨(some 54), none, .nt (.t 53)⟩]
@[reducible] def i49_R18 : List Iop := [⟨(some 6), none, .mv (.c (.int .i64 0))⟩,
  ⟨(some 7), none, .mv (.c (.int .i64 13))⟩]
@[reducible] def i49_R19 : List Iop := [⟨(some 55), none, .mv (.t 8)⟩,
  ⟨(some 6), none, .mv (.t 55)⟩,
  ⟨(some 7), none, .mv (.c (.int .i64 0))⟩]
@[reducible] def i49_B : IC := (.seq (.reg none i49_R0) (.seq (.reg none i49_R1) (.seq (.seq (.reg none i49_R2) (.block 0 (.seq (.reg none i49_R3) (.cond (.t 11) (.reg none i49_R4) (.seq (.reg none i49_R5) (.cond (.t 19) (.seq (.reg none i49_R6) (.seq (.reg none i49_R7) (.cond (.t 29) (.reg none i49_R8) .skip))) (.seq (.reg none i49_R9) (.cond (.t 30) (.reg none i49_R10) (.seq (.reg none i49_R11) (.cond (.t 38) (.block 1 (.seq (.reg none i49_R12) (.cond (.t 43) (.seq (.reg none i49_R13) .ret) (.seq (.reg none i49_R14) (.cond (.t 46) (.reg none i49_R15) (.reg none i49_R16)))))) .skip)))))))))) (.seq (.seq (.reg none i49_R17) (.cond (.t 54) (.seq (.reg none i49_R18) .ret) .skip)) (.seq (.reg none i49_R19) .ret)))))
@[reducible] def i49_V : List Nat := [0, 1, 2, 6, 7, 8, 9, 10, 11, 19, 29, 30, 38, 43, 46, 54]
def i49 : IFn := ⟨56, i49_V, [.tmp 6, .tmp 7], i49_B⟩
theorem i49_ok : compF Go.Proofs.Try.prog i49_V Go.Proofs.Try.f49 = some i49 := by kernel_rfl
/-! funicular/funicularref10.truth -/
@[reducible] def i50_R0 : List Iop := [⟨(some 2), none, .alloc [.bool false, .int .i64 0]⟩]
@[reducible] def i50_R1 : List Iop := [⟨(some 3), none, .mv (.t 0)⟩]
@[reducible] def i50_R2 : List Iop := [⟨(some 4), none, .build [.bool false, .int .i64 0] [(0, 1, (.c (.bool true))), (1, 1, (.c (.int .i64 1)))]⟩,
  ⟨none, none, .st 2 (.t 2) (.t 4)⟩]
@[reducible] def i50_R3 : List Iop := [⟨(some 5), none, .build [.bool false, .int .i64 0] [(0, 1, (.c (.bool true)))]⟩,
  ⟨none, none, .st 2 (.t 2) (.t 5)⟩]
@[reducible] def i50_B : IC := (.seq (.reg none i50_R0) (.seq (.seq (.reg none i50_R1) (.cond (.t 3) (.seq (.reg none i50_R2) .ret) .skip)) (.seq (.reg none i50_R3) .ret)))
@[reducible] def i50_V : List Nat := [0, 2, 3]
def i50 : IFn := ⟨6, i50_V, [.cell 2 true 2], i50_B⟩
theorem i50_ok : compF Go.Proofs.Try.prog i50_V Go.Proofs.Try.f50 = some i50 := by kernel_rfl
/-! funicular/funicularref10.two -/
@[reducible] def i51_R0 : List Iop := [⟨(some 6), none, .mv (.c (.int .i64 0))⟩,
  ⟨(some 7), none, .mv (.c (.int .i64 0))⟩]
@[reducible] def i51_R1 : List Iop := [⟨(some 19), none, .build [.bool false, .int .u64 0, .int .u64 0, .int .u64 0] []⟩,
  ⟨(some 8), none, .alloc [.bool false, .int .u64 0, .int .u64 0, .int .u64 0]⟩,
  ⟨none, none, .st 4 (.t 8) (.t 19)⟩]
@[reducible] def i51_R2 : List Iop := [⟨(some 9), none, .mv (.c (.bool true))⟩]
@[reducible] def i51_R3 : List Iop := [⟨(some 20), none, .mv (.t 1)⟩,
  ⟨(some 21), none, .call 66 [(.t 20)]⟩,
  ⟨(some 10), none, .alloc [.bool false, .int .u64 0, .int .u64 0, .int .u64 0]⟩,
  ⟨none, none, .st 4 (.t 10) (.t 21)⟩]
@[reducible] def i51_R4 : List Iop := [⟨(some 22), none, .mv (.t 2)⟩,
  ⟨(some 23), none, .call 66 [(.t 22)]⟩,
  ⟨(some 11), none, .alloc [.bool false, .int .u64 0, .int .u64 0, .int .u64 0]⟩,
  ⟨none, none, .st 4 (.t 11) (.t 23)⟩]
@[reducible] def i51_R5 : List Iop := [⟨(some 24), none, .mv (.t 0)⟩]
@[reducible] def i51_R6 : List Iop := [⟨(some 55), none, .bin .eql (.t 24) (.c (.int .i64 7))⟩,
  ⟨(some 54), none, .mv (.t 55)⟩]
@[reducible] def i51_R7 : List Iop := [⟨(some 56), none, .ld true 4 (.t 10)⟩,
  ⟨(some 57), none, .ld true 4 (.t 11)⟩,
  ⟨(some 58), none, .call 67 [(.t 56), (.t 57)]⟩,
  ⟨none, none, .st 4 (.t 8) (.t 58)⟩]
@[reducible] def i51_R8 : List Iop := [⟨(some 60), none, .bin .eql (.t 24) (.c (.int .i64 8))⟩,
  ⟨(some 59), none, .mv (.t 60)⟩]
@[reducible] def i51_R9 : List Iop := [⟨(some 61), none, .ld true 4 (.t 10)⟩,
  ⟨(some 62), none, .fa 0 (.t 11)⟩,
  ⟨(some 63), none, .ld false 1 (.t 62)⟩,
  ⟨(some 64), none, .nt (.t 63)⟩,
  ⟨(some 65), none, .fa 1 (.t 11)⟩,
  ⟨(some 66), none, .ld true 3 (.t 65)⟩,
  ⟨(some 67), none, .build [.bool false, .int .u64 0, .int .u64 0, .int .u64 0] [(0, 1, (.t 64)), (1, 3, (.t 66))]⟩,
  ⟨(some 68), none, .call 67 [(.t 61), (.t 67)]⟩,
  ⟨none, none, .st 4 (.t 8) (.t 68)⟩]
@[reducible] def i51_R10 : List Iop := [⟨(some 70), none, .bin .eql (.t 24) (.c (.int .i64 9))⟩,
  ⟨(some 69), none, .mv (.t 70)⟩]
@[reducible] def i51_R11 : List Iop := [⟨(some 72), none, .ld true 4 (.t 10)⟩,
  ⟨(some 73), none, .ld true 4 (.t 11)⟩,
  ⟨(some 74), none, .call 68 [(.t 72), (.t 73)]⟩,
  ⟨(some 71), none, .mv (.t 74)⟩,
  ⟨(some 75), none, .ext 0 (.t 71)⟩,
  ⟨(some 76), none, .ext 1 (.t 71)⟩,
  ⟨(some 12), none, .alloc [.bool false, .int .u64 0, .int .u64 0, .int .u64 0]⟩,
  ⟨none, none, .st 4 (.t 12) (.t 75)⟩,
  ⟨(some 13), none, .mv (.t 76)⟩]
@[reducible] def i51_R12 : List Iop := [⟨(some 77), none, .ld true 4 (.t 12)⟩,
  ⟨none, none, .st 4 (.t 8) (.t 77)⟩]
@[reducible] def i51_R13 : List Iop := [⟨(some 78), none, .mv (.t 13)⟩,
  ⟨(some 9), none, .mv (.t 78)⟩]
@[reducible] def i51_R14 : List Iop := [⟨(some 25), none, .mv (.t 2)⟩,
  ⟨(some 26), none, .bin .eql (.t 25) (.c (.int .i64 0))⟩]
@[reducible] def i51_R15 : List Iop := [⟨(some 6), none, .mv (.c (.int .i64 0))⟩,
  ⟨(some 7), none, .mv (.c (.int .i64 12))⟩]
@[reducible] def i51_R16 : List Iop := [⟨(some 14), none, .mv (.c (.int .u64 0))⟩]
@[reducible] def i51_R17 : List Iop := [⟨(some 27), none, .mv (.t 1)⟩,
  ⟨(some 28), none, .bin .lss (.t 27) (.c (.int .i64 0))⟩]
@[reducible] def i51_R18 : List Iop := [⟨(some 29), none, .mv (.t 1)⟩,
  ⟨(some 30), none, .cvt .u64 (.t 29)⟩,
  ⟨(some 31), none, .ngt (.t 30)⟩,
  ⟨(some 14), none, .mv (.t 31)⟩]
@[reducible] def i51_R19 : List Iop := [⟨(some 32), none, .mv (.t 1)⟩,
  ⟨(some 33), none, .cvt .u64 (.t 32)⟩,
  ⟨(some 14), none, .mv (.t 33)⟩]
@[reducible] def i51_R20 : List Iop := [⟨(some 34), none, .mv (.t 2)⟩,
  ⟨(some 35), none, .cvt .u64 (.t 34)⟩,
  ⟨(some 15), none, .mv (.t 35)⟩]
@[reducible] def i51_R21 : List Iop := [⟨(some 36), none, .mv (.t 2)⟩,
  ⟨(some 37), none, .bin .lss (.t 36) (.c (.int .i64 0))⟩]
@[reducible] def i51_R22 : List Iop := [⟨(some 38), none, .mv (.t 15)⟩,
  ⟨(some 39), none, .ngt (.t 38)⟩,
  ⟨(some 15), none, .mv (.t 39)⟩]
@[reducible] def i51_R23 : List Iop := [⟨(some 40), none, .mv (.t 14)⟩,
  ⟨(some 41), none, .mv (.t 15)⟩,
  ⟨(some 42), none, .bin .quo (.t 40) (.t 41)⟩,
  ⟨(some 16), none, .mv (.t 42)⟩]
@[reducible] def i51_R24 : List Iop := [⟨(some 43), none, .mv (.t 1)⟩,
  ⟨(some 44), none, .bin .lss (.t 43) (.c (.int .i64 0))⟩,
  ⟨(some 45), none, .mv (.t 2)⟩,
  ⟨(some 46), none, .bin .lss (.t 45) (.c (.int .i64 0))⟩,
  ⟨(some 47), none, .eqb true (.t 44) (.t 46)⟩,
  ⟨(some 48), none, .mv (.t 16)⟩,
  ⟨(some 49), none, .bin .rem (.t 48) (.c (.int .u64 4294967296))⟩,
  ⟨(some 50), none, .mv (.t 16)⟩,
  ⟨(some 51), none, .bin .quo (.t 50) (.c (.int .u64 4294967296))⟩,
  ⟨(some 52), none, .build [.int .u64 0, .int .u64 0, .int .u64 0] [(0, 1, (.t 49)), (1, 1, (.t 51)), (2, 1, (.c (.int .u64 0)))]⟩,
  ⟨(some 53), none, .build [.bool false, .int .u64 0, .int .u64 0, .int .u64 0] [(0, 1, (.t 47)), (1, 3, (.t 52))]⟩,
  ⟨none, none, .st 4 (.t 8) (.t 53)⟩]
@[reducible] def i51_R25 : List Iop := [⟨(some 80), none, .ld true 4 (.t 8)⟩,
  ⟨(some 81), none, .call 69 [(.t 80)]⟩,
  ⟨(some 79), none, .mv (.t 81)⟩,
  ⟨(some 82), none, .ext 0 (.t 79)⟩,
  ⟨(some 83), none, .ext 1 (.t 79)⟩,
  ⟨(some 17), none, .mv (.t 82)⟩,
  ⟨(some 18), none, .mv (.t 83)⟩]
@[reducible] def i51_R26 : List Iop := [⟨(some 84), none, .mv (.t 9)⟩,
  ⟨(some 85), none, .nt (.t 84)⟩,
  ⟨(some 86), none, .mv (.t 85)⟩,
  ⟨(some 87), (some (86, false)), .mv (.t 18)⟩,
  ⟨(some 88), (some (86, false)), .nt (.t 87)⟩,
  ⟨(some 89), none, .pick (.t 86) (.c (.bool true)) (.t 88)⟩]
@[reducible] def i51_R27 : List Iop := [⟨(some 6), none, .mv (.c (.int .i64 0))⟩,
  ⟨(some 7), none, .mv (.c (.int .i64 13))⟩]
@[reducible] def i51_R28 : List Iop := [⟨(some 90), none, .mv (.t 17)⟩,
  ⟨(some 6), none, .mv (.t 90)⟩,
  ⟨(some 7), none, .mv (.c (.int .i64 0))⟩]
@[reducible] def i51_B : IC := (.seq (.reg none i51_R0) (.seq (.reg none i51_R1) (.seq (.reg none i51_R2) (.seq (.reg none i51_R3) (.seq (.reg none i51_R4) (.seq (.seq (.reg none i51_R5) (.block 0 (.seq (.reg none i51_R6) (.cond (.t 54) (.reg none i51_R7) (.seq (.reg none i51_R8) (.cond (.t 59) (.reg none i51_R9) (.seq (.reg none i51_R10) (.cond (.t 69) (.seq (.reg none i51_R11) (.seq (.reg none i51_R12) (.reg none i51_R13))) (.seq (.seq (.reg none i51_R14) (.cond (.t 26) (.seq (.reg none i51_R15) .ret) .skip)) (.seq (.reg none i51_R16) (.seq (.seq (.reg none i51_R17) (.cond (.t 28) (.reg none i51_R18) (.reg none i51_R19))) (.seq (.reg none i51_R20) (.seq (.seq (.reg none i51_R21) (.cond (.t 37) (.reg none i51_R22) .skip)) (.seq (.reg none i51_R23) (.reg none i51_R24))))))))))))))) (.seq (.reg none i51_R25) (.seq (.seq (.reg none i51_R26) (.cond (.t 89) (.seq (.reg none i51_R27) .ret) .skip)) (.seq (.reg none i51_R28) .ret)))))))))
@[reducible] def i51_V : List Nat := [0, 1, 2, 6, 7, 8, 9, 10, 11, 12, 13, 14, 15, 16, 17, 18, 24, 26, 28, 37, 54, 59, 69, 89]
def i51 : IFn := ⟨91, i51_V, [.tmp 6, .tmp 7], i51_B⟩
theorem i51_ok : compF Go.Proofs.Try.prog i51_V Go.Proofs.Try.f51 = some i51 := by kernel_rfl
/-! funicular/funicularref07.check -/
@[reducible] def i52_R0 : List Iop := [⟨(some 2), none, .box (.t 0)⟩,
  ⟨(some 4), none, .mv (.c (.int .i64 0))⟩]
@[reducible] def i52_R1 : List Iop := [⟨(some 7), none, .mv (.t 1)⟩,
  ⟨(some 8), none, .bin .gtr (.t 7) (.c (.int .i64 16))⟩]
@[reducible] def i52_R2 : List Iop := [⟨(some 4), none, .mv (.c (.int .i64 6))⟩]
@[reducible] def i52_R3 : List Iop := [⟨(some 9), none, .ld true 4 (.t 2)⟩,
  ⟨(some 10), none, .call 70 [(.t 9)]⟩,
  ⟨(some 11), none, .nt (.t 10)⟩]
@[reducible] def i52_R4 : List Iop := [⟨(some 4), none, .mv (.c (.int .i64 1))⟩]
@[reducible] def i52_R5 : List Iop := [⟨(some 5), none, .mv (.c (.int .i64 0))⟩]
@[reducible] def i52_R6 : List Iop := [⟨(some 12), none, .mv (.t 5)⟩,
  ⟨(some 13), none, .fa 3 (.t 2)⟩,
  ⟨(some 14), none, .ld false 1 (.t 13)⟩,
  ⟨(some 15), none, .lenl (.t 14)⟩,
  ⟨(some 16), none, .bin .lss (.t 12) (.t 15)⟩]
@[reducible] def i52_R7 : List Iop := [⟨(some 19), none, .fa 3 (.t 2)⟩,
  ⟨(some 20), none, .ld false 1 (.t 19)⟩,
  ⟨(some 21), none, .mv (.t 5)⟩,
  ⟨(some 22), none, .ias 4 (.t 20) (.t 21)⟩,
  ⟨(some 23), none, .ld true 4 (.t 22)⟩,
  ⟨(some 24), none, .mv (.t 1)⟩,
  ⟨(some 25), none, .bin .add (.t 24) (.c (.int .i64 1))⟩,
  ⟨(some 26), none, .call 52 [(.t 23), (.t 25)]⟩,
  ⟨(some 6), none, .mv (.t 26)⟩]
@[reducible] def i52_R8 : List Iop := [⟨(some 27), none, .mv (.t 6)⟩,
  ⟨(some 28), none, .bin .neq (.t 27) (.c (.int .i64 0))⟩]
@[reducible] def i52_R9 : List Iop := [⟨(some 29), none, .mv (.t 6)⟩,
  ⟨(some 4), none, .mv (.t 29)⟩]
@[reducible] def i52_R10 : List Iop := [⟨(some 17), none, .mv (.t 5)⟩,
  ⟨(some 18), none, .bin .add (.t 17) (.c (.int .i64 1))⟩,
  ⟨(some 5), none, .mv (.t 18)⟩]
@[reducible] def i52_L0 : IC := (.seq (.seq (.reg none i52_R6) (.cond (.t 16) .skip (.out 0))) (.seq (.block 1 (.seq (.reg none i52_R7) (.seq (.reg none i52_R8) (.cond (.t 28) (.seq (.reg none i52_R9) .ret) .skip)))) (.reg none i52_R10)))
@[reducible] def i52_R11 : List Iop := [⟨(some 4), none, .mv (.c (.int .i64 0))⟩]
@[reducible] def i52_B : IC := (.seq (.reg none i52_R0) (.seq (.seq (.reg none i52_R1) (.cond (.t 8) (.seq (.reg none i52_R2) .ret) .skip)) (.seq (.seq (.reg none i52_R3) (.cond (.t 11) (.seq (.reg none i52_R4) .ret) .skip)) (.seq (.seq (.reg none i52_R5) (.block 0 (.loop i52_L0))) (.seq (.reg none i52_R11) .ret)))))
@[reducible] def i52_V : List Nat := [0, 1, 2, 4, 5, 6, 8, 11, 16, 28]
def i52 : IFn := ⟨30, i52_V, [.tmp 4], i52_B⟩
theorem i52_ok : compF Go.Proofs.Try.prog i52_V Go.Proofs.Try.f52 = some i52 := by kernel_rfl
/-! funicular/funicularref08.two -/
@[reducible] def i53_R0 : List Iop := [⟨(some 4), none, .box (.t 1)⟩,
  ⟨(some 5), none, .box (.t 2)⟩,
  ⟨(some 6), none, .alloc [.int .i64 0, .int .i64 0, .str ⟨#[]⟩, .nil]⟩]
@[reducible] def i53_R1 : List Iop := [⟨(some 10), none, .mv (.t 0)⟩,
  ⟨(some 11), none, .ld true 4 (.t 4)⟩,
  ⟨(some 12), none, .ld true 4 (.t 5)⟩,
  ⟨(some 13), none, .bsl 4 [.int .i64 0, .int .i64 0, .str ⟨#[]⟩, .imm 0 [] false] 2 [(0, (.t 11)), (1, (.t 12))]⟩,
  ⟨(some 14), none, .build [.int .i64 0, .int .i64 0, .str ⟨#[]⟩, .nil] [(0, 1, (.t 10)), (3, 1, (.t 13))]⟩,
  ⟨(some 7), none, .alloc [.int .i64 0, .int .i64 0, .str ⟨#[]⟩, .nil]⟩,
  ⟨none, none, .st 4 (.t 7) (.t 14)⟩]
@[reducible] def i53_R2 : List Iop := [⟨(some 15), none, .mv (.t 0)⟩,
  ⟨(some 16), none, .bin .eql (.t 15) (.c (.int .i64 13))⟩]
@[reducible] def i53_R3 : List Iop := [⟨(some 17), none, .fa 0 (.t 4)⟩,
  ⟨(some 18), none, .ld false 1 (.t 17)⟩,
  ⟨(some 19), none, .bin .eql (.t 18) (.c (.int .i64 4))⟩]
@[reducible] def i53_R4 : List Iop := [⟨(some 20), none, .ld true 4 (.t 4)⟩,
  ⟨none, none, .st 4 (.t 6) (.t 20)⟩]
@[reducible] def i53_R5 : List Iop := [⟨(some 21), none, .fa 0 (.t 4)⟩,
  ⟨(some 22), none, .ld false 1 (.t 21)⟩,
  ⟨(some 23), none, .bin .eql (.t 22) (.c (.int .i64 3))⟩]
@[reducible] def i53_R6 : List Iop := [⟨(some 24), none, .ld true 4 (.t 5)⟩,
  ⟨none, none, .st 4 (.t 6) (.t 24)⟩]
@[reducible] def i53_R7 : List Iop := [⟨(some 25), none, .ld true 4 (.t 7)⟩,
  ⟨none, none, .st 4 (.t 6) (.t 25)⟩]
@[reducible] def i53_R8 : List Iop := [⟨(some 26), none, .mv (.t 0)⟩,
  ⟨(some 27), none, .bin .eql (.t 26) (.c (.int .i64 14))⟩]
@[reducible] def i53_R9 : List Iop := [⟨(some 28), none, .fa 0 (.t 4)⟩,
  ⟨(some 29), none, .ld false 1 (.t 28)⟩,
  ⟨(some 30), none, .bin .eql (.t 29) (.c (.int .i64 3))⟩]
@[reducible] def i53_R10 : List Iop := [⟨(some 31), none, .ld true 4 (.t 4)⟩,
  ⟨none, none, .st 4 (.t 6) (.t 31)⟩]
@[reducible] def i53_R11 : List Iop := [⟨(some 32), none, .fa 0 (.t 4)⟩,
  ⟨(some 33), none, .ld false 1 (.t 32)⟩,
  ⟨(some 34), none, .bin .eql (.t 33) (.c (.int .i64 4))⟩]
@[reducible] def i53_R12 : List Iop := [⟨(some 35), none, .ld true 4 (.t 5)⟩,
  ⟨none, none, .st 4 (.t 6) (.t 35)⟩]
@[reducible] def i53_R13 : List Iop := [⟨(some 36), none, .ld true 4 (.t 7)⟩,
  ⟨none, none, .st 4 (.t 6) (.t 36)⟩]
@[reducible] def i53_R14 : List Iop := [⟨(some 37), none, .ld true 4 (.t 4)⟩,
  ⟨(some 38), none, .call 54 [(.t 37)]⟩,
  ⟨(some 39), none, .nt (.t 38)⟩,
  ⟨(some 40), none, .mv (.t 39)⟩,
  ⟨(some 41), (some (40, false)), .ld true 4 (.t 5)⟩,
  ⟨(some 42), (some (40, false)), .call 54 [(.t 41)]⟩,
  ⟨(some 43), (some (40, false)), .nt (.t 42)⟩,
  ⟨(some 44), none, .pick (.t 40) (.c (.bool true)) (.t 43)⟩]
@[reducible] def i53_R15 : List Iop := [⟨(some 45), none, .ld true 4 (.t 7)⟩,
  ⟨none, none, .st 4 (.t 6) (.t 45)⟩]
@[reducible] def i53_R16 : List Iop := [⟨(some 46), none, .mv (.t 0)⟩,
  ⟨(some 47), none, .bin .eql (.t 46) (.c (.int .i64 11))⟩]
@[reducible] def i53_R17 : List Iop := [⟨(some 48), none, .ld true 4 (.t 4)⟩,
  ⟨(some 49), none, .ld true 4 (.t 5)⟩,
  ⟨(some 50), none, .call 71 [(.t 48), (.t 49)]⟩,
  ⟨(some 51), none, .call 55 [(.t 50)]⟩,
  ⟨none, none, .st 4 (.t 6) (.t 51)⟩]
@[reducible] def i53_R18 : List Iop := [⟨(some 53), none, .mv (.t 0)⟩,
  ⟨(some 54), none, .fa 1 (.t 4)⟩,
  ⟨(some 55), none, .ld false 1 (.t 54)⟩,
  ⟨(some 56), none, .fa 1 (.t 5)⟩,
  ⟨(some 57), none, .ld false 1 (.t 56)⟩,
  ⟨(some 58), none, .call 72 [(.t 53), (.t 55), (.t 57)]⟩,
  ⟨(some 52), none, .mv (.t 58)⟩,
  ⟨(some 59), none, .ext 0 (.t 52)⟩,
  ⟨(some 60), none, .ext 1 (.t 52)⟩,
  ⟨(some 8), none, .alloc [.int .i64 0, .int .i64 0, .str ⟨#[]⟩, .nil]⟩,
  ⟨none, none, .st 4 (.t 8) (.t 59)⟩,
  ⟨(some 9), none, .mv (.t 60)⟩]
@[reducible] def i53_R19 : List Iop := [⟨(some 61), none, .mv (.t 9)⟩]
@[reducible] def i53_R20 : List Iop := [⟨(some 62), none, .ld true 4 (.t 8)⟩,
  ⟨none, none, .st 4 (.t 6) (.t 62)⟩]
@[reducible] def i53_R21 : List Iop := [⟨(some 63), none, .ld true 4 (.t 7)⟩,
  ⟨none, none, .st 4 (.t 6) (.t 63)⟩]
@[reducible] def i53_B : IC := (.seq (.reg none i53_R0) (.seq (.reg none i53_R1) (.seq (.seq (.reg none i53_R2) (.cond (.t 16) (.seq (.seq (.reg none i53_R3) (.cond (.t 19) (.seq (.reg none i53_R4) .ret) .skip)) (.seq (.seq (.reg none i53_R5) (.cond (.t 23) (.seq (.reg none i53_R6) .ret) .skip)) (.seq (.reg none i53_R7) .ret))) .skip)) (.seq (.seq (.reg none i53_R8) (.cond (.t 27) (.seq (.seq (.reg none i53_R9) (.cond (.t 30) (.seq (.reg none i53_R10) .ret) .skip)) (.seq (.seq (.reg none i53_R11) (.cond (.t 34) (.seq (.reg none i53_R12) .ret) .skip)) (.seq (.reg none i53_R13) .ret))) .skip)) (.seq (.seq (.reg none i53_R14) (.cond (.t 44) (.seq (.reg none i53_R15) .ret) .skip)) (.seq (.seq (.reg none i53_R16) (.cond (.t 47) (.seq (.reg none i53_R17) .ret) .skip)) (.seq (.reg none i53_R18) (.seq (.seq (.reg none i53_R19) (.cond (.t 61) (.seq (.reg none i53_R20) .ret) .skip)) (.seq (.reg none i53_R21) .ret)))))))))
@[reducible] def i53_V : List Nat := [0, 1, 2, 4, 5, 6, 7, 8, 9, 16, 19, 23, 27, 30, 34, 44, 47, 61]
def i53 : IFn := ⟨64, i53_V, [.cell 6 true 4], i53_B⟩
theorem i53_ok : compF Go.Proofs.Try.prog i53_V Go.Proofs.Try.f53 = some i53 := by kernel_rfl
/-! funicular/funicularref08.plain -/
@[reducible] def i54_R0 : List Iop := [⟨(some 1), none, .box (.t 0)⟩,
  ⟨(some 2), none, .mv (.c (.bool false))⟩]
@[reducible] def i54_R1 : List Iop := [⟨(some 3), none, .fa 0 (.t 1)⟩,
  ⟨(some 4), none, .ld false 1 (.t 3)⟩,
  ⟨(some 5), none, .bin .eql (.t 4) (.c (.int .i64 1))⟩,
  ⟨(some 6), none, .mv (.t 5)⟩,
  ⟨(some 7), (some (6, false)), .fa 0 (.t 1)⟩,
  ⟨(some 8), (some (6, false)), .ld false 1 (.t 7)⟩,
  ⟨(some 9), (some (6, false)), .bin .eql (.t 8) (.c (.int .i64 3))⟩,
  ⟨(some 10), none, .pick (.t 6) (.c (.bool true)) (.t 9)⟩,
  ⟨(some 11), none, .mv (.t 10)⟩,
  ⟨(some 12), (some (11, false)), .fa 0 (.t 1)⟩,
  ⟨(some 13), (some (11, false)), .ld false 1 (.t 12)⟩,
  ⟨(some 14), (some (11, false)), .bin .eql (.t 13) (.c (.int .i64 4))⟩,
  ⟨(some 15), none, .pick (.t 11) (.c (.bool true)) (.t 14)⟩,
  ⟨(some 2), none, .mv (.t 15)⟩]
@[reducible] def i54_B : IC := (.seq (.reg none i54_R0) (.seq (.reg none i54_R1) .ret))
@[reducible] def i54_V : List Nat := [0, 1, 2]
def i54 : IFn := ⟨16, i54_V, [.tmp 2], i54_B⟩
theorem i54_ok : compF Go.Proofs.Try.prog i54_V Go.Proofs.Try.f54 = some i54 := by kernel_rfl
/-! funicular/funicularref08.yes -/
@[reducible] def i55_R0 : List Iop := [⟨(some 2), none, .alloc [.int .i64 0, .int .i64 0, .str ⟨#[]⟩, .nil]⟩]
@[reducible] def i55_R1 : List Iop := [⟨(some 3), none, .mv (.t 0)⟩]
@[reducible] def i55_R2 : List Iop := [⟨(some 4), none, .build [.int .i64 0, .int .i64 0, .str ⟨#[]⟩, .nil] [(0, 1, (.c (.int .i64 3)))]⟩,
  ⟨none, none, .st 4 (.t 2) (.t 4)⟩]
@[reducible] def i55_R3 : List Iop := [⟨(some 5), none, .build [.int .i64 0, .int .i64 0, .str ⟨#[]⟩, .nil] [(0, 1, (.c (.int .i64 4)))]⟩,
  ⟨none, none, .st 4 (.t 2) (.t 5)⟩]
@[reducible] def i55_B : IC := (.seq (.reg none i55_R0) (.seq (.seq (.reg none i55_R1) (.cond (.t 3) (.seq (.reg none i55_R2) .ret) .skip)) (.seq (.reg none i55_R3) .ret)))
@[reducible] def i55_V : List Nat := [0, 2, 3]
def i55 : IFn := ⟨6, i55_V, [.cell 2 true 4], i55_B⟩
theorem i55_ok : compF Go.Proofs.Try.prog i55_V Go.Proofs.Try.f55 = some i55 := by kernel_rfl
/-! funicular/funicularref06.One -/
@[reducible] def i56_R0 : List Iop := [⟨(some 2), none, .alloc [.int .i64 0, .str ⟨#[]⟩, .int .i64 0, .int .i64 0]⟩,
  ⟨(some 3), none, .mv (.c (.int .i64 0))⟩,
  ⟨(some 4), none, .mv (.c (.int .i64 0))⟩,
  ⟨(some 5), none, .mv (.c (.int .i64 0))⟩]
@[reducible] def i56_R1 : List Iop := [⟨(some 9), none, .mv (.t 0)⟩,
  ⟨(some 10), none, .ixs (.t 9) (.c (.int .i64 0))⟩,
  ⟨(some 11), none, .call 73 [(.t 10)]⟩]
@[reducible] def i56_R2 : List Iop := [⟨(some 12), none, .mv (.t 0)⟩,
  ⟨(some 13), none, .sls (.t 12) none (some (.c (.int .i64 1)))⟩,
  ⟨(some 14), none, .build [.int .i64 0, .str ⟨#[]⟩, .int .i64 0, .int .i64 0] [(0, 1, (.c (.int .i64 3))), (1, 1, (.t 13))]⟩,
  ⟨none, none, .st 4 (.t 2) (.t 14)⟩,
  ⟨(some 3), none, .mv (.c (.int .i64 1))⟩,
  ⟨(some 4), none, .mv (.c (.int .i64 0))⟩,
  ⟨(some 5), none, .mv (.c (.int .i64 0))⟩]
@[reducible] def i56_R3 : List Iop := [⟨(some 6), none, .mv (.c (.int .i64 1))⟩]
@[reducible] def i56_R4 : List Iop := [⟨(some 15), none, .mv (.t 0)⟩,
  ⟨(some 16), none, .ixs (.t 15) (.c (.int .i64 0))⟩,
  ⟨(some 17), none, .call 74 [(.t 16)]⟩]
@[reducible] def i56_R5 : List Iop := [⟨(some 18), none, .mv (.t 6)⟩,
  ⟨(some 19), none, .mv (.t 0)⟩,
  ⟨(some 20), none, .lens (.t 19)⟩,
  ⟨(some 21), none, .bin .lss (.t 18) (.t 20)⟩,
  ⟨(some 22), none, .mv (.t 21)⟩,
  ⟨(some 23), (some (22, true)), .mv (.t 0)⟩,
  ⟨(some 24), (some (22, true)), .mv (.t 6)⟩,
  ⟨(some 25), (some (22, true)), .ixs (.t 23) (.t 24)⟩,
  ⟨(some 26), (some (22, true)), .call 74 [(.t 25)]⟩,
  ⟨(some 27), none, .pick (.t 22) (.t 26) (.c (.bool false))⟩]
@[reducible] def i56_R6 : List Iop := [⟨(some 28), none, .mv (.t 6)⟩,
  ⟨(some 29), none, .bin .add (.t 28) (.c (.int .i64 1))⟩,
  ⟨(some 6), none, .mv (.t 29)⟩]
@[reducible] def i56_L0 : IC := (.seq (.seq (.reg none i56_R5) (.cond (.t 27) .skip (.out 0))) (.block 1 (.reg none i56_R6)))
@[reducible] def i56_R7 : List Iop := [⟨(some 31), none, .mv (.t 0)⟩,
  ⟨(some 32), none, .mv (.t 6)⟩,
  ⟨(some 33), none, .sls (.t 31) none (some (.t 32))⟩,
  ⟨(some 34), none, .call 75 [(.t 33)]⟩,
  ⟨(some 30), none, .mv (.t 34)⟩,
  ⟨(some 35), none, .ext 0 (.t 30)⟩,
  ⟨(some 36), none, .ext 1 (.t 30)⟩,
  ⟨(some 7), none, .mv (.t 35)⟩,
  ⟨(some 8), none, .mv (.t 36)⟩]
@[reducible] def i56_R8 : List Iop := [⟨(some 37), none, .mv (.t 8)⟩,
  ⟨(some 38), none, .nt (.t 37)⟩]
@[reducible] def i56_R9 : List Iop := [⟨(some 39), none, .build [.int .i64 0, .str ⟨#[]⟩, .int .i64 0, .int .i64 0] []⟩,
  ⟨none, none, .st 4 (.t 2) (.t 39)⟩,
  ⟨(some 3), none, .mv (.c (.int .i64 0))⟩,
  ⟨(some 4), none, .mv (.c (.int .i64 13))⟩,
  ⟨(some 5), none, .mv (.c (.int .i64 0))⟩]
@[reducible] def i56_R10 : List Iop := [⟨(some 40), none, .mv (.t 6)⟩,
  ⟨(some 41), none, .mv (.t 0)⟩,
  ⟨(some 42), none, .lens (.t 41)⟩,
  ⟨(some 43), none, .bin .lss (.t 40) (.t 42)⟩,
  ⟨(some 44), none, .mv (.t 43)⟩,
  ⟨(some 45), (some (44, true)), .mv (.t 0)⟩,
  ⟨(some 46), (some (44, true)), .mv (.t 6)⟩,
  ⟨(some 47), (some (44, true)), .ixs (.t 45) (.t 46)⟩,
  ⟨(some 48), (some (44, true)), .call 76 [(.t 47)]⟩,
  ⟨(some 49), none, .pick (.t 44) (.t 48) (.c (.bool false))⟩]
@[reducible] def i56_R11 : List Iop := [⟨(some 50), none, .build [.int .i64 0, .str ⟨#[]⟩, .int .i64 0, .int .i64 0] []⟩,
  ⟨(some 51), none, .mv (.t 6)⟩,
  ⟨none, none, .st 4 (.t 2) (.t 50)⟩,
  ⟨(some 3), none, .mv (.c (.int .i64 0))⟩,
  ⟨(some 4), none, .mv (.c (.int .i64 3))⟩,
  ⟨(some 5), none, .mv (.t 51)⟩]
@[reducible] def i56_R12 : List Iop := [⟨(some 52), none, .mv (.t 7)⟩,
  ⟨(some 53), none, .build [.int .i64 0, .str ⟨#[]⟩, .int .i64 0, .int .i64 0] [(0, 1, (.c (.int .i64 1))), (2, 1, (.t 52))]⟩,
  ⟨(some 54), none, .mv (.t 6)⟩,
  ⟨none, none, .st 4 (.t 2) (.t 53)⟩,
  ⟨(some 3), none, .mv (.t 54)⟩,
  ⟨(some 4), none, .mv (.c (.int .i64 0))⟩,
  ⟨(some 5), none, .mv (.c (.int .i64 0))⟩]
@[reducible] def i56_R13 : List Iop := [⟨(some 55), none, .mv (.t 0)⟩,
  ⟨(some 56), none, .ixs (.t 55) (.c (.int .i64 0))⟩,
  ⟨(some 57), none, .call 76 [(.t 56)]⟩,
  ⟨(some 58), none, .nt (.t 57)⟩]
@[reducible] def i56_R14 : List Iop := [⟨(some 59), none, .build [.int .i64 0, .str ⟨#[]⟩, .int .i64 0, .int .i64 0] []⟩,
  ⟨none, none, .st 4 (.t 2) (.t 59)⟩,
  ⟨(some 3), none, .mv (.c (.int .i64 0))⟩,
  ⟨(some 4), none, .mv (.c (.int .i64 3))⟩,
  ⟨(some 5), none, .mv (.c (.int .i64 0))⟩]
@[reducible] def i56_R15 : List Iop := [⟨(some 60), none, .mv (.t 6)⟩,
  ⟨(some 61), none, .mv (.t 0)⟩,
  ⟨(some 62), none, .lens (.t 61)⟩,
  ⟨(some 63), none, .bin .lss (.t 60) (.t 62)⟩,
  ⟨(some 64), none, .mv (.t 63)⟩,
  ⟨(some 65), (some (64, true)), .mv (.t 0)⟩,
  ⟨(some 66), (some (64, true)), .mv (.t 6)⟩,
  ⟨(some 67), (some (64, true)), .ixs (.t 65) (.t 66)⟩,
  ⟨(some 68), (some (64, true)), .call 76 [(.t 67)]⟩,
  ⟨(some 69), (some (64, true)), .mv (.t 68)⟩,
  ⟨(some 70), (some (69, false)), .mv (.t 0)⟩,
  ⟨(some 71), (some (69, false)), .mv (.t 6)⟩,
  ⟨(some 72), (some (69, false)), .ixs (.t 70) (.t 71)⟩,
  ⟨(some 73), (some (69, false)), .call 74 [(.t 72)]⟩,
  ⟨(some 74), (some (64, true)), .pick (.t 69) (.c (.bool true)) (.t 73)⟩,
  ⟨(some 75), none, .pick (.t 64) (.t 74) (.c (.bool false))⟩]
@[reducible] def i56_R16 : List Iop := [⟨(some 76), none, .mv (.t 6)⟩,
  ⟨(some 77), none, .bin .add (.t 76) (.c (.int .i64 1))⟩,
  ⟨(some 6), none, .mv (.t 77)⟩]
@[reducible] def i56_L1 : IC := (.seq (.seq (.reg none i56_R15) (.cond (.t 75) .skip (.out 2))) (.block 3 (.reg none i56_R16)))
@[reducible] def i56_R17 : List Iop := [⟨(some 78), none, .mv (.t 6)⟩,
  ⟨(some 79), none, .bin .gtr (.t 78) (.c (.int .i64 32))⟩]
@[reducible] def i56_R18 : List Iop := [⟨(some 80), none, .build [.int .i64 0, .str ⟨#[]⟩, .int .i64 0, .int .i64 0] []⟩,
  ⟨none, none, .st 4 (.t 2) (.t 80)⟩,
  ⟨(some 3), none, .mv (.c (.int .i64 0))⟩,
  ⟨(some 4), none, .mv (.c (.int .i64 3))⟩,
  ⟨(some 5), none, .mv (.c (.int .i64 0))⟩]
@[reducible] def i56_R19 : List Iop := [⟨(some 81), none, .mv (.t 0)⟩,
  ⟨(some 82), none, .mv (.t 6)⟩,
  ⟨(some 83), none, .sls (.t 81) none (some (.t 82))⟩,
  ⟨(some 84), none, .build [.int .i64 0, .str ⟨#[]⟩, .int .i64 0, .int .i64 0] [(0, 1, (.c (.int .i64 2))), (1, 1, (.t 83))]⟩,
  ⟨(some 85), none, .mv (.t 6)⟩,
  ⟨none, none, .st 4 (.t 2) (.t 84)⟩,
  ⟨(some 3), none, .mv (.t 85)⟩,
  ⟨(some 4), none, .mv (.c (.int .i64 0))⟩,
  ⟨(some 5), none, .mv (.c (.int .i64 0))⟩]
@[reducible] def i56_B : IC := (.seq (.reg none i56_R0) (.seq (.seq (.reg none i56_R1) (.cond (.t 11) (.seq (.reg none i56_R2) .ret) .skip)) (.seq (.reg none i56_R3) (.seq (.seq (.reg none i56_R4) (.cond (.t 17) (.seq (.block 0 (.loop i56_L0)) (.seq (.reg none i56_R7) (.seq (.seq (.reg none i56_R8) (.cond (.t 38) (.seq (.reg none i56_R9) .ret) .skip)) (.seq (.seq (.reg none i56_R10) (.cond (.t 49) (.seq (.reg none i56_R11) .ret) .skip)) (.seq (.reg none i56_R12) .ret))))) .skip)) (.seq (.seq (.reg none i56_R13) (.cond (.t 58) (.seq (.reg none i56_R14) .ret) .skip)) (.seq (.block 2 (.loop i56_L1)) (.seq (.seq (.reg none i56_R17) (.cond (.t 79) (.seq (.reg none i56_R18) .ret) .skip)) (.seq (.reg none i56_R19) .ret))))))))
@[reducible] def i56_V : List Nat := [0, 2, 3, 4, 5, 6, 7, 8, 11, 17, 27, 38, 49, 58, 75, 79]
def i56 : IFn := ⟨86, i56_V, [.cell 2 true 4, .tmp 3, .tmp 4, .tmp 5], i56_B⟩
theorem i56_ok : compF Go.Proofs.Try.prog i56_V Go.Proofs.Try.f56 = some i56 := by kernel_rfl
/-! funicular/funicularref07.is -/
@[reducible] def i57_R0 : List Iop := [⟨(some 2), none, .box (.t 0)⟩,
  ⟨(some 4), none, .mv (.c (.bool false))⟩]
@[reducible] def i57_R1 : List Iop := [⟨(some 5), none, .fa 0 (.t 2)⟩,
  ⟨(some 6), none, .ld false 1 (.t 5)⟩,
  ⟨(some 7), none, .bin .eql (.t 6) (.c (.int .i64 3))⟩,
  ⟨(some 8), none, .mv (.t 7)⟩,
  ⟨(some 9), (some (8, true)), .fa 1 (.t 2)⟩,
  ⟨(some 10), (some (8, true)), .ld false 1 (.t 9)⟩,
  ⟨(some 11), (some (8, true)), .mv (.t 1)⟩,
  ⟨(some 12), (some (8, true)), .bin .eql (.t 10) (.t 11)⟩,
  ⟨(some 13), none, .pick (.t 8) (.t 12) (.c (.bool false))⟩,
  ⟨(some 4), none, .mv (.t 13)⟩]
@[reducible] def i57_B : IC := (.seq (.reg none i57_R0) (.seq (.reg none i57_R1) .ret))
@[reducible] def i57_V : List Nat := [0, 1, 2, 4]
def i57 : IFn := ⟨14, i57_V, [.tmp 4], i57_B⟩
theorem i57_ok : compF Go.Proofs.Try.prog i57_V Go.Proofs.Try.f57 = some i57 := by kernel_rfl
/-! funicular/funicularref07.level -/
@[reducible] def i58_R0 : List Iop := [⟨(some 2), none, .mv (.c (.int .i64 0))⟩]
@[reducible] def i58_R1 : List Iop := [⟨(some 3), none, .mv (.t 0)⟩,
  ⟨(some 4), none, .bin .eql (.t 3) (.c (.int .i64 14))⟩]
@[reducible] def i58_R2 : List Iop := [⟨(some 2), none, .mv (.c (.int .i64 1))⟩]
@[reducible] def i58_R3 : List Iop := [⟨(some 5), none, .mv (.t 0)⟩,
  ⟨(some 6), none, .bin .eql (.t 5) (.c (.int .i64 13))⟩]
@[reducible] def i58_R4 : List Iop := [⟨(some 2), none, .mv (.c (.int .i64 2))⟩]
@[reducible] def i58_R5 : List Iop := [⟨(some 7), none, .mv (.t 0)⟩,
  ⟨(some 8), none, .bin .eql (.t 7) (.c (.int .i64 11))⟩,
  ⟨(some 9), none, .mv (.t 8)⟩,
  ⟨(some 10), (some (9, false)), .mv (.t 0)⟩,
  ⟨(some 11), (some (9, false)), .bin .eql (.t 10) (.c (.int .i64 12))⟩,
  ⟨(some 12), none, .pick (.t 9) (.c (.bool true)) (.t 11)⟩]
@[reducible] def i58_R6 : List Iop := [⟨(some 2), none, .mv (.c (.int .i64 3))⟩]
@[reducible] def i58_R7 : List Iop := [⟨(some 13), none, .mv (.t 0)⟩,
  ⟨(some 14), none, .bin .eql (.t 13) (.c (.int .i64 7))⟩,
  ⟨(some 15), none, .mv (.t 14)⟩,
  ⟨(some 16), (some (15, false)), .mv (.t 0)⟩,
  ⟨(some 17), (some (15, false)), .bin .eql (.t 16) (.c (.int .i64 8))⟩,
  ⟨(some 18), none, .pick (.t 15) (.c (.bool true)) (.t 17)⟩]
@[reducible] def i58_R8 : List Iop := [⟨(some 2), none, .mv (.c (.int .i64 4))⟩]
@[reducible] def i58_R9 : List Iop := [⟨(some 19), none, .mv (.t 0)⟩,
  ⟨(some 20), none, .bin .eql (.t 19) (.c (.int .i64 9))⟩,
  ⟨(some 21), none, .mv (.t 20)⟩,
  ⟨(some 22), (some (21, false)), .mv (.t 0)⟩,
  ⟨(some 23), (some (21, false)), .bin .eql (.t 22) (.c (.int .i64 10))⟩,
  ⟨(some 24), none, .pick (.t 21) (.c (.bool true)) (.t 23)⟩]
@[reducible] def i58_R10 : List Iop := [⟨(some 2), none, .mv (.c (.int .i64 5))⟩]
@[reducible] def i58_R11 : List Iop := [⟨(some 2), none, .mv (.c (.int .i64 6))⟩]
@[reducible] def i58_B : IC := (.seq (.reg none i58_R0) (.seq (.seq (.reg none i58_R1) (.cond (.t 4) (.seq (.reg none i58_R2) .ret) .skip)) (.seq (.seq (.reg none i58_R3) (.cond (.t 6) (.seq (.reg none i58_R4) .ret) .skip)) (.seq (.seq (.reg none i58_R5) (.cond (.t 12) (.seq (.reg none i58_R6) .ret) .skip)) (.seq (.seq (.reg none i58_R7) (.cond (.t 18) (.seq (.reg none i58_R8) .ret) .skip)) (.seq (.seq (.reg none i58_R9) (.cond (.t 24) (.seq (.reg none i58_R10) .ret) .skip)) (.seq (.reg none i58_R11) .ret)))))))
@[reducible] def i58_V : List Nat := [0, 2, 4, 6, 12, 18, 24]
def i58 : IFn := ⟨25, i58_V, [.tmp 2], i58_B⟩
theorem i58_ok : compF Go.Proofs.Try.prog i58_V Go.Proofs.Try.f58 = some i58 := by kernel_rfl
/-! funicular/funicularref07.kind -/
@[reducible] def i59_R0 : List Iop := [⟨(some 1), none, .box (.t 0)⟩,
  ⟨(some 2), none, .mv (.c (.int .i64 0))⟩]
@[reducible] def i59_R1 : List Iop := [⟨(some 3), none, .fa 0 (.t 1)⟩,
  ⟨(some 4), none, .ld false 1 (.t 3)⟩,
  ⟨(some 5), none, .bin .neq (.t 4) (.c (.int .i64 3))⟩]
@[reducible] def i59_R2 : List Iop := [⟨(some 2), none, .mv (.c (.int .i64 0))⟩]
@[reducible] def i59_R3 : List Iop := [⟨(some 6), none, .fa 1 (.t 1)⟩,
  ⟨(some 7), none, .ld false 1 (.t 6)⟩]
@[reducible] def i59_R4 : List Iop := [⟨(some 9), none, .bin .eql (.t 7) (.c (.str ⟨#[124]⟩))⟩,
  ⟨(some 8), none, .mv (.t 9)⟩]
@[reducible] def i59_R5 : List Iop := [⟨(some 2), none, .mv (.c (.int .i64 14))⟩]
@[reducible] def i59_R6 : List Iop := [⟨(some 11), none, .bin .eql (.t 7) (.c (.str ⟨#[38]⟩))⟩,
  ⟨(some 10), none, .mv (.t 11)⟩]
@[reducible] def i59_R7 : List Iop := [⟨(some 2), none, .mv (.c (.int .i64 13))⟩]
@[reducible] def i59_R8 : List Iop := [⟨(some 13), none, .bin .eql (.t 7) (.c (.str ⟨#[61]⟩))⟩,
  ⟨(some 12), none, .mv (.t 13)⟩]
@[reducible] def i59_R9 : List Iop := [⟨(some 2), none, .mv (.c (.int .i64 11))⟩]
@[reducible] def i59_R10 : List Iop := [⟨(some 15), none, .bin .eql (.t 7) (.c (.str ⟨#[60]⟩))⟩,
  ⟨(some 14), none, .mv (.t 15)⟩]
@[reducible] def i59_R11 : List Iop := [⟨(some 2), none, .mv (.c (.int .i64 12))⟩]
@[reducible] def i59_R12 : List Iop := [⟨(some 17), none, .bin .eql (.t 7) (.c (.str ⟨#[43]⟩))⟩,
  ⟨(some 16), none, .mv (.t 17)⟩]
@[reducible] def i59_R13 : List Iop := [⟨(some 2), none, .mv (.c (.int .i64 7))⟩]
@[reducible] def i59_R14 : List Iop := [⟨(some 19), none, .bin .eql (.t 7) (.c (.str ⟨#[45]⟩))⟩,
  ⟨(some 18), none, .mv (.t 19)⟩]
@[reducible] def i59_R15 : List Iop := [⟨(some 2), none, .mv (.c (.int .i64 8))⟩]
@[reducible] def i59_R16 : List Iop := [⟨(some 21), none, .bin .eql (.t 7) (.c (.str ⟨#[42]⟩))⟩,
  ⟨(some 20), none, .mv (.t 21)⟩]
@[reducible] def i59_R17 : List Iop := [⟨(some 2), none, .mv (.c (.int .i64 9))⟩]
@[reducible] def i59_R18 : List Iop := [⟨(some 23), none, .bin .eql (.t 7) (.c (.str ⟨#[47]⟩))⟩,
  ⟨(some 22), none, .mv (.t 23)⟩]
@[reducible] def i59_R19 : List Iop := [⟨(some 2), none, .mv (.c (.int .i64 10))⟩]
@[reducible] def i59_R20 : List Iop := [⟨(some 2), none, .mv (.c (.int .i64 0))⟩]
@[reducible] def i59_B : IC := (.seq (.reg none i59_R0) (.seq (.seq (.reg none i59_R1) (.cond (.t 5) (.seq (.reg none i59_R2) .ret) .skip)) (.seq (.seq (.reg none i59_R3) (.block 0 (.seq (.reg none i59_R4) (.cond (.t 8) (.seq (.reg none i59_R5) .ret) (.seq (.reg none i59_R6) (.cond (.t 10) (.seq (.reg none i59_R7) .ret) (.seq (.reg none i59_R8) (.cond (.t 12) (.seq (.reg none i59_R9) .ret) (.seq (.reg none i59_R10) (.cond (.t 14) (.seq (.reg none i59_R11) .ret) (.seq (.reg none i59_R12) (.cond (.t 16) (.seq (.reg none i59_R13) .ret) (.seq (.reg none i59_R14) (.cond (.t 18) (.seq (.reg none i59_R15) .ret) (.seq (.reg none i59_R16) (.cond (.t 20) (.seq (.reg none i59_R17) .ret) (.seq (.reg none i59_R18) (.cond (.t 22) (.seq (.reg none i59_R19) .ret) .skip)))))))))))))))))) (.seq (.reg none i59_R20) .ret))))
@[reducible] def i59_V : List Nat := [0, 1, 2, 5, 7, 8, 10, 12, 14, 16, 18, 20, 22]
def i59 : IFn := ⟨24, i59_V, [.tmp 2], i59_B⟩
theorem i59_ok : compF Go.Proofs.Try.prog i59_V Go.Proofs.Try.f59 = some i59 := by kernel_rfl
/-! funicular/funicularref07.split -/
@[reducible] def i60_R0 : List Iop := [⟨(some 2), none, .mv (.c (.int .i64 0))⟩]
@[reducible] def i60_R1 : List Iop := [⟨(some 3), none, .mv (.c (.int .i64 (-1)))⟩]
@[reducible] def i60_R2 : List Iop := [⟨(some 4), none, .mv (.c (.int .i64 0))⟩]
@[reducible] def i60_R3 : List Iop := [⟨(some 5), none, .mv (.c (.int .i64 0))⟩]
@[reducible] def i60_R4 : List Iop := [⟨(some 7), none, .mv (.t 5)⟩,
  ⟨(some 8), none, .mv (.t 0)⟩,
  ⟨(some 9), none, .lenl (.t 8)⟩,
  ⟨(some 10), none, .bin .lss (.t 7) (.t 9)⟩]
@[reducible] def i60_R5 : List Iop := [⟨(some 13), none, .mv (.t 0)⟩,
  ⟨(some 14), none, .mv (.t 5)⟩,
  ⟨(some 15), none, .ias 4 (.t 13) (.t 14)⟩,
  ⟨(some 16), none, .ld true 4 (.t 15)⟩,
  ⟨(some 17), none, .call 57 [(.t 16), (.c (.str ⟨#[40]⟩))]⟩]
@[reducible] def i60_R6 : List Iop := [⟨(some 18), none, .mv (.t 4)⟩,
  ⟨(some 19), none, .bin .add (.t 18) (.c (.int .i64 1))⟩,
  ⟨(some 4), none, .mv (.t 19)⟩]
@[reducible] def i60_R7 : List Iop := [⟨(some 20), none, .mv (.t 0)⟩,
  ⟨(some 21), none, .mv (.t 5)⟩,
  ⟨(some 22), none, .ias 4 (.t 20) (.t 21)⟩,
  ⟨(some 23), none, .ld true 4 (.t 22)⟩,
  ⟨(some 24), none, .call 57 [(.t 23), (.c (.str ⟨#[41]⟩))]⟩]
@[reducible] def i60_R8 : List Iop := [⟨(some 25), none, .mv (.t 4)⟩,
  ⟨(some 26), none, .bin .sub (.t 25) (.c (.int .i64 1))⟩,
  ⟨(some 4), none, .mv (.t 26)⟩]
@[reducible] def i60_R9 : List Iop := [⟨(some 27), none, .mv (.t 4)⟩,
  ⟨(some 28), none, .bin .gtr (.t 27) (.c (.int .i64 0))⟩,
  ⟨(some 29), none, .mv (.t 28)⟩,
  ⟨(some 30), (some (29, false)), .mv (.t 5)⟩,
  ⟨(some 31), (some (29, false)), .bin .eql (.t 30) (.c (.int .i64 0))⟩,
  ⟨(some 32), none, .pick (.t 29) (.c (.bool true)) (.t 31)⟩,
  ⟨(some 33), none, .mv (.t 32)⟩,
  ⟨(some 34), (some (33, false)), .mv (.t 0)⟩,
  ⟨(some 35), (some (33, false)), .mv (.t 5)⟩,
  ⟨(some 36), (some (33, false)), .ias 4 (.t 34) (.t 35)⟩,
  ⟨(some 37), (some (33, false)), .ld true 4 (.t 36)⟩,
  ⟨(some 38), (some (33, false)), .call 59 [(.t 37)]⟩,
  ⟨(some 39), (some (33, false)), .bin .eql (.t 38) (.c (.int .i64 0))⟩,
  ⟨(some 40), none, .pick (.t 33) (.c (.bool true)) (.t 39)⟩]
@[reducible] def i60_R10 : List Iop := [⟨(some 41), none, .mv (.t 0)⟩,
  ⟨(some 42), none, .mv (.t 5)⟩,
  ⟨(some 43), none, .bin .sub (.t 42) (.c (.int .i64 1))⟩,
  ⟨(some 44), none, .ias 4 (.t 41) (.t 43)⟩,
  ⟨(some 45), none, .ld true 4 (.t 44)⟩,
  ⟨(some 6), none, .alloc [.int .i64 0, .str ⟨#[]⟩, .int .i64 0, .int .i64 0]⟩,
  ⟨none, none, .st 4 (.t 6) (.t 45)⟩]
@[reducible] def i60_R11 : List Iop := [⟨(some 46), none, .fa 0 (.t 6)⟩,
  ⟨(some 47), none, .ld false 1 (.t 46)⟩,
  ⟨(some 48), none, .bin .neq (.t 47) (.c (.int .i64 1))⟩,
  ⟨(some 49), none, .mv (.t 48)⟩,
  ⟨(some 50), (some (49, true)), .fa 0 (.t 6)⟩,
  ⟨(some 51), (some (49, true)), .ld false 1 (.t 50)⟩,
  ⟨(some 52), (some (49, true)), .bin .neq (.t 51) (.c (.int .i64 2))⟩,
  ⟨(some 53), none, .pick (.t 49) (.t 52) (.c (.bool false))⟩,
  ⟨(some 54), none, .mv (.t 53)⟩,
  ⟨(some 55), (some (54, true)), .ld true 4 (.t 6)⟩,
  ⟨(some 56), (some (54, true)), .call 57 [(.t 55), (.c (.str ⟨#[41]⟩))]⟩,
  ⟨(some 57), (some (54, true)), .nt (.t 56)⟩,
  ⟨(some 58), none, .pick (.t 54) (.t 57) (.c (.bool false))⟩]
@[reducible] def i60_R12 : List Iop := [⟨(some 59), none, .mv (.t 3)⟩,
  ⟨(some 60), none, .bin .lss (.t 59) (.c (.int .i64 0))⟩,
  ⟨(some 61), none, .mv (.t 60)⟩,
  ⟨(some 62), (some (61, false)), .mv (.t 0)⟩,
  ⟨(some 63), (some (61, false)), .mv (.t 5)⟩,
  ⟨(some 64), (some (61, false)), .ias 4 (.t 62) (.t 63)⟩,
  ⟨(some 65), (some (61, false)), .ld true 4 (.t 64)⟩,
  ⟨(some 66), (some (61, false)), .call 59 [(.t 65)]⟩,
  ⟨(some 67), (some (61, false)), .call 58 [(.t 66)]⟩,
  ⟨(some 68), (some (61, false)), .mv (.t 0)⟩,
  ⟨(some 69), (some (61, false)), .mv (.t 3)⟩,
  ⟨(some 70), (some (61, false)), .ias 4 (.t 68) (.t 69)⟩,
  ⟨(some 71), (some (61, false)), .ld true 4 (.t 70)⟩,
  ⟨(some 72), (some (61, false)), .call 59 [(.t 71)]⟩,
  ⟨(some 73), (some (61, false)), .call 58 [(.t 72)]⟩,
  ⟨(some 74), (some (61, false)), .bin .leq (.t 67) (.t 73)⟩,
  ⟨(some 75), none, .pick (.t 61) (.c (.bool true)) (.t 74)⟩]
@[reducible] def i60_R13 : List Iop := [⟨(some 76), none, .mv (.t 5)⟩,
  ⟨(some 3), none, .mv (.t 76)⟩]
@[reducible] def i60_R14 : List Iop := [⟨(some 11), none, .mv (.t 5)⟩,
  ⟨(some 12), none, .bin .add (.t 11) (.c (.int .i64 1))⟩,
  ⟨(some 5), none, .mv (.t 12)⟩]
@[reducible] def i60_L0 : IC := (.seq (.seq (.reg none i60_R4) (.cond (.t 10) .skip (.out 0))) (.seq (.block 1 (.seq (.seq (.reg none i60_R5) (.cond (.t 17) (.reg none i60_R6) .skip)) (.seq (.seq (.reg none i60_R7) (.cond (.t 24) (.reg none i60_R8) .skip)) (.seq (.seq (.reg none i60_R9) (.cond (.t 40) (.out 1) .skip)) (.seq (.reg none i60_R10) (.seq (.seq (.reg none i60_R11) (.cond (.t 58) (.out 1) .skip)) (.seq (.reg (some []) i60_R12) (.cond (.t 75) (.reg none i60_R13) .skip)))))))) (.reg none i60_R14)))
@[reducible] def i60_R15 : List Iop := [⟨(some 77), none, .mv (.t 3)⟩,
  ⟨(some 2), none, .mv (.t 77)⟩]
@[reducible] def i60_B : IC := (.seq (.reg none i60_R0) (.seq (.reg none i60_R1) (.seq (.reg none i60_R2) (.seq (.seq (.reg none i60_R3) (.block 0 (.loop i60_L0))) (.seq (.reg none i60_R15) .ret)))))
@[reducible] def i60_V : List Nat := [0, 2, 3, 4, 5, 6, 10, 17, 24, 40, 58, 75]
def i60 : IFn := ⟨78, i60_V, [.tmp 2], i60_B⟩
theorem i60_ok : compF Go.Proofs.Try.prog i60_V Go.Proofs.Try.f60 = some i60 := by kernel_rfl
/-! funicular/expr.check -/
@[reducible] def i61_R0 : List Iop := [⟨(some 2), none, .box (.t 0)⟩,
  ⟨(some 4), none, .mv (.c (.int .i64 0))⟩]
@[reducible] def i61_R1 : List Iop := [⟨(some 9), none, .mv (.t 1)⟩,
  ⟨(some 10), none, .bin .gtr (.t 9) (.c (.int .i64 16))⟩]
@[reducible] def i61_R2 : List Iop := [⟨(some 4), none, .mv (.c (.int .i64 6))⟩]
@[reducible] def i61_R3 : List Iop := [⟨(some 5), none, .mv (.c (.int .i64 2))⟩]
@[reducible] def i61_R4 : List Iop := [⟨(some 11), none, .fa 0 (.t 2)⟩,
  ⟨(some 12), none, .ld false 1 (.t 11)⟩]
@[reducible] def i61_R5 : List Iop := [⟨(some 14), none, .bin .eql (.t 12) (.c (.int .i64 1))⟩,
  ⟨(some 13), none, .mv (.t 14)⟩]
@[reducible] def i61_R6 : List Iop := [⟨(some 15), none, .bin .eql (.t 12) (.c (.int .i64 2))⟩,
  ⟨(some 13), none, .mv (.t 15)⟩]
@[reducible] def i61_R7 : List Iop := [⟨(some 16), none, .bin .eql (.t 12) (.c (.int .i64 3))⟩,
  ⟨(some 13), none, .mv (.t 16)⟩]
@[reducible] def i61_R8 : List Iop := [⟨(some 17), none, .bin .eql (.t 12) (.c (.int .i64 4))⟩,
  ⟨(some 13), none, .mv (.t 17)⟩]
@[reducible] def i61_R9 : List Iop := [⟨(some 5), none, .mv (.c (.int .i64 0))⟩]
@[reducible] def i61_R10 : List Iop := [⟨(some 19), none, .bin .eql (.t 12) (.c (.int .i64 5))⟩,
  ⟨(some 18), none, .mv (.t 19)⟩]
@[reducible] def i61_R11 : List Iop := [⟨(some 20), none, .bin .eql (.t 12) (.c (.int .i64 6))⟩,
  ⟨(some 18), none, .mv (.t 20)⟩]
@[reducible] def i61_R12 : List Iop := [⟨(some 5), none, .mv (.c (.int .i64 1))⟩]
@[reducible] def i61_R13 : List Iop := [⟨(some 22), none, .fa 0 (.t 2)⟩,
  ⟨(some 23), none, .ld false 1 (.t 22)⟩,
  ⟨(some 24), none, .bin .lss (.t 23) (.c (.int .i64 1))⟩,
  ⟨(some 25), none, .mv (.t 24)⟩,
  ⟨(some 26), (some (25, false)), .fa 0 (.t 2)⟩,
  ⟨(some 27), (some (25, false)), .ld false 1 (.t 26)⟩,
  ⟨(some 28), (some (25, false)), .bin .gtr (.t 27) (.c (.int .i64 14))⟩,
  ⟨(some 29), none, .pick (.t 25) (.c (.bool true)) (.t 28)⟩,
  ⟨(some 30), none, .mv (.t 29)⟩,
  ⟨(some 31), (some (30, false)), .fa 3 (.t 2)⟩,
  ⟨(some 32), (some (30, false)), .ld false 1 (.t 31)⟩,
  ⟨(some 33), (some (30, false)), .lenl (.t 32)⟩,
  ⟨(some 34), (some (30, false)), .mv (.t 5)⟩,
  ⟨(some 35), (some (30, false)), .bin .neq (.t 33) (.t 34)⟩,
  ⟨(some 36), none, .pick (.t 30) (.c (.bool true)) (.t 35)⟩,
  ⟨(some 21), none, .mv (.t 36)⟩]
@[reducible] def i61_R14 : List Iop := [⟨(some 4), none, .mv (.c (.int .i64 1))⟩]
@[reducible] def i61_R15 : List Iop := [⟨(some 38), none, .fa 1 (.t 2)⟩,
  ⟨(some 39), none, .ld false 1 (.t 38)⟩,
  ⟨(some 40), none, .bin .lss (.t 39) (.c (.int .i64 0))⟩,
  ⟨(some 41), none, .mv (.t 40)⟩,
  ⟨(some 42), (some (41, false)), .fa 1 (.t 2)⟩,
  ⟨(some 43), (some (41, false)), .ld false 1 (.t 42)⟩,
  ⟨(some 44), (some (41, false)), .bin .neq (.t 43) (.c (.int .i64 0))⟩,
  ⟨(some 45), (some (41, false)), .mv (.t 44)⟩,
  ⟨(some 46), (some (45, true)), .fa 0 (.t 2)⟩,
  ⟨(some 47), (some (45, true)), .ld false 1 (.t 46)⟩,
  ⟨(some 48), (some (45, true)), .bin .neq (.t 47) (.c (.int .i64 1))⟩,
  ⟨(some 49), (some (41, false)), .pick (.t 45) (.t 48) (.c (.bool false))⟩,
  ⟨(some 50), none, .pick (.t 41) (.c (.bool true)) (.t 49)⟩,
  ⟨(some 37), none, .mv (.t 50)⟩]
@[reducible] def i61_R16 : List Iop := [⟨(some 4), none, .mv (.c (.int .i64 1))⟩]
@[reducible] def i61_R17 : List Iop := [⟨(some 52), none, .fa 0 (.t 2)⟩,
  ⟨(some 53), none, .ld false 1 (.t 52)⟩,
  ⟨(some 54), none, .bin .neq (.t 53) (.c (.int .i64 2))⟩,
  ⟨(some 55), none, .mv (.t 54)⟩,
  ⟨(some 56), (some (55, true)), .fa 2 (.t 2)⟩,
  ⟨(some 57), (some (55, true)), .ld false 1 (.t 56)⟩,
  ⟨(some 58), (some (55, true)), .bin .neq (.t 57) (.c (.str ⟨#[]⟩))⟩,
  ⟨(some 59), none, .pick (.t 55) (.t 58) (.c (.bool false))⟩,
  ⟨(some 60), none, .mv (.t 59)⟩,
  ⟨(some 61), (some (60, false)), .fa 0 (.t 2)⟩,
  ⟨(some 62), (some (60, false)), .ld false 1 (.t 61)⟩,
  ⟨(some 63), (some (60, false)), .bin .eql (.t 62) (.c (.int .i64 2))⟩,
  ⟨(some 64), (some (60, false)), .mv (.t 63)⟩,
  ⟨(some 65), (some (64, true)), .fa 2 (.t 2)⟩,
  ⟨(some 66), (some (64, true)), .ld false 1 (.t 65)⟩,
  ⟨(some 67), (some (64, true)), .call 45 [(.t 66)]⟩,
  ⟨(some 68), (some (64, true)), .nt (.t 67)⟩,
  ⟨(some 69), (some (64, true)), .mv (.t 68)⟩,
  ⟨(some 70), (some (69, false)), .fa 2 (.t 2)⟩,
  ⟨(some 71), (some (69, false)), .ld false 1 (.t 70)⟩,
  ⟨(some 72), (some (69, false)), .bin .eql (.t 71) (.c (.str ⟨#[121, 101, 115]⟩))⟩,
  ⟨(some 73), (some (64, true)), .pick (.t 69) (.c (.bool true)) (.t 72)⟩,
  ⟨(some 74), (some (64, true)), .mv (.t 73)⟩,
  ⟨(some 75), (some (74, false)), .fa 2 (.t 2)⟩,
  ⟨(some 76), (some (74, false)), .ld false 1 (.t 75)⟩,
  ⟨(some 77), (some (74, false)), .bin .eql (.t 76) (.c (.str ⟨#[110, 111]⟩))⟩,
  ⟨(some 78), (some (64, true)), .pick (.t 74) (.c (.bool true)) (.t 77)⟩,
  ⟨(some 79), (some (60, false)), .pick (.t 64) (.t 78) (.c (.bool false))⟩,
  ⟨(some 80), none, .pick (.t 60) (.c (.bool true)) (.t 79)⟩,
  ⟨(some 51), none, .mv (.t 80)⟩]
@[reducible] def i61_R18 : List Iop := [⟨(some 4), none, .mv (.c (.int .i64 1))⟩]
@[reducible] def i61_R19 : List Iop := [⟨(some 81), none, .fa 3 (.t 2)⟩,
  ⟨(some 82), none, .ld false 1 (.t 81)⟩,
  ⟨(some 83), none, .lenl (.t 82)⟩,
  ⟨(some 84), none, .mv (.c (.int .i64 0))⟩]
@[reducible] def i61_R20 : List Iop := [⟨(some 85), none, .bin .lss (.t 84) (.t 83)⟩]
@[reducible] def i61_R21 : List Iop := [⟨(some 86), none, .ias 4 (.t 82) (.t 84)⟩,
  ⟨(some 87), none, .ld true 4 (.t 86)⟩,
  ⟨(some 7), none, .alloc [.int .i64 0, .int .i64 0, .str ⟨#[]⟩, .nil]⟩,
  ⟨none, none, .st 4 (.t 7) (.t 87)⟩]
@[reducible] def i61_R22 : List Iop := [⟨(some 88), none, .ld true 4 (.t 7)⟩,
  ⟨(some 89), none, .mv (.t 1)⟩,
  ⟨(some 90), none, .bin .add (.t 89) (.c (.int .i64 1))⟩,
  ⟨(some 91), none, .call 61 [(.t 88), (.t 90)]⟩,
  ⟨(some 8), none, .mv (.t 91)⟩]
@[reducible] def i61_R23 : List Iop := [⟨(some 92), none, .mv (.t 8)⟩,
  ⟨(some 93), none, .bin .neq (.t 92) (.c (.int .i64 0))⟩]
@[reducible] def i61_R24 : List Iop := [⟨(some 94), none, .mv (.t 8)⟩,
  ⟨(some 4), none, .mv (.t 94)⟩]
@[reducible] def i61_R25 : List Iop := [⟨(some 95), none, .bin .add (.t 84) (.c (.int .i64 1))⟩,
  ⟨(some 84), none, .mv (.t 95)⟩]
@[reducible] def i61_L0 : IC := (.seq (.reg none i61_R20) (.seq (.cond (.t 85) .skip (.out 2)) (.seq (.block 3 (.seq (.reg none i61_R21) (.seq (.reg none i61_R22) (.seq (.reg none i61_R23) (.cond (.t 93) (.seq (.reg none i61_R24) .ret) .skip))))) (.reg none i61_R25))))
@[reducible] def i61_R26 : List Iop := [⟨(some 4), none, .mv (.c (.int .i64 0))⟩]
@[reducible] def i61_B : IC := (.seq (.reg none i61_R0) (.seq (.seq (.reg none i61_R1) (.cond (.t 10) (.seq (.reg none i61_R2) .ret) .skip)) (.seq (.reg none i61_R3) (.seq (.seq (.reg none i61_R4) (.block 0 (.seq (.seq (.reg none i61_R5) (.cond (.t 13) .skip (.seq (.reg none i61_R6) (.cond (.t 13) .skip (.seq (.reg none i61_R7) (.cond (.t 13) .skip (.reg none i61_R8))))))) (.cond (.t 13) (.reg none i61_R9) (.seq (.seq (.reg none i61_R10) (.cond (.t 18) .skip (.reg none i61_R11))) (.cond (.t 18) (.reg none i61_R12) .skip)))))) (.seq (.block 1 (.seq (.reg none i61_R13) (.cond (.t 21) (.seq (.reg none i61_R14) .ret) (.seq (.reg none i61_R15) (.cond (.t 37) (.seq (.reg none i61_R16) .ret) (.seq (.reg none i61_R17) (.cond (.t 51) (.seq (.reg none i61_R18) .ret) .skip))))))) (.seq (.seq (.reg none i61_R19) (.block 2 (.loop i61_L0))) (.seq (.reg none i61_R26) .ret)))))))
@[reducible] def i61_V : List Nat := [0, 1, 2, 4, 5, 7, 8, 10, 12, 13, 18, 21, 37, 51, 82, 83, 84, 85, 93]
def i61 : IFn := ⟨96, i61_V, [.tmp 4], i61_B⟩
theorem i61_ok : compF Go.Proofs.Try.prog i61_V Go.Proofs.Try.f61 = some i61 := by kernel_rfl
/-! funicular/types.shape -/
@[reducible] def i62_R0 : List Iop := [⟨(some 2), none, .mv (.c (.int .i64 0))⟩,
  ⟨(some 3), none, .mv (.c (.int .i64 0))⟩]
@[reducible] def i62_R1 : List Iop := [⟨(some 4), none, .mv (.t 0)⟩]
@[reducible] def i62_R2 : List Iop := [⟨(some 6), none, .bin .eql (.t 4) (.c (.int .i64 1))⟩,
  ⟨(some 5), none, .mv (.t 6)⟩]
@[reducible] def i62_R3 : List Iop := [⟨(some 7), none, .bin .eql (.t 4) (.c (.int .i64 2))⟩,
  ⟨(some 5), none, .mv (.t 7)⟩]
@[reducible] def i62_R4 : List Iop := [⟨(some 8), none, .bin .eql (.t 4) (.c (.int .i64 5))⟩,
  ⟨(some 5), none, .mv (.t 8)⟩]
@[reducible] def i62_R5 : List Iop := [⟨(some 9), none, .bin .eql (.t 4) (.c (.int .i64 7))⟩,
  ⟨(some 5), none, .mv (.t 9)⟩]
@[reducible] def i62_R6 : List Iop := [⟨(some 10), none, .bin .eql (.t 4) (.c (.int .i64 8))⟩,
  ⟨(some 5), none, .mv (.t 10)⟩]
@[reducible] def i62_R7 : List Iop := [⟨(some 11), none, .bin .eql (.t 4) (.c (.int .i64 9))⟩,
  ⟨(some 5), none, .mv (.t 11)⟩]
@[reducible] def i62_R8 : List Iop := [⟨(some 12), none, .bin .eql (.t 4) (.c (.int .i64 10))⟩,
  ⟨(some 5), none, .mv (.t 12)⟩]
@[reducible] def i62_R9 : List Iop := [⟨(some 2), none, .mv (.c (.int .i64 0))⟩,
  ⟨(some 3), none, .mv (.c (.int .i64 0))⟩]
@[reducible] def i62_R10 : List Iop := [⟨(some 14), none, .bin .eql (.t 4) (.c (.int .i64 12))⟩,
  ⟨(some 13), none, .mv (.t 14)⟩]
@[reducible] def i62_R11 : List Iop := [⟨(some 2), none, .mv (.c (.int .i64 0))⟩,
  ⟨(some 3), none, .mv (.c (.int .i64 1))⟩]
@[reducible] def i62_R12 : List Iop := [⟨(some 16), none, .bin .eql (.t 4) (.c (.int .i64 11))⟩,
  ⟨(some 15), none, .mv (.t 16)⟩]
@[reducible] def i62_R13 : List Iop := [⟨(some 2), none, .mv (.c (.int .i64 (-1)))⟩,
  ⟨(some 3), none, .mv (.c (.int .i64 1))⟩]
@[reducible] def i62_R14 : List Iop := [⟨(some 2), none, .mv (.c (.int .i64 1))⟩,
  ⟨(some 3), none, .mv (.c (.int .i64 1))⟩]
@[reducible] def i62_B : IC := (.seq (.reg none i62_R0) (.seq (.seq (.reg none i62_R1) (.block 0 (.seq (.seq (.reg none i62_R2) (.cond (.t 5) .skip (.seq (.reg none i62_R3) (.cond (.t 5) .skip (.seq (.reg none i62_R4) (.cond (.t 5) .skip (.seq (.reg none i62_R5) (.cond (.t 5) .skip (.seq (.reg none i62_R6) (.cond (.t 5) .skip (.seq (.reg none i62_R7) (.cond (.t 5) .skip (.reg none i62_R8))))))))))))) (.cond (.t 5) (.seq (.reg none i62_R9) .ret) (.seq (.reg none i62_R10) (.cond (.t 13) (.seq (.reg none i62_R11) .ret) (.seq (.reg none i62_R12) (.cond (.t 15) (.seq (.reg none i62_R13) .ret) .skip)))))))) (.seq (.reg none i62_R14) .ret)))
@[reducible] def i62_V : List Nat := [0, 2, 3, 4, 5, 13, 15]
def i62 : IFn := ⟨17, i62_V, [.tmp 2, .tmp 3], i62_B⟩
theorem i62_ok : compF Go.Proofs.Try.prog i62_V Go.Proofs.Try.f62 = some i62 := by kernel_rfl
/-! slices.BinarySearch[[]string,string] -/
@[reducible] def i63_R0 : List Iop := [⟨(some 4), none, .mv (.c (.int .i64 0))⟩,
  ⟨(some 5), none, .mv (.c (.bool false))⟩]
@[reducible] def i63_R1 : List Iop := [⟨(some 10), none, .mv (.t 0)⟩,
  ⟨(some 11), none, .lenl (.t 10)⟩,
  ⟨(some 6), none, .mv (.t 11)⟩]
@[reducible] def i63_R2 : List Iop := [⟨(some 12), none, .mv (.t 6)⟩,
  ⟨(some 7), none, .mv (.c (.int .i64 0))⟩,
  ⟨(some 8), none, .mv (.t 12)⟩]
@[reducible] def i63_R3 : List Iop := [⟨(some 13), none, .mv (.t 7)⟩,
  ⟨(some 14), none, .mv (.t 8)⟩,
  ⟨(some 15), none, .bin .lss (.t 13) (.t 14)⟩]
@[reducible] def i63_R4 : List Iop := [⟨(some 16), none, .mv (.t 7)⟩,
  ⟨(some 17), none, .mv (.t 8)⟩,
  ⟨(some 18), none, .bin .add (.t 16) (.t 17)⟩,
  ⟨(some 19), none, .cvt .u64 (.t 18)⟩,
  ⟨(some 20), none, .bin .shr (.t 19) (.c (.int .u64 1))⟩,
  ⟨(some 21), none, .cvt .i64 (.t 20)⟩,
  ⟨(some 9), none, .mv (.t 21)⟩]
@[reducible] def i63_R5 : List Iop := [⟨(some 22), none, .mv (.t 0)⟩,
  ⟨(some 23), none, .mv (.t 9)⟩,
  ⟨(some 24), none, .ias 1 (.t 22) (.t 23)⟩,
  ⟨(some 25), none, .ld false 1 (.t 24)⟩,
  ⟨(some 26), none, .mv (.t 1)⟩,
  ⟨(some 27), none, .call 77 [(.t 25), (.t 26)]⟩]
@[reducible] def i63_R6 : List Iop := [⟨(some 28), none, .mv (.t 9)⟩,
  ⟨(some 29), none, .bin .add (.t 28) (.c (.int .i64 1))⟩,
  ⟨(some 7), none, .mv (.t 29)⟩]
@[reducible] def i63_R7 : List Iop := [⟨(some 30), none, .mv (.t 9)⟩,
  ⟨(some 8), none, .mv (.t 30)⟩]
@[reducible] def i63_L0 : IC := (.seq (.seq (.reg none i63_R3) (.cond (.t 15) .skip (.out 0))) (.block 1 (.seq (.reg none i63_R4) (.seq (.reg none i63_R5) (.cond (.t 27) (.reg none i63_R6) (.reg none i63_R7))))))
@[reducible] def i63_R8 : List Iop := [⟨(some 31), none, .mv (.t 7)⟩,
  ⟨(some 32), none, .mv (.t 7)⟩,
  ⟨(some 33), none, .mv (.t 6)⟩,
  ⟨(some 34), none, .bin .lss (.t 32) (.t 33)⟩,
  ⟨(some 35), none, .mv (.t 34)⟩,
  ⟨(some 36), (some (35, true)), .mv (.t 0)⟩,
  ⟨(some 37), (some (35, true)), .mv (.t 7)⟩,
  ⟨(some 38), (some (35, true)), .ias 1 (.t 36) (.t 37)⟩,
  ⟨(some 39), (some (35, true)), .ld false 1 (.t 38)⟩,
  ⟨(some 40), (some (35, true)), .mv (.t 1)⟩,
  ⟨(some 41), (some (35, true)), .bin .eql (.t 39) (.t 40)⟩,
  ⟨(some 42), (some (35, true)), .mv (.t 41)⟩,
  ⟨(some 43), (some (42, false)), .mv (.t 0)⟩,
  ⟨(some 44), (some (42, false)), .mv (.t 7)⟩,
  ⟨(some 45), (some (42, false)), .ias 1 (.t 43) (.t 44)⟩,
  ⟨(some 46), (some (42, false)), .ld false 1 (.t 45)⟩,
  ⟨(some 47), (some (42, false)), .call 78 [(.t 46)]⟩,
  ⟨(some 48), (some (42, false)), .mv (.t 47)⟩,
  ⟨(some 49), (some (48, true)), .mv (.t 1)⟩,
  ⟨(some 50), (some (48, true)), .call 78 [(.t 49)]⟩,
  ⟨(some 51), (some (42, false)), .pick (.t 48) (.t 50) (.c (.bool false))⟩,
  ⟨(some 52), (some (35, true)), .pick (.t 42) (.c (.bool true)) (.t 51)⟩,
  ⟨(some 53), none, .pick (.t 35) (.t 52) (.c (.bool false))⟩,
  ⟨(some 4), none, .mv (.t 31)⟩,
  ⟨(some 5), none, .mv (.t 53)⟩]
@[reducible] def i63_B : IC := (.seq (.reg none i63_R0) (.seq (.reg none i63_R1) (.seq (.reg none i63_R2) (.seq (.block 0 (.loop i63_L0)) (.seq (.reg none i63_R8) .ret)))))
@[reducible] def i63_V : List Nat := [0, 1, 4, 5, 6, 7, 8, 9, 15, 27]
def i63 : IFn := ⟨54, i63_V, [.tmp 4, .tmp 5], i63_B⟩
theorem i63_ok : compF Go.Proofs.Try.prog i63_V Go.Proofs.Try.f63 = some i63 := by kernel_rfl
/-! funicular/eval.add -/
@[reducible] def i64_R0 : List Iop := [⟨(some 4), none, .mv (.c (.int .i64 0))⟩,
  ⟨(some 5), none, .mv (.c (.bool false))⟩]
@[reducible] def i64_R1 : List Iop := [⟨(some 7), none, .mv (.t 0)⟩,
  ⟨(some 8), none, .mv (.t 1)⟩,
  ⟨(some 9), none, .bin .add (.t 7) (.t 8)⟩,
  ⟨(some 6), none, .mv (.t 9)⟩]
@[reducible] def i64_R2 : List Iop := [⟨(some 10), none, .mv (.t 6)⟩,
  ⟨(some 11), none, .mv (.t 6)⟩,
  ⟨(some 12), none, .mv (.t 0)⟩,
  ⟨(some 13), none, .bin .lss (.t 11) (.t 12)⟩,
  ⟨(some 14), none, .mv (.t 1)⟩,
  ⟨(some 15), none, .bin .lss (.t 14) (.c (.int .i64 0))⟩,
  ⟨(some 16), none, .eqb false (.t 13) (.t 15)⟩,
  ⟨(some 4), none, .mv (.t 10)⟩,
  ⟨(some 5), none, .mv (.t 16)⟩]
@[reducible] def i64_B : IC := (.seq (.reg none i64_R0) (.seq (.reg none i64_R1) (.seq (.reg none i64_R2) .ret)))
@[reducible] def i64_V : List Nat := [0, 1, 4, 5, 6]
def i64 : IFn := ⟨17, i64_V, [.tmp 4, .tmp 5], i64_B⟩
theorem i64_ok : compF Go.Proofs.Try.prog i64_V Go.Proofs.Try.f64 = some i64 := by kernel_rfl
/-! funicular/eval.mul -/
@[reducible] def i65_R0 : List Iop := [⟨(some 4), none, .mv (.c (.int .i64 0))⟩,
  ⟨(some 5), none, .mv (.c (.bool false))⟩]
@[reducible] def i65_R1 : List Iop := [⟨(some 7), none, .mv (.t 0)⟩,
  ⟨(some 8), none, .bin .eql (.t 7) (.c (.int .i64 0))⟩,
  ⟨(some 9), none, .mv (.t 8)⟩,
  ⟨(some 10), (some (9, false)), .mv (.t 1)⟩,
  ⟨(some 11), (some (9, false)), .bin .eql (.t 10) (.c (.int .i64 0))⟩,
  ⟨(some 12), none, .pick (.t 9) (.c (.bool true)) (.t 11)⟩]
@[reducible] def i65_R2 : List Iop := [⟨(some 4), none, .mv (.c (.int .i64 0))⟩,
  ⟨(some 5), none, .mv (.c (.bool true))⟩]
@[reducible] def i65_R3 : List Iop := [⟨(some 13), none, .mv (.t 0)⟩,
  ⟨(some 14), none, .mv (.t 1)⟩,
  ⟨(some 15), none, .bin .mul (.t 13) (.t 14)⟩,
  ⟨(some 6), none, .mv (.t 15)⟩]
@[reducible] def i65_R4 : List Iop := [⟨(some 16), none, .mv (.t 6)⟩,
  ⟨(some 17), none, .mv (.t 6)⟩,
  ⟨(some 18), none, .mv (.t 1)⟩,
  ⟨(some 19), none, .bin .quo (.t 17) (.t 18)⟩,
  ⟨(some 20), none, .mv (.t 0)⟩,
  ⟨(some 21), none, .bin .eql (.t 19) (.t 20)⟩,
  ⟨(some 22), none, .mv (.t 21)⟩,
  ⟨(some 23), (some (22, true)), .mv (.t 6)⟩,
  ⟨(some 24), (some (22, true)), .bin .lss (.t 23) (.c (.int .i64 0))⟩,
  ⟨(some 25), (some (22, true)), .mv (.t 0)⟩,
  ⟨(some 26), (some (22, true)), .bin .lss (.t 25) (.c (.int .i64 0))⟩,
  ⟨(some 27), (some (22, true)), .mv (.t 1)⟩,
  ⟨(some 28), (some (22, true)), .bin .lss (.t 27) (.c (.int .i64 0))⟩,
  ⟨(some 29), (some (22, true)), .eqb true (.t 26) (.t 28)⟩,
  ⟨(some 30), (some (22, true)), .eqb false (.t 24) (.t 29)⟩,
  ⟨(some 31), none, .pick (.t 22) (.t 30) (.c (.bool false))⟩,
  ⟨(some 4), none, .mv (.t 16)⟩,
  ⟨(some 5), none, .mv (.t 31)⟩]
@[reducible] def i65_B : IC := (.seq (.reg none i65_R0) (.seq (.seq (.reg none i65_R1) (.cond (.t 12) (.seq (.reg none i65_R2) .ret) .skip)) (.seq (.reg none i65_R3) (.seq (.reg none i65_R4) .ret))))
@[reducible] def i65_V : List Nat := [0, 1, 4, 5, 6, 12]
def i65 : IFn := ⟨32, i65_V, [.tmp 4, .tmp 5], i65_B⟩
theorem i65_ok : compF Go.Proofs.Try.prog i65_V Go.Proofs.Try.f65 = some i65 := by kernel_rfl
/-! funicular/funicularref10.big -/
@[reducible] def i66_R0 : List Iop := [⟨(some 2), none, .alloc [.bool false, .int .u64 0, .int .u64 0, .int .u64 0]⟩]
@[reducible] def i66_R1 : List Iop := [⟨(some 4), none, .mv (.t 0)⟩,
  ⟨(some 5), none, .cvt .u64 (.t 4)⟩,
  ⟨(some 3), none, .mv (.t 5)⟩]
@[reducible] def i66_R2 : List Iop := [⟨(some 6), none, .mv (.t 0)⟩,
  ⟨(some 7), none, .bin .lss (.t 6) (.c (.int .i64 0))⟩]
@[reducible] def i66_R3 : List Iop := [⟨(some 8), none, .mv (.t 3)⟩,
  ⟨(some 9), none, .ngt (.t 8)⟩,
  ⟨(some 3), none, .mv (.t 9)⟩]
@[reducible] def i66_R4 : List Iop := [⟨(some 10), none, .mv (.t 0)⟩,
  ⟨(some 11), none, .bin .lss (.t 10) (.c (.int .i64 0))⟩,
  ⟨(some 12), none, .mv (.t 3)⟩,
  ⟨(some 13), none, .bin .rem (.t 12) (.c (.int .u64 4294967296))⟩,
  ⟨(some 14), none, .mv (.t 3)⟩,
  ⟨(some 15), none, .bin .quo (.t 14) (.c (.int .u64 4294967296))⟩,
  ⟨(some 16), none, .build [.int .u64 0, .int .u64 0, .int .u64 0] [(0, 1, (.t 13)), (1, 1, (.t 15)), (2, 1, (.c (.int .u64 0)))]⟩,
  ⟨(some 17), none, .build [.bool false, .int .u64 0, .int .u64 0, .int .u64 0] [(0, 1, (.t 11)), (1, 3, (.t 16))]⟩,
  ⟨none, none, .st 4 (.t 2) (.t 17)⟩]
@[reducible] def i66_B : IC := (.seq (.reg none i66_R0) (.seq (.reg none i66_R1) (.seq (.seq (.reg none i66_R2) (.cond (.t 7) (.reg none i66_R3) .skip)) (.seq (.reg none i66_R4) .ret))))
@[reducible] def i66_V : List Nat := [0, 2, 3, 7]
def i66 : IFn := ⟨18, i66_V, [.cell 2 true 4], i66_B⟩
theorem i66_ok : compF Go.Proofs.Try.prog i66_V Go.Proofs.Try.f66 = some i66 := by kernel_rfl
/-! funicular/funicularref10.sum -/
@[reducible] def i67_R0 : List Iop := [⟨(some 2), none, .box (.t 0)⟩,
  ⟨(some 3), none, .box (.t 1)⟩,
  ⟨(some 4), none, .alloc [.bool false, .int .u64 0, .int .u64 0, .int .u64 0]⟩]
@[reducible] def i67_R1 : List Iop := [⟨(some 10), none, .fa 0 (.t 2)⟩,
  ⟨(some 11), none, .ld false 1 (.t 10)⟩,
  ⟨(some 12), none, .fa 0 (.t 3)⟩,
  ⟨(some 13), none, .ld false 1 (.t 12)⟩,
  ⟨(some 14), none, .eqb false (.t 11) (.t 13)⟩]
@[reducible] def i67_R2 : List Iop := [⟨(some 15), none, .fa 0 (.t 2)⟩,
  ⟨(some 16), none, .ld false 1 (.t 15)⟩,
  ⟨(some 17), none, .fa 1 (.t 2)⟩,
  ⟨(some 18), none, .iaa 1 3 (.t 17) (.c (.int .i64 0))⟩,
  ⟨(some 19), none, .ld false 1 (.t 18)⟩,
  ⟨(some 20), none, .fa 1 (.t 3)⟩,
  ⟨(some 21), none, .iaa 1 3 (.t 20) (.c (.int .i64 0))⟩,
  ⟨(some 22), none, .ld false 1 (.t 21)⟩,
  ⟨(some 23), none, .bin .add (.t 19) (.t 22)⟩,
  ⟨(some 24), none, .fa 1 (.t 2)⟩,
  ⟨(some 25), none, .iaa 1 3 (.t 24) (.c (.int .i64 1))⟩,
  ⟨(some 26), none, .ld false 1 (.t 25)⟩,
  ⟨(some 27), none, .fa 1 (.t 3)⟩,
  ⟨(some 28), none, .iaa 1 3 (.t 27) (.c (.int .i64 1))⟩,
  ⟨(some 29), none, .ld false 1 (.t 28)⟩,
  ⟨(some 30), none, .bin .add (.t 26) (.t 29)⟩,
  ⟨(some 31), none, .fa 1 (.t 2)⟩,
  ⟨(some 32), none, .iaa 1 3 (.t 31) (.c (.int .i64 2))⟩,
  ⟨(some 33), none, .ld false 1 (.t 32)⟩,
  ⟨(some 34), none, .fa 1 (.t 3)⟩,
  ⟨(some 35), none, .iaa 1 3 (.t 34) (.c (.int .i64 2))⟩,
  ⟨(some 36), none, .ld false 1 (.t 35)⟩,
  ⟨(some 37), none, .bin .add (.t 33) (.t 36)⟩,
  ⟨(some 38), none, .build [.int .u64 0, .int .u64 0, .int .u64 0] [(0, 1, (.t 23)), (1, 1, (.t 30)), (2, 1, (.t 37))]⟩,
  ⟨(some 39), none, .build [.bool false, .int .u64 0, .int .u64 0, .int .u64 0] [(0, 1, (.t 16)), (1, 3, (.t 38))]⟩,
  ⟨(some 40), none, .call 79 [(.t 39)]⟩,
  ⟨none, none, .st 4 (.t 4) (.t 40)⟩]
@[reducible] def i67_R3 : List Iop := [⟨(some 41), none, .ld true 4 (.t 2)⟩,
  ⟨(some 42), none, .ld true 4 (.t 3)⟩,
  ⟨(some 43), none, .call 80 [(.t 41), (.t 42)]⟩]
@[reducible] def i67_R4 : List Iop := [⟨(some 44), none, .ld true 4 (.t 3)⟩,
  ⟨(some 45), none, .ld true 4 (.t 2)⟩,
  ⟨(some 46), none, .call 67 [(.t 44), (.t 45)]⟩,
  ⟨none, none, .st 4 (.t 4) (.t 46)⟩]
@[reducible] def i67_R5 : List Iop := [⟨(some 47), none, .fa 0 (.t 2)⟩,
  ⟨(some 48), none, .ld false 1 (.t 47)⟩,
  ⟨(some 49), none, .build [.bool false, .int .u64 0, .int .u64 0, .int .u64 0] [(0, 1, (.t 48))]⟩,
  ⟨(some 5), none, .alloc [.bool false, .int .u64 0, .int .u64 0, .int .u64 0]⟩,
  ⟨none, none, .st 4 (.t 5) (.t 49)⟩]
@[reducible] def i67_R6 : List Iop := [⟨(some 6), none, .mv (.c (.int .u64 0))⟩]
@[reducible] def i67_R7 : List Iop := [⟨(some 7), none, .mv (.c (.int .i64 0))⟩]
@[reducible] def i67_R8 : List Iop := [⟨(some 50), none, .mv (.t 7)⟩,
  ⟨(some 51), none, .bin .lss (.t 50) (.c (.int .i64 3))⟩]
@[reducible] def i67_R9 : List Iop := [⟨(some 54), none, .mv (.t 7)⟩,
  ⟨(some 55), none, .fa 1 (.t 3)⟩,
  ⟨(some 56), none, .iaa 1 3 (.t 55) (.t 54)⟩,
  ⟨(some 57), none, .ld false 1 (.t 56)⟩,
  ⟨(some 58), none, .mv (.t 6)⟩,
  ⟨(some 59), none, .bin .add (.t 57) (.t 58)⟩,
  ⟨(some 8), none, .mv (.t 59)⟩]
@[reducible] def i67_R10 : List Iop := [⟨(some 6), none, .mv (.c (.int .u64 0))⟩]
@[reducible] def i67_R11 : List Iop := [⟨(some 60), none, .mv (.t 7)⟩,
  ⟨(some 61), none, .fa 1 (.t 2)⟩,
  ⟨(some 62), none, .iaa 1 3 (.t 61) (.t 60)⟩,
  ⟨(some 63), none, .ld false 1 (.t 62)⟩,
  ⟨(some 9), none, .mv (.t 63)⟩]
@[reducible] def i67_R12 : List Iop := [⟨(some 64), none, .mv (.t 9)⟩,
  ⟨(some 65), none, .mv (.t 8)⟩,
  ⟨(some 66), none, .bin .lss (.t 64) (.t 65)⟩]
@[reducible] def i67_R13 : List Iop := [⟨(some 67), none, .mv (.t 9)⟩,
  ⟨(some 68), none, .bin .add (.t 67) (.c (.int .u64 4294967296))⟩,
  ⟨(some 9), none, .mv (.t 68)⟩]
@[reducible] def i67_R14 : List Iop := [⟨(some 6), none, .mv (.c (.int .u64 1))⟩]
@[reducible] def i67_R15 : List Iop := [⟨(some 69), none, .mv (.t 7)⟩,
  ⟨(some 70), none, .mv (.t 9)⟩,
  ⟨(some 71), none, .mv (.t 8)⟩,
  ⟨(some 72), none, .bin .sub (.t 70) (.t 71)⟩,
  ⟨(some 73), none, .fa 1 (.t 5)⟩,
  ⟨(some 74), none, .iaa 1 3 (.t 73) (.t 69)⟩,
  ⟨none, none, .st 1 (.t 74) (.t 72)⟩]
@[reducible] def i67_R16 : List Iop := [⟨(some 52), none, .mv (.t 7)⟩,
  ⟨(some 53), none, .bin .add (.t 52) (.c (.int .i64 1))⟩,
  ⟨(some 7), none, .mv (.t 53)⟩]
@[reducible] def i67_L0 : IC := (.seq (.seq (.reg none i67_R8) (.cond (.t 51) .skip (.out 0))) (.seq (.block 1 (.seq (.reg none i67_R9) (.seq (.reg none i67_R10) (.seq (.reg none i67_R11) (.seq (.seq (.reg none i67_R12) (.cond (.t 66) (.seq (.reg none i67_R13) (.reg none i67_R14)) .skip)) (.reg none i67_R15)))))) (.reg none i67_R16)))
@[reducible] def i67_R17 : List Iop := [⟨(some 75), none, .ld true 4 (.t 5)⟩,
  ⟨none, none, .st 4 (.t 4) (.t 75)⟩]
@[reducible] def i67_B : IC := (.seq (.reg none i67_R0) (.seq (.seq (.reg none i67_R1) (.cond (.t 14) (.seq (.reg none i67_R2) .ret) .skip)) (.seq (.seq (.reg none i67_R3) (.cond (.t 43) (.seq (.reg none i67_R4) .ret) .skip)) (.seq (.reg none i67_R5) (.seq (.reg none i67_R6) (.seq (.seq (.reg none i67_R7) (.block 0 (.loop i67_L0))) (.seq (.reg none i67_R17) .ret)))))))
@[reducible] def i67_V : List Nat := [0, 1, 2, 3, 4, 5, 6, 7, 8, 9, 14, 43, 51, 66]
def i67 : IFn := ⟨76, i67_V, [.cell 4 true 4], i67_B⟩
theorem i67_ok : compF Go.Proofs.Try.prog i67_V Go.Proofs.Try.f67 = some i67 := by kernel_rfl
/-! funicular/funicularref10.product -/
@[reducible] def i68_R0 : List Iop := [⟨(some 2), none, .box (.t 0)⟩,
  ⟨(some 3), none, .box (.t 1)⟩,
  ⟨(some 4), none, .alloc [.bool false, .int .u64 0, .int .u64 0, .int .u64 0]⟩,
  ⟨(some 5), none, .mv (.c (.bool false))⟩]
@[reducible] def i68_R1 : List Iop := [⟨(some 9), none, .fa 1 (.t 2)⟩,
  ⟨(some 10), none, .iaa 1 3 (.t 9) (.c (.int .i64 1))⟩,
  ⟨(some 11), none, .ld false 1 (.t 10)⟩,
  ⟨(some 12), none, .bin .gtr (.t 11) (.c (.int .u64 0))⟩,
  ⟨(some 13), none, .mv (.t 12)⟩,
  ⟨(some 14), (some (13, true)), .fa 1 (.t 3)⟩,
  ⟨(some 15), (some (13, true)), .iaa 1 3 (.t 14) (.c (.int .i64 1))⟩,
  ⟨(some 16), (some (13, true)), .ld false 1 (.t 15)⟩,
  ⟨(some 17), (some (13, true)), .bin .gtr (.t 16) (.c (.int .u64 0))⟩,
  ⟨(some 18), none, .pick (.t 13) (.t 17) (.c (.bool false))⟩]
@[reducible] def i68_R2 : List Iop := [⟨(some 19), none, .build [.bool false, .int .u64 0, .int .u64 0, .int .u64 0] []⟩,
  ⟨none, none, .st 4 (.t 4) (.t 19)⟩,
  ⟨(some 5), none, .mv (.c (.bool false))⟩]
@[reducible] def i68_R3 : List Iop := [⟨(some 20), none, .fa 1 (.t 2)⟩,
  ⟨(some 21), none, .iaa 1 3 (.t 20) (.c (.int .i64 0))⟩,
  ⟨(some 22), none, .ld false 1 (.t 21)⟩,
  ⟨(some 23), none, .fa 1 (.t 3)⟩,
  ⟨(some 24), none, .iaa 1 3 (.t 23) (.c (.int .i64 0))⟩,
  ⟨(some 25), none, .ld false 1 (.t 24)⟩,
  ⟨(some 26), none, .bin .mul (.t 22) (.t 25)⟩,
  ⟨(some 6), none, .mv (.t 26)⟩]
@[reducible] def i68_R4 : List Iop := [⟨(some 27), none, .fa 1 (.t 2)⟩,
  ⟨(some 28), none, .iaa 1 3 (.t 27) (.c (.int .i64 1))⟩,
  ⟨(some 29), none, .ld false 1 (.t 28)⟩,
  ⟨(some 30), none, .fa 1 (.t 3)⟩,
  ⟨(some 31), none, .iaa 1 3 (.t 30) (.c (.int .i64 0))⟩,
  ⟨(some 32), none, .ld false 1 (.t 31)⟩,
  ⟨(some 33), none, .bin .mul (.t 29) (.t 32)⟩,
  ⟨(some 7), none, .mv (.t 33)⟩]
@[reducible] def i68_R5 : List Iop := [⟨(some 34), none, .fa 1 (.t 2)⟩,
  ⟨(some 35), none, .iaa 1 3 (.t 34) (.c (.int .i64 1))⟩,
  ⟨(some 36), none, .ld false 1 (.t 35)⟩,
  ⟨(some 37), none, .bin .eql (.t 36) (.c (.int .u64 0))⟩]
@[reducible] def i68_R6 : List Iop := [⟨(some 38), none, .fa 1 (.t 2)⟩,
  ⟨(some 39), none, .iaa 1 3 (.t 38) (.c (.int .i64 0))⟩,
  ⟨(some 40), none, .ld false 1 (.t 39)⟩,
  ⟨(some 41), none, .fa 1 (.t 3)⟩,
  ⟨(some 42), none, .iaa 1 3 (.t 41) (.c (.int .i64 1))⟩,
  ⟨(some 43), none, .ld false 1 (.t 42)⟩,
  ⟨(some 44), none, .bin .mul (.t 40) (.t 43)⟩,
  ⟨(some 7), none, .mv (.t 44)⟩]
@[reducible] def i68_R7 : List Iop := [⟨(some 45), none, .fa 0 (.t 2)⟩,
  ⟨(some 46), none, .ld false 1 (.t 45)⟩,
  ⟨(some 47), none, .fa 0 (.t 3)⟩,
  ⟨(some 48), none, .ld false 1 (.t 47)⟩,
  ⟨(some 49), none, .eqb true (.t 46) (.t 48)⟩,
  ⟨(some 50), none, .mv (.t 6)⟩,
  ⟨(some 51), none, .bin .rem (.t 50) (.c (.int .u64 4294967296))⟩,
  ⟨(some 52), none, .mv (.t 6)⟩,
  ⟨(some 53), none, .bin .quo (.t 52) (.c (.int .u64 4294967296))⟩,
  ⟨(some 54), none, .mv (.t 7)⟩,
  ⟨(some 55), none, .bin .rem (.t 54) (.c (.int .u64 4294967296))⟩,
  ⟨(some 56), none, .bin .add (.t 53) (.t 55)⟩,
  ⟨(some 57), none, .mv (.t 7)⟩,
  ⟨(some 58), none, .bin .quo (.t 57) (.c (.int .u64 4294967296))⟩,
  ⟨(some 59), none, .build [.int .u64 0, .int .u64 0, .int .u64 0] [(0, 1, (.t 51)), (1, 1, (.t 56)), (2, 1, (.t 58))]⟩,
  ⟨(some 60), none, .build [.bool false, .int .u64 0, .int .u64 0, .int .u64 0] [(0, 1, (.t 49)), (1, 3, (.t 59))]⟩,
  ⟨(some 8), none, .alloc [.bool false, .int .u64 0, .int .u64 0, .int .u64 0]⟩,
  ⟨none, none, .st 4 (.t 8) (.t 60)⟩]
@[reducible] def i68_R8 : List Iop := [⟨(some 61), none, .ld true 4 (.t 8)⟩,
  ⟨(some 62), none, .call 79 [(.t 61)]⟩,
  ⟨none, none, .st 4 (.t 4) (.t 62)⟩,
  ⟨(some 5), none, .mv (.c (.bool true))⟩]
@[reducible] def i68_B : IC := (.seq (.reg none i68_R0) (.seq (.seq (.reg none i68_R1) (.cond (.t 18) (.seq (.reg none i68_R2) .ret) .skip)) (.seq (.reg none i68_R3) (.seq (.reg none i68_R4) (.seq (.seq (.reg none i68_R5) (.cond (.t 37) (.reg none i68_R6) .skip)) (.seq (.reg none i68_R7) (.seq (.reg none i68_R8) .ret)))))))
@[reducible] def i68_V : List Nat := [0, 1, 2, 3, 4, 5, 6, 7, 8, 18, 37]
def i68 : IFn := ⟨63, i68_V, [.cell 4 true 4, .tmp 5], i68_B⟩
theorem i68_ok : compF Go.Proofs.Try.prog i68_V Go.Proofs.Try.f68 = some i68 := by kernel_rfl
/-! funicular/funicularref10.small -/
@[reducible] def i69_R0 : List Iop := [⟨(some 1), none, .box (.t 0)⟩,
  ⟨(some 2), none, .mv (.c (.int .i64 0))⟩,
  ⟨(some 3), none, .mv (.c (.bool false))⟩]
@[reducible] def i69_R1 : List Iop := [⟨(some 5), none, .fa 1 (.t 1)⟩,
  ⟨(some 6), none, .iaa 1 3 (.t 5) (.c (.int .i64 2))⟩,
  ⟨(some 7), none, .ld false 1 (.t 6)⟩,
  ⟨(some 8), none, .bin .gtr (.t 7) (.c (.int .u64 0))⟩,
  ⟨(some 9), none, .mv (.t 8)⟩,
  ⟨(some 10), (some (9, false)), .fa 1 (.t 1)⟩,
  ⟨(some 11), (some (9, false)), .iaa 1 3 (.t 10) (.c (.int .i64 1))⟩,
  ⟨(some 12), (some (9, false)), .ld false 1 (.t 11)⟩,
  ⟨(some 13), (some (9, false)), .bin .gtr (.t 12) (.c (.int .u64 2147483648))⟩,
  ⟨(some 14), none, .pick (.t 9) (.c (.bool true)) (.t 13)⟩]
@[reducible] def i69_R2 : List Iop := [⟨(some 2), none, .mv (.c (.int .i64 0))⟩,
  ⟨(some 3), none, .mv (.c (.bool false))⟩]
@[reducible] def i69_R3 : List Iop := [⟨(some 15), none, .fa 1 (.t 1)⟩,
  ⟨(some 16), none, .iaa 1 3 (.t 15) (.c (.int .i64 1))⟩,
  ⟨(some 17), none, .ld false 1 (.t 16)⟩,
  ⟨(some 18), none, .bin .mul (.t 17) (.c (.int .u64 4294967296))⟩,
  ⟨(some 19), none, .fa 1 (.t 1)⟩,
  ⟨(some 20), none, .iaa 1 3 (.t 19) (.c (.int .i64 0))⟩,
  ⟨(some 21), none, .ld false 1 (.t 20)⟩,
  ⟨(some 22), none, .bin .add (.t 18) (.t 21)⟩,
  ⟨(some 4), none, .mv (.t 22)⟩]
@[reducible] def i69_R4 : List Iop := [⟨(some 23), none, .fa 0 (.t 1)⟩,
  ⟨(some 24), none, .ld false 1 (.t 23)⟩]
@[reducible] def i69_R5 : List Iop := [⟨(some 25), none, .mv (.t 4)⟩,
  ⟨(some 26), none, .ngt (.t 25)⟩,
  ⟨(some 27), none, .cvt .i64 (.t 26)⟩,
  ⟨(some 28), none, .mv (.t 4)⟩,
  ⟨(some 29), none, .bin .leq (.t 28) (.c (.int .u64 9223372036854775808))⟩,
  ⟨(some 2), none, .mv (.t 27)⟩,
  ⟨(some 3), none, .mv (.t 29)⟩]
@[reducible] def i69_R6 : List Iop := [⟨(some 30), none, .mv (.t 4)⟩,
  ⟨(some 31), none, .cvt .i64 (.t 30)⟩,
  ⟨(some 32), none, .mv (.t 4)⟩,
  ⟨(some 33), none, .bin .leq (.t 32) (.c (.int .u64 9223372036854775807))⟩,
  ⟨(some 2), none, .mv (.t 31)⟩,
  ⟨(some 3), none, .mv (.t 33)⟩]
@[reducible] def i69_B : IC := (.seq (.reg none i69_R0) (.seq (.seq (.reg none i69_R1) (.cond (.t 14) (.seq (.reg none i69_R2) .ret) .skip)) (.seq (.reg none i69_R3) (.seq (.seq (.reg none i69_R4) (.cond (.t 24) (.seq (.reg none i69_R5) .ret) .skip)) (.seq (.reg none i69_R6) .ret)))))
@[reducible] def i69_V : List Nat := [0, 1, 2, 3, 4, 14, 24]
def i69 : IFn := ⟨34, i69_V, [.tmp 2, .tmp 3], i69_B⟩
theorem i69_ok : compF Go.Proofs.Try.prog i69_V Go.Proofs.Try.f69 = some i69 := by kernel_rfl
/-! funicular/funicularref07.node -/
@[reducible] def i70_R0 : List Iop := [⟨(some 1), none, .box (.t 0)⟩,
  ⟨(some 2), none, .mv (.c (.bool false))⟩]
@[reducible] def i70_R1 : List Iop := [⟨(some 3), none, .mv (.c (.int .i64 2))⟩]
@[reducible] def i70_R2 : List Iop := [⟨(some 4), none, .fa 0 (.t 1)⟩,
  ⟨(some 5), none, .ld false 1 (.t 4)⟩,
  ⟨(some 6), none, .bin .geq (.t 5) (.c (.int .i64 1))⟩,
  ⟨(some 7), none, .mv (.t 6)⟩,
  ⟨(some 8), (some (7, true)), .fa 0 (.t 1)⟩,
  ⟨(some 9), (some (7, true)), .ld false 1 (.t 8)⟩,
  ⟨(some 10), (some (7, true)), .bin .leq (.t 9) (.c (.int .i64 4))⟩,
  ⟨(some 11), none, .pick (.t 7) (.t 10) (.c (.bool false))⟩]
@[reducible] def i70_R3 : List Iop := [⟨(some 3), none, .mv (.c (.int .i64 0))⟩]
@[reducible] def i70_R4 : List Iop := [⟨(some 12), none, .fa 0 (.t 1)⟩,
  ⟨(some 13), none, .ld false 1 (.t 12)⟩,
  ⟨(some 14), none, .bin .eql (.t 13) (.c (.int .i64 5))⟩,
  ⟨(some 15), none, .mv (.t 14)⟩,
  ⟨(some 16), (some (15, false)), .fa 0 (.t 1)⟩,
  ⟨(some 17), (some (15, false)), .ld false 1 (.t 16)⟩,
  ⟨(some 18), (some (15, false)), .bin .eql (.t 17) (.c (.int .i64 6))⟩,
  ⟨(some 19), none, .pick (.t 15) (.c (.bool true)) (.t 18)⟩]
@[reducible] def i70_R5 : List Iop := [⟨(some 3), none, .mv (.c (.int .i64 1))⟩]
@[reducible] def i70_R6 : List Iop := [⟨(some 20), none, .fa 0 (.t 1)⟩,
  ⟨(some 21), none, .ld false 1 (.t 20)⟩,
  ⟨(some 22), none, .bin .lss (.t 21) (.c (.int .i64 1))⟩,
  ⟨(some 23), none, .mv (.t 22)⟩,
  ⟨(some 24), (some (23, false)), .fa 0 (.t 1)⟩,
  ⟨(some 25), (some (23, false)), .ld false 1 (.t 24)⟩,
  ⟨(some 26), (some (23, false)), .bin .gtr (.t 25) (.c (.int .i64 14))⟩,
  ⟨(some 27), none, .pick (.t 23) (.c (.bool true)) (.t 26)⟩,
  ⟨(some 28), none, .mv (.t 27)⟩,
  ⟨(some 29), (some (28, false)), .fa 3 (.t 1)⟩,
  ⟨(some 30), (some (28, false)), .ld false 1 (.t 29)⟩,
  ⟨(some 31), (some (28, false)), .lenl (.t 30)⟩,
  ⟨(some 32), (some (28, false)), .mv (.t 3)⟩,
  ⟨(some 33), (some (28, false)), .bin .neq (.t 31) (.t 32)⟩,
  ⟨(some 34), none, .pick (.t 28) (.c (.bool true)) (.t 33)⟩]
@[reducible] def i70_R7 : List Iop := [⟨(some 2), none, .mv (.c (.bool false))⟩]
@[reducible] def i70_R8 : List Iop := [⟨(some 35), none, .fa 1 (.t 1)⟩,
  ⟨(some 36), none, .ld false 1 (.t 35)⟩,
  ⟨(some 37), none, .bin .lss (.t 36) (.c (.int .i64 0))⟩,
  ⟨(some 38), none, .mv (.t 37)⟩,
  ⟨(some 39), (some (38, false)), .fa 1 (.t 1)⟩,
  ⟨(some 40), (some (38, false)), .ld false 1 (.t 39)⟩,
  ⟨(some 41), (some (38, false)), .bin .gtr (.t 40) (.c (.int .i64 0))⟩,
  ⟨(some 42), (some (38, false)), .mv (.t 41)⟩,
  ⟨(some 43), (some (42, true)), .fa 0 (.t 1)⟩,
  ⟨(some 44), (some (42, true)), .ld false 1 (.t 43)⟩,
  ⟨(some 45), (some (42, true)), .bin .neq (.t 44) (.c (.int .i64 1))⟩,
  ⟨(some 46), (some (38, false)), .pick (.t 42) (.t 45) (.c (.bool false))⟩,
  ⟨(some 47), none, .pick (.t 38) (.c (.bool true)) (.t 46)⟩]
@[reducible] def i70_R9 : List Iop := [⟨(some 2), none, .mv (.c (.bool false))⟩]
@[reducible] def i70_R10 : List Iop := [⟨(some 48), none, .fa 0 (.t 1)⟩,
  ⟨(some 49), none, .ld false 1 (.t 48)⟩,
  ⟨(some 50), none, .bin .eql (.t 49) (.c (.int .i64 2))⟩]
@[reducible] def i70_R11 : List Iop := [⟨(some 51), none, .fa 2 (.t 1)⟩,
  ⟨(some 52), none, .ld false 1 (.t 51)⟩,
  ⟨(some 53), none, .call 30 [(.t 52)]⟩,
  ⟨(some 54), none, .mv (.t 53)⟩,
  ⟨(some 55), (some (54, true)), .fa 2 (.t 1)⟩,
  ⟨(some 56), (some (54, true)), .ld false 1 (.t 55)⟩,
  ⟨(some 57), (some (54, true)), .bin .neq (.t 56) (.c (.str ⟨#[121, 101, 115]⟩))⟩,
  ⟨(some 58), none, .pick (.t 54) (.t 57) (.c (.bool false))⟩,
  ⟨(some 59), none, .mv (.t 58)⟩,
  ⟨(some 60), (some (59, true)), .fa 2 (.t 1)⟩,
  ⟨(some 61), (some (59, true)), .ld false 1 (.t 60)⟩,
  ⟨(some 62), (some (59, true)), .bin .neq (.t 61) (.c (.str ⟨#[110, 111]⟩))⟩,
  ⟨(some 63), none, .pick (.t 59) (.t 62) (.c (.bool false))⟩,
  ⟨(some 2), none, .mv (.t 63)⟩]
@[reducible] def i70_R12 : List Iop := [⟨(some 64), none, .fa 2 (.t 1)⟩,
  ⟨(some 65), none, .ld false 1 (.t 64)⟩,
  ⟨(some 66), none, .bin .eql (.t 65) (.c (.str ⟨#[]⟩))⟩,
  ⟨(some 2), none, .mv (.t 66)⟩]
@[reducible] def i70_B : IC := (.seq (.reg none i70_R0) (.seq (.reg none i70_R1) (.seq (.seq (.reg none i70_R2) (.cond (.t 11) (.reg none i70_R3) .skip)) (.seq (.seq (.reg none i70_R4) (.cond (.t 19) (.reg none i70_R5) .skip)) (.seq (.seq (.reg none i70_R6) (.cond (.t 34) (.seq (.reg none i70_R7) .ret) .skip)) (.seq (.seq (.reg none i70_R8) (.cond (.t 47) (.seq (.reg none i70_R9) .ret) .skip)) (.seq (.seq (.reg none i70_R10) (.cond (.t 50) (.seq (.reg none i70_R11) .ret) .skip)) (.seq (.reg none i70_R12) .ret))))))))
@[reducible] def i70_V : List Nat := [0, 1, 2, 3, 11, 19, 34, 47, 50]
def i70 : IFn := ⟨67, i70_V, [.tmp 2], i70_B⟩
theorem i70_ok : compF Go.Proofs.Try.prog i70_V Go.Proofs.Try.f70 = some i70 := by kernel_rfl
/-! funicular/funicularref08.same -/
@[reducible] def i71_R0 : List Iop := [⟨(some 2), none, .box (.t 0)⟩,
  ⟨(some 3), none, .box (.t 1)⟩,
  ⟨(some 4), none, .mv (.c (.bool false))⟩]
@[reducible] def i71_R1 : List Iop := [⟨(some 5), none, .fa 0 (.t 2)⟩,
  ⟨(some 6), none, .ld false 1 (.t 5)⟩,
  ⟨(some 7), none, .fa 0 (.t 3)⟩,
  ⟨(some 8), none, .ld false 1 (.t 7)⟩,
  ⟨(some 9), none, .bin .eql (.t 6) (.t 8)⟩,
  ⟨(some 10), none, .mv (.t 9)⟩,
  ⟨(some 11), (some (10, true)), .fa 1 (.t 2)⟩,
  ⟨(some 12), (some (10, true)), .ld false 1 (.t 11)⟩,
  ⟨(some 13), (some (10, true)), .fa 1 (.t 3)⟩,
  ⟨(some 14), (some (10, true)), .ld false 1 (.t 13)⟩,
  ⟨(some 15), (some (10, true)), .bin .eql (.t 12) (.t 14)⟩,
  ⟨(some 16), none, .pick (.t 10) (.t 15) (.c (.bool false))⟩,
  ⟨(some 4), none, .mv (.t 16)⟩]
@[reducible] def i71_B : IC := (.seq (.reg none i71_R0) (.seq (.reg none i71_R1) .ret))
@[reducible] def i71_V : List Nat := [0, 1, 2, 3, 4]
def i71 : IFn := ⟨17, i71_V, [.tmp 4], i71_B⟩
theorem i71_ok : compF Go.Proofs.Try.prog i71_V Go.Proofs.Try.f71 = some i71 := by kernel_rfl
/-! funicular/funicularref08.sums -/
@[reducible] def i72_R0 : List Iop := [⟨(some 6), none, .alloc [.int .i64 0, .int .i64 0, .str ⟨#[]⟩, .nil]⟩,
  ⟨(some 7), none, .mv (.c (.bool false))⟩]
@[reducible] def i72_R1 : List Iop := [⟨(some 8), none, .mv (.c (.int .i64 9223372036854775807))⟩]
@[reducible] def i72_R2 : List Iop := [⟨(some 9), none, .mv (.t 0)⟩,
  ⟨(some 10), none, .bin .eql (.t 9) (.c (.int .i64 7))⟩,
  ⟨(some 11), none, .mv (.t 10)⟩,
  ⟨(some 12), (some (11, true)), .mv (.t 2)⟩,
  ⟨(some 13), (some (11, true)), .mv (.t 8)⟩,
  ⟨(some 14), (some (11, true)), .mv (.t 1)⟩,
  ⟨(some 15), (some (11, true)), .bin .sub (.t 13) (.t 14)⟩,
  ⟨(some 16), (some (11, true)), .bin .leq (.t 12) (.t 15)⟩,
  ⟨(some 17), none, .pick (.t 11) (.t 16) (.c (.bool false))⟩]
@[reducible] def i72_R3 : List Iop := [⟨(some 18), none, .mv (.t 1)⟩,
  ⟨(some 19), none, .mv (.t 2)⟩,
  ⟨(some 20), none, .bin .add (.t 18) (.t 19)⟩,
  ⟨(some 21), none, .call 81 [(.t 20)]⟩,
  ⟨none, none, .st 4 (.t 6) (.t 21)⟩,
  ⟨(some 7), none, .mv (.c (.bool true))⟩]
@[reducible] def i72_R4 : List Iop := [⟨(some 22), none, .mv (.t 0)⟩,
  ⟨(some 23), none, .bin .eql (.t 22) (.c (.int .i64 8))⟩,
  ⟨(some 24), none, .mv (.t 23)⟩,
  ⟨(some 25), (some (24, true)), .mv (.t 2)⟩,
  ⟨(some 26), (some (24, true)), .mv (.t 1)⟩,
  ⟨(some 27), (some (24, true)), .bin .leq (.t 25) (.t 26)⟩,
  ⟨(some 28), none, .pick (.t 24) (.t 27) (.c (.bool false))⟩]
@[reducible] def i72_R5 : List Iop := [⟨(some 29), none, .mv (.t 1)⟩,
  ⟨(some 30), none, .mv (.t 2)⟩,
  ⟨(some 31), none, .bin .sub (.t 29) (.t 30)⟩,
  ⟨(some 32), none, .call 81 [(.t 31)]⟩,
  ⟨none, none, .st 4 (.t 6) (.t 32)⟩,
  ⟨(some 7), none, .mv (.c (.bool true))⟩]
@[reducible] def i72_R6 : List Iop := [⟨(some 33), none, .mv (.t 0)⟩,
  ⟨(some 34), none, .bin .eql (.t 33) (.c (.int .i64 9))⟩,
  ⟨(some 35), none, .mv (.t 34)⟩,
  ⟨(some 36), (some (35, true)), .mv (.t 1)⟩,
  ⟨(some 37), (some (35, true)), .bin .eql (.t 36) (.c (.int .i64 0))⟩,
  ⟨(some 38), (some (35, true)), .mv (.t 37)⟩,
  ⟨(some 39), (some (38, false)), .mv (.t 2)⟩,
  ⟨(some 40), (some (38, false)), .mv (.t 8)⟩,
  ⟨(some 41), (some (38, false)), .mv (.t 1)⟩,
  ⟨(some 42), (some (38, false)), .bin .quo (.t 40) (.t 41)⟩,
  ⟨(some 43), (some (38, false)), .bin .leq (.t 39) (.t 42)⟩,
  ⟨(some 44), (some (35, true)), .pick (.t 38) (.c (.bool true)) (.t 43)⟩,
  ⟨(some 45), none, .pick (.t 35) (.t 44) (.c (.bool false))⟩]
@[reducible] def i72_R7 : List Iop := [⟨(some 46), none, .mv (.t 1)⟩,
  ⟨(some 47), none, .mv (.t 2)⟩,
  ⟨(some 48), none, .bin .mul (.t 46) (.t 47)⟩,
  ⟨(some 49), none, .call 81 [(.t 48)]⟩,
  ⟨none, none, .st 4 (.t 6) (.t 49)⟩,
  ⟨(some 7), none, .mv (.c (.bool true))⟩]
@[reducible] def i72_R8 : List Iop := [⟨(some 50), none, .mv (.t 0)⟩,
  ⟨(some 51), none, .bin .eql (.t 50) (.c (.int .i64 10))⟩,
  ⟨(some 52), none, .mv (.t 51)⟩,
  ⟨(some 53), (some (52, true)), .mv (.t 2)⟩,
  ⟨(some 54), (some (52, true)), .bin .gtr (.t 53) (.c (.int .i64 0))⟩,
  ⟨(some 55), none, .pick (.t 52) (.t 54) (.c (.bool false))⟩]
@[reducible] def i72_R9 : List Iop := [⟨(some 56), none, .mv (.t 1)⟩,
  ⟨(some 57), none, .mv (.t 2)⟩,
  ⟨(some 58), none, .bin .quo (.t 56) (.t 57)⟩,
  ⟨(some 59), none, .call 81 [(.t 58)]⟩,
  ⟨none, none, .st 4 (.t 6) (.t 59)⟩,
  ⟨(some 7), none, .mv (.c (.bool true))⟩]
@[reducible] def i72_R10 : List Iop := [⟨(some 60), none, .mv (.t 0)⟩,
  ⟨(some 61), none, .bin .eql (.t 60) (.c (.int .i64 12))⟩]
@[reducible] def i72_R11 : List Iop := [⟨(some 62), none, .mv (.t 1)⟩,
  ⟨(some 63), none, .mv (.t 2)⟩,
  ⟨(some 64), none, .bin .lss (.t 62) (.t 63)⟩,
  ⟨(some 65), none, .call 55 [(.t 64)]⟩,
  ⟨none, none, .st 4 (.t 6) (.t 65)⟩,
  ⟨(some 7), none, .mv (.c (.bool true))⟩]
@[reducible] def i72_R12 : List Iop := [⟨(some 66), none, .build [.int .i64 0, .int .i64 0, .str ⟨#[]⟩, .nil] []⟩,
  ⟨none, none, .st 4 (.t 6) (.t 66)⟩,
  ⟨(some 7), none, .mv (.c (.bool false))⟩]
@[reducible] def i72_B : IC := (.seq (.reg none i72_R0) (.seq (.reg none i72_R1) (.seq (.seq (.reg none i72_R2) (.cond (.t 17) (.seq (.reg none i72_R3) .ret) .skip)) (.seq (.seq (.reg none i72_R4) (.cond (.t 28) (.seq (.reg none i72_R5) .ret) .skip)) (.seq (.seq (.reg none i72_R6) (.cond (.t 45) (.seq (.reg none i72_R7) .ret) .skip)) (.seq (.seq (.reg none i72_R8) (.cond (.t 55) (.seq (.reg none i72_R9) .ret) .skip)) (.seq (.seq (.reg none i72_R10) (.cond (.t 61) (.seq (.reg none i72_R11) .ret) .skip)) (.seq (.reg none i72_R12) .ret))))))))
@[reducible] def i72_V : List Nat := [0, 1, 2, 6, 7, 8, 17, 28, 45, 55, 61]
def i72 : IFn := ⟨67, i72_V, [.cell 6 true 4, .tmp 7], i72_B⟩
theorem i72_ok : compF Go.Proofs.Try.prog i72_V Go.Proofs.Try.f72 = some i72 := by kernel_rfl
/-! funicular/funicularref06.sign -/
@[reducible] def i73_R0 : List Iop := [⟨(some 2), none, .mv (.c (.bool false))⟩]
@[reducible] def i73_R1 : List Iop := [⟨(some 5), none, .bsl 1 [.int .u8 0] 11 [(0, (.c (.int .u8 43))), (1, (.c (.int .u8 45))), (2, (.c (.int .u8 42))), (3, (.c (.int .u8 47))), (4, (.c (.int .u8 61))), (5, (.c (.int .u8 60))), (6, (.c (.int .u8 40))), (7, (.c (.int .u8 41))), (8, (.c (.int .u8 38))), (9, (.c (.int .u8 124))), (10, (.c (.int .u8 33)))]⟩,
  ⟨(some 3), none, .mv (.t 5)⟩]
@[reducible] def i73_R2 : List Iop := [⟨(some 4), none, .mv (.c (.int .i64 0))⟩]
@[reducible] def i73_R3 : List Iop := [⟨(some 6), none, .mv (.t 4)⟩,
  ⟨(some 7), none, .mv (.t 3)⟩,
  ⟨(some 8), none, .lenl (.t 7)⟩,
  ⟨(some 9), none, .bin .lss (.t 6) (.t 8)⟩]
@[reducible] def i73_R4 : List Iop := [⟨(some 12), none, .mv (.t 3)⟩,
  ⟨(some 13), none, .mv (.t 4)⟩,
  ⟨(some 14), none, .ias 1 (.t 12) (.t 13)⟩,
  ⟨(some 15), none, .ld false 1 (.t 14)⟩,
  ⟨(some 16), none, .mv (.t 0)⟩,
  ⟨(some 17), none, .bin .eql (.t 15) (.t 16)⟩]
@[reducible] def i73_R5 : List Iop := [⟨(some 2), none, .mv (.c (.bool true))⟩]
@[reducible] def i73_R6 : List Iop := [⟨(some 10), none, .mv (.t 4)⟩,
  ⟨(some 11), none, .bin .add (.t 10) (.c (.int .i64 1))⟩,
  ⟨(some 4), none, .mv (.t 11)⟩]
@[reducible] def i73_L0 : IC := (.seq (.seq (.reg none i73_R3) (.cond (.t 9) .skip (.out 0))) (.seq (.block 1 (.seq (.reg none i73_R4) (.cond (.t 17) (.seq (.reg none i73_R5) .ret) .skip))) (.reg none i73_R6)))
@[reducible] def i73_R7 : List Iop := [⟨(some 2), none, .mv (.c (.bool false))⟩]
@[reducible] def i73_B : IC := (.seq (.reg none i73_R0) (.seq (.reg none i73_R1) (.seq (.seq (.reg none i73_R2) (.block 0 (.loop i73_L0))) (.seq (.reg none i73_R7) .ret))))
@[reducible] def i73_V : List Nat := [0, 2, 3, 4, 9, 17]
def i73 : IFn := ⟨18, i73_V, [.tmp 2], i73_B⟩
theorem i73_ok : compF Go.Proofs.Try.prog i73_V Go.Proofs.Try.f73 = some i73 := by kernel_rfl
/-! funicular/funicularref06.digit -/
@[reducible] def i74_R0 : List Iop := [⟨(some 2), none, .mv (.c (.bool false))⟩]
@[reducible] def i74_R1 : List Iop := [⟨(some 3), none, .mv (.t 0)⟩,
  ⟨(some 4), none, .bin .geq (.t 3) (.c (.int .u8 48))⟩,
  ⟨(some 5), none, .mv (.t 4)⟩,
  ⟨(some 6), (some (5, true)), .mv (.t 0)⟩,
  ⟨(some 7), (some (5, true)), .bin .leq (.t 6) (.c (.int .u8 57))⟩,
  ⟨(some 8), none, .pick (.t 5) (.t 7) (.c (.bool false))⟩,
  ⟨(some 2), none, .mv (.t 8)⟩]
@[reducible] def i74_B : IC := (.seq (.reg none i74_R0) (.seq (.reg none i74_R1) .ret))
@[reducible] def i74_V : List Nat := [0, 2]
def i74 : IFn := ⟨9, i74_V, [.tmp 2], i74_B⟩
theorem i74_ok : compF Go.Proofs.Try.prog i74_V Go.Proofs.Try.f74 = some i74 := by kernel_rfl
/-! funicular/funicularref06.number -/
@[reducible] def i75_R0 : List Iop := [⟨(some 2), none, .mv (.c (.int .i64 0))⟩,
  ⟨(some 3), none, .mv (.c (.bool false))⟩]
@[reducible] def i75_R1 : List Iop := [⟨(some 4), none, .mv (.c (.int .u64 0))⟩]
@[reducible] def i75_R2 : List Iop := [⟨(some 5), none, .mv (.c (.int .i64 0))⟩]
@[reducible] def i75_R3 : List Iop := [⟨(some 6), none, .mv (.t 5)⟩,
  ⟨(some 7), none, .mv (.t 0)⟩,
  ⟨(some 8), none, .lens (.t 7)⟩,
  ⟨(some 9), none, .bin .lss (.t 6) (.t 8)⟩]
@[reducible] def i75_R4 : List Iop := [⟨(some 12), none, .mv (.t 4)⟩,
  ⟨(some 13), none, .bin .gtr (.t 12) (.c (.int .u64 922337203685477580))⟩]
@[reducible] def i75_R5 : List Iop := [⟨(some 2), none, .mv (.c (.int .i64 0))⟩,
  ⟨(some 3), none, .mv (.c (.bool false))⟩]
@[reducible] def i75_R6 : List Iop := [⟨(some 14), none, .mv (.t 4)⟩,
  ⟨(some 15), none, .bin .mul (.t 14) (.c (.int .u64 10))⟩,
  ⟨(some 16), none, .mv (.t 0)⟩,
  ⟨(some 17), none, .mv (.t 5)⟩,
  ⟨(some 18), none, .ixs (.t 16) (.t 17)⟩,
  ⟨(some 19), none, .cvt .u64 (.t 18)⟩,
  ⟨(some 20), none, .bin .add (.t 15) (.t 19)⟩,
  ⟨(some 21), none, .bin .sub (.t 20) (.c (.int .u64 48))⟩,
  ⟨(some 4), none, .mv (.t 21)⟩]
@[reducible] def i75_R7 : List Iop := [⟨(some 22), none, .mv (.t 4)⟩,
  ⟨(some 23), none, .bin .gtr (.t 22) (.c (.int .u64 9223372036854775807))⟩]
@[reducible] def i75_R8 : List Iop := [⟨(some 2), none, .mv (.c (.int .i64 0))⟩,
  ⟨(some 3), none, .mv (.c (.bool false))⟩]
@[reducible] def i75_R9 : List Iop := [⟨(some 10), none, .mv (.t 5)⟩,
  ⟨(some 11), none, .bin .add (.t 10) (.c (.int .i64 1))⟩,
  ⟨(some 5), none, .mv (.t 11)⟩]
@[reducible] def i75_L0 : IC := (.seq (.seq (.reg none i75_R3) (.cond (.t 9) .skip (.out 0))) (.seq (.block 1 (.seq (.seq (.reg none i75_R4) (.cond (.t 13) (.seq (.reg none i75_R5) .ret) .skip)) (.seq (.reg none i75_R6) (.seq (.reg none i75_R7) (.cond (.t 23) (.seq (.reg none i75_R8) .ret) .skip))))) (.reg none i75_R9)))
@[reducible] def i75_R10 : List Iop := [⟨(some 24), none, .mv (.t 4)⟩,
  ⟨(some 25), none, .cvt .i64 (.t 24)⟩,
  ⟨(some 2), none, .mv (.t 25)⟩,
  ⟨(some 3), none, .mv (.c (.bool true))⟩]
@[reducible] def i75_B : IC := (.seq (.reg none i75_R0) (.seq (.reg none i75_R1) (.seq (.seq (.reg none i75_R2) (.block 0 (.loop i75_L0))) (.seq (.reg none i75_R10) .ret))))
@[reducible] def i75_V : List Nat := [0, 2, 3, 4, 5, 9, 13, 23]
def i75 : IFn := ⟨26, i75_V, [.tmp 2, .tmp 3], i75_B⟩
theorem i75_ok : compF Go.Proofs.Try.prog i75_V Go.Proofs.Try.f75 = some i75 := by kernel_rfl
/-! funicular/funicularref06.letter -/
@[reducible] def i76_R0 : List Iop := [⟨(some 2), none, .mv (.c (.bool false))⟩]
@[reducible] def i76_R1 : List Iop := [⟨(some 3), none, .mv (.t 0)⟩,
  ⟨(some 4), none, .bin .geq (.t 3) (.c (.int .u8 97))⟩,
  ⟨(some 5), none, .mv (.t 4)⟩,
  ⟨(some 6), (some (5, true)), .mv (.t 0)⟩,
  ⟨(some 7), (some (5, true)), .bin .leq (.t 6) (.c (.int .u8 122))⟩,
  ⟨(some 8), none, .pick (.t 5) (.t 7) (.c (.bool false))⟩,
  ⟨(some 2), none, .mv (.t 8)⟩]
@[reducible] def i76_B : IC := (.seq (.reg none i76_R0) (.seq (.reg none i76_R1) .ret))
@[reducible] def i76_V : List Nat := [0, 2]
def i76 : IFn := ⟨9, i76_V, [.tmp 2], i76_B⟩
theorem i76_ok : compF Go.Proofs.Try.prog i76_V Go.Proofs.Try.f76 = some i76 := by kernel_rfl
/-! cmp.Less[string] -/
@[reducible] def i77_R0 : List Iop := [⟨(some 4), none, .mv (.c (.bool false))⟩]
@[reducible] def i77_R1 : List Iop := [⟨(some 5), none, .mv (.t 0)⟩,
  ⟨(some 6), none, .call 82 [(.t 5)]⟩,
  ⟨(some 7), none, .mv (.t 6)⟩,
  ⟨(some 8), (some (7, true)), .mv (.t 1)⟩,
  ⟨(some 9), (some (7, true)), .call 82 [(.t 8)]⟩,
  ⟨(some 10), (some (7, true)), .nt (.t 9)⟩,
  ⟨(some 11), none, .pick (.t 7) (.t 10) (.c (.bool false))⟩,
  ⟨(some 12), none, .mv (.t 11)⟩,
  ⟨(some 13), (some (12, false)), .mv (.t 0)⟩,
  ⟨(some 14), (some (12, false)), .mv (.t 1)⟩,
  ⟨(some 15), (some (12, false)), .bin .lss (.t 13) (.t 14)⟩,
  ⟨(some 16), none, .pick (.t 12) (.c (.bool true)) (.t 15)⟩,
  ⟨(some 4), none, .mv (.t 16)⟩]
@[reducible] def i77_B : IC := (.seq (.reg none i77_R0) (.seq (.reg none i77_R1) .ret))
@[reducible] def i77_V : List Nat := [0, 1, 4]
def i77 : IFn := ⟨17, i77_V, [.tmp 4], i77_B⟩
theorem i77_ok : compF Go.Proofs.Try.prog i77_V Go.Proofs.Try.f77 = some i77 := by kernel_rfl
/-! slices.isNaN[string] -/
@[reducible] def i78_R0 : List Iop := [⟨(some 2), none, .mv (.c (.bool false))⟩]
@[reducible] def i78_R1 : List Iop := [⟨(some 3), none, .mv (.t 0)⟩,
  ⟨(some 4), none, .mv (.t 0)⟩,
  ⟨(some 5), none, .bin .neq (.t 3) (.t 4)⟩,
  ⟨(some 2), none, .mv (.t 5)⟩]
@[reducible] def i78_B : IC := (.seq (.reg none i78_R0) (.seq (.reg none i78_R1) .ret))
@[reducible] def i78_V : List Nat := [0, 2]
def i78 : IFn := ⟨6, i78_V, [.tmp 2], i78_B⟩
theorem i78_ok : compF Go.Proofs.Try.prog i78_V Go.Proofs.Try.f78 = some i78 := by kernel_rfl
/-! funicular/funicularref10.carry -/
@[reducible] def i79_R0 : List Iop := [⟨(some 1), none, .box (.t 0)⟩,
  ⟨(some 2), none, .alloc [.bool false, .int .u64 0, .int .u64 0, .int .u64 0]⟩]
@[reducible] def i79_R1 : List Iop := [⟨(some 3), none, .fa 1 (.t 1)⟩,
  ⟨(some 4), none, .iaa 1 3 (.t 3) (.c (.int .i64 1))⟩,
  ⟨(some 5), none, .ld false 1 (.t 4)⟩,
  ⟨(some 6), none, .fa 1 (.t 1)⟩,
  ⟨(some 7), none, .iaa 1 3 (.t 6) (.c (.int .i64 0))⟩,
  ⟨(some 8), none, .ld false 1 (.t 7)⟩,
  ⟨(some 9), none, .bin .quo (.t 8) (.c (.int .u64 4294967296))⟩,
  ⟨(some 10), none, .bin .add (.t 5) (.t 9)⟩,
  ⟨(some 11), none, .fa 1 (.t 1)⟩,
  ⟨(some 12), none, .iaa 1 3 (.t 11) (.c (.int .i64 1))⟩,
  ⟨none, none, .st 1 (.t 12) (.t 10)⟩]
@[reducible] def i79_R2 : List Iop := [⟨(some 13), none, .fa 1 (.t 1)⟩,
  ⟨(some 14), none, .iaa 1 3 (.t 13) (.c (.int .i64 0))⟩,
  ⟨(some 15), none, .ld false 1 (.t 14)⟩,
  ⟨(some 16), none, .bin .rem (.t 15) (.c (.int .u64 4294967296))⟩,
  ⟨(some 17), none, .fa 1 (.t 1)⟩,
  ⟨(some 18), none, .iaa 1 3 (.t 17) (.c (.int .i64 0))⟩,
  ⟨none, none, .st 1 (.t 18) (.t 16)⟩]
@[reducible] def i79_R3 : List Iop := [⟨(some 19), none, .fa 1 (.t 1)⟩,
  ⟨(some 20), none, .iaa 1 3 (.t 19) (.c (.int .i64 2))⟩,
  ⟨(some 21), none, .ld false 1 (.t 20)⟩,
  ⟨(some 22), none, .fa 1 (.t 1)⟩,
  ⟨(some 23), none, .iaa 1 3 (.t 22) (.c (.int .i64 1))⟩,
  ⟨(some 24), none, .ld false 1 (.t 23)⟩,
  ⟨(some 25), none, .bin .quo (.t 24) (.c (.int .u64 4294967296))⟩,
  ⟨(some 26), none, .bin .add (.t 21) (.t 25)⟩,
  ⟨(some 27), none, .fa 1 (.t 1)⟩,
  ⟨(some 28), none, .iaa 1 3 (.t 27) (.c (.int .i64 2))⟩,
  ⟨none, none, .st 1 (.t 28) (.t 26)⟩]
@[reducible] def i79_R4 : List Iop := [⟨(some 29), none, .fa 1 (.t 1)⟩,
  ⟨(some 30), none, .iaa 1 3 (.t 29) (.c (.int .i64 1))⟩,
  ⟨(some 31), none, .ld false 1 (.t 30)⟩,
  ⟨(some 32), none, .bin .rem (.t 31) (.c (.int .u64 4294967296))⟩,
  ⟨(some 33), none, .fa 1 (.t 1)⟩,
  ⟨(some 34), none, .iaa 1 3 (.t 33) (.c (.int .i64 1))⟩,
  ⟨none, none, .st 1 (.t 34) (.t 32)⟩]
@[reducible] def i79_R5 : List Iop := [⟨(some 35), none, .ld true 4 (.t 1)⟩,
  ⟨none, none, .st 4 (.t 2) (.t 35)⟩]
@[reducible] def i79_B : IC := (.seq (.reg none i79_R0) (.seq (.reg none i79_R1) (.seq (.reg none i79_R2) (.seq (.reg none i79_R3) (.seq (.reg none i79_R4) (.seq (.reg none i79_R5) .ret))))))
@[reducible] def i79_V : List Nat := [0, 1, 2]
def i79 : IFn := ⟨36, i79_V, [.cell 2 true 4], i79_B⟩
theorem i79_ok : compF Go.Proofs.Try.prog i79_V Go.Proofs.Try.f79 = some i79 := by kernel_rfl
/-! funicular/funicularref10.less -/
@[reducible] def i80_R0 : List Iop := [⟨(some 2), none, .box (.t 0)⟩,
  ⟨(some 3), none, .box (.t 1)⟩,
  ⟨(some 4), none, .mv (.c (.bool false))⟩]
@[reducible] def i80_R1 : List Iop := [⟨(some 5), none, .mv (.c (.int .i64 2))⟩]
@[reducible] def i80_R2 : List Iop := [⟨(some 6), none, .mv (.t 5)⟩,
  ⟨(some 7), none, .bin .geq (.t 6) (.c (.int .i64 0))⟩]
@[reducible] def i80_R3 : List Iop := [⟨(some 10), none, .mv (.t 5)⟩,
  ⟨(some 11), none, .fa 1 (.t 2)⟩,
  ⟨(some 12), none, .iaa 1 3 (.t 11) (.t 10)⟩,
  ⟨(some 13), none, .ld false 1 (.t 12)⟩,
  ⟨(some 14), none, .mv (.t 5)⟩,
  ⟨(some 15), none, .fa 1 (.t 3)⟩,
  ⟨(some 16), none, .iaa 1 3 (.t 15) (.t 14)⟩,
  ⟨(some 17), none, .ld false 1 (.t 16)⟩,
  ⟨(some 18), none, .bin .neq (.t 13) (.t 17)⟩]
@[reducible] def i80_R4 : List Iop := [⟨(some 19), none, .mv (.t 5)⟩,
  ⟨(some 20), none, .fa 1 (.t 2)⟩,
  ⟨(some 21), none, .iaa 1 3 (.t 20) (.t 19)⟩,
  ⟨(some 22), none, .ld false 1 (.t 21)⟩,
  ⟨(some 23), none, .mv (.t 5)⟩,
  ⟨(some 24), none, .fa 1 (.t 3)⟩,
  ⟨(some 25), none, .iaa 1 3 (.t 24) (.t 23)⟩,
  ⟨(some 26), none, .ld false 1 (.t 25)⟩,
  ⟨(some 27), none, .bin .lss (.t 22) (.t 26)⟩,
  ⟨(some 4), none, .mv (.t 27)⟩]
@[reducible] def i80_R5 : List Iop := [⟨(some 8), none, .mv (.t 5)⟩,
  ⟨(some 9), none, .bin .sub (.t 8) (.c (.int .i64 1))⟩,
  ⟨(some 5), none, .mv (.t 9)⟩]
@[reducible] def i80_L0 : IC := (.seq (.seq (.reg none i80_R2) (.cond (.t 7) .skip (.out 0))) (.seq (.block 1 (.seq (.reg (some []) i80_R3) (.cond (.t 18) (.seq (.reg (some []) i80_R4) .ret) .skip))) (.reg none i80_R5)))
@[reducible] def i80_R6 : List Iop := [⟨(some 4), none, .mv (.c (.bool false))⟩]
@[reducible] def i80_B : IC := (.seq (.reg none i80_R0) (.seq (.seq (.reg none i80_R1) (.block 0 (.loop i80_L0))) (.seq (.reg none i80_R6) .ret)))
@[reducible] def i80_V : List Nat := [0, 1, 2, 3, 4, 5, 7, 18]
def i80 : IFn := ⟨28, i80_V, [.tmp 4], i80_B⟩
theorem i80_ok : compF Go.Proofs.Try.prog i80_V Go.Proofs.Try.f80 = some i80 := by kernel_rfl
/-! funicular/funicularref08.num -/
@[reducible] def i81_R0 : List Iop := [⟨(some 2), none, .alloc [.int .i64 0, .int .i64 0, .str ⟨#[]⟩, .nil]⟩]
@[reducible] def i81_R1 : List Iop := [⟨(some 3), none, .mv (.t 0)⟩,
  ⟨(some 4), none, .build [.int .i64 0, .int .i64 0, .str ⟨#[]⟩, .nil] [(0, 1, (.c (.int .i64 1))), (1, 1, (.t 3))]⟩,
  ⟨none, none, .st 4 (.t 2) (.t 4)⟩]
@[reducible] def i81_B : IC := (.seq (.reg none i81_R0) (.seq (.reg none i81_R1) .ret))
@[reducible] def i81_V : List Nat := [0, 2]
def i81 : IFn := ⟨5, i81_V, [.cell 2 true 4], i81_B⟩
theorem i81_ok : compF Go.Proofs.Try.prog i81_V Go.Proofs.Try.f81 = some i81 := by kernel_rfl
/-! cmp.isNaN[string] -/
@[reducible] def i82_R0 : List Iop := [⟨(some 2), none, .mv (.c (.bool false))⟩]
@[reducible] def i82_R1 : List Iop := [⟨(some 3), none, .mv (.t 0)⟩,
  ⟨(some 4), none, .mv (.t 0)⟩,
  ⟨(some 5), none, .bin .neq (.t 3) (.t 4)⟩,
  ⟨(some 2), none, .mv (.t 5)⟩]
@[reducible] def i82_B : IC := (.seq (.reg none i82_R0) (.seq (.reg none i82_R1) .ret))
@[reducible] def i82_V : List Nat := [0, 2]
def i82 : IFn := ⟨6, i82_V, [.tmp 2], i82_B⟩
theorem i82_ok : compF Go.Proofs.Try.prog i82_V Go.Proofs.Try.f82 = some i82 := by kernel_rfl
def fnOf : Nat → Option IFn
  | 2 => some i2
  | 3 => some i3
  | 4 => some i4
  | 5 => some i5
  | 6 => some i6
  | 7 => some i7
  | 8 => some i8
  | 9 => some i9
  | 10 => some i10
  | 11 => some i11
  | 12 => some i12
  | 13 => some i13
  | 14 => some i14
  | 15 => some i15
  | 16 => some i16
  | 17 => some i17
  | 18 => some i18
  | 19 => some i19
  | 20 => some i20
  | 21 => some i21
  | 22 => some i22
  | 23 => some i23
  | 24 => some i24
  | 25 => some i25
  | 26 => some i26
  | 27 => some i27
  | 28 => some i28
  | 29 => some i29
  | 30 => some i30
  | 31 => some i31
  | 32 => some i32
  | 33 => some i33
  | 34 => some i34
  | 35 => some i35
  | 36 => some i36
  | 37 => some i37
  | 38 => some i38
  | 39 => some i39
  | 40 => some i40
  | 41 => some i41
  | 42 => some i42
  | 43 => some i43
  | 44 => some i44
  | 45 => some i45
  | 46 => some i46
  | 47 => some i47
  | 48 => some i48
  | 49 => some i49
  | 50 => some i50
  | 51 => some i51
  | 52 => some i52
  | 53 => some i53
  | 54 => some i54
  | 55 => some i55
  | 56 => some i56
  | 57 => some i57
  | 58 => some i58
  | 59 => some i59
  | 60 => some i60
  | 61 => some i61
  | 62 => some i62
  | 63 => some i63
  | 64 => some i64
  | 65 => some i65
  | 66 => some i66
  | 67 => some i67
  | 68 => some i68
  | 69 => some i69
  | 70 => some i70
  | 71 => some i71
  | 72 => some i72
  | 73 => some i73
  | 74 => some i74
  | 75 => some i75
  | 76 => some i76
  | 77 => some i77
  | 78 => some i78
  | 79 => some i79
  | 80 => some i80
  | 81 => some i81
  | 82 => some i82
  | _ => none
def fzOf : Nat → Bool
  | 46 => false
  | _ => true
noncomputable def cfg : Cfg := { P := Go.Proofs.Try.prog, fn := fnOf, fz := fzOf }
theorem fnOf_ok : ∀ f i, cfg.fn f = some i → ∃ fn V, cfg.P.funcs[f]? = some fn ∧ compF cfg.P V fn = some i ∧ V = i.live := by
  intro f i h
  change fnOf f = some i at h
  unfold fnOf at h
  split at h
  · obtain rfl := Option.some.inj h; exact ⟨_, _, Go.Proofs.Try.func2, i2_ok, rfl⟩
  · obtain rfl := Option.some.inj h; exact ⟨_, _, Go.Proofs.Try.func3, i3_ok, rfl⟩
  · obtain rfl := Option.some.inj h; exact ⟨_, _, Go.Proofs.Try.func4, i4_ok, rfl⟩
  · obtain rfl := Option.some.inj h; exact ⟨_, _, Go.Proofs.Try.func5, i5_ok, rfl⟩
  · obtain rfl := Option.some.inj h; exact ⟨_, _, Go.Proofs.Try.func6, i6_ok, rfl⟩
  · obtain rfl := Option.some.inj h; exact ⟨_, _, Go.Proofs.Try.func7, i7_ok, rfl⟩
  · obtain rfl := Option.some.inj h; exact ⟨_, _, Go.Proofs.Try.func8, i8_ok, rfl⟩
  · obtain rfl := Option.some.inj h; exact ⟨_, _, Go.Proofs.Try.func9, i9_ok, rfl⟩
  · obtain rfl := Option.some.inj h; exact ⟨_, _, Go.Proofs.Try.func10, i10_ok, rfl⟩
  · obtain rfl := Option.some.inj h; exact ⟨_, _, Go.Proofs.Try.func11, i11_ok, rfl⟩
  · obtain rfl := Option.some.inj h; exact ⟨_, _, Go.Proofs.Try.func12, i12_ok, rfl⟩
  · obtain rfl := Option.some.inj h; exact ⟨_, _, Go.Proofs.Try.func13, i13_ok, rfl⟩
  · obtain rfl := Option.some.inj h; exact ⟨_, _, Go.Proofs.Try.func14, i14_ok, rfl⟩
  · obtain rfl := Option.some.inj h; exact ⟨_, _, Go.Proofs.Try.func15, i15_ok, rfl⟩
  · obtain rfl := Option.some.inj h; exact ⟨_, _, Go.Proofs.Try.func16, i16_ok, rfl⟩
  · obtain rfl := Option.some.inj h; exact ⟨_, _, Go.Proofs.Try.func17, i17_ok, rfl⟩
  · obtain rfl := Option.some.inj h; exact ⟨_, _, Go.Proofs.Try.func18, i18_ok, rfl⟩
  · obtain rfl := Option.some.inj h; exact ⟨_, _, Go.Proofs.Try.func19, i19_ok, rfl⟩
  · obtain rfl := Option.some.inj h; exact ⟨_, _, Go.Proofs.Try.func20, i20_ok, rfl⟩
  · obtain rfl := Option.some.inj h; exact ⟨_, _, Go.Proofs.Try.func21, i21_ok, rfl⟩
  · obtain rfl := Option.some.inj h; exact ⟨_, _, Go.Proofs.Try.func22, i22_ok, rfl⟩
  · obtain rfl := Option.some.inj h; exact ⟨_, _, Go.Proofs.Try.func23, i23_ok, rfl⟩
  · obtain rfl := Option.some.inj h; exact ⟨_, _, Go.Proofs.Try.func24, i24_ok, rfl⟩
  · obtain rfl := Option.some.inj h; exact ⟨_, _, Go.Proofs.Try.func25, i25_ok, rfl⟩
  · obtain rfl := Option.some.inj h; exact ⟨_, _, Go.Proofs.Try.func26, i26_ok, rfl⟩
  · obtain rfl := Option.some.inj h; exact ⟨_, _, Go.Proofs.Try.func27, i27_ok, rfl⟩
  · obtain rfl := Option.some.inj h; exact ⟨_, _, Go.Proofs.Try.func28, i28_ok, rfl⟩
  · obtain rfl := Option.some.inj h; exact ⟨_, _, Go.Proofs.Try.func29, i29_ok, rfl⟩
  · obtain rfl := Option.some.inj h; exact ⟨_, _, Go.Proofs.Try.func30, i30_ok, rfl⟩
  · obtain rfl := Option.some.inj h; exact ⟨_, _, Go.Proofs.Try.func31, i31_ok, rfl⟩
  · obtain rfl := Option.some.inj h; exact ⟨_, _, Go.Proofs.Try.func32, i32_ok, rfl⟩
  · obtain rfl := Option.some.inj h; exact ⟨_, _, Go.Proofs.Try.func33, i33_ok, rfl⟩
  · obtain rfl := Option.some.inj h; exact ⟨_, _, Go.Proofs.Try.func34, i34_ok, rfl⟩
  · obtain rfl := Option.some.inj h; exact ⟨_, _, Go.Proofs.Try.func35, i35_ok, rfl⟩
  · obtain rfl := Option.some.inj h; exact ⟨_, _, Go.Proofs.Try.func36, i36_ok, rfl⟩
  · obtain rfl := Option.some.inj h; exact ⟨_, _, Go.Proofs.Try.func37, i37_ok, rfl⟩
  · obtain rfl := Option.some.inj h; exact ⟨_, _, Go.Proofs.Try.func38, i38_ok, rfl⟩
  · obtain rfl := Option.some.inj h; exact ⟨_, _, Go.Proofs.Try.func39, i39_ok, rfl⟩
  · obtain rfl := Option.some.inj h; exact ⟨_, _, Go.Proofs.Try.func40, i40_ok, rfl⟩
  · obtain rfl := Option.some.inj h; exact ⟨_, _, Go.Proofs.Try.func41, i41_ok, rfl⟩
  · obtain rfl := Option.some.inj h; exact ⟨_, _, Go.Proofs.Try.func42, i42_ok, rfl⟩
  · obtain rfl := Option.some.inj h; exact ⟨_, _, Go.Proofs.Try.func43, i43_ok, rfl⟩
  · obtain rfl := Option.some.inj h; exact ⟨_, _, Go.Proofs.Try.func44, i44_ok, rfl⟩
  · obtain rfl := Option.some.inj h; exact ⟨_, _, Go.Proofs.Try.func45, i45_ok, rfl⟩
  · obtain rfl := Option.some.inj h; exact ⟨_, _, Go.Proofs.Try.func46, i46_ok, rfl⟩
  · obtain rfl := Option.some.inj h; exact ⟨_, _, Go.Proofs.Try.func47, i47_ok, rfl⟩
  · obtain rfl := Option.some.inj h; exact ⟨_, _, Go.Proofs.Try.func48, i48_ok, rfl⟩
  · obtain rfl := Option.some.inj h; exact ⟨_, _, Go.Proofs.Try.func49, i49_ok, rfl⟩
  · obtain rfl := Option.some.inj h; exact ⟨_, _, Go.Proofs.Try.func50, i50_ok, rfl⟩
  · obtain rfl := Option.some.inj h; exact ⟨_, _, Go.Proofs.Try.func51, i51_ok, rfl⟩
  · obtain rfl := Option.some.inj h; exact ⟨_, _, Go.Proofs.Try.func52, i52_ok, rfl⟩
  · obtain rfl := Option.some.inj h; exact ⟨_, _, Go.Proofs.Try.func53, i53_ok, rfl⟩
  · obtain rfl := Option.some.inj h; exact ⟨_, _, Go.Proofs.Try.func54, i54_ok, rfl⟩
  · obtain rfl := Option.some.inj h; exact ⟨_, _, Go.Proofs.Try.func55, i55_ok, rfl⟩
  · obtain rfl := Option.some.inj h; exact ⟨_, _, Go.Proofs.Try.func56, i56_ok, rfl⟩
  · obtain rfl := Option.some.inj h; exact ⟨_, _, Go.Proofs.Try.func57, i57_ok, rfl⟩
  · obtain rfl := Option.some.inj h; exact ⟨_, _, Go.Proofs.Try.func58, i58_ok, rfl⟩
  · obtain rfl := Option.some.inj h; exact ⟨_, _, Go.Proofs.Try.func59, i59_ok, rfl⟩
  · obtain rfl := Option.some.inj h; exact ⟨_, _, Go.Proofs.Try.func60, i60_ok, rfl⟩
  · obtain rfl := Option.some.inj h; exact ⟨_, _, Go.Proofs.Try.func61, i61_ok, rfl⟩
  · obtain rfl := Option.some.inj h; exact ⟨_, _, Go.Proofs.Try.func62, i62_ok, rfl⟩
  · obtain rfl := Option.some.inj h; exact ⟨_, _, Go.Proofs.Try.func63, i63_ok, rfl⟩
  · obtain rfl := Option.some.inj h; exact ⟨_, _, Go.Proofs.Try.func64, i64_ok, rfl⟩
  · obtain rfl := Option.some.inj h; exact ⟨_, _, Go.Proofs.Try.func65, i65_ok, rfl⟩
  · obtain rfl := Option.some.inj h; exact ⟨_, _, Go.Proofs.Try.func66, i66_ok, rfl⟩
  · obtain rfl := Option.some.inj h; exact ⟨_, _, Go.Proofs.Try.func67, i67_ok, rfl⟩
  · obtain rfl := Option.some.inj h; exact ⟨_, _, Go.Proofs.Try.func68, i68_ok, rfl⟩
  · obtain rfl := Option.some.inj h; exact ⟨_, _, Go.Proofs.Try.func69, i69_ok, rfl⟩
  · obtain rfl := Option.some.inj h; exact ⟨_, _, Go.Proofs.Try.func70, i70_ok, rfl⟩
  · obtain rfl := Option.some.inj h; exact ⟨_, _, Go.Proofs.Try.func71, i71_ok, rfl⟩
  · obtain rfl := Option.some.inj h; exact ⟨_, _, Go.Proofs.Try.func72, i72_ok, rfl⟩
  · obtain rfl := Option.some.inj h; exact ⟨_, _, Go.Proofs.Try.func73, i73_ok, rfl⟩
  · obtain rfl := Option.some.inj h; exact ⟨_, _, Go.Proofs.Try.func74, i74_ok, rfl⟩
  · obtain rfl := Option.some.inj h; exact ⟨_, _, Go.Proofs.Try.func75, i75_ok, rfl⟩
  · obtain rfl := Option.some.inj h; exact ⟨_, _, Go.Proofs.Try.func76, i76_ok, rfl⟩
  · obtain rfl := Option.some.inj h; exact ⟨_, _, Go.Proofs.Try.func77, i77_ok, rfl⟩
  · obtain rfl := Option.some.inj h; exact ⟨_, _, Go.Proofs.Try.func78, i78_ok, rfl⟩
  · obtain rfl := Option.some.inj h; exact ⟨_, _, Go.Proofs.Try.func79, i79_ok, rfl⟩
  · obtain rfl := Option.some.inj h; exact ⟨_, _, Go.Proofs.Try.func80, i80_ok, rfl⟩
  · obtain rfl := Option.some.inj h; exact ⟨_, _, Go.Proofs.Try.func81, i81_ok, rfl⟩
  · obtain rfl := Option.some.inj h; exact ⟨_, _, Go.Proofs.Try.func82, i82_ok, rfl⟩
  · cases h
end Go.Proofs.Ytcmejocmohohpaa.R
