import Derived.Test.YtgoachcogmlhcaaRDefs
import Derived.Test.YtgoachcogmlhcaaProg
import Derived.KernelRfl
import Derived.Test.YtgoachcogmlhcaaRCg0
namespace Go.Proofs.Ytgoachcogmlhcaa.R
open Go
set_option maxRecDepth 100000
/-! The compact code, and that it is the program's. -/
/-! slices.Sort[[]int,int] -/
@[reducible] def i90_R0 : List Iop := [⟨(some 3), none, .mv (.t 0)⟩,
  ⟨(some 4), none, .lenl (.t 3)⟩,
  ⟨(some 2), none, .mv (.t 4)⟩]
@[reducible] def i90_R1 : List Iop := [⟨(some 5), none, .mv (.t 0)⟩,
  ⟨(some 6), none, .mv (.t 2)⟩,
  ⟨(some 7), none, .mv (.t 2)⟩,
  ⟨(some 8), none, .cvt .u64 (.t 7)⟩,
  ⟨(some 9), none, .call 92 [(.t 8)]⟩,
  ⟨(some 10), none, .call 91 [(.t 5), (.c (.int .i64 0)), (.t 6), (.t 9)]⟩]
@[reducible] def i90_B : IC := (.seq (.reg none i90_R0) (.reg none i90_R1))
@[reducible] def i90_V : List Nat := [0, 2]
def i90 : IFn := ⟨11, i90_V, [], i90_B⟩
theorem i90_ok : compF Go.Proofs.Try.prog i90_V Go.Proofs.Try.f90 = some i90 := by kernel_rfl
/-! slices.pdqsortOrdered[int] -/
@[reducible] def i91_R0 : List Iop := [⟨(some 8), none, .mv (.c (.bool true))⟩]
@[reducible] def i91_R1 : List Iop := [⟨(some 9), none, .mv (.c (.bool true))⟩]
@[reducible] def i91_R2 : List Iop := [⟨(some 19), none, .mv (.t 2)⟩,
  ⟨(some 20), none, .mv (.t 1)⟩,
  ⟨(some 21), none, .bin .sub (.t 19) (.t 20)⟩,
  ⟨(some 10), none, .mv (.t 21)⟩]
@[reducible] def i91_R3 : List Iop := [⟨(some 22), none, .mv (.t 10)⟩,
  ⟨(some 23), none, .bin .leq (.t 22) (.c (.int .i64 12))⟩]
@[reducible] def i91_R4 : List Iop := [⟨(some 24), none, .mv (.t 0)⟩,
  ⟨(some 25), none, .mv (.t 1)⟩,
  ⟨(some 26), none, .mv (.t 2)⟩,
  ⟨(some 27), none, .call 93 [(.t 24), (.t 25), (.t 26)]⟩]
@[reducible] def i91_R5 : List Iop := [⟨(some 28), none, .mv (.t 3)⟩,
  ⟨(some 29), none, .bin .eql (.t 28) (.c (.int .i64 0))⟩]
@[reducible] def i91_R6 : List Iop := [⟨(some 30), none, .mv (.t 0)⟩,
  ⟨(some 31), none, .mv (.t 1)⟩,
  ⟨(some 32), none, .mv (.t 2)⟩,
  ⟨(some 33), none, .call 94 [(.t 30), (.t 31), (.t 32)]⟩]
@[reducible] def i91_R7 : List Iop := [⟨(some 34), none, .mv (.t 8)⟩,
  ⟨(some 35), none, .nt (.t 34)⟩]
@[reducible] def i91_R8 : List Iop := [⟨(some 36), none, .mv (.t 0)⟩,
  ⟨(some 37), none, .mv (.t 1)⟩,
  ⟨(some 38), none, .mv (.t 2)⟩,
  ⟨(some 39), none, .call 95 [(.t 36), (.t 37), (.t 38)]⟩]
@[reducible] def i91_R9 : List Iop := [⟨(some 40), none, .mv (.t 3)⟩,
  ⟨(some 41), none, .bin .sub (.t 40) (.c (.int .i64 1))⟩,
  ⟨(some 3), none, .mv (.t 41)⟩]
@[reducible] def i91_R10 : List Iop := [⟨(some 43), none, .mv (.t 0)⟩,
  ⟨(some 44), none, .mv (.t 1)⟩,
  ⟨(some 45), none, .mv (.t 2)⟩,
  ⟨(some 46), none, .call 96 [(.t 43), (.t 44), (.t 45)]⟩,
  ⟨(some 42), none, .mv (.t 46)⟩,
  ⟨(some 47), none, .ext 0 (.t 42)⟩,
  ⟨(some 48), none, .ext 1 (.t 42)⟩,
  ⟨(some 11), none, .mv (.t 47)⟩,
  ⟨(some 12), none, .mv (.t 48)⟩]
@[reducible] def i91_R11 : List Iop := [⟨(some 49), none, .mv (.t 12)⟩,
  ⟨(some 50), none, .bin .eql (.t 49) (.c (.int .i64 2))⟩]
@[reducible] def i91_R12 : List Iop := [⟨(some 51), none, .mv (.t 0)⟩,
  ⟨(some 52), none, .mv (.t 1)⟩,
  ⟨(some 53), none, .mv (.t 2)⟩,
  ⟨(some 54), none, .call 97 [(.t 51), (.t 52), (.t 53)]⟩]
@[reducible] def i91_R13 : List Iop := [⟨(some 55), none, .mv (.t 2)⟩,
  ⟨(some 56), none, .bin .sub (.t 55) (.c (.int .i64 1))⟩,
  ⟨(some 57), none, .mv (.t 11)⟩,
  ⟨(some 58), none, .mv (.t 1)⟩,
  ⟨(some 59), none, .bin .sub (.t 57) (.t 58)⟩,
  ⟨(some 60), none, .bin .sub (.t 56) (.t 59)⟩,
  ⟨(some 11), none, .mv (.t 60)⟩]
@[reducible] def i91_R14 : List Iop := [⟨(some 12), none, .mv (.c (.int .i64 1))⟩]
@[reducible] def i91_R15 : List Iop := [⟨(some 61), none, .mv (.t 8)⟩,
  ⟨(some 62), none, .mv (.t 61)⟩,
  ⟨(some 63), (some (62, true)), .mv (.t 9)⟩,
  ⟨(some 64), none, .pick (.t 62) (.t 63) (.c (.bool false))⟩,
  ⟨(some 65), none, .mv (.t 64)⟩,
  ⟨(some 66), (some (65, true)), .mv (.t 12)⟩,
  ⟨(some 67), (some (65, true)), .bin .eql (.t 66) (.c (.int .i64 1))⟩,
  ⟨(some 68), none, .pick (.t 65) (.t 67) (.c (.bool false))⟩]
@[reducible] def i91_R16 : List Iop := [⟨(some 69), none, .mv (.t 0)⟩,
  ⟨(some 70), none, .mv (.t 1)⟩,
  ⟨(some 71), none, .mv (.t 2)⟩,
  ⟨(some 72), none, .call 98 [(.t 69), (.t 70), (.t 71)]⟩]
@[reducible] def i91_R17 : List Iop := [⟨(some 73), none, .mv (.t 1)⟩,
  ⟨(some 74), none, .bin .gtr (.t 73) (.c (.int .i64 0))⟩,
  ⟨(some 75), none, .mv (.t 74)⟩,
  ⟨(some 76), (some (75, true)), .mv (.t 0)⟩,
  ⟨(some 77), (some (75, true)), .mv (.t 1)⟩,
  ⟨(some 78), (some (75, true)), .bin .sub (.t 77) (.c (.int .i64 1))⟩,
  ⟨(some 79), (some (75, true)), .ias 1 (.t 76) (.t 78)⟩,
  ⟨(some 80), (some (75, true)), .ld false 1 (.t 79)⟩,
  ⟨(some 81), (some (75, true)), .mv (.t 0)⟩,
  ⟨(some 82), (some (75, true)), .mv (.t 11)⟩,
  ⟨(some 83), (some (75, true)), .ias 1 (.t 81) (.t 82)⟩,
  ⟨(some 84), (some (75, true)), .ld false 1 (.t 83)⟩,
  ⟨(some 85), (some (75, true)), .call 99 [(.t 80), (.t 84)]⟩,
  ⟨(some 86), (some (75, true)), .nt (.t 85)⟩,
  ⟨(some 87), none, .pick (.t 75) (.t 86) (.c (.bool false))⟩]
@[reducible] def i91_R18 : List Iop := [⟨(some 88), none, .mv (.t 0)⟩,
  ⟨(some 89), none, .mv (.t 1)⟩,
  ⟨(some 90), none, .mv (.t 2)⟩,
  ⟨(some 91), none, .mv (.t 11)⟩,
  ⟨(some 92), none, .call 100 [(.t 88), (.t 89), (.t 90), (.t 91)]⟩,
  ⟨(some 13), none, .mv (.t 92)⟩]
@[reducible] def i91_R19 : List Iop := [⟨(some 93), none, .mv (.t 13)⟩,
  ⟨(some 1), none, .mv (.t 93)⟩]
@[reducible] def i91_R20 : List Iop := [⟨(some 95), none, .mv (.t 0)⟩,
  ⟨(some 96), none, .mv (.t 1)⟩,
  ⟨(some 97), none, .mv (.t 2)⟩,
  ⟨(some 98), none, .mv (.t 11)⟩,
  ⟨(some 99), none, .call 101 [(.t 95), (.t 96), (.t 97), (.t 98)]⟩,
  ⟨(some 94), none, .mv (.t 99)⟩,
  ⟨(some 100), none, .ext 0 (.t 94)⟩,
  ⟨(some 101), none, .ext 1 (.t 94)⟩,
  ⟨(some 14), none, .mv (.t 100)⟩,
  ⟨(some 15), none, .mv (.t 101)⟩]
@[reducible] def i91_R21 : List Iop := [⟨(some 102), none, .mv (.t 15)⟩,
  ⟨(some 9), none, .mv (.t 102)⟩]
@[reducible] def i91_R22 : List Iop := [⟨(some 103), none, .mv (.t 14)⟩,
  ⟨(some 104), none, .mv (.t 1)⟩,
  ⟨(some 105), none, .bin .sub (.t 103) (.t 104)⟩,
  ⟨(some 106), none, .mv (.t 2)⟩,
  ⟨(some 107), none, .mv (.t 14)⟩,
  ⟨(some 108), none, .bin .sub (.t 106) (.t 107)⟩,
  ⟨(some 16), none, .mv (.t 105)⟩,
  ⟨(some 17), none, .mv (.t 108)⟩]
@[reducible] def i91_R23 : List Iop := [⟨(some 109), none, .mv (.t 10)⟩,
  ⟨(some 110), none, .bin .quo (.t 109) (.c (.int .i64 8))⟩,
  ⟨(some 18), none, .mv (.t 110)⟩]
@[reducible] def i91_R24 : List Iop := [⟨(some 111), none, .mv (.t 16)⟩,
  ⟨(some 112), none, .mv (.t 17)⟩,
  ⟨(some 113), none, .bin .lss (.t 111) (.t 112)⟩]
@[reducible] def i91_R25 : List Iop := [⟨(some 114), none, .mv (.t 16)⟩,
  ⟨(some 115), none, .mv (.t 18)⟩,
  ⟨(some 116), none, .bin .geq (.t 114) (.t 115)⟩,
  ⟨(some 8), none, .mv (.t 116)⟩]
@[reducible] def i91_R26 : List Iop := [⟨(some 117), none, .mv (.t 0)⟩,
  ⟨(some 118), none, .mv (.t 1)⟩,
  ⟨(some 119), none, .mv (.t 14)⟩,
  ⟨(some 120), none, .mv (.t 3)⟩,
  ⟨(some 121), none, .call 91 [(.t 117), (.t 118), (.t 119), (.t 120)]⟩]
@[reducible] def i91_R27 : List Iop := [⟨(some 122), none, .mv (.t 14)⟩,
  ⟨(some 123), none, .bin .add (.t 122) (.c (.int .i64 1))⟩,
  ⟨(some 1), none, .mv (.t 123)⟩]
@[reducible] def i91_R28 : List Iop := [⟨(some 124), none, .mv (.t 17)⟩,
  ⟨(some 125), none, .mv (.t 18)⟩,
  ⟨(some 126), none, .bin .geq (.t 124) (.t 125)⟩,
  ⟨(some 8), none, .mv (.t 126)⟩]
@[reducible] def i91_R29 : List Iop := [⟨(some 127), none, .mv (.t 0)⟩,
  ⟨(some 128), none, .mv (.t 14)⟩,
  ⟨(some 129), none, .bin .add (.t 128) (.c (.int .i64 1))⟩,
  ⟨(some 130), none, .mv (.t 2)⟩,
  ⟨(some 131), none, .mv (.t 3)⟩,
  ⟨(some 132), none, .call 91 [(.t 127), (.t 129), (.t 130), (.t 131)]⟩]
@[reducible] def i91_R30 : List Iop := [⟨(some 133), none, .mv (.t 14)⟩,
  ⟨(some 2), none, .mv (.t 133)⟩]
@[reducible] def i91_L0 : IC := (.block 1 (.seq (.reg none i91_R2) (.seq (.seq (.reg none i91_R3) (.cond (.t 23) (.seq (.reg none i91_R4) .ret) .skip)) (.seq (.seq (.reg none i91_R5) (.cond (.t 29) (.seq (.reg none i91_R6) .ret) .skip)) (.seq (.seq (.reg none i91_R7) (.cond (.t 35) (.seq (.reg none i91_R8) (.reg none i91_R9)) .skip)) (.seq (.reg none i91_R10) (.seq (.seq (.reg none i91_R11) (.cond (.t 50) (.seq (.reg none i91_R12) (.seq (.reg none i91_R13) (.reg none i91_R14))) .skip)) (.seq (.seq (.reg none i91_R15) (.cond (.t 68) (.seq (.reg none i91_R16) (.cond (.t 72) .ret .skip)) .skip)) (.seq (.seq (.reg (some []) i91_R17) (.cond (.t 87) (.seq (.reg none i91_R18) (.seq (.reg none i91_R19) (.out 1))) .skip)) (.seq (.reg none i91_R20) (.seq (.reg none i91_R21) (.seq (.reg none i91_R22) (.seq (.reg none i91_R23) (.seq (.reg none i91_R24) (.cond (.t 113) (.seq (.reg none i91_R25) (.seq (.reg none i91_R26) (.reg none i91_R27))) (.seq (.reg none i91_R28) (.seq (.reg none i91_R29) (.reg none i91_R30))))))))))))))))))
@[reducible] def i91_B : IC := (.seq (.reg none i91_R0) (.seq (.reg none i91_R1) (.block 0 (.loop i91_L0))))
@[reducible] def i91_V : List Nat := [0, 1, 2, 3, 8, 9, 10, 11, 12, 13, 14, 15, 16, 17, 18, 23, 29, 35, 50, 68, 72, 87, 113]
def i91 : IFn := ⟨134, i91_V, [], i91_B⟩
theorem i91_ok : compF Go.Proofs.Try.prog i91_V Go.Proofs.Try.f91 = some i91 := by kernel_rfl
/-! math/bits.Len -/
@[reducible] def i92_R0 : List Iop := [⟨(some 2), none, .mv (.c (.int .i64 0))⟩]
@[reducible] def i92_R1 : List Iop := [⟨(some 3), none, .mv (.t 0)⟩,
  ⟨(some 4), none, .cvt .u32 (.t 3)⟩,
  ⟨(some 5), none, .call 102 [(.t 4)]⟩,
  ⟨(some 2), none, .mv (.t 5)⟩]
@[reducible] def i92_R2 : List Iop := [⟨(some 6), none, .mv (.t 0)⟩,
  ⟨(some 7), none, .call 103 [(.t 6)]⟩,
  ⟨(some 2), none, .mv (.t 7)⟩]
@[reducible] def i92_B : IC := (.seq (.reg none i92_R0) (.seq (.cond (.c (.bool false)) (.seq (.reg none i92_R1) .ret) .skip) (.seq (.reg none i92_R2) .ret)))
@[reducible] def i92_V : List Nat := [0, 2]
def i92 : IFn := ⟨8, i92_V, [.tmp 2], i92_B⟩
theorem i92_ok : compF Go.Proofs.Try.prog i92_V Go.Proofs.Try.f92 = some i92 := by kernel_rfl
/-! slices.insertionSortOrdered[int] -/
@[reducible] def i93_R0 : List Iop := [⟨(some 8), none, .mv (.t 1)⟩,
  ⟨(some 9), none, .bin .add (.t 8) (.c (.int .i64 1))⟩,
  ⟨(some 6), none, .mv (.t 9)⟩]
@[reducible] def i93_R1 : List Iop := [⟨(some 10), none, .mv (.t 6)⟩,
  ⟨(some 11), none, .mv (.t 2)⟩,
  ⟨(some 12), none, .bin .lss (.t 10) (.t 11)⟩]
@[reducible] def i93_R2 : List Iop := [⟨(some 15), none, .mv (.t 6)⟩,
  ⟨(some 7), none, .mv (.t 15)⟩]
@[reducible] def i93_R3 : List Iop := [⟨(some 16), none, .mv (.t 7)⟩,
  ⟨(some 17), none, .mv (.t 1)⟩,
  ⟨(some 18), none, .bin .gtr (.t 16) (.t 17)⟩,
  ⟨(some 19), none, .mv (.t 18)⟩,
  ⟨(some 20), (some (19, true)), .mv (.t 0)⟩,
  ⟨(some 21), (some (19, true)), .mv (.t 7)⟩,
  ⟨(some 22), (some (19, true)), .ias 1 (.t 20) (.t 21)⟩,
  ⟨(some 23), (some (19, true)), .ld false 1 (.t 22)⟩,
  ⟨(some 24), (some (19, true)), .mv (.t 0)⟩,
  ⟨(some 25), (some (19, true)), .mv (.t 7)⟩,
  ⟨(some 26), (some (19, true)), .bin .sub (.t 25) (.c (.int .i64 1))⟩,
  ⟨(some 27), (some (19, true)), .ias 1 (.t 24) (.t 26)⟩,
  ⟨(some 28), (some (19, true)), .ld false 1 (.t 27)⟩,
  ⟨(some 29), (some (19, true)), .call 99 [(.t 23), (.t 28)]⟩,
  ⟨(some 30), none, .pick (.t 19) (.t 29) (.c (.bool false))⟩]
@[reducible] def i93_R4 : List Iop := [⟨(some 33), none, .mv (.t 0)⟩,
  ⟨(some 34), none, .mv (.t 7)⟩,
  ⟨(some 35), none, .mv (.t 0)⟩,
  ⟨(some 36), none, .mv (.t 7)⟩,
  ⟨(some 37), none, .bin .sub (.t 36) (.c (.int .i64 1))⟩,
  ⟨(some 38), none, .mv (.t 0)⟩,
  ⟨(some 39), none, .mv (.t 7)⟩,
  ⟨(some 40), none, .bin .sub (.t 39) (.c (.int .i64 1))⟩,
  ⟨(some 41), none, .ias 1 (.t 38) (.t 40)⟩,
  ⟨(some 42), none, .ld false 1 (.t 41)⟩,
  ⟨(some 43), none, .mv (.t 0)⟩,
  ⟨(some 44), none, .mv (.t 7)⟩,
  ⟨(some 45), none, .ias 1 (.t 43) (.t 44)⟩,
  ⟨(some 46), none, .ld false 1 (.t 45)⟩,
  ⟨(some 47), none, .ias 1 (.t 33) (.t 34)⟩,
  ⟨none, none, .st 1 (.t 47) (.t 42)⟩,
  ⟨(some 48), none, .ias 1 (.t 35) (.t 37)⟩,
  ⟨none, none, .st 1 (.t 48) (.t 46)⟩]
@[reducible] def i93_R5 : List Iop := [⟨(some 31), none, .mv (.t 7)⟩,
  ⟨(some 32), none, .bin .sub (.t 31) (.c (.int .i64 1))⟩,
  ⟨(some 7), none, .mv (.t 32)⟩]
@[reducible] def i93_L0 : IC := (.seq (.seq (.reg (some []) i93_R3) (.cond (.t 30) .skip (.out 2))) (.seq (.block 3 (.reg (some []) i93_R4)) (.reg none i93_R5)))
@[reducible] def i93_R6 : List Iop := [⟨(some 13), none, .mv (.t 6)⟩,
  ⟨(some 14), none, .bin .add (.t 13) (.c (.int .i64 1))⟩,
  ⟨(some 6), none, .mv (.t 14)⟩]
@[reducible] def i93_L1 : IC := (.seq (.seq (.reg none i93_R1) (.cond (.t 12) .skip (.out 0))) (.seq (.block 1 (.seq (.reg none i93_R2) (.block 2 (.loop i93_L0)))) (.reg none i93_R6)))
@[reducible] def i93_B : IC := (.seq (.reg none i93_R0) (.block 0 (.loop i93_L1)))
@[reducible] def i93_V : List Nat := [0, 1, 2, 6, 7, 12, 30]
def i93 : IFn := ⟨49, i93_V, [], i93_B⟩
theorem i93_ok : compF Go.Proofs.Try.prog i93_V Go.Proofs.Try.f93 = some i93 := by kernel_rfl
/-! slices.heapSortOrdered[int] -/
@[reducible] def i94_R0 : List Iop := [⟨(some 11), none, .mv (.t 1)⟩,
  ⟨(some 6), none, .mv (.t 11)⟩]
@[reducible] def i94_R1 : List Iop := [⟨(some 7), none, .mv (.c (.int .i64 0))⟩]
@[reducible] def i94_R2 : List Iop := [⟨(some 12), none, .mv (.t 2)⟩,
  ⟨(some 13), none, .mv (.t 1)⟩,
  ⟨(some 14), none, .bin .sub (.t 12) (.t 13)⟩,
  ⟨(some 8), none, .mv (.t 14)⟩]
@[reducible] def i94_R3 : List Iop := [⟨(some 15), none, .mv (.t 8)⟩,
  ⟨(some 16), none, .bin .sub (.t 15) (.c (.int .i64 1))⟩,
  ⟨(some 17), none, .bin .quo (.t 16) (.c (.int .i64 2))⟩,
  ⟨(some 9), none, .mv (.t 17)⟩]
@[reducible] def i94_R4 : List Iop := [⟨(some 18), none, .mv (.t 9)⟩,
  ⟨(some 19), none, .bin .geq (.t 18) (.c (.int .i64 0))⟩]
@[reducible] def i94_R5 : List Iop := [⟨(some 22), none, .mv (.t 0)⟩,
  ⟨(some 23), none, .mv (.t 9)⟩,
  ⟨(some 24), none, .mv (.t 8)⟩,
  ⟨(some 25), none, .mv (.t 6)⟩,
  ⟨(some 26), none, .call 104 [(.t 22), (.t 23), (.t 24), (.t 25)]⟩]
@[reducible] def i94_R6 : List Iop := [⟨(some 20), none, .mv (.t 9)⟩,
  ⟨(some 21), none, .bin .sub (.t 20) (.c (.int .i64 1))⟩,
  ⟨(some 9), none, .mv (.t 21)⟩]
@[reducible] def i94_L0 : IC := (.seq (.seq (.reg none i94_R4) (.cond (.t 19) .skip (.out 0))) (.seq (.block 1 (.reg none i94_R5)) (.reg none i94_R6)))
@[reducible] def i94_R7 : List Iop := [⟨(some 27), none, .mv (.t 8)⟩,
  ⟨(some 28), none, .bin .sub (.t 27) (.c (.int .i64 1))⟩,
  ⟨(some 10), none, .mv (.t 28)⟩]
@[reducible] def i94_R8 : List Iop := [⟨(some 29), none, .mv (.t 10)⟩,
  ⟨(some 30), none, .bin .geq (.t 29) (.c (.int .i64 0))⟩]
@[reducible] def i94_R9 : List Iop := [⟨(some 33), none, .mv (.t 0)⟩,
  ⟨(some 34), none, .mv (.t 6)⟩,
  ⟨(some 35), none, .mv (.t 0)⟩,
  ⟨(some 36), none, .mv (.t 6)⟩,
  ⟨(some 37), none, .mv (.t 10)⟩,
  ⟨(some 38), none, .bin .add (.t 36) (.t 37)⟩,
  ⟨(some 39), none, .mv (.t 0)⟩,
  ⟨(some 40), none, .mv (.t 6)⟩,
  ⟨(some 41), none, .mv (.t 10)⟩,
  ⟨(some 42), none, .bin .add (.t 40) (.t 41)⟩,
  ⟨(some 43), none, .ias 1 (.t 39) (.t 42)⟩,
  ⟨(some 44), none, .ld false 1 (.t 43)⟩,
  ⟨(some 45), none, .mv (.t 0)⟩,
  ⟨(some 46), none, .mv (.t 6)⟩,
  ⟨(some 47), none, .ias 1 (.t 45) (.t 46)⟩,
  ⟨(some 48), none, .ld false 1 (.t 47)⟩,
  ⟨(some 49), none, .ias 1 (.t 33) (.t 34)⟩,
  ⟨none, none, .st 1 (.t 49) (.t 44)⟩,
  ⟨(some 50), none, .ias 1 (.t 35) (.t 38)⟩,
  ⟨none, none, .st 1 (.t 50) (.t 48)⟩]
@[reducible] def i94_R10 : List Iop := [⟨(some 51), none, .mv (.t 0)⟩,
  ⟨(some 52), none, .mv (.t 7)⟩,
  ⟨(some 53), none, .mv (.t 10)⟩,
  ⟨(some 54), none, .mv (.t 6)⟩,
  ⟨(some 55), none, .call 104 [(.t 51), (.t 52), (.t 53), (.t 54)]⟩]
@[reducible] def i94_R11 : List Iop := [⟨(some 31), none, .mv (.t 10)⟩,
  ⟨(some 32), none, .bin .sub (.t 31) (.c (.int .i64 1))⟩,
  ⟨(some 10), none, .mv (.t 32)⟩]
@[reducible] def i94_L1 : IC := (.seq (.seq (.reg none i94_R8) (.cond (.t 30) .skip (.out 2))) (.seq (.block 3 (.seq (.reg (some []) i94_R9) (.reg none i94_R10))) (.reg none i94_R11)))
@[reducible] def i94_B : IC := (.seq (.reg none i94_R0) (.seq (.reg none i94_R1) (.seq (.reg none i94_R2) (.seq (.seq (.reg none i94_R3) (.block 0 (.loop i94_L0))) (.seq (.reg none i94_R7) (.block 2 (.loop i94_L1)))))))
@[reducible] def i94_V : List Nat := [0, 1, 2, 6, 7, 8, 9, 10, 19, 30]
def i94 : IFn := ⟨56, i94_V, [], i94_B⟩
theorem i94_ok : compF Go.Proofs.Try.prog i94_V Go.Proofs.Try.f94 = some i94 := by kernel_rfl
/-! slices.breakPatternsOrdered[int] -/
@[reducible] def i95_R0 : List Iop := [⟨(some 11), none, .mv (.t 2)⟩,
  ⟨(some 12), none, .mv (.t 1)⟩,
  ⟨(some 13), none, .bin .sub (.t 11) (.t 12)⟩,
  ⟨(some 6), none, .mv (.t 13)⟩]
@[reducible] def i95_R1 : List Iop := [⟨(some 14), none, .mv (.t 6)⟩,
  ⟨(some 15), none, .bin .geq (.t 14) (.c (.int .i64 8))⟩]
@[reducible] def i95_R2 : List Iop := [⟨(some 16), none, .mv (.t 6)⟩,
  ⟨(some 17), none, .cvt .u64 (.t 16)⟩,
  ⟨(some 7), none, .alloc [.int .u64 0]⟩,
  ⟨none, none, .st 1 (.t 7) (.t 17)⟩]
@[reducible] def i95_R3 : List Iop := [⟨(some 18), none, .mv (.t 6)⟩,
  ⟨(some 19), none, .call 105 [(.t 18)]⟩,
  ⟨(some 8), none, .mv (.t 19)⟩]
@[reducible] def i95_R4 : List Iop := [⟨(some 20), none, .mv (.t 1)⟩,
  ⟨(some 21), none, .mv (.t 6)⟩,
  ⟨(some 22), none, .bin .quo (.t 21) (.c (.int .i64 4))⟩,
  ⟨(some 23), none, .bin .mul (.t 22) (.c (.int .i64 2))⟩,
  ⟨(some 24), none, .bin .add (.t 20) (.t 23)⟩,
  ⟨(some 25), none, .bin .sub (.t 24) (.c (.int .i64 1))⟩,
  ⟨(some 9), none, .mv (.t 25)⟩]
@[reducible] def i95_R5 : List Iop := [⟨(some 26), none, .mv (.t 9)⟩,
  ⟨(some 27), none, .mv (.t 1)⟩,
  ⟨(some 28), none, .mv (.t 6)⟩,
  ⟨(some 29), none, .bin .quo (.t 28) (.c (.int .i64 4))⟩,
  ⟨(some 30), none, .bin .mul (.t 29) (.c (.int .i64 2))⟩,
  ⟨(some 31), none, .bin .add (.t 27) (.t 30)⟩,
  ⟨(some 32), none, .bin .add (.t 31) (.c (.int .i64 1))⟩,
  ⟨(some 33), none, .bin .leq (.t 26) (.t 32)⟩]
@[reducible] def i95_R6 : List Iop := [⟨(some 36), none, .call 106 [(.t 7)]⟩,
  ⟨(some 37), none, .mv (.t 8)⟩,
  ⟨(some 38), none, .bin .sub (.t 37) (.c (.int .u64 1))⟩,
  ⟨(some 39), none, .bin .and (.t 36) (.t 38)⟩,
  ⟨(some 40), none, .cvt .i64 (.t 39)⟩,
  ⟨(some 10), none, .mv (.t 40)⟩]
@[reducible] def i95_R7 : List Iop := [⟨(some 41), none, .mv (.t 10)⟩,
  ⟨(some 42), none, .mv (.t 6)⟩,
  ⟨(some 43), none, .bin .geq (.t 41) (.t 42)⟩]
@[reducible] def i95_R8 : List Iop := [⟨(some 44), none, .mv (.t 10)⟩,
  ⟨(some 45), none, .mv (.t 6)⟩,
  ⟨(some 46), none, .bin .sub (.t 44) (.t 45)⟩,
  ⟨(some 10), none, .mv (.t 46)⟩]
@[reducible] def i95_R9 : List Iop := [⟨(some 47), none, .mv (.t 0)⟩,
  ⟨(some 48), none, .mv (.t 9)⟩,
  ⟨(some 49), none, .mv (.t 0)⟩,
  ⟨(some 50), none, .mv (.t 1)⟩,
  ⟨(some 51), none, .mv (.t 10)⟩,
  ⟨(some 52), none, .bin .add (.t 50) (.t 51)⟩,
  ⟨(some 53), none, .mv (.t 0)⟩,
  ⟨(some 54), none, .mv (.t 1)⟩,
  ⟨(some 55), none, .mv (.t 10)⟩,
  ⟨(some 56), none, .bin .add (.t 54) (.t 55)⟩,
  ⟨(some 57), none, .ias 1 (.t 53) (.t 56)⟩,
  ⟨(some 58), none, .ld false 1 (.t 57)⟩,
  ⟨(some 59), none, .mv (.t 0)⟩,
  ⟨(some 60), none, .mv (.t 9)⟩,
  ⟨(some 61), none, .ias 1 (.t 59) (.t 60)⟩,
  ⟨(some 62), none, .ld false 1 (.t 61)⟩,
  ⟨(some 63), none, .ias 1 (.t 47) (.t 48)⟩,
  ⟨none, none, .st 1 (.t 63) (.t 58)⟩,
  ⟨(some 64), none, .ias 1 (.t 49) (.t 52)⟩,
  ⟨none, none, .st 1 (.t 64) (.t 62)⟩]
@[reducible] def i95_R10 : List Iop := [⟨(some 34), none, .mv (.t 9)⟩,
  ⟨(some 35), none, .bin .add (.t 34) (.c (.int .i64 1))⟩,
  ⟨(some 9), none, .mv (.t 35)⟩]
@[reducible] def i95_L0 : IC := (.seq (.seq (.reg none i95_R5) (.cond (.t 33) .skip (.out 0))) (.seq (.block 1 (.seq (.reg none i95_R6) (.seq (.seq (.reg none i95_R7) (.cond (.t 43) (.reg none i95_R8) .skip)) (.reg (some []) i95_R9)))) (.reg none i95_R10)))
@[reducible] def i95_B : IC := (.seq (.reg none i95_R0) (.seq (.reg none i95_R1) (.cond (.t 15) (.seq (.reg none i95_R2) (.seq (.reg none i95_R3) (.seq (.reg none i95_R4) (.block 0 (.loop i95_L0))))) .skip)))
@[reducible] def i95_V : List Nat := [0, 1, 2, 6, 7, 8, 9, 10, 15, 33, 43]
def i95 : IFn := ⟨65, i95_V, [], i95_B⟩
theorem i95_ok : compF Go.Proofs.Try.prog i95_V Go.Proofs.Try.f95 = some i95 := by kernel_rfl
/-! slices.choosePivotOrdered[int] -/
@[reducible] def i96_R0 : List Iop := [⟨(some 6), none, .mv (.c (.int .i64 0))⟩,
  ⟨(some 7), none, .mv (.c (.int .i64 0))⟩]
@[reducible] def i96_R1 : List Iop := [⟨(some 13), none, .mv (.t 2)⟩,
  ⟨(some 14), none, .mv (.t 1)⟩,
  ⟨(some 15), none, .bin .sub (.t 13) (.t 14)⟩,
  ⟨(some 8), none, .mv (.t 15)⟩]
@[reducible] def i96_R2 : List Iop := [⟨(some 9), none, .alloc [.int .i64 0]⟩]
@[reducible] def i96_R3 : List Iop := [⟨(some 16), none, .mv (.t 1)⟩,
  ⟨(some 17), none, .mv (.t 8)⟩,
  ⟨(some 18), none, .bin .quo (.t 17) (.c (.int .i64 4))⟩,
  ⟨(some 19), none, .bin .mul (.t 18) (.c (.int .i64 1))⟩,
  ⟨(some 20), none, .bin .add (.t 16) (.t 19)⟩,
  ⟨(some 10), none, .mv (.t 20)⟩]
@[reducible] def i96_R4 : List Iop := [⟨(some 21), none, .mv (.t 1)⟩,
  ⟨(some 22), none, .mv (.t 8)⟩,
  ⟨(some 23), none, .bin .quo (.t 22) (.c (.int .i64 4))⟩,
  ⟨(some 24), none, .bin .mul (.t 23) (.c (.int .i64 2))⟩,
  ⟨(some 25), none, .bin .add (.t 21) (.t 24)⟩,
  ⟨(some 11), none, .mv (.t 25)⟩]
@[reducible] def i96_R5 : List Iop := [⟨(some 26), none, .mv (.t 1)⟩,
  ⟨(some 27), none, .mv (.t 8)⟩,
  ⟨(some 28), none, .bin .quo (.t 27) (.c (.int .i64 4))⟩,
  ⟨(some 29), none, .bin .mul (.t 28) (.c (.int .i64 3))⟩,
  ⟨(some 30), none, .bin .add (.t 26) (.t 29)⟩,
  ⟨(some 12), none, .mv (.t 30)⟩]
@[reducible] def i96_R6 : List Iop := [⟨(some 31), none, .mv (.t 8)⟩,
  ⟨(some 32), none, .bin .geq (.t 31) (.c (.int .i64 8))⟩]
@[reducible] def i96_R7 : List Iop := [⟨(some 33), none, .mv (.t 8)⟩,
  ⟨(some 34), none, .bin .geq (.t 33) (.c (.int .i64 50))⟩]
@[reducible] def i96_R8 : List Iop := [⟨(some 35), none, .mv (.t 0)⟩,
  ⟨(some 36), none, .mv (.t 10)⟩,
  ⟨(some 37), none, .call 107 [(.t 35), (.t 36), (.t 9)]⟩,
  ⟨(some 10), none, .mv (.t 37)⟩]
@[reducible] def i96_R9 : List Iop := [⟨(some 38), none, .mv (.t 0)⟩,
  ⟨(some 39), none, .mv (.t 11)⟩,
  ⟨(some 40), none, .call 107 [(.t 38), (.t 39), (.t 9)]⟩,
  ⟨(some 11), none, .mv (.t 40)⟩]
@[reducible] def i96_R10 : List Iop := [⟨(some 41), none, .mv (.t 0)⟩,
  ⟨(some 42), none, .mv (.t 12)⟩,
  ⟨(some 43), none, .call 107 [(.t 41), (.t 42), (.t 9)]⟩,
  ⟨(some 12), none, .mv (.t 43)⟩]
@[reducible] def i96_R11 : List Iop := [⟨(some 44), none, .mv (.t 0)⟩,
  ⟨(some 45), none, .mv (.t 10)⟩,
  ⟨(some 46), none, .mv (.t 11)⟩,
  ⟨(some 47), none, .mv (.t 12)⟩,
  ⟨(some 48), none, .call 108 [(.t 44), (.t 45), (.t 46), (.t 47), (.t 9)]⟩,
  ⟨(some 11), none, .mv (.t 48)⟩]
@[reducible] def i96_R12 : List Iop := [⟨(some 49), none, .ld false 1 (.t 9)⟩]
@[reducible] def i96_R13 : List Iop := [⟨(some 52), none, .bin .eql (.t 49) (.c (.int .i64 0))⟩,
  ⟨(some 51), none, .mv (.t 52)⟩]
@[reducible] def i96_R14 : List Iop := [⟨(some 53), none, .mv (.t 11)⟩,
  ⟨(some 6), none, .mv (.t 53)⟩,
  ⟨(some 7), none, .mv (.c (.int .i64 1))⟩]
@[reducible] def i96_R15 : List Iop := [⟨(some 55), none, .bin .eql (.t 49) (.c (.int .i64 12))⟩,
  ⟨(some 54), none, .mv (.t 55)⟩]
@[reducible] def i96_R16 : List Iop := [⟨(some 56), none, .mv (.t 11)⟩,
  ⟨(some 6), none, .mv (.t 56)⟩,
  ⟨(some 7), none, .mv (.c (.int .i64 2))⟩]
@[reducible] def i96_R17 : List Iop := [⟨(some 50), none, .mv (.t 11)⟩,
  ⟨(some 6), none, .mv (.t 50)⟩,
  ⟨(some 7), none, .mv (.c (.int .i64 0))⟩]
@[reducible] def i96_B : IC := (.seq (.reg none i96_R0) (.seq (.reg none i96_R1) (.seq (.reg none i96_R2) (.seq (.reg none i96_R3) (.seq (.reg none i96_R4) (.seq (.reg none i96_R5) (.seq (.seq (.reg none i96_R6) (.cond (.t 32) (.seq (.seq (.reg none i96_R7) (.cond (.t 34) (.seq (.reg none i96_R8) (.seq (.reg none i96_R9) (.reg none i96_R10))) .skip)) (.reg none i96_R11)) .skip)) (.seq (.reg none i96_R12) (.block 0 (.seq (.reg none i96_R13) (.cond (.t 51) (.seq (.reg none i96_R14) .ret) (.seq (.reg none i96_R15) (.cond (.t 54) (.seq (.reg none i96_R16) .ret) (.seq (.reg none i96_R17) .ret))))))))))))))
@[reducible] def i96_V : List Nat := [0, 1, 2, 6, 7, 8, 9, 10, 11, 12, 32, 34, 49, 51, 54]
def i96 : IFn := ⟨57, i96_V, [.tmp 6, .tmp 7], i96_B⟩
theorem i96_ok : compF Go.Proofs.Try.prog i96_V Go.Proofs.Try.f96 = some i96 := by kernel_rfl
/-! slices.reverseRangeOrdered[int] -/
@[reducible] def i97_R0 : List Iop := [⟨(some 8), none, .mv (.t 1)⟩,
  ⟨(some 6), none, .mv (.t 8)⟩]
@[reducible] def i97_R1 : List Iop := [⟨(some 9), none, .mv (.t 2)⟩,
  ⟨(some 10), none, .bin .sub (.t 9) (.c (.int .i64 1))⟩,
  ⟨(some 7), none, .mv (.t 10)⟩]
@[reducible] def i97_R2 : List Iop := [⟨(some 11), none, .mv (.t 6)⟩,
  ⟨(some 12), none, .mv (.t 7)⟩,
  ⟨(some 13), none, .bin .lss (.t 11) (.t 12)⟩]
@[reducible] def i97_R3 : List Iop := [⟨(some 14), none, .mv (.t 0)⟩,
  ⟨(some 15), none, .mv (.t 6)⟩,
  ⟨(some 16), none, .mv (.t 0)⟩,
  ⟨(some 17), none, .mv (.t 7)⟩,
  ⟨(some 18), none, .mv (.t 0)⟩,
  ⟨(some 19), none, .mv (.t 7)⟩,
  ⟨(some 20), none, .ias 1 (.t 18) (.t 19)⟩,
  ⟨(some 21), none, .ld false 1 (.t 20)⟩,
  ⟨(some 22), none, .mv (.t 0)⟩,
  ⟨(some 23), none, .mv (.t 6)⟩,
  ⟨(some 24), none, .ias 1 (.t 22) (.t 23)⟩,
  ⟨(some 25), none, .ld false 1 (.t 24)⟩,
  ⟨(some 26), none, .ias 1 (.t 14) (.t 15)⟩,
  ⟨none, none, .st 1 (.t 26) (.t 21)⟩,
  ⟨(some 27), none, .ias 1 (.t 16) (.t 17)⟩,
  ⟨none, none, .st 1 (.t 27) (.t 25)⟩]
@[reducible] def i97_R4 : List Iop := [⟨(some 28), none, .mv (.t 6)⟩,
  ⟨(some 29), none, .bin .add (.t 28) (.c (.int .i64 1))⟩,
  ⟨(some 6), none, .mv (.t 29)⟩]
@[reducible] def i97_R5 : List Iop := [⟨(some 30), none, .mv (.t 7)⟩,
  ⟨(some 31), none, .bin .sub (.t 30) (.c (.int .i64 1))⟩,
  ⟨(some 7), none, .mv (.t 31)⟩]
@[reducible] def i97_L0 : IC := (.seq (.seq (.reg none i97_R2) (.cond (.t 13) .skip (.out 0))) (.block 1 (.seq (.reg (some []) i97_R3) (.seq (.reg none i97_R4) (.reg none i97_R5)))))
@[reducible] def i97_B : IC := (.seq (.reg none i97_R0) (.seq (.reg none i97_R1) (.block 0 (.loop i97_L0))))
@[reducible] def i97_V : List Nat := [0, 1, 2, 6, 7, 13]
def i97 : IFn := ⟨32, i97_V, [], i97_B⟩
theorem i97_ok : compF Go.Proofs.Try.prog i97_V Go.Proofs.Try.f97 = some i97 := by kernel_rfl
/-! slices.partialInsertionSortOrdered[int] -/
@[reducible] def i98_R0 : List Iop := [⟨(some 6), none, .mv (.c (.bool false))⟩]
@[reducible] def i98_R1 : List Iop := [⟨(some 11), none, .mv (.t 1)⟩,
  ⟨(some 12), none, .bin .add (.t 11) (.c (.int .i64 1))⟩,
  ⟨(some 7), none, .mv (.t 12)⟩]
@[reducible] def i98_R2 : List Iop := [⟨(some 8), none, .mv (.c (.int .i64 0))⟩]
@[reducible] def i98_R3 : List Iop := [⟨(some 13), none, .mv (.t 8)⟩,
  ⟨(some 14), none, .bin .lss (.t 13) (.c (.int .i64 5))⟩]
@[reducible] def i98_R4 : List Iop := [⟨(some 17), none, .mv (.t 7)⟩,
  ⟨(some 18), none, .mv (.t 2)⟩,
  ⟨(some 19), none, .bin .lss (.t 17) (.t 18)⟩,
  ⟨(some 20), none, .mv (.t 19)⟩,
  ⟨(some 21), (some (20, true)), .mv (.t 0)⟩,
  ⟨(some 22), (some (20, true)), .mv (.t 7)⟩,
  ⟨(some 23), (some (20, true)), .ias 1 (.t 21) (.t 22)⟩,
  ⟨(some 24), (some (20, true)), .ld false 1 (.t 23)⟩,
  ⟨(some 25), (some (20, true)), .mv (.t 0)⟩,
  ⟨(some 26), (some (20, true)), .mv (.t 7)⟩,
  ⟨(some 27), (some (20, true)), .bin .sub (.t 26) (.c (.int .i64 1))⟩,
  ⟨(some 28), (some (20, true)), .ias 1 (.t 25) (.t 27)⟩,
  ⟨(some 29), (some (20, true)), .ld false 1 (.t 28)⟩,
  ⟨(some 30), (some (20, true)), .call 99 [(.t 24), (.t 29)]⟩,
  ⟨(some 31), (some (20, true)), .nt (.t 30)⟩,
  ⟨(some 32), none, .pick (.t 20) (.t 31) (.c (.bool false))⟩]
@[reducible] def i98_R5 : List Iop := [⟨(some 33), none, .mv (.t 7)⟩,
  ⟨(some 34), none, .bin .add (.t 33) (.c (.int .i64 1))⟩,
  ⟨(some 7), none, .mv (.t 34)⟩]
@[reducible] def i98_L0 : IC := (.seq (.seq (.reg (some []) i98_R4) (.cond (.t 32) .skip (.out 2))) (.block 3 (.reg none i98_R5)))
@[reducible] def i98_R6 : List Iop := [⟨(some 35), none, .mv (.t 7)⟩,
  ⟨(some 36), none, .mv (.t 2)⟩,
  ⟨(some 37), none, .bin .eql (.t 35) (.t 36)⟩]
@[reducible] def i98_R7 : List Iop := [⟨(some 6), none, .mv (.c (.bool true))⟩]
@[reducible] def i98_R8 : List Iop := [⟨(some 38), none, .mv (.t 2)⟩,
  ⟨(some 39), none, .mv (.t 1)⟩,
  ⟨(some 40), none, .bin .sub (.t 38) (.t 39)⟩,
  ⟨(some 41), none, .bin .lss (.t 40) (.c (.int .i64 50))⟩]
@[reducible] def i98_R9 : List Iop := [⟨(some 6), none, .mv (.c (.bool false))⟩]
@[reducible] def i98_R10 : List Iop := [⟨(some 42), none, .mv (.t 0)⟩,
  ⟨(some 43), none, .mv (.t 7)⟩,
  ⟨(some 44), none, .mv (.t 0)⟩,
  ⟨(some 45), none, .mv (.t 7)⟩,
  ⟨(some 46), none, .bin .sub (.t 45) (.c (.int .i64 1))⟩,
  ⟨(some 47), none, .mv (.t 0)⟩,
  ⟨(some 48), none, .mv (.t 7)⟩,
  ⟨(some 49), none, .bin .sub (.t 48) (.c (.int .i64 1))⟩,
  ⟨(some 50), none, .ias 1 (.t 47) (.t 49)⟩,
  ⟨(some 51), none, .ld false 1 (.t 50)⟩,
  ⟨(some 52), none, .mv (.t 0)⟩,
  ⟨(some 53), none, .mv (.t 7)⟩,
  ⟨(some 54), none, .ias 1 (.t 52) (.t 53)⟩,
  ⟨(some 55), none, .ld false 1 (.t 54)⟩,
  ⟨(some 56), none, .ias 1 (.t 42) (.t 43)⟩,
  ⟨none, none, .st 1 (.t 56) (.t 51)⟩,
  ⟨(some 57), none, .ias 1 (.t 44) (.t 46)⟩,
  ⟨none, none, .st 1 (.t 57) (.t 55)⟩]
@[reducible] def i98_R11 : List Iop := [⟨(some 58), none, .mv (.t 7)⟩,
  ⟨(some 59), none, .mv (.t 1)⟩,
  ⟨(some 60), none, .bin .sub (.t 58) (.t 59)⟩,
  ⟨(some 61), none, .bin .geq (.t 60) (.c (.int .i64 2))⟩]
@[reducible] def i98_R12 : List Iop := [⟨(some 62), none, .mv (.t 7)⟩,
  ⟨(some 63), none, .bin .sub (.t 62) (.c (.int .i64 1))⟩,
  ⟨(some 9), none, .mv (.t 63)⟩]
@[reducible] def i98_R13 : List Iop := [⟨(some 64), none, .mv (.t 9)⟩,
  ⟨(some 65), none, .bin .geq (.t 64) (.c (.int .i64 1))⟩]
@[reducible] def i98_R14 : List Iop := [⟨(some 68), none, .mv (.t 0)⟩,
  ⟨(some 69), none, .mv (.t 9)⟩,
  ⟨(some 70), none, .ias 1 (.t 68) (.t 69)⟩,
  ⟨(some 71), none, .ld false 1 (.t 70)⟩,
  ⟨(some 72), none, .mv (.t 0)⟩,
  ⟨(some 73), none, .mv (.t 9)⟩,
  ⟨(some 74), none, .bin .sub (.t 73) (.c (.int .i64 1))⟩,
  ⟨(some 75), none, .ias 1 (.t 72) (.t 74)⟩,
  ⟨(some 76), none, .ld false 1 (.t 75)⟩,
  ⟨(some 77), none, .call 99 [(.t 71), (.t 76)]⟩,
  ⟨(some 78), none, .nt (.t 77)⟩]
@[reducible] def i98_R15 : List Iop := [⟨(some 79), none, .mv (.t 0)⟩,
  ⟨(some 80), none, .mv (.t 9)⟩,
  ⟨(some 81), none, .mv (.t 0)⟩,
  ⟨(some 82), none, .mv (.t 9)⟩,
  ⟨(some 83), none, .bin .sub (.t 82) (.c (.int .i64 1))⟩,
  ⟨(some 84), none, .mv (.t 0)⟩,
  ⟨(some 85), none, .mv (.t 9)⟩,
  ⟨(some 86), none, .bin .sub (.t 85) (.c (.int .i64 1))⟩,
  ⟨(some 87), none, .ias 1 (.t 84) (.t 86)⟩,
  ⟨(some 88), none, .ld false 1 (.t 87)⟩,
  ⟨(some 89), none, .mv (.t 0)⟩,
  ⟨(some 90), none, .mv (.t 9)⟩,
  ⟨(some 91), none, .ias 1 (.t 89) (.t 90)⟩,
  ⟨(some 92), none, .ld false 1 (.t 91)⟩,
  ⟨(some 93), none, .ias 1 (.t 79) (.t 80)⟩,
  ⟨none, none, .st 1 (.t 93) (.t 88)⟩,
  ⟨(some 94), none, .ias 1 (.t 81) (.t 83)⟩,
  ⟨none, none, .st 1 (.t 94) (.t 92)⟩]
@[reducible] def i98_R16 : List Iop := [⟨(some 66), none, .mv (.t 9)⟩,
  ⟨(some 67), none, .bin .sub (.t 66) (.c (.int .i64 1))⟩,
  ⟨(some 9), none, .mv (.t 67)⟩]
@[reducible] def i98_L1 : IC := (.seq (.seq (.reg none i98_R13) (.cond (.t 65) .skip (.out 4))) (.seq (.block 5 (.seq (.seq (.reg (some []) i98_R14) (.cond (.t 78) (.out 4) .skip)) (.reg (some []) i98_R15))) (.reg none i98_R16)))
@[reducible] def i98_R17 : List Iop := [⟨(some 95), none, .mv (.t 2)⟩,
  ⟨(some 96), none, .mv (.t 7)⟩,
  ⟨(some 97), none, .bin .sub (.t 95) (.t 96)⟩,
  ⟨(some 98), none, .bin .geq (.t 97) (.c (.int .i64 2))⟩]
@[reducible] def i98_R18 : List Iop := [⟨(some 99), none, .mv (.t 7)⟩,
  ⟨(some 100), none, .bin .add (.t 99) (.c (.int .i64 1))⟩,
  ⟨(some 10), none, .mv (.t 100)⟩]
@[reducible] def i98_R19 : List Iop := [⟨(some 101), none, .mv (.t 10)⟩,
  ⟨(some 102), none, .mv (.t 2)⟩,
  ⟨(some 103), none, .bin .lss (.t 101) (.t 102)⟩]
@[reducible] def i98_R20 : List Iop := [⟨(some 106), none, .mv (.t 0)⟩,
  ⟨(some 107), none, .mv (.t 10)⟩,
  ⟨(some 108), none, .ias 1 (.t 106) (.t 107)⟩,
  ⟨(some 109), none, .ld false 1 (.t 108)⟩,
  ⟨(some 110), none, .mv (.t 0)⟩,
  ⟨(some 111), none, .mv (.t 10)⟩,
  ⟨(some 112), none, .bin .sub (.t 111) (.c (.int .i64 1))⟩,
  ⟨(some 113), none, .ias 1 (.t 110) (.t 112)⟩,
  ⟨(some 114), none, .ld false 1 (.t 113)⟩,
  ⟨(some 115), none, .call 99 [(.t 109), (.t 114)]⟩,
  ⟨(some 116), none, .nt (.t 115)⟩]
@[reducible] def i98_R21 : List Iop := [⟨(some 117), none, .mv (.t 0)⟩,
  ⟨(some 118), none, .mv (.t 10)⟩,
  ⟨(some 119), none, .mv (.t 0)⟩,
  ⟨(some 120), none, .mv (.t 10)⟩,
  ⟨(some 121), none, .bin .sub (.t 120) (.c (.int .i64 1))⟩,
  ⟨(some 122), none, .mv (.t 0)⟩,
  ⟨(some 123), none, .mv (.t 10)⟩,
  ⟨(some 124), none, .bin .sub (.t 123) (.c (.int .i64 1))⟩,
  ⟨(some 125), none, .ias 1 (.t 122) (.t 124)⟩,
  ⟨(some 126), none, .ld false 1 (.t 125)⟩,
  ⟨(some 127), none, .mv (.t 0)⟩,
  ⟨(some 128), none, .mv (.t 10)⟩,
  ⟨(some 129), none, .ias 1 (.t 127) (.t 128)⟩,
  ⟨(some 130), none, .ld false 1 (.t 129)⟩,
  ⟨(some 131), none, .ias 1 (.t 117) (.t 118)⟩,
  ⟨none, none, .st 1 (.t 131) (.t 126)⟩,
  ⟨(some 132), none, .ias 1 (.t 119) (.t 121)⟩,
  ⟨none, none, .st 1 (.t 132) (.t 130)⟩]
@[reducible] def i98_R22 : List Iop := [⟨(some 104), none, .mv (.t 10)⟩,
  ⟨(some 105), none, .bin .add (.t 104) (.c (.int .i64 1))⟩,
  ⟨(some 10), none, .mv (.t 105)⟩]
@[reducible] def i98_L2 : IC := (.seq (.seq (.reg none i98_R19) (.cond (.t 103) .skip (.out 6))) (.seq (.block 7 (.seq (.seq (.reg (some []) i98_R20) (.cond (.t 116) (.out 6) .skip)) (.reg (some []) i98_R21))) (.reg none i98_R22)))
@[reducible] def i98_R23 : List Iop := [⟨(some 15), none, .mv (.t 8)⟩,
  ⟨(some 16), none, .bin .add (.t 15) (.c (.int .i64 1))⟩,
  ⟨(some 8), none, .mv (.t 16)⟩]
@[reducible] def i98_L3 : IC := (.seq (.seq (.reg none i98_R3) (.cond (.t 14) .skip (.out 0))) (.seq (.block 1 (.seq (.block 2 (.loop i98_L0)) (.seq (.seq (.reg none i98_R6) (.cond (.t 37) (.seq (.reg none i98_R7) .ret) .skip)) (.seq (.seq (.reg none i98_R8) (.cond (.t 41) (.seq (.reg none i98_R9) .ret) .skip)) (.seq (.reg (some []) i98_R10) (.seq (.seq (.reg none i98_R11) (.cond (.t 61) (.seq (.reg none i98_R12) (.block 4 (.loop i98_L1))) .skip)) (.seq (.reg none i98_R17) (.cond (.t 98) (.seq (.reg none i98_R18) (.block 6 (.loop i98_L2))) .skip)))))))) (.reg none i98_R23)))
@[reducible] def i98_R24 : List Iop := [⟨(some 6), none, .mv (.c (.bool false))⟩]
@[reducible] def i98_B : IC := (.seq (.reg none i98_R0) (.seq (.reg none i98_R1) (.seq (.seq (.reg none i98_R2) (.block 0 (.loop i98_L3))) (.seq (.reg none i98_R24) .ret))))
@[reducible] def i98_V : List Nat := [0, 1, 2, 6, 7, 8, 9, 10, 14, 32, 37, 41, 61, 65, 78, 98, 103, 116]
def i98 : IFn := ⟨133, i98_V, [.tmp 6], i98_B⟩
theorem i98_ok : compF Go.Proofs.Try.prog i98_V Go.Proofs.Try.f98 = some i98 := by kernel_rfl
/-! cmp.Less[int] -/
@[reducible] def i99_R0 : List Iop := [⟨(some 4), none, .mv (.c (.bool false))⟩]
@[reducible] def i99_R1 : List Iop := [⟨(some 5), none, .mv (.t 0)⟩,
  ⟨(some 6), none, .call 109 [(.t 5)]⟩,
  ⟨(some 7), none, .mv (.t 6)⟩,
  ⟨(some 8), (some (7, true)), .mv (.t 1)⟩,
  ⟨(some 9), (some (7, true)), .call 109 [(.t 8)]⟩,
  ⟨(some 10), (some (7, true)), .nt (.t 9)⟩,
  ⟨(some 11), none, .pick (.t 7) (.t 10) (.c (.bool false))⟩,
  ⟨(some 12), none, .mv (.t 11)⟩,
  ⟨(some 13), (some (12, false)), .mv (.t 0)⟩,
  ⟨(some 14), (some (12, false)), .mv (.t 1)⟩,
  ⟨(some 15), (some (12, false)), .bin .lss (.t 13) (.t 14)⟩,
  ⟨(some 16), none, .pick (.t 12) (.c (.bool true)) (.t 15)⟩,
  ⟨(some 4), none, .mv (.t 16)⟩]
@[reducible] def i99_B : IC := (.seq (.reg none i99_R0) (.seq (.reg none i99_R1) .ret))
@[reducible] def i99_V : List Nat := [0, 1, 4]
def i99 : IFn := ⟨17, i99_V, [.tmp 4], i99_B⟩
theorem i99_ok : compF Go.Proofs.Try.prog i99_V Go.Proofs.Try.f99 = some i99 := by kernel_rfl
/-! slices.partitionEqualOrdered[int] -/
@[reducible] def i100_R0 : List Iop := [⟨(some 8), none, .mv (.c (.int .i64 0))⟩]
@[reducible] def i100_R1 : List Iop := [⟨(some 11), none, .mv (.t 0)⟩,
  ⟨(some 12), none, .mv (.t 1)⟩,
  ⟨(some 13), none, .mv (.t 0)⟩,
  ⟨(some 14), none, .mv (.t 3)⟩,
  ⟨(some 15), none, .mv (.t 0)⟩,
  ⟨(some 16), none, .mv (.t 3)⟩,
  ⟨(some 17), none, .ias 1 (.t 15) (.t 16)⟩,
  ⟨(some 18), none, .ld false 1 (.t 17)⟩,
  ⟨(some 19), none, .mv (.t 0)⟩,
  ⟨(some 20), none, .mv (.t 1)⟩,
  ⟨(some 21), none, .ias 1 (.t 19) (.t 20)⟩,
  ⟨(some 22), none, .ld false 1 (.t 21)⟩,
  ⟨(some 23), none, .ias 1 (.t 11) (.t 12)⟩,
  ⟨none, none, .st 1 (.t 23) (.t 18)⟩,
  ⟨(some 24), none, .ias 1 (.t 13) (.t 14)⟩,
  ⟨none, none, .st 1 (.t 24) (.t 22)⟩]
@[reducible] def i100_R2 : List Iop := [⟨(some 25), none, .mv (.t 1)⟩,
  ⟨(some 26), none, .bin .add (.t 25) (.c (.int .i64 1))⟩,
  ⟨(some 27), none, .mv (.t 2)⟩,
  ⟨(some 28), none, .bin .sub (.t 27) (.c (.int .i64 1))⟩,
  ⟨(some 9), none, .mv (.t 26)⟩,
  ⟨(some 10), none, .mv (.t 28)⟩]
@[reducible] def i100_R3 : List Iop := [⟨(some 29), none, .mv (.t 9)⟩,
  ⟨(some 30), none, .mv (.t 10)⟩,
  ⟨(some 31), none, .bin .leq (.t 29) (.t 30)⟩,
  ⟨(some 32), none, .mv (.t 31)⟩,
  ⟨(some 33), (some (32, true)), .mv (.t 0)⟩,
  ⟨(some 34), (some (32, true)), .mv (.t 1)⟩,
  ⟨(some 35), (some (32, true)), .ias 1 (.t 33) (.t 34)⟩,
  ⟨(some 36), (some (32, true)), .ld false 1 (.t 35)⟩,
  ⟨(some 37), (some (32, true)), .mv (.t 0)⟩,
  ⟨(some 38), (some (32, true)), .mv (.t 9)⟩,
  ⟨(some 39), (some (32, true)), .ias 1 (.t 37) (.t 38)⟩,
  ⟨(some 40), (some (32, true)), .ld false 1 (.t 39)⟩,
  ⟨(some 41), (some (32, true)), .call 99 [(.t 36), (.t 40)]⟩,
  ⟨(some 42), (some (32, true)), .nt (.t 41)⟩,
  ⟨(some 43), none, .pick (.t 32) (.t 42) (.c (.bool false))⟩]
@[reducible] def i100_R4 : List Iop := [⟨(some 44), none, .mv (.t 9)⟩,
  ⟨(some 45), none, .bin .add (.t 44) (.c (.int .i64 1))⟩,
  ⟨(some 9), none, .mv (.t 45)⟩]
@[reducible] def i100_L0 : IC := (.seq (.seq (.reg (some []) i100_R3) (.cond (.t 43) .skip (.out 2))) (.block 3 (.reg none i100_R4)))
@[reducible] def i100_R5 : List Iop := [⟨(some 46), none, .mv (.t 9)⟩,
  ⟨(some 47), none, .mv (.t 10)⟩,
  ⟨(some 48), none, .bin .leq (.t 46) (.t 47)⟩,
  ⟨(some 49), none, .mv (.t 48)⟩,
  ⟨(some 50), (some (49, true)), .mv (.t 0)⟩,
  ⟨(some 51), (some (49, true)), .mv (.t 1)⟩,
  ⟨(some 52), (some (49, true)), .ias 1 (.t 50) (.t 51)⟩,
  ⟨(some 53), (some (49, true)), .ld false 1 (.t 52)⟩,
  ⟨(some 54), (some (49, true)), .mv (.t 0)⟩,
  ⟨(some 55), (some (49, true)), .mv (.t 10)⟩,
  ⟨(some 56), (some (49, true)), .ias 1 (.t 54) (.t 55)⟩,
  ⟨(some 57), (some (49, true)), .ld false 1 (.t 56)⟩,
  ⟨(some 58), (some (49, true)), .call 99 [(.t 53), (.t 57)]⟩,
  ⟨(some 59), none, .pick (.t 49) (.t 58) (.c (.bool false))⟩]
@[reducible] def i100_R6 : List Iop := [⟨(some 60), none, .mv (.t 10)⟩,
  ⟨(some 61), none, .bin .sub (.t 60) (.c (.int .i64 1))⟩,
  ⟨(some 10), none, .mv (.t 61)⟩]
@[reducible] def i100_L1 : IC := (.seq (.seq (.reg (some []) i100_R5) (.cond (.t 59) .skip (.out 4))) (.block 5 (.reg none i100_R6)))
@[reducible] def i100_R7 : List Iop := [⟨(some 62), none, .mv (.t 9)⟩,
  ⟨(some 63), none, .mv (.t 10)⟩,
  ⟨(some 64), none, .bin .gtr (.t 62) (.t 63)⟩]
@[reducible] def i100_R8 : List Iop := [⟨(some 65), none, .mv (.t 0)⟩,
  ⟨(some 66), none, .mv (.t 9)⟩,
  ⟨(some 67), none, .mv (.t 0)⟩,
  ⟨(some 68), none, .mv (.t 10)⟩,
  ⟨(some 69), none, .mv (.t 0)⟩,
  ⟨(some 70), none, .mv (.t 10)⟩,
  ⟨(some 71), none, .ias 1 (.t 69) (.t 70)⟩,
  ⟨(some 72), none, .ld false 1 (.t 71)⟩,
  ⟨(some 73), none, .mv (.t 0)⟩,
  ⟨(some 74), none, .mv (.t 9)⟩,
  ⟨(some 75), none, .ias 1 (.t 73) (.t 74)⟩,
  ⟨(some 76), none, .ld false 1 (.t 75)⟩,
  ⟨(some 77), none, .ias 1 (.t 65) (.t 66)⟩,
  ⟨none, none, .st 1 (.t 77) (.t 72)⟩,
  ⟨(some 78), none, .ias 1 (.t 67) (.t 68)⟩,
  ⟨none, none, .st 1 (.t 78) (.t 76)⟩]
@[reducible] def i100_R9 : List Iop := [⟨(some 79), none, .mv (.t 9)⟩,
  ⟨(some 80), none, .bin .add (.t 79) (.c (.int .i64 1))⟩,
  ⟨(some 9), none, .mv (.t 80)⟩]
@[reducible] def i100_R10 : List Iop := [⟨(some 81), none, .mv (.t 10)⟩,
  ⟨(some 82), none, .bin .sub (.t 81) (.c (.int .i64 1))⟩,
  ⟨(some 10), none, .mv (.t 82)⟩]
@[reducible] def i100_L2 : IC := (.block 1 (.seq (.block 2 (.loop i100_L0)) (.seq (.block 4 (.loop i100_L1)) (.seq (.seq (.reg none i100_R7) (.cond (.t 64) (.out 0) .skip)) (.seq (.reg (some []) i100_R8) (.seq (.reg none i100_R9) (.reg none i100_R10)))))))
@[reducible] def i100_R11 : List Iop := [⟨(some 83), none, .mv (.t 9)⟩,
  ⟨(some 8), none, .mv (.t 83)⟩]
@[reducible] def i100_B : IC := (.seq (.reg none i100_R0) (.seq (.reg (some []) i100_R1) (.seq (.reg none i100_R2) (.seq (.block 0 (.loop i100_L2)) (.seq (.reg none i100_R11) .ret)))))
@[reducible] def i100_V : List Nat := [0, 1, 2, 3, 8, 9, 10, 43, 59, 64]
def i100 : IFn := ⟨84, i100_V, [.tmp 8], i100_B⟩
theorem i100_ok : compF Go.Proofs.Try.prog i100_V Go.Proofs.Try.f100 = some i100 := by kernel_rfl
/-! slices.partitionOrdered[int] -/
@[reducible] def i101_R0 : List Iop := [⟨(some 8), none, .mv (.c (.int .i64 0))⟩,
  ⟨(some 9), none, .mv (.c (.bool false))⟩]
@[reducible] def i101_R1 : List Iop := [⟨(some 12), none, .mv (.t 0)⟩,
  ⟨(some 13), none, .mv (.t 1)⟩,
  ⟨(some 14), none, .mv (.t 0)⟩,
  ⟨(some 15), none, .mv (.t 3)⟩,
  ⟨(some 16), none, .mv (.t 0)⟩,
  ⟨(some 17), none, .mv (.t 3)⟩,
  ⟨(some 18), none, .ias 1 (.t 16) (.t 17)⟩,
  ⟨(some 19), none, .ld false 1 (.t 18)⟩,
  ⟨(some 20), none, .mv (.t 0)⟩,
  ⟨(some 21), none, .mv (.t 1)⟩,
  ⟨(some 22), none, .ias 1 (.t 20) (.t 21)⟩,
  ⟨(some 23), none, .ld false 1 (.t 22)⟩,
  ⟨(some 24), none, .ias 1 (.t 12) (.t 13)⟩,
  ⟨none, none, .st 1 (.t 24) (.t 19)⟩,
  ⟨(some 25), none, .ias 1 (.t 14) (.t 15)⟩,
  ⟨none, none, .st 1 (.t 25) (.t 23)⟩]
@[reducible] def i101_R2 : List Iop := [⟨(some 26), none, .mv (.t 1)⟩,
  ⟨(some 27), none, .bin .add (.t 26) (.c (.int .i64 1))⟩,
  ⟨(some 28), none, .mv (.t 2)⟩,
  ⟨(some 29), none, .bin .sub (.t 28) (.c (.int .i64 1))⟩,
  ⟨(some 10), none, .mv (.t 27)⟩,
  ⟨(some 11), none, .mv (.t 29)⟩]
@[reducible] def i101_R3 : List Iop := [⟨(some 30), none, .mv (.t 10)⟩,
  ⟨(some 31), none, .mv (.t 11)⟩,
  ⟨(some 32), none, .bin .leq (.t 30) (.t 31)⟩,
  ⟨(some 33), none, .mv (.t 32)⟩,
  ⟨(some 34), (some (33, true)), .mv (.t 0)⟩,
  ⟨(some 35), (some (33, true)), .mv (.t 10)⟩,
  ⟨(some 36), (some (33, true)), .ias 1 (.t 34) (.t 35)⟩,
  ⟨(some 37), (some (33, true)), .ld false 1 (.t 36)⟩,
  ⟨(some 38), (some (33, true)), .mv (.t 0)⟩,
  ⟨(some 39), (some (33, true)), .mv (.t 1)⟩,
  ⟨(some 40), (some (33, true)), .ias 1 (.t 38) (.t 39)⟩,
  ⟨(some 41), (some (33, true)), .ld false 1 (.t 40)⟩,
  ⟨(some 42), (some (33, true)), .call 99 [(.t 37), (.t 41)]⟩,
  ⟨(some 43), none, .pick (.t 33) (.t 42) (.c (.bool false))⟩]
@[reducible] def i101_R4 : List Iop := [⟨(some 44), none, .mv (.t 10)⟩,
  ⟨(some 45), none, .bin .add (.t 44) (.c (.int .i64 1))⟩,
  ⟨(some 10), none, .mv (.t 45)⟩]
@[reducible] def i101_L0 : IC := (.seq (.seq (.reg (some []) i101_R3) (.cond (.t 43) .skip (.out 0))) (.block 1 (.reg none i101_R4)))
@[reducible] def i101_R5 : List Iop := [⟨(some 46), none, .mv (.t 10)⟩,
  ⟨(some 47), none, .mv (.t 11)⟩,
  ⟨(some 48), none, .bin .leq (.t 46) (.t 47)⟩,
  ⟨(some 49), none, .mv (.t 48)⟩,
  ⟨(some 50), (some (49, true)), .mv (.t 0)⟩,
  ⟨(some 51), (some (49, true)), .mv (.t 11)⟩,
  ⟨(some 52), (some (49, true)), .ias 1 (.t 50) (.t 51)⟩,
  ⟨(some 53), (some (49, true)), .ld false 1 (.t 52)⟩,
  ⟨(some 54), (some (49, true)), .mv (.t 0)⟩,
  ⟨(some 55), (some (49, true)), .mv (.t 1)⟩,
  ⟨(some 56), (some (49, true)), .ias 1 (.t 54) (.t 55)⟩,
  ⟨(some 57), (some (49, true)), .ld false 1 (.t 56)⟩,
  ⟨(some 58), (some (49, true)), .call 99 [(.t 53), (.t 57)]⟩,
  ⟨(some 59), (some (49, true)), .nt (.t 58)⟩,
  ⟨(some 60), none, .pick (.t 49) (.t 59) (.c (.bool false))⟩]
@[reducible] def i101_R6 : List Iop := [⟨(some 61), none, .mv (.t 11)⟩,
  ⟨(some 62), none, .bin .sub (.t 61) (.c (.int .i64 1))⟩,
  ⟨(some 11), none, .mv (.t 62)⟩]
@[reducible] def i101_L1 : IC := (.seq (.seq (.reg (some []) i101_R5) (.cond (.t 60) .skip (.out 2))) (.block 3 (.reg none i101_R6)))
@[reducible] def i101_R7 : List Iop := [⟨(some 63), none, .mv (.t 10)⟩,
  ⟨(some 64), none, .mv (.t 11)⟩,
  ⟨(some 65), none, .bin .gtr (.t 63) (.t 64)⟩]
@[reducible] def i101_R8 : List Iop := [⟨(some 66), none, .mv (.t 0)⟩,
  ⟨(some 67), none, .mv (.t 11)⟩,
  ⟨(some 68), none, .mv (.t 0)⟩,
  ⟨(some 69), none, .mv (.t 1)⟩,
  ⟨(some 70), none, .mv (.t 0)⟩,
  ⟨(some 71), none, .mv (.t 1)⟩,
  ⟨(some 72), none, .ias 1 (.t 70) (.t 71)⟩,
  ⟨(some 73), none, .ld false 1 (.t 72)⟩,
  ⟨(some 74), none, .mv (.t 0)⟩,
  ⟨(some 75), none, .mv (.t 11)⟩,
  ⟨(some 76), none, .ias 1 (.t 74) (.t 75)⟩,
  ⟨(some 77), none, .ld false 1 (.t 76)⟩,
  ⟨(some 78), none, .ias 1 (.t 66) (.t 67)⟩,
  ⟨none, none, .st 1 (.t 78) (.t 73)⟩,
  ⟨(some 79), none, .ias 1 (.t 68) (.t 69)⟩,
  ⟨none, none, .st 1 (.t 79) (.t 77)⟩]
@[reducible] def i101_R9 : List Iop := [⟨(some 80), none, .mv (.t 11)⟩,
  ⟨(some 8), none, .mv (.t 80)⟩,
  ⟨(some 9), none, .mv (.c (.bool true))⟩]
@[reducible] def i101_R10 : List Iop := [⟨(some 81), none, .mv (.t 0)⟩,
  ⟨(some 82), none, .mv (.t 10)⟩,
  ⟨(some 83), none, .mv (.t 0)⟩,
  ⟨(some 84), none, .mv (.t 11)⟩,
  ⟨(some 85), none, .mv (.t 0)⟩,
  ⟨(some 86), none, .mv (.t 11)⟩,
  ⟨(some 87), none, .ias 1 (.t 85) (.t 86)⟩,
  ⟨(some 88), none, .ld false 1 (.t 87)⟩,
  ⟨(some 89), none, .mv (.t 0)⟩,
  ⟨(some 90), none, .mv (.t 10)⟩,
  ⟨(some 91), none, .ias 1 (.t 89) (.t 90)⟩,
  ⟨(some 92), none, .ld false 1 (.t 91)⟩,
  ⟨(some 93), none, .ias 1 (.t 81) (.t 82)⟩,
  ⟨none, none, .st 1 (.t 93) (.t 88)⟩,
  ⟨(some 94), none, .ias 1 (.t 83) (.t 84)⟩,
  ⟨none, none, .st 1 (.t 94) (.t 92)⟩]
@[reducible] def i101_R11 : List Iop := [⟨(some 95), none, .mv (.t 10)⟩,
  ⟨(some 96), none, .bin .add (.t 95) (.c (.int .i64 1))⟩,
  ⟨(some 10), none, .mv (.t 96)⟩]
@[reducible] def i101_R12 : List Iop := [⟨(some 97), none, .mv (.t 11)⟩,
  ⟨(some 98), none, .bin .sub (.t 97) (.c (.int .i64 1))⟩,
  ⟨(some 11), none, .mv (.t 98)⟩]
@[reducible] def i101_R13 : List Iop := [⟨(some 99), none, .mv (.t 10)⟩,
  ⟨(some 100), none, .mv (.t 11)⟩,
  ⟨(some 101), none, .bin .leq (.t 99) (.t 100)⟩,
  ⟨(some 102), none, .mv (.t 101)⟩,
  ⟨(some 103), (some (102, true)), .mv (.t 0)⟩,
  ⟨(some 104), (some (102, true)), .mv (.t 10)⟩,
  ⟨(some 105), (some (102, true)), .ias 1 (.t 103) (.t 104)⟩,
  ⟨(some 106), (some (102, true)), .ld false 1 (.t 105)⟩,
  ⟨(some 107), (some (102, true)), .mv (.t 0)⟩,
  ⟨(some 108), (some (102, true)), .mv (.t 1)⟩,
  ⟨(some 109), (some (102, true)), .ias 1 (.t 107) (.t 108)⟩,
  ⟨(some 110), (some (102, true)), .ld false 1 (.t 109)⟩,
  ⟨(some 111), (some (102, true)), .call 99 [(.t 106), (.t 110)]⟩,
  ⟨(some 112), none, .pick (.t 102) (.t 111) (.c (.bool false))⟩]
@[reducible] def i101_R14 : List Iop := [⟨(some 113), none, .mv (.t 10)⟩,
  ⟨(some 114), none, .bin .add (.t 113) (.c (.int .i64 1))⟩,
  ⟨(some 10), none, .mv (.t 114)⟩]
@[reducible] def i101_L2 : IC := (.seq (.seq (.reg (some []) i101_R13) (.cond (.t 112) .skip (.out 6))) (.block 7 (.reg none i101_R14)))
@[reducible] def i101_R15 : List Iop := [⟨(some 115), none, .mv (.t 10)⟩,
  ⟨(some 116), none, .mv (.t 11)⟩,
  ⟨(some 117), none, .bin .leq (.t 115) (.t 116)⟩,
  ⟨(some 118), none, .mv (.t 117)⟩,
  ⟨(some 119), (some (118, true)), .mv (.t 0)⟩,
  ⟨(some 120), (some (118, true)), .mv (.t 11)⟩,
  ⟨(some 121), (some (118, true)), .ias 1 (.t 119) (.t 120)⟩,
  ⟨(some 122), (some (118, true)), .ld false 1 (.t 121)⟩,
  ⟨(some 123), (some (118, true)), .mv (.t 0)⟩,
  ⟨(some 124), (some (118, true)), .mv (.t 1)⟩,
  ⟨(some 125), (some (118, true)), .ias 1 (.t 123) (.t 124)⟩,
  ⟨(some 126), (some (118, true)), .ld false 1 (.t 125)⟩,
  ⟨(some 127), (some (118, true)), .call 99 [(.t 122), (.t 126)]⟩,
  ⟨(some 128), (some (118, true)), .nt (.t 127)⟩,
  ⟨(some 129), none, .pick (.t 118) (.t 128) (.c (.bool false))⟩]
@[reducible] def i101_R16 : List Iop := [⟨(some 130), none, .mv (.t 11)⟩,
  ⟨(some 131), none, .bin .sub (.t 130) (.c (.int .i64 1))⟩,
  ⟨(some 11), none, .mv (.t 131)⟩]
@[reducible] def i101_L3 : IC := (.seq (.seq (.reg (some []) i101_R15) (.cond (.t 129) .skip (.out 8))) (.block 9 (.reg none i101_R16)))
@[reducible] def i101_R17 : List Iop := [⟨(some 132), none, .mv (.t 10)⟩,
  ⟨(some 133), none, .mv (.t 11)⟩,
  ⟨(some 134), none, .bin .gtr (.t 132) (.t 133)⟩]
@[reducible] def i101_R18 : List Iop := [⟨(some 135), none, .mv (.t 0)⟩,
  ⟨(some 136), none, .mv (.t 10)⟩,
  ⟨(some 137), none, .mv (.t 0)⟩,
  ⟨(some 138), none, .mv (.t 11)⟩,
  ⟨(some 139), none, .mv (.t 0)⟩,
  ⟨(some 140), none, .mv (.t 11)⟩,
  ⟨(some 141), none, .ias 1 (.t 139) (.t 140)⟩,
  ⟨(some 142), none, .ld false 1 (.t 141)⟩,
  ⟨(some 143), none, .mv (.t 0)⟩,
  ⟨(some 144), none, .mv (.t 10)⟩,
  ⟨(some 145), none, .ias 1 (.t 143) (.t 144)⟩,
  ⟨(some 146), none, .ld false 1 (.t 145)⟩,
  ⟨(some 147), none, .ias 1 (.t 135) (.t 136)⟩,
  ⟨none, none, .st 1 (.t 147) (.t 142)⟩,
  ⟨(some 148), none, .ias 1 (.t 137) (.t 138)⟩,
  ⟨none, none, .st 1 (.t 148) (.t 146)⟩]
@[reducible] def i101_R19 : List Iop := [⟨(some 149), none, .mv (.t 10)⟩,
  ⟨(some 150), none, .bin .add (.t 149) (.c (.int .i64 1))⟩,
  ⟨(some 10), none, .mv (.t 150)⟩]
@[reducible] def i101_R20 : List Iop := [⟨(some 151), none, .mv (.t 11)⟩,
  ⟨(some 152), none, .bin .sub (.t 151) (.c (.int .i64 1))⟩,
  ⟨(some 11), none, .mv (.t 152)⟩]
@[reducible] def i101_L4 : IC := (.block 5 (.seq (.block 6 (.loop i101_L2)) (.seq (.block 8 (.loop i101_L3)) (.seq (.seq (.reg none i101_R17) (.cond (.t 134) (.out 4) .skip)) (.seq (.reg (some []) i101_R18) (.seq (.reg none i101_R19) (.reg none i101_R20)))))))
@[reducible] def i101_R21 : List Iop := [⟨(some 153), none, .mv (.t 0)⟩,
  ⟨(some 154), none, .mv (.t 11)⟩,
  ⟨(some 155), none, .mv (.t 0)⟩,
  ⟨(some 156), none, .mv (.t 1)⟩,
  ⟨(some 157), none, .mv (.t 0)⟩,
  ⟨(some 158), none, .mv (.t 1)⟩,
  ⟨(some 159), none, .ias 1 (.t 157) (.t 158)⟩,
  ⟨(some 160), none, .ld false 1 (.t 159)⟩,
  ⟨(some 161), none, .mv (.t 0)⟩,
  ⟨(some 162), none, .mv (.t 11)⟩,
  ⟨(some 163), none, .ias 1 (.t 161) (.t 162)⟩,
  ⟨(some 164), none, .ld false 1 (.t 163)⟩,
  ⟨(some 165), none, .ias 1 (.t 153) (.t 154)⟩,
  ⟨none, none, .st 1 (.t 165) (.t 160)⟩,
  ⟨(some 166), none, .ias 1 (.t 155) (.t 156)⟩,
  ⟨none, none, .st 1 (.t 166) (.t 164)⟩]
@[reducible] def i101_R22 : List Iop := [⟨(some 167), none, .mv (.t 11)⟩,
  ⟨(some 8), none, .mv (.t 167)⟩,
  ⟨(some 9), none, .mv (.c (.bool false))⟩]
@[reducible] def i101_B : IC := (.seq (.reg none i101_R0) (.seq (.reg (some []) i101_R1) (.seq (.reg none i101_R2) (.seq (.block 0 (.loop i101_L0)) (.seq (.block 2 (.loop i101_L1)) (.seq (.seq (.reg none i101_R7) (.cond (.t 65) (.seq (.reg (some []) i101_R8) (.seq (.reg none i101_R9) .ret)) .skip)) (.seq (.reg (some []) i101_R10) (.seq (.reg none i101_R11) (.seq (.reg none i101_R12) (.seq (.block 4 (.loop i101_L4)) (.seq (.reg (some []) i101_R21) (.seq (.reg none i101_R22) .ret))))))))))))
@[reducible] def i101_V : List Nat := [0, 1, 2, 3, 8, 9, 10, 11, 43, 60, 65, 112, 129, 134]
def i101 : IFn := ⟨168, i101_V, [.tmp 8, .tmp 9], i101_B⟩
theorem i101_ok : compF Go.Proofs.Try.prog i101_V Go.Proofs.Try.f101 = some i101 := by kernel_rfl
/-! math/bits.Len32 -/
@[reducible] def i102_R0 : List Iop := [⟨(some 2), none, .mv (.c (.int .i64 0))⟩]
@[reducible] def i102_R1 : List Iop := [⟨(some 3), none, .mv (.t 0)⟩,
  ⟨(some 4), none, .bin .geq (.t 3) (.c (.int .u32 65536))⟩]
@[reducible] def i102_R2 : List Iop := [⟨(some 5), none, .mv (.t 0)⟩,
  ⟨(some 6), none, .bin .shr (.t 5) (.c (.int .u64 16))⟩,
  ⟨(some 0), none, .mv (.t 6)⟩]
@[reducible] def i102_R3 : List Iop := [⟨(some 2), none, .mv (.c (.int .i64 16))⟩]
@[reducible] def i102_R4 : List Iop := [⟨(some 7), none, .mv (.t 0)⟩,
  ⟨(some 8), none, .bin .geq (.t 7) (.c (.int .u32 256))⟩]
@[reducible] def i102_R5 : List Iop := [⟨(some 9), none, .mv (.t 0)⟩,
  ⟨(some 10), none, .bin .shr (.t 9) (.c (.int .u64 8))⟩,
  ⟨(some 0), none, .mv (.t 10)⟩]
@[reducible] def i102_R6 : List Iop := [⟨(some 11), none, .mv (.t 2)⟩,
  ⟨(some 12), none, .bin .add (.t 11) (.c (.int .i64 8))⟩,
  ⟨(some 2), none, .mv (.t 12)⟩]
@[reducible] def i102_R7 : List Iop := [⟨(some 13), none, .mv (.t 2)⟩,
  ⟨(some 14), none, .mv (.t 0)⟩,
  ⟨(some 15), none, .cvt .u8 (.t 14)⟩,
  ⟨(some 16), none, .ixs (.c (.str ⟨#[0, 1, 2, 2, 3, 3, 3, 3, 4, 4, 4, 4, 4, 4, 4, 4, 5, 5, 5, 5, 5, 5, 5, 5, 5, 5, 5, 5, 5, 5, 5, 5, 6, 6, 6, 6, 6, 6, 6, 6, 6, 6, 6, 6, 6, 6, 6, 6, 6, 6, 6, 6, 6, 6, 6, 6, 6, 6, 6, 6, 6, 6, 6, 6, 7, 7, 7, 7, 7, 7, 7, 7, 7, 7, 7, 7, 7, 7, 7, 7, 7, 7, 7, 7, 7, 7, 7, 7, 7, 7, 7, 7, 7, 7, 7, 7, 7, 7, 7, 7, 7, 7, 7, 7, 7, 7, 7, 7, 7, 7, 7, 7, 7, 7, 7, 7, 7, 7, 7, 7, 7, 7, 7, 7, 7, 7, 7, 7, 8, 8, 8, 8, 8, 8, 8, 8, 8, 8, 8, 8, 8, 8, 8, 8, 8, 8, 8, 8, 8, 8, 8, 8, 8, 8, 8, 8, 8, 8, 8, 8, 8, 8, 8, 8, 8, 8, 8, 8, 8, 8, 8, 8, 8, 8, 8, 8, 8, 8, 8, 8, 8, 8, 8, 8, 8, 8, 8, 8, 8, 8, 8, 8, 8, 8, 8, 8, 8, 8, 8, 8, 8, 8, 8, 8, 8, 8, 8, 8, 8, 8, 8, 8, 8, 8, 8, 8, 8, 8, 8, 8, 8, 8, 8, 8, 8, 8, 8, 8, 8, 8, 8, 8, 8, 8, 8, 8, 8, 8, 8, 8, 8, 8, 8, 8, 8, 8, 8, 8, 8, 8, 8, 8, 8, 8, 8, 8]⟩)) (.t 15)⟩,
  ⟨(some 17), none, .cvt .i64 (.t 16)⟩,
  ⟨(some 18), none, .bin .add (.t 13) (.t 17)⟩,
  ⟨(some 2), none, .mv (.t 18)⟩]
@[reducible] def i102_B : IC := (.seq (.reg none i102_R0) (.seq (.seq (.reg none i102_R1) (.cond (.t 4) (.seq (.reg none i102_R2) (.reg none i102_R3)) .skip)) (.seq (.seq (.reg none i102_R4) (.cond (.t 8) (.seq (.reg none i102_R5) (.reg none i102_R6)) .skip)) (.seq (.reg none i102_R7) .ret))))
@[reducible] def i102_V : List Nat := [0, 2, 4, 8]
def i102 : IFn := ⟨19, i102_V, [.tmp 2], i102_B⟩
theorem i102_ok : compF Go.Proofs.Try.prog i102_V Go.Proofs.Try.f102 = some i102 := by kernel_rfl
/-! math/bits.Len64 -/
@[reducible] def i103_R0 : List Iop := [⟨(some 2), none, .mv (.c (.int .i64 0))⟩]
@[reducible] def i103_R1 : List Iop := [⟨(some 3), none, .mv (.t 0)⟩,
  ⟨(some 4), none, .bin .geq (.t 3) (.c (.int .u64 4294967296))⟩]
@[reducible] def i103_R2 : List Iop := [⟨(some 5), none, .mv (.t 0)⟩,
  ⟨(some 6), none, .bin .shr (.t 5) (.c (.int .u64 32))⟩,
  ⟨(some 0), none, .mv (.t 6)⟩]
@[reducible] def i103_R3 : List Iop := [⟨(some 2), none, .mv (.c (.int .i64 32))⟩]
@[reducible] def i103_R4 : List Iop := [⟨(some 7), none, .mv (.t 0)⟩,
  ⟨(some 8), none, .bin .geq (.t 7) (.c (.int .u64 65536))⟩]
@[reducible] def i103_R5 : List Iop := [⟨(some 9), none, .mv (.t 0)⟩,
  ⟨(some 10), none, .bin .shr (.t 9) (.c (.int .u64 16))⟩,
  ⟨(some 0), none, .mv (.t 10)⟩]
@[reducible] def i103_R6 : List Iop := [⟨(some 11), none, .mv (.t 2)⟩,
  ⟨(some 12), none, .bin .add (.t 11) (.c (.int .i64 16))⟩,
  ⟨(some 2), none, .mv (.t 12)⟩]
@[reducible] def i103_R7 : List Iop := [⟨(some 13), none, .mv (.t 0)⟩,
  ⟨(some 14), none, .bin .geq (.t 13) (.c (.int .u64 256))⟩]
@[reducible] def i103_R8 : List Iop := [⟨(some 15), none, .mv (.t 0)⟩,
  ⟨(some 16), none, .bin .shr (.t 15) (.c (.int .u64 8))⟩,
  ⟨(some 0), none, .mv (.t 16)⟩]
@[reducible] def i103_R9 : List Iop := [⟨(some 17), none, .mv (.t 2)⟩,
  ⟨(some 18), none, .bin .add (.t 17) (.c (.int .i64 8))⟩,
  ⟨(some 2), none, .mv (.t 18)⟩]
@[reducible] def i103_R10 : List Iop := [⟨(some 19), none, .mv (.t 2)⟩,
  ⟨(some 20), none, .mv (.t 0)⟩,
  ⟨(some 21), none, .cvt .u8 (.t 20)⟩,
  ⟨(some 22), none, .ixs (.c (.str ⟨#[0, 1, 2, 2, 3, 3, 3, 3, 4, 4, 4, 4, 4, 4, 4, 4, 5, 5, 5, 5, 5, 5, 5, 5, 5, 5, 5, 5, 5, 5, 5, 5, 6, 6, 6, 6, 6, 6, 6, 6, 6, 6, 6, 6, 6, 6, 6, 6, 6, 6, 6, 6, 6, 6, 6, 6, 6, 6, 6, 6, 6, 6, 6, 6, 7, 7, 7, 7, 7, 7, 7, 7, 7, 7, 7, 7, 7, 7, 7, 7, 7, 7, 7, 7, 7, 7, 7, 7, 7, 7, 7, 7, 7, 7, 7, 7, 7, 7, 7, 7, 7, 7, 7, 7, 7, 7, 7, 7, 7, 7, 7, 7, 7, 7, 7, 7, 7, 7, 7, 7, 7, 7, 7, 7, 7, 7, 7, 7, 8, 8, 8, 8, 8, 8, 8, 8, 8, 8, 8, 8, 8, 8, 8, 8, 8, 8, 8, 8, 8, 8, 8, 8, 8, 8, 8, 8, 8, 8, 8, 8, 8, 8, 8, 8, 8, 8, 8, 8, 8, 8, 8, 8, 8, 8, 8, 8, 8, 8, 8, 8, 8, 8, 8, 8, 8, 8, 8, 8, 8, 8, 8, 8, 8, 8, 8, 8, 8, 8, 8, 8, 8, 8, 8, 8, 8, 8, 8, 8, 8, 8, 8, 8, 8, 8, 8, 8, 8, 8, 8, 8, 8, 8, 8, 8, 8, 8, 8, 8, 8, 8, 8, 8, 8, 8, 8, 8, 8, 8, 8, 8, 8, 8, 8, 8, 8, 8, 8, 8, 8, 8, 8, 8, 8, 8, 8, 8]⟩)) (.t 21)⟩,
  ⟨(some 23), none, .cvt .i64 (.t 22)⟩,
  ⟨(some 24), none, .bin .add (.t 19) (.t 23)⟩,
  ⟨(some 2), none, .mv (.t 24)⟩]
@[reducible] def i103_B : IC := (.seq (.reg none i103_R0) (.seq (.seq (.reg none i103_R1) (.cond (.t 4) (.seq (.reg none i103_R2) (.reg none i103_R3)) .skip)) (.seq (.seq (.reg none i103_R4) (.cond (.t 8) (.seq (.reg none i103_R5) (.reg none i103_R6)) .skip)) (.seq (.seq (.reg none i103_R7) (.cond (.t 14) (.seq (.reg none i103_R8) (.reg none i103_R9)) .skip)) (.seq (.reg none i103_R10) .ret)))))
@[reducible] def i103_V : List Nat := [0, 2, 4, 8, 14]
def i103 : IFn := ⟨25, i103_V, [.tmp 2], i103_B⟩
theorem i103_ok : compF Go.Proofs.Try.prog i103_V Go.Proofs.Try.f103 = some i103 := by kernel_rfl
/-! slices.siftDownOrdered[int] -/
@[reducible] def i104_R0 : List Iop := [⟨(some 10), none, .mv (.t 1)⟩,
  ⟨(some 8), none, .mv (.t 10)⟩]
@[reducible] def i104_R1 : List Iop := [⟨(some 11), none, .mv (.t 8)⟩,
  ⟨(some 12), none, .bin .mul (.c (.int .i64 2)) (.t 11)⟩,
  ⟨(some 13), none, .bin .add (.t 12) (.c (.int .i64 1))⟩,
  ⟨(some 9), none, .mv (.t 13)⟩]
@[reducible] def i104_R2 : List Iop := [⟨(some 14), none, .mv (.t 9)⟩,
  ⟨(some 15), none, .mv (.t 2)⟩,
  ⟨(some 16), none, .bin .geq (.t 14) (.t 15)⟩]
@[reducible] def i104_R3 : List Iop := [⟨(some 17), none, .mv (.t 9)⟩,
  ⟨(some 18), none, .bin .add (.t 17) (.c (.int .i64 1))⟩,
  ⟨(some 19), none, .mv (.t 2)⟩,
  ⟨(some 20), none, .bin .lss (.t 18) (.t 19)⟩,
  ⟨(some 21), none, .mv (.t 20)⟩,
  ⟨(some 22), (some (21, true)), .mv (.t 0)⟩,
  ⟨(some 23), (some (21, true)), .mv (.t 3)⟩,
  ⟨(some 24), (some (21, true)), .mv (.t 9)⟩,
  ⟨(some 25), (some (21, true)), .bin .add (.t 23) (.t 24)⟩,
  ⟨(some 26), (some (21, true)), .ias 1 (.t 22) (.t 25)⟩,
  ⟨(some 27), (some (21, true)), .ld false 1 (.t 26)⟩,
  ⟨(some 28), (some (21, true)), .mv (.t 0)⟩,
  ⟨(some 29), (some (21, true)), .mv (.t 3)⟩,
  ⟨(some 30), (some (21, true)), .mv (.t 9)⟩,
  ⟨(some 31), (some (21, true)), .bin .add (.t 29) (.t 30)⟩,
  ⟨(some 32), (some (21, true)), .bin .add (.t 31) (.c (.int .i64 1))⟩,
  ⟨(some 33), (some (21, true)), .ias 1 (.t 28) (.t 32)⟩,
  ⟨(some 34), (some (21, true)), .ld false 1 (.t 33)⟩,
  ⟨(some 35), (some (21, true)), .call 99 [(.t 27), (.t 34)]⟩,
  ⟨(some 36), none, .pick (.t 21) (.t 35) (.c (.bool false))⟩]
@[reducible] def i104_R4 : List Iop := [⟨(some 37), none, .mv (.t 9)⟩,
  ⟨(some 38), none, .bin .add (.t 37) (.c (.int .i64 1))⟩,
  ⟨(some 9), none, .mv (.t 38)⟩]
@[reducible] def i104_R5 : List Iop := [⟨(some 39), none, .mv (.t 0)⟩,
  ⟨(some 40), none, .mv (.t 3)⟩,
  ⟨(some 41), none, .mv (.t 8)⟩,
  ⟨(some 42), none, .bin .add (.t 40) (.t 41)⟩,
  ⟨(some 43), none, .ias 1 (.t 39) (.t 42)⟩,
  ⟨(some 44), none, .ld false 1 (.t 43)⟩,
  ⟨(some 45), none, .mv (.t 0)⟩,
  ⟨(some 46), none, .mv (.t 3)⟩,
  ⟨(some 47), none, .mv (.t 9)⟩,
  ⟨(some 48), none, .bin .add (.t 46) (.t 47)⟩,
  ⟨(some 49), none, .ias 1 (.t 45) (.t 48)⟩,
  ⟨(some 50), none, .ld false 1 (.t 49)⟩,
  ⟨(some 51), none, .call 99 [(.t 44), (.t 50)]⟩,
  ⟨(some 52), none, .nt (.t 51)⟩]
@[reducible] def i104_R6 : List Iop := [⟨(some 53), none, .mv (.t 0)⟩,
  ⟨(some 54), none, .mv (.t 3)⟩,
  ⟨(some 55), none, .mv (.t 8)⟩,
  ⟨(some 56), none, .bin .add (.t 54) (.t 55)⟩,
  ⟨(some 57), none, .mv (.t 0)⟩,
  ⟨(some 58), none, .mv (.t 3)⟩,
  ⟨(some 59), none, .mv (.t 9)⟩,
  ⟨(some 60), none, .bin .add (.t 58) (.t 59)⟩,
  ⟨(some 61), none, .mv (.t 0)⟩,
  ⟨(some 62), none, .mv (.t 3)⟩,
  ⟨(some 63), none, .mv (.t 9)⟩,
  ⟨(some 64), none, .bin .add (.t 62) (.t 63)⟩,
  ⟨(some 65), none, .ias 1 (.t 61) (.t 64)⟩,
  ⟨(some 66), none, .ld false 1 (.t 65)⟩,
  ⟨(some 67), none, .mv (.t 0)⟩,
  ⟨(some 68), none, .mv (.t 3)⟩,
  ⟨(some 69), none, .mv (.t 8)⟩,
  ⟨(some 70), none, .bin .add (.t 68) (.t 69)⟩,
  ⟨(some 71), none, .ias 1 (.t 67) (.t 70)⟩,
  ⟨(some 72), none, .ld false 1 (.t 71)⟩,
  ⟨(some 73), none, .ias 1 (.t 53) (.t 56)⟩,
  ⟨none, none, .st 1 (.t 73) (.t 66)⟩,
  ⟨(some 74), none, .ias 1 (.t 57) (.t 60)⟩,
  ⟨none, none, .st 1 (.t 74) (.t 72)⟩]
@[reducible] def i104_R7 : List Iop := [⟨(some 75), none, .mv (.t 9)⟩,
  ⟨(some 8), none, .mv (.t 75)⟩]
@[reducible] def i104_L0 : IC := (.block 1 (.seq (.reg none i104_R1) (.seq (.seq (.reg none i104_R2) (.cond (.t 16) (.out 0) .skip)) (.seq (.seq (.reg (some []) i104_R3) (.cond (.t 36) (.reg none i104_R4) .skip)) (.seq (.seq (.reg (some []) i104_R5) (.cond (.t 52) .ret .skip)) (.seq (.reg (some []) i104_R6) (.reg none i104_R7)))))))
@[reducible] def i104_B : IC := (.seq (.reg none i104_R0) (.block 0 (.loop i104_L0)))
@[reducible] def i104_V : List Nat := [0, 1, 2, 3, 8, 9, 16, 36, 52]
def i104 : IFn := ⟨76, i104_V, [], i104_B⟩
theorem i104_ok : compF Go.Proofs.Try.prog i104_V Go.Proofs.Try.f104 = some i104 := by kernel_rfl
/-! slices.nextPowerOfTwo -/
@[reducible] def i105_R0 : List Iop := [⟨(some 2), none, .mv (.c (.int .u64 0))⟩]
@[reducible] def i105_R1 : List Iop := [⟨(some 3), none, .mv (.t 0)⟩,
  ⟨(some 4), none, .cvt .u64 (.t 3)⟩,
  ⟨(some 5), none, .call 92 [(.t 4)]⟩,
  ⟨(some 6), none, .bin .shl (.c (.int .u64 1)) (.t 5)⟩,
  ⟨(some 2), none, .mv (.t 6)⟩]
@[reducible] def i105_B : IC := (.seq (.reg none i105_R0) (.seq (.reg none i105_R1) .ret))
@[reducible] def i105_V : List Nat := [0, 2]
def i105 : IFn := ⟨7, i105_V, [.tmp 2], i105_B⟩
theorem i105_ok : compF Go.Proofs.Try.prog i105_V Go.Proofs.Try.f105 = some i105 := by kernel_rfl
/-! (*slices.xorshift).Next -/
@[reducible] def i106_R0 : List Iop := [⟨(some 2), none, .mv (.c (.int .u64 0))⟩]
@[reducible] def i106_R1 : List Iop := [⟨(some 3), none, .mv (.t 0)⟩,
  ⟨(some 4), none, .nc (.t 3)⟩,
  ⟨(some 5), none, .ld false 1 (.t 4)⟩,
  ⟨(some 6), none, .mv (.t 0)⟩,
  ⟨(some 7), none, .nc (.t 6)⟩,
  ⟨(some 8), none, .ld false 1 (.t 7)⟩,
  ⟨(some 9), none, .bin .shl (.t 8) (.c (.int .u64 13))⟩,
  ⟨(some 10), none, .bin .xor (.t 5) (.t 9)⟩,
  ⟨(some 11), none, .nc (.t 3)⟩,
  ⟨none, none, .st 1 (.t 11) (.t 10)⟩]
@[reducible] def i106_R2 : List Iop := [⟨(some 12), none, .mv (.t 0)⟩,
  ⟨(some 13), none, .nc (.t 12)⟩,
  ⟨(some 14), none, .ld false 1 (.t 13)⟩,
  ⟨(some 15), none, .mv (.t 0)⟩,
  ⟨(some 16), none, .nc (.t 15)⟩,
  ⟨(some 17), none, .ld false 1 (.t 16)⟩,
  ⟨(some 18), none, .bin .shr (.t 17) (.c (.int .u64 7))⟩,
  ⟨(some 19), none, .bin .xor (.t 14) (.t 18)⟩,
  ⟨(some 20), none, .nc (.t 12)⟩,
  ⟨none, none, .st 1 (.t 20) (.t 19)⟩]
@[reducible] def i106_R3 : List Iop := [⟨(some 21), none, .mv (.t 0)⟩,
  ⟨(some 22), none, .nc (.t 21)⟩,
  ⟨(some 23), none, .ld false 1 (.t 22)⟩,
  ⟨(some 24), none, .mv (.t 0)⟩,
  ⟨(some 25), none, .nc (.t 24)⟩,
  ⟨(some 26), none, .ld false 1 (.t 25)⟩,
  ⟨(some 27), none, .bin .shl (.t 26) (.c (.int .u64 17))⟩,
  ⟨(some 28), none, .bin .xor (.t 23) (.t 27)⟩,
  ⟨(some 29), none, .nc (.t 21)⟩,
  ⟨none, none, .st 1 (.t 29) (.t 28)⟩]
@[reducible] def i106_R4 : List Iop := [⟨(some 30), none, .mv (.t 0)⟩,
  ⟨(some 31), none, .nc (.t 30)⟩,
  ⟨(some 32), none, .ld false 1 (.t 31)⟩,
  ⟨(some 2), none, .mv (.t 32)⟩]
@[reducible] def i106_B : IC := (.seq (.reg none i106_R0) (.seq (.reg (some []) i106_R1) (.seq (.reg (some []) i106_R2) (.seq (.reg (some []) i106_R3) (.seq (.reg none i106_R4) .ret)))))
@[reducible] def i106_V : List Nat := [0, 2]
def i106 : IFn := ⟨33, i106_V, [.tmp 2], i106_B⟩
theorem i106_ok : compF Go.Proofs.Try.prog i106_V Go.Proofs.Try.f106 = some i106 := by kernel_rfl
/-! slices.medianAdjacentOrdered[int] -/
@[reducible] def i107_R0 : List Iop := [⟨(some 6), none, .mv (.c (.int .i64 0))⟩]
@[reducible] def i107_R1 : List Iop := [⟨(some 7), none, .mv (.t 0)⟩,
  ⟨(some 8), none, .mv (.t 1)⟩,
  ⟨(some 9), none, .bin .sub (.t 8) (.c (.int .i64 1))⟩,
  ⟨(some 10), none, .mv (.t 1)⟩,
  ⟨(some 11), none, .mv (.t 1)⟩,
  ⟨(some 12), none, .bin .add (.t 11) (.c (.int .i64 1))⟩,
  ⟨(some 13), none, .mv (.t 2)⟩,
  ⟨(some 14), none, .call 108 [(.t 7), (.t 9), (.t 10), (.t 12), (.t 13)]⟩,
  ⟨(some 6), none, .mv (.t 14)⟩]
@[reducible] def i107_B : IC := (.seq (.reg none i107_R0) (.seq (.reg none i107_R1) .ret))
@[reducible] def i107_V : List Nat := [0, 1, 2, 6]
def i107 : IFn := ⟨15, i107_V, [.tmp 6], i107_B⟩
theorem i107_ok : compF Go.Proofs.Try.prog i107_V Go.Proofs.Try.f107 = some i107 := by kernel_rfl
/-! slices.medianOrdered[int] -/
@[reducible] def i108_R0 : List Iop := [⟨(some 10), none, .mv (.c (.int .i64 0))⟩]
@[reducible] def i108_R1 : List Iop := [⟨(some 12), none, .mv (.t 0)⟩,
  ⟨(some 13), none, .mv (.t 1)⟩,
  ⟨(some 14), none, .mv (.t 2)⟩,
  ⟨(some 15), none, .mv (.t 4)⟩,
  ⟨(some 16), none, .call 110 [(.t 12), (.t 13), (.t 14), (.t 15)]⟩,
  ⟨(some 11), none, .mv (.t 16)⟩,
  ⟨(some 17), none, .ext 0 (.t 11)⟩,
  ⟨(some 18), none, .ext 1 (.t 11)⟩,
  ⟨(some 1), none, .mv (.t 17)⟩,
  ⟨(some 2), none, .mv (.t 18)⟩]
@[reducible] def i108_R2 : List Iop := [⟨(some 20), none, .mv (.t 0)⟩,
  ⟨(some 21), none, .mv (.t 2)⟩,
  ⟨(some 22), none, .mv (.t 3)⟩,
  ⟨(some 23), none, .mv (.t 4)⟩,
  ⟨(some 24), none, .call 110 [(.t 20), (.t 21), (.t 22), (.t 23)]⟩,
  ⟨(some 19), none, .mv (.t 24)⟩,
  ⟨(some 25), none, .ext 0 (.t 19)⟩,
  ⟨(some 26), none, .ext 1 (.t 19)⟩,
  ⟨(some 2), none, .mv (.t 25)⟩,
  ⟨(some 3), none, .mv (.t 26)⟩]
@[reducible] def i108_R3 : List Iop := [⟨(some 28), none, .mv (.t 0)⟩,
  ⟨(some 29), none, .mv (.t 1)⟩,
  ⟨(some 30), none, .mv (.t 2)⟩,
  ⟨(some 31), none, .mv (.t 4)⟩,
  ⟨(some 32), none, .call 110 [(.t 28), (.t 29), (.t 30), (.t 31)]⟩,
  ⟨(some 27), none, .mv (.t 32)⟩,
  ⟨(some 33), none, .ext 0 (.t 27)⟩,
  ⟨(some 34), none, .ext 1 (.t 27)⟩,
  ⟨(some 1), none, .mv (.t 33)⟩,
  ⟨(some 2), none, .mv (.t 34)⟩]
@[reducible] def i108_R4 : List Iop := [⟨(some 35), none, .mv (.t 2)⟩,
  ⟨(some 10), none, .mv (.t 35)⟩]
@[reducible] def i108_B : IC := (.seq (.reg none i108_R0) (.seq (.reg none i108_R1) (.seq (.reg none i108_R2) (.seq (.reg none i108_R3) (.seq (.reg none i108_R4) .ret)))))
@[reducible] def i108_V : List Nat := [0, 1, 2, 3, 4, 10]
def i108 : IFn := ⟨36, i108_V, [.tmp 10], i108_B⟩
theorem i108_ok : compF Go.Proofs.Try.prog i108_V Go.Proofs.Try.f108 = some i108 := by kernel_rfl
/-! cmp.isNaN[int] -/
@[reducible] def i109_R0 : List Iop := [⟨(some 2), none, .mv (.c (.bool false))⟩]
@[reducible] def i109_R1 : List Iop := [⟨(some 3), none, .mv (.t 0)⟩,
  ⟨(some 4), none, .mv (.t 0)⟩,
  ⟨(some 5), none, .bin .neq (.t 3) (.t 4)⟩,
  ⟨(some 2), none, .mv (.t 5)⟩]
@[reducible] def i109_B : IC := (.seq (.reg none i109_R0) (.seq (.reg none i109_R1) .ret))
@[reducible] def i109_V : List Nat := [0, 2]
def i109 : IFn := ⟨6, i109_V, [.tmp 2], i109_B⟩
theorem i109_ok : compF Go.Proofs.Try.prog i109_V Go.Proofs.Try.f109 = some i109 := by kernel_rfl
/-! slices.order2Ordered[int] -/
@[reducible] def i110_R0 : List Iop := [⟨(some 8), none, .mv (.c (.int .i64 0))⟩,
  ⟨(some 9), none, .mv (.c (.int .i64 0))⟩]
@[reducible] def i110_R1 : List Iop := [⟨(some 10), none, .mv (.t 0)⟩,
  ⟨(some 11), none, .mv (.t 2)⟩,
  ⟨(some 12), none, .ias 1 (.t 10) (.t 11)⟩,
  ⟨(some 13), none, .ld false 1 (.t 12)⟩,
  ⟨(some 14), none, .mv (.t 0)⟩,
  ⟨(some 15), none, .mv (.t 1)⟩,
  ⟨(some 16), none, .ias 1 (.t 14) (.t 15)⟩,
  ⟨(some 17), none, .ld false 1 (.t 16)⟩,
  ⟨(some 18), none, .call 99 [(.t 13), (.t 17)]⟩]
@[reducible] def i110_R2 : List Iop := [⟨(some 19), none, .mv (.t 3)⟩,
  ⟨(some 20), none, .nc (.t 19)⟩,
  ⟨(some 21), none, .ld false 1 (.t 20)⟩,
  ⟨(some 22), none, .bin .add (.t 21) (.c (.int .i64 1))⟩,
  ⟨(some 23), none, .nc (.t 19)⟩,
  ⟨none, none, .st 1 (.t 23) (.t 22)⟩]
@[reducible] def i110_R3 : List Iop := [⟨(some 24), none, .mv (.t 2)⟩,
  ⟨(some 25), none, .mv (.t 1)⟩,
  ⟨(some 8), none, .mv (.t 24)⟩,
  ⟨(some 9), none, .mv (.t 25)⟩]
@[reducible] def i110_R4 : List Iop := [⟨(some 26), none, .mv (.t 1)⟩,
  ⟨(some 27), none, .mv (.t 2)⟩,
  ⟨(some 8), none, .mv (.t 26)⟩,
  ⟨(some 9), none, .mv (.t 27)⟩]
@[reducible] def i110_B : IC := (.seq (.reg none i110_R0) (.seq (.seq (.reg (some []) i110_R1) (.cond (.t 18) (.seq (.reg none i110_R2) (.seq (.reg none i110_R3) .ret)) .skip)) (.seq (.reg none i110_R4) .ret)))
@[reducible] def i110_V : List Nat := [0, 1, 2, 3, 8, 9, 18]
def i110 : IFn := ⟨28, i110_V, [.tmp 8, .tmp 9], i110_B⟩
theorem i110_ok : compF Go.Proofs.Try.prog i110_V Go.Proofs.Try.f110 = some i110 := by kernel_rfl
def fnOf : Nat → Option IFn
  | 3 => some i3
  | 9 => some i9
  | 10 => some i10
  | 11 => some i11
  | 12 => some i12
  | 13 => some i13
  | 14 => some i14
  | 15 => some i15
  | 16 => some i16
  | 21 => some i21
  | 25 => some i25
  | 28 => some i28
  | 29 => some i29
  | 30 => some i30
  | 31 => some i31
  | 32 => some i32
  | 33 => some i33
  | 34 => some i34
  | 36 => some i36
  | 37 => some i37
  | 38 => some i38
  | 39 => some i39
  | 40 => some i40
  | 41 => some i41
  | 42 => some i42
  | 43 => some i43
  | 44 => some i44
  | 49 => some i49
  | 50 => some i50
  | 52 => some i52
  | 53 => some i53
  | 54 => some i54
  | 55 => some i55
  | 56 => some i56
  | 59 => some i59
  | 60 => some i60
  | 61 => some i61
  | 62 => some i62
  | 63 => some i63
  | 64 => some i64
  | 65 => some i65
  | 66 => some i66
  | 68 => some i68
  | 69 => some i69
  | 71 => some i71
  | 77 => some i77
  | 79 => some i79
  | 80 => some i80
  | 82 => some i82
  | 87 => some i87
  | 88 => some i88
  | 89 => some i89
  | 90 => some i90
  | 91 => some i91
  | 92 => some i92
  | 93 => some i93
  | 94 => some i94
  | 95 => some i95
  | 96 => some i96
  | 97 => some i97
  | 98 => some i98
  | 99 => some i99
  | 100 => some i100
  | 101 => some i101
  | 102 => some i102
  | 103 => some i103
  | 104 => some i104
  | 105 => some i105
  | 106 => some i106
  | 107 => some i107
  | 108 => some i108
  | 109 => some i109
  | 110 => some i110
  | _ => none
def fzOf : Nat → Bool
  | 31 => false
  | 34 => false
  | 49 => false
  | 50 => false
  | 51 => false
  | 52 => false
  | 53 => false
  | 54 => false
  | 60 => false
  | 63 => false
  | 66 => false
  | 67 => false
  | 68 => false
  | 69 => false
  | 70 => false
  | 71 => false
  | 72 => false
  | 73 => false
  | 74 => false
  | 76 => false
  | 78 => false
  | 80 => false
  | 83 => false
  | 84 => false
  | 90 => false
  | 91 => false
  | 93 => false
  | 94 => false
  | 95 => false
  | 96 => false
  | 97 => false
  | 98 => false
  | 100 => false
  | 101 => false
  | 104 => false
  | 106 => false
  | 107 => false
  | 108 => false
  | 110 => false
  | _ => true
noncomputable def cfg : Cfg := { P := Go.Proofs.Try.prog, fn := fnOf, fz := fzOf }
theorem fnOf_ok : ∀ f i, cfg.fn f = some i → ∃ fn V, cfg.P.funcs[f]? = some fn ∧ compF cfg.P V fn = some i ∧ V = i.live := by
  intro f i h
  change fnOf f = some i at h
  unfold fnOf at h
  split at h
  · obtain rfl := Option.some.inj h; exact ⟨_, _, Go.Proofs.Try.func3, i3_ok, rfl⟩
  · obtain rfl := Option.some.inj h; exact ⟨_, _, Go.Proofs.Try.func9, i9_ok, rfl⟩
  · obtain rfl := Option.some.inj h; exact ⟨_, _, Go.Proofs.Try.func10, i10_ok, rfl⟩
  · obtain rfl := Option.some.inj h; exact ⟨_, _, Go.Proofs.Try.func11, i11_ok, rfl⟩
  · obtain rfl := Option.some.inj h; exact ⟨_, _, Go.Proofs.Try.func12, i12_ok, rfl⟩
  · obtain rfl := Option.some.inj h; exact ⟨_, _, Go.Proofs.Try.func13, i13_ok, rfl⟩
  · obtain rfl := Option.some.inj h; exact ⟨_, _, Go.Proofs.Try.func14, i14_ok, rfl⟩
  · obtain rfl := Option.some.inj h; exact ⟨_, _, Go.Proofs.Try.func15, i15_ok, rfl⟩
  · obtain rfl := Option.some.inj h; exact ⟨_, _, Go.Proofs.Try.func16, i16_ok, rfl⟩
  · obtain rfl := Option.some.inj h; exact ⟨_, _, Go.Proofs.Try.func21, i21_ok, rfl⟩
  · obtain rfl := Option.some.inj h; exact ⟨_, _, Go.Proofs.Try.func25, i25_ok, rfl⟩
  · obtain rfl := Option.some.inj h; exact ⟨_, _, Go.Proofs.Try.func28, i28_ok, rfl⟩
  · obtain rfl := Option.some.inj h; exact ⟨_, _, Go.Proofs.Try.func29, i29_ok, rfl⟩
  · obtain rfl := Option.some.inj h; exact ⟨_, _, Go.Proofs.Try.func30, i30_ok, rfl⟩
  · obtain rfl := Option.some.inj h; exact ⟨_, _, Go.Proofs.Try.func31, i31_ok, rfl⟩
  · obtain rfl := Option.some.inj h; exact ⟨_, _, Go.Proofs.Try.func32, i32_ok, rfl⟩
  · obtain rfl := Option.some.inj h; exact ⟨_, _, Go.Proofs.Try.func33, i33_ok, rfl⟩
  · obtain rfl := Option.some.inj h; exact ⟨_, _, Go.Proofs.Try.func34, i34_ok, rfl⟩
  · obtain rfl := Option.some.inj h; exact ⟨_, _, Go.Proofs.Try.func36, i36_ok, rfl⟩
  · obtain rfl := Option.some.inj h; exact ⟨_, _, Go.Proofs.Try.func37, i37_ok, rfl⟩
  · obtain rfl := Option.some.inj h; exact ⟨_, _, Go.Proofs.Try.func38, i38_ok, rfl⟩
  · obtain rfl := Option.some.inj h; exact ⟨_, _, Go.Proofs.Try.func39, i39_ok, rfl⟩
  · obtain rfl := Option.some.inj h; exact ⟨_, _, Go.Proofs.Try.func40, i40_ok, rfl⟩
  · obtain rfl := Option.some.inj h; exact ⟨_, _, Go.Proofs.Try.func41, i41_ok, rfl⟩
  · obtain rfl := Option.some.inj h; exact ⟨_, _, Go.Proofs.Try.func42, i42_ok, rfl⟩
  · obtain rfl := Option.some.inj h; exact ⟨_, _, Go.Proofs.Try.func43, i43_ok, rfl⟩
  · obtain rfl := Option.some.inj h; exact ⟨_, _, Go.Proofs.Try.func44, i44_ok, rfl⟩
  · obtain rfl := Option.some.inj h; exact ⟨_, _, Go.Proofs.Try.func49, i49_ok, rfl⟩
  · obtain rfl := Option.some.inj h; exact ⟨_, _, Go.Proofs.Try.func50, i50_ok, rfl⟩
  · obtain rfl := Option.some.inj h; exact ⟨_, _, Go.Proofs.Try.func52, i52_ok, rfl⟩
  · obtain rfl := Option.some.inj h; exact ⟨_, _, Go.Proofs.Try.func53, i53_ok, rfl⟩
  · obtain rfl := Option.some.inj h; exact ⟨_, _, Go.Proofs.Try.func54, i54_ok, rfl⟩
  · obtain rfl := Option.some.inj h; exact ⟨_, _, Go.Proofs.Try.func55, i55_ok, rfl⟩
  · obtain rfl := Option.some.inj h; exact ⟨_, _, Go.Proofs.Try.func56, i56_ok, rfl⟩
  · obtain rfl := Option.some.inj h; exact ⟨_, _, Go.Proofs.Try.func59, i59_ok, rfl⟩
  · obtain rfl := Option.some.inj h; exact ⟨_, _, Go.Proofs.Try.func60, i60_ok, rfl⟩
  · obtain rfl := Option.some.inj h; exact ⟨_, _, Go.Proofs.Try.func61, i61_ok, rfl⟩
  · obtain rfl := Option.some.inj h; exact ⟨_, _, Go.Proofs.Try.func62, i62_ok, rfl⟩
  · obtain rfl := Option.some.inj h; exact ⟨_, _, Go.Proofs.Try.func63, i63_ok, rfl⟩
  · obtain rfl := Option.some.inj h; exact ⟨_, _, Go.Proofs.Try.func64, i64_ok, rfl⟩
  · obtain rfl := Option.some.inj h; exact ⟨_, _, Go.Proofs.Try.func65, i65_ok, rfl⟩
  · obtain rfl := Option.some.inj h; exact ⟨_, _, Go.Proofs.Try.func66, i66_ok, rfl⟩
  · obtain rfl := Option.some.inj h; exact ⟨_, _, Go.Proofs.Try.func68, i68_ok, rfl⟩
  · obtain rfl := Option.some.inj h; exact ⟨_, _, Go.Proofs.Try.func69, i69_ok, rfl⟩
  · obtain rfl := Option.some.inj h; exact ⟨_, _, Go.Proofs.Try.func71, i71_ok, rfl⟩
  · obtain rfl := Option.some.inj h; exact ⟨_, _, Go.Proofs.Try.func77, i77_ok, rfl⟩
  · obtain rfl := Option.some.inj h; exact ⟨_, _, Go.Proofs.Try.func79, i79_ok, rfl⟩
  · obtain rfl := Option.some.inj h; exact ⟨_, _, Go.Proofs.Try.func80, i80_ok, rfl⟩
  · obtain rfl := Option.some.inj h; exact ⟨_, _, Go.Proofs.Try.func82, i82_ok, rfl⟩
  · obtain rfl := Option.some.inj h; exact ⟨_, _, Go.Proofs.Try.func87, i87_ok, rfl⟩
  · obtain rfl := Option.some.inj h; exact ⟨_, _, Go.Proofs.Try.func88, i88_ok, rfl⟩
  · obtain rfl := Option.some.inj h; exact ⟨_, _, Go.Proofs.Try.func89, i89_ok, rfl⟩
  · obtain rfl := Option.some.inj h; exact ⟨_, _, Go.Proofs.Try.func90, i90_ok, rfl⟩
  · obtain rfl := Option.some.inj h; exact ⟨_, _, Go.Proofs.Try.func91, i91_ok, rfl⟩
  · obtain rfl := Option.some.inj h; exact ⟨_, _, Go.Proofs.Try.func92, i92_ok, rfl⟩
  · obtain rfl := Option.some.inj h; exact ⟨_, _, Go.Proofs.Try.func93, i93_ok, rfl⟩
  · obtain rfl := Option.some.inj h; exact ⟨_, _, Go.Proofs.Try.func94, i94_ok, rfl⟩
  · obtain rfl := Option.some.inj h; exact ⟨_, _, Go.Proofs.Try.func95, i95_ok, rfl⟩
  · obtain rfl := Option.some.inj h; exact ⟨_, _, Go.Proofs.Try.func96, i96_ok, rfl⟩
  · obtain rfl := Option.some.inj h; exact ⟨_, _, Go.Proofs.Try.func97, i97_ok, rfl⟩
  · obtain rfl := Option.some.inj h; exact ⟨_, _, Go.Proofs.Try.func98, i98_ok, rfl⟩
  · obtain rfl := Option.some.inj h; exact ⟨_, _, Go.Proofs.Try.func99, i99_ok, rfl⟩
  · obtain rfl := Option.some.inj h; exact ⟨_, _, Go.Proofs.Try.func100, i100_ok, rfl⟩
  · obtain rfl := Option.some.inj h; exact ⟨_, _, Go.Proofs.Try.func101, i101_ok, rfl⟩
  · obtain rfl := Option.some.inj h; exact ⟨_, _, Go.Proofs.Try.func102, i102_ok, rfl⟩
  · obtain rfl := Option.some.inj h; exact ⟨_, _, Go.Proofs.Try.func103, i103_ok, rfl⟩
  · obtain rfl := Option.some.inj h; exact ⟨_, _, Go.Proofs.Try.func104, i104_ok, rfl⟩
  · obtain rfl := Option.some.inj h; exact ⟨_, _, Go.Proofs.Try.func105, i105_ok, rfl⟩
  · obtain rfl := Option.some.inj h; exact ⟨_, _, Go.Proofs.Try.func106, i106_ok, rfl⟩
  · obtain rfl := Option.some.inj h; exact ⟨_, _, Go.Proofs.Try.func107, i107_ok, rfl⟩
  · obtain rfl := Option.some.inj h; exact ⟨_, _, Go.Proofs.Try.func108, i108_ok, rfl⟩
  · obtain rfl := Option.some.inj h; exact ⟨_, _, Go.Proofs.Try.func109, i109_ok, rfl⟩
  · obtain rfl := Option.some.inj h; exact ⟨_, _, Go.Proofs.Try.func110, i110_ok, rfl⟩
  · cases h
end Go.Proofs.Ytgoachcogmlhcaa.R
