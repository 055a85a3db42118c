import Derived.Test.YtgoachcogmlhcaaRDefs
import Derived.Test.YtgoachcogmlhcaaProg
import Derived.KernelRfl
namespace Go.Proofs.Ytgoachcogmlhcaa.R
open Go
set_option maxRecDepth 100000
/-! The compact code, and that it is the program's. -/
/-! funicular/funicularlaw15.RaftBegins -/
@[reducible] def i3_R0 : List Iop := [⟨(some 10), none, .box (.t 4)⟩,
  ⟨(some 12), none, .mv (.c (.bool false))⟩]
@[reducible] def i3_R1 : List Iop := [⟨(some 21), none, .fa 2 (.t 10)⟩,
  ⟨(some 22), none, .ld false 1 (.t 21)⟩,
  ⟨(some 23), none, .call 9 [(.t 22), (.c (.int .i64 200))]⟩,
  ⟨(some 24), none, .bin .gtr (.t 23) (.c (.int .i64 200))⟩,
  ⟨(some 25), none, .mv (.t 24)⟩,
  ⟨(some 26), (some (25, false)), .mv (.t 5)⟩,
  ⟨(some 27), (some (25, false)), .lenl (.t 26)⟩,
  ⟨(some 28), (some (25, false)), .bin .gtr (.t 27) (.c (.int .i64 500))⟩,
  ⟨(some 29), none, .pick (.t 25) (.c (.bool true)) (.t 28)⟩]
@[reducible] def i3_R2 : List Iop := [⟨(some 30), none, .call 10 []⟩,
  ⟨(some 12), none, .mv (.t 30)⟩]
@[reducible] def i3_R3 : List Iop := [⟨(some 32), none, .mv (.t 0)⟩,
  ⟨(some 33), none, .mv (.t 1)⟩,
  ⟨(some 34), none, .call 11 [(.t 32), (.t 33)]⟩,
  ⟨(some 31), none, .mv (.t 34)⟩,
  ⟨(some 35), none, .ext 0 (.t 31)⟩,
  ⟨(some 36), none, .ext 1 (.t 31)⟩,
  ⟨(some 13), none, .alloc [.int .i64 0, .int .i64 0, .int .i64 0, .int .i64 0, .int .i64 0, .int .i64 0, .int .i64 0, .int .i64 0, .nil, .int .i64 0, .nil, .nil, .nil, .nil, .int .i64 0, .int .i64 0]⟩,
  ⟨none, none, .st 16 (.t 13) (.t 35)⟩,
  ⟨(some 14), none, .mv (.t 36)⟩]
@[reducible] def i3_R4 : List Iop := [⟨(some 38), none, .mv (.t 0)⟩,
  ⟨(some 39), none, .mv (.t 1)⟩,
  ⟨(some 40), none, .call 12 [(.t 38), (.t 39)]⟩,
  ⟨(some 37), none, .mv (.t 40)⟩,
  ⟨(some 41), none, .ext 0 (.t 37)⟩,
  ⟨(some 42), none, .ext 1 (.t 37)⟩,
  ⟨(some 15), none, .alloc [.int .i64 0, .int .i64 0, .int .i64 0, .int .i64 0, .int .i64 0, .int .i64 0, .int .i64 0, .int .i64 0, .nil, .int .i64 0, .nil, .nil, .nil, .nil, .int .i64 0, .int .i64 0]⟩,
  ⟨none, none, .st 16 (.t 15) (.t 41)⟩,
  ⟨(some 16), none, .mv (.t 42)⟩]
@[reducible] def i3_R5 : List Iop := [⟨(some 44), none, .mv (.t 0)⟩,
  ⟨(some 45), none, .mv (.t 1)⟩,
  ⟨(some 46), none, .mv (.t 2)⟩,
  ⟨(some 47), none, .mv (.t 3)⟩,
  ⟨(some 48), none, .ld true 3 (.t 10)⟩,
  ⟨(some 49), none, .mv (.t 5)⟩,
  ⟨(some 50), none, .call 13 [(.t 44), (.t 45), (.t 46), (.t 47), (.t 48), (.t 49)]⟩,
  ⟨(some 43), none, .mv (.t 50)⟩,
  ⟨(some 51), none, .ext 0 (.t 43)⟩,
  ⟨(some 52), none, .ext 1 (.t 43)⟩,
  ⟨(some 17), none, .alloc [.int .i64 0, .int .i64 0, .int .i64 0, .int .i64 0, .int .i64 0, .int .i64 0, .int .i64 0, .int .i64 0, .nil, .int .i64 0, .nil, .nil, .nil, .nil, .int .i64 0, .int .i64 0]⟩,
  ⟨none, none, .st 16 (.t 17) (.t 51)⟩,
  ⟨(some 18), none, .mv (.t 52)⟩]
@[reducible] def i3_R6 : List Iop := [⟨(some 54), none, .mv (.t 0)⟩,
  ⟨(some 55), none, .mv (.t 1)⟩,
  ⟨(some 56), none, .mv (.t 2)⟩,
  ⟨(some 57), none, .mv (.t 3)⟩,
  ⟨(some 58), none, .ld true 3 (.t 10)⟩,
  ⟨(some 59), none, .mv (.t 5)⟩,
  ⟨(some 60), none, .call 14 [(.t 54), (.t 55), (.t 56), (.t 57), (.t 58), (.t 59)]⟩,
  ⟨(some 53), none, .mv (.t 60)⟩,
  ⟨(some 61), none, .ext 0 (.t 53)⟩,
  ⟨(some 62), none, .ext 1 (.t 53)⟩,
  ⟨(some 19), none, .alloc [.int .i64 0, .int .i64 0, .int .i64 0, .int .i64 0, .int .i64 0, .int .i64 0, .int .i64 0, .int .i64 0, .nil, .int .i64 0, .nil, .nil, .nil, .nil, .int .i64 0, .int .i64 0]⟩,
  ⟨none, none, .st 16 (.t 19) (.t 61)⟩,
  ⟨(some 20), none, .mv (.t 62)⟩]
@[reducible] def i3_R7 : List Iop := [⟨(some 63), none, .mv (.t 14)⟩,
  ⟨(some 64), none, .mv (.t 16)⟩,
  ⟨(some 65), none, .bin .eql (.t 63) (.t 64)⟩,
  ⟨(some 66), none, .mv (.t 65)⟩,
  ⟨(some 67), (some (66, true)), .mv (.t 18)⟩,
  ⟨(some 68), (some (66, true)), .mv (.t 20)⟩,
  ⟨(some 69), (some (66, true)), .bin .eql (.t 67) (.t 68)⟩,
  ⟨(some 70), none, .pick (.t 66) (.t 69) (.c (.bool false))⟩,
  ⟨(some 71), none, .mv (.t 70)⟩,
  ⟨(some 72), (some (71, true)), .ld true 16 (.t 13)⟩,
  ⟨(some 73), (some (71, true)), .ld true 16 (.t 15)⟩,
  ⟨(some 74), (some (71, true)), .call 15 [(.t 72), (.t 73)]⟩,
  ⟨(some 75), none, .pick (.t 71) (.t 74) (.c (.bool false))⟩,
  ⟨(some 76), none, .mv (.t 75)⟩,
  ⟨(some 77), (some (76, true)), .ld true 16 (.t 17)⟩,
  ⟨(some 78), (some (76, true)), .ld true 16 (.t 19)⟩,
  ⟨(some 79), (some (76, true)), .call 15 [(.t 77), (.t 78)]⟩,
  ⟨(some 80), none, .pick (.t 76) (.t 79) (.c (.bool false))⟩,
  ⟨(some 81), none, .mv (.t 80)⟩,
  ⟨(some 82), (some (81, true)), .ld true 16 (.t 13)⟩,
  ⟨(some 83), (some (81, true)), .ld true 16 (.t 17)⟩,
  ⟨(some 84), (some (81, true)), .call 16 [(.t 82), (.t 83)]⟩,
  ⟨(some 85), (some (81, true)), .ld true 16 (.t 13)⟩,
  ⟨(some 86), (some (81, true)), .ld true 16 (.t 17)⟩,
  ⟨(some 87), (some (81, true)), .call 15 [(.t 85), (.t 86)]⟩,
  ⟨(some 88), (some (81, true)), .eqb false (.t 84) (.t 87)⟩,
  ⟨(some 89), none, .pick (.t 81) (.t 88) (.c (.bool false))⟩,
  ⟨(some 90), none, .mv (.t 89)⟩,
  ⟨(some 91), (some (90, true)), .call 10 []⟩,
  ⟨(some 92), none, .pick (.t 90) (.t 91) (.c (.bool false))⟩,
  ⟨(some 12), none, .mv (.t 92)⟩]
@[reducible] def i3_B : IC := (.seq (.reg none i3_R0) (.seq (.seq (.reg none i3_R1) (.cond (.t 29) (.seq (.reg none i3_R2) .ret) .skip)) (.seq (.reg none i3_R3) (.seq (.reg none i3_R4) (.seq (.reg none i3_R5) (.seq (.reg none i3_R6) (.seq (.reg (some [(21, 22), (21, 23)]) i3_R7) .ret)))))))
@[reducible] def i3_V : List Nat := [0, 1, 2, 3, 4, 5, 10, 12, 13, 14, 15, 16, 17, 18, 19, 20, 29]
def i3 : IFn := ⟨93, i3_V, [.tmp 12], i3_B⟩
theorem i3_ok : compF Go.Proofs.Try.prog i3_V Go.Proofs.Try.f3 = some i3 := by kernel_rfl
/-! funicular/funicularref13.Weight -/
@[reducible] def i9_R0 : List Iop := [⟨(some 4), none, .mv (.c (.int .i64 0))⟩]
@[reducible] def i9_R1 : List Iop := [⟨(some 5), none, .mv (.c (.int .i64 0))⟩]
@[reducible] def i9_R2 : List Iop := [⟨(some 6), none, .mv (.c (.int .i64 0))⟩]
@[reducible] def i9_R3 : List Iop := [⟨(some 7), none, .mv (.t 6)⟩,
  ⟨(some 8), none, .mv (.t 0)⟩,
  ⟨(some 9), none, .lenl (.t 8)⟩,
  ⟨(some 10), none, .bin .lss (.t 7) (.t 9)⟩,
  ⟨(some 11), none, .mv (.t 10)⟩,
  ⟨(some 12), (some (11, true)), .mv (.t 5)⟩,
  ⟨(some 13), (some (11, true)), .mv (.t 1)⟩,
  ⟨(some 14), (some (11, true)), .bin .leq (.t 12) (.t 13)⟩,
  ⟨(some 15), none, .pick (.t 11) (.t 14) (.c (.bool false))⟩]
@[reducible] def i9_R4 : List Iop := [⟨(some 18), none, .mv (.t 5)⟩,
  ⟨(some 19), none, .bin .add (.t 18) (.c (.int .i64 1))⟩,
  ⟨(some 20), none, .mv (.t 0)⟩,
  ⟨(some 21), none, .mv (.t 6)⟩,
  ⟨(some 22), none, .ias 2 (.t 20) (.t 21)⟩,
  ⟨(some 23), none, .fa 1 (.t 22)⟩,
  ⟨(some 24), none, .ld false 1 (.t 23)⟩,
  ⟨(some 25), none, .lenl (.t 24)⟩,
  ⟨(some 26), none, .bin .quo (.t 25) (.c (.int .i64 20))⟩,
  ⟨(some 27), none, .bin .add (.t 19) (.t 26)⟩,
  ⟨(some 5), none, .mv (.t 27)⟩]
@[reducible] def i9_R5 : List Iop := [⟨(some 16), none, .mv (.t 6)⟩,
  ⟨(some 17), none, .bin .add (.t 16) (.c (.int .i64 1))⟩,
  ⟨(some 6), none, .mv (.t 17)⟩]
@[reducible] def i9_L0 : IC := (.seq (.seq (.reg none i9_R3) (.cond (.t 15) .skip (.out 0))) (.seq (.block 1 (.reg none i9_R4)) (.reg none i9_R5)))
@[reducible] def i9_R6 : List Iop := [⟨(some 28), none, .mv (.t 5)⟩,
  ⟨(some 4), none, .mv (.t 28)⟩]
@[reducible] def i9_B : IC := (.seq (.reg none i9_R0) (.seq (.reg none i9_R1) (.seq (.seq (.reg none i9_R2) (.block 0 (.loop i9_L0))) (.seq (.reg none i9_R6) .ret))))
@[reducible] def i9_V : List Nat := [0, 1, 4, 5, 6, 15]
def i9 : IFn := ⟨29, i9_V, [.tmp 4], i9_B⟩
theorem i9_ok : compF Go.Proofs.Try.prog i9_V Go.Proofs.Try.f9 = some i9 := by kernel_rfl
/-! funicular/funicularlaw15.works -/
@[reducible] def i10_R0 : List Iop := [⟨(some 0), none, .mv (.c (.bool false))⟩]
@[reducible] def i10_R1 : List Iop := [⟨(some 12), none, .call 11 [(.c (.int .i64 1)), (.c (.int .i64 1))]⟩,
  ⟨(some 11), none, .mv (.t 12)⟩,
  ⟨(some 13), none, .ext 0 (.t 11)⟩,
  ⟨(some 14), none, .ext 1 (.t 11)⟩,
  ⟨(some 1), none, .alloc [.int .i64 0, .int .i64 0, .int .i64 0, .int .i64 0, .int .i64 0, .int .i64 0, .int .i64 0, .int .i64 0, .nil, .int .i64 0, .nil, .nil, .nil, .nil, .int .i64 0, .int .i64 0]⟩,
  ⟨none, none, .st 16 (.t 1) (.t 13)⟩,
  ⟨(some 2), none, .mv (.t 14)⟩]
@[reducible] def i10_R2 : List Iop := [⟨(some 16), none, .call 11 [(.c (.int .i64 1)), (.c (.int .i64 8))]⟩,
  ⟨(some 15), none, .mv (.t 16)⟩,
  ⟨(some 17), none, .ext 0 (.t 15)⟩,
  ⟨(some 18), none, .ext 1 (.t 15)⟩,
  ⟨(some 3), none, .alloc [.int .i64 0, .int .i64 0, .int .i64 0, .int .i64 0, .int .i64 0, .int .i64 0, .int .i64 0, .int .i64 0, .nil, .int .i64 0, .nil, .nil, .nil, .nil, .int .i64 0, .int .i64 0]⟩,
  ⟨none, none, .st 16 (.t 3) (.t 17)⟩,
  ⟨(some 4), none, .mv (.t 18)⟩]
@[reducible] def i10_R3 : List Iop := [⟨(some 19), none, .mv (.t 2)⟩,
  ⟨(some 20), none, .bin .neq (.t 19) (.c (.int .i64 0))⟩,
  ⟨(some 21), none, .mv (.t 20)⟩,
  ⟨(some 22), (some (21, false)), .mv (.t 4)⟩,
  ⟨(some 23), (some (21, false)), .bin .neq (.t 22) (.c (.int .i64 2))⟩,
  ⟨(some 24), none, .pick (.t 21) (.c (.bool true)) (.t 23)⟩]
@[reducible] def i10_R4 : List Iop := [⟨(some 0), none, .mv (.c (.bool false))⟩]
@[reducible] def i10_R5 : List Iop := [⟨(some 5), none, .mv (.c (.int .i64 0))⟩]
@[reducible] def i10_R6 : List Iop := [⟨(some 25), none, .mv (.t 5)⟩,
  ⟨(some 26), none, .bin .lss (.t 25) (.c (.int .i64 20))⟩]
@[reducible] def i10_R7 : List Iop := [⟨(some 30), none, .ld true 16 (.t 1)⟩,
  ⟨(some 31), none, .call 28 [(.t 30), (.c (.int .i64 3))]⟩,
  ⟨(some 29), none, .mv (.t 31)⟩,
  ⟨(some 32), none, .ext 0 (.t 29)⟩,
  ⟨(some 33), none, .ext 1 (.t 29)⟩,
  ⟨none, none, .st 16 (.t 1) (.t 32)⟩]
@[reducible] def i10_R8 : List Iop := [⟨(some 27), none, .mv (.t 5)⟩,
  ⟨(some 28), none, .bin .add (.t 27) (.c (.int .i64 1))⟩,
  ⟨(some 5), none, .mv (.t 28)⟩]
@[reducible] def i10_L0 : IC := (.seq (.seq (.reg none i10_R6) (.cond (.t 26) .skip (.out 0))) (.seq (.block 1 (.reg none i10_R7)) (.reg none i10_R8)))
@[reducible] def i10_R9 : List Iop := [⟨(some 35), none, .ld true 16 (.t 1)⟩,
  ⟨(some 36), none, .bsl 1 [.int .u8 0] 1 [(0, (.c (.int .u8 7)))]⟩,
  ⟨(some 37), none, .call 29 [(.t 35), (.t 36)]⟩,
  ⟨(some 34), none, .mv (.t 37)⟩,
  ⟨(some 38), none, .ext 0 (.t 34)⟩,
  ⟨(some 39), none, .ext 1 (.t 34)⟩,
  ⟨(some 40), none, .ext 2 (.t 34)⟩,
  ⟨(some 41), none, .ext 3 (.t 34)⟩,
  ⟨none, none, .st 16 (.t 1) (.t 38)⟩,
  ⟨(some 6), none, .mv (.t 39)⟩,
  ⟨(some 7), none, .mv (.t 40)⟩,
  ⟨(some 8), none, .mv (.t 41)⟩]
@[reducible] def i10_R10 : List Iop := [⟨(some 43), none, .ld true 16 (.t 1)⟩,
  ⟨(some 44), none, .bsl 1 [.int .u8 0] 1 [(0, (.c (.int .u8 1)))]⟩,
  ⟨(some 45), none, .call 30 [(.t 43), (.c (.int .i64 2)), (.t 44)]⟩,
  ⟨(some 42), none, .mv (.t 45)⟩,
  ⟨(some 46), none, .ext 0 (.t 42)⟩,
  ⟨(some 47), none, .ext 1 (.t 42)⟩,
  ⟨(some 9), none, .alloc [.int .i64 0, .int .i64 0, .int .i64 0, .int .i64 0, .int .i64 0, .int .i64 0, .int .i64 0, .int .i64 0, .nil, .int .i64 0, .nil, .nil, .nil, .nil, .int .i64 0, .int .i64 0]⟩,
  ⟨none, none, .st 16 (.t 9) (.t 46)⟩,
  ⟨(some 10), none, .mv (.t 47)⟩]
@[reducible] def i10_R11 : List Iop := [⟨(some 48), none, .fa 4 (.t 1)⟩,
  ⟨(some 49), none, .ld false 1 (.t 48)⟩,
  ⟨(some 50), none, .bin .eql (.t 49) (.c (.int .i64 3))⟩,
  ⟨(some 51), none, .mv (.t 50)⟩,
  ⟨(some 52), (some (51, true)), .fa 2 (.t 1)⟩,
  ⟨(some 53), (some (51, true)), .ld false 1 (.t 52)⟩,
  ⟨(some 54), (some (51, true)), .bin .eql (.t 53) (.c (.int .i64 1))⟩,
  ⟨(some 55), none, .pick (.t 51) (.t 54) (.c (.bool false))⟩,
  ⟨(some 56), none, .mv (.t 55)⟩,
  ⟨(some 57), (some (56, true)), .mv (.t 8)⟩,
  ⟨(some 58), (some (56, true)), .bin .eql (.t 57) (.c (.int .i64 0))⟩,
  ⟨(some 59), none, .pick (.t 56) (.t 58) (.c (.bool false))⟩,
  ⟨(some 60), none, .mv (.t 59)⟩,
  ⟨(some 61), (some (60, true)), .mv (.t 6)⟩,
  ⟨(some 62), (some (60, true)), .bin .eql (.t 61) (.c (.int .i64 2))⟩,
  ⟨(some 63), none, .pick (.t 60) (.t 62) (.c (.bool false))⟩,
  ⟨(some 64), none, .mv (.t 63)⟩,
  ⟨(some 65), (some (64, true)), .fa 9 (.t 1)⟩,
  ⟨(some 66), (some (64, true)), .ld false 1 (.t 65)⟩,
  ⟨(some 67), (some (64, true)), .bin .eql (.t 66) (.c (.int .i64 2))⟩,
  ⟨(some 68), none, .pick (.t 64) (.t 67) (.c (.bool false))⟩,
  ⟨(some 69), none, .mv (.t 68)⟩,
  ⟨(some 70), (some (69, true)), .mv (.t 10)⟩,
  ⟨(some 71), (some (69, true)), .bin .eql (.t 70) (.c (.int .i64 0))⟩,
  ⟨(some 72), none, .pick (.t 69) (.t 71) (.c (.bool false))⟩,
  ⟨(some 73), none, .mv (.t 72)⟩,
  ⟨(some 74), (some (73, true)), .fa 6 (.t 9)⟩,
  ⟨(some 75), (some (73, true)), .fa 0 (.t 74)⟩,
  ⟨(some 76), (some (73, true)), .ld false 1 (.t 75)⟩,
  ⟨(some 77), (some (73, true)), .bin .eql (.t 76) (.c (.int .i64 2))⟩,
  ⟨(some 78), none, .pick (.t 73) (.t 77) (.c (.bool false))⟩,
  ⟨(some 79), none, .mv (.t 78)⟩,
  ⟨(some 80), (some (79, true)), .ld true 16 (.t 1)⟩,
  ⟨(some 81), (some (79, true)), .ld true 16 (.t 1)⟩,
  ⟨(some 82), (some (79, true)), .call 31 [(.t 81)]⟩,
  ⟨(some 83), (some (79, true)), .call 16 [(.t 80), (.t 82)]⟩,
  ⟨(some 84), none, .pick (.t 79) (.t 83) (.c (.bool false))⟩,
  ⟨(some 85), none, .mv (.t 84)⟩,
  ⟨(some 86), (some (85, true)), .ld true 16 (.t 1)⟩,
  ⟨(some 87), (some (85, true)), .ld true 16 (.t 9)⟩,
  ⟨(some 88), (some (85, true)), .call 16 [(.t 86), (.t 87)]⟩,
  ⟨(some 89), (some (85, true)), .nt (.t 88)⟩,
  ⟨(some 90), none, .pick (.t 85) (.t 89) (.c (.bool false))⟩,
  ⟨(some 0), none, .mv (.t 90)⟩]
@[reducible] def i10_B : IC := (.seq (.reg none i10_R0) (.seq (.reg none i10_R1) (.seq (.reg none i10_R2) (.seq (.seq (.reg none i10_R3) (.cond (.t 24) (.seq (.reg none i10_R4) .ret) .skip)) (.seq (.seq (.reg none i10_R5) (.block 0 (.loop i10_L0))) (.seq (.reg none i10_R9) (.seq (.reg none i10_R10) (.seq (.reg (some [(32, 34)]) i10_R11) .ret))))))))
@[reducible] def i10_V : List Nat := [0, 1, 2, 4, 5, 6, 8, 9, 10, 24, 26]
def i10 : IFn := ⟨91, i10_V, [.tmp 0], i10_B⟩
theorem i10_ok : compF Go.Proofs.Try.prog i10_V Go.Proofs.Try.f10 = some i10 := by kernel_rfl
/-! funicular/raft.New -/
@[reducible] def i11_R0 : List Iop := [⟨(some 4), none, .alloc [.int .i64 0, .int .i64 0, .int .i64 0, .int .i64 0, .int .i64 0, .int .i64 0, .int .i64 0, .int .i64 0, .nil, .int .i64 0, .nil, .nil, .nil, .nil, .int .i64 0, .int .i64 0]⟩,
  ⟨(some 5), none, .mv (.c (.int .i64 0))⟩]
@[reducible] def i11_R1 : List Iop := [⟨(some 6), none, .mv (.t 1)⟩,
  ⟨(some 7), none, .bin .lss (.t 6) (.c (.int .i64 1))⟩,
  ⟨(some 8), none, .mv (.t 7)⟩,
  ⟨(some 9), (some (8, false)), .mv (.t 1)⟩,
  ⟨(some 10), (some (8, false)), .bin .gtr (.t 9) (.c (.int .i64 7))⟩,
  ⟨(some 11), none, .pick (.t 8) (.c (.bool true)) (.t 10)⟩,
  ⟨(some 12), none, .mv (.t 11)⟩,
  ⟨(some 13), (some (12, false)), .mv (.t 0)⟩,
  ⟨(some 14), (some (12, false)), .bin .lss (.t 13) (.c (.int .i64 1))⟩,
  ⟨(some 15), none, .pick (.t 12) (.c (.bool true)) (.t 14)⟩,
  ⟨(some 16), none, .mv (.t 15)⟩,
  ⟨(some 17), (some (16, false)), .mv (.t 0)⟩,
  ⟨(some 18), (some (16, false)), .mv (.t 1)⟩,
  ⟨(some 19), (some (16, false)), .bin .gtr (.t 17) (.t 18)⟩,
  ⟨(some 20), none, .pick (.t 16) (.c (.bool true)) (.t 19)⟩]
@[reducible] def i11_R2 : List Iop := [⟨(some 21), none, .build [.int .i64 0, .int .i64 0, .int .i64 0, .int .i64 0, .int .i64 0, .int .i64 0, .int .i64 0, .int .i64 0, .nil, .int .i64 0, .nil, .nil, .nil, .nil, .int .i64 0, .int .i64 0] []⟩,
  ⟨none, none, .st 16 (.t 4) (.t 21)⟩,
  ⟨(some 5), none, .mv (.c (.int .i64 2))⟩]
@[reducible] def i11_R3 : List Iop := [⟨(some 22), none, .mv (.t 0)⟩,
  ⟨(some 23), none, .mv (.t 1)⟩,
  ⟨(some 24), none, .mv (.t 0)⟩,
  ⟨(some 25), none, .bin .add (.c (.int .i64 10)) (.t 24)⟩,
  ⟨(some 26), none, .build [.int .i64 0, .int .i64 0, .int .i64 0, .int .i64 0, .int .i64 0, .int .i64 0, .int .i64 0, .int .i64 0, .nil, .int .i64 0, .nil, .nil, .nil, .nil, .int .i64 0, .int .i64 0] [(0, 1, (.t 22)), (1, 1, (.t 23)), (15, 1, (.t 25))]⟩,
  ⟨none, none, .st 16 (.t 4) (.t 26)⟩,
  ⟨(some 5), none, .mv (.c (.int .i64 0))⟩]
@[reducible] def i11_B : IC := (.seq (.reg none i11_R0) (.seq (.seq (.reg none i11_R1) (.cond (.t 20) (.seq (.reg none i11_R2) .ret) .skip)) (.seq (.reg none i11_R3) .ret)))
@[reducible] def i11_V : List Nat := [0, 1, 4, 5, 20]
def i11 : IFn := ⟨27, i11_V, [.cell 4 true 16, .tmp 5], i11_B⟩
theorem i11_ok : compF Go.Proofs.Try.prog i11_V Go.Proofs.Try.f11 = some i11 := by kernel_rfl
/-! funicular/funicularref15.New -/
@[reducible] def i12_R0 : List Iop := [⟨(some 4), none, .alloc [.int .i64 0, .int .i64 0, .int .i64 0, .int .i64 0, .int .i64 0, .int .i64 0, .int .i64 0, .int .i64 0, .nil, .int .i64 0, .nil, .nil, .nil, .nil, .int .i64 0, .int .i64 0]⟩,
  ⟨(some 5), none, .mv (.c (.int .i64 0))⟩]
@[reducible] def i12_R1 : List Iop := [⟨(some 6), none, .mv (.t 1)⟩,
  ⟨(some 7), none, .bin .lss (.t 6) (.c (.int .i64 1))⟩,
  ⟨(some 8), none, .mv (.t 7)⟩,
  ⟨(some 9), (some (8, false)), .mv (.t 1)⟩,
  ⟨(some 10), (some (8, false)), .bin .gtr (.t 9) (.c (.int .i64 7))⟩,
  ⟨(some 11), none, .pick (.t 8) (.c (.bool true)) (.t 10)⟩,
  ⟨(some 12), none, .mv (.t 11)⟩,
  ⟨(some 13), (some (12, false)), .mv (.t 0)⟩,
  ⟨(some 14), (some (12, false)), .bin .lss (.t 13) (.c (.int .i64 1))⟩,
  ⟨(some 15), none, .pick (.t 12) (.c (.bool true)) (.t 14)⟩,
  ⟨(some 16), none, .mv (.t 15)⟩,
  ⟨(some 17), (some (16, false)), .mv (.t 0)⟩,
  ⟨(some 18), (some (16, false)), .mv (.t 1)⟩,
  ⟨(some 19), (some (16, false)), .bin .gtr (.t 17) (.t 18)⟩,
  ⟨(some 20), none, .pick (.t 16) (.c (.bool true)) (.t 19)⟩]
@[reducible] def i12_R2 : List Iop := [⟨(some 21), none, .build [.int .i64 0, .int .i64 0, .int .i64 0, .int .i64 0, .int .i64 0, .int .i64 0, .int .i64 0, .int .i64 0, .nil, .int .i64 0, .nil, .nil, .nil, .nil, .int .i64 0, .int .i64 0] []⟩,
  ⟨none, none, .st 16 (.t 4) (.t 21)⟩,
  ⟨(some 5), none, .mv (.c (.int .i64 2))⟩]
@[reducible] def i12_R3 : List Iop := [⟨(some 22), none, .mv (.t 0)⟩,
  ⟨(some 23), none, .mv (.t 1)⟩,
  ⟨(some 24), none, .mv (.t 0)⟩,
  ⟨(some 25), none, .bin .add (.c (.int .i64 10)) (.t 24)⟩,
  ⟨(some 26), none, .build [.int .i64 0, .int .i64 0, .int .i64 0, .int .i64 0, .int .i64 0, .int .i64 0, .int .i64 0, .int .i64 0, .nil, .int .i64 0, .nil, .nil, .nil, .nil, .int .i64 0, .int .i64 0] [(0, 1, (.t 22)), (1, 1, (.t 23)), (15, 1, (.t 25))]⟩,
  ⟨none, none, .st 16 (.t 4) (.t 26)⟩,
  ⟨(some 5), none, .mv (.c (.int .i64 0))⟩]
@[reducible] def i12_B : IC := (.seq (.reg none i12_R0) (.seq (.seq (.reg none i12_R1) (.cond (.t 20) (.seq (.reg none i12_R2) .ret) .skip)) (.seq (.reg none i12_R3) .ret)))
@[reducible] def i12_V : List Nat := [0, 1, 4, 5, 20]
def i12 : IFn := ⟨27, i12_V, [.cell 4 true 16, .tmp 5], i12_B⟩
theorem i12_ok : compF Go.Proofs.Try.prog i12_V Go.Proofs.Try.f12 = some i12 := by kernel_rfl
/-! funicular/raft.Restart -/
@[reducible] def i13_R0 : List Iop := [⟨(some 10), none, .box (.t 4)⟩,
  ⟨(some 12), none, .alloc [.int .i64 0, .int .i64 0, .int .i64 0, .int .i64 0, .int .i64 0, .int .i64 0, .int .i64 0, .int .i64 0, .nil, .int .i64 0, .nil, .nil, .nil, .nil, .int .i64 0, .int .i64 0]⟩,
  ⟨(some 13), none, .mv (.c (.int .i64 0))⟩]
@[reducible] def i13_R1 : List Iop := [⟨(some 17), none, .mv (.t 0)⟩,
  ⟨(some 18), none, .mv (.t 1)⟩,
  ⟨(some 19), none, .call 11 [(.t 17), (.t 18)]⟩,
  ⟨(some 16), none, .mv (.t 19)⟩,
  ⟨(some 20), none, .ext 0 (.t 16)⟩,
  ⟨(some 21), none, .ext 1 (.t 16)⟩,
  ⟨(some 14), none, .alloc [.int .i64 0, .int .i64 0, .int .i64 0, .int .i64 0, .int .i64 0, .int .i64 0, .int .i64 0, .int .i64 0, .nil, .int .i64 0, .nil, .nil, .nil, .nil, .int .i64 0, .int .i64 0]⟩,
  ⟨none, none, .st 16 (.t 14) (.t 20)⟩,
  ⟨(some 15), none, .mv (.t 21)⟩]
@[reducible] def i13_R2 : List Iop := [⟨(some 23), none, .mv (.t 15)⟩,
  ⟨(some 24), none, .bin .neq (.t 23) (.c (.int .i64 0))⟩,
  ⟨(some 22), none, .mv (.t 24)⟩]
@[reducible] def i13_R3 : List Iop := [⟨(some 25), none, .build [.int .i64 0, .int .i64 0, .int .i64 0, .int .i64 0, .int .i64 0, .int .i64 0, .int .i64 0, .int .i64 0, .nil, .int .i64 0, .nil, .nil, .nil, .nil, .int .i64 0, .int .i64 0] []⟩,
  ⟨(some 26), none, .mv (.t 15)⟩,
  ⟨none, none, .st 16 (.t 12) (.t 25)⟩,
  ⟨(some 13), none, .mv (.t 26)⟩]
@[reducible] def i13_R4 : List Iop := [⟨(some 28), none, .mv (.t 2)⟩,
  ⟨(some 29), none, .bin .lss (.t 28) (.c (.int .i64 0))⟩,
  ⟨(some 30), none, .mv (.t 29)⟩,
  ⟨(some 31), (some (30, false)), .mv (.t 2)⟩,
  ⟨(some 32), (some (30, false)), .bin .gtr (.t 31) (.c (.int .i64 1099511627776))⟩,
  ⟨(some 33), none, .pick (.t 30) (.c (.bool true)) (.t 32)⟩,
  ⟨(some 34), none, .mv (.t 33)⟩,
  ⟨(some 35), (some (34, false)), .mv (.t 3)⟩,
  ⟨(some 36), (some (34, false)), .bin .lss (.t 35) (.c (.int .i64 0))⟩,
  ⟨(some 37), none, .pick (.t 34) (.c (.bool true)) (.t 36)⟩,
  ⟨(some 38), none, .mv (.t 37)⟩,
  ⟨(some 39), (some (38, false)), .mv (.t 3)⟩,
  ⟨(some 40), (some (38, false)), .mv (.t 1)⟩,
  ⟨(some 41), (some (38, false)), .bin .gtr (.t 39) (.t 40)⟩,
  ⟨(some 42), none, .pick (.t 38) (.c (.bool true)) (.t 41)⟩,
  ⟨(some 43), none, .mv (.t 42)⟩,
  ⟨(some 44), (some (43, false)), .ld true 3 (.t 10)⟩,
  ⟨(some 45), (some (43, false)), .call 32 [(.t 44)]⟩,
  ⟨(some 46), (some (43, false)), .mv (.t 2)⟩,
  ⟨(some 47), (some (43, false)), .bin .gtr (.t 45) (.t 46)⟩,
  ⟨(some 48), none, .pick (.t 43) (.c (.bool true)) (.t 47)⟩,
  ⟨(some 49), none, .mv (.t 48)⟩,
  ⟨(some 50), (some (49, false)), .ld true 3 (.t 10)⟩,
  ⟨(some 51), (some (49, false)), .call 33 [(.t 50)]⟩,
  ⟨(some 52), (some (49, false)), .bin .neq (.t 51) (.c (.int .i64 0))⟩,
  ⟨(some 53), none, .pick (.t 49) (.c (.bool true)) (.t 52)⟩,
  ⟨(some 27), none, .mv (.t 53)⟩]
@[reducible] def i13_R5 : List Iop := [⟨(some 54), none, .build [.int .i64 0, .int .i64 0, .int .i64 0, .int .i64 0, .int .i64 0, .int .i64 0, .int .i64 0, .int .i64 0, .nil, .int .i64 0, .nil, .nil, .nil, .nil, .int .i64 0, .int .i64 0] []⟩,
  ⟨none, none, .st 16 (.t 12) (.t 54)⟩,
  ⟨(some 13), none, .mv (.c (.int .i64 1))⟩]
@[reducible] def i13_R6 : List Iop := [⟨(some 55), none, .mv (.t 2)⟩,
  ⟨(some 56), none, .mv (.t 3)⟩,
  ⟨(some 57), none, .ld true 3 (.t 10)⟩,
  ⟨(some 58), none, .call 34 [(.t 57)]⟩,
  ⟨(some 59), none, .fa 0 (.t 10)⟩,
  ⟨(some 60), none, .ld false 1 (.t 59)⟩,
  ⟨(some 61), none, .mv (.t 5)⟩,
  ⟨(some 62), none, .cln 1 (.t 61)⟩,
  ⟨(some 63), none, .fa 2 (.t 14)⟩,
  ⟨none, none, .st 1 (.t 63) (.t 55)⟩,
  ⟨(some 64), none, .fa 3 (.t 14)⟩,
  ⟨none, none, .st 1 (.t 64) (.t 56)⟩,
  ⟨(some 65), none, .fa 6 (.t 14)⟩,
  ⟨none, none, .st 3 (.t 65) (.t 58)⟩,
  ⟨(some 66), none, .fa 9 (.t 14)⟩,
  ⟨none, none, .st 1 (.t 66) (.t 60)⟩,
  ⟨(some 67), none, .fa 10 (.t 14)⟩,
  ⟨none, none, .st 1 (.t 67) (.t 62)⟩]
@[reducible] def i13_R7 : List Iop := [⟨(some 68), none, .ld true 16 (.t 14)⟩,
  ⟨none, none, .st 16 (.t 12) (.t 68)⟩,
  ⟨(some 13), none, .mv (.c (.int .i64 0))⟩]
@[reducible] def i13_B : IC := (.seq (.reg none i13_R0) (.seq (.reg none i13_R1) (.seq (.block 0 (.seq (.reg none i13_R2) (.cond (.t 22) (.seq (.reg none i13_R3) .ret) (.seq (.reg none i13_R4) (.cond (.t 27) (.seq (.reg none i13_R5) .ret) .skip))))) (.seq (.reg (some [(3, 5), (5, 7), (5, 9), (5, 11), (5, 13)]) i13_R6) (.seq (.reg none i13_R7) .ret)))))
@[reducible] def i13_V : List Nat := [0, 1, 2, 3, 4, 5, 10, 12, 13, 14, 15, 22, 27]
def i13 : IFn := ⟨69, i13_V, [.cell 12 true 16, .tmp 13], i13_B⟩
theorem i13_ok : compF Go.Proofs.Try.prog i13_V Go.Proofs.Try.f13 = some i13 := by kernel_rfl
/-! funicular/funicularref15.Restart -/
@[reducible] def i14_R0 : List Iop := [⟨(some 10), none, .box (.t 4)⟩,
  ⟨(some 12), none, .alloc [.int .i64 0, .int .i64 0, .int .i64 0, .int .i64 0, .int .i64 0, .int .i64 0, .int .i64 0, .int .i64 0, .nil, .int .i64 0, .nil, .nil, .nil, .nil, .int .i64 0, .int .i64 0]⟩,
  ⟨(some 13), none, .mv (.c (.int .i64 0))⟩]
@[reducible] def i14_R1 : List Iop := [⟨(some 19), none, .mv (.t 0)⟩,
  ⟨(some 20), none, .mv (.t 1)⟩,
  ⟨(some 21), none, .call 12 [(.t 19), (.t 20)]⟩,
  ⟨(some 18), none, .mv (.t 21)⟩,
  ⟨(some 22), none, .ext 0 (.t 18)⟩,
  ⟨(some 23), none, .ext 1 (.t 18)⟩,
  ⟨(some 14), none, .alloc [.int .i64 0, .int .i64 0, .int .i64 0, .int .i64 0, .int .i64 0, .int .i64 0, .int .i64 0, .int .i64 0, .nil, .int .i64 0, .nil, .nil, .nil, .nil, .int .i64 0, .int .i64 0]⟩,
  ⟨none, none, .st 16 (.t 14) (.t 22)⟩,
  ⟨(some 15), none, .mv (.t 23)⟩]
@[reducible] def i14_R2 : List Iop := [⟨(some 24), none, .mv (.t 15)⟩,
  ⟨(some 25), none, .bin .neq (.t 24) (.c (.int .i64 0))⟩]
@[reducible] def i14_R3 : List Iop := [⟨(some 26), none, .build [.int .i64 0, .int .i64 0, .int .i64 0, .int .i64 0, .int .i64 0, .int .i64 0, .int .i64 0, .int .i64 0, .nil, .int .i64 0, .nil, .nil, .nil, .nil, .int .i64 0, .int .i64 0] []⟩,
  ⟨(some 27), none, .mv (.t 15)⟩,
  ⟨none, none, .st 16 (.t 12) (.t 26)⟩,
  ⟨(some 13), none, .mv (.t 27)⟩]
@[reducible] def i14_R4 : List Iop := [⟨(some 29), none, .ld true 3 (.t 10)⟩,
  ⟨(some 30), none, .ld true 3 (.t 10)⟩,
  ⟨(some 31), none, .call 25 [(.t 30)]⟩,
  ⟨(some 32), none, .call 36 [(.t 29), (.t 31)]⟩,
  ⟨(some 28), none, .mv (.t 32)⟩,
  ⟨(some 33), none, .ext 0 (.t 28)⟩,
  ⟨(some 34), none, .ext 1 (.t 28)⟩,
  ⟨(some 16), none, .mv (.t 33)⟩,
  ⟨(some 17), none, .mv (.t 34)⟩]
@[reducible] def i14_R5 : List Iop := [⟨(some 35), none, .mv (.t 2)⟩,
  ⟨(some 36), none, .bin .lss (.t 35) (.c (.int .i64 0))⟩,
  ⟨(some 37), none, .mv (.t 36)⟩,
  ⟨(some 38), (some (37, false)), .mv (.t 2)⟩,
  ⟨(some 39), (some (37, false)), .bin .gtr (.t 38) (.c (.int .i64 1099511627776))⟩,
  ⟨(some 40), none, .pick (.t 37) (.c (.bool true)) (.t 39)⟩,
  ⟨(some 41), none, .mv (.t 40)⟩,
  ⟨(some 42), (some (41, false)), .mv (.t 3)⟩,
  ⟨(some 43), (some (41, false)), .bin .lss (.t 42) (.c (.int .i64 0))⟩,
  ⟨(some 44), none, .pick (.t 41) (.c (.bool true)) (.t 43)⟩,
  ⟨(some 45), none, .mv (.t 44)⟩,
  ⟨(some 46), (some (45, false)), .mv (.t 3)⟩,
  ⟨(some 47), (some (45, false)), .mv (.t 1)⟩,
  ⟨(some 48), (some (45, false)), .bin .gtr (.t 46) (.t 47)⟩,
  ⟨(some 49), none, .pick (.t 45) (.c (.bool true)) (.t 48)⟩,
  ⟨(some 50), none, .mv (.t 49)⟩,
  ⟨(some 51), (some (50, false)), .mv (.t 16)⟩,
  ⟨(some 52), (some (50, false)), .mv (.t 2)⟩,
  ⟨(some 53), (some (50, false)), .bin .gtr (.t 51) (.t 52)⟩,
  ⟨(some 54), none, .pick (.t 50) (.c (.bool true)) (.t 53)⟩,
  ⟨(some 55), none, .mv (.t 54)⟩,
  ⟨(some 56), (some (55, false)), .ld true 3 (.t 10)⟩,
  ⟨(some 57), (some (55, false)), .call 21 [(.t 56)]⟩,
  ⟨(some 58), (some (55, false)), .bin .neq (.t 57) (.c (.int .i64 0))⟩,
  ⟨(some 59), none, .pick (.t 55) (.c (.bool true)) (.t 58)⟩]
@[reducible] def i14_R6 : List Iop := [⟨(some 60), none, .build [.int .i64 0, .int .i64 0, .int .i64 0, .int .i64 0, .int .i64 0, .int .i64 0, .int .i64 0, .int .i64 0, .nil, .int .i64 0, .nil, .nil, .nil, .nil, .int .i64 0, .int .i64 0] []⟩,
  ⟨none, none, .st 16 (.t 12) (.t 60)⟩,
  ⟨(some 13), none, .mv (.c (.int .i64 1))⟩]
@[reducible] def i14_R7 : List Iop := [⟨(some 61), none, .mv (.t 2)⟩,
  ⟨(some 62), none, .fa 2 (.t 14)⟩,
  ⟨none, none, .st 1 (.t 62) (.t 61)⟩]
@[reducible] def i14_R8 : List Iop := [⟨(some 63), none, .mv (.t 3)⟩,
  ⟨(some 64), none, .fa 3 (.t 14)⟩,
  ⟨none, none, .st 1 (.t 64) (.t 63)⟩]
@[reducible] def i14_R9 : List Iop := [⟨(some 65), none, .ld true 3 (.t 10)⟩,
  ⟨(some 66), none, .fa 6 (.t 14)⟩,
  ⟨none, none, .st 3 (.t 66) (.t 65)⟩]
@[reducible] def i14_R10 : List Iop := [⟨(some 67), none, .fa 0 (.t 10)⟩,
  ⟨(some 68), none, .ld false 1 (.t 67)⟩,
  ⟨(some 69), none, .fa 9 (.t 14)⟩,
  ⟨none, none, .st 1 (.t 69) (.t 68)⟩]
@[reducible] def i14_R11 : List Iop := [⟨(some 70), none, .mv (.t 5)⟩,
  ⟨(some 71), none, .fa 10 (.t 14)⟩,
  ⟨none, none, .st 1 (.t 71) (.t 70)⟩]
@[reducible] def i14_R12 : List Iop := [⟨(some 72), none, .ld true 16 (.t 14)⟩,
  ⟨none, none, .st 16 (.t 12) (.t 72)⟩,
  ⟨(some 13), none, .mv (.c (.int .i64 0))⟩]
@[reducible] def i14_B : IC := (.seq (.reg none i14_R0) (.seq (.reg none i14_R1) (.seq (.seq (.reg none i14_R2) (.cond (.t 25) (.seq (.reg none i14_R3) .ret) .skip)) (.seq (.reg (some [(0, 2)]) i14_R4) (.seq (.seq (.reg none i14_R5) (.cond (.t 59) (.seq (.reg none i14_R6) .ret) .skip)) (.seq (.reg none i14_R7) (.seq (.reg none i14_R8) (.seq (.reg none i14_R9) (.seq (.reg none i14_R10) (.seq (.reg none i14_R11) (.seq (.reg none i14_R12) .ret)))))))))))
@[reducible] def i14_V : List Nat := [0, 1, 2, 3, 4, 5, 10, 12, 13, 14, 15, 16, 25, 59]
def i14 : IFn := ⟨73, i14_V, [.cell 12 true 16, .tmp 13], i14_B⟩
theorem i14_ok : compF Go.Proofs.Try.prog i14_V Go.Proofs.Try.f14 = some i14 := by kernel_rfl
/-! funicular/funicularref15.Same -/
@[reducible] def i15_R0 : List Iop := [⟨(some 2), none, .box (.t 0)⟩,
  ⟨(some 3), none, .box (.t 1)⟩,
  ⟨(some 4), none, .mv (.c (.bool false))⟩]
@[reducible] def i15_R1 : List Iop := [⟨(some 5), none, .fa 0 (.t 2)⟩,
  ⟨(some 6), none, .ld false 1 (.t 5)⟩,
  ⟨(some 7), none, .fa 0 (.t 3)⟩,
  ⟨(some 8), none, .ld false 1 (.t 7)⟩,
  ⟨(some 9), none, .bin .neq (.t 6) (.t 8)⟩,
  ⟨(some 10), none, .mv (.t 9)⟩,
  ⟨(some 11), (some (10, false)), .fa 1 (.t 2)⟩,
  ⟨(some 12), (some (10, false)), .ld false 1 (.t 11)⟩,
  ⟨(some 13), (some (10, false)), .fa 1 (.t 3)⟩,
  ⟨(some 14), (some (10, false)), .ld false 1 (.t 13)⟩,
  ⟨(some 15), (some (10, false)), .bin .neq (.t 12) (.t 14)⟩,
  ⟨(some 16), none, .pick (.t 10) (.c (.bool true)) (.t 15)⟩,
  ⟨(some 17), none, .mv (.t 16)⟩,
  ⟨(some 18), (some (17, false)), .fa 2 (.t 2)⟩,
  ⟨(some 19), (some (17, false)), .ld false 1 (.t 18)⟩,
  ⟨(some 20), (some (17, false)), .fa 2 (.t 3)⟩,
  ⟨(some 21), (some (17, false)), .ld false 1 (.t 20)⟩,
  ⟨(some 22), (some (17, false)), .bin .neq (.t 19) (.t 21)⟩,
  ⟨(some 23), none, .pick (.t 17) (.c (.bool true)) (.t 22)⟩,
  ⟨(some 24), none, .mv (.t 23)⟩,
  ⟨(some 25), (some (24, false)), .fa 3 (.t 2)⟩,
  ⟨(some 26), (some (24, false)), .ld false 1 (.t 25)⟩,
  ⟨(some 27), (some (24, false)), .fa 3 (.t 3)⟩,
  ⟨(some 28), (some (24, false)), .ld false 1 (.t 27)⟩,
  ⟨(some 29), (some (24, false)), .bin .neq (.t 26) (.t 28)⟩,
  ⟨(some 30), none, .pick (.t 24) (.c (.bool true)) (.t 29)⟩,
  ⟨(some 31), none, .mv (.t 30)⟩,
  ⟨(some 32), (some (31, false)), .fa 4 (.t 2)⟩,
  ⟨(some 33), (some (31, false)), .ld false 1 (.t 32)⟩,
  ⟨(some 34), (some (31, false)), .fa 4 (.t 3)⟩,
  ⟨(some 35), (some (31, false)), .ld false 1 (.t 34)⟩,
  ⟨(some 36), (some (31, false)), .bin .neq (.t 33) (.t 35)⟩,
  ⟨(some 37), none, .pick (.t 31) (.c (.bool true)) (.t 36)⟩,
  ⟨(some 38), none, .mv (.t 37)⟩,
  ⟨(some 39), (some (38, false)), .fa 5 (.t 2)⟩,
  ⟨(some 40), (some (38, false)), .ld false 1 (.t 39)⟩,
  ⟨(some 41), (some (38, false)), .fa 5 (.t 3)⟩,
  ⟨(some 42), (some (38, false)), .ld false 1 (.t 41)⟩,
  ⟨(some 43), (some (38, false)), .bin .neq (.t 40) (.t 42)⟩,
  ⟨(some 44), none, .pick (.t 38) (.c (.bool true)) (.t 43)⟩]
@[reducible] def i15_R2 : List Iop := [⟨(some 4), none, .mv (.c (.bool false))⟩]
@[reducible] def i15_R3 : List Iop := [⟨(some 45), none, .fa 9 (.t 2)⟩,
  ⟨(some 46), none, .ld false 1 (.t 45)⟩,
  ⟨(some 47), none, .fa 9 (.t 3)⟩,
  ⟨(some 48), none, .ld false 1 (.t 47)⟩,
  ⟨(some 49), none, .bin .neq (.t 46) (.t 48)⟩,
  ⟨(some 50), none, .mv (.t 49)⟩,
  ⟨(some 51), (some (50, false)), .fa 14 (.t 2)⟩,
  ⟨(some 52), (some (50, false)), .ld false 1 (.t 51)⟩,
  ⟨(some 53), (some (50, false)), .fa 14 (.t 3)⟩,
  ⟨(some 54), (some (50, false)), .ld false 1 (.t 53)⟩,
  ⟨(some 55), (some (50, false)), .bin .neq (.t 52) (.t 54)⟩,
  ⟨(some 56), none, .pick (.t 50) (.c (.bool true)) (.t 55)⟩,
  ⟨(some 57), none, .mv (.t 56)⟩,
  ⟨(some 58), (some (57, false)), .fa 15 (.t 2)⟩,
  ⟨(some 59), (some (57, false)), .ld false 1 (.t 58)⟩,
  ⟨(some 60), (some (57, false)), .fa 15 (.t 3)⟩,
  ⟨(some 61), (some (57, false)), .ld false 1 (.t 60)⟩,
  ⟨(some 62), (some (57, false)), .bin .neq (.t 59) (.t 61)⟩,
  ⟨(some 63), none, .pick (.t 57) (.c (.bool true)) (.t 62)⟩,
  ⟨(some 64), none, .mv (.t 63)⟩,
  ⟨(some 65), (some (64, false)), .fa 10 (.t 2)⟩,
  ⟨(some 66), (some (64, false)), .ld false 1 (.t 65)⟩,
  ⟨(some 67), (some (64, false)), .b2s (.t 66)⟩,
  ⟨(some 68), (some (64, false)), .fa 10 (.t 3)⟩,
  ⟨(some 69), (some (64, false)), .ld false 1 (.t 68)⟩,
  ⟨(some 70), (some (64, false)), .b2s (.t 69)⟩,
  ⟨(some 71), (some (64, false)), .bin .neq (.t 67) (.t 70)⟩,
  ⟨(some 72), none, .pick (.t 64) (.c (.bool true)) (.t 71)⟩]
@[reducible] def i15_R4 : List Iop := [⟨(some 4), none, .mv (.c (.bool false))⟩]
@[reducible] def i15_R5 : List Iop := [⟨(some 73), none, .fa 6 (.t 2)⟩,
  ⟨(some 74), none, .ld true 3 (.t 73)⟩,
  ⟨(some 75), none, .fa 6 (.t 3)⟩,
  ⟨(some 76), none, .ld true 3 (.t 75)⟩,
  ⟨(some 77), none, .call 37 [(.t 74), (.t 76)]⟩,
  ⟨(some 78), none, .mv (.t 77)⟩,
  ⟨(some 79), (some (78, true)), .fa 11 (.t 2)⟩,
  ⟨(some 80), (some (78, true)), .ld false 1 (.t 79)⟩,
  ⟨(some 81), (some (78, true)), .fa 11 (.t 3)⟩,
  ⟨(some 82), (some (78, true)), .ld false 1 (.t 81)⟩,
  ⟨(some 83), (some (78, true)), .call 38 [(.t 80), (.t 82)]⟩,
  ⟨(some 84), none, .pick (.t 78) (.t 83) (.c (.bool false))⟩,
  ⟨(some 85), none, .mv (.t 84)⟩,
  ⟨(some 86), (some (85, true)), .fa 12 (.t 2)⟩,
  ⟨(some 87), (some (85, true)), .ld false 1 (.t 86)⟩,
  ⟨(some 88), (some (85, true)), .fa 12 (.t 3)⟩,
  ⟨(some 89), (some (85, true)), .ld false 1 (.t 88)⟩,
  ⟨(some 90), (some (85, true)), .call 39 [(.t 87), (.t 89)]⟩,
  ⟨(some 91), none, .pick (.t 85) (.t 90) (.c (.bool false))⟩,
  ⟨(some 92), none, .mv (.t 91)⟩,
  ⟨(some 93), (some (92, true)), .fa 13 (.t 2)⟩,
  ⟨(some 94), (some (92, true)), .ld false 1 (.t 93)⟩,
  ⟨(some 95), (some (92, true)), .fa 13 (.t 3)⟩,
  ⟨(some 96), (some (92, true)), .ld false 1 (.t 95)⟩,
  ⟨(some 97), (some (92, true)), .call 39 [(.t 94), (.t 96)]⟩,
  ⟨(some 98), none, .pick (.t 92) (.t 97) (.c (.bool false))⟩,
  ⟨(some 4), none, .mv (.t 98)⟩]
@[reducible] def i15_B : IC := (.seq (.reg none i15_R0) (.seq (.seq (.reg none i15_R1) (.cond (.t 44) (.seq (.reg none i15_R2) .ret) .skip)) (.seq (.seq (.reg none i15_R3) (.cond (.t 72) (.seq (.reg none i15_R4) .ret) .skip)) (.seq (.reg none i15_R5) .ret))))
@[reducible] def i15_V : List Nat := [0, 1, 2, 3, 4, 44, 72]
def i15 : IFn := ⟨99, i15_V, [.tmp 4], i15_B⟩
theorem i15_ok : compF Go.Proofs.Try.prog i15_V Go.Proofs.Try.f15 = some i15 := by kernel_rfl
/-! funicular/raft.Same -/
@[reducible] def i16_R0 : List Iop := [⟨(some 2), none, .box (.t 0)⟩,
  ⟨(some 3), none, .box (.t 1)⟩,
  ⟨(some 4), none, .mv (.c (.bool false))⟩]
@[reducible] def i16_R1 : List Iop := [⟨(some 5), none, .mv (.c (.fn (.func 40) [] []))⟩]
@[reducible] def i16_R2 : List Iop := [⟨(some 6), none, .mv (.t 5)⟩,
  ⟨(some 7), none, .ld true 16 (.t 2)⟩,
  ⟨(some 8), none, .callv (.t 6) [(.t 7)]⟩,
  ⟨(some 9), none, .mv (.t 5)⟩,
  ⟨(some 10), none, .ld true 16 (.t 3)⟩,
  ⟨(some 11), none, .callv (.t 9) [(.t 10)]⟩,
  ⟨(some 12), none, .eqc false [(0, 1), (1, 1), (2, 1), (3, 1), (4, 1), (5, 1), (6, 1), (7, 1), (8, 1), (9, 1)] (.t 8) (.t 11)⟩,
  ⟨(some 13), none, .mv (.t 12)⟩,
  ⟨(some 14), (some (13, true)), .fa 6 (.t 2)⟩,
  ⟨(some 15), (some (13, true)), .ld true 3 (.t 14)⟩,
  ⟨(some 16), (some (13, true)), .fa 6 (.t 3)⟩,
  ⟨(some 17), (some (13, true)), .ld true 3 (.t 16)⟩,
  ⟨(some 18), (some (13, true)), .call 41 [(.t 15), (.t 17)]⟩,
  ⟨(some 19), none, .pick (.t 13) (.t 18) (.c (.bool false))⟩,
  ⟨(some 20), none, .mv (.t 19)⟩,
  ⟨(some 21), (some (20, true)), .fa 10 (.t 2)⟩,
  ⟨(some 22), (some (20, true)), .ld false 1 (.t 21)⟩,
  ⟨(some 23), (some (20, true)), .fa 10 (.t 3)⟩,
  ⟨(some 24), (some (20, true)), .ld false 1 (.t 23)⟩,
  ⟨(some 25), (some (20, true)), .call 42 [(.t 22), (.t 24)]⟩,
  ⟨(some 26), none, .pick (.t 20) (.t 25) (.c (.bool false))⟩,
  ⟨(some 27), none, .mv (.t 26)⟩,
  ⟨(some 28), (some (27, true)), .fa 11 (.t 2)⟩,
  ⟨(some 29), (some (27, true)), .ld false 1 (.t 28)⟩,
  ⟨(some 30), (some (27, true)), .fa 11 (.t 3)⟩,
  ⟨(some 31), (some (27, true)), .ld false 1 (.t 30)⟩,
  ⟨(some 32), (some (27, true)), .call 43 [(.t 29), (.t 31)]⟩,
  ⟨(some 33), none, .pick (.t 27) (.t 32) (.c (.bool false))⟩,
  ⟨(some 34), none, .mv (.t 33)⟩,
  ⟨(some 35), (some (34, true)), .fa 12 (.t 2)⟩,
  ⟨(some 36), (some (34, true)), .ld false 1 (.t 35)⟩,
  ⟨(some 37), (some (34, true)), .fa 12 (.t 3)⟩,
  ⟨(some 38), (some (34, true)), .ld false 1 (.t 37)⟩,
  ⟨(some 39), (some (34, true)), .call 44 [(.t 36), (.t 38)]⟩,
  ⟨(some 40), none, .pick (.t 34) (.t 39) (.c (.bool false))⟩,
  ⟨(some 41), none, .mv (.t 40)⟩,
  ⟨(some 42), (some (41, true)), .fa 13 (.t 2)⟩,
  ⟨(some 43), (some (41, true)), .ld false 1 (.t 42)⟩,
  ⟨(some 44), (some (41, true)), .fa 13 (.t 3)⟩,
  ⟨(some 45), (some (41, true)), .ld false 1 (.t 44)⟩,
  ⟨(some 46), (some (41, true)), .call 44 [(.t 43), (.t 45)]⟩,
  ⟨(some 47), none, .pick (.t 41) (.t 46) (.c (.bool false))⟩,
  ⟨(some 4), none, .mv (.t 47)⟩]
@[reducible] def i16_B : IC := (.seq (.reg none i16_R0) (.seq (.reg none i16_R1) (.seq (.reg (some [(2, 4)]) i16_R2) .ret)))
@[reducible] def i16_V : List Nat := [0, 1, 2, 3, 4, 5]
def i16 : IFn := ⟨48, i16_V, [.tmp 4], i16_B⟩
theorem i16_ok : compF Go.Proofs.Try.prog i16_V Go.Proofs.Try.f16 = some i16 := by kernel_rfl
/-! funicular/funicularref13.Check -/
@[reducible] def i21_R0 : List Iop := [⟨(some 1), none, .box (.t 0)⟩,
  ⟨(some 2), none, .mv (.c (.int .i64 0))⟩]
@[reducible] def i21_R1 : List Iop := [⟨(some 3), none, .mv (.c (.int .i64 1099511627776))⟩]
@[reducible] def i21_R2 : List Iop := [⟨(some 6), none, .fa 0 (.t 1)⟩,
  ⟨(some 7), none, .ld false 1 (.t 6)⟩,
  ⟨(some 8), none, .bin .lss (.t 7) (.c (.int .i64 0))⟩,
  ⟨(some 9), none, .mv (.t 8)⟩,
  ⟨(some 10), (some (9, false)), .fa 0 (.t 1)⟩,
  ⟨(some 11), (some (9, false)), .ld false 1 (.t 10)⟩,
  ⟨(some 12), (some (9, false)), .mv (.t 3)⟩,
  ⟨(some 13), (some (9, false)), .bin .gtr (.t 11) (.t 12)⟩,
  ⟨(some 14), none, .pick (.t 9) (.c (.bool true)) (.t 13)⟩,
  ⟨(some 15), none, .mv (.t 14)⟩,
  ⟨(some 16), (some (15, false)), .fa 1 (.t 1)⟩,
  ⟨(some 17), (some (15, false)), .ld false 1 (.t 16)⟩,
  ⟨(some 18), (some (15, false)), .bin .lss (.t 17) (.c (.int .i64 0))⟩,
  ⟨(some 19), none, .pick (.t 15) (.c (.bool true)) (.t 18)⟩,
  ⟨(some 20), none, .mv (.t 19)⟩,
  ⟨(some 21), (some (20, false)), .fa 1 (.t 1)⟩,
  ⟨(some 22), (some (20, false)), .ld false 1 (.t 21)⟩,
  ⟨(some 23), (some (20, false)), .mv (.t 3)⟩,
  ⟨(some 24), (some (20, false)), .bin .gtr (.t 22) (.t 23)⟩,
  ⟨(some 25), none, .pick (.t 20) (.c (.bool true)) (.t 24)⟩]
@[reducible] def i21_R3 : List Iop := [⟨(some 2), none, .mv (.c (.int .i64 1))⟩]
@[reducible] def i21_R4 : List Iop := [⟨(some 26), none, .fa 0 (.t 1)⟩,
  ⟨(some 27), none, .ld false 1 (.t 26)⟩,
  ⟨(some 28), none, .bin .eql (.t 27) (.c (.int .i64 0))⟩,
  ⟨(some 29), none, .mv (.t 28)⟩,
  ⟨(some 30), (some (29, true)), .fa 1 (.t 1)⟩,
  ⟨(some 31), (some (29, true)), .ld false 1 (.t 30)⟩,
  ⟨(some 32), (some (29, true)), .bin .neq (.t 31) (.c (.int .i64 0))⟩,
  ⟨(some 33), none, .pick (.t 29) (.t 32) (.c (.bool false))⟩,
  ⟨(some 34), none, .mv (.t 33)⟩,
  ⟨(some 35), (some (34, false)), .fa 0 (.t 1)⟩,
  ⟨(some 36), (some (34, false)), .ld false 1 (.t 35)⟩,
  ⟨(some 37), (some (34, false)), .bin .neq (.t 36) (.c (.int .i64 0))⟩,
  ⟨(some 38), (some (34, false)), .mv (.t 37)⟩,
  ⟨(some 39), (some (38, true)), .fa 1 (.t 1)⟩,
  ⟨(some 40), (some (38, true)), .ld false 1 (.t 39)⟩,
  ⟨(some 41), (some (38, true)), .bin .eql (.t 40) (.c (.int .i64 0))⟩,
  ⟨(some 42), (some (34, false)), .pick (.t 38) (.t 41) (.c (.bool false))⟩,
  ⟨(some 43), none, .pick (.t 34) (.c (.bool true)) (.t 42)⟩]
@[reducible] def i21_R5 : List Iop := [⟨(some 2), none, .mv (.c (.int .i64 1))⟩]
@[reducible] def i21_R6 : List Iop := [⟨(some 4), none, .mv (.c (.int .i64 0))⟩]
@[reducible] def i21_R7 : List Iop := [⟨(some 44), none, .mv (.t 4)⟩,
  ⟨(some 45), none, .fa 2 (.t 1)⟩,
  ⟨(some 46), none, .ld false 1 (.t 45)⟩,
  ⟨(some 47), none, .lenl (.t 46)⟩,
  ⟨(some 48), none, .bin .lss (.t 44) (.t 47)⟩]
@[reducible] def i21_R8 : List Iop := [⟨(some 51), none, .fa 2 (.t 1)⟩,
  ⟨(some 52), none, .ld false 1 (.t 51)⟩,
  ⟨(some 53), none, .mv (.t 4)⟩,
  ⟨(some 54), none, .ias 2 (.t 52) (.t 53)⟩,
  ⟨(some 55), none, .fa 0 (.t 54)⟩,
  ⟨(some 56), none, .ld false 1 (.t 55)⟩,
  ⟨(some 5), none, .mv (.t 56)⟩]
@[reducible] def i21_R9 : List Iop := [⟨(some 57), none, .mv (.t 5)⟩,
  ⟨(some 58), none, .bin .lss (.t 57) (.c (.int .i64 1))⟩,
  ⟨(some 59), none, .mv (.t 58)⟩,
  ⟨(some 60), (some (59, false)), .mv (.t 5)⟩,
  ⟨(some 61), (some (59, false)), .mv (.t 3)⟩,
  ⟨(some 62), (some (59, false)), .bin .gtr (.t 60) (.t 61)⟩,
  ⟨(some 63), none, .pick (.t 59) (.c (.bool true)) (.t 62)⟩,
  ⟨(some 64), none, .mv (.t 63)⟩,
  ⟨(some 65), (some (64, false)), .mv (.t 5)⟩,
  ⟨(some 66), (some (64, false)), .fa 1 (.t 1)⟩,
  ⟨(some 67), (some (64, false)), .ld false 1 (.t 66)⟩,
  ⟨(some 68), (some (64, false)), .bin .lss (.t 65) (.t 67)⟩,
  ⟨(some 69), none, .pick (.t 64) (.c (.bool true)) (.t 68)⟩,
  ⟨(some 70), none, .mv (.t 69)⟩,
  ⟨(some 71), (some (70, false)), .mv (.t 4)⟩,
  ⟨(some 72), (some (70, false)), .bin .gtr (.t 71) (.c (.int .i64 0))⟩,
  ⟨(some 73), (some (70, false)), .mv (.t 72)⟩,
  ⟨(some 74), (some (73, true)), .mv (.t 5)⟩,
  ⟨(some 75), (some (73, true)), .fa 2 (.t 1)⟩,
  ⟨(some 76), (some (73, true)), .ld false 1 (.t 75)⟩,
  ⟨(some 77), (some (73, true)), .mv (.t 4)⟩,
  ⟨(some 78), (some (73, true)), .bin .sub (.t 77) (.c (.int .i64 1))⟩,
  ⟨(some 79), (some (73, true)), .ias 2 (.t 76) (.t 78)⟩,
  ⟨(some 80), (some (73, true)), .fa 0 (.t 79)⟩,
  ⟨(some 81), (some (73, true)), .ld false 1 (.t 80)⟩,
  ⟨(some 82), (some (73, true)), .bin .lss (.t 74) (.t 81)⟩,
  ⟨(some 83), (some (70, false)), .pick (.t 73) (.t 82) (.c (.bool false))⟩,
  ⟨(some 84), none, .pick (.t 70) (.c (.bool true)) (.t 83)⟩]
@[reducible] def i21_R10 : List Iop := [⟨(some 2), none, .mv (.c (.int .i64 1))⟩]
@[reducible] def i21_R11 : List Iop := [⟨(some 49), none, .mv (.t 4)⟩,
  ⟨(some 50), none, .bin .add (.t 49) (.c (.int .i64 1))⟩,
  ⟨(some 4), none, .mv (.t 50)⟩]
@[reducible] def i21_L0 : IC := (.seq (.seq (.reg none i21_R7) (.cond (.t 48) .skip (.out 0))) (.seq (.block 1 (.seq (.reg none i21_R8) (.seq (.reg none i21_R9) (.cond (.t 84) (.seq (.reg none i21_R10) .ret) .skip)))) (.reg none i21_R11)))
@[reducible] def i21_R12 : List Iop := [⟨(some 2), none, .mv (.c (.int .i64 0))⟩]
@[reducible] def i21_B : IC := (.seq (.reg none i21_R0) (.seq (.reg none i21_R1) (.seq (.seq (.reg none i21_R2) (.cond (.t 25) (.seq (.reg none i21_R3) .ret) .skip)) (.seq (.seq (.reg none i21_R4) (.cond (.t 43) (.seq (.reg none i21_R5) .ret) .skip)) (.seq (.seq (.reg none i21_R6) (.block 0 (.loop i21_L0))) (.seq (.reg none i21_R12) .ret))))))
@[reducible] def i21_V : List Nat := [0, 1, 2, 3, 4, 5, 25, 43, 48, 84]
def i21 : IFn := ⟨85, i21_V, [.tmp 2], i21_B⟩
theorem i21_ok : compF Go.Proofs.Try.prog i21_V Go.Proofs.Try.f21 = some i21 := by kernel_rfl
/-! funicular/funicularref13.Last -/
@[reducible] def i25_R0 : List Iop := [⟨(some 1), none, .box (.t 0)⟩,
  ⟨(some 2), none, .mv (.c (.int .i64 0))⟩]
@[reducible] def i25_R1 : List Iop := [⟨(some 3), none, .fa 0 (.t 1)⟩,
  ⟨(some 4), none, .ld false 1 (.t 3)⟩,
  ⟨(some 5), none, .fa 2 (.t 1)⟩,
  ⟨(some 6), none, .ld false 1 (.t 5)⟩,
  ⟨(some 7), none, .lenl (.t 6)⟩,
  ⟨(some 8), none, .bin .add (.t 4) (.t 7)⟩,
  ⟨(some 2), none, .mv (.t 8)⟩]
@[reducible] def i25_B : IC := (.seq (.reg none i25_R0) (.seq (.reg none i25_R1) .ret))
@[reducible] def i25_V : List Nat := [0, 1, 2]
def i25 : IFn := ⟨9, i25_V, [.tmp 2], i25_B⟩
theorem i25_ok : compF Go.Proofs.Try.prog i25_V Go.Proofs.Try.f25 = some i25 := by kernel_rfl
/-! funicular/raft.Tick -/
@[reducible] def i28_R0 : List Iop := [⟨(some 2), none, .box (.t 0)⟩,
  ⟨(some 4), none, .alloc [.int .i64 0, .int .i64 0, .int .i64 0, .int .i64 0, .int .i64 0, .int .i64 0, .int .i64 0, .int .i64 0, .nil, .int .i64 0, .nil, .nil, .nil, .nil, .int .i64 0, .int .i64 0]⟩,
  ⟨(some 5), none, .mv (.c (.nil))⟩]
@[reducible] def i28_R1 : List Iop := [⟨(some 7), none, .ld true 16 (.t 2)⟩,
  ⟨(some 8), none, .call 49 [(.t 7)]⟩,
  ⟨(some 6), none, .mv (.t 8)⟩]
@[reducible] def i28_R2 : List Iop := [⟨(some 9), none, .mv (.t 6)⟩,
  ⟨(some 10), none, .nc (.t 9)⟩,
  ⟨(some 11), none, .fa 0 (.t 10)⟩,
  ⟨(some 12), none, .fa 14 (.t 11)⟩,
  ⟨(some 13), none, .ld false 1 (.t 12)⟩,
  ⟨(some 14), none, .bin .add (.t 13) (.c (.int .i64 1))⟩,
  ⟨(some 15), none, .nc (.t 9)⟩,
  ⟨(some 16), none, .fa 0 (.t 15)⟩,
  ⟨(some 17), none, .fa 14 (.t 16)⟩,
  ⟨none, none, .st 1 (.t 17) (.t 14)⟩]
@[reducible] def i28_R3 : List Iop := [⟨(some 19), none, .mv (.t 6)⟩,
  ⟨(some 20), none, .nc (.t 19)⟩,
  ⟨(some 21), none, .fa 0 (.t 20)⟩,
  ⟨(some 22), none, .fa 4 (.t 21)⟩,
  ⟨(some 23), none, .ld false 1 (.t 22)⟩,
  ⟨(some 24), none, .bin .eql (.t 23) (.c (.int .i64 3))⟩,
  ⟨(some 25), none, .mv (.t 24)⟩,
  ⟨(some 26), (some (25, true)), .mv (.t 6)⟩,
  ⟨(some 27), (some (25, true)), .nc (.t 26)⟩,
  ⟨(some 28), (some (25, true)), .fa 0 (.t 27)⟩,
  ⟨(some 29), (some (25, true)), .fa 14 (.t 28)⟩,
  ⟨(some 30), (some (25, true)), .ld false 1 (.t 29)⟩,
  ⟨(some 31), (some (25, true)), .bin .geq (.t 30) (.c (.int .i64 2))⟩,
  ⟨(some 32), none, .pick (.t 25) (.t 31) (.c (.bool false))⟩,
  ⟨(some 18), none, .mv (.t 32)⟩]
@[reducible] def i28_R4 : List Iop := [⟨(some 33), none, .mv (.t 6)⟩,
  ⟨(some 34), none, .nc (.t 33)⟩,
  ⟨(some 35), none, .fa 0 (.t 34)⟩,
  ⟨(some 36), none, .fa 14 (.t 35)⟩,
  ⟨none, none, .st 1 (.t 36) (.c (.int .i64 0))⟩]
@[reducible] def i28_R5 : List Iop := [⟨(some 37), none, .mv (.t 6)⟩,
  ⟨(some 38), none, .mv (.t 6)⟩,
  ⟨(some 39), none, .mkf 51 [(.t 38)] []⟩,
  ⟨(some 40), none, .call 50 [(.t 37), (.t 39)]⟩]
@[reducible] def i28_R6 : List Iop := [⟨(some 42), none, .mv (.t 6)⟩,
  ⟨(some 43), none, .nc (.t 42)⟩,
  ⟨(some 44), none, .fa 0 (.t 43)⟩,
  ⟨(some 45), none, .fa 4 (.t 44)⟩,
  ⟨(some 46), none, .ld false 1 (.t 45)⟩,
  ⟨(some 47), none, .bin .neq (.t 46) (.c (.int .i64 3))⟩,
  ⟨(some 48), none, .mv (.t 47)⟩,
  ⟨(some 49), (some (48, true)), .mv (.t 6)⟩,
  ⟨(some 50), (some (48, true)), .nc (.t 49)⟩,
  ⟨(some 51), (some (48, true)), .fa 0 (.t 50)⟩,
  ⟨(some 52), (some (48, true)), .fa 14 (.t 51)⟩,
  ⟨(some 53), (some (48, true)), .ld false 1 (.t 52)⟩,
  ⟨(some 54), (some (48, true)), .mv (.t 6)⟩,
  ⟨(some 55), (some (48, true)), .nc (.t 54)⟩,
  ⟨(some 56), (some (48, true)), .fa 0 (.t 55)⟩,
  ⟨(some 57), (some (48, true)), .fa 15 (.t 56)⟩,
  ⟨(some 58), (some (48, true)), .ld false 1 (.t 57)⟩,
  ⟨(some 59), (some (48, true)), .bin .geq (.t 53) (.t 58)⟩,
  ⟨(some 60), none, .pick (.t 48) (.t 59) (.c (.bool false))⟩,
  ⟨(some 41), none, .mv (.t 60)⟩]
@[reducible] def i28_R7 : List Iop := [⟨(some 61), none, .mv (.t 6)⟩,
  ⟨(some 62), none, .mv (.t 1)⟩,
  ⟨(some 63), none, .call 52 [(.t 61), (.t 62)]⟩]
@[reducible] def i28_R8 : List Iop := [⟨(some 64), none, .mv (.t 6)⟩,
  ⟨(some 65), none, .call 53 [(.t 64)]⟩,
  ⟨(some 66), none, .ext 0 (.t 65)⟩,
  ⟨(some 67), none, .ext 1 (.t 65)⟩,
  ⟨none, none, .st 16 (.t 4) (.t 66)⟩,
  ⟨(some 5), none, .mv (.t 67)⟩]
@[reducible] def i28_B : IC := (.seq (.reg none i28_R0) (.seq (.reg none i28_R1) (.seq (.reg none i28_R2) (.seq (.block 0 (.seq (.reg none i28_R3) (.cond (.t 18) (.seq (.reg none i28_R4) (.reg none i28_R5)) (.seq (.reg (some []) i28_R6) (.cond (.t 41) (.reg none i28_R7) .skip))))) (.seq (.reg none i28_R8) .ret)))))
@[reducible] def i28_V : List Nat := [0, 1, 2, 4, 5, 6, 18, 41]
def i28 : IFn := ⟨68, i28_V, [.cell 4 true 16, .tmp 5], i28_B⟩
theorem i28_ok : compF Go.Proofs.Try.prog i28_V Go.Proofs.Try.f28 = some i28 := by kernel_rfl
/-! funicular/raft.Propose -/
@[reducible] def i29_R0 : List Iop := [⟨(some 2), none, .box (.t 0)⟩,
  ⟨(some 4), none, .alloc [.int .i64 0, .int .i64 0, .int .i64 0, .int .i64 0, .int .i64 0, .int .i64 0, .int .i64 0, .int .i64 0, .nil, .int .i64 0, .nil, .nil, .nil, .nil, .int .i64 0, .int .i64 0]⟩,
  ⟨(some 5), none, .mv (.c (.int .i64 0))⟩,
  ⟨(some 6), none, .mv (.c (.nil))⟩,
  ⟨(some 7), none, .mv (.c (.int .i64 0))⟩]
@[reducible] def i29_R1 : List Iop := [⟨(some 11), none, .ld true 16 (.t 2)⟩,
  ⟨(some 12), none, .call 49 [(.t 11)]⟩,
  ⟨(some 8), none, .mv (.t 12)⟩]
@[reducible] def i29_R2 : List Iop := [⟨(some 13), none, .mv (.t 8)⟩,
  ⟨(some 14), none, .nc (.t 13)⟩,
  ⟨(some 15), none, .fa 0 (.t 14)⟩,
  ⟨(some 16), none, .fa 4 (.t 15)⟩,
  ⟨(some 17), none, .ld false 1 (.t 16)⟩,
  ⟨(some 18), none, .bin .neq (.t 17) (.c (.int .i64 3))⟩]
@[reducible] def i29_R3 : List Iop := [⟨(some 19), none, .mv (.t 8)⟩,
  ⟨(some 20), none, .nc (.t 19)⟩,
  ⟨(some 21), none, .fa 0 (.t 20)⟩,
  ⟨(some 22), none, .ld true 16 (.t 21)⟩,
  ⟨none, none, .st 16 (.t 4) (.t 22)⟩,
  ⟨(some 5), none, .mv (.c (.int .i64 0))⟩,
  ⟨(some 6), none, .mv (.c (.nil))⟩,
  ⟨(some 7), none, .mv (.c (.int .i64 15))⟩]
@[reducible] def i29_R4 : List Iop := [⟨(some 23), none, .mv (.t 8)⟩,
  ⟨(some 24), none, .mv (.t 1)⟩,
  ⟨(some 25), none, .call 54 [(.t 23), (.t 24)]⟩]
@[reducible] def i29_R5 : List Iop := [⟨(some 27), none, .mv (.t 8)⟩,
  ⟨(some 28), none, .call 53 [(.t 27)]⟩,
  ⟨(some 26), none, .mv (.t 28)⟩,
  ⟨(some 29), none, .ext 0 (.t 26)⟩,
  ⟨(some 30), none, .ext 1 (.t 26)⟩,
  ⟨(some 9), none, .alloc [.int .i64 0, .int .i64 0, .int .i64 0, .int .i64 0, .int .i64 0, .int .i64 0, .int .i64 0, .int .i64 0, .nil, .int .i64 0, .nil, .nil, .nil, .nil, .int .i64 0, .int .i64 0]⟩,
  ⟨none, none, .st 16 (.t 9) (.t 29)⟩,
  ⟨(some 10), none, .mv (.t 30)⟩]
@[reducible] def i29_R6 : List Iop := [⟨(some 31), none, .ld true 16 (.t 9)⟩,
  ⟨(some 32), none, .fa 6 (.t 9)⟩,
  ⟨(some 33), none, .ld true 3 (.t 32)⟩,
  ⟨(some 34), none, .call 55 [(.t 33)]⟩,
  ⟨(some 35), none, .mv (.t 10)⟩,
  ⟨none, none, .st 16 (.t 4) (.t 31)⟩,
  ⟨(some 5), none, .mv (.t 34)⟩,
  ⟨(some 6), none, .mv (.t 35)⟩,
  ⟨(some 7), none, .mv (.c (.int .i64 0))⟩]
@[reducible] def i29_B : IC := (.seq (.reg none i29_R0) (.seq (.reg none i29_R1) (.seq (.seq (.reg none i29_R2) (.cond (.t 18) (.seq (.reg none i29_R3) .ret) .skip)) (.seq (.reg none i29_R4) (.seq (.reg none i29_R5) (.seq (.reg (some [(0, 3)]) i29_R6) .ret))))))
@[reducible] def i29_V : List Nat := [0, 1, 2, 4, 5, 6, 7, 8, 9, 10, 18]
def i29 : IFn := ⟨36, i29_V, [.cell 4 true 16, .tmp 5, .tmp 6, .tmp 7], i29_B⟩
theorem i29_ok : compF Go.Proofs.Try.prog i29_V Go.Proofs.Try.f29 = some i29 := by kernel_rfl
/-! funicular/raft.Compact -/
@[reducible] def i30_R0 : List Iop := [⟨(some 3), none, .box (.t 0)⟩,
  ⟨(some 6), none, .alloc [.int .i64 0, .int .i64 0, .int .i64 0, .int .i64 0, .int .i64 0, .int .i64 0, .int .i64 0, .int .i64 0, .nil, .int .i64 0, .nil, .nil, .nil, .nil, .int .i64 0, .int .i64 0]⟩,
  ⟨(some 7), none, .mv (.c (.int .i64 0))⟩]
@[reducible] def i30_R1 : List Iop := [⟨(some 11), none, .ld true 16 (.t 3)⟩,
  ⟨(some 12), none, .call 49 [(.t 11)]⟩,
  ⟨(some 8), none, .mv (.t 12)⟩]
@[reducible] def i30_R2 : List Iop := [⟨(some 13), none, .mv (.t 1)⟩,
  ⟨(some 14), none, .mv (.t 8)⟩,
  ⟨(some 15), none, .nc (.t 14)⟩,
  ⟨(some 16), none, .fa 0 (.t 15)⟩,
  ⟨(some 17), none, .fa 6 (.t 16)⟩,
  ⟨(some 18), none, .fa 0 (.t 17)⟩,
  ⟨(some 19), none, .ld false 1 (.t 18)⟩,
  ⟨(some 20), none, .bin .leq (.t 13) (.t 19)⟩,
  ⟨(some 21), none, .mv (.t 20)⟩,
  ⟨(some 22), (some (21, false)), .mv (.t 1)⟩,
  ⟨(some 23), (some (21, false)), .mv (.t 8)⟩,
  ⟨(some 24), (some (21, false)), .nc (.t 23)⟩,
  ⟨(some 25), (some (21, false)), .fa 0 (.t 24)⟩,
  ⟨(some 26), (some (21, false)), .fa 9 (.t 25)⟩,
  ⟨(some 27), (some (21, false)), .ld false 1 (.t 26)⟩,
  ⟨(some 28), (some (21, false)), .bin .gtr (.t 22) (.t 27)⟩,
  ⟨(some 29), none, .pick (.t 21) (.c (.bool true)) (.t 28)⟩]
@[reducible] def i30_R3 : List Iop := [⟨(some 30), none, .mv (.t 8)⟩,
  ⟨(some 31), none, .nc (.t 30)⟩,
  ⟨(some 32), none, .fa 0 (.t 31)⟩,
  ⟨(some 33), none, .ld true 16 (.t 32)⟩,
  ⟨none, none, .st 16 (.t 6) (.t 33)⟩,
  ⟨(some 7), none, .mv (.c (.int .i64 2))⟩]
@[reducible] def i30_R4 : List Iop := [⟨(some 35), none, .mv (.t 8)⟩,
  ⟨(some 36), none, .nc (.t 35)⟩,
  ⟨(some 37), none, .fa 0 (.t 36)⟩,
  ⟨(some 38), none, .fa 6 (.t 37)⟩,
  ⟨(some 39), none, .ld true 3 (.t 38)⟩,
  ⟨(some 40), none, .mv (.t 1)⟩,
  ⟨(some 41), none, .call 56 [(.t 39), (.t 40)]⟩,
  ⟨(some 34), none, .mv (.t 41)⟩,
  ⟨(some 42), none, .ext 0 (.t 34)⟩,
  ⟨(some 43), none, .ext 1 (.t 34)⟩,
  ⟨(some 9), none, .alloc [.int .i64 0, .int .i64 0, .nil]⟩,
  ⟨none, none, .st 3 (.t 9) (.t 42)⟩,
  ⟨(some 10), none, .mv (.t 43)⟩]
@[reducible] def i30_R5 : List Iop := [⟨(some 44), none, .mv (.t 10)⟩,
  ⟨(some 45), none, .bin .neq (.t 44) (.c (.int .i64 0))⟩]
@[reducible] def i30_R6 : List Iop := [⟨(some 46), none, .mv (.t 8)⟩,
  ⟨(some 47), none, .nc (.t 46)⟩,
  ⟨(some 48), none, .fa 0 (.t 47)⟩,
  ⟨(some 49), none, .ld true 16 (.t 48)⟩,
  ⟨(some 50), none, .mv (.t 10)⟩,
  ⟨none, none, .st 16 (.t 6) (.t 49)⟩,
  ⟨(some 7), none, .mv (.t 50)⟩]
@[reducible] def i30_R7 : List Iop := [⟨(some 51), none, .mv (.t 8)⟩,
  ⟨(some 52), none, .mv (.t 8)⟩,
  ⟨(some 53), none, .ld true 3 (.t 9)⟩,
  ⟨(some 54), none, .mv (.t 2)⟩,
  ⟨(some 55), none, .cln 1 (.t 54)⟩,
  ⟨(some 56), none, .nc (.t 51)⟩,
  ⟨(some 57), none, .fa 0 (.t 56)⟩,
  ⟨(some 58), none, .fa 6 (.t 57)⟩,
  ⟨none, none, .st 3 (.t 58) (.t 53)⟩,
  ⟨(some 59), none, .nc (.t 52)⟩,
  ⟨(some 60), none, .fa 0 (.t 59)⟩,
  ⟨(some 61), none, .fa 10 (.t 60)⟩,
  ⟨none, none, .st 1 (.t 61) (.t 55)⟩]
@[reducible] def i30_R8 : List Iop := [⟨(some 62), none, .mv (.t 8)⟩,
  ⟨(some 63), none, .nc (.t 62)⟩,
  ⟨(some 64), none, .fa 0 (.t 63)⟩,
  ⟨(some 65), none, .ld true 16 (.t 64)⟩,
  ⟨none, none, .st 16 (.t 6) (.t 65)⟩,
  ⟨(some 7), none, .mv (.c (.int .i64 0))⟩]
@[reducible] def i30_B : IC := (.seq (.reg none i30_R0) (.seq (.reg none i30_R1) (.seq (.seq (.reg none i30_R2) (.cond (.t 29) (.seq (.reg none i30_R3) .ret) .skip)) (.seq (.reg none i30_R4) (.seq (.seq (.reg none i30_R5) (.cond (.t 45) (.seq (.reg none i30_R6) .ret) .skip)) (.seq (.reg (some [(2, 4)]) i30_R7) (.seq (.reg none i30_R8) .ret)))))))
@[reducible] def i30_V : List Nat := [0, 1, 2, 3, 6, 7, 8, 9, 10, 29, 45]
def i30 : IFn := ⟨66, i30_V, [.cell 6 true 16, .tmp 7], i30_B⟩
theorem i30_ok : compF Go.Proofs.Try.prog i30_V Go.Proofs.Try.f30 = some i30 := by kernel_rfl
/-! funicular/raft.Copy -/
@[reducible] def i31_R0 : List Iop := [⟨(some 1), none, .box (.t 0)⟩,
  ⟨(some 2), none, .alloc [.int .i64 0, .int .i64 0, .int .i64 0, .int .i64 0, .int .i64 0, .int .i64 0, .int .i64 0, .int .i64 0, .nil, .int .i64 0, .nil, .nil, .nil, .nil, .int .i64 0, .int .i64 0]⟩]
@[reducible] def i31_R1 : List Iop := [⟨(some 3), none, .fa 6 (.t 1)⟩,
  ⟨(some 4), none, .ld true 3 (.t 3)⟩,
  ⟨(some 5), none, .call 34 [(.t 4)]⟩,
  ⟨(some 6), none, .fa 6 (.t 1)⟩,
  ⟨none, none, .st 3 (.t 6) (.t 5)⟩]
@[reducible] def i31_R2 : List Iop := [⟨(some 7), none, .fa 10 (.t 1)⟩,
  ⟨(some 8), none, .ld false 1 (.t 7)⟩,
  ⟨(some 9), none, .cln 1 (.t 8)⟩,
  ⟨(some 10), none, .fa 11 (.t 1)⟩,
  ⟨(some 11), none, .ld false 1 (.t 10)⟩,
  ⟨(some 12), none, .cln 1 (.t 11)⟩,
  ⟨(some 13), none, .fa 10 (.t 1)⟩,
  ⟨none, none, .st 1 (.t 13) (.t 9)⟩,
  ⟨(some 14), none, .fa 11 (.t 1)⟩,
  ⟨none, none, .st 1 (.t 14) (.t 12)⟩]
@[reducible] def i31_R3 : List Iop := [⟨(some 15), none, .fa 12 (.t 1)⟩,
  ⟨(some 16), none, .ld false 1 (.t 15)⟩,
  ⟨(some 17), none, .cln 1 (.t 16)⟩,
  ⟨(some 18), none, .fa 13 (.t 1)⟩,
  ⟨(some 19), none, .ld false 1 (.t 18)⟩,
  ⟨(some 20), none, .cln 1 (.t 19)⟩,
  ⟨(some 21), none, .fa 12 (.t 1)⟩,
  ⟨none, none, .st 1 (.t 21) (.t 17)⟩,
  ⟨(some 22), none, .fa 13 (.t 1)⟩,
  ⟨none, none, .st 1 (.t 22) (.t 20)⟩]
@[reducible] def i31_R4 : List Iop := [⟨(some 23), none, .ld true 16 (.t 1)⟩,
  ⟨none, none, .st 16 (.t 2) (.t 23)⟩]
@[reducible] def i31_B : IC := (.seq (.reg none i31_R0) (.seq (.reg none i31_R1) (.seq (.reg (some [(2, 4)]) i31_R2) (.seq (.reg (some [(2, 4)]) i31_R3) (.seq (.reg none i31_R4) .ret)))))
@[reducible] def i31_V : List Nat := [0, 1, 2]
def i31 : IFn := ⟨24, i31_V, [.cell 2 true 16], i31_B⟩
theorem i31_ok : compF Go.Proofs.Try.prog i31_V Go.Proofs.Try.f31 = some i31 := by kernel_rfl
/-! funicular/logs.LastTerm -/
@[reducible] def i32_R0 : List Iop := [⟨(some 1), none, .box (.t 0)⟩,
  ⟨(some 2), none, .mv (.c (.int .i64 0))⟩]
@[reducible] def i32_R1 : List Iop := [⟨(some 6), none, .ld true 3 (.t 1)⟩,
  ⟨(some 7), none, .ld true 3 (.t 1)⟩,
  ⟨(some 8), none, .call 55 [(.t 7)]⟩,
  ⟨(some 9), none, .call 59 [(.t 6), (.t 8)]⟩,
  ⟨(some 5), none, .mv (.t 9)⟩,
  ⟨(some 10), none, .ext 0 (.t 5)⟩,
  ⟨(some 11), none, .ext 1 (.t 5)⟩,
  ⟨(some 3), none, .mv (.t 10)⟩,
  ⟨(some 4), none, .mv (.t 11)⟩]
@[reducible] def i32_R2 : List Iop := [⟨(some 12), none, .mv (.t 3)⟩,
  ⟨(some 2), none, .mv (.t 12)⟩]
@[reducible] def i32_B : IC := (.seq (.reg none i32_R0) (.seq (.reg (some [(0, 2)]) i32_R1) (.seq (.reg none i32_R2) .ret)))
@[reducible] def i32_V : List Nat := [0, 1, 2, 3]
def i32 : IFn := ⟨13, i32_V, [.tmp 2], i32_B⟩
theorem i32_ok : compF Go.Proofs.Try.prog i32_V Go.Proofs.Try.f32 = some i32 := by kernel_rfl
/-! funicular/logs.Check -/
@[reducible] def i33_R0 : List Iop := [⟨(some 1), none, .box (.t 0)⟩,
  ⟨(some 2), none, .mv (.c (.int .i64 0))⟩]
@[reducible] def i33_R1 : List Iop := [⟨(some 6), none, .fa 0 (.t 1)⟩,
  ⟨(some 7), none, .ld false 1 (.t 6)⟩,
  ⟨(some 8), none, .bin .lss (.t 7) (.c (.int .i64 0))⟩,
  ⟨(some 9), none, .mv (.t 8)⟩,
  ⟨(some 10), (some (9, false)), .fa 0 (.t 1)⟩,
  ⟨(some 11), (some (9, false)), .ld false 1 (.t 10)⟩,
  ⟨(some 12), (some (9, false)), .bin .gtr (.t 11) (.c (.int .i64 1099511627776))⟩,
  ⟨(some 13), none, .pick (.t 9) (.c (.bool true)) (.t 12)⟩,
  ⟨(some 14), none, .mv (.t 13)⟩,
  ⟨(some 15), (some (14, false)), .fa 1 (.t 1)⟩,
  ⟨(some 16), (some (14, false)), .ld false 1 (.t 15)⟩,
  ⟨(some 17), (some (14, false)), .bin .lss (.t 16) (.c (.int .i64 0))⟩,
  ⟨(some 18), none, .pick (.t 14) (.c (.bool true)) (.t 17)⟩,
  ⟨(some 19), none, .mv (.t 18)⟩,
  ⟨(some 20), (some (19, false)), .fa 1 (.t 1)⟩,
  ⟨(some 21), (some (19, false)), .ld false 1 (.t 20)⟩,
  ⟨(some 22), (some (19, false)), .bin .gtr (.t 21) (.c (.int .i64 1099511627776))⟩,
  ⟨(some 23), none, .pick (.t 19) (.c (.bool true)) (.t 22)⟩,
  ⟨(some 24), none, .mv (.t 23)⟩,
  ⟨(some 25), (some (24, false)), .fa 0 (.t 1)⟩,
  ⟨(some 26), (some (24, false)), .ld false 1 (.t 25)⟩,
  ⟨(some 27), (some (24, false)), .bin .eql (.t 26) (.c (.int .i64 0))⟩,
  ⟨(some 28), (some (24, false)), .fa 1 (.t 1)⟩,
  ⟨(some 29), (some (24, false)), .ld false 1 (.t 28)⟩,
  ⟨(some 30), (some (24, false)), .bin .eql (.t 29) (.c (.int .i64 0))⟩,
  ⟨(some 31), (some (24, false)), .eqb true (.t 27) (.t 30)⟩,
  ⟨(some 32), none, .pick (.t 24) (.c (.bool true)) (.t 31)⟩]
@[reducible] def i33_R2 : List Iop := [⟨(some 2), none, .mv (.c (.int .i64 1))⟩]
@[reducible] def i33_R3 : List Iop := [⟨(some 33), none, .fa 1 (.t 1)⟩,
  ⟨(some 34), none, .ld false 1 (.t 33)⟩,
  ⟨(some 35), none, .mx (.t 34) (.c (.int .i64 1))⟩,
  ⟨(some 3), none, .mv (.t 35)⟩]
@[reducible] def i33_R4 : List Iop := [⟨(some 36), none, .fa 2 (.t 1)⟩,
  ⟨(some 37), none, .ld false 1 (.t 36)⟩,
  ⟨(some 38), none, .lenl (.t 37)⟩,
  ⟨(some 39), none, .mv (.c (.int .i64 0))⟩]
@[reducible] def i33_R5 : List Iop := [⟨(some 40), none, .bin .lss (.t 39) (.t 38)⟩]
@[reducible] def i33_R6 : List Iop := [⟨(some 41), none, .ias 2 (.t 37) (.t 39)⟩,
  ⟨(some 42), none, .ld true 2 (.t 41)⟩,
  ⟨(some 5), none, .alloc [.int .i64 0, .nil]⟩,
  ⟨none, none, .st 2 (.t 5) (.t 42)⟩]
@[reducible] def i33_R7 : List Iop := [⟨(some 43), none, .fa 0 (.t 5)⟩,
  ⟨(some 44), none, .ld false 1 (.t 43)⟩,
  ⟨(some 45), none, .mv (.t 3)⟩,
  ⟨(some 46), none, .bin .lss (.t 44) (.t 45)⟩,
  ⟨(some 47), none, .mv (.t 46)⟩,
  ⟨(some 48), (some (47, false)), .fa 0 (.t 5)⟩,
  ⟨(some 49), (some (47, false)), .ld false 1 (.t 48)⟩,
  ⟨(some 50), (some (47, false)), .bin .gtr (.t 49) (.c (.int .i64 1099511627776))⟩,
  ⟨(some 51), none, .pick (.t 47) (.c (.bool true)) (.t 50)⟩]
@[reducible] def i33_R8 : List Iop := [⟨(some 2), none, .mv (.c (.int .i64 1))⟩]
@[reducible] def i33_R9 : List Iop := [⟨(some 52), none, .fa 0 (.t 5)⟩,
  ⟨(some 53), none, .ld false 1 (.t 52)⟩,
  ⟨(some 3), none, .mv (.t 53)⟩]
@[reducible] def i33_R10 : List Iop := [⟨(some 54), none, .bin .add (.t 39) (.c (.int .i64 1))⟩,
  ⟨(some 39), none, .mv (.t 54)⟩]
@[reducible] def i33_L0 : IC := (.seq (.reg none i33_R5) (.seq (.cond (.t 40) .skip (.out 0)) (.seq (.block 1 (.seq (.reg none i33_R6) (.seq (.seq (.reg none i33_R7) (.cond (.t 51) (.seq (.reg none i33_R8) .ret) .skip)) (.reg none i33_R9)))) (.reg none i33_R10))))
@[reducible] def i33_R11 : List Iop := [⟨(some 2), none, .mv (.c (.int .i64 0))⟩]
@[reducible] def i33_B : IC := (.seq (.reg none i33_R0) (.seq (.seq (.reg none i33_R1) (.cond (.t 32) (.seq (.reg none i33_R2) .ret) .skip)) (.seq (.reg none i33_R3) (.seq (.seq (.reg none i33_R4) (.block 0 (.loop i33_L0))) (.seq (.reg none i33_R11) .ret)))))
@[reducible] def i33_V : List Nat := [0, 1, 2, 3, 5, 32, 37, 38, 39, 40, 51]
def i33 : IFn := ⟨55, i33_V, [.tmp 2], i33_B⟩
theorem i33_ok : compF Go.Proofs.Try.prog i33_V Go.Proofs.Try.f33 = some i33 := by kernel_rfl
/-! funicular/logs.Copy -/
@[reducible] def i34_R0 : List Iop := [⟨(some 1), none, .box (.t 0)⟩,
  ⟨(some 2), none, .alloc [.int .i64 0, .int .i64 0, .nil]⟩]
@[reducible] def i34_R1 : List Iop := [⟨(some 3), none, .fa 0 (.t 1)⟩,
  ⟨(some 4), none, .ld false 1 (.t 3)⟩,
  ⟨(some 5), none, .fa 1 (.t 1)⟩,
  ⟨(some 6), none, .ld false 1 (.t 5)⟩,
  ⟨(some 7), none, .fa 2 (.t 1)⟩,
  ⟨(some 8), none, .ld false 1 (.t 7)⟩,
  ⟨(some 9), none, .call 60 [(.t 8)]⟩,
  ⟨(some 10), none, .build [.int .i64 0, .int .i64 0, .nil] [(0, 1, (.t 4)), (1, 1, (.t 6)), (2, 1, (.t 9))]⟩,
  ⟨none, none, .st 3 (.t 2) (.t 10)⟩]
@[reducible] def i34_B : IC := (.seq (.reg none i34_R0) (.seq (.reg (some [(1, 6), (3, 6)]) i34_R1) .ret))
@[reducible] def i34_V : List Nat := [0, 1, 2]
def i34 : IFn := ⟨11, i34_V, [.cell 2 true 3], i34_B⟩
theorem i34_ok : compF Go.Proofs.Try.prog i34_V Go.Proofs.Try.f34 = some i34 := by kernel_rfl
/-! funicular/funicularref13.Term -/
@[reducible] def i36_R0 : List Iop := [⟨(some 2), none, .box (.t 0)⟩,
  ⟨(some 4), none, .mv (.c (.int .i64 0))⟩,
  ⟨(some 5), none, .mv (.c (.bool false))⟩]
@[reducible] def i36_R1 : List Iop := [⟨(some 7), none, .mv (.t 1)⟩,
  ⟨(some 8), none, .fa 0 (.t 2)⟩,
  ⟨(some 9), none, .ld false 1 (.t 8)⟩,
  ⟨(some 10), none, .bin .eql (.t 7) (.t 9)⟩]
@[reducible] def i36_R2 : List Iop := [⟨(some 11), none, .fa 1 (.t 2)⟩,
  ⟨(some 12), none, .ld false 1 (.t 11)⟩,
  ⟨(some 4), none, .mv (.t 12)⟩,
  ⟨(some 5), none, .mv (.c (.bool true))⟩]
@[reducible] def i36_R3 : List Iop := [⟨(some 6), none, .mv (.c (.int .i64 0))⟩]
@[reducible] def i36_R4 : List Iop := [⟨(some 13), none, .mv (.t 6)⟩,
  ⟨(some 14), none, .fa 2 (.t 2)⟩,
  ⟨(some 15), none, .ld false 1 (.t 14)⟩,
  ⟨(some 16), none, .lenl (.t 15)⟩,
  ⟨(some 17), none, .bin .lss (.t 13) (.t 16)⟩]
@[reducible] def i36_R5 : List Iop := [⟨(some 20), none, .fa 0 (.t 2)⟩,
  ⟨(some 21), none, .ld false 1 (.t 20)⟩,
  ⟨(some 22), none, .bin .add (.t 21) (.c (.int .i64 1))⟩,
  ⟨(some 23), none, .mv (.t 6)⟩,
  ⟨(some 24), none, .bin .add (.t 22) (.t 23)⟩,
  ⟨(some 25), none, .mv (.t 1)⟩,
  ⟨(some 26), none, .bin .eql (.t 24) (.t 25)⟩]
@[reducible] def i36_R6 : List Iop := [⟨(some 27), none, .fa 2 (.t 2)⟩,
  ⟨(some 28), none, .ld false 1 (.t 27)⟩,
  ⟨(some 29), none, .mv (.t 6)⟩,
  ⟨(some 30), none, .ias 2 (.t 28) (.t 29)⟩,
  ⟨(some 31), none, .fa 0 (.t 30)⟩,
  ⟨(some 32), none, .ld false 1 (.t 31)⟩,
  ⟨(some 4), none, .mv (.t 32)⟩,
  ⟨(some 5), none, .mv (.c (.bool true))⟩]
@[reducible] def i36_R7 : List Iop := [⟨(some 18), none, .mv (.t 6)⟩,
  ⟨(some 19), none, .bin .add (.t 18) (.c (.int .i64 1))⟩,
  ⟨(some 6), none, .mv (.t 19)⟩]
@[reducible] def i36_L0 : IC := (.seq (.seq (.reg none i36_R4) (.cond (.t 17) .skip (.out 0))) (.seq (.block 1 (.seq (.reg none i36_R5) (.cond (.t 26) (.seq (.reg none i36_R6) .ret) .skip))) (.reg none i36_R7)))
@[reducible] def i36_R8 : List Iop := [⟨(some 4), none, .mv (.c (.int .i64 0))⟩,
  ⟨(some 5), none, .mv (.c (.bool false))⟩]
@[reducible] def i36_B : IC := (.seq (.reg none i36_R0) (.seq (.seq (.reg none i36_R1) (.cond (.t 10) (.seq (.reg none i36_R2) .ret) .skip)) (.seq (.seq (.reg none i36_R3) (.block 0 (.loop i36_L0))) (.seq (.reg none i36_R8) .ret))))
@[reducible] def i36_V : List Nat := [0, 1, 2, 4, 5, 6, 10, 17, 26]
def i36 : IFn := ⟨33, i36_V, [.tmp 4, .tmp 5], i36_B⟩
theorem i36_ok : compF Go.Proofs.Try.prog i36_V Go.Proofs.Try.f36 = some i36 := by kernel_rfl
/-! funicular/funicularref13.Same -/
@[reducible] def i37_R0 : List Iop := [⟨(some 2), none, .box (.t 0)⟩,
  ⟨(some 3), none, .box (.t 1)⟩,
  ⟨(some 4), none, .mv (.c (.bool false))⟩]
@[reducible] def i37_R1 : List Iop := [⟨(some 5), none, .fa 0 (.t 2)⟩,
  ⟨(some 6), none, .ld false 1 (.t 5)⟩,
  ⟨(some 7), none, .fa 0 (.t 3)⟩,
  ⟨(some 8), none, .ld false 1 (.t 7)⟩,
  ⟨(some 9), none, .bin .eql (.t 6) (.t 8)⟩,
  ⟨(some 10), none, .mv (.t 9)⟩,
  ⟨(some 11), (some (10, true)), .fa 1 (.t 2)⟩,
  ⟨(some 12), (some (10, true)), .ld false 1 (.t 11)⟩,
  ⟨(some 13), (some (10, true)), .fa 1 (.t 3)⟩,
  ⟨(some 14), (some (10, true)), .ld false 1 (.t 13)⟩,
  ⟨(some 15), (some (10, true)), .bin .eql (.t 12) (.t 14)⟩,
  ⟨(some 16), none, .pick (.t 10) (.t 15) (.c (.bool false))⟩,
  ⟨(some 17), none, .mv (.t 16)⟩,
  ⟨(some 18), (some (17, true)), .fa 2 (.t 2)⟩,
  ⟨(some 19), (some (17, true)), .ld false 1 (.t 18)⟩,
  ⟨(some 20), (some (17, true)), .fa 2 (.t 3)⟩,
  ⟨(some 21), (some (17, true)), .ld false 1 (.t 20)⟩,
  ⟨(some 22), (some (17, true)), .call 61 [(.t 19), (.t 21)]⟩,
  ⟨(some 23), none, .pick (.t 17) (.t 22) (.c (.bool false))⟩,
  ⟨(some 4), none, .mv (.t 23)⟩]
@[reducible] def i37_B : IC := (.seq (.reg none i37_R0) (.seq (.reg none i37_R1) .ret))
@[reducible] def i37_V : List Nat := [0, 1, 2, 3, 4]
def i37 : IFn := ⟨24, i37_V, [.tmp 4], i37_B⟩
theorem i37_ok : compF Go.Proofs.Try.prog i37_V Go.Proofs.Try.f37 = some i37 := by kernel_rfl
/-! funicular/funicularref15.bools -/
@[reducible] def i38_R0 : List Iop := [⟨(some 4), none, .mv (.c (.bool false))⟩]
@[reducible] def i38_R1 : List Iop := [⟨(some 6), none, .mv (.t 0)⟩,
  ⟨(some 7), none, .lenl (.t 6)⟩,
  ⟨(some 8), none, .mv (.t 1)⟩,
  ⟨(some 9), none, .lenl (.t 8)⟩,
  ⟨(some 10), none, .bin .neq (.t 7) (.t 9)⟩]
@[reducible] def i38_R2 : List Iop := [⟨(some 4), none, .mv (.c (.bool false))⟩]
@[reducible] def i38_R3 : List Iop := [⟨(some 5), none, .mv (.c (.int .i64 0))⟩]
@[reducible] def i38_R4 : List Iop := [⟨(some 11), none, .mv (.t 5)⟩,
  ⟨(some 12), none, .mv (.t 0)⟩,
  ⟨(some 13), none, .lenl (.t 12)⟩,
  ⟨(some 14), none, .bin .lss (.t 11) (.t 13)⟩]
@[reducible] def i38_R5 : List Iop := [⟨(some 17), none, .mv (.t 0)⟩,
  ⟨(some 18), none, .mv (.t 5)⟩,
  ⟨(some 19), none, .ias 1 (.t 17) (.t 18)⟩,
  ⟨(some 20), none, .ld false 1 (.t 19)⟩,
  ⟨(some 21), none, .mv (.t 1)⟩,
  ⟨(some 22), none, .mv (.t 5)⟩,
  ⟨(some 23), none, .ias 1 (.t 21) (.t 22)⟩,
  ⟨(some 24), none, .ld false 1 (.t 23)⟩,
  ⟨(some 25), none, .eqb true (.t 20) (.t 24)⟩]
@[reducible] def i38_R6 : List Iop := [⟨(some 4), none, .mv (.c (.bool false))⟩]
@[reducible] def i38_R7 : List Iop := [⟨(some 15), none, .mv (.t 5)⟩,
  ⟨(some 16), none, .bin .add (.t 15) (.c (.int .i64 1))⟩,
  ⟨(some 5), none, .mv (.t 16)⟩]
@[reducible] def i38_L0 : IC := (.seq (.seq (.reg none i38_R4) (.cond (.t 14) .skip (.out 0))) (.seq (.block 1 (.seq (.reg (some []) i38_R5) (.cond (.t 25) (.seq (.reg none i38_R6) .ret) .skip))) (.reg none i38_R7)))
@[reducible] def i38_R8 : List Iop := [⟨(some 4), none, .mv (.c (.bool true))⟩]
@[reducible] def i38_B : IC := (.seq (.reg none i38_R0) (.seq (.seq (.reg none i38_R1) (.cond (.t 10) (.seq (.reg none i38_R2) .ret) .skip)) (.seq (.seq (.reg none i38_R3) (.block 0 (.loop i38_L0))) (.seq (.reg none i38_R8) .ret))))
@[reducible] def i38_V : List Nat := [0, 1, 4, 5, 10, 14, 25]
def i38 : IFn := ⟨26, i38_V, [.tmp 4], i38_B⟩
theorem i38_ok : compF Go.Proofs.Try.prog i38_V Go.Proofs.Try.f38 = some i38 := by kernel_rfl
/-! funicular/funicularref15.ints -/
@[reducible] def i39_R0 : List Iop := [⟨(some 4), none, .mv (.c (.bool false))⟩]
@[reducible] def i39_R1 : List Iop := [⟨(some 6), none, .mv (.t 0)⟩,
  ⟨(some 7), none, .lenl (.t 6)⟩,
  ⟨(some 8), none, .mv (.t 1)⟩,
  ⟨(some 9), none, .lenl (.t 8)⟩,
  ⟨(some 10), none, .bin .neq (.t 7) (.t 9)⟩]
@[reducible] def i39_R2 : List Iop := [⟨(some 4), none, .mv (.c (.bool false))⟩]
@[reducible] def i39_R3 : List Iop := [⟨(some 5), none, .mv (.c (.int .i64 0))⟩]
@[reducible] def i39_R4 : List Iop := [⟨(some 11), none, .mv (.t 5)⟩,
  ⟨(some 12), none, .mv (.t 0)⟩,
  ⟨(some 13), none, .lenl (.t 12)⟩,
  ⟨(some 14), none, .bin .lss (.t 11) (.t 13)⟩]
@[reducible] def i39_R5 : List Iop := [⟨(some 17), none, .mv (.t 0)⟩,
  ⟨(some 18), none, .mv (.t 5)⟩,
  ⟨(some 19), none, .ias 1 (.t 17) (.t 18)⟩,
  ⟨(some 20), none, .ld false 1 (.t 19)⟩,
  ⟨(some 21), none, .mv (.t 1)⟩,
  ⟨(some 22), none, .mv (.t 5)⟩,
  ⟨(some 23), none, .ias 1 (.t 21) (.t 22)⟩,
  ⟨(some 24), none, .ld false 1 (.t 23)⟩,
  ⟨(some 25), none, .bin .neq (.t 20) (.t 24)⟩]
@[reducible] def i39_R6 : List Iop := [⟨(some 4), none, .mv (.c (.bool false))⟩]
@[reducible] def i39_R7 : List Iop := [⟨(some 15), none, .mv (.t 5)⟩,
  ⟨(some 16), none, .bin .add (.t 15) (.c (.int .i64 1))⟩,
  ⟨(some 5), none, .mv (.t 16)⟩]
@[reducible] def i39_L0 : IC := (.seq (.seq (.reg none i39_R4) (.cond (.t 14) .skip (.out 0))) (.seq (.block 1 (.seq (.reg (some []) i39_R5) (.cond (.t 25) (.seq (.reg none i39_R6) .ret) .skip))) (.reg none i39_R7)))
@[reducible] def i39_R8 : List Iop := [⟨(some 4), none, .mv (.c (.bool true))⟩]
@[reducible] def i39_B : IC := (.seq (.reg none i39_R0) (.seq (.seq (.reg none i39_R1) (.cond (.t 10) (.seq (.reg none i39_R2) .ret) .skip)) (.seq (.seq (.reg none i39_R3) (.block 0 (.loop i39_L0))) (.seq (.reg none i39_R8) .ret))))
@[reducible] def i39_V : List Nat := [0, 1, 4, 5, 10, 14, 25]
def i39 : IFn := ⟨26, i39_V, [.tmp 4], i39_B⟩
theorem i39_ok : compF Go.Proofs.Try.prog i39_V Go.Proofs.Try.f39 = some i39 := by kernel_rfl
/-! funicular/raft.Same$1 -/
@[reducible] def i40_R0 : List Iop := [⟨(some 1), none, .box (.t 0)⟩,
  ⟨(some 2), none, .alloc [.int .i64 0, .int .i64 0, .int .i64 0, .int .i64 0, .int .i64 0, .int .i64 0, .int .i64 0, .int .i64 0, .int .i64 0, .int .i64 0]⟩]
@[reducible] def i40_R1 : List Iop := [⟨(some 3), none, .fa 0 (.t 1)⟩,
  ⟨(some 4), none, .ld false 1 (.t 3)⟩,
  ⟨(some 5), none, .fa 1 (.t 1)⟩,
  ⟨(some 6), none, .ld false 1 (.t 5)⟩,
  ⟨(some 7), none, .fa 2 (.t 1)⟩,
  ⟨(some 8), none, .ld false 1 (.t 7)⟩,
  ⟨(some 9), none, .fa 3 (.t 1)⟩,
  ⟨(some 10), none, .ld false 1 (.t 9)⟩,
  ⟨(some 11), none, .fa 4 (.t 1)⟩,
  ⟨(some 12), none, .ld false 1 (.t 11)⟩,
  ⟨(some 13), none, .fa 5 (.t 1)⟩,
  ⟨(some 14), none, .ld false 1 (.t 13)⟩,
  ⟨(some 15), none, .fa 9 (.t 1)⟩,
  ⟨(some 16), none, .ld false 1 (.t 15)⟩,
  ⟨(some 17), none, .fa 14 (.t 1)⟩,
  ⟨(some 18), none, .ld false 1 (.t 17)⟩,
  ⟨(some 19), none, .fa 15 (.t 1)⟩,
  ⟨(some 20), none, .ld false 1 (.t 19)⟩,
  ⟨(some 21), none, .build [.int .i64 0, .int .i64 0, .int .i64 0, .int .i64 0, .int .i64 0, .int .i64 0, .int .i64 0, .int .i64 0, .int .i64 0, .int .i64 0] [(0, 1, (.t 4)), (1, 1, (.t 6)), (2, 1, (.t 8)), (3, 1, (.t 10)), (4, 1, (.t 12)), (5, 1, (.t 14)), (6, 1, (.t 16)), (7, 1, (.t 18)), (8, 1, (.t 20)), (9, 1, (.c (.int .i64 0)))]⟩,
  ⟨none, none, .st 10 (.t 2) (.t 21)⟩]
@[reducible] def i40_B : IC := (.seq (.reg none i40_R0) (.seq (.reg none i40_R1) .ret))
@[reducible] def i40_V : List Nat := [0, 1, 2]
def i40 : IFn := ⟨22, i40_V, [.cell 2 true 10], i40_B⟩
theorem i40_ok : compF Go.Proofs.Try.prog i40_V Go.Proofs.Try.f40 = some i40 := by kernel_rfl
/-! funicular/logs.Same -/
@[reducible] def i41_R0 : List Iop := [⟨(some 2), none, .box (.t 0)⟩,
  ⟨(some 3), none, .box (.t 1)⟩,
  ⟨(some 4), none, .mv (.c (.bool false))⟩]
@[reducible] def i41_R1 : List Iop := [⟨(some 5), none, .mv (.c (.fn (.func 62) [] []))⟩]
@[reducible] def i41_R2 : List Iop := [⟨(some 6), none, .mv (.t 5)⟩,
  ⟨(some 7), none, .ld true 3 (.t 2)⟩,
  ⟨(some 8), none, .callv (.t 6) [(.t 7)]⟩,
  ⟨(some 9), none, .mv (.t 5)⟩,
  ⟨(some 10), none, .ld true 3 (.t 3)⟩,
  ⟨(some 11), none, .callv (.t 9) [(.t 10)]⟩,
  ⟨(some 12), none, .eqc false [(0, 1), (1, 1)] (.t 8) (.t 11)⟩,
  ⟨(some 13), none, .mv (.t 12)⟩,
  ⟨(some 14), (some (13, true)), .fa 2 (.t 2)⟩,
  ⟨(some 15), (some (13, true)), .ld false 1 (.t 14)⟩,
  ⟨(some 16), (some (13, true)), .fa 2 (.t 3)⟩,
  ⟨(some 17), (some (13, true)), .ld false 1 (.t 16)⟩,
  ⟨(some 18), (some (13, true)), .call 63 [(.t 15), (.t 17), (.c (.fn (.func 64) [] []))]⟩,
  ⟨(some 19), none, .pick (.t 13) (.t 18) (.c (.bool false))⟩,
  ⟨(some 4), none, .mv (.t 19)⟩]
@[reducible] def i41_B : IC := (.seq (.reg none i41_R0) (.seq (.reg none i41_R1) (.seq (.reg (some [(2, 4)]) i41_R2) .ret)))
@[reducible] def i41_V : List Nat := [0, 1, 2, 3, 4, 5]
def i41 : IFn := ⟨20, i41_V, [.tmp 4], i41_B⟩
theorem i41_ok : compF Go.Proofs.Try.prog i41_V Go.Proofs.Try.f41 = some i41 := by kernel_rfl
/-! slices.Equal[[]byte,byte] -/
@[reducible] def i42_R0 : List Iop := [⟨(some 4), none, .mv (.c (.bool false))⟩]
@[reducible] def i42_R1 : List Iop := [⟨(some 6), none, .mv (.t 0)⟩,
  ⟨(some 7), none, .lenl (.t 6)⟩,
  ⟨(some 8), none, .mv (.t 1)⟩,
  ⟨(some 9), none, .lenl (.t 8)⟩,
  ⟨(some 10), none, .bin .neq (.t 7) (.t 9)⟩]
@[reducible] def i42_R2 : List Iop := [⟨(some 4), none, .mv (.c (.bool false))⟩]
@[reducible] def i42_R3 : List Iop := [⟨(some 11), none, .mv (.t 0)⟩,
  ⟨(some 12), none, .lenl (.t 11)⟩,
  ⟨(some 13), none, .mv (.c (.int .i64 0))⟩]
@[reducible] def i42_R4 : List Iop := [⟨(some 14), none, .bin .lss (.t 13) (.t 12)⟩]
@[reducible] def i42_R5 : List Iop := [⟨(some 15), none, .mv (.t 13)⟩,
  ⟨(some 5), none, .mv (.t 15)⟩]
@[reducible] def i42_R6 : List Iop := [⟨(some 16), none, .mv (.t 0)⟩,
  ⟨(some 17), none, .mv (.t 5)⟩,
  ⟨(some 18), none, .ias 1 (.t 16) (.t 17)⟩,
  ⟨(some 19), none, .ld false 1 (.t 18)⟩,
  ⟨(some 20), none, .mv (.t 1)⟩,
  ⟨(some 21), none, .mv (.t 5)⟩,
  ⟨(some 22), none, .ias 1 (.t 20) (.t 21)⟩,
  ⟨(some 23), none, .ld false 1 (.t 22)⟩,
  ⟨(some 24), none, .bin .neq (.t 19) (.t 23)⟩]
@[reducible] def i42_R7 : List Iop := [⟨(some 4), none, .mv (.c (.bool false))⟩]
@[reducible] def i42_R8 : List Iop := [⟨(some 25), none, .bin .add (.t 13) (.c (.int .i64 1))⟩,
  ⟨(some 13), none, .mv (.t 25)⟩]
@[reducible] def i42_L0 : IC := (.seq (.reg none i42_R4) (.seq (.cond (.t 14) .skip (.out 0)) (.seq (.block 1 (.seq (.reg none i42_R5) (.seq (.reg (some []) i42_R6) (.cond (.t 24) (.seq (.reg none i42_R7) .ret) .skip)))) (.reg none i42_R8))))
@[reducible] def i42_R9 : List Iop := [⟨(some 4), none, .mv (.c (.bool true))⟩]
@[reducible] def i42_B : IC := (.seq (.reg none i42_R0) (.seq (.seq (.reg none i42_R1) (.cond (.t 10) (.seq (.reg none i42_R2) .ret) .skip)) (.seq (.seq (.reg none i42_R3) (.block 0 (.loop i42_L0))) (.seq (.reg none i42_R9) .ret))))
@[reducible] def i42_V : List Nat := [0, 1, 4, 5, 10, 12, 13, 14, 24]
def i42 : IFn := ⟨26, i42_V, [.tmp 4], i42_B⟩
theorem i42_ok : compF Go.Proofs.Try.prog i42_V Go.Proofs.Try.f42 = some i42 := by kernel_rfl
/-! slices.Equal[[]bool,bool] -/
@[reducible] def i43_R0 : List Iop := [⟨(some 4), none, .mv (.c (.bool false))⟩]
@[reducible] def i43_R1 : List Iop := [⟨(some 6), none, .mv (.t 0)⟩,
  ⟨(some 7), none, .lenl (.t 6)⟩,
  ⟨(some 8), none, .mv (.t 1)⟩,
  ⟨(some 9), none, .lenl (.t 8)⟩,
  ⟨(some 10), none, .bin .neq (.t 7) (.t 9)⟩]
@[reducible] def i43_R2 : List Iop := [⟨(some 4), none, .mv (.c (.bool false))⟩]
@[reducible] def i43_R3 : List Iop := [⟨(some 11), none, .mv (.t 0)⟩,
  ⟨(some 12), none, .lenl (.t 11)⟩,
  ⟨(some 13), none, .mv (.c (.int .i64 0))⟩]
@[reducible] def i43_R4 : List Iop := [⟨(some 14), none, .bin .lss (.t 13) (.t 12)⟩]
@[reducible] def i43_R5 : List Iop := [⟨(some 15), none, .mv (.t 13)⟩,
  ⟨(some 5), none, .mv (.t 15)⟩]
@[reducible] def i43_R6 : List Iop := [⟨(some 16), none, .mv (.t 0)⟩,
  ⟨(some 17), none, .mv (.t 5)⟩,
  ⟨(some 18), none, .ias 1 (.t 16) (.t 17)⟩,
  ⟨(some 19), none, .ld false 1 (.t 18)⟩,
  ⟨(some 20), none, .mv (.t 1)⟩,
  ⟨(some 21), none, .mv (.t 5)⟩,
  ⟨(some 22), none, .ias 1 (.t 20) (.t 21)⟩,
  ⟨(some 23), none, .ld false 1 (.t 22)⟩,
  ⟨(some 24), none, .eqb true (.t 19) (.t 23)⟩]
@[reducible] def i43_R7 : List Iop := [⟨(some 4), none, .mv (.c (.bool false))⟩]
@[reducible] def i43_R8 : List Iop := [⟨(some 25), none, .bin .add (.t 13) (.c (.int .i64 1))⟩,
  ⟨(some 13), none, .mv (.t 25)⟩]
@[reducible] def i43_L0 : IC := (.seq (.reg none i43_R4) (.seq (.cond (.t 14) .skip (.out 0)) (.seq (.block 1 (.seq (.reg none i43_R5) (.seq (.reg (some []) i43_R6) (.cond (.t 24) (.seq (.reg none i43_R7) .ret) .skip)))) (.reg none i43_R8))))
@[reducible] def i43_R9 : List Iop := [⟨(some 4), none, .mv (.c (.bool true))⟩]
@[reducible] def i43_B : IC := (.seq (.reg none i43_R0) (.seq (.seq (.reg none i43_R1) (.cond (.t 10) (.seq (.reg none i43_R2) .ret) .skip)) (.seq (.seq (.reg none i43_R3) (.block 0 (.loop i43_L0))) (.seq (.reg none i43_R9) .ret))))
@[reducible] def i43_V : List Nat := [0, 1, 4, 5, 10, 12, 13, 14, 24]
def i43 : IFn := ⟨26, i43_V, [.tmp 4], i43_B⟩
theorem i43_ok : compF Go.Proofs.Try.prog i43_V Go.Proofs.Try.f43 = some i43 := by kernel_rfl
/-! slices.Equal[[]int,int] -/
@[reducible] def i44_R0 : List Iop := [⟨(some 4), none, .mv (.c (.bool false))⟩]
@[reducible] def i44_R1 : List Iop := [⟨(some 6), none, .mv (.t 0)⟩,
  ⟨(some 7), none, .lenl (.t 6)⟩,
  ⟨(some 8), none, .mv (.t 1)⟩,
  ⟨(some 9), none, .lenl (.t 8)⟩,
  ⟨(some 10), none, .bin .neq (.t 7) (.t 9)⟩]
@[reducible] def i44_R2 : List Iop := [⟨(some 4), none, .mv (.c (.bool false))⟩]
@[reducible] def i44_R3 : List Iop := [⟨(some 11), none, .mv (.t 0)⟩,
  ⟨(some 12), none, .lenl (.t 11)⟩,
  ⟨(some 13), none, .mv (.c (.int .i64 0))⟩]
@[reducible] def i44_R4 : List Iop := [⟨(some 14), none, .bin .lss (.t 13) (.t 12)⟩]
@[reducible] def i44_R5 : List Iop := [⟨(some 15), none, .mv (.t 13)⟩,
  ⟨(some 5), none, .mv (.t 15)⟩]
@[reducible] def i44_R6 : List Iop := [⟨(some 16), none, .mv (.t 0)⟩,
  ⟨(some 17), none, .mv (.t 5)⟩,
  ⟨(some 18), none, .ias 1 (.t 16) (.t 17)⟩,
  ⟨(some 19), none, .ld false 1 (.t 18)⟩,
  ⟨(some 20), none, .mv (.t 1)⟩,
  ⟨(some 21), none, .mv (.t 5)⟩,
  ⟨(some 22), none, .ias 1 (.t 20) (.t 21)⟩,
  ⟨(some 23), none, .ld false 1 (.t 22)⟩,
  ⟨(some 24), none, .bin .neq (.t 19) (.t 23)⟩]
@[reducible] def i44_R7 : List Iop := [⟨(some 4), none, .mv (.c (.bool false))⟩]
@[reducible] def i44_R8 : List Iop := [⟨(some 25), none, .bin .add (.t 13) (.c (.int .i64 1))⟩,
  ⟨(some 13), none, .mv (.t 25)⟩]
@[reducible] def i44_L0 : IC := (.seq (.reg none i44_R4) (.seq (.cond (.t 14) .skip (.out 0)) (.seq (.block 1 (.seq (.reg none i44_R5) (.seq (.reg (some []) i44_R6) (.cond (.t 24) (.seq (.reg none i44_R7) .ret) .skip)))) (.reg none i44_R8))))
@[reducible] def i44_R9 : List Iop := [⟨(some 4), none, .mv (.c (.bool true))⟩]
@[reducible] def i44_B : IC := (.seq (.reg none i44_R0) (.seq (.seq (.reg none i44_R1) (.cond (.t 10) (.seq (.reg none i44_R2) .ret) .skip)) (.seq (.seq (.reg none i44_R3) (.block 0 (.loop i44_L0))) (.seq (.reg none i44_R9) .ret))))
@[reducible] def i44_V : List Nat := [0, 1, 4, 5, 10, 12, 13, 14, 24]
def i44 : IFn := ⟨26, i44_V, [.tmp 4], i44_B⟩
theorem i44_ok : compF Go.Proofs.Try.prog i44_V Go.Proofs.Try.f44 = some i44 := by kernel_rfl
/-! funicular/raft.at -/
@[reducible] def i49_R0 : List Iop := [⟨(some 1), none, .box (.t 0)⟩,
  ⟨(some 2), none, .mv (.c (.oth (.pointer none)))⟩]
@[reducible] def i49_R1 : List Iop := [⟨(some 3), none, .ld true 16 (.t 1)⟩,
  ⟨(some 4), none, .call 31 [(.t 3)]⟩,
  ⟨(some 5), none, .build [.int .i64 0, .int .i64 0, .int .i64 0, .int .i64 0, .int .i64 0, .int .i64 0, .int .i64 0, .int .i64 0, .nil, .int .i64 0, .nil, .nil, .nil, .nil, .int .i64 0, .int .i64 0, .nil] [(0, 16, (.t 4))]⟩,
  ⟨(some 6), none, .box (.t 5)⟩,
  ⟨(some 2), none, .mv (.t 6)⟩]
@[reducible] def i49_B : IC := (.seq (.reg none i49_R0) (.seq (.reg none i49_R1) .ret))
@[reducible] def i49_V : List Nat := [0, 1, 2]
def i49 : IFn := ⟨7, i49_V, [.tmp 2], i49_B⟩
theorem i49_ok : compF Go.Proofs.Try.prog i49_V Go.Proofs.Try.f49 = some i49 := by kernel_rfl
/-! (*funicular/raft.member).all -/
@[reducible] def i50_R0 : List Iop := [⟨(some 4), none, .mv (.c (.int .i64 1))⟩]
@[reducible] def i50_R1 : List Iop := [⟨(some 5), none, .mv (.t 4)⟩,
  ⟨(some 6), none, .mv (.t 0)⟩,
  ⟨(some 7), none, .nc (.t 6)⟩,
  ⟨(some 8), none, .fa 0 (.t 7)⟩,
  ⟨(some 9), none, .fa 1 (.t 8)⟩,
  ⟨(some 10), none, .ld false 1 (.t 9)⟩,
  ⟨(some 11), none, .bin .leq (.t 5) (.t 10)⟩]
@[reducible] def i50_R2 : List Iop := [⟨(some 14), none, .mv (.t 4)⟩,
  ⟨(some 15), none, .mv (.t 0)⟩,
  ⟨(some 16), none, .nc (.t 15)⟩,
  ⟨(some 17), none, .fa 0 (.t 16)⟩,
  ⟨(some 18), none, .fa 0 (.t 17)⟩,
  ⟨(some 19), none, .ld false 1 (.t 18)⟩,
  ⟨(some 20), none, .bin .neq (.t 14) (.t 19)⟩]
@[reducible] def i50_R3 : List Iop := [⟨(some 21), none, .mv (.t 1)⟩,
  ⟨(some 22), none, .mv (.t 4)⟩,
  ⟨(some 23), none, .callv (.t 21) [(.t 22)]⟩]
@[reducible] def i50_R4 : List Iop := [⟨(some 12), none, .mv (.t 4)⟩,
  ⟨(some 13), none, .bin .add (.t 12) (.c (.int .i64 1))⟩,
  ⟨(some 4), none, .mv (.t 13)⟩]
@[reducible] def i50_L0 : IC := (.seq (.seq (.reg none i50_R1) (.cond (.t 11) .skip (.out 0))) (.seq (.block 1 (.seq (.reg none i50_R2) (.cond (.t 20) (.reg none i50_R3) .skip))) (.reg none i50_R4)))
@[reducible] def i50_B : IC := (.seq (.reg none i50_R0) (.block 0 (.loop i50_L0)))
@[reducible] def i50_V : List Nat := [0, 1, 4, 11, 20]
def i50 : IFn := ⟨24, i50_V, [], i50_B⟩
theorem i50_ok : compF Go.Proofs.Try.prog i50_V Go.Proofs.Try.f50 = some i50 := by kernel_rfl
/-! (*funicular/raft.member).ask -/
@[reducible] def i52_R0 : List Iop := [⟨(some 2), none, .box (.t 0)⟩]
@[reducible] def i52_R1 : List Iop := [⟨(some 4), none, .ld false 1 (.t 2)⟩,
  ⟨(some 5), none, .ld false 1 (.t 2)⟩,
  ⟨(some 6), none, .nc (.t 5)⟩,
  ⟨(some 7), none, .fa 0 (.t 6)⟩,
  ⟨(some 8), none, .fa 2 (.t 7)⟩,
  ⟨(some 9), none, .ld false 1 (.t 8)⟩,
  ⟨(some 10), none, .call 66 [(.t 4), (.t 9), (.c (.int .i64 0))]⟩]
@[reducible] def i52_R2 : List Iop := [⟨(some 11), none, .ld false 1 (.t 2)⟩,
  ⟨(some 12), none, .ld false 1 (.t 2)⟩,
  ⟨(some 13), none, .ld false 1 (.t 2)⟩,
  ⟨(some 14), none, .mv (.t 1)⟩,
  ⟨(some 15), none, .call 77 [(.t 14)]⟩,
  ⟨(some 16), none, .nc (.t 11)⟩,
  ⟨(some 17), none, .fa 0 (.t 16)⟩,
  ⟨(some 18), none, .fa 4 (.t 17)⟩,
  ⟨none, none, .st 1 (.t 18) (.c (.int .i64 1))⟩,
  ⟨(some 19), none, .nc (.t 12)⟩,
  ⟨(some 20), none, .fa 0 (.t 19)⟩,
  ⟨(some 21), none, .fa 14 (.t 20)⟩,
  ⟨none, none, .st 1 (.t 21) (.c (.int .i64 0))⟩,
  ⟨(some 22), none, .nc (.t 13)⟩,
  ⟨(some 23), none, .fa 0 (.t 22)⟩,
  ⟨(some 24), none, .fa 15 (.t 23)⟩,
  ⟨none, none, .st 1 (.t 24) (.t 15)⟩]
@[reducible] def i52_R3 : List Iop := [⟨(some 25), none, .ld false 1 (.t 2)⟩,
  ⟨(some 26), none, .ld false 1 (.t 2)⟩,
  ⟨(some 27), none, .nc (.t 26)⟩,
  ⟨(some 28), none, .fa 0 (.t 27)⟩,
  ⟨(some 29), none, .fa 1 (.t 28)⟩,
  ⟨(some 30), none, .ld false 1 (.t 29)⟩,
  ⟨(some 31), none, .mks 1 [.bool false] (.t 30) (.t 30)⟩,
  ⟨(some 32), none, .nc (.t 25)⟩,
  ⟨(some 33), none, .fa 0 (.t 32)⟩,
  ⟨(some 34), none, .fa 11 (.t 33)⟩,
  ⟨none, none, .st 1 (.t 34) (.t 31)⟩]
@[reducible] def i52_R4 : List Iop := [⟨(some 35), none, .ld false 1 (.t 2)⟩,
  ⟨(some 36), none, .ld false 1 (.t 2)⟩,
  ⟨(some 37), none, .nc (.t 36)⟩,
  ⟨(some 38), none, .fa 0 (.t 37)⟩,
  ⟨(some 39), none, .fa 0 (.t 38)⟩,
  ⟨(some 40), none, .ld false 1 (.t 39)⟩,
  ⟨(some 41), none, .call 68 [(.t 35), (.t 40)]⟩]
@[reducible] def i52_R5 : List Iop := [⟨(some 42), none, .ld false 1 (.t 2)⟩,
  ⟨(some 43), none, .call 69 [(.t 42)]⟩]
@[reducible] def i52_R6 : List Iop := [⟨(some 44), none, .ld false 1 (.t 2)⟩,
  ⟨(some 45), none, .mkf 78 [] [(.t 2)]⟩,
  ⟨(some 46), none, .call 50 [(.t 44), (.t 45)]⟩]
@[reducible] def i52_B : IC := (.seq (.reg none i52_R0) (.seq (.reg (some []) i52_R1) (.seq (.reg (some [(0, 4), (1, 4), (2, 4), (1, 8), (2, 8), (2, 12)]) i52_R2) (.seq (.reg (some [(0, 6)]) i52_R3) (.seq (.seq (.reg (some []) i52_R4) (.cond (.t 41) (.seq (.reg none i52_R5) .ret) .skip)) (.reg none i52_R6))))))
@[reducible] def i52_V : List Nat := [0, 1, 2, 41]
def i52 : IFn := ⟨47, i52_V, [], i52_B⟩
theorem i52_ok : compF Go.Proofs.Try.prog i52_V Go.Proofs.Try.f52 = some i52 := by kernel_rfl
/-! (*funicular/raft.member).done -/
@[reducible] def i53_R0 : List Iop := [⟨(some 2), none, .alloc [.int .i64 0, .int .i64 0, .int .i64 0, .int .i64 0, .int .i64 0, .int .i64 0, .int .i64 0, .int .i64 0, .nil, .int .i64 0, .nil, .nil, .nil, .nil, .int .i64 0, .int .i64 0]⟩,
  ⟨(some 3), none, .mv (.c (.nil))⟩]
@[reducible] def i53_R1 : List Iop := [⟨(some 4), none, .mv (.t 0)⟩,
  ⟨(some 5), none, .nc (.t 4)⟩,
  ⟨(some 6), none, .fa 0 (.t 5)⟩,
  ⟨(some 7), none, .ld true 16 (.t 6)⟩,
  ⟨(some 8), none, .mv (.t 0)⟩,
  ⟨(some 9), none, .nc (.t 8)⟩,
  ⟨(some 10), none, .fa 16 (.t 9)⟩,
  ⟨(some 11), none, .ld false 1 (.t 10)⟩,
  ⟨none, none, .st 16 (.t 2) (.t 7)⟩,
  ⟨(some 3), none, .mv (.t 11)⟩]
@[reducible] def i53_B : IC := (.seq (.reg none i53_R0) (.seq (.reg (some [(7, 8)]) i53_R1) .ret))
@[reducible] def i53_V : List Nat := [0, 2, 3]
def i53 : IFn := ⟨12, i53_V, [.cell 2 true 16, .tmp 3], i53_B⟩
theorem i53_ok : compF Go.Proofs.Try.prog i53_V Go.Proofs.Try.f53 = some i53 := by kernel_rfl
/-! (*funicular/raft.member).append -/
@[reducible] def i54_R0 : List Iop := [⟨(some 4), none, .mv (.t 0)⟩,
  ⟨(some 5), none, .mv (.t 0)⟩,
  ⟨(some 6), none, .nc (.t 5)⟩,
  ⟨(some 7), none, .fa 0 (.t 6)⟩,
  ⟨(some 8), none, .fa 6 (.t 7)⟩,
  ⟨(some 9), none, .ld true 3 (.t 8)⟩,
  ⟨(some 10), none, .mv (.t 0)⟩,
  ⟨(some 11), none, .nc (.t 10)⟩,
  ⟨(some 12), none, .fa 0 (.t 11)⟩,
  ⟨(some 13), none, .fa 2 (.t 12)⟩,
  ⟨(some 14), none, .ld false 1 (.t 13)⟩,
  ⟨(some 15), none, .mv (.t 1)⟩,
  ⟨(some 16), none, .build [.int .i64 0, .nil] [(0, 1, (.t 14)), (1, 1, (.t 15))]⟩,
  ⟨(some 17), none, .call 79 [(.t 9), (.t 16)]⟩,
  ⟨(some 18), none, .nc (.t 4)⟩,
  ⟨(some 19), none, .fa 0 (.t 18)⟩,
  ⟨(some 20), none, .fa 6 (.t 19)⟩,
  ⟨none, none, .st 3 (.t 20) (.t 17)⟩]
@[reducible] def i54_R1 : List Iop := [⟨(some 21), none, .mv (.t 0)⟩,
  ⟨(some 22), none, .nc (.t 21)⟩,
  ⟨(some 23), none, .fa 0 (.t 22)⟩,
  ⟨(some 24), none, .fa 13 (.t 23)⟩,
  ⟨(some 25), none, .ld false 1 (.t 24)⟩,
  ⟨(some 26), none, .mv (.t 0)⟩,
  ⟨(some 27), none, .nc (.t 26)⟩,
  ⟨(some 28), none, .fa 0 (.t 27)⟩,
  ⟨(some 29), none, .fa 0 (.t 28)⟩,
  ⟨(some 30), none, .ld false 1 (.t 29)⟩,
  ⟨(some 31), none, .bin .sub (.t 30) (.c (.int .i64 1))⟩,
  ⟨(some 32), none, .mv (.t 0)⟩,
  ⟨(some 33), none, .nc (.t 32)⟩,
  ⟨(some 34), none, .fa 0 (.t 33)⟩,
  ⟨(some 35), none, .fa 6 (.t 34)⟩,
  ⟨(some 36), none, .ld true 3 (.t 35)⟩,
  ⟨(some 37), none, .call 55 [(.t 36)]⟩,
  ⟨(some 38), none, .ias 1 (.t 25) (.t 31)⟩,
  ⟨none, none, .st 1 (.t 38) (.t 37)⟩]
@[reducible] def i54_R2 : List Iop := [⟨(some 39), none, .mv (.t 0)⟩,
  ⟨(some 40), none, .call 80 [(.t 39)]⟩]
@[reducible] def i54_R3 : List Iop := [⟨(some 41), none, .mv (.t 0)⟩,
  ⟨(some 42), none, .mv (.t 0)⟩,
  ⟨(some 43), none, .mkf 51 [(.t 42)] []⟩,
  ⟨(some 44), none, .call 50 [(.t 41), (.t 43)]⟩]
@[reducible] def i54_B : IC := (.seq (.reg (some []) i54_R0) (.seq (.reg (some [(4, 16), (9, 16)]) i54_R1) (.seq (.reg none i54_R2) (.reg none i54_R3))))
@[reducible] def i54_V : List Nat := [0, 1]
def i54 : IFn := ⟨45, i54_V, [], i54_B⟩
theorem i54_ok : compF Go.Proofs.Try.prog i54_V Go.Proofs.Try.f54 = some i54 := by kernel_rfl
/-! funicular/logs.Last -/
@[reducible] def i55_R0 : List Iop := [⟨(some 1), none, .box (.t 0)⟩,
  ⟨(some 2), none, .mv (.c (.int .i64 0))⟩]
@[reducible] def i55_R1 : List Iop := [⟨(some 3), none, .fa 0 (.t 1)⟩,
  ⟨(some 4), none, .ld false 1 (.t 3)⟩,
  ⟨(some 5), none, .fa 2 (.t 1)⟩,
  ⟨(some 6), none, .ld false 1 (.t 5)⟩,
  ⟨(some 7), none, .lenl (.t 6)⟩,
  ⟨(some 8), none, .bin .add (.t 4) (.t 7)⟩,
  ⟨(some 2), none, .mv (.t 8)⟩]
@[reducible] def i55_B : IC := (.seq (.reg none i55_R0) (.seq (.reg none i55_R1) .ret))
@[reducible] def i55_V : List Nat := [0, 1, 2]
def i55 : IFn := ⟨9, i55_V, [.tmp 2], i55_B⟩
theorem i55_ok : compF Go.Proofs.Try.prog i55_V Go.Proofs.Try.f55 = some i55 := by kernel_rfl
/-! funicular/logs.Compact -/
@[reducible] def i56_R0 : List Iop := [⟨(some 2), none, .box (.t 0)⟩,
  ⟨(some 4), none, .alloc [.int .i64 0, .int .i64 0, .nil]⟩,
  ⟨(some 5), none, .mv (.c (.int .i64 0))⟩]
@[reducible] def i56_R1 : List Iop := [⟨(some 9), none, .ld true 3 (.t 2)⟩,
  ⟨(some 10), none, .mv (.t 1)⟩,
  ⟨(some 11), none, .call 59 [(.t 9), (.t 10)]⟩,
  ⟨(some 8), none, .mv (.t 11)⟩,
  ⟨(some 12), none, .ext 0 (.t 8)⟩,
  ⟨(some 13), none, .ext 1 (.t 8)⟩,
  ⟨(some 6), none, .mv (.t 12)⟩,
  ⟨(some 7), none, .mv (.t 13)⟩]
@[reducible] def i56_R2 : List Iop := [⟨(some 14), none, .mv (.t 7)⟩,
  ⟨(some 15), none, .nt (.t 14)⟩]
@[reducible] def i56_R3 : List Iop := [⟨(some 16), none, .build [.int .i64 0, .int .i64 0, .nil] []⟩,
  ⟨none, none, .st 3 (.t 4) (.t 16)⟩,
  ⟨(some 5), none, .mv (.c (.int .i64 2))⟩]
@[reducible] def i56_R4 : List Iop := [⟨(some 17), none, .mv (.t 1)⟩,
  ⟨(some 18), none, .mv (.t 6)⟩,
  ⟨(some 19), none, .fa 2 (.t 2)⟩,
  ⟨(some 20), none, .ld false 1 (.t 19)⟩,
  ⟨(some 21), none, .mv (.t 1)⟩,
  ⟨(some 22), none, .fa 0 (.t 2)⟩,
  ⟨(some 23), none, .ld false 1 (.t 22)⟩,
  ⟨(some 24), none, .bin .sub (.t 21) (.t 23)⟩,
  ⟨(some 25), none, .sll 2 (.t 20) (some (.t 24)) none none⟩,
  ⟨(some 26), none, .call 60 [(.t 25)]⟩,
  ⟨(some 27), none, .build [.int .i64 0, .int .i64 0, .nil] [(0, 1, (.t 17)), (1, 1, (.t 18)), (2, 1, (.t 26))]⟩,
  ⟨none, none, .st 3 (.t 4) (.t 27)⟩,
  ⟨(some 5), none, .mv (.c (.int .i64 0))⟩]
@[reducible] def i56_B : IC := (.seq (.reg none i56_R0) (.seq (.reg none i56_R1) (.seq (.seq (.reg none i56_R2) (.cond (.t 15) (.seq (.reg none i56_R3) .ret) .skip)) (.seq (.reg none i56_R4) .ret))))
@[reducible] def i56_V : List Nat := [0, 1, 2, 4, 5, 6, 7, 15]
def i56 : IFn := ⟨28, i56_V, [.cell 4 true 3, .tmp 5], i56_B⟩
theorem i56_ok : compF Go.Proofs.Try.prog i56_V Go.Proofs.Try.f56 = some i56 := by kernel_rfl
/-! funicular/logs.Term -/
@[reducible] def i59_R0 : List Iop := [⟨(some 2), none, .box (.t 0)⟩,
  ⟨(some 4), none, .mv (.c (.int .i64 0))⟩,
  ⟨(some 5), none, .mv (.c (.bool false))⟩]
@[reducible] def i59_R1 : List Iop := [⟨(some 7), none, .mv (.t 1)⟩,
  ⟨(some 8), none, .fa 0 (.t 2)⟩,
  ⟨(some 9), none, .ld false 1 (.t 8)⟩,
  ⟨(some 10), none, .bin .eql (.t 7) (.t 9)⟩,
  ⟨(some 6), none, .mv (.t 10)⟩]
@[reducible] def i59_R2 : List Iop := [⟨(some 11), none, .fa 1 (.t 2)⟩,
  ⟨(some 12), none, .ld false 1 (.t 11)⟩,
  ⟨(some 4), none, .mv (.t 12)⟩,
  ⟨(some 5), none, .mv (.c (.bool true))⟩]
@[reducible] def i59_R3 : List Iop := [⟨(some 14), none, .mv (.t 1)⟩,
  ⟨(some 15), none, .fa 0 (.t 2)⟩,
  ⟨(some 16), none, .ld false 1 (.t 15)⟩,
  ⟨(some 17), none, .bin .lss (.t 14) (.t 16)⟩,
  ⟨(some 18), none, .mv (.t 17)⟩,
  ⟨(some 19), (some (18, false)), .mv (.t 1)⟩,
  ⟨(some 20), (some (18, false)), .ld true 3 (.t 2)⟩,
  ⟨(some 21), (some (18, false)), .call 55 [(.t 20)]⟩,
  ⟨(some 22), (some (18, false)), .bin .gtr (.t 19) (.t 21)⟩,
  ⟨(some 23), none, .pick (.t 18) (.c (.bool true)) (.t 22)⟩,
  ⟨(some 13), none, .mv (.t 23)⟩]
@[reducible] def i59_R4 : List Iop := [⟨(some 4), none, .mv (.c (.int .i64 0))⟩,
  ⟨(some 5), none, .mv (.c (.bool false))⟩]
@[reducible] def i59_R5 : List Iop := [⟨(some 24), none, .fa 2 (.t 2)⟩,
  ⟨(some 25), none, .ld false 1 (.t 24)⟩,
  ⟨(some 26), none, .mv (.t 1)⟩,
  ⟨(some 27), none, .fa 0 (.t 2)⟩,
  ⟨(some 28), none, .ld false 1 (.t 27)⟩,
  ⟨(some 29), none, .bin .sub (.t 26) (.t 28)⟩,
  ⟨(some 30), none, .bin .sub (.t 29) (.c (.int .i64 1))⟩,
  ⟨(some 31), none, .ias 2 (.t 25) (.t 30)⟩,
  ⟨(some 32), none, .fa 0 (.t 31)⟩,
  ⟨(some 33), none, .ld false 1 (.t 32)⟩,
  ⟨(some 4), none, .mv (.t 33)⟩,
  ⟨(some 5), none, .mv (.c (.bool true))⟩]
@[reducible] def i59_B : IC := (.seq (.reg none i59_R0) (.seq (.block 0 (.seq (.reg none i59_R1) (.cond (.t 6) (.seq (.reg none i59_R2) .ret) (.seq (.reg none i59_R3) (.cond (.t 13) (.seq (.reg none i59_R4) .ret) .skip))))) (.seq (.reg none i59_R5) .ret)))
@[reducible] def i59_V : List Nat := [0, 1, 2, 4, 5, 6, 13]
def i59 : IFn := ⟨34, i59_V, [.tmp 4, .tmp 5], i59_B⟩
theorem i59_ok : compF Go.Proofs.Try.prog i59_V Go.Proofs.Try.f59 = some i59 := by kernel_rfl
/-! funicular/logs.copied -/
@[reducible] def i60_R0 : List Iop := [⟨(some 2), none, .mv (.c (.nil))⟩]
@[reducible] def i60_R1 : List Iop := [⟨(some 3), none, .mv (.c (.nil))⟩]
@[reducible] def i60_R2 : List Iop := [⟨(some 6), none, .mv (.t 0)⟩,
  ⟨(some 7), none, .lenl (.t 6)⟩,
  ⟨(some 8), none, .mv (.c (.int .i64 0))⟩]
@[reducible] def i60_R3 : List Iop := [⟨(some 9), none, .bin .lss (.t 8) (.t 7)⟩]
@[reducible] def i60_R4 : List Iop := [⟨(some 10), none, .ias 2 (.t 6) (.t 8)⟩,
  ⟨(some 11), none, .ld true 2 (.t 10)⟩,
  ⟨(some 5), none, .alloc [.int .i64 0, .nil]⟩,
  ⟨none, none, .st 2 (.t 5) (.t 11)⟩]
@[reducible] def i60_R5 : List Iop := [⟨(some 12), none, .mv (.t 3)⟩,
  ⟨(some 13), none, .fa 0 (.t 5)⟩,
  ⟨(some 14), none, .ld false 1 (.t 13)⟩,
  ⟨(some 15), none, .fa 1 (.t 5)⟩,
  ⟨(some 16), none, .ld false 1 (.t 15)⟩,
  ⟨(some 17), none, .cln 1 (.t 16)⟩,
  ⟨(some 18), none, .build [.int .i64 0, .nil] [(0, 1, (.t 14)), (1, 1, (.t 17))]⟩,
  ⟨(some 19), none, .bsl 2 [.int .i64 0, .imm 0 [] false] 1 [(0, (.t 18))]⟩,
  ⟨(some 20), none, .app 2 (.t 12) (.t 19)⟩,
  ⟨(some 3), none, .mv (.t 20)⟩]
@[reducible] def i60_R6 : List Iop := [⟨(some 21), none, .bin .add (.t 8) (.c (.int .i64 1))⟩,
  ⟨(some 8), none, .mv (.t 21)⟩]
@[reducible] def i60_L0 : IC := (.seq (.reg none i60_R3) (.seq (.cond (.t 9) .skip (.out 0)) (.seq (.block 1 (.seq (.reg none i60_R4) (.reg (some [(2, 5)]) i60_R5))) (.reg none i60_R6))))
@[reducible] def i60_R7 : List Iop := [⟨(some 22), none, .mv (.t 3)⟩,
  ⟨(some 2), none, .mv (.t 22)⟩]
@[reducible] def i60_B : IC := (.seq (.reg none i60_R0) (.seq (.reg none i60_R1) (.seq (.seq (.reg none i60_R2) (.block 0 (.loop i60_L0))) (.seq (.reg none i60_R7) .ret))))
@[reducible] def i60_V : List Nat := [0, 2, 3, 5, 6, 7, 8, 9]
def i60 : IFn := ⟨23, i60_V, [.tmp 2], i60_B⟩
theorem i60_ok : compF Go.Proofs.Try.prog i60_V Go.Proofs.Try.f60 = some i60 := by kernel_rfl
/-! funicular/funicularref13.Entries -/
@[reducible] def i61_R0 : List Iop := [⟨(some 4), none, .mv (.c (.bool false))⟩]
@[reducible] def i61_R1 : List Iop := [⟨(some 6), none, .mv (.t 0)⟩,
  ⟨(some 7), none, .lenl (.t 6)⟩,
  ⟨(some 8), none, .mv (.t 1)⟩,
  ⟨(some 9), none, .lenl (.t 8)⟩,
  ⟨(some 10), none, .bin .neq (.t 7) (.t 9)⟩]
@[reducible] def i61_R2 : List Iop := [⟨(some 4), none, .mv (.c (.bool false))⟩]
@[reducible] def i61_R3 : List Iop := [⟨(some 5), none, .mv (.c (.int .i64 0))⟩]
@[reducible] def i61_R4 : List Iop := [⟨(some 11), none, .mv (.t 5)⟩,
  ⟨(some 12), none, .mv (.t 0)⟩,
  ⟨(some 13), none, .lenl (.t 12)⟩,
  ⟨(some 14), none, .bin .lss (.t 11) (.t 13)⟩]
@[reducible] def i61_R5 : List Iop := [⟨(some 17), none, .mv (.t 0)⟩,
  ⟨(some 18), none, .mv (.t 5)⟩,
  ⟨(some 19), none, .ias 2 (.t 17) (.t 18)⟩,
  ⟨(some 20), none, .fa 0 (.t 19)⟩,
  ⟨(some 21), none, .ld false 1 (.t 20)⟩,
  ⟨(some 22), none, .mv (.t 1)⟩,
  ⟨(some 23), none, .mv (.t 5)⟩,
  ⟨(some 24), none, .ias 2 (.t 22) (.t 23)⟩,
  ⟨(some 25), none, .fa 0 (.t 24)⟩,
  ⟨(some 26), none, .ld false 1 (.t 25)⟩,
  ⟨(some 27), none, .bin .neq (.t 21) (.t 26)⟩,
  ⟨(some 28), none, .mv (.t 27)⟩,
  ⟨(some 29), (some (28, false)), .mv (.t 0)⟩,
  ⟨(some 30), (some (28, false)), .mv (.t 5)⟩,
  ⟨(some 31), (some (28, false)), .ias 2 (.t 29) (.t 30)⟩,
  ⟨(some 32), (some (28, false)), .fa 1 (.t 31)⟩,
  ⟨(some 33), (some (28, false)), .ld false 1 (.t 32)⟩,
  ⟨(some 34), (some (28, false)), .b2s (.t 33)⟩,
  ⟨(some 35), (some (28, false)), .mv (.t 1)⟩,
  ⟨(some 36), (some (28, false)), .mv (.t 5)⟩,
  ⟨(some 37), (some (28, false)), .ias 2 (.t 35) (.t 36)⟩,
  ⟨(some 38), (some (28, false)), .fa 1 (.t 37)⟩,
  ⟨(some 39), (some (28, false)), .ld false 1 (.t 38)⟩,
  ⟨(some 40), (some (28, false)), .b2s (.t 39)⟩,
  ⟨(some 41), (some (28, false)), .bin .neq (.t 34) (.t 40)⟩,
  ⟨(some 42), none, .pick (.t 28) (.c (.bool true)) (.t 41)⟩]
@[reducible] def i61_R6 : List Iop := [⟨(some 4), none, .mv (.c (.bool false))⟩]
@[reducible] def i61_R7 : List Iop := [⟨(some 15), none, .mv (.t 5)⟩,
  ⟨(some 16), none, .bin .add (.t 15) (.c (.int .i64 1))⟩,
  ⟨(some 5), none, .mv (.t 16)⟩]
@[reducible] def i61_L0 : IC := (.seq (.seq (.reg none i61_R4) (.cond (.t 14) .skip (.out 0))) (.seq (.block 1 (.seq (.reg (some [(17, 22), (16, 23), (17, 23)]) i61_R5) (.cond (.t 42) (.seq (.reg none i61_R6) .ret) .skip))) (.reg none i61_R7)))
@[reducible] def i61_R8 : List Iop := [⟨(some 4), none, .mv (.c (.bool true))⟩]
@[reducible] def i61_B : IC := (.seq (.reg none i61_R0) (.seq (.seq (.reg none i61_R1) (.cond (.t 10) (.seq (.reg none i61_R2) .ret) .skip)) (.seq (.seq (.reg none i61_R3) (.block 0 (.loop i61_L0))) (.seq (.reg none i61_R8) .ret))))
@[reducible] def i61_V : List Nat := [0, 1, 4, 5, 10, 14, 42]
def i61 : IFn := ⟨43, i61_V, [.tmp 4], i61_B⟩
theorem i61_ok : compF Go.Proofs.Try.prog i61_V Go.Proofs.Try.f61 = some i61 := by kernel_rfl
/-! funicular/logs.Same$1 -/
@[reducible] def i62_R0 : List Iop := [⟨(some 1), none, .box (.t 0)⟩,
  ⟨(some 2), none, .alloc [.int .i64 0, .int .i64 0]⟩]
@[reducible] def i62_R1 : List Iop := [⟨(some 3), none, .fa 0 (.t 1)⟩,
  ⟨(some 4), none, .ld false 1 (.t 3)⟩,
  ⟨(some 5), none, .fa 1 (.t 1)⟩,
  ⟨(some 6), none, .ld false 1 (.t 5)⟩,
  ⟨(some 7), none, .build [.int .i64 0, .int .i64 0] [(0, 1, (.t 4)), (1, 1, (.t 6))]⟩,
  ⟨none, none, .st 2 (.t 2) (.t 7)⟩]
@[reducible] def i62_B : IC := (.seq (.reg none i62_R0) (.seq (.reg none i62_R1) .ret))
@[reducible] def i62_V : List Nat := [0, 1, 2]
def i62 : IFn := ⟨8, i62_V, [.cell 2 true 2], i62_B⟩
theorem i62_ok : compF Go.Proofs.Try.prog i62_V Go.Proofs.Try.f62 = some i62 := by kernel_rfl
/-! slices.EqualFunc[[]funicular/api.Entry,[]funicular/api.Entry,funicular/api.Entry,funicular/api.Entry] -/
@[reducible] def i63_R0 : List Iop := [⟨(some 6), none, .mv (.c (.bool false))⟩]
@[reducible] def i63_R1 : List Iop := [⟨(some 10), none, .mv (.t 0)⟩,
  ⟨(some 11), none, .lenl (.t 10)⟩,
  ⟨(some 12), none, .mv (.t 1)⟩,
  ⟨(some 13), none, .lenl (.t 12)⟩,
  ⟨(some 14), none, .bin .neq (.t 11) (.t 13)⟩]
@[reducible] def i63_R2 : List Iop := [⟨(some 6), none, .mv (.c (.bool false))⟩]
@[reducible] def i63_R3 : List Iop := [⟨(some 15), none, .mv (.t 0)⟩,
  ⟨(some 16), none, .lenl (.t 15)⟩,
  ⟨(some 17), none, .mv (.c (.int .i64 0))⟩]
@[reducible] def i63_R4 : List Iop := [⟨(some 18), none, .bin .lss (.t 17) (.t 16)⟩]
@[reducible] def i63_R5 : List Iop := [⟨(some 19), none, .mv (.t 17)⟩,
  ⟨(some 20), none, .ias 2 (.t 15) (.t 17)⟩,
  ⟨(some 21), none, .ld true 2 (.t 20)⟩,
  ⟨(some 8), none, .alloc [.int .i64 0, .nil]⟩,
  ⟨(some 7), none, .mv (.t 19)⟩,
  ⟨none, none, .st 2 (.t 8) (.t 21)⟩]
@[reducible] def i63_R6 : List Iop := [⟨(some 22), none, .mv (.t 1)⟩,
  ⟨(some 23), none, .mv (.t 7)⟩,
  ⟨(some 24), none, .ias 2 (.t 22) (.t 23)⟩,
  ⟨(some 25), none, .ld true 2 (.t 24)⟩,
  ⟨(some 9), none, .alloc [.int .i64 0, .nil]⟩,
  ⟨none, none, .st 2 (.t 9) (.t 25)⟩]
@[reducible] def i63_R7 : List Iop := [⟨(some 26), none, .mv (.t 2)⟩,
  ⟨(some 27), none, .ld true 2 (.t 8)⟩,
  ⟨(some 28), none, .ld true 2 (.t 9)⟩,
  ⟨(some 29), none, .callv (.t 26) [(.t 27), (.t 28)]⟩,
  ⟨(some 30), none, .nt (.t 29)⟩]
@[reducible] def i63_R8 : List Iop := [⟨(some 6), none, .mv (.c (.bool false))⟩]
@[reducible] def i63_R9 : List Iop := [⟨(some 31), none, .bin .add (.t 17) (.c (.int .i64 1))⟩,
  ⟨(some 17), none, .mv (.t 31)⟩]
@[reducible] def i63_L0 : IC := (.seq (.reg none i63_R4) (.seq (.cond (.t 18) .skip (.out 0)) (.seq (.block 1 (.seq (.reg none i63_R5) (.seq (.reg none i63_R6) (.seq (.reg none i63_R7) (.cond (.t 30) (.seq (.reg none i63_R8) .ret) .skip))))) (.reg none i63_R9))))
@[reducible] def i63_R10 : List Iop := [⟨(some 6), none, .mv (.c (.bool true))⟩]
@[reducible] def i63_B : IC := (.seq (.reg none i63_R0) (.seq (.seq (.reg none i63_R1) (.cond (.t 14) (.seq (.reg none i63_R2) .ret) .skip)) (.seq (.seq (.reg none i63_R3) (.block 0 (.loop i63_L0))) (.seq (.reg none i63_R10) .ret))))
@[reducible] def i63_V : List Nat := [0, 1, 2, 6, 7, 8, 9, 14, 15, 16, 17, 18, 30]
def i63 : IFn := ⟨32, i63_V, [.tmp 6], i63_B⟩
theorem i63_ok : compF Go.Proofs.Try.prog i63_V Go.Proofs.Try.f63 = some i63 := by kernel_rfl
/-! funicular/logs.Same$2 -/
@[reducible] def i64_R0 : List Iop := [⟨(some 2), none, .box (.t 0)⟩,
  ⟨(some 3), none, .box (.t 1)⟩,
  ⟨(some 4), none, .mv (.c (.bool false))⟩]
@[reducible] def i64_R1 : List Iop := [⟨(some 5), none, .fa 0 (.t 2)⟩,
  ⟨(some 6), none, .ld false 1 (.t 5)⟩,
  ⟨(some 7), none, .fa 0 (.t 3)⟩,
  ⟨(some 8), none, .ld false 1 (.t 7)⟩,
  ⟨(some 9), none, .bin .eql (.t 6) (.t 8)⟩,
  ⟨(some 10), none, .mv (.t 9)⟩,
  ⟨(some 11), (some (10, true)), .fa 1 (.t 2)⟩,
  ⟨(some 12), (some (10, true)), .ld false 1 (.t 11)⟩,
  ⟨(some 13), (some (10, true)), .fa 1 (.t 3)⟩,
  ⟨(some 14), (some (10, true)), .ld false 1 (.t 13)⟩,
  ⟨(some 15), (some (10, true)), .call 65 [(.t 12), (.t 14)]⟩,
  ⟨(some 16), none, .pick (.t 10) (.t 15) (.c (.bool false))⟩,
  ⟨(some 4), none, .mv (.t 16)⟩]
@[reducible] def i64_B : IC := (.seq (.reg none i64_R0) (.seq (.reg none i64_R1) .ret))
@[reducible] def i64_V : List Nat := [0, 1, 2, 3, 4]
def i64 : IFn := ⟨17, i64_V, [.tmp 4], i64_B⟩
theorem i64_ok : compF Go.Proofs.Try.prog i64_V Go.Proofs.Try.f64 = some i64 := by kernel_rfl
/-! bytes.Equal -/
@[reducible] def i65_R0 : List Iop := [⟨(some 4), none, .mv (.c (.bool false))⟩]
@[reducible] def i65_R1 : List Iop := [⟨(some 5), none, .mv (.t 0)⟩,
  ⟨(some 6), none, .b2s (.t 5)⟩,
  ⟨(some 7), none, .mv (.t 1)⟩,
  ⟨(some 8), none, .b2s (.t 7)⟩,
  ⟨(some 9), none, .bin .eql (.t 6) (.t 8)⟩,
  ⟨(some 4), none, .mv (.t 9)⟩]
@[reducible] def i65_B : IC := (.seq (.reg none i65_R0) (.seq (.reg none i65_R1) .ret))
@[reducible] def i65_V : List Nat := [0, 1, 4]
def i65 : IFn := ⟨10, i65_V, [.tmp 4], i65_B⟩
theorem i65_ok : compF Go.Proofs.Try.prog i65_V Go.Proofs.Try.f65 = some i65 := by kernel_rfl
/-! (*funicular/raft.member).follow -/
@[reducible] def i66_R0 : List Iop := [⟨(some 6), none, .mv (.t 1)⟩,
  ⟨(some 7), none, .mv (.t 0)⟩,
  ⟨(some 8), none, .nc (.t 7)⟩,
  ⟨(some 9), none, .fa 0 (.t 8)⟩,
  ⟨(some 10), none, .fa 2 (.t 9)⟩,
  ⟨(some 11), none, .ld false 1 (.t 10)⟩,
  ⟨(some 12), none, .bin .gtr (.t 6) (.t 11)⟩]
@[reducible] def i66_R1 : List Iop := [⟨(some 13), none, .mv (.t 0)⟩,
  ⟨(some 14), none, .mv (.t 0)⟩,
  ⟨(some 15), none, .mv (.t 1)⟩,
  ⟨(some 16), none, .nc (.t 13)⟩,
  ⟨(some 17), none, .fa 0 (.t 16)⟩,
  ⟨(some 18), none, .fa 2 (.t 17)⟩,
  ⟨none, none, .st 1 (.t 18) (.t 15)⟩,
  ⟨(some 19), none, .nc (.t 14)⟩,
  ⟨(some 20), none, .fa 0 (.t 19)⟩,
  ⟨(some 21), none, .fa 3 (.t 20)⟩,
  ⟨none, none, .st 1 (.t 21) (.c (.int .i64 0))⟩]
@[reducible] def i66_R2 : List Iop := [⟨(some 22), none, .mv (.t 0)⟩,
  ⟨(some 23), none, .mv (.t 0)⟩,
  ⟨(some 24), none, .mv (.t 2)⟩,
  ⟨(some 25), none, .nc (.t 22)⟩,
  ⟨(some 26), none, .fa 0 (.t 25)⟩,
  ⟨(some 27), none, .fa 4 (.t 26)⟩,
  ⟨none, none, .st 1 (.t 27) (.c (.int .i64 0))⟩,
  ⟨(some 28), none, .nc (.t 23)⟩,
  ⟨(some 29), none, .fa 0 (.t 28)⟩,
  ⟨(some 30), none, .fa 5 (.t 29)⟩,
  ⟨none, none, .st 1 (.t 30) (.t 24)⟩]
@[reducible] def i66_R3 : List Iop := [⟨(some 31), none, .mv (.t 0)⟩,
  ⟨(some 32), none, .mv (.t 0)⟩,
  ⟨(some 33), none, .mv (.t 0)⟩,
  ⟨(some 34), none, .nc (.t 31)⟩,
  ⟨(some 35), none, .fa 0 (.t 34)⟩,
  ⟨(some 36), none, .fa 11 (.t 35)⟩,
  ⟨none, none, .st 1 (.t 36) (.c (.nil))⟩,
  ⟨(some 37), none, .nc (.t 32)⟩,
  ⟨(some 38), none, .fa 0 (.t 37)⟩,
  ⟨(some 39), none, .fa 12 (.t 38)⟩,
  ⟨none, none, .st 1 (.t 39) (.c (.nil))⟩,
  ⟨(some 40), none, .nc (.t 33)⟩,
  ⟨(some 41), none, .fa 0 (.t 40)⟩,
  ⟨(some 42), none, .fa 13 (.t 41)⟩,
  ⟨none, none, .st 1 (.t 42) (.c (.nil))⟩]
@[reducible] def i66_B : IC := (.seq (.seq (.reg none i66_R0) (.cond (.t 12) (.reg none i66_R1) .skip)) (.seq (.reg none i66_R2) (.reg none i66_R3)))
@[reducible] def i66_V : List Nat := [0, 1, 2, 12]
def i66 : IFn := ⟨43, i66_V, [], i66_B⟩
theorem i66_ok : compF Go.Proofs.Try.prog i66_V Go.Proofs.Try.f66 = some i66 := by kernel_rfl
/-! (*funicular/raft.member).grant -/
@[reducible] def i68_R0 : List Iop := [⟨(some 4), none, .mv (.c (.bool false))⟩]
@[reducible] def i68_R1 : List Iop := [⟨(some 5), none, .mv (.t 0)⟩,
  ⟨(some 6), none, .nc (.t 5)⟩,
  ⟨(some 7), none, .fa 0 (.t 6)⟩,
  ⟨(some 8), none, .fa 11 (.t 7)⟩,
  ⟨(some 9), none, .ld false 1 (.t 8)⟩,
  ⟨(some 10), none, .mv (.t 1)⟩,
  ⟨(some 11), none, .bin .sub (.t 10) (.c (.int .i64 1))⟩,
  ⟨(some 12), none, .ias 1 (.t 9) (.t 11)⟩,
  ⟨none, none, .st 1 (.t 12) (.c (.bool true))⟩]
@[reducible] def i68_R2 : List Iop := [⟨(some 13), none, .mv (.t 0)⟩,
  ⟨(some 14), none, .nc (.t 13)⟩,
  ⟨(some 15), none, .fa 0 (.t 14)⟩,
  ⟨(some 16), none, .fa 11 (.t 15)⟩,
  ⟨(some 17), none, .ld false 1 (.t 16)⟩,
  ⟨(some 18), none, .call 82 [(.t 17)]⟩,
  ⟨(some 4), none, .mv (.t 18)⟩]
@[reducible] def i68_B : IC := (.seq (.reg none i68_R0) (.seq (.reg none i68_R1) (.seq (.reg none i68_R2) .ret)))
@[reducible] def i68_V : List Nat := [0, 1, 4]
def i68 : IFn := ⟨19, i68_V, [.tmp 4], i68_B⟩
theorem i68_ok : compF Go.Proofs.Try.prog i68_V Go.Proofs.Try.f68 = some i68 := by kernel_rfl
/-! (*funicular/raft.member).stand -/
@[reducible] def i69_R0 : List Iop := [⟨(some 1), none, .box (.t 0)⟩]
@[reducible] def i69_R1 : List Iop := [⟨(some 2), none, .ld false 1 (.t 1)⟩,
  ⟨(some 3), none, .ld false 1 (.t 1)⟩,
  ⟨(some 4), none, .nc (.t 3)⟩,
  ⟨(some 5), none, .fa 0 (.t 4)⟩,
  ⟨(some 6), none, .fa 2 (.t 5)⟩,
  ⟨(some 7), none, .ld false 1 (.t 6)⟩,
  ⟨(some 8), none, .bin .add (.t 7) (.c (.int .i64 1))⟩,
  ⟨(some 9), none, .call 66 [(.t 2), (.t 8), (.c (.int .i64 0))]⟩]
@[reducible] def i69_R2 : List Iop := [⟨(some 10), none, .ld false 1 (.t 1)⟩,
  ⟨(some 11), none, .ld false 1 (.t 1)⟩,
  ⟨(some 12), none, .ld false 1 (.t 1)⟩,
  ⟨(some 13), none, .ld false 1 (.t 1)⟩,
  ⟨(some 14), none, .nc (.t 13)⟩,
  ⟨(some 15), none, .fa 0 (.t 14)⟩,
  ⟨(some 16), none, .fa 0 (.t 15)⟩,
  ⟨(some 17), none, .ld false 1 (.t 16)⟩,
  ⟨(some 18), none, .nc (.t 10)⟩,
  ⟨(some 19), none, .fa 0 (.t 18)⟩,
  ⟨(some 20), none, .fa 3 (.t 19)⟩,
  ⟨none, none, .st 1 (.t 20) (.t 17)⟩,
  ⟨(some 21), none, .nc (.t 11)⟩,
  ⟨(some 22), none, .fa 0 (.t 21)⟩,
  ⟨(some 23), none, .fa 4 (.t 22)⟩,
  ⟨none, none, .st 1 (.t 23) (.c (.int .i64 2))⟩,
  ⟨(some 24), none, .nc (.t 12)⟩,
  ⟨(some 25), none, .fa 0 (.t 24)⟩,
  ⟨(some 26), none, .fa 14 (.t 25)⟩,
  ⟨none, none, .st 1 (.t 26) (.c (.int .i64 0))⟩]
@[reducible] def i69_R3 : List Iop := [⟨(some 27), none, .ld false 1 (.t 1)⟩,
  ⟨(some 28), none, .ld false 1 (.t 1)⟩,
  ⟨(some 29), none, .nc (.t 28)⟩,
  ⟨(some 30), none, .fa 0 (.t 29)⟩,
  ⟨(some 31), none, .fa 1 (.t 30)⟩,
  ⟨(some 32), none, .ld false 1 (.t 31)⟩,
  ⟨(some 33), none, .mks 1 [.bool false] (.t 32) (.t 32)⟩,
  ⟨(some 34), none, .nc (.t 27)⟩,
  ⟨(some 35), none, .fa 0 (.t 34)⟩,
  ⟨(some 36), none, .fa 11 (.t 35)⟩,
  ⟨none, none, .st 1 (.t 36) (.t 33)⟩]
@[reducible] def i69_R4 : List Iop := [⟨(some 37), none, .ld false 1 (.t 1)⟩,
  ⟨(some 38), none, .ld false 1 (.t 1)⟩,
  ⟨(some 39), none, .nc (.t 38)⟩,
  ⟨(some 40), none, .fa 0 (.t 39)⟩,
  ⟨(some 41), none, .fa 0 (.t 40)⟩,
  ⟨(some 42), none, .ld false 1 (.t 41)⟩,
  ⟨(some 43), none, .call 68 [(.t 37), (.t 42)]⟩]
@[reducible] def i69_R5 : List Iop := [⟨(some 44), none, .ld false 1 (.t 1)⟩,
  ⟨(some 45), none, .call 71 [(.t 44)]⟩]
@[reducible] def i69_R6 : List Iop := [⟨(some 46), none, .ld false 1 (.t 1)⟩,
  ⟨(some 47), none, .mkf 83 [] [(.t 1)]⟩,
  ⟨(some 48), none, .call 50 [(.t 46), (.t 47)]⟩]
@[reducible] def i69_B : IC := (.seq (.reg none i69_R0) (.seq (.reg (some []) i69_R1) (.seq (.reg (some [(1, 11), (2, 11), (2, 15)]) i69_R2) (.seq (.reg (some [(0, 6)]) i69_R3) (.seq (.seq (.reg (some []) i69_R4) (.cond (.t 43) (.seq (.reg none i69_R5) .ret) .skip)) (.reg none i69_R6))))))
@[reducible] def i69_V : List Nat := [0, 1, 43]
def i69 : IFn := ⟨49, i69_V, [], i69_B⟩
theorem i69_ok : compF Go.Proofs.Try.prog i69_V Go.Proofs.Try.f69 = some i69 := by kernel_rfl
/-! (*funicular/raft.member).lead -/
@[reducible] def i71_R0 : List Iop := [⟨(some 3), none, .mv (.t 0)⟩,
  ⟨(some 4), none, .mv (.t 0)⟩,
  ⟨(some 5), none, .nc (.t 4)⟩,
  ⟨(some 6), none, .fa 0 (.t 5)⟩,
  ⟨(some 7), none, .fa 2 (.t 6)⟩,
  ⟨(some 8), none, .ld false 1 (.t 7)⟩,
  ⟨(some 9), none, .mv (.t 0)⟩,
  ⟨(some 10), none, .nc (.t 9)⟩,
  ⟨(some 11), none, .fa 0 (.t 10)⟩,
  ⟨(some 12), none, .fa 0 (.t 11)⟩,
  ⟨(some 13), none, .ld false 1 (.t 12)⟩,
  ⟨(some 14), none, .call 66 [(.t 3), (.t 8), (.t 13)]⟩]
@[reducible] def i71_R1 : List Iop := [⟨(some 15), none, .mv (.t 0)⟩,
  ⟨(some 16), none, .mv (.t 0)⟩,
  ⟨(some 17), none, .nc (.t 15)⟩,
  ⟨(some 18), none, .fa 0 (.t 17)⟩,
  ⟨(some 19), none, .fa 4 (.t 18)⟩,
  ⟨none, none, .st 1 (.t 19) (.c (.int .i64 3))⟩,
  ⟨(some 20), none, .nc (.t 16)⟩,
  ⟨(some 21), none, .fa 0 (.t 20)⟩,
  ⟨(some 22), none, .fa 14 (.t 21)⟩,
  ⟨none, none, .st 1 (.t 22) (.c (.int .i64 0))⟩]
@[reducible] def i71_R2 : List Iop := [⟨(some 23), none, .mv (.t 0)⟩,
  ⟨(some 24), none, .mv (.t 0)⟩,
  ⟨(some 25), none, .mv (.t 0)⟩,
  ⟨(some 26), none, .nc (.t 25)⟩,
  ⟨(some 27), none, .fa 0 (.t 26)⟩,
  ⟨(some 28), none, .fa 1 (.t 27)⟩,
  ⟨(some 29), none, .ld false 1 (.t 28)⟩,
  ⟨(some 30), none, .mks 1 [.int .i64 0] (.t 29) (.t 29)⟩,
  ⟨(some 31), none, .mv (.t 0)⟩,
  ⟨(some 32), none, .nc (.t 31)⟩,
  ⟨(some 33), none, .fa 0 (.t 32)⟩,
  ⟨(some 34), none, .fa 1 (.t 33)⟩,
  ⟨(some 35), none, .ld false 1 (.t 34)⟩,
  ⟨(some 36), none, .mks 1 [.int .i64 0] (.t 35) (.t 35)⟩,
  ⟨(some 37), none, .nc (.t 23)⟩,
  ⟨(some 38), none, .fa 0 (.t 37)⟩,
  ⟨(some 39), none, .fa 12 (.t 38)⟩,
  ⟨none, none, .st 1 (.t 39) (.t 30)⟩,
  ⟨(some 40), none, .nc (.t 24)⟩,
  ⟨(some 41), none, .fa 0 (.t 40)⟩,
  ⟨(some 42), none, .fa 13 (.t 41)⟩,
  ⟨none, none, .st 1 (.t 42) (.t 36)⟩]
@[reducible] def i71_R3 : List Iop := [⟨(some 43), none, .mv (.t 0)⟩,
  ⟨(some 44), none, .nc (.t 43)⟩,
  ⟨(some 45), none, .fa 0 (.t 44)⟩,
  ⟨(some 46), none, .fa 12 (.t 45)⟩,
  ⟨(some 47), none, .ld false 1 (.t 46)⟩,
  ⟨(some 48), none, .lenl (.t 47)⟩,
  ⟨(some 49), none, .mv (.c (.int .i64 0))⟩]
@[reducible] def i71_R4 : List Iop := [⟨(some 50), none, .bin .lss (.t 49) (.t 48)⟩]
@[reducible] def i71_R5 : List Iop := [⟨(some 51), none, .mv (.t 49)⟩,
  ⟨(some 2), none, .mv (.t 51)⟩]
@[reducible] def i71_R6 : List Iop := [⟨(some 52), none, .mv (.t 0)⟩,
  ⟨(some 53), none, .nc (.t 52)⟩,
  ⟨(some 54), none, .fa 0 (.t 53)⟩,
  ⟨(some 55), none, .fa 12 (.t 54)⟩,
  ⟨(some 56), none, .ld false 1 (.t 55)⟩,
  ⟨(some 57), none, .mv (.t 2)⟩,
  ⟨(some 58), none, .mv (.t 0)⟩,
  ⟨(some 59), none, .nc (.t 58)⟩,
  ⟨(some 60), none, .fa 0 (.t 59)⟩,
  ⟨(some 61), none, .fa 6 (.t 60)⟩,
  ⟨(some 62), none, .ld true 3 (.t 61)⟩,
  ⟨(some 63), none, .call 55 [(.t 62)]⟩,
  ⟨(some 64), none, .bin .add (.t 63) (.c (.int .i64 1))⟩,
  ⟨(some 65), none, .ias 1 (.t 56) (.t 57)⟩,
  ⟨none, none, .st 1 (.t 65) (.t 64)⟩]
@[reducible] def i71_R7 : List Iop := [⟨(some 66), none, .bin .add (.t 49) (.c (.int .i64 1))⟩,
  ⟨(some 49), none, .mv (.t 66)⟩]
@[reducible] def i71_L0 : IC := (.seq (.reg none i71_R4) (.seq (.cond (.t 50) .skip (.out 0)) (.seq (.block 1 (.seq (.reg none i71_R5) (.reg (some [(4, 11)]) i71_R6))) (.reg none i71_R7))))
@[reducible] def i71_R8 : List Iop := [⟨(some 67), none, .mv (.t 0)⟩,
  ⟨(some 68), none, .call 54 [(.t 67), (.c (.nil))]⟩]
@[reducible] def i71_B : IC := (.seq (.reg (some []) i71_R0) (.seq (.reg none i71_R1) (.seq (.reg (some [(7, 12), (6, 13), (7, 13), (13, 17)]) i71_R2) (.seq (.seq (.reg none i71_R3) (.block 0 (.loop i71_L0))) (.reg none i71_R8)))))
@[reducible] def i71_V : List Nat := [0, 2, 48, 49, 50]
def i71 : IFn := ⟨69, i71_V, [], i71_B⟩
theorem i71_ok : compF Go.Proofs.Try.prog i71_V Go.Proofs.Try.f71 = some i71 := by kernel_rfl
/-! funicular/raft.wait -/
@[reducible] def i77_R0 : List Iop := [⟨(some 2), none, .mv (.c (.int .i64 0))⟩]
@[reducible] def i77_R1 : List Iop := [⟨(some 3), none, .mv (.t 0)⟩,
  ⟨(some 4), none, .cvt .u64 (.t 3)⟩,
  ⟨(some 5), none, .bin .rem (.t 4) (.c (.int .u64 10))⟩,
  ⟨(some 6), none, .cvt .i64 (.t 5)⟩,
  ⟨(some 7), none, .bin .add (.c (.int .i64 10)) (.t 6)⟩,
  ⟨(some 2), none, .mv (.t 7)⟩]
@[reducible] def i77_B : IC := (.seq (.reg none i77_R0) (.seq (.reg none i77_R1) .ret))
@[reducible] def i77_V : List Nat := [0, 2]
def i77 : IFn := ⟨8, i77_V, [.tmp 2], i77_B⟩
theorem i77_ok : compF Go.Proofs.Try.prog i77_V Go.Proofs.Try.f77 = some i77 := by kernel_rfl
/-! funicular/logs.Behind -/
@[reducible] def i79_R0 : List Iop := [⟨(some 2), none, .box (.t 0)⟩,
  ⟨(some 3), none, .box (.t 1)⟩,
  ⟨(some 4), none, .alloc [.int .i64 0, .int .i64 0, .nil]⟩]
@[reducible] def i79_R1 : List Iop := [⟨(some 6), none, .ld true 3 (.t 2)⟩,
  ⟨(some 7), none, .call 34 [(.t 6)]⟩,
  ⟨(some 5), none, .alloc [.int .i64 0, .int .i64 0, .nil]⟩,
  ⟨none, none, .st 3 (.t 5) (.t 7)⟩]
@[reducible] def i79_R2 : List Iop := [⟨(some 8), none, .fa 2 (.t 5)⟩,
  ⟨(some 9), none, .ld false 1 (.t 8)⟩,
  ⟨(some 10), none, .fa 0 (.t 3)⟩,
  ⟨(some 11), none, .ld false 1 (.t 10)⟩,
  ⟨(some 12), none, .fa 1 (.t 3)⟩,
  ⟨(some 13), none, .ld false 1 (.t 12)⟩,
  ⟨(some 14), none, .cln 1 (.t 13)⟩,
  ⟨(some 15), none, .build [.int .i64 0, .nil] [(0, 1, (.t 11)), (1, 1, (.t 14))]⟩,
  ⟨(some 16), none, .bsl 2 [.int .i64 0, .imm 0 [] false] 1 [(0, (.t 15))]⟩,
  ⟨(some 17), none, .app 2 (.t 9) (.t 16)⟩,
  ⟨(some 18), none, .fa 2 (.t 5)⟩,
  ⟨none, none, .st 1 (.t 18) (.t 17)⟩]
@[reducible] def i79_R3 : List Iop := [⟨(some 19), none, .ld true 3 (.t 5)⟩,
  ⟨none, none, .st 3 (.t 4) (.t 19)⟩]
@[reducible] def i79_B : IC := (.seq (.reg none i79_R0) (.seq (.reg none i79_R1) (.seq (.reg (some [(1, 6), (3, 6), (1, 8)]) i79_R2) (.seq (.reg none i79_R3) .ret))))
@[reducible] def i79_V : List Nat := [0, 1, 2, 3, 4, 5]
def i79 : IFn := ⟨20, i79_V, [.cell 4 true 3], i79_B⟩
theorem i79_ok : compF Go.Proofs.Try.prog i79_V Go.Proofs.Try.f79 = some i79 := by kernel_rfl
/-! (*funicular/raft.member).commit -/
@[reducible] def i80_R0 : List Iop := [⟨(some 5), none, .mv (.t 0)⟩,
  ⟨(some 6), none, .nc (.t 5)⟩,
  ⟨(some 7), none, .fa 0 (.t 6)⟩,
  ⟨(some 8), none, .fa 13 (.t 7)⟩,
  ⟨(some 9), none, .ld false 1 (.t 8)⟩,
  ⟨(some 10), none, .call 87 [(.t 9)]⟩,
  ⟨(some 2), none, .mv (.t 10)⟩]
@[reducible] def i80_R1 : List Iop := [⟨(some 12), none, .mv (.t 0)⟩,
  ⟨(some 13), none, .nc (.t 12)⟩,
  ⟨(some 14), none, .fa 0 (.t 13)⟩,
  ⟨(some 15), none, .fa 6 (.t 14)⟩,
  ⟨(some 16), none, .ld true 3 (.t 15)⟩,
  ⟨(some 17), none, .mv (.t 2)⟩,
  ⟨(some 18), none, .call 59 [(.t 16), (.t 17)]⟩,
  ⟨(some 11), none, .mv (.t 18)⟩,
  ⟨(some 19), none, .ext 0 (.t 11)⟩,
  ⟨(some 20), none, .ext 1 (.t 11)⟩,
  ⟨(some 3), none, .mv (.t 19)⟩,
  ⟨(some 4), none, .mv (.t 20)⟩]
@[reducible] def i80_R2 : List Iop := [⟨(some 21), none, .mv (.t 4)⟩,
  ⟨(some 22), none, .mv (.t 21)⟩,
  ⟨(some 23), (some (22, true)), .mv (.t 2)⟩,
  ⟨(some 24), (some (22, true)), .mv (.t 0)⟩,
  ⟨(some 25), (some (22, true)), .nc (.t 24)⟩,
  ⟨(some 26), (some (22, true)), .fa 0 (.t 25)⟩,
  ⟨(some 27), (some (22, true)), .fa 9 (.t 26)⟩,
  ⟨(some 28), (some (22, true)), .ld false 1 (.t 27)⟩,
  ⟨(some 29), (some (22, true)), .bin .gtr (.t 23) (.t 28)⟩,
  ⟨(some 30), none, .pick (.t 22) (.t 29) (.c (.bool false))⟩,
  ⟨(some 31), none, .mv (.t 30)⟩,
  ⟨(some 32), (some (31, true)), .mv (.t 3)⟩,
  ⟨(some 33), (some (31, true)), .mv (.t 0)⟩,
  ⟨(some 34), (some (31, true)), .nc (.t 33)⟩,
  ⟨(some 35), (some (31, true)), .fa 0 (.t 34)⟩,
  ⟨(some 36), (some (31, true)), .fa 2 (.t 35)⟩,
  ⟨(some 37), (some (31, true)), .ld false 1 (.t 36)⟩,
  ⟨(some 38), (some (31, true)), .bin .eql (.t 32) (.t 37)⟩,
  ⟨(some 39), none, .pick (.t 31) (.t 38) (.c (.bool false))⟩]
@[reducible] def i80_R3 : List Iop := [⟨(some 40), none, .mv (.t 0)⟩,
  ⟨(some 41), none, .mv (.t 2)⟩,
  ⟨(some 42), none, .nc (.t 40)⟩,
  ⟨(some 43), none, .fa 0 (.t 42)⟩,
  ⟨(some 44), none, .fa 9 (.t 43)⟩,
  ⟨none, none, .st 1 (.t 44) (.t 41)⟩]
@[reducible] def i80_B : IC := (.seq (.reg none i80_R0) (.seq (.reg none i80_R1) (.seq (.reg none i80_R2) (.cond (.t 39) (.reg none i80_R3) .skip))))
@[reducible] def i80_V : List Nat := [0, 2, 3, 4, 39]
def i80 : IFn := ⟨45, i80_V, [], i80_B⟩
theorem i80_ok : compF Go.Proofs.Try.prog i80_V Go.Proofs.Try.f80 = some i80 := by kernel_rfl
/-! funicular/quorum.Won -/
@[reducible] def i82_R0 : List Iop := [⟨(some 2), none, .mv (.c (.bool false))⟩]
@[reducible] def i82_R1 : List Iop := [⟨(some 3), none, .mv (.c (.int .i64 0))⟩]
@[reducible] def i82_R2 : List Iop := [⟨(some 6), none, .mv (.t 0)⟩,
  ⟨(some 7), none, .lenl (.t 6)⟩,
  ⟨(some 8), none, .mv (.c (.int .i64 0))⟩]
@[reducible] def i82_R3 : List Iop := [⟨(some 9), none, .bin .lss (.t 8) (.t 7)⟩]
@[reducible] def i82_R4 : List Iop := [⟨(some 10), none, .ias 1 (.t 6) (.t 8)⟩,
  ⟨(some 11), none, .ld false 1 (.t 10)⟩,
  ⟨(some 5), none, .mv (.t 11)⟩]
@[reducible] def i82_R5 : List Iop := [⟨(some 12), none, .mv (.t 5)⟩]
@[reducible] def i82_R6 : List Iop := [⟨(some 13), none, .mv (.t 3)⟩,
  ⟨(some 14), none, .bin .add (.t 13) (.c (.int .i64 1))⟩,
  ⟨(some 3), none, .mv (.t 14)⟩]
@[reducible] def i82_R7 : List Iop := [⟨(some 15), none, .bin .add (.t 8) (.c (.int .i64 1))⟩,
  ⟨(some 8), none, .mv (.t 15)⟩]
@[reducible] def i82_L0 : IC := (.seq (.reg none i82_R3) (.seq (.cond (.t 9) .skip (.out 0)) (.seq (.block 1 (.seq (.reg none i82_R4) (.seq (.reg none i82_R5) (.cond (.t 12) (.reg none i82_R6) .skip)))) (.reg none i82_R7))))
@[reducible] def i82_R8 : List Iop := [⟨(some 16), none, .mv (.t 0)⟩,
  ⟨(some 17), none, .lenl (.t 16)⟩,
  ⟨(some 18), none, .bin .gtr (.t 17) (.c (.int .i64 0))⟩,
  ⟨(some 19), none, .mv (.t 18)⟩,
  ⟨(some 20), (some (19, true)), .mv (.t 3)⟩,
  ⟨(some 21), (some (19, true)), .mv (.t 0)⟩,
  ⟨(some 22), (some (19, true)), .lenl (.t 21)⟩,
  ⟨(some 23), (some (19, true)), .call 88 [(.t 22)]⟩,
  ⟨(some 24), (some (19, true)), .bin .geq (.t 20) (.t 23)⟩,
  ⟨(some 25), none, .pick (.t 19) (.t 24) (.c (.bool false))⟩,
  ⟨(some 2), none, .mv (.t 25)⟩]
@[reducible] def i82_B : IC := (.seq (.reg none i82_R0) (.seq (.reg none i82_R1) (.seq (.seq (.reg none i82_R2) (.block 0 (.loop i82_L0))) (.seq (.reg none i82_R8) .ret))))
@[reducible] def i82_V : List Nat := [0, 2, 3, 5, 6, 7, 8, 9, 12]
def i82 : IFn := ⟨26, i82_V, [.tmp 2], i82_B⟩
theorem i82_ok : compF Go.Proofs.Try.prog i82_V Go.Proofs.Try.f82 = some i82 := by kernel_rfl
/-! funicular/quorum.Reached -/
@[reducible] def i87_R0 : List Iop := [⟨(some 2), none, .mv (.c (.int .i64 0))⟩]
@[reducible] def i87_R1 : List Iop := [⟨(some 6), none, .mv (.t 0)⟩,
  ⟨(some 7), none, .mv (.t 0)⟩,
  ⟨(some 8), none, .lenl (.t 7)⟩,
  ⟨(some 9), none, .call 88 [(.t 8)]⟩,
  ⟨(some 10), none, .call 89 [(.t 6), (.t 9)]⟩,
  ⟨(some 5), none, .mv (.t 10)⟩,
  ⟨(some 11), none, .ext 0 (.t 5)⟩,
  ⟨(some 12), none, .ext 1 (.t 5)⟩,
  ⟨(some 3), none, .mv (.t 11)⟩,
  ⟨(some 4), none, .mv (.t 12)⟩]
@[reducible] def i87_R2 : List Iop := [⟨(some 13), none, .mv (.t 3)⟩,
  ⟨(some 2), none, .mv (.t 13)⟩]
@[reducible] def i87_B : IC := (.seq (.reg none i87_R0) (.seq (.reg none i87_R1) (.seq (.reg none i87_R2) .ret)))
@[reducible] def i87_V : List Nat := [0, 2, 3]
def i87 : IFn := ⟨14, i87_V, [.tmp 2], i87_B⟩
theorem i87_ok : compF Go.Proofs.Try.prog i87_V Go.Proofs.Try.f87 = some i87 := by kernel_rfl
/-! funicular/quorum.Enough -/
@[reducible] def i88_R0 : List Iop := [⟨(some 2), none, .mv (.c (.int .i64 0))⟩]
@[reducible] def i88_R1 : List Iop := [⟨(some 3), none, .mv (.t 0)⟩,
  ⟨(some 4), none, .bin .lss (.t 3) (.c (.int .i64 1))⟩]
@[reducible] def i88_R2 : List Iop := [⟨(some 2), none, .mv (.c (.int .i64 0))⟩]
@[reducible] def i88_R3 : List Iop := [⟨(some 5), none, .mv (.t 0)⟩,
  ⟨(some 6), none, .bin .quo (.t 5) (.c (.int .i64 2))⟩,
  ⟨(some 7), none, .bin .add (.t 6) (.c (.int .i64 1))⟩,
  ⟨(some 2), none, .mv (.t 7)⟩]
@[reducible] def i88_B : IC := (.seq (.reg none i88_R0) (.seq (.seq (.reg none i88_R1) (.cond (.t 4) (.seq (.reg none i88_R2) .ret) .skip)) (.seq (.reg none i88_R3) .ret)))
@[reducible] def i88_V : List Nat := [0, 2, 4]
def i88 : IFn := ⟨8, i88_V, [.tmp 2], i88_B⟩
theorem i88_ok : compF Go.Proofs.Try.prog i88_V Go.Proofs.Try.f88 = some i88 := by kernel_rfl
/-! funicular/quorum.nth[int] -/
@[reducible] def i89_R0 : List Iop := [⟨(some 4), none, .mv (.c (.int .i64 0))⟩,
  ⟨(some 5), none, .mv (.c (.bool false))⟩]
@[reducible] def i89_R1 : List Iop := [⟨(some 6), none, .mv (.c (.int .i64 0))⟩]
@[reducible] def i89_R2 : List Iop := [⟨(some 8), none, .mv (.t 1)⟩,
  ⟨(some 9), none, .bin .lss (.t 8) (.c (.int .i64 1))⟩,
  ⟨(some 10), none, .mv (.t 9)⟩,
  ⟨(some 11), (some (10, false)), .mv (.t 1)⟩,
  ⟨(some 12), (some (10, false)), .mv (.t 0)⟩,
  ⟨(some 13), (some (10, false)), .lenl (.t 12)⟩,
  ⟨(some 14), (some (10, false)), .bin .gtr (.t 11) (.t 13)⟩,
  ⟨(some 15), none, .pick (.t 10) (.c (.bool true)) (.t 14)⟩]
@[reducible] def i89_R3 : List Iop := [⟨(some 16), none, .mv (.t 6)⟩,
  ⟨(some 4), none, .mv (.t 16)⟩,
  ⟨(some 5), none, .mv (.c (.bool false))⟩]
@[reducible] def i89_R4 : List Iop := [⟨(some 17), none, .mv (.t 0)⟩,
  ⟨(some 18), none, .cln 1 (.t 17)⟩,
  ⟨(some 7), none, .mv (.t 18)⟩]
@[reducible] def i89_R5 : List Iop := [⟨(some 19), none, .mv (.t 7)⟩,
  ⟨(some 20), none, .call 90 [(.t 19)]⟩]
@[reducible] def i89_R6 : List Iop := [⟨(some 21), none, .mv (.t 7)⟩,
  ⟨(some 22), none, .mv (.t 7)⟩,
  ⟨(some 23), none, .lenl (.t 22)⟩,
  ⟨(some 24), none, .mv (.t 1)⟩,
  ⟨(some 25), none, .bin .sub (.t 23) (.t 24)⟩,
  ⟨(some 26), none, .ias 1 (.t 21) (.t 25)⟩,
  ⟨(some 27), none, .ld false 1 (.t 26)⟩,
  ⟨(some 4), none, .mv (.t 27)⟩,
  ⟨(some 5), none, .mv (.c (.bool true))⟩]
@[reducible] def i89_B : IC := (.seq (.reg none i89_R0) (.seq (.reg none i89_R1) (.seq (.seq (.reg none i89_R2) (.cond (.t 15) (.seq (.reg none i89_R3) .ret) .skip)) (.seq (.reg none i89_R4) (.seq (.reg none i89_R5) (.seq (.reg none i89_R6) .ret))))))
@[reducible] def i89_V : List Nat := [0, 1, 4, 5, 6, 7, 15]
def i89 : IFn := ⟨28, i89_V, [.tmp 4, .tmp 5], i89_B⟩
theorem i89_ok : compF Go.Proofs.Try.prog i89_V Go.Proofs.Try.f89 = some i89 := by kernel_rfl
end Go.Proofs.Ytgoachcogmlhcaa.R
