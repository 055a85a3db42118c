import Derived.Test.YtjhnlgelcfplaaaRDefs
import Derived.Test.YtjhnlgelcfplaaaProg
import Derived.KernelRfl
namespace Go.Proofs.Ytjhnlgelcfplaaa.R
open Go
set_option maxRecDepth 100000
/-! The compact code, and that it is the program's. -/
/-! funicular/funicularlaw09.VarsBack -/
@[reducible] def i4_R0 : List Iop := [⟨(some 2), none, .box (.t 0)⟩,
  ⟨(some 4), none, .mv (.c (.bool false))⟩]
@[reducible] def i4_R1 : List Iop := [⟨(some 12), none, .ld true 2 (.t 2)⟩,
  ⟨(some 13), none, .call 12 [(.t 12)]⟩,
  ⟨(some 14), none, .nt (.t 13)⟩,
  ⟨(some 15), none, .mv (.t 14)⟩,
  ⟨(some 16), (some (15, false)), .mv (.t 1)⟩,
  ⟨(some 17), (some (15, false)), .lenl (.t 16)⟩,
  ⟨(some 18), (some (15, false)), .bin .gtr (.t 17) (.c (.int .i64 3000))⟩,
  ⟨(some 19), none, .pick (.t 15) (.c (.bool true)) (.t 18)⟩]
@[reducible] def i4_R2 : List Iop := [⟨(some 20), none, .call 13 []⟩,
  ⟨(some 4), none, .mv (.t 20)⟩]
@[reducible] def i4_R3 : List Iop := [⟨(some 21), none, .ld true 2 (.t 2)⟩,
  ⟨(some 22), none, .call 15 [(.t 21)]⟩,
  ⟨(some 23), none, .bin .eql (.t 22) (.c (.int .i64 0))⟩]
@[reducible] def i4_R4 : List Iop := [⟨(some 5), none, .mv (.c (.nil))⟩]
@[reducible] def i4_R5 : List Iop := [⟨(some 24), none, .mv (.t 5)⟩,
  ⟨(some 25), none, .ld true 2 (.t 2)⟩,
  ⟨(some 26), none, .call 19 [(.c (.nil)), (.t 25)]⟩,
  ⟨(some 27), none, .app 1 (.t 24) (.t 26)⟩,
  ⟨(some 28), none, .mv (.t 1)⟩,
  ⟨(some 29), none, .app 1 (.t 27) (.t 28)⟩,
  ⟨(some 5), none, .mv (.t 29)⟩]
@[reducible] def i4_R6 : List Iop := [⟨(some 31), none, .mv (.t 5)⟩,
  ⟨(some 32), none, .call 20 [(.t 31)]⟩,
  ⟨(some 30), none, .mv (.t 32)⟩,
  ⟨(some 33), none, .ext 0 (.t 30)⟩,
  ⟨(some 34), none, .ext 1 (.t 30)⟩,
  ⟨(some 35), none, .ext 2 (.t 30)⟩,
  ⟨(some 6), none, .alloc [.nil, .nil]⟩,
  ⟨none, none, .st 2 (.t 6) (.t 33)⟩,
  ⟨(some 7), none, .mv (.t 34)⟩,
  ⟨(some 8), none, .mv (.t 35)⟩]
@[reducible] def i4_R7 : List Iop := [⟨(some 36), none, .mv (.t 8)⟩,
  ⟨(some 37), none, .bin .neq (.t 36) (.c (.int .i64 0))⟩,
  ⟨(some 38), none, .mv (.t 37)⟩,
  ⟨(some 39), (some (38, false)), .ld true 2 (.t 2)⟩,
  ⟨(some 40), (some (38, false)), .ld true 2 (.t 6)⟩,
  ⟨(some 41), (some (38, false)), .call 17 [(.t 39), (.t 40)]⟩,
  ⟨(some 42), (some (38, false)), .nt (.t 41)⟩,
  ⟨(some 43), none, .pick (.t 38) (.c (.bool true)) (.t 42)⟩,
  ⟨(some 44), none, .mv (.t 43)⟩,
  ⟨(some 45), (some (44, false)), .mv (.t 7)⟩,
  ⟨(some 46), (some (44, false)), .mv (.t 1)⟩,
  ⟨(some 47), (some (44, false)), .call 21 [(.t 45), (.t 46)]⟩,
  ⟨(some 48), (some (44, false)), .nt (.t 47)⟩,
  ⟨(some 49), none, .pick (.t 44) (.c (.bool true)) (.t 48)⟩]
@[reducible] def i4_R8 : List Iop := [⟨(some 4), none, .mv (.c (.bool false))⟩]
@[reducible] def i4_R9 : List Iop := [⟨(some 51), none, .mv (.t 1)⟩,
  ⟨(some 52), none, .call 20 [(.t 51)]⟩,
  ⟨(some 50), none, .mv (.t 52)⟩,
  ⟨(some 53), none, .ext 0 (.t 50)⟩,
  ⟨(some 54), none, .ext 1 (.t 50)⟩,
  ⟨(some 55), none, .ext 2 (.t 50)⟩,
  ⟨(some 9), none, .alloc [.nil, .nil]⟩,
  ⟨none, none, .st 2 (.t 9) (.t 53)⟩,
  ⟨(some 10), none, .mv (.t 54)⟩,
  ⟨(some 11), none, .mv (.t 55)⟩]
@[reducible] def i4_R10 : List Iop := [⟨(some 56), none, .mv (.t 11)⟩,
  ⟨(some 57), none, .bin .neq (.t 56) (.c (.int .i64 0))⟩,
  ⟨(some 58), none, .mv (.t 57)⟩,
  ⟨(some 59), (some (58, false)), .ld true 2 (.t 9)⟩,
  ⟨(some 60), (some (58, false)), .call 19 [(.c (.nil)), (.t 59)]⟩,
  ⟨(some 61), (some (58, false)), .mv (.t 10)⟩,
  ⟨(some 62), (some (58, false)), .app 1 (.t 60) (.t 61)⟩,
  ⟨(some 63), (some (58, false)), .mv (.t 1)⟩,
  ⟨(some 64), (some (58, false)), .call 21 [(.t 62), (.t 63)]⟩,
  ⟨(some 65), none, .pick (.t 58) (.c (.bool true)) (.t 64)⟩,
  ⟨(some 66), none, .mv (.t 65)⟩,
  ⟨(some 67), (some (66, true)), .call 13 []⟩,
  ⟨(some 68), none, .pick (.t 66) (.t 67) (.c (.bool false))⟩,
  ⟨(some 4), none, .mv (.t 68)⟩]
@[reducible] def i4_B : IC := (.seq (.reg none i4_R0) (.seq (.seq (.reg none i4_R1) (.cond (.t 19) (.seq (.reg none i4_R2) .ret) .skip)) (.seq (.seq (.reg none i4_R3) (.cond (.t 23) (.seq (.reg none i4_R4) (.seq (.reg none i4_R5) (.seq (.reg none i4_R6) (.seq (.reg none i4_R7) (.cond (.t 49) (.seq (.reg none i4_R8) .ret) .skip))))) .skip)) (.seq (.reg none i4_R9) (.seq (.reg none i4_R10) .ret)))))
@[reducible] def i4_V : List Nat := [0, 1, 2, 4, 5, 6, 7, 8, 9, 10, 11, 19, 23, 49]
def i4 : IFn := ⟨69, i4_V, [.tmp 4], i4_B⟩
theorem i4_ok : compF Go.Proofs.Try.prog i4_V Go.Proofs.Try.f4 = some i4 := by kernel_rfl
/-! funicular/funicularlaw09.light -/
@[reducible] def i12_R0 : List Iop := [⟨(some 1), none, .box (.t 0)⟩,
  ⟨(some 2), none, .mv (.c (.bool false))⟩]
@[reducible] def i12_R1 : List Iop := [⟨(some 4), none, .fa 0 (.t 1)⟩,
  ⟨(some 5), none, .ld false 1 (.t 4)⟩,
  ⟨(some 6), none, .lenl (.t 5)⟩,
  ⟨(some 7), none, .bin .gtr (.t 6) (.c (.int .i64 200))⟩,
  ⟨(some 8), none, .mv (.t 7)⟩,
  ⟨(some 9), (some (8, false)), .fa 1 (.t 1)⟩,
  ⟨(some 10), (some (8, false)), .ld false 1 (.t 9)⟩,
  ⟨(some 11), (some (8, false)), .lenl (.t 10)⟩,
  ⟨(some 12), (some (8, false)), .bin .gtr (.t 11) (.c (.int .i64 200))⟩,
  ⟨(some 13), none, .pick (.t 8) (.c (.bool true)) (.t 12)⟩]
@[reducible] def i12_R2 : List Iop := [⟨(some 2), none, .mv (.c (.bool false))⟩]
@[reducible] def i12_R3 : List Iop := [⟨(some 3), none, .mv (.c (.int .i64 0))⟩]
@[reducible] def i12_R4 : List Iop := [⟨(some 14), none, .mv (.t 3)⟩,
  ⟨(some 15), none, .fa 0 (.t 1)⟩,
  ⟨(some 16), none, .ld false 1 (.t 15)⟩,
  ⟨(some 17), none, .lenl (.t 16)⟩,
  ⟨(some 18), none, .bin .lss (.t 14) (.t 17)⟩]
@[reducible] def i12_R5 : List Iop := [⟨(some 21), none, .fa 0 (.t 1)⟩,
  ⟨(some 22), none, .ld false 1 (.t 21)⟩,
  ⟨(some 23), none, .mv (.t 3)⟩,
  ⟨(some 24), none, .ias 1 (.t 22) (.t 23)⟩,
  ⟨(some 25), none, .ld false 1 (.t 24)⟩,
  ⟨(some 26), none, .lens (.t 25)⟩,
  ⟨(some 27), none, .bin .gtr (.t 26) (.c (.int .i64 60))⟩]
@[reducible] def i12_R6 : List Iop := [⟨(some 2), none, .mv (.c (.bool false))⟩]
@[reducible] def i12_R7 : List Iop := [⟨(some 19), none, .mv (.t 3)⟩,
  ⟨(some 20), none, .bin .add (.t 19) (.c (.int .i64 1))⟩,
  ⟨(some 3), none, .mv (.t 20)⟩]
@[reducible] def i12_L0 : IC := (.seq (.seq (.reg none i12_R4) (.cond (.t 18) .skip (.out 0))) (.seq (.block 1 (.seq (.reg none i12_R5) (.cond (.t 27) (.seq (.reg none i12_R6) .ret) .skip))) (.reg none i12_R7)))
@[reducible] def i12_R8 : List Iop := [⟨(some 2), none, .mv (.c (.bool true))⟩]
@[reducible] def i12_B : IC := (.seq (.reg none i12_R0) (.seq (.seq (.reg none i12_R1) (.cond (.t 13) (.seq (.reg none i12_R2) .ret) .skip)) (.seq (.seq (.reg none i12_R3) (.block 0 (.loop i12_L0))) (.seq (.reg none i12_R8) .ret))))
@[reducible] def i12_V : List Nat := [0, 1, 2, 3, 13, 18, 27]
def i12 : IFn := ⟨28, i12_V, [.tmp 2], i12_B⟩
theorem i12_ok : compF Go.Proofs.Try.prog i12_V Go.Proofs.Try.f12 = some i12 := by kernel_rfl
/-! funicular/funicularlaw09.works -/
@[reducible] def i13_R0 : List Iop := [⟨(some 0), none, .mv (.c (.bool false))⟩]
@[reducible] def i13_R1 : List Iop := [⟨(some 11), none, .call 25 [(.c (.str ⟨#[98]⟩)), (.c (.int .i64 2))]⟩,
  ⟨(some 12), none, .call 25 [(.c (.str ⟨#[97]⟩)), (.c (.int .i64 (-1)))]⟩,
  ⟨(some 13), none, .call 25 [(.c (.str ⟨#[98]⟩)), (.c (.int .i64 5))]⟩,
  ⟨(some 14), none, .bsl 2 [.imm 0 [] false, .imm 0 [] false] 3 [(0, (.t 11)), (1, (.t 12)), (2, (.t 13))]⟩,
  ⟨(some 15), none, .call 22 [(.t 14)]⟩,
  ⟨(some 10), none, .mv (.t 15)⟩,
  ⟨(some 16), none, .ext 0 (.t 10)⟩,
  ⟨(some 17), none, .ext 1 (.t 10)⟩,
  ⟨(some 1), none, .alloc [.nil, .nil]⟩,
  ⟨none, none, .st 2 (.t 1) (.t 16)⟩,
  ⟨(some 2), none, .mv (.t 17)⟩]
@[reducible] def i13_R2 : List Iop := [⟨(some 19), none, .ld true 2 (.t 1)⟩,
  ⟨(some 20), none, .call 28 [(.t 19), (.c (.str ⟨#[98]⟩))]⟩,
  ⟨(some 18), none, .mv (.t 20)⟩,
  ⟨(some 21), none, .ext 0 (.t 18)⟩,
  ⟨(some 22), none, .ext 1 (.t 18)⟩,
  ⟨(some 3), none, .mv (.t 21)⟩,
  ⟨(some 4), none, .mv (.t 22)⟩]
@[reducible] def i13_R3 : List Iop := [⟨(some 24), none, .ld true 2 (.t 1)⟩,
  ⟨(some 25), none, .call 19 [(.c (.nil)), (.t 24)]⟩,
  ⟨(some 26), none, .bsl 1 [.int .u8 0] 1 [(0, (.c (.int .u8 7)))]⟩,
  ⟨(some 27), none, .app 1 (.t 25) (.t 26)⟩,
  ⟨(some 28), none, .call 20 [(.t 27)]⟩,
  ⟨(some 23), none, .mv (.t 28)⟩,
  ⟨(some 29), none, .ext 0 (.t 23)⟩,
  ⟨(some 30), none, .ext 1 (.t 23)⟩,
  ⟨(some 31), none, .ext 2 (.t 23)⟩,
  ⟨(some 5), none, .alloc [.nil, .nil]⟩,
  ⟨none, none, .st 2 (.t 5) (.t 29)⟩,
  ⟨(some 6), none, .mv (.t 30)⟩,
  ⟨(some 7), none, .mv (.t 31)⟩]
@[reducible] def i13_R4 : List Iop := [⟨(some 33), none, .ld true 2 (.t 1)⟩,
  ⟨(some 34), none, .call 24 [(.t 33), (.c (.str ⟨#[110, 111]⟩)), (.c (.int .i64 1))]⟩,
  ⟨(some 32), none, .mv (.t 34)⟩,
  ⟨(some 35), none, .ext 0 (.t 32)⟩,
  ⟨(some 36), none, .ext 1 (.t 32)⟩,
  ⟨(some 8), none, .alloc [.nil, .nil]⟩,
  ⟨none, none, .st 2 (.t 8) (.t 35)⟩,
  ⟨(some 9), none, .mv (.t 36)⟩]
@[reducible] def i13_R5 : List Iop := [⟨(some 37), none, .mv (.t 2)⟩,
  ⟨(some 38), none, .bin .eql (.t 37) (.c (.int .i64 0))⟩,
  ⟨(some 39), none, .mv (.t 38)⟩,
  ⟨(some 40), (some (39, true)), .mv (.t 3)⟩,
  ⟨(some 41), (some (39, true)), .bin .eql (.t 40) (.c (.int .i64 5))⟩,
  ⟨(some 42), none, .pick (.t 39) (.t 41) (.c (.bool false))⟩,
  ⟨(some 43), none, .mv (.t 42)⟩,
  ⟨(some 44), (some (43, true)), .mv (.t 4)⟩,
  ⟨(some 45), none, .pick (.t 43) (.t 44) (.c (.bool false))⟩,
  ⟨(some 46), none, .mv (.t 45)⟩,
  ⟨(some 47), (some (46, true)), .fa 0 (.t 1)⟩,
  ⟨(some 48), (some (46, true)), .ld false 1 (.t 47)⟩,
  ⟨(some 49), (some (46, true)), .lenl (.t 48)⟩,
  ⟨(some 50), (some (46, true)), .bin .eql (.t 49) (.c (.int .i64 2))⟩,
  ⟨(some 51), none, .pick (.t 46) (.t 50) (.c (.bool false))⟩,
  ⟨(some 52), none, .mv (.t 51)⟩,
  ⟨(some 53), (some (52, true)), .mv (.t 7)⟩,
  ⟨(some 54), (some (52, true)), .bin .eql (.t 53) (.c (.int .i64 0))⟩,
  ⟨(some 55), none, .pick (.t 52) (.t 54) (.c (.bool false))⟩,
  ⟨(some 56), none, .mv (.t 55)⟩,
  ⟨(some 57), (some (56, true)), .ld true 2 (.t 1)⟩,
  ⟨(some 58), (some (56, true)), .ld true 2 (.t 5)⟩,
  ⟨(some 59), (some (56, true)), .call 16 [(.t 57), (.t 58)]⟩,
  ⟨(some 60), none, .pick (.t 56) (.t 59) (.c (.bool false))⟩,
  ⟨(some 61), none, .mv (.t 60)⟩,
  ⟨(some 62), (some (61, true)), .mv (.t 6)⟩,
  ⟨(some 63), (some (61, true)), .lenl (.t 62)⟩,
  ⟨(some 64), (some (61, true)), .bin .eql (.t 63) (.c (.int .i64 1))⟩,
  ⟨(some 65), none, .pick (.t 61) (.t 64) (.c (.bool false))⟩,
  ⟨(some 66), none, .mv (.t 65)⟩,
  ⟨(some 67), (some (66, true)), .mv (.t 9)⟩,
  ⟨(some 68), (some (66, true)), .bin .eql (.t 67) (.c (.int .i64 1))⟩,
  ⟨(some 69), none, .pick (.t 66) (.t 68) (.c (.bool false))⟩,
  ⟨(some 70), none, .mv (.t 69)⟩,
  ⟨(some 71), (some (70, true)), .ld true 2 (.t 1)⟩,
  ⟨(some 72), (some (70, true)), .call 14 [(.t 71)]⟩,
  ⟨(some 73), (some (70, true)), .bin .eql (.t 72) (.c (.int .i64 0))⟩,
  ⟨(some 74), none, .pick (.t 70) (.t 73) (.c (.bool false))⟩,
  ⟨(some 75), none, .mv (.t 74)⟩,
  ⟨(some 76), (some (75, true)), .ld true 2 (.t 1)⟩,
  ⟨(some 77), (some (75, true)), .ld true 2 (.t 1)⟩,
  ⟨(some 78), (some (75, true)), .call 18 [(.t 77)]⟩,
  ⟨(some 79), (some (75, true)), .call 16 [(.t 76), (.t 78)]⟩,
  ⟨(some 80), none, .pick (.t 75) (.t 79) (.c (.bool false))⟩,
  ⟨(some 0), none, .mv (.t 80)⟩]
@[reducible] def i13_B : IC := (.seq (.reg none i13_R0) (.seq (.reg none i13_R1) (.seq (.reg none i13_R2) (.seq (.reg none i13_R3) (.seq (.reg none i13_R4) (.seq (.reg (some [(39, 41)]) i13_R5) .ret))))))
@[reducible] def i13_V : List Nat := [0, 1, 2, 3, 4, 5, 6, 7, 9]
def i13 : IFn := ⟨81, i13_V, [.tmp 0], i13_B⟩
theorem i13_ok : compF Go.Proofs.Try.prog i13_V Go.Proofs.Try.f13 = some i13 := by kernel_rfl
/-! funicular/vars.Check -/
@[reducible] def i14_R0 : List Iop := [⟨(some 1), none, .box (.t 0)⟩,
  ⟨(some 2), none, .mv (.c (.int .i64 0))⟩]
@[reducible] def i14_R1 : List Iop := [⟨(some 6), none, .fa 0 (.t 1)⟩,
  ⟨(some 7), none, .ld false 1 (.t 6)⟩,
  ⟨(some 8), none, .lenl (.t 7)⟩,
  ⟨(some 9), none, .fa 1 (.t 1)⟩,
  ⟨(some 10), none, .ld false 1 (.t 9)⟩,
  ⟨(some 11), none, .lenl (.t 10)⟩,
  ⟨(some 12), none, .bin .neq (.t 8) (.t 11)⟩,
  ⟨(some 5), none, .mv (.t 12)⟩]
@[reducible] def i14_R2 : List Iop := [⟨(some 2), none, .mv (.c (.int .i64 1))⟩]
@[reducible] def i14_R3 : List Iop := [⟨(some 14), none, .fa 0 (.t 1)⟩,
  ⟨(some 15), none, .ld false 1 (.t 14)⟩,
  ⟨(some 16), none, .lenl (.t 15)⟩,
  ⟨(some 17), none, .bin .gtr (.t 16) (.c (.int .i64 64))⟩,
  ⟨(some 13), none, .mv (.t 17)⟩]
@[reducible] def i14_R4 : List Iop := [⟨(some 2), none, .mv (.c (.int .i64 6))⟩]
@[reducible] def i14_R5 : List Iop := [⟨(some 18), none, .fa 0 (.t 1)⟩,
  ⟨(some 19), none, .ld false 1 (.t 18)⟩,
  ⟨(some 20), none, .lenl (.t 19)⟩,
  ⟨(some 21), none, .mv (.c (.int .i64 0))⟩]
@[reducible] def i14_R6 : List Iop := [⟨(some 22), none, .bin .lss (.t 21) (.t 20)⟩]
@[reducible] def i14_R7 : List Iop := [⟨(some 23), none, .mv (.t 21)⟩,
  ⟨(some 24), none, .ias 1 (.t 19) (.t 21)⟩,
  ⟨(some 25), none, .ld false 1 (.t 24)⟩,
  ⟨(some 3), none, .mv (.t 23)⟩,
  ⟨(some 4), none, .mv (.t 25)⟩]
@[reducible] def i14_R8 : List Iop := [⟨(some 26), none, .mv (.t 4)⟩,
  ⟨(some 27), none, .call 54 [(.t 26)]⟩,
  ⟨(some 28), none, .nt (.t 27)⟩,
  ⟨(some 29), none, .mv (.t 28)⟩,
  ⟨(some 30), (some (29, false)), .mv (.t 4)⟩,
  ⟨(some 31), (some (29, false)), .bin .eql (.t 30) (.c (.str ⟨#[121, 101, 115]⟩))⟩,
  ⟨(some 32), none, .pick (.t 29) (.c (.bool true)) (.t 31)⟩,
  ⟨(some 33), none, .mv (.t 32)⟩,
  ⟨(some 34), (some (33, false)), .mv (.t 4)⟩,
  ⟨(some 35), (some (33, false)), .bin .eql (.t 34) (.c (.str ⟨#[110, 111]⟩))⟩,
  ⟨(some 36), none, .pick (.t 33) (.c (.bool true)) (.t 35)⟩]
@[reducible] def i14_R9 : List Iop := [⟨(some 2), none, .mv (.c (.int .i64 1))⟩]
@[reducible] def i14_R10 : List Iop := [⟨(some 37), none, .mv (.t 3)⟩,
  ⟨(some 38), none, .bin .gtr (.t 37) (.c (.int .i64 0))⟩,
  ⟨(some 39), none, .mv (.t 38)⟩,
  ⟨(some 40), (some (39, true)), .fa 0 (.t 1)⟩,
  ⟨(some 41), (some (39, true)), .ld false 1 (.t 40)⟩,
  ⟨(some 42), (some (39, true)), .mv (.t 3)⟩,
  ⟨(some 43), (some (39, true)), .bin .sub (.t 42) (.c (.int .i64 1))⟩,
  ⟨(some 44), (some (39, true)), .ias 1 (.t 41) (.t 43)⟩,
  ⟨(some 45), (some (39, true)), .ld false 1 (.t 44)⟩,
  ⟨(some 46), (some (39, true)), .mv (.t 4)⟩,
  ⟨(some 47), (some (39, true)), .bin .geq (.t 45) (.t 46)⟩,
  ⟨(some 48), none, .pick (.t 39) (.t 47) (.c (.bool false))⟩]
@[reducible] def i14_R11 : List Iop := [⟨(some 2), none, .mv (.c (.int .i64 1))⟩]
@[reducible] def i14_R12 : List Iop := [⟨(some 49), none, .bin .add (.t 21) (.c (.int .i64 1))⟩,
  ⟨(some 21), none, .mv (.t 49)⟩]
@[reducible] def i14_L0 : IC := (.seq (.reg none i14_R6) (.seq (.cond (.t 22) .skip (.out 1)) (.seq (.block 2 (.seq (.reg none i14_R7) (.seq (.seq (.reg none i14_R8) (.cond (.t 36) (.seq (.reg none i14_R9) .ret) .skip)) (.seq (.reg none i14_R10) (.cond (.t 48) (.seq (.reg none i14_R11) .ret) .skip))))) (.reg none i14_R12))))
@[reducible] def i14_R13 : List Iop := [⟨(some 2), none, .mv (.c (.int .i64 0))⟩]
@[reducible] def i14_B : IC := (.seq (.reg none i14_R0) (.seq (.block 0 (.seq (.reg none i14_R1) (.cond (.t 5) (.seq (.reg none i14_R2) .ret) (.seq (.reg none i14_R3) (.cond (.t 13) (.seq (.reg none i14_R4) .ret) .skip))))) (.seq (.seq (.reg none i14_R5) (.block 1 (.loop i14_L0))) (.seq (.reg none i14_R13) .ret))))
@[reducible] def i14_V : List Nat := [0, 1, 2, 3, 4, 5, 13, 19, 20, 21, 22, 36, 48]
def i14 : IFn := ⟨50, i14_V, [.tmp 2], i14_B⟩
theorem i14_ok : compF Go.Proofs.Try.prog i14_V Go.Proofs.Try.f14 = some i14 := by kernel_rfl
/-! funicular/funicularref09.Check -/
@[reducible] def i15_R0 : List Iop := [⟨(some 1), none, .box (.t 0)⟩,
  ⟨(some 2), none, .mv (.c (.int .i64 0))⟩]
@[reducible] def i15_R1 : List Iop := [⟨(some 5), none, .fa 0 (.t 1)⟩,
  ⟨(some 6), none, .ld false 1 (.t 5)⟩,
  ⟨(some 7), none, .lenl (.t 6)⟩,
  ⟨(some 8), none, .fa 1 (.t 1)⟩,
  ⟨(some 9), none, .ld false 1 (.t 8)⟩,
  ⟨(some 10), none, .lenl (.t 9)⟩,
  ⟨(some 11), none, .bin .neq (.t 7) (.t 10)⟩]
@[reducible] def i15_R2 : List Iop := [⟨(some 2), none, .mv (.c (.int .i64 1))⟩]
@[reducible] def i15_R3 : List Iop := [⟨(some 12), none, .fa 0 (.t 1)⟩,
  ⟨(some 13), none, .ld false 1 (.t 12)⟩,
  ⟨(some 14), none, .lenl (.t 13)⟩,
  ⟨(some 15), none, .bin .gtr (.t 14) (.c (.int .i64 64))⟩]
@[reducible] def i15_R4 : List Iop := [⟨(some 2), none, .mv (.c (.int .i64 6))⟩]
@[reducible] def i15_R5 : List Iop := [⟨(some 3), none, .mv (.c (.int .i64 0))⟩]
@[reducible] def i15_R6 : List Iop := [⟨(some 16), none, .mv (.t 3)⟩,
  ⟨(some 17), none, .fa 0 (.t 1)⟩,
  ⟨(some 18), none, .ld false 1 (.t 17)⟩,
  ⟨(some 19), none, .lenl (.t 18)⟩,
  ⟨(some 20), none, .bin .lss (.t 16) (.t 19)⟩]
@[reducible] def i15_R7 : List Iop := [⟨(some 23), none, .fa 0 (.t 1)⟩,
  ⟨(some 24), none, .ld false 1 (.t 23)⟩,
  ⟨(some 25), none, .mv (.t 3)⟩,
  ⟨(some 26), none, .ias 1 (.t 24) (.t 25)⟩,
  ⟨(some 27), none, .ld false 1 (.t 26)⟩,
  ⟨(some 4), none, .mv (.t 27)⟩]
@[reducible] def i15_R8 : List Iop := [⟨(some 28), none, .mv (.t 4)⟩,
  ⟨(some 29), none, .call 55 [(.t 28)]⟩,
  ⟨(some 30), none, .nt (.t 29)⟩,
  ⟨(some 31), none, .mv (.t 30)⟩,
  ⟨(some 32), (some (31, false)), .mv (.t 4)⟩,
  ⟨(some 33), (some (31, false)), .bin .eql (.t 32) (.c (.str ⟨#[121, 101, 115]⟩))⟩,
  ⟨(some 34), none, .pick (.t 31) (.c (.bool true)) (.t 33)⟩,
  ⟨(some 35), none, .mv (.t 34)⟩,
  ⟨(some 36), (some (35, false)), .mv (.t 4)⟩,
  ⟨(some 37), (some (35, false)), .bin .eql (.t 36) (.c (.str ⟨#[110, 111]⟩))⟩,
  ⟨(some 38), none, .pick (.t 35) (.c (.bool true)) (.t 37)⟩,
  ⟨(some 39), none, .mv (.t 38)⟩,
  ⟨(some 40), (some (39, false)), .mv (.t 3)⟩,
  ⟨(some 41), (some (39, false)), .bin .gtr (.t 40) (.c (.int .i64 0))⟩,
  ⟨(some 42), (some (39, false)), .mv (.t 41)⟩,
  ⟨(some 43), (some (42, true)), .fa 0 (.t 1)⟩,
  ⟨(some 44), (some (42, true)), .ld false 1 (.t 43)⟩,
  ⟨(some 45), (some (42, true)), .mv (.t 3)⟩,
  ⟨(some 46), (some (42, true)), .bin .sub (.t 45) (.c (.int .i64 1))⟩,
  ⟨(some 47), (some (42, true)), .ias 1 (.t 44) (.t 46)⟩,
  ⟨(some 48), (some (42, true)), .ld false 1 (.t 47)⟩,
  ⟨(some 49), (some (42, true)), .mv (.t 4)⟩,
  ⟨(some 50), (some (42, true)), .bin .lss (.t 48) (.t 49)⟩,
  ⟨(some 51), (some (42, true)), .nt (.t 50)⟩,
  ⟨(some 52), (some (39, false)), .pick (.t 42) (.t 51) (.c (.bool false))⟩,
  ⟨(some 53), none, .pick (.t 39) (.c (.bool true)) (.t 52)⟩]
@[reducible] def i15_R9 : List Iop := [⟨(some 2), none, .mv (.c (.int .i64 1))⟩]
@[reducible] def i15_R10 : List Iop := [⟨(some 21), none, .mv (.t 3)⟩,
  ⟨(some 22), none, .bin .add (.t 21) (.c (.int .i64 1))⟩,
  ⟨(some 3), none, .mv (.t 22)⟩]
@[reducible] def i15_L0 : IC := (.seq (.seq (.reg none i15_R6) (.cond (.t 20) .skip (.out 0))) (.seq (.block 1 (.seq (.reg none i15_R7) (.seq (.reg none i15_R8) (.cond (.t 53) (.seq (.reg none i15_R9) .ret) .skip)))) (.reg none i15_R10)))
@[reducible] def i15_R11 : List Iop := [⟨(some 2), none, .mv (.c (.int .i64 0))⟩]
@[reducible] def i15_B : IC := (.seq (.reg none i15_R0) (.seq (.seq (.reg none i15_R1) (.cond (.t 11) (.seq (.reg none i15_R2) .ret) .skip)) (.seq (.seq (.reg none i15_R3) (.cond (.t 15) (.seq (.reg none i15_R4) .ret) .skip)) (.seq (.seq (.reg none i15_R5) (.block 0 (.loop i15_L0))) (.seq (.reg none i15_R11) .ret)))))
@[reducible] def i15_V : List Nat := [0, 1, 2, 3, 4, 11, 15, 20, 53]
def i15 : IFn := ⟨54, i15_V, [.tmp 2], i15_B⟩
theorem i15_ok : compF Go.Proofs.Try.prog i15_V Go.Proofs.Try.f15 = some i15 := by kernel_rfl
/-! funicular/vars.Same -/
@[reducible] def i16_R0 : List Iop := [⟨(some 2), none, .box (.t 0)⟩,
  ⟨(some 3), none, .box (.t 1)⟩,
  ⟨(some 4), none, .mv (.c (.bool false))⟩]
@[reducible] def i16_R1 : List Iop := [⟨(some 5), none, .fa 0 (.t 2)⟩,
  ⟨(some 6), none, .ld false 1 (.t 5)⟩,
  ⟨(some 7), none, .fa 0 (.t 3)⟩,
  ⟨(some 8), none, .ld false 1 (.t 7)⟩,
  ⟨(some 9), none, .call 56 [(.t 6), (.t 8)]⟩,
  ⟨(some 10), none, .mv (.t 9)⟩,
  ⟨(some 11), (some (10, true)), .fa 1 (.t 2)⟩,
  ⟨(some 12), (some (10, true)), .ld false 1 (.t 11)⟩,
  ⟨(some 13), (some (10, true)), .fa 1 (.t 3)⟩,
  ⟨(some 14), (some (10, true)), .ld false 1 (.t 13)⟩,
  ⟨(some 15), (some (10, true)), .call 57 [(.t 12), (.t 14)]⟩,
  ⟨(some 16), none, .pick (.t 10) (.t 15) (.c (.bool false))⟩,
  ⟨(some 4), none, .mv (.t 16)⟩]
@[reducible] def i16_B : IC := (.seq (.reg none i16_R0) (.seq (.reg none i16_R1) .ret))
@[reducible] def i16_V : List Nat := [0, 1, 2, 3, 4]
def i16 : IFn := ⟨17, i16_V, [.tmp 4], i16_B⟩
theorem i16_ok : compF Go.Proofs.Try.prog i16_V Go.Proofs.Try.f16 = some i16 := by kernel_rfl
/-! funicular/funicularref09.Same -/
@[reducible] def i17_R0 : List Iop := [⟨(some 2), none, .box (.t 0)⟩,
  ⟨(some 3), none, .box (.t 1)⟩,
  ⟨(some 4), none, .mv (.c (.bool false))⟩]
@[reducible] def i17_R1 : List Iop := [⟨(some 6), none, .fa 0 (.t 2)⟩,
  ⟨(some 7), none, .ld false 1 (.t 6)⟩,
  ⟨(some 8), none, .fa 0 (.t 3)⟩,
  ⟨(some 9), none, .ld false 1 (.t 8)⟩,
  ⟨(some 10), none, .call 58 [(.t 7), (.t 9)]⟩,
  ⟨(some 11), none, .nt (.t 10)⟩,
  ⟨(some 12), none, .mv (.t 11)⟩,
  ⟨(some 13), (some (12, false)), .fa 1 (.t 2)⟩,
  ⟨(some 14), (some (12, false)), .ld false 1 (.t 13)⟩,
  ⟨(some 15), (some (12, false)), .lenl (.t 14)⟩,
  ⟨(some 16), (some (12, false)), .fa 1 (.t 3)⟩,
  ⟨(some 17), (some (12, false)), .ld false 1 (.t 16)⟩,
  ⟨(some 18), (some (12, false)), .lenl (.t 17)⟩,
  ⟨(some 19), (some (12, false)), .bin .neq (.t 15) (.t 18)⟩,
  ⟨(some 20), none, .pick (.t 12) (.c (.bool true)) (.t 19)⟩]
@[reducible] def i17_R2 : List Iop := [⟨(some 4), none, .mv (.c (.bool false))⟩]
@[reducible] def i17_R3 : List Iop := [⟨(some 5), none, .mv (.c (.int .i64 0))⟩]
@[reducible] def i17_R4 : List Iop := [⟨(some 21), none, .mv (.t 5)⟩,
  ⟨(some 22), none, .fa 1 (.t 2)⟩,
  ⟨(some 23), none, .ld false 1 (.t 22)⟩,
  ⟨(some 24), none, .lenl (.t 23)⟩,
  ⟨(some 25), none, .bin .lss (.t 21) (.t 24)⟩]
@[reducible] def i17_R5 : List Iop := [⟨(some 28), none, .fa 1 (.t 2)⟩,
  ⟨(some 29), none, .ld false 1 (.t 28)⟩,
  ⟨(some 30), none, .mv (.t 5)⟩,
  ⟨(some 31), none, .ias 1 (.t 29) (.t 30)⟩,
  ⟨(some 32), none, .ld false 1 (.t 31)⟩,
  ⟨(some 33), none, .fa 1 (.t 3)⟩,
  ⟨(some 34), none, .ld false 1 (.t 33)⟩,
  ⟨(some 35), none, .mv (.t 5)⟩,
  ⟨(some 36), none, .ias 1 (.t 34) (.t 35)⟩,
  ⟨(some 37), none, .ld false 1 (.t 36)⟩,
  ⟨(some 38), none, .bin .neq (.t 32) (.t 37)⟩]
@[reducible] def i17_R6 : List Iop := [⟨(some 4), none, .mv (.c (.bool false))⟩]
@[reducible] def i17_R7 : List Iop := [⟨(some 26), none, .mv (.t 5)⟩,
  ⟨(some 27), none, .bin .add (.t 26) (.c (.int .i64 1))⟩,
  ⟨(some 5), none, .mv (.t 27)⟩]
@[reducible] def i17_L0 : IC := (.seq (.seq (.reg none i17_R4) (.cond (.t 25) .skip (.out 0))) (.seq (.block 1 (.seq (.reg (some []) i17_R5) (.cond (.t 38) (.seq (.reg none i17_R6) .ret) .skip))) (.reg none i17_R7)))
@[reducible] def i17_R8 : List Iop := [⟨(some 4), none, .mv (.c (.bool true))⟩]
@[reducible] def i17_B : IC := (.seq (.reg none i17_R0) (.seq (.seq (.reg none i17_R1) (.cond (.t 20) (.seq (.reg none i17_R2) .ret) .skip)) (.seq (.seq (.reg none i17_R3) (.block 0 (.loop i17_L0))) (.seq (.reg none i17_R8) .ret))))
@[reducible] def i17_V : List Nat := [0, 1, 2, 3, 4, 5, 20, 25, 38]
def i17 : IFn := ⟨39, i17_V, [.tmp 4], i17_B⟩
theorem i17_ok : compF Go.Proofs.Try.prog i17_V Go.Proofs.Try.f17 = some i17 := by kernel_rfl
/-! funicular/vars.Copy -/
@[reducible] def i18_R0 : List Iop := [⟨(some 1), none, .box (.t 0)⟩,
  ⟨(some 2), none, .alloc [.nil, .nil]⟩]
@[reducible] def i18_R1 : List Iop := [⟨(some 3), none, .fa 0 (.t 1)⟩,
  ⟨(some 4), none, .ld false 1 (.t 3)⟩,
  ⟨(some 5), none, .cln 1 (.t 4)⟩,
  ⟨(some 6), none, .fa 1 (.t 1)⟩,
  ⟨(some 7), none, .ld false 1 (.t 6)⟩,
  ⟨(some 8), none, .cln 1 (.t 7)⟩,
  ⟨(some 9), none, .build [.nil, .nil] [(0, 1, (.t 5)), (1, 1, (.t 8))]⟩,
  ⟨none, none, .st 2 (.t 2) (.t 9)⟩]
@[reducible] def i18_B : IC := (.seq (.reg none i18_R0) (.seq (.reg (some [(2, 4)]) i18_R1) .ret))
@[reducible] def i18_V : List Nat := [0, 1, 2]
def i18 : IFn := ⟨10, i18_V, [.cell 2 true 2], i18_B⟩
theorem i18_ok : compF Go.Proofs.Try.prog i18_V Go.Proofs.Try.f18 = some i18 := by kernel_rfl
/-! funicular/vars.Put -/
@[reducible] def i19_R0 : List Iop := [⟨(some 3), none, .box (.t 1)⟩,
  ⟨(some 4), none, .mv (.c (.nil))⟩]
@[reducible] def i19_R1 : List Iop := [⟨(some 7), none, .mv (.t 0)⟩,
  ⟨(some 8), none, .fa 0 (.t 3)⟩,
  ⟨(some 9), none, .ld false 1 (.t 8)⟩,
  ⟨(some 10), none, .lenl (.t 9)⟩,
  ⟨(some 11), none, .cvt .u64 (.t 10)⟩,
  ⟨(some 12), none, .call 61 [(.t 7), (.t 11)]⟩,
  ⟨(some 0), none, .mv (.t 12)⟩]
@[reducible] def i19_R2 : List Iop := [⟨(some 13), none, .fa 0 (.t 3)⟩,
  ⟨(some 14), none, .ld false 1 (.t 13)⟩,
  ⟨(some 15), none, .lenl (.t 14)⟩,
  ⟨(some 16), none, .mv (.c (.int .i64 0))⟩]
@[reducible] def i19_R3 : List Iop := [⟨(some 17), none, .bin .lss (.t 16) (.t 15)⟩]
@[reducible] def i19_R4 : List Iop := [⟨(some 18), none, .mv (.t 16)⟩,
  ⟨(some 19), none, .ias 1 (.t 14) (.t 16)⟩,
  ⟨(some 20), none, .ld false 1 (.t 19)⟩,
  ⟨(some 5), none, .mv (.t 18)⟩,
  ⟨(some 6), none, .mv (.t 20)⟩]
@[reducible] def i19_R5 : List Iop := [⟨(some 21), none, .mv (.t 0)⟩,
  ⟨(some 22), none, .mv (.t 6)⟩,
  ⟨(some 23), none, .s2b (.t 22)⟩,
  ⟨(some 24), none, .call 62 [(.t 21), (.t 23)]⟩,
  ⟨(some 0), none, .mv (.t 24)⟩]
@[reducible] def i19_R6 : List Iop := [⟨(some 25), none, .mv (.t 0)⟩,
  ⟨(some 26), none, .fa 1 (.t 3)⟩,
  ⟨(some 27), none, .ld false 1 (.t 26)⟩,
  ⟨(some 28), none, .mv (.t 5)⟩,
  ⟨(some 29), none, .ias 1 (.t 27) (.t 28)⟩,
  ⟨(some 30), none, .ld false 1 (.t 29)⟩,
  ⟨(some 31), none, .call 63 [(.t 25), (.t 30)]⟩,
  ⟨(some 0), none, .mv (.t 31)⟩]
@[reducible] def i19_R7 : List Iop := [⟨(some 32), none, .bin .add (.t 16) (.c (.int .i64 1))⟩,
  ⟨(some 16), none, .mv (.t 32)⟩]
@[reducible] def i19_L0 : IC := (.seq (.reg none i19_R3) (.seq (.cond (.t 17) .skip (.out 0)) (.seq (.block 1 (.seq (.reg none i19_R4) (.seq (.reg none i19_R5) (.reg none i19_R6)))) (.reg none i19_R7))))
@[reducible] def i19_R8 : List Iop := [⟨(some 33), none, .mv (.t 0)⟩,
  ⟨(some 4), none, .mv (.t 33)⟩]
@[reducible] def i19_B : IC := (.seq (.reg none i19_R0) (.seq (.reg none i19_R1) (.seq (.seq (.reg none i19_R2) (.block 0 (.loop i19_L0))) (.seq (.reg none i19_R8) .ret))))
@[reducible] def i19_V : List Nat := [0, 1, 3, 4, 5, 6, 14, 15, 16, 17]
def i19 : IFn := ⟨34, i19_V, [.tmp 4], i19_B⟩
theorem i19_ok : compF Go.Proofs.Try.prog i19_V Go.Proofs.Try.f19 = some i19 := by kernel_rfl
/-! funicular/vars.Read -/
@[reducible] def i20_R0 : List Iop := [⟨(some 2), none, .alloc [.nil, .nil]⟩,
  ⟨(some 3), none, .mv (.c (.nil))⟩,
  ⟨(some 4), none, .mv (.c (.int .i64 0))⟩]
@[reducible] def i20_R1 : List Iop := [⟨(some 14), none, .mv (.t 0)⟩,
  ⟨(some 15), none, .call 64 [(.t 14)]⟩,
  ⟨(some 13), none, .mv (.t 15)⟩,
  ⟨(some 16), none, .ext 0 (.t 13)⟩,
  ⟨(some 17), none, .ext 1 (.t 13)⟩,
  ⟨(some 18), none, .ext 2 (.t 13)⟩,
  ⟨(some 5), none, .mv (.t 16)⟩,
  ⟨(some 0), none, .mv (.t 17)⟩,
  ⟨(some 6), none, .mv (.t 18)⟩]
@[reducible] def i20_R2 : List Iop := [⟨(some 19), none, .mv (.t 6)⟩,
  ⟨(some 20), none, .bin .neq (.t 19) (.c (.int .i64 0))⟩]
@[reducible] def i20_R3 : List Iop := [⟨(some 21), none, .build [.nil, .nil] []⟩,
  ⟨(some 22), none, .mv (.t 6)⟩,
  ⟨none, none, .st 2 (.t 2) (.t 21)⟩,
  ⟨(some 3), none, .mv (.c (.nil))⟩,
  ⟨(some 4), none, .mv (.t 22)⟩]
@[reducible] def i20_R4 : List Iop := [⟨(some 23), none, .mv (.t 5)⟩,
  ⟨(some 24), none, .bin .gtr (.t 23) (.c (.int .u64 64))⟩]
@[reducible] def i20_R5 : List Iop := [⟨(some 25), none, .build [.nil, .nil] []⟩,
  ⟨none, none, .st 2 (.t 2) (.t 25)⟩,
  ⟨(some 3), none, .mv (.c (.nil))⟩,
  ⟨(some 4), none, .mv (.c (.int .i64 6))⟩]
@[reducible] def i20_R6 : List Iop := [⟨(some 7), none, .alloc [.nil, .nil]⟩]
@[reducible] def i20_R7 : List Iop := [⟨(some 26), none, .mv (.t 5)⟩,
  ⟨(some 27), none, .mv (.c (.int .u64 0))⟩]
@[reducible] def i20_R8 : List Iop := [⟨(some 28), none, .bin .lss (.t 27) (.t 26)⟩]
@[reducible] def i20_R9 : List Iop := [⟨(some 30), none, .mv (.t 0)⟩,
  ⟨(some 31), none, .call 65 [(.t 30)]⟩,
  ⟨(some 29), none, .mv (.t 31)⟩,
  ⟨(some 32), none, .ext 0 (.t 29)⟩,
  ⟨(some 33), none, .ext 1 (.t 29)⟩,
  ⟨(some 34), none, .ext 2 (.t 29)⟩,
  ⟨(some 8), none, .mv (.t 32)⟩,
  ⟨(some 9), none, .mv (.t 33)⟩,
  ⟨(some 10), none, .mv (.t 34)⟩]
@[reducible] def i20_R10 : List Iop := [⟨(some 35), none, .mv (.t 10)⟩,
  ⟨(some 36), none, .bin .neq (.t 35) (.c (.int .i64 0))⟩]
@[reducible] def i20_R11 : List Iop := [⟨(some 37), none, .build [.nil, .nil] []⟩,
  ⟨(some 38), none, .mv (.t 10)⟩,
  ⟨none, none, .st 2 (.t 2) (.t 37)⟩,
  ⟨(some 3), none, .mv (.c (.nil))⟩,
  ⟨(some 4), none, .mv (.t 38)⟩]
@[reducible] def i20_R12 : List Iop := [⟨(some 40), none, .mv (.t 9)⟩,
  ⟨(some 41), none, .call 66 [(.t 40)]⟩,
  ⟨(some 39), none, .mv (.t 41)⟩,
  ⟨(some 42), none, .ext 0 (.t 39)⟩,
  ⟨(some 43), none, .ext 1 (.t 39)⟩,
  ⟨(some 44), none, .ext 2 (.t 39)⟩,
  ⟨(some 11), none, .mv (.t 42)⟩,
  ⟨(some 9), none, .mv (.t 43)⟩,
  ⟨(some 10), none, .mv (.t 44)⟩]
@[reducible] def i20_R13 : List Iop := [⟨(some 45), none, .mv (.t 10)⟩,
  ⟨(some 46), none, .bin .neq (.t 45) (.c (.int .i64 0))⟩]
@[reducible] def i20_R14 : List Iop := [⟨(some 47), none, .build [.nil, .nil] []⟩,
  ⟨(some 48), none, .mv (.t 10)⟩,
  ⟨none, none, .st 2 (.t 2) (.t 47)⟩,
  ⟨(some 3), none, .mv (.c (.nil))⟩,
  ⟨(some 4), none, .mv (.t 48)⟩]
@[reducible] def i20_R15 : List Iop := [⟨(some 49), none, .fa 0 (.t 7)⟩,
  ⟨(some 50), none, .ld false 1 (.t 49)⟩,
  ⟨(some 51), none, .mv (.t 8)⟩,
  ⟨(some 52), none, .b2s (.t 51)⟩,
  ⟨(some 53), none, .bsl 1 [.str ⟨#[]⟩] 1 [(0, (.t 52))]⟩,
  ⟨(some 54), none, .app 1 (.t 50) (.t 53)⟩,
  ⟨(some 55), none, .fa 1 (.t 7)⟩,
  ⟨(some 56), none, .ld false 1 (.t 55)⟩,
  ⟨(some 57), none, .mv (.t 11)⟩,
  ⟨(some 58), none, .bsl 1 [.int .i64 0] 1 [(0, (.t 57))]⟩,
  ⟨(some 59), none, .app 1 (.t 56) (.t 58)⟩,
  ⟨(some 60), none, .mv (.t 9)⟩,
  ⟨(some 61), none, .fa 0 (.t 7)⟩,
  ⟨none, none, .st 1 (.t 61) (.t 54)⟩,
  ⟨(some 62), none, .fa 1 (.t 7)⟩,
  ⟨none, none, .st 1 (.t 62) (.t 59)⟩,
  ⟨(some 0), none, .mv (.t 60)⟩]
@[reducible] def i20_R16 : List Iop := [⟨(some 63), none, .bin .add (.t 27) (.c (.int .u64 1))⟩,
  ⟨(some 27), none, .mv (.t 63)⟩]
@[reducible] def i20_L0 : IC := (.seq (.reg none i20_R8) (.seq (.cond (.t 28) .skip (.out 0)) (.seq (.block 1 (.seq (.reg none i20_R9) (.seq (.seq (.reg none i20_R10) (.cond (.t 36) (.seq (.reg none i20_R11) .ret) .skip)) (.seq (.reg none i20_R12) (.seq (.seq (.reg none i20_R13) (.cond (.t 46) (.seq (.reg none i20_R14) .ret) .skip)) (.reg (some [(1, 3), (1, 4), (3, 7), (4, 7), (5, 7), (1, 9), (3, 9), (4, 9), (5, 9), (7, 9)]) i20_R15)))))) (.reg none i20_R16))))
@[reducible] def i20_R17 : List Iop := [⟨(some 64), none, .ld true 2 (.t 7)⟩,
  ⟨(some 65), none, .call 14 [(.t 64)]⟩,
  ⟨(some 12), none, .mv (.t 65)⟩]
@[reducible] def i20_R18 : List Iop := [⟨(some 66), none, .mv (.t 12)⟩,
  ⟨(some 67), none, .bin .neq (.t 66) (.c (.int .i64 0))⟩]
@[reducible] def i20_R19 : List Iop := [⟨(some 68), none, .build [.nil, .nil] []⟩,
  ⟨(some 69), none, .mv (.t 12)⟩,
  ⟨none, none, .st 2 (.t 2) (.t 68)⟩,
  ⟨(some 3), none, .mv (.c (.nil))⟩,
  ⟨(some 4), none, .mv (.t 69)⟩]
@[reducible] def i20_R20 : List Iop := [⟨(some 70), none, .ld true 2 (.t 7)⟩,
  ⟨(some 71), none, .mv (.t 0)⟩,
  ⟨none, none, .st 2 (.t 2) (.t 70)⟩,
  ⟨(some 3), none, .mv (.t 71)⟩,
  ⟨(some 4), none, .mv (.c (.int .i64 0))⟩]
@[reducible] def i20_B : IC := (.seq (.reg none i20_R0) (.seq (.reg none i20_R1) (.seq (.seq (.reg none i20_R2) (.cond (.t 20) (.seq (.reg none i20_R3) .ret) .skip)) (.seq (.seq (.reg none i20_R4) (.cond (.t 24) (.seq (.reg none i20_R5) .ret) .skip)) (.seq (.reg none i20_R6) (.seq (.seq (.reg none i20_R7) (.block 0 (.loop i20_L0))) (.seq (.seq (.reg none i20_R17) (.seq (.reg none i20_R18) (.cond (.t 67) (.seq (.reg none i20_R19) .ret) .skip))) (.seq (.reg none i20_R20) .ret))))))))
@[reducible] def i20_V : List Nat := [0, 2, 3, 4, 5, 6, 7, 8, 9, 10, 11, 12, 20, 24, 26, 27, 28, 36, 46, 67]
def i20 : IFn := ⟨72, i20_V, [.cell 2 true 2, .tmp 3, .tmp 4], i20_B⟩
theorem i20_ok : compF Go.Proofs.Try.prog i20_V Go.Proofs.Try.f20 = some i20 := by kernel_rfl
/-! funicular/funicularref02.Same -/
@[reducible] def i21_R0 : List Iop := [⟨(some 4), none, .mv (.c (.bool false))⟩]
@[reducible] def i21_R1 : List Iop := [⟨(some 5), none, .mv (.t 0)⟩,
  ⟨(some 6), none, .b2s (.t 5)⟩,
  ⟨(some 7), none, .mv (.t 1)⟩,
  ⟨(some 8), none, .b2s (.t 7)⟩,
  ⟨(some 9), none, .bin .eql (.t 6) (.t 8)⟩,
  ⟨(some 4), none, .mv (.t 9)⟩]
@[reducible] def i21_B : IC := (.seq (.reg none i21_R0) (.seq (.reg none i21_R1) .ret))
@[reducible] def i21_V : List Nat := [0, 1, 4]
def i21 : IFn := ⟨10, i21_V, [.tmp 4], i21_B⟩
theorem i21_ok : compF Go.Proofs.Try.prog i21_V Go.Proofs.Try.f21 = some i21 := by kernel_rfl
/-! funicular/vars.Of -/
@[reducible] def i22_R0 : List Iop := [⟨(some 2), none, .alloc [.nil, .nil]⟩,
  ⟨(some 3), none, .mv (.c (.int .i64 0))⟩]
@[reducible] def i22_R1 : List Iop := [⟨(some 4), none, .alloc [.nil, .nil]⟩]
@[reducible] def i22_R2 : List Iop := [⟨(some 12), none, .mv (.t 0)⟩,
  ⟨(some 13), none, .lenl (.t 12)⟩,
  ⟨(some 14), none, .mv (.c (.int .i64 0))⟩]
@[reducible] def i22_R3 : List Iop := [⟨(some 15), none, .bin .lss (.t 14) (.t 13)⟩]
@[reducible] def i22_R4 : List Iop := [⟨(some 16), none, .ias 2 (.t 12) (.t 14)⟩,
  ⟨(some 17), none, .ld true 2 (.t 16)⟩,
  ⟨(some 6), none, .alloc [.nil, .nil]⟩,
  ⟨none, none, .st 2 (.t 6) (.t 17)⟩]
@[reducible] def i22_R5 : List Iop := [⟨(some 18), none, .ld true 2 (.t 6)⟩,
  ⟨(some 19), none, .call 14 [(.t 18)]⟩,
  ⟨(some 7), none, .mv (.t 19)⟩]
@[reducible] def i22_R6 : List Iop := [⟨(some 20), none, .mv (.t 7)⟩,
  ⟨(some 21), none, .bin .neq (.t 20) (.c (.int .i64 0))⟩]
@[reducible] def i22_R7 : List Iop := [⟨(some 22), none, .build [.nil, .nil] []⟩,
  ⟨(some 23), none, .mv (.t 7)⟩,
  ⟨none, none, .st 2 (.t 2) (.t 22)⟩,
  ⟨(some 3), none, .mv (.t 23)⟩]
@[reducible] def i22_R8 : List Iop := [⟨(some 24), none, .fa 0 (.t 6)⟩,
  ⟨(some 25), none, .ld false 1 (.t 24)⟩,
  ⟨(some 26), none, .lenl (.t 25)⟩,
  ⟨(some 27), none, .mv (.c (.int .i64 0))⟩]
@[reducible] def i22_R9 : List Iop := [⟨(some 28), none, .bin .lss (.t 27) (.t 26)⟩]
@[reducible] def i22_R10 : List Iop := [⟨(some 29), none, .mv (.t 27)⟩,
  ⟨(some 30), none, .ias 1 (.t 25) (.t 27)⟩,
  ⟨(some 31), none, .ld false 1 (.t 30)⟩,
  ⟨(some 8), none, .mv (.t 29)⟩,
  ⟨(some 9), none, .mv (.t 31)⟩]
@[reducible] def i22_R11 : List Iop := [⟨(some 33), none, .fa 0 (.t 4)⟩,
  ⟨(some 34), none, .ld false 1 (.t 33)⟩,
  ⟨(some 35), none, .mv (.t 9)⟩,
  ⟨(some 36), none, .call 67 [(.t 34), (.t 35)]⟩,
  ⟨(some 32), none, .mv (.t 36)⟩,
  ⟨(some 37), none, .ext 0 (.t 32)⟩,
  ⟨(some 38), none, .ext 1 (.t 32)⟩,
  ⟨(some 10), none, .mv (.t 37)⟩,
  ⟨(some 11), none, .mv (.t 38)⟩]
@[reducible] def i22_R12 : List Iop := [⟨(some 39), none, .mv (.t 11)⟩]
@[reducible] def i22_R13 : List Iop := [⟨(some 40), none, .fa 1 (.t 4)⟩,
  ⟨(some 41), none, .ld false 1 (.t 40)⟩,
  ⟨(some 42), none, .mv (.t 10)⟩,
  ⟨(some 43), none, .fa 1 (.t 6)⟩,
  ⟨(some 44), none, .ld false 1 (.t 43)⟩,
  ⟨(some 45), none, .mv (.t 8)⟩,
  ⟨(some 46), none, .ias 1 (.t 44) (.t 45)⟩,
  ⟨(some 47), none, .ld false 1 (.t 46)⟩,
  ⟨(some 48), none, .ias 1 (.t 41) (.t 42)⟩,
  ⟨none, none, .st 1 (.t 48) (.t 47)⟩]
@[reducible] def i22_R14 : List Iop := [⟨(some 49), none, .fa 0 (.t 4)⟩,
  ⟨(some 50), none, .ld false 1 (.t 49)⟩,
  ⟨(some 51), none, .mv (.t 10)⟩,
  ⟨(some 52), none, .mv (.t 9)⟩,
  ⟨(some 53), none, .bsl 1 [.str ⟨#[]⟩] 1 [(0, (.t 52))]⟩,
  ⟨(some 54), none, .call 68 [(.t 50), (.t 51), (.t 53)]⟩,
  ⟨(some 55), none, .fa 0 (.t 4)⟩,
  ⟨none, none, .st 1 (.t 55) (.t 54)⟩]
@[reducible] def i22_R15 : List Iop := [⟨(some 56), none, .fa 1 (.t 4)⟩,
  ⟨(some 57), none, .ld false 1 (.t 56)⟩,
  ⟨(some 58), none, .mv (.t 10)⟩,
  ⟨(some 59), none, .fa 1 (.t 6)⟩,
  ⟨(some 60), none, .ld false 1 (.t 59)⟩,
  ⟨(some 61), none, .mv (.t 8)⟩,
  ⟨(some 62), none, .ias 1 (.t 60) (.t 61)⟩,
  ⟨(some 63), none, .ld false 1 (.t 62)⟩,
  ⟨(some 64), none, .bsl 1 [.int .i64 0] 1 [(0, (.t 63))]⟩,
  ⟨(some 65), none, .call 69 [(.t 57), (.t 58), (.t 64)]⟩,
  ⟨(some 66), none, .fa 1 (.t 4)⟩,
  ⟨none, none, .st 1 (.t 66) (.t 65)⟩]
@[reducible] def i22_R16 : List Iop := [⟨(some 67), none, .bin .add (.t 27) (.c (.int .i64 1))⟩,
  ⟨(some 27), none, .mv (.t 67)⟩]
@[reducible] def i22_L0 : IC := (.seq (.reg none i22_R9) (.seq (.cond (.t 28) .skip (.out 2)) (.seq (.block 3 (.seq (.reg none i22_R10) (.seq (.reg none i22_R11) (.seq (.seq (.reg none i22_R12) (.cond (.t 39) (.seq (.reg (some []) i22_R13) (.out 3)) .skip)) (.seq (.reg none i22_R14) (.reg (some [(1, 8)]) i22_R15)))))) (.reg none i22_R16))))
@[reducible] def i22_R17 : List Iop := [⟨(some 68), none, .bin .add (.t 14) (.c (.int .i64 1))⟩,
  ⟨(some 14), none, .mv (.t 68)⟩]
@[reducible] def i22_L1 : IC := (.seq (.reg none i22_R3) (.seq (.cond (.t 15) .skip (.out 0)) (.seq (.block 1 (.seq (.reg none i22_R4) (.seq (.seq (.reg none i22_R5) (.seq (.reg none i22_R6) (.cond (.t 21) (.seq (.reg none i22_R7) .ret) .skip))) (.seq (.reg none i22_R8) (.block 2 (.loop i22_L0)))))) (.reg none i22_R17))))
@[reducible] def i22_R18 : List Iop := [⟨(some 69), none, .fa 0 (.t 4)⟩,
  ⟨(some 70), none, .ld false 1 (.t 69)⟩,
  ⟨(some 71), none, .lenl (.t 70)⟩,
  ⟨(some 72), none, .bin .gtr (.t 71) (.c (.int .i64 64))⟩]
@[reducible] def i22_R19 : List Iop := [⟨(some 73), none, .build [.nil, .nil] []⟩,
  ⟨none, none, .st 2 (.t 2) (.t 73)⟩,
  ⟨(some 3), none, .mv (.c (.int .i64 6))⟩]
@[reducible] def i22_R20 : List Iop := [⟨(some 74), none, .ld true 2 (.t 4)⟩,
  ⟨none, none, .st 2 (.t 2) (.t 74)⟩,
  ⟨(some 3), none, .mv (.c (.int .i64 0))⟩]
@[reducible] def i22_B : IC := (.seq (.reg none i22_R0) (.seq (.reg none i22_R1) (.seq (.seq (.reg none i22_R2) (.block 0 (.loop i22_L1))) (.seq (.seq (.reg none i22_R18) (.cond (.t 72) (.seq (.reg none i22_R19) .ret) .skip)) (.seq (.reg none i22_R20) .ret)))))
@[reducible] def i22_V : List Nat := [0, 2, 3, 4, 6, 7, 8, 9, 10, 11, 12, 13, 14, 15, 21, 25, 26, 27, 28, 39, 72]
def i22 : IFn := ⟨75, i22_V, [.cell 2 true 2, .tmp 3], i22_B⟩
theorem i22_ok : compF Go.Proofs.Try.prog i22_V Go.Proofs.Try.f22 = some i22 := by kernel_rfl
/-! funicular/vars.Set -/
@[reducible] def i24_R0 : List Iop := [⟨(some 3), none, .box (.t 0)⟩,
  ⟨(some 6), none, .alloc [.nil, .nil]⟩,
  ⟨(some 7), none, .mv (.c (.int .i64 0))⟩]
@[reducible] def i24_R1 : List Iop := [⟨(some 8), none, .ld true 2 (.t 3)⟩,
  ⟨(some 9), none, .mv (.t 1)⟩,
  ⟨(some 10), none, .bsl 1 [.str ⟨#[]⟩] 1 [(0, (.t 9))]⟩,
  ⟨(some 11), none, .mv (.t 2)⟩,
  ⟨(some 12), none, .bsl 1 [.int .i64 0] 1 [(0, (.t 11))]⟩,
  ⟨(some 13), none, .build [.nil, .nil] [(0, 1, (.t 10)), (1, 1, (.t 12))]⟩,
  ⟨(some 14), none, .bsl 2 [.imm 0 [] false, .imm 0 [] false] 2 [(0, (.t 8)), (1, (.t 13))]⟩,
  ⟨(some 15), none, .call 22 [(.t 14)]⟩,
  ⟨(some 16), none, .ext 0 (.t 15)⟩,
  ⟨(some 17), none, .ext 1 (.t 15)⟩,
  ⟨none, none, .st 2 (.t 6) (.t 16)⟩,
  ⟨(some 7), none, .mv (.t 17)⟩]
@[reducible] def i24_B : IC := (.seq (.reg none i24_R0) (.seq (.reg none i24_R1) .ret))
@[reducible] def i24_V : List Nat := [0, 1, 2, 3, 6, 7]
def i24 : IFn := ⟨18, i24_V, [.cell 6 true 2, .tmp 7], i24_B⟩
theorem i24_ok : compF Go.Proofs.Try.prog i24_V Go.Proofs.Try.f24 = some i24 := by kernel_rfl
/-! funicular/funicularref09.One -/
@[reducible] def i25_R0 : List Iop := [⟨(some 4), none, .alloc [.nil, .nil]⟩]
@[reducible] def i25_R1 : List Iop := [⟨(some 5), none, .mv (.t 0)⟩,
  ⟨(some 6), none, .bsl 1 [.str ⟨#[]⟩] 1 [(0, (.t 5))]⟩,
  ⟨(some 7), none, .mv (.t 1)⟩,
  ⟨(some 8), none, .bsl 1 [.int .i64 0] 1 [(0, (.t 7))]⟩,
  ⟨(some 9), none, .build [.nil, .nil] [(0, 1, (.t 6)), (1, 1, (.t 8))]⟩,
  ⟨none, none, .st 2 (.t 4) (.t 9)⟩]
@[reducible] def i25_B : IC := (.seq (.reg none i25_R0) (.seq (.reg none i25_R1) .ret))
@[reducible] def i25_V : List Nat := [0, 1, 4]
def i25 : IFn := ⟨10, i25_V, [.cell 4 true 2], i25_B⟩
theorem i25_ok : compF Go.Proofs.Try.prog i25_V Go.Proofs.Try.f25 = some i25 := by kernel_rfl
/-! funicular/vars.Get -/
@[reducible] def i28_R0 : List Iop := [⟨(some 2), none, .box (.t 0)⟩,
  ⟨(some 4), none, .mv (.c (.int .i64 0))⟩,
  ⟨(some 5), none, .mv (.c (.bool false))⟩]
@[reducible] def i28_R1 : List Iop := [⟨(some 9), none, .fa 0 (.t 2)⟩,
  ⟨(some 10), none, .ld false 1 (.t 9)⟩,
  ⟨(some 11), none, .mv (.t 1)⟩,
  ⟨(some 12), none, .call 67 [(.t 10), (.t 11)]⟩,
  ⟨(some 8), none, .mv (.t 12)⟩,
  ⟨(some 13), none, .ext 0 (.t 8)⟩,
  ⟨(some 14), none, .ext 1 (.t 8)⟩,
  ⟨(some 6), none, .mv (.t 13)⟩,
  ⟨(some 7), none, .mv (.t 14)⟩]
@[reducible] def i28_R2 : List Iop := [⟨(some 15), none, .mv (.t 7)⟩,
  ⟨(some 16), none, .nt (.t 15)⟩,
  ⟨(some 17), none, .mv (.t 16)⟩,
  ⟨(some 18), (some (17, false)), .mv (.t 6)⟩,
  ⟨(some 19), (some (17, false)), .fa 1 (.t 2)⟩,
  ⟨(some 20), (some (17, false)), .ld false 1 (.t 19)⟩,
  ⟨(some 21), (some (17, false)), .lenl (.t 20)⟩,
  ⟨(some 22), (some (17, false)), .bin .geq (.t 18) (.t 21)⟩,
  ⟨(some 23), none, .pick (.t 17) (.c (.bool true)) (.t 22)⟩]
@[reducible] def i28_R3 : List Iop := [⟨(some 4), none, .mv (.c (.int .i64 0))⟩,
  ⟨(some 5), none, .mv (.c (.bool false))⟩]
@[reducible] def i28_R4 : List Iop := [⟨(some 24), none, .fa 1 (.t 2)⟩,
  ⟨(some 25), none, .ld false 1 (.t 24)⟩,
  ⟨(some 26), none, .mv (.t 6)⟩,
  ⟨(some 27), none, .ias 1 (.t 25) (.t 26)⟩,
  ⟨(some 28), none, .ld false 1 (.t 27)⟩,
  ⟨(some 4), none, .mv (.t 28)⟩,
  ⟨(some 5), none, .mv (.c (.bool true))⟩]
@[reducible] def i28_B : IC := (.seq (.reg none i28_R0) (.seq (.reg none i28_R1) (.seq (.seq (.reg none i28_R2) (.cond (.t 23) (.seq (.reg none i28_R3) .ret) .skip)) (.seq (.reg none i28_R4) .ret))))
@[reducible] def i28_V : List Nat := [0, 1, 2, 4, 5, 6, 7, 23]
def i28 : IFn := ⟨29, i28_V, [.tmp 4, .tmp 5], i28_B⟩
theorem i28_ok : compF Go.Proofs.Try.prog i28_V Go.Proofs.Try.f28 = some i28 := by kernel_rfl
/-! funicular/pack.Name -/
@[reducible] def i54_R0 : List Iop := [⟨(some 2), none, .mv (.c (.bool false))⟩]
@[reducible] def i54_R1 : List Iop := [⟨(some 6), none, .mv (.t 0)⟩,
  ⟨(some 7), none, .s2b (.t 6)⟩,
  ⟨(some 8), none, .lenl (.t 7)⟩,
  ⟨(some 9), none, .mv (.c (.int .i64 0))⟩]
@[reducible] def i54_R2 : List Iop := [⟨(some 10), none, .bin .lss (.t 9) (.t 8)⟩]
@[reducible] def i54_R3 : List Iop := [⟨(some 11), none, .mv (.t 9)⟩,
  ⟨(some 12), none, .ias 1 (.t 7) (.t 9)⟩,
  ⟨(some 13), none, .ld false 1 (.t 12)⟩,
  ⟨(some 3), none, .mv (.t 11)⟩,
  ⟨(some 4), none, .mv (.t 13)⟩]
@[reducible] def i54_R4 : List Iop := [⟨(some 14), none, .mv (.t 4)⟩,
  ⟨(some 15), none, .bin .geq (.t 14) (.c (.int .u8 97))⟩,
  ⟨(some 16), none, .mv (.t 15)⟩,
  ⟨(some 17), (some (16, true)), .mv (.t 4)⟩,
  ⟨(some 18), (some (16, true)), .bin .leq (.t 17) (.c (.int .u8 122))⟩,
  ⟨(some 19), none, .pick (.t 16) (.t 18) (.c (.bool false))⟩,
  ⟨(some 5), none, .mv (.t 19)⟩]
@[reducible] def i54_R5 : List Iop := [⟨(some 20), none, .mv (.t 5)⟩,
  ⟨(some 21), none, .nt (.t 20)⟩,
  ⟨(some 22), none, .mv (.t 21)⟩,
  ⟨(some 23), (some (22, true)), .mv (.t 3)⟩,
  ⟨(some 24), (some (22, true)), .bin .eql (.t 23) (.c (.int .i64 0))⟩,
  ⟨(some 25), (some (22, true)), .mv (.t 24)⟩,
  ⟨(some 26), (some (25, false)), .mv (.t 4)⟩,
  ⟨(some 27), (some (25, false)), .bin .lss (.t 26) (.c (.int .u8 48))⟩,
  ⟨(some 28), (some (22, true)), .pick (.t 25) (.c (.bool true)) (.t 27)⟩,
  ⟨(some 29), (some (22, true)), .mv (.t 28)⟩,
  ⟨(some 30), (some (29, false)), .mv (.t 4)⟩,
  ⟨(some 31), (some (29, false)), .bin .gtr (.t 30) (.c (.int .u8 57))⟩,
  ⟨(some 32), (some (22, true)), .pick (.t 29) (.c (.bool true)) (.t 31)⟩,
  ⟨(some 33), none, .pick (.t 22) (.t 32) (.c (.bool false))⟩]
@[reducible] def i54_R6 : List Iop := [⟨(some 2), none, .mv (.c (.bool false))⟩]
@[reducible] def i54_R7 : List Iop := [⟨(some 34), none, .bin .add (.t 9) (.c (.int .i64 1))⟩,
  ⟨(some 9), none, .mv (.t 34)⟩]
@[reducible] def i54_L0 : IC := (.seq (.reg none i54_R2) (.seq (.cond (.t 10) .skip (.out 0)) (.seq (.block 1 (.seq (.reg none i54_R3) (.seq (.reg none i54_R4) (.seq (.reg none i54_R5) (.cond (.t 33) (.seq (.reg none i54_R6) .ret) .skip))))) (.reg none i54_R7))))
@[reducible] def i54_R8 : List Iop := [⟨(some 35), none, .mv (.t 0)⟩,
  ⟨(some 36), none, .lens (.t 35)⟩,
  ⟨(some 37), none, .bin .geq (.t 36) (.c (.int .i64 1))⟩,
  ⟨(some 38), none, .mv (.t 37)⟩,
  ⟨(some 39), (some (38, true)), .mv (.t 0)⟩,
  ⟨(some 40), (some (38, true)), .lens (.t 39)⟩,
  ⟨(some 41), (some (38, true)), .bin .leq (.t 40) (.c (.int .i64 32))⟩,
  ⟨(some 42), none, .pick (.t 38) (.t 41) (.c (.bool false))⟩,
  ⟨(some 2), none, .mv (.t 42)⟩]
@[reducible] def i54_B : IC := (.seq (.reg none i54_R0) (.seq (.seq (.reg none i54_R1) (.block 0 (.loop i54_L0))) (.seq (.reg none i54_R8) .ret)))
@[reducible] def i54_V : List Nat := [0, 2, 3, 4, 5, 7, 8, 9, 10, 33]
def i54 : IFn := ⟨43, i54_V, [.tmp 2], i54_B⟩
theorem i54_ok : compF Go.Proofs.Try.prog i54_V Go.Proofs.Try.f54 = some i54 := by kernel_rfl
/-! funicular/funicularref02.Name -/
@[reducible] def i55_R0 : List Iop := [⟨(some 2), none, .mv (.c (.bool false))⟩]
@[reducible] def i55_R1 : List Iop := [⟨(some 6), none, .mv (.t 0)⟩,
  ⟨(some 7), none, .lens (.t 6)⟩,
  ⟨(some 8), none, .bin .eql (.t 7) (.c (.int .i64 0))⟩,
  ⟨(some 9), none, .mv (.t 8)⟩,
  ⟨(some 10), (some (9, false)), .mv (.t 0)⟩,
  ⟨(some 11), (some (9, false)), .lens (.t 10)⟩,
  ⟨(some 12), (some (9, false)), .bin .gtr (.t 11) (.c (.int .i64 32))⟩,
  ⟨(some 13), none, .pick (.t 9) (.c (.bool true)) (.t 12)⟩,
  ⟨(some 14), none, .mv (.t 13)⟩,
  ⟨(some 15), (some (14, false)), .mv (.t 0)⟩,
  ⟨(some 16), (some (14, false)), .ixs (.t 15) (.c (.int .i64 0))⟩,
  ⟨(some 17), (some (14, false)), .bin .lss (.t 16) (.c (.int .u8 97))⟩,
  ⟨(some 18), none, .pick (.t 14) (.c (.bool true)) (.t 17)⟩]
@[reducible] def i55_R2 : List Iop := [⟨(some 2), none, .mv (.c (.bool false))⟩]
@[reducible] def i55_R3 : List Iop := [⟨(some 3), none, .mv (.c (.int .i64 0))⟩]
@[reducible] def i55_R4 : List Iop := [⟨(some 19), none, .mv (.t 3)⟩,
  ⟨(some 20), none, .mv (.t 0)⟩,
  ⟨(some 21), none, .lens (.t 20)⟩,
  ⟨(some 22), none, .bin .lss (.t 19) (.t 21)⟩]
@[reducible] def i55_R5 : List Iop := [⟨(some 25), none, .mv (.t 0)⟩,
  ⟨(some 26), none, .mv (.t 3)⟩,
  ⟨(some 27), none, .ixs (.t 25) (.t 26)⟩,
  ⟨(some 28), none, .bin .geq (.t 27) (.c (.int .u8 48))⟩,
  ⟨(some 29), none, .mv (.t 28)⟩,
  ⟨(some 30), (some (29, true)), .mv (.t 0)⟩,
  ⟨(some 31), (some (29, true)), .mv (.t 3)⟩,
  ⟨(some 32), (some (29, true)), .ixs (.t 30) (.t 31)⟩,
  ⟨(some 33), (some (29, true)), .bin .leq (.t 32) (.c (.int .u8 57))⟩,
  ⟨(some 34), none, .pick (.t 29) (.t 33) (.c (.bool false))⟩,
  ⟨(some 4), none, .mv (.t 34)⟩]
@[reducible] def i55_R6 : List Iop := [⟨(some 35), none, .mv (.t 0)⟩,
  ⟨(some 36), none, .mv (.t 3)⟩,
  ⟨(some 37), none, .ixs (.t 35) (.t 36)⟩,
  ⟨(some 38), none, .bin .geq (.t 37) (.c (.int .u8 97))⟩,
  ⟨(some 39), none, .mv (.t 38)⟩,
  ⟨(some 40), (some (39, true)), .mv (.t 0)⟩,
  ⟨(some 41), (some (39, true)), .mv (.t 3)⟩,
  ⟨(some 42), (some (39, true)), .ixs (.t 40) (.t 41)⟩,
  ⟨(some 43), (some (39, true)), .bin .leq (.t 42) (.c (.int .u8 122))⟩,
  ⟨(some 44), none, .pick (.t 39) (.t 43) (.c (.bool false))⟩,
  ⟨(some 5), none, .mv (.t 44)⟩]
@[reducible] def i55_R7 : List Iop := [⟨(some 45), none, .mv (.t 4)⟩,
  ⟨(some 46), none, .nt (.t 45)⟩,
  ⟨(some 47), none, .mv (.t 46)⟩,
  ⟨(some 48), (some (47, true)), .mv (.t 5)⟩,
  ⟨(some 49), (some (47, true)), .nt (.t 48)⟩,
  ⟨(some 50), none, .pick (.t 47) (.t 49) (.c (.bool false))⟩]
@[reducible] def i55_R8 : List Iop := [⟨(some 2), none, .mv (.c (.bool false))⟩]
@[reducible] def i55_R9 : List Iop := [⟨(some 23), none, .mv (.t 3)⟩,
  ⟨(some 24), none, .bin .add (.t 23) (.c (.int .i64 1))⟩,
  ⟨(some 3), none, .mv (.t 24)⟩]
@[reducible] def i55_L0 : IC := (.seq (.seq (.reg none i55_R4) (.cond (.t 22) .skip (.out 0))) (.seq (.block 1 (.seq (.reg none i55_R5) (.seq (.reg none i55_R6) (.seq (.reg none i55_R7) (.cond (.t 50) (.seq (.reg none i55_R8) .ret) .skip))))) (.reg none i55_R9)))
@[reducible] def i55_R10 : List Iop := [⟨(some 2), none, .mv (.c (.bool true))⟩]
@[reducible] def i55_B : IC := (.seq (.reg none i55_R0) (.seq (.seq (.reg none i55_R1) (.cond (.t 18) (.seq (.reg none i55_R2) .ret) .skip)) (.seq (.seq (.reg none i55_R3) (.block 0 (.loop i55_L0))) (.seq (.reg none i55_R10) .ret))))
@[reducible] def i55_V : List Nat := [0, 2, 3, 4, 5, 18, 22, 50]
def i55 : IFn := ⟨51, i55_V, [.tmp 2], i55_B⟩
theorem i55_ok : compF Go.Proofs.Try.prog i55_V Go.Proofs.Try.f55 = some i55 := by kernel_rfl
/-! slices.Equal[[]string,string] -/
@[reducible] def i56_R0 : List Iop := [⟨(some 4), none, .mv (.c (.bool false))⟩]
@[reducible] def i56_R1 : List Iop := [⟨(some 6), none, .mv (.t 0)⟩,
  ⟨(some 7), none, .lenl (.t 6)⟩,
  ⟨(some 8), none, .mv (.t 1)⟩,
  ⟨(some 9), none, .lenl (.t 8)⟩,
  ⟨(some 10), none, .bin .neq (.t 7) (.t 9)⟩]
@[reducible] def i56_R2 : List Iop := [⟨(some 4), none, .mv (.c (.bool false))⟩]
@[reducible] def i56_R3 : List Iop := [⟨(some 11), none, .mv (.t 0)⟩,
  ⟨(some 12), none, .lenl (.t 11)⟩,
  ⟨(some 13), none, .mv (.c (.int .i64 0))⟩]
@[reducible] def i56_R4 : List Iop := [⟨(some 14), none, .bin .lss (.t 13) (.t 12)⟩]
@[reducible] def i56_R5 : List Iop := [⟨(some 15), none, .mv (.t 13)⟩,
  ⟨(some 5), none, .mv (.t 15)⟩]
@[reducible] def i56_R6 : List Iop := [⟨(some 16), none, .mv (.t 0)⟩,
  ⟨(some 17), none, .mv (.t 5)⟩,
  ⟨(some 18), none, .ias 1 (.t 16) (.t 17)⟩,
  ⟨(some 19), none, .ld false 1 (.t 18)⟩,
  ⟨(some 20), none, .mv (.t 1)⟩,
  ⟨(some 21), none, .mv (.t 5)⟩,
  ⟨(some 22), none, .ias 1 (.t 20) (.t 21)⟩,
  ⟨(some 23), none, .ld false 1 (.t 22)⟩,
  ⟨(some 24), none, .bin .neq (.t 19) (.t 23)⟩]
@[reducible] def i56_R7 : List Iop := [⟨(some 4), none, .mv (.c (.bool false))⟩]
@[reducible] def i56_R8 : List Iop := [⟨(some 25), none, .bin .add (.t 13) (.c (.int .i64 1))⟩,
  ⟨(some 13), none, .mv (.t 25)⟩]
@[reducible] def i56_L0 : IC := (.seq (.reg none i56_R4) (.seq (.cond (.t 14) .skip (.out 0)) (.seq (.block 1 (.seq (.reg none i56_R5) (.seq (.reg (some []) i56_R6) (.cond (.t 24) (.seq (.reg none i56_R7) .ret) .skip)))) (.reg none i56_R8))))
@[reducible] def i56_R9 : List Iop := [⟨(some 4), none, .mv (.c (.bool true))⟩]
@[reducible] def i56_B : IC := (.seq (.reg none i56_R0) (.seq (.seq (.reg none i56_R1) (.cond (.t 10) (.seq (.reg none i56_R2) .ret) .skip)) (.seq (.seq (.reg none i56_R3) (.block 0 (.loop i56_L0))) (.seq (.reg none i56_R9) .ret))))
@[reducible] def i56_V : List Nat := [0, 1, 4, 5, 10, 12, 13, 14, 24]
def i56 : IFn := ⟨26, i56_V, [.tmp 4], i56_B⟩
theorem i56_ok : compF Go.Proofs.Try.prog i56_V Go.Proofs.Try.f56 = some i56 := by kernel_rfl
/-! slices.Equal[[]int64,int64] -/
@[reducible] def i57_R0 : List Iop := [⟨(some 4), none, .mv (.c (.bool false))⟩]
@[reducible] def i57_R1 : List Iop := [⟨(some 6), none, .mv (.t 0)⟩,
  ⟨(some 7), none, .lenl (.t 6)⟩,
  ⟨(some 8), none, .mv (.t 1)⟩,
  ⟨(some 9), none, .lenl (.t 8)⟩,
  ⟨(some 10), none, .bin .neq (.t 7) (.t 9)⟩]
@[reducible] def i57_R2 : List Iop := [⟨(some 4), none, .mv (.c (.bool false))⟩]
@[reducible] def i57_R3 : List Iop := [⟨(some 11), none, .mv (.t 0)⟩,
  ⟨(some 12), none, .lenl (.t 11)⟩,
  ⟨(some 13), none, .mv (.c (.int .i64 0))⟩]
@[reducible] def i57_R4 : List Iop := [⟨(some 14), none, .bin .lss (.t 13) (.t 12)⟩]
@[reducible] def i57_R5 : List Iop := [⟨(some 15), none, .mv (.t 13)⟩,
  ⟨(some 5), none, .mv (.t 15)⟩]
@[reducible] def i57_R6 : List Iop := [⟨(some 16), none, .mv (.t 0)⟩,
  ⟨(some 17), none, .mv (.t 5)⟩,
  ⟨(some 18), none, .ias 1 (.t 16) (.t 17)⟩,
  ⟨(some 19), none, .ld false 1 (.t 18)⟩,
  ⟨(some 20), none, .mv (.t 1)⟩,
  ⟨(some 21), none, .mv (.t 5)⟩,
  ⟨(some 22), none, .ias 1 (.t 20) (.t 21)⟩,
  ⟨(some 23), none, .ld false 1 (.t 22)⟩,
  ⟨(some 24), none, .bin .neq (.t 19) (.t 23)⟩]
@[reducible] def i57_R7 : List Iop := [⟨(some 4), none, .mv (.c (.bool false))⟩]
@[reducible] def i57_R8 : List Iop := [⟨(some 25), none, .bin .add (.t 13) (.c (.int .i64 1))⟩,
  ⟨(some 13), none, .mv (.t 25)⟩]
@[reducible] def i57_L0 : IC := (.seq (.reg none i57_R4) (.seq (.cond (.t 14) .skip (.out 0)) (.seq (.block 1 (.seq (.reg none i57_R5) (.seq (.reg (some []) i57_R6) (.cond (.t 24) (.seq (.reg none i57_R7) .ret) .skip)))) (.reg none i57_R8))))
@[reducible] def i57_R9 : List Iop := [⟨(some 4), none, .mv (.c (.bool true))⟩]
@[reducible] def i57_B : IC := (.seq (.reg none i57_R0) (.seq (.seq (.reg none i57_R1) (.cond (.t 10) (.seq (.reg none i57_R2) .ret) .skip)) (.seq (.seq (.reg none i57_R3) (.block 0 (.loop i57_L0))) (.seq (.reg none i57_R9) .ret))))
@[reducible] def i57_V : List Nat := [0, 1, 4, 5, 10, 12, 13, 14, 24]
def i57 : IFn := ⟨26, i57_V, [.tmp 4], i57_B⟩
theorem i57_ok : compF Go.Proofs.Try.prog i57_V Go.Proofs.Try.f57 = some i57 := by kernel_rfl
/-! funicular/funicularref08.Texts -/
@[reducible] def i58_R0 : List Iop := [⟨(some 4), none, .mv (.c (.bool false))⟩]
@[reducible] def i58_R1 : List Iop := [⟨(some 6), none, .mv (.t 0)⟩,
  ⟨(some 7), none, .lenl (.t 6)⟩,
  ⟨(some 8), none, .mv (.t 1)⟩,
  ⟨(some 9), none, .lenl (.t 8)⟩,
  ⟨(some 10), none, .bin .neq (.t 7) (.t 9)⟩]
@[reducible] def i58_R2 : List Iop := [⟨(some 4), none, .mv (.c (.bool false))⟩]
@[reducible] def i58_R3 : List Iop := [⟨(some 5), none, .mv (.c (.int .i64 0))⟩]
@[reducible] def i58_R4 : List Iop := [⟨(some 11), none, .mv (.t 5)⟩,
  ⟨(some 12), none, .mv (.t 0)⟩,
  ⟨(some 13), none, .lenl (.t 12)⟩,
  ⟨(some 14), none, .bin .lss (.t 11) (.t 13)⟩]
@[reducible] def i58_R5 : List Iop := [⟨(some 17), none, .mv (.t 0)⟩,
  ⟨(some 18), none, .mv (.t 5)⟩,
  ⟨(some 19), none, .ias 1 (.t 17) (.t 18)⟩,
  ⟨(some 20), none, .ld false 1 (.t 19)⟩,
  ⟨(some 21), none, .mv (.t 1)⟩,
  ⟨(some 22), none, .mv (.t 5)⟩,
  ⟨(some 23), none, .ias 1 (.t 21) (.t 22)⟩,
  ⟨(some 24), none, .ld false 1 (.t 23)⟩,
  ⟨(some 25), none, .bin .neq (.t 20) (.t 24)⟩]
@[reducible] def i58_R6 : List Iop := [⟨(some 4), none, .mv (.c (.bool false))⟩]
@[reducible] def i58_R7 : List Iop := [⟨(some 15), none, .mv (.t 5)⟩,
  ⟨(some 16), none, .bin .add (.t 15) (.c (.int .i64 1))⟩,
  ⟨(some 5), none, .mv (.t 16)⟩]
@[reducible] def i58_L0 : IC := (.seq (.seq (.reg none i58_R4) (.cond (.t 14) .skip (.out 0))) (.seq (.block 1 (.seq (.reg (some []) i58_R5) (.cond (.t 25) (.seq (.reg none i58_R6) .ret) .skip))) (.reg none i58_R7)))
@[reducible] def i58_R8 : List Iop := [⟨(some 4), none, .mv (.c (.bool true))⟩]
@[reducible] def i58_B : IC := (.seq (.reg none i58_R0) (.seq (.seq (.reg none i58_R1) (.cond (.t 10) (.seq (.reg none i58_R2) .ret) .skip)) (.seq (.seq (.reg none i58_R3) (.block 0 (.loop i58_L0))) (.seq (.reg none i58_R8) .ret))))
@[reducible] def i58_V : List Nat := [0, 1, 4, 5, 10, 14, 25]
def i58 : IFn := ⟨26, i58_V, [.tmp 4], i58_B⟩
theorem i58_ok : compF Go.Proofs.Try.prog i58_V Go.Proofs.Try.f58 = some i58 := by kernel_rfl
/-! funicular/pack.Uint -/
@[reducible] def i61_R0 : List Iop := [⟨(some 4), none, .mv (.c (.nil))⟩]
@[reducible] def i61_R1 : List Iop := [⟨(some 5), none, .mv (.t 1)⟩,
  ⟨(some 6), none, .bin .geq (.t 5) (.c (.int .u64 128))⟩]
@[reducible] def i61_R2 : List Iop := [⟨(some 7), none, .mv (.t 0)⟩,
  ⟨(some 8), none, .mv (.t 1)⟩,
  ⟨(some 9), none, .cvt .u8 (.t 8)⟩,
  ⟨(some 10), none, .bin .or (.t 9) (.c (.int .u8 128))⟩,
  ⟨(some 11), none, .bsl 1 [.int .u8 0] 1 [(0, (.t 10))]⟩,
  ⟨(some 12), none, .app 1 (.t 7) (.t 11)⟩,
  ⟨(some 0), none, .mv (.t 12)⟩]
@[reducible] def i61_R3 : List Iop := [⟨(some 13), none, .mv (.t 1)⟩,
  ⟨(some 14), none, .bin .shr (.t 13) (.c (.int .u64 7))⟩,
  ⟨(some 1), none, .mv (.t 14)⟩]
@[reducible] def i61_L0 : IC := (.seq (.seq (.reg none i61_R1) (.cond (.t 6) .skip (.out 0))) (.block 1 (.seq (.reg none i61_R2) (.reg none i61_R3))))
@[reducible] def i61_R4 : List Iop := [⟨(some 15), none, .mv (.t 0)⟩,
  ⟨(some 16), none, .mv (.t 1)⟩,
  ⟨(some 17), none, .cvt .u8 (.t 16)⟩,
  ⟨(some 18), none, .bsl 1 [.int .u8 0] 1 [(0, (.t 17))]⟩,
  ⟨(some 19), none, .app 1 (.t 15) (.t 18)⟩,
  ⟨(some 4), none, .mv (.t 19)⟩]
@[reducible] def i61_B : IC := (.seq (.reg none i61_R0) (.seq (.block 0 (.loop i61_L0)) (.seq (.reg none i61_R4) .ret)))
@[reducible] def i61_V : List Nat := [0, 1, 4, 6]
def i61 : IFn := ⟨20, i61_V, [.tmp 4], i61_B⟩
theorem i61_ok : compF Go.Proofs.Try.prog i61_V Go.Proofs.Try.f61 = some i61 := by kernel_rfl
/-! funicular/pack.Bytes -/
@[reducible] def i62_R0 : List Iop := [⟨(some 4), none, .mv (.c (.nil))⟩]
@[reducible] def i62_R1 : List Iop := [⟨(some 5), none, .mv (.t 0)⟩,
  ⟨(some 6), none, .mv (.t 1)⟩,
  ⟨(some 7), none, .lenl (.t 6)⟩,
  ⟨(some 8), none, .cvt .u64 (.t 7)⟩,
  ⟨(some 9), none, .call 61 [(.t 5), (.t 8)]⟩,
  ⟨(some 10), none, .mv (.t 1)⟩,
  ⟨(some 11), none, .app 1 (.t 9) (.t 10)⟩,
  ⟨(some 4), none, .mv (.t 11)⟩]
@[reducible] def i62_B : IC := (.seq (.reg none i62_R0) (.seq (.reg none i62_R1) .ret))
@[reducible] def i62_V : List Nat := [0, 1, 4]
def i62 : IFn := ⟨12, i62_V, [.tmp 4], i62_B⟩
theorem i62_ok : compF Go.Proofs.Try.prog i62_V Go.Proofs.Try.f62 = some i62 := by kernel_rfl
/-! funicular/pack.Int -/
@[reducible] def i63_R0 : List Iop := [⟨(some 4), none, .mv (.c (.nil))⟩]
@[reducible] def i63_R1 : List Iop := [⟨(some 5), none, .mv (.t 0)⟩,
  ⟨(some 6), none, .mv (.t 1)⟩,
  ⟨(some 7), none, .cvt .u64 (.t 6)⟩,
  ⟨(some 8), none, .bin .shl (.t 7) (.c (.int .u64 1))⟩,
  ⟨(some 9), none, .mv (.t 1)⟩,
  ⟨(some 10), none, .bin .shr (.t 9) (.c (.int .u64 63))⟩,
  ⟨(some 11), none, .cvt .u64 (.t 10)⟩,
  ⟨(some 12), none, .bin .xor (.t 8) (.t 11)⟩,
  ⟨(some 13), none, .call 61 [(.t 5), (.t 12)]⟩,
  ⟨(some 4), none, .mv (.t 13)⟩]
@[reducible] def i63_B : IC := (.seq (.reg none i63_R0) (.seq (.reg none i63_R1) .ret))
@[reducible] def i63_V : List Nat := [0, 1, 4]
def i63 : IFn := ⟨14, i63_V, [.tmp 4], i63_B⟩
theorem i63_ok : compF Go.Proofs.Try.prog i63_V Go.Proofs.Try.f63 = some i63 := by kernel_rfl
/-! funicular/pack.ReadUint -/
@[reducible] def i64_R0 : List Iop := [⟨(some 2), none, .mv (.c (.int .u64 0))⟩,
  ⟨(some 3), none, .mv (.c (.nil))⟩,
  ⟨(some 4), none, .mv (.c (.int .i64 0))⟩]
@[reducible] def i64_R1 : List Iop := [⟨(some 5), none, .mv (.c (.int .u64 0))⟩]
@[reducible] def i64_R2 : List Iop := [⟨(some 8), none, .mv (.t 0)⟩,
  ⟨(some 9), none, .lenl (.t 8)⟩,
  ⟨(some 10), none, .mn (.t 9) (.c (.int .i64 10))⟩,
  ⟨(some 11), none, .mv (.c (.int .i64 0))⟩]
@[reducible] def i64_R3 : List Iop := [⟨(some 12), none, .bin .lss (.t 11) (.t 10)⟩]
@[reducible] def i64_R4 : List Iop := [⟨(some 13), none, .mv (.t 11)⟩,
  ⟨(some 6), none, .mv (.t 13)⟩]
@[reducible] def i64_R5 : List Iop := [⟨(some 14), none, .mv (.t 0)⟩,
  ⟨(some 15), none, .mv (.t 6)⟩,
  ⟨(some 16), none, .ias 1 (.t 14) (.t 15)⟩,
  ⟨(some 17), none, .ld false 1 (.t 16)⟩,
  ⟨(some 18), none, .cvt .u64 (.t 17)⟩,
  ⟨(some 7), none, .mv (.t 18)⟩]
@[reducible] def i64_R6 : List Iop := [⟨(some 19), none, .mv (.t 6)⟩,
  ⟨(some 20), none, .bin .eql (.t 19) (.c (.int .i64 9))⟩,
  ⟨(some 21), none, .mv (.t 20)⟩,
  ⟨(some 22), (some (21, true)), .mv (.t 7)⟩,
  ⟨(some 23), (some (21, true)), .bin .gtr (.t 22) (.c (.int .u64 1))⟩,
  ⟨(some 24), none, .pick (.t 21) (.t 23) (.c (.bool false))⟩]
@[reducible] def i64_R7 : List Iop := [⟨(some 2), none, .mv (.c (.int .u64 0))⟩,
  ⟨(some 3), none, .mv (.c (.nil))⟩,
  ⟨(some 4), none, .mv (.c (.int .i64 2))⟩]
@[reducible] def i64_R8 : List Iop := [⟨(some 25), none, .mv (.t 5)⟩,
  ⟨(some 26), none, .mv (.t 7)⟩,
  ⟨(some 27), none, .bin .and (.t 26) (.c (.int .u64 127))⟩,
  ⟨(some 28), none, .mv (.t 6)⟩,
  ⟨(some 29), none, .bin .mul (.c (.int .i64 7)) (.t 28)⟩,
  ⟨(some 30), none, .bin .shl (.t 27) (.t 29)⟩,
  ⟨(some 31), none, .bin .or (.t 25) (.t 30)⟩,
  ⟨(some 5), none, .mv (.t 31)⟩]
@[reducible] def i64_R9 : List Iop := [⟨(some 32), none, .mv (.t 7)⟩,
  ⟨(some 33), none, .bin .lss (.t 32) (.c (.int .u64 128))⟩]
@[reducible] def i64_R10 : List Iop := [⟨(some 34), none, .mv (.t 7)⟩,
  ⟨(some 35), none, .bin .eql (.t 34) (.c (.int .u64 0))⟩,
  ⟨(some 36), none, .mv (.t 35)⟩,
  ⟨(some 37), (some (36, true)), .mv (.t 6)⟩,
  ⟨(some 38), (some (36, true)), .bin .gtr (.t 37) (.c (.int .i64 0))⟩,
  ⟨(some 39), none, .pick (.t 36) (.t 38) (.c (.bool false))⟩]
@[reducible] def i64_R11 : List Iop := [⟨(some 2), none, .mv (.c (.int .u64 0))⟩,
  ⟨(some 3), none, .mv (.c (.nil))⟩,
  ⟨(some 4), none, .mv (.c (.int .i64 2))⟩]
@[reducible] def i64_R12 : List Iop := [⟨(some 40), none, .mv (.t 5)⟩,
  ⟨(some 41), none, .mv (.t 0)⟩,
  ⟨(some 42), none, .mv (.t 6)⟩,
  ⟨(some 43), none, .bin .add (.t 42) (.c (.int .i64 1))⟩,
  ⟨(some 44), none, .sll 1 (.t 41) (some (.t 43)) none none⟩,
  ⟨(some 2), none, .mv (.t 40)⟩,
  ⟨(some 3), none, .mv (.t 44)⟩,
  ⟨(some 4), none, .mv (.c (.int .i64 0))⟩]
@[reducible] def i64_R13 : List Iop := [⟨(some 45), none, .bin .add (.t 11) (.c (.int .i64 1))⟩,
  ⟨(some 11), none, .mv (.t 45)⟩]
@[reducible] def i64_L0 : IC := (.seq (.reg none i64_R3) (.seq (.cond (.t 12) .skip (.out 0)) (.seq (.block 1 (.seq (.reg none i64_R4) (.seq (.reg none i64_R5) (.seq (.seq (.reg none i64_R6) (.cond (.t 24) (.seq (.reg none i64_R7) .ret) .skip)) (.seq (.reg none i64_R8) (.seq (.reg none i64_R9) (.cond (.t 33) (.seq (.seq (.reg none i64_R10) (.cond (.t 39) (.seq (.reg none i64_R11) .ret) .skip)) (.seq (.reg (some []) i64_R12) .ret)) .skip))))))) (.reg none i64_R13))))
@[reducible] def i64_R14 : List Iop := [⟨(some 2), none, .mv (.c (.int .u64 0))⟩,
  ⟨(some 3), none, .mv (.c (.nil))⟩,
  ⟨(some 4), none, .mv (.c (.int .i64 5))⟩]
@[reducible] def i64_B : IC := (.seq (.reg none i64_R0) (.seq (.reg none i64_R1) (.seq (.seq (.reg none i64_R2) (.block 0 (.loop i64_L0))) (.seq (.reg none i64_R14) .ret))))
@[reducible] def i64_V : List Nat := [0, 2, 3, 4, 5, 6, 7, 10, 11, 12, 24, 33, 39]
def i64 : IFn := ⟨46, i64_V, [.tmp 2, .tmp 3, .tmp 4], i64_B⟩
theorem i64_ok : compF Go.Proofs.Try.prog i64_V Go.Proofs.Try.f64 = some i64 := by kernel_rfl
/-! funicular/pack.ReadBytes -/
@[reducible] def i65_R0 : List Iop := [⟨(some 2), none, .mv (.c (.nil))⟩,
  ⟨(some 3), none, .mv (.c (.nil))⟩,
  ⟨(some 4), none, .mv (.c (.int .i64 0))⟩]
@[reducible] def i65_R1 : List Iop := [⟨(some 9), none, .mv (.t 0)⟩,
  ⟨(some 10), none, .call 64 [(.t 9)]⟩,
  ⟨(some 8), none, .mv (.t 10)⟩,
  ⟨(some 11), none, .ext 0 (.t 8)⟩,
  ⟨(some 12), none, .ext 1 (.t 8)⟩,
  ⟨(some 13), none, .ext 2 (.t 8)⟩,
  ⟨(some 5), none, .mv (.t 11)⟩,
  ⟨(some 6), none, .mv (.t 12)⟩,
  ⟨(some 7), none, .mv (.t 13)⟩]
@[reducible] def i65_R2 : List Iop := [⟨(some 14), none, .mv (.t 7)⟩,
  ⟨(some 15), none, .bin .neq (.t 14) (.c (.int .i64 0))⟩]
@[reducible] def i65_R3 : List Iop := [⟨(some 16), none, .mv (.t 7)⟩,
  ⟨(some 2), none, .mv (.c (.nil))⟩,
  ⟨(some 3), none, .mv (.c (.nil))⟩,
  ⟨(some 4), none, .mv (.t 16)⟩]
@[reducible] def i65_R4 : List Iop := [⟨(some 17), none, .mv (.t 5)⟩,
  ⟨(some 18), none, .mv (.t 6)⟩,
  ⟨(some 19), none, .lenl (.t 18)⟩,
  ⟨(some 20), none, .cvt .u64 (.t 19)⟩,
  ⟨(some 21), none, .bin .gtr (.t 17) (.t 20)⟩]
@[reducible] def i65_R5 : List Iop := [⟨(some 2), none, .mv (.c (.nil))⟩,
  ⟨(some 3), none, .mv (.c (.nil))⟩,
  ⟨(some 4), none, .mv (.c (.int .i64 5))⟩]
@[reducible] def i65_R6 : List Iop := [⟨(some 22), none, .mv (.t 6)⟩,
  ⟨(some 23), none, .mv (.t 5)⟩,
  ⟨(some 24), none, .mv (.t 5)⟩,
  ⟨(some 25), none, .sll 1 (.t 22) none (some (.t 23)) (some (.t 24))⟩,
  ⟨(some 26), none, .mv (.t 6)⟩,
  ⟨(some 27), none, .mv (.t 5)⟩,
  ⟨(some 28), none, .sll 1 (.t 26) (some (.t 27)) none none⟩,
  ⟨(some 2), none, .mv (.t 25)⟩,
  ⟨(some 3), none, .mv (.t 28)⟩,
  ⟨(some 4), none, .mv (.c (.int .i64 0))⟩]
@[reducible] def i65_B : IC := (.seq (.reg none i65_R0) (.seq (.reg none i65_R1) (.seq (.seq (.reg none i65_R2) (.cond (.t 15) (.seq (.reg none i65_R3) .ret) .skip)) (.seq (.seq (.reg none i65_R4) (.cond (.t 21) (.seq (.reg none i65_R5) .ret) .skip)) (.seq (.reg (some []) i65_R6) .ret)))))
@[reducible] def i65_V : List Nat := [0, 2, 3, 4, 5, 6, 7, 15, 21]
def i65 : IFn := ⟨29, i65_V, [.tmp 2, .tmp 3, .tmp 4], i65_B⟩
theorem i65_ok : compF Go.Proofs.Try.prog i65_V Go.Proofs.Try.f65 = some i65 := by kernel_rfl
/-! funicular/pack.ReadInt -/
@[reducible] def i66_R0 : List Iop := [⟨(some 2), none, .mv (.c (.int .i64 0))⟩,
  ⟨(some 3), none, .mv (.c (.nil))⟩,
  ⟨(some 4), none, .mv (.c (.int .i64 0))⟩]
@[reducible] def i66_R1 : List Iop := [⟨(some 9), none, .mv (.t 0)⟩,
  ⟨(some 10), none, .call 64 [(.t 9)]⟩,
  ⟨(some 8), none, .mv (.t 10)⟩,
  ⟨(some 11), none, .ext 0 (.t 8)⟩,
  ⟨(some 12), none, .ext 1 (.t 8)⟩,
  ⟨(some 13), none, .ext 2 (.t 8)⟩,
  ⟨(some 5), none, .mv (.t 11)⟩,
  ⟨(some 6), none, .mv (.t 12)⟩,
  ⟨(some 7), none, .mv (.t 13)⟩]
@[reducible] def i66_R2 : List Iop := [⟨(some 14), none, .mv (.t 5)⟩,
  ⟨(some 15), none, .bin .shr (.t 14) (.c (.int .u64 1))⟩,
  ⟨(some 16), none, .cvt .i64 (.t 15)⟩,
  ⟨(some 17), none, .mv (.t 5)⟩,
  ⟨(some 18), none, .bin .and (.t 17) (.c (.int .u64 1))⟩,
  ⟨(some 19), none, .cvt .i64 (.t 18)⟩,
  ⟨(some 20), none, .ngt (.t 19)⟩,
  ⟨(some 21), none, .bin .xor (.t 16) (.t 20)⟩,
  ⟨(some 22), none, .mv (.t 6)⟩,
  ⟨(some 23), none, .mv (.t 7)⟩,
  ⟨(some 2), none, .mv (.t 21)⟩,
  ⟨(some 3), none, .mv (.t 22)⟩,
  ⟨(some 4), none, .mv (.t 23)⟩]
@[reducible] def i66_B : IC := (.seq (.reg none i66_R0) (.seq (.reg none i66_R1) (.seq (.reg none i66_R2) .ret)))
@[reducible] def i66_V : List Nat := [0, 2, 3, 4, 5, 6, 7]
def i66 : IFn := ⟨24, i66_V, [.tmp 2, .tmp 3, .tmp 4], i66_B⟩
theorem i66_ok : compF Go.Proofs.Try.prog i66_V Go.Proofs.Try.f66 = some i66 := by kernel_rfl
/-! slices.BinarySearch[[]string,string] -/
@[reducible] def i67_R0 : List Iop := [⟨(some 4), none, .mv (.c (.int .i64 0))⟩,
  ⟨(some 5), none, .mv (.c (.bool false))⟩]
@[reducible] def i67_R1 : List Iop := [⟨(some 10), none, .mv (.t 0)⟩,
  ⟨(some 11), none, .lenl (.t 10)⟩,
  ⟨(some 6), none, .mv (.t 11)⟩]
@[reducible] def i67_R2 : List Iop := [⟨(some 12), none, .mv (.t 6)⟩,
  ⟨(some 7), none, .mv (.c (.int .i64 0))⟩,
  ⟨(some 8), none, .mv (.t 12)⟩]
@[reducible] def i67_R3 : List Iop := [⟨(some 13), none, .mv (.t 7)⟩,
  ⟨(some 14), none, .mv (.t 8)⟩,
  ⟨(some 15), none, .bin .lss (.t 13) (.t 14)⟩]
@[reducible] def i67_R4 : List Iop := [⟨(some 16), none, .mv (.t 7)⟩,
  ⟨(some 17), none, .mv (.t 8)⟩,
  ⟨(some 18), none, .bin .add (.t 16) (.t 17)⟩,
  ⟨(some 19), none, .cvt .u64 (.t 18)⟩,
  ⟨(some 20), none, .bin .shr (.t 19) (.c (.int .u64 1))⟩,
  ⟨(some 21), none, .cvt .i64 (.t 20)⟩,
  ⟨(some 9), none, .mv (.t 21)⟩]
@[reducible] def i67_R5 : List Iop := [⟨(some 22), none, .mv (.t 0)⟩,
  ⟨(some 23), none, .mv (.t 9)⟩,
  ⟨(some 24), none, .ias 1 (.t 22) (.t 23)⟩,
  ⟨(some 25), none, .ld false 1 (.t 24)⟩,
  ⟨(some 26), none, .mv (.t 1)⟩,
  ⟨(some 27), none, .call 105 [(.t 25), (.t 26)]⟩]
@[reducible] def i67_R6 : List Iop := [⟨(some 28), none, .mv (.t 9)⟩,
  ⟨(some 29), none, .bin .add (.t 28) (.c (.int .i64 1))⟩,
  ⟨(some 7), none, .mv (.t 29)⟩]
@[reducible] def i67_R7 : List Iop := [⟨(some 30), none, .mv (.t 9)⟩,
  ⟨(some 8), none, .mv (.t 30)⟩]
@[reducible] def i67_L0 : IC := (.seq (.seq (.reg none i67_R3) (.cond (.t 15) .skip (.out 0))) (.block 1 (.seq (.reg none i67_R4) (.seq (.reg none i67_R5) (.cond (.t 27) (.reg none i67_R6) (.reg none i67_R7))))))
@[reducible] def i67_R8 : List Iop := [⟨(some 31), none, .mv (.t 7)⟩,
  ⟨(some 32), none, .mv (.t 7)⟩,
  ⟨(some 33), none, .mv (.t 6)⟩,
  ⟨(some 34), none, .bin .lss (.t 32) (.t 33)⟩,
  ⟨(some 35), none, .mv (.t 34)⟩,
  ⟨(some 36), (some (35, true)), .mv (.t 0)⟩,
  ⟨(some 37), (some (35, true)), .mv (.t 7)⟩,
  ⟨(some 38), (some (35, true)), .ias 1 (.t 36) (.t 37)⟩,
  ⟨(some 39), (some (35, true)), .ld false 1 (.t 38)⟩,
  ⟨(some 40), (some (35, true)), .mv (.t 1)⟩,
  ⟨(some 41), (some (35, true)), .bin .eql (.t 39) (.t 40)⟩,
  ⟨(some 42), (some (35, true)), .mv (.t 41)⟩,
  ⟨(some 43), (some (42, false)), .mv (.t 0)⟩,
  ⟨(some 44), (some (42, false)), .mv (.t 7)⟩,
  ⟨(some 45), (some (42, false)), .ias 1 (.t 43) (.t 44)⟩,
  ⟨(some 46), (some (42, false)), .ld false 1 (.t 45)⟩,
  ⟨(some 47), (some (42, false)), .call 106 [(.t 46)]⟩,
  ⟨(some 48), (some (42, false)), .mv (.t 47)⟩,
  ⟨(some 49), (some (48, true)), .mv (.t 1)⟩,
  ⟨(some 50), (some (48, true)), .call 106 [(.t 49)]⟩,
  ⟨(some 51), (some (42, false)), .pick (.t 48) (.t 50) (.c (.bool false))⟩,
  ⟨(some 52), (some (35, true)), .pick (.t 42) (.c (.bool true)) (.t 51)⟩,
  ⟨(some 53), none, .pick (.t 35) (.t 52) (.c (.bool false))⟩,
  ⟨(some 4), none, .mv (.t 31)⟩,
  ⟨(some 5), none, .mv (.t 53)⟩]
@[reducible] def i67_B : IC := (.seq (.reg none i67_R0) (.seq (.reg none i67_R1) (.seq (.reg none i67_R2) (.seq (.block 0 (.loop i67_L0)) (.seq (.reg none i67_R8) .ret)))))
@[reducible] def i67_V : List Nat := [0, 1, 4, 5, 6, 7, 8, 9, 15, 27]
def i67 : IFn := ⟨54, i67_V, [.tmp 4, .tmp 5], i67_B⟩
theorem i67_ok : compF Go.Proofs.Try.prog i67_V Go.Proofs.Try.f67 = some i67 := by kernel_rfl
/-! cmp.Less[string] -/
@[reducible] def i105_R0 : List Iop := [⟨(some 4), none, .mv (.c (.bool false))⟩]
@[reducible] def i105_R1 : List Iop := [⟨(some 5), none, .mv (.t 0)⟩,
  ⟨(some 6), none, .call 120 [(.t 5)]⟩,
  ⟨(some 7), none, .mv (.t 6)⟩,
  ⟨(some 8), (some (7, true)), .mv (.t 1)⟩,
  ⟨(some 9), (some (7, true)), .call 120 [(.t 8)]⟩,
  ⟨(some 10), (some (7, true)), .nt (.t 9)⟩,
  ⟨(some 11), none, .pick (.t 7) (.t 10) (.c (.bool false))⟩,
  ⟨(some 12), none, .mv (.t 11)⟩,
  ⟨(some 13), (some (12, false)), .mv (.t 0)⟩,
  ⟨(some 14), (some (12, false)), .mv (.t 1)⟩,
  ⟨(some 15), (some (12, false)), .bin .lss (.t 13) (.t 14)⟩,
  ⟨(some 16), none, .pick (.t 12) (.c (.bool true)) (.t 15)⟩,
  ⟨(some 4), none, .mv (.t 16)⟩]
@[reducible] def i105_B : IC := (.seq (.reg none i105_R0) (.seq (.reg none i105_R1) .ret))
@[reducible] def i105_V : List Nat := [0, 1, 4]
def i105 : IFn := ⟨17, i105_V, [.tmp 4], i105_B⟩
theorem i105_ok : compF Go.Proofs.Try.prog i105_V Go.Proofs.Try.f105 = some i105 := by kernel_rfl
/-! slices.isNaN[string] -/
@[reducible] def i106_R0 : List Iop := [⟨(some 2), none, .mv (.c (.bool false))⟩]
@[reducible] def i106_R1 : List Iop := [⟨(some 3), none, .mv (.t 0)⟩,
  ⟨(some 4), none, .mv (.t 0)⟩,
  ⟨(some 5), none, .bin .neq (.t 3) (.t 4)⟩,
  ⟨(some 2), none, .mv (.t 5)⟩]
@[reducible] def i106_B : IC := (.seq (.reg none i106_R0) (.seq (.reg none i106_R1) .ret))
@[reducible] def i106_V : List Nat := [0, 2]
def i106 : IFn := ⟨6, i106_V, [.tmp 2], i106_B⟩
theorem i106_ok : compF Go.Proofs.Try.prog i106_V Go.Proofs.Try.f106 = some i106 := by kernel_rfl
/-! cmp.isNaN[string] -/
@[reducible] def i120_R0 : List Iop := [⟨(some 2), none, .mv (.c (.bool false))⟩]
@[reducible] def i120_R1 : List Iop := [⟨(some 3), none, .mv (.t 0)⟩,
  ⟨(some 4), none, .mv (.t 0)⟩,
  ⟨(some 5), none, .bin .neq (.t 3) (.t 4)⟩,
  ⟨(some 2), none, .mv (.t 5)⟩]
@[reducible] def i120_B : IC := (.seq (.reg none i120_R0) (.seq (.reg none i120_R1) .ret))
@[reducible] def i120_V : List Nat := [0, 2]
def i120 : IFn := ⟨6, i120_V, [.tmp 2], i120_B⟩
theorem i120_ok : compF Go.Proofs.Try.prog i120_V Go.Proofs.Try.f120 = some i120 := by kernel_rfl
def fnOf : Nat → Option IFn
  | 4 => some i4
  | 12 => some i12
  | 13 => some i13
  | 14 => some i14
  | 15 => some i15
  | 16 => some i16
  | 17 => some i17
  | 18 => some i18
  | 19 => some i19
  | 20 => some i20
  | 21 => some i21
  | 22 => some i22
  | 24 => some i24
  | 25 => some i25
  | 28 => some i28
  | 54 => some i54
  | 55 => some i55
  | 56 => some i56
  | 57 => some i57
  | 58 => some i58
  | 61 => some i61
  | 62 => some i62
  | 63 => some i63
  | 64 => some i64
  | 65 => some i65
  | 66 => some i66
  | 67 => some i67
  | 105 => some i105
  | 106 => some i106
  | 120 => some i120
  | _ => none
def fzOf : Nat → Bool
  | 19 => false
  | 61 => false
  | 62 => false
  | 63 => false
  | 68 => false
  | 69 => false
  | _ => true
noncomputable def cfg : Cfg := { P := Go.Proofs.Try.prog, fn := fnOf, fz := fzOf }
theorem fnOf_ok : ∀ f i, cfg.fn f = some i → ∃ fn V, cfg.P.funcs[f]? = some fn ∧ compF cfg.P V fn = some i ∧ V = i.live := by
  intro f i h
  change fnOf f = some i at h
  unfold fnOf at h
  split at h
  · obtain rfl := Option.some.inj h; exact ⟨_, _, Go.Proofs.Try.func4, i4_ok, rfl⟩
  · obtain rfl := Option.some.inj h; exact ⟨_, _, Go.Proofs.Try.func12, i12_ok, rfl⟩
  · obtain rfl := Option.some.inj h; exact ⟨_, _, Go.Proofs.Try.func13, i13_ok, rfl⟩
  · obtain rfl := Option.some.inj h; exact ⟨_, _, Go.Proofs.Try.func14, i14_ok, rfl⟩
  · obtain rfl := Option.some.inj h; exact ⟨_, _, Go.Proofs.Try.func15, i15_ok, rfl⟩
  · obtain rfl := Option.some.inj h; exact ⟨_, _, Go.Proofs.Try.func16, i16_ok, rfl⟩
  · obtain rfl := Option.some.inj h; exact ⟨_, _, Go.Proofs.Try.func17, i17_ok, rfl⟩
  · obtain rfl := Option.some.inj h; exact ⟨_, _, Go.Proofs.Try.func18, i18_ok, rfl⟩
  · obtain rfl := Option.some.inj h; exact ⟨_, _, Go.Proofs.Try.func19, i19_ok, rfl⟩
  · obtain rfl := Option.some.inj h; exact ⟨_, _, Go.Proofs.Try.func20, i20_ok, rfl⟩
  · obtain rfl := Option.some.inj h; exact ⟨_, _, Go.Proofs.Try.func21, i21_ok, rfl⟩
  · obtain rfl := Option.some.inj h; exact ⟨_, _, Go.Proofs.Try.func22, i22_ok, rfl⟩
  · obtain rfl := Option.some.inj h; exact ⟨_, _, Go.Proofs.Try.func24, i24_ok, rfl⟩
  · obtain rfl := Option.some.inj h; exact ⟨_, _, Go.Proofs.Try.func25, i25_ok, rfl⟩
  · obtain rfl := Option.some.inj h; exact ⟨_, _, Go.Proofs.Try.func28, i28_ok, rfl⟩
  · obtain rfl := Option.some.inj h; exact ⟨_, _, Go.Proofs.Try.func54, i54_ok, rfl⟩
  · obtain rfl := Option.some.inj h; exact ⟨_, _, Go.Proofs.Try.func55, i55_ok, rfl⟩
  · obtain rfl := Option.some.inj h; exact ⟨_, _, Go.Proofs.Try.func56, i56_ok, rfl⟩
  · obtain rfl := Option.some.inj h; exact ⟨_, _, Go.Proofs.Try.func57, i57_ok, rfl⟩
  · obtain rfl := Option.some.inj h; exact ⟨_, _, Go.Proofs.Try.func58, i58_ok, rfl⟩
  · obtain rfl := Option.some.inj h; exact ⟨_, _, Go.Proofs.Try.func61, i61_ok, rfl⟩
  · obtain rfl := Option.some.inj h; exact ⟨_, _, Go.Proofs.Try.func62, i62_ok, rfl⟩
  · obtain rfl := Option.some.inj h; exact ⟨_, _, Go.Proofs.Try.func63, i63_ok, rfl⟩
  · obtain rfl := Option.some.inj h; exact ⟨_, _, Go.Proofs.Try.func64, i64_ok, rfl⟩
  · obtain rfl := Option.some.inj h; exact ⟨_, _, Go.Proofs.Try.func65, i65_ok, rfl⟩
  · obtain rfl := Option.some.inj h; exact ⟨_, _, Go.Proofs.Try.func66, i66_ok, rfl⟩
  · obtain rfl := Option.some.inj h; exact ⟨_, _, Go.Proofs.Try.func67, i67_ok, rfl⟩
  · obtain rfl := Option.some.inj h; exact ⟨_, _, Go.Proofs.Try.func105, i105_ok, rfl⟩
  · obtain rfl := Option.some.inj h; exact ⟨_, _, Go.Proofs.Try.func106, i106_ok, rfl⟩
  · obtain rfl := Option.some.inj h; exact ⟨_, _, Go.Proofs.Try.func120, i120_ok, rfl⟩
  · cases h
end Go.Proofs.Ytjhnlgelcfplaaa.R
