/- The functions of a seat, as the abstract machine has them. -/
import Derived.Test.YtmlhjobmpjpmnaaDoorNwI
set_option linter.all false
set_option linter.unusedVariables false
set_option linter.unusedSimpArgs false
set_option linter.unusedSectionVars false
namespace Go.Nw.Door
def gl_0 : List Int := [0, 1, 28, 2, 29, 14, 24, 3, 30, 22, 20, 15, 25, 17, 4, 8, 31, 27, 13, 23, 21, 19, 16, 7, 26, 12, 18, 6, 11, 5, 10, 9]
def gt_0 : List Value := List.map (Value.int .u8) gl_0
theorem gt_0_eq : gt_0 = List.map (Value.int .u8) gl_0 := rfl
def gl_1 : List Int := [0, 1, 56, 2, 57, 49, 28, 3, 61, 58, 42, 50, 38, 29, 17, 4, 62, 47, 59, 36, 45, 43, 51, 22, 53, 39, 33, 30, 24, 18, 12, 5, 63, 55, 48, 27, 60, 41, 37, 16, 46, 35, 44, 21, 52, 32, 23, 11, 54, 26, 40, 15, 34, 20, 31, 10, 25, 14, 19, 9, 13, 8, 7, 6]
def gt_1 : List Value := List.map (Value.int .u8) gl_1
theorem gt_1_eq : gt_1 = List.map (Value.int .u8) gl_1 := rfl
/- newel/newellaw03.CircuitTrials boxF [3] frz [] -/
@[go_sem] def x_l03_CircuitTrials_0 : List XO := [
  ⟨(some 3), none, .boxF (.t 0)⟩,
  ⟨(some 6), none, .mv (.c (.bool false))⟩]
@[go_sem] def x_l03_CircuitTrials_1 : List XO := [
  ⟨(some 11), none, .load true 3 (.tf 3)⟩,
  ⟨(some 12), none, .call "newel/newellaw03.Far" [(.t 11)]⟩,
  ⟨(some 13), none, .mv (.t 12)⟩,
  ⟨(some 14), (some (13, false)), .mv (.t 1)⟩,
  ⟨(some 15), (some (13, false)), .len false (.t 14)⟩,
  ⟨(some 16), (some (13, false)), .bin .gtr .no (.t 15) (.c (.int .i64 20))⟩,
  ⟨(some 17), none, .pick (.t 13) (.c (.bool true)) (.t 16)⟩]
@[go_sem] def x_l03_CircuitTrials_2 : List XO := [
  ⟨(some 18), none, .call "newel/newellaw03.works" []⟩,
  ⟨(some 6), none, .mv (.t 18)⟩]
@[go_sem] def x_l03_CircuitTrials_3 : List XO := [
  ⟨(some 20), none, .load true 3 (.tf 3)⟩,
  ⟨(some 21), none, .mv (.t 1)⟩,
  ⟨(some 22), none, .mv (.t 2)⟩,
  ⟨(some 23), none, .call "newel/circuit.Shows" [(.t 20), (.t 21), (.t 22)]⟩,
  ⟨(some 19), none, .mv (.t 23)⟩,
  ⟨(some 24), none, .ext (.t 19) 0⟩,
  ⟨(some 25), none, .ext (.t 19) 1⟩,
  ⟨(some 7), none, .mv (.t 24)⟩,
  ⟨(some 8), none, .mv (.t 25)⟩]
@[go_sem] def x_l03_CircuitTrials_4 : List XO := [
  ⟨(some 27), none, .load true 3 (.tf 3)⟩,
  ⟨(some 28), none, .mv (.t 1)⟩,
  ⟨(some 29), none, .mv (.t 2)⟩,
  ⟨(some 30), none, .call "newel/newelref03.Shows" [(.t 27), (.t 28), (.t 29)]⟩,
  ⟨(some 26), none, .mv (.t 30)⟩,
  ⟨(some 31), none, .ext (.t 26) 0⟩,
  ⟨(some 32), none, .ext (.t 26) 1⟩,
  ⟨(some 9), none, .mv (.t 31)⟩,
  ⟨(some 10), none, .mv (.t 32)⟩]
@[go_sem] def x_l03_CircuitTrials_5 : List XO := [
  ⟨(some 33), none, .mv (.t 8)⟩,
  ⟨(some 34), none, .mv (.t 10)⟩,
  ⟨(some 35), none, .bin .neq .no (.t 33) (.t 34)⟩,
  ⟨(some 36), none, .mv (.t 35)⟩,
  ⟨(some 37), (some (36, false)), .mv (.t 7)⟩,
  ⟨(some 38), (some (36, false)), .mv (.t 9)⟩,
  ⟨(some 39), (some (36, false)), .call "newel/newellaw03.sameInts" [(.t 37), (.t 38)]⟩,
  ⟨(some 40), (some (36, false)), .un .not (.t 39)⟩,
  ⟨(some 41), none, .pick (.t 36) (.c (.bool true)) (.t 40)⟩]
@[go_sem] def x_l03_CircuitTrials_6 : List XO := [
  ⟨(some 6), none, .mv (.c (.bool false))⟩]
@[go_sem] def x_l03_CircuitTrials_7 : List XO := [
  ⟨(some 43), none, .load true 3 (.tf 3)⟩,
  ⟨(some 44), none, .mv (.t 1)⟩,
  ⟨(some 45), none, .call "newel/circuit.Blind" [(.t 43), (.t 44)]⟩,
  ⟨(some 42), none, .mv (.t 45)⟩,
  ⟨(some 46), none, .ext (.t 42) 0⟩,
  ⟨(some 47), none, .ext (.t 42) 1⟩,
  ⟨(some 7), none, .mv (.t 46)⟩,
  ⟨(some 8), none, .mv (.t 47)⟩]
@[go_sem] def x_l03_CircuitTrials_8 : List XO := [
  ⟨(some 49), none, .load true 3 (.tf 3)⟩,
  ⟨(some 50), none, .mv (.t 1)⟩,
  ⟨(some 51), none, .call "newel/newelref03.Blind" [(.t 49), (.t 50)]⟩,
  ⟨(some 48), none, .mv (.t 51)⟩,
  ⟨(some 52), none, .ext (.t 48) 0⟩,
  ⟨(some 53), none, .ext (.t 48) 1⟩,
  ⟨(some 9), none, .mv (.t 52)⟩,
  ⟨(some 10), none, .mv (.t 53)⟩]
@[go_sem] def x_l03_CircuitTrials_9 : List XO := [
  ⟨(some 54), none, .mv (.t 8)⟩,
  ⟨(some 55), none, .mv (.t 10)⟩,
  ⟨(some 56), none, .bin .neq .no (.t 54) (.t 55)⟩,
  ⟨(some 57), none, .mv (.t 56)⟩,
  ⟨(some 58), (some (57, false)), .mv (.t 7)⟩,
  ⟨(some 59), (some (57, false)), .mv (.t 9)⟩,
  ⟨(some 60), (some (57, false)), .call "newel/newellaw03.sameInts" [(.t 58), (.t 59)]⟩,
  ⟨(some 61), (some (57, false)), .un .not (.t 60)⟩,
  ⟨(some 62), none, .pick (.t 57) (.c (.bool true)) (.t 61)⟩]
@[go_sem] def x_l03_CircuitTrials_10 : List XO := [
  ⟨(some 6), none, .mv (.c (.bool false))⟩]
@[go_sem] def x_l03_CircuitTrials_11 : List XO := [
  ⟨(some 64), none, .load true 3 (.tf 3)⟩,
  ⟨(some 65), none, .mv (.t 1)⟩,
  ⟨(some 66), none, .call "newel/circuit.Fewest" [(.t 64), (.t 65)]⟩,
  ⟨(some 63), none, .mv (.t 66)⟩,
  ⟨(some 67), none, .ext (.t 63) 0⟩,
  ⟨(some 68), none, .ext (.t 63) 1⟩,
  ⟨(some 7), none, .mv (.t 67)⟩,
  ⟨(some 8), none, .mv (.t 68)⟩]
@[go_sem] def x_l03_CircuitTrials_12 : List XO := [
  ⟨(some 70), none, .load true 3 (.tf 3)⟩,
  ⟨(some 71), none, .mv (.t 1)⟩,
  ⟨(some 72), none, .call "newel/newelref03.Fewest" [(.t 70), (.t 71)]⟩,
  ⟨(some 69), none, .mv (.t 72)⟩,
  ⟨(some 73), none, .ext (.t 69) 0⟩,
  ⟨(some 74), none, .ext (.t 69) 1⟩,
  ⟨(some 9), none, .mv (.t 73)⟩,
  ⟨(some 10), none, .mv (.t 74)⟩]
@[go_sem] def x_l03_CircuitTrials_13 : List XO := [
  ⟨(some 75), none, .mv (.t 8)⟩,
  ⟨(some 76), none, .mv (.t 10)⟩,
  ⟨(some 77), none, .bin .eql .no (.t 75) (.t 76)⟩,
  ⟨(some 78), none, .mv (.t 77)⟩,
  ⟨(some 79), (some (78, true)), .mv (.t 7)⟩,
  ⟨(some 80), (some (78, true)), .mv (.t 9)⟩,
  ⟨(some 81), (some (78, true)), .call "newel/newellaw03.sameInts" [(.t 79), (.t 80)]⟩,
  ⟨(some 82), none, .pick (.t 78) (.t 81) (.c (.bool false))⟩,
  ⟨(some 83), none, .mv (.t 82)⟩,
  ⟨(some 84), (some (83, true)), .call "newel/newellaw03.works" []⟩,
  ⟨(some 85), none, .pick (.t 83) (.t 84) (.c (.bool false))⟩,
  ⟨(some 6), none, .mv (.t 85)⟩]
def x_l03_CircuitTrials : XFunc := { np := 3, res := [.t 6], body :=
  (.seq (.reg x_l03_CircuitTrials_0) (.seq (.seq (.reg x_l03_CircuitTrials_1) (.cond (.t 17) (.seq (.reg x_l03_CircuitTrials_2) .ret) .skip)) (.seq (.reg x_l03_CircuitTrials_3) (.seq (.reg x_l03_CircuitTrials_4) (.seq (.seq (.reg x_l03_CircuitTrials_5) (.cond (.t 41) (.seq (.reg x_l03_CircuitTrials_6) .ret) .skip)) (.seq (.reg x_l03_CircuitTrials_7) (.seq (.reg x_l03_CircuitTrials_8) (.seq (.seq (.reg x_l03_CircuitTrials_9) (.cond (.t 62) (.seq (.reg x_l03_CircuitTrials_10) .ret) .skip)) (.seq (.reg x_l03_CircuitTrials_11) (.seq (.reg x_l03_CircuitTrials_12) (.seq (.reg x_l03_CircuitTrials_13) .ret))))))))))) }

/- newel/newellaw03.Far boxF [1, 21, 15, 9, 4] frz [] -/
@[go_sem] def x_l03_Far_0 : List XO := [
  ⟨(some 1), none, .boxF (.t 0)⟩,
  ⟨(some 2), none, .mv (.c (.bool false))⟩]
@[go_sem] def x_l03_Far_1 : List XO := [
  ⟨(some 4), none, .fldA 1 (.tf 1)⟩,
  ⟨(some 5), none, .load false 1 (.tf 4)⟩,
  ⟨(some 6), none, .len false (.t 5)⟩,
  ⟨(some 7), none, .bin .gtr .no (.t 6) (.c (.int .i64 20))⟩,
  ⟨(some 8), none, .mv (.t 7)⟩,
  ⟨(some 9), (some (8, false)), .fldA 2 (.tf 1)⟩,
  ⟨(some 10), (some (8, false)), .load false 1 (.tf 9)⟩,
  ⟨(some 11), (some (8, false)), .len false (.t 10)⟩,
  ⟨(some 12), (some (8, false)), .bin .gtr .no (.t 11) (.c (.int .i64 40))⟩,
  ⟨(some 13), none, .pick (.t 8) (.c (.bool true)) (.t 12)⟩]
@[go_sem] def x_l03_Far_2 : List XO := [
  ⟨(some 2), none, .mv (.c (.bool true))⟩]
@[go_sem] def x_l03_Far_3 : List XO := [
  ⟨(some 3), none, .mv (.c (.int .i64 0))⟩]
@[go_sem] def x_l03_Far_4 : List XO := [
  ⟨(some 14), none, .mv (.t 3)⟩,
  ⟨(some 15), none, .fldA 2 (.tf 1)⟩,
  ⟨(some 16), none, .load false 1 (.tf 15)⟩,
  ⟨(some 17), none, .len false (.t 16)⟩,
  ⟨(some 18), none, .bin .lss .no (.t 14) (.t 17)⟩]
@[go_sem] def x_l03_Far_5 : List XO := [
  ⟨(some 21), none, .fldA 2 (.tf 1)⟩,
  ⟨(some 22), none, .load false 1 (.tf 21)⟩,
  ⟨(some 23), none, .mv (.t 3)⟩,
  ⟨(some 24), none, .ixA 2 (.t 22) (.t 23)⟩,
  ⟨(some 25), none, .fldA 1 (.t 24)⟩,
  ⟨(some 26), none, .load false 1 (.t 25)⟩,
  ⟨(some 27), none, .len false (.t 26)⟩,
  ⟨(some 28), none, .bin .gtr .no (.t 27) (.c (.int .i64 40))⟩]
@[go_sem] def x_l03_Far_6 : List XO := [
  ⟨(some 2), none, .mv (.c (.bool true))⟩]
@[go_sem] def x_l03_Far_7 : List XO := [
  ⟨(some 19), none, .mv (.t 3)⟩,
  ⟨(some 20), none, .bin .add .no (.t 19) (.c (.int .i64 1))⟩,
  ⟨(some 3), none, .mv (.t 20)⟩]
def x_l03_Far_L8 : XCode :=
  (.seq (.seq (.reg x_l03_Far_4) (.cond (.t 18) .skip (.exit 0))) (.seq (.block 1 (.seq (.reg x_l03_Far_5) (.cond (.t 28) (.seq (.reg x_l03_Far_6) .ret) .skip))) (.reg x_l03_Far_7)))
@[go_sem] def x_l03_Far_9 : List XO := [
  ⟨(some 2), none, .mv (.c (.bool false))⟩]
def x_l03_Far : XFunc := { np := 1, res := [.t 2], body :=
  (.seq (.reg x_l03_Far_0) (.seq (.seq (.reg x_l03_Far_1) (.cond (.t 13) (.seq (.reg x_l03_Far_2) .ret) .skip)) (.seq (.seq (.reg x_l03_Far_3) (.block 0 (.loop x_l03_Far_L8))) (.seq (.reg x_l03_Far_9) .ret)))) }

/- newel/newellaw03.works boxF [] frz [] -/
@[go_sem] def x_l03_works_0 : List XO := [
  ⟨(some 0), none, .mv (.c (.bool false))⟩]
@[go_sem] def x_l03_works_1 : List XO := [
  ⟨(some 10), none, .call "newel/newellaw03.Example" []⟩,
  ⟨(some 9), none, .mv (.t 10)⟩,
  ⟨(some 11), none, .ext (.t 9) 0⟩,
  ⟨(some 12), none, .ext (.t 9) 1⟩,
  ⟨(some 1), none, .alloc [(.int .i64 0), (.slice none 0 0), (.slice none 0 0)]⟩,
  ⟨none, none, .store 3 (.t 1) (.t 11)⟩,
  ⟨(some 2), none, .mv (.t 12)⟩]
@[go_sem] def x_l03_works_2 : List XO := [
  ⟨(some 14), none, .load true 3 (.t 1)⟩,
  ⟨(some 15), none, .call "newel/circuit.Pairs" [(.t 14)]⟩,
  ⟨(some 13), none, .mv (.t 15)⟩,
  ⟨(some 16), none, .ext (.t 13) 0⟩,
  ⟨(some 17), none, .ext (.t 13) 1⟩,
  ⟨(some 3), none, .mv (.t 16)⟩,
  ⟨(some 4), none, .mv (.t 17)⟩]
@[go_sem] def x_l03_works_3 : List XO := [
  ⟨(some 19), none, .load true 3 (.t 1)⟩,
  ⟨(some 20), none, .mv (.t 2)⟩,
  ⟨(some 21), none, .bsl 1 [(.c (.int .i64 0))]⟩,
  ⟨(some 22), none, .bsl 1 [(.c (.int .i64 1))]⟩,
  ⟨(some 23), none, .bsl 1 [(.c (.int .i64 2))]⟩,
  ⟨(some 24), none, .bsl 1 [(.c (.int .i64 3))]⟩,
  ⟨(some 25), none, .bsl 1 [(.t 21), (.t 22), (.t 23), (.t 24)]⟩,
  ⟨(some 26), none, .build [(.slice none 0 0), (.int .i64 0)] [(0, 1, (.t 25)), (1, 1, (.c (.int .i64 4)))]⟩,
  ⟨(some 27), none, .call "newel/circuit.CheckRota" [(.t 19), (.t 20), (.t 26)]⟩,
  ⟨(some 18), none, .mv (.t 27)⟩,
  ⟨(some 28), none, .ext (.t 18) 0⟩,
  ⟨(some 29), none, .ext (.t 18) 1⟩,
  ⟨(some 30), none, .ext (.t 18) 2⟩,
  ⟨(some 31), none, .ext (.t 18) 3⟩,
  ⟨(some 5), none, .mv (.t 28)⟩,
  ⟨(some 6), none, .mv (.t 29)⟩,
  ⟨(some 7), none, .mv (.t 30)⟩,
  ⟨(some 8), none, .mv (.t 31)⟩]
@[go_sem] def x_l03_works_4 : List XO := [
  ⟨(some 32), none, .mv (.t 4)⟩,
  ⟨(some 33), none, .bin .eql .no (.t 32) (.c (.int .i64 0))⟩,
  ⟨(some 34), none, .mv (.t 33)⟩,
  ⟨(some 35), (some (34, true)), .mv (.t 8)⟩,
  ⟨(some 36), (some (34, true)), .bin .eql .no (.t 35) (.c (.int .i64 0))⟩,
  ⟨(some 37), none, .pick (.t 34) (.t 36) (.c (.bool false))⟩,
  ⟨(some 38), none, .mv (.t 37)⟩,
  ⟨(some 39), (some (38, true)), .mv (.t 7)⟩,
  ⟨(some 40), none, .pick (.t 38) (.t 39) (.c (.bool false))⟩,
  ⟨(some 41), none, .mv (.t 40)⟩,
  ⟨(some 42), (some (41, true)), .mv (.t 3)⟩,
  ⟨(some 43), (some (41, true)), .len false (.t 42)⟩,
  ⟨(some 44), (some (41, true)), .bin .eql .no (.t 43) (.c (.int .i64 2))⟩,
  ⟨(some 45), none, .pick (.t 41) (.t 44) (.c (.bool false))⟩,
  ⟨(some 46), none, .mv (.t 45)⟩,
  ⟨(some 47), (some (46, true)), .mv (.t 3)⟩,
  ⟨(some 48), (some (46, true)), .ixA 2 (.t 47) (.c (.int .i64 0))⟩,
  ⟨(some 49), (some (46, true)), .load true 2 (.t 48)⟩,
  ⟨(some 50), (some (46, true)), .build [(.int .i64 0), (.int .i64 0)] [(0, 1, (.c (.int .i64 0))), (1, 1, (.c (.int .i64 1)))]⟩,
  ⟨(some 51), (some (46, true)), .bin .eql (.flat [.i, .i]) (.t 49) (.t 50)⟩,
  ⟨(some 52), none, .pick (.t 46) (.t 51) (.c (.bool false))⟩,
  ⟨(some 53), none, .mv (.t 52)⟩,
  ⟨(some 54), (some (53, true)), .mv (.t 3)⟩,
  ⟨(some 55), (some (53, true)), .ixA 2 (.t 54) (.c (.int .i64 1))⟩,
  ⟨(some 56), (some (53, true)), .load true 2 (.t 55)⟩,
  ⟨(some 57), (some (53, true)), .build [(.int .i64 0), (.int .i64 0)] [(0, 1, (.c (.int .i64 2))), (1, 1, (.c (.int .i64 3)))]⟩,
  ⟨(some 58), (some (53, true)), .bin .eql (.flat [.i, .i]) (.t 56) (.t 57)⟩,
  ⟨(some 59), none, .pick (.t 53) (.t 58) (.c (.bool false))⟩,
  ⟨(some 0), none, .mv (.t 59)⟩]
def x_l03_works : XFunc := { np := 0, res := [.t 0], body :=
  (.seq (.reg x_l03_works_0) (.seq (.reg x_l03_works_1) (.seq (.reg x_l03_works_2) (.seq (.reg x_l03_works_3) (.seq (.reg x_l03_works_4) .ret))))) }

/- newel/circuit.Shows boxF [3] frz [] -/
@[go_sem] def x_circuit_Shows_0 : List XO := [
  ⟨(some 3), none, .boxF (.t 0)⟩,
  ⟨(some 6), none, .mv (.c (.slice none 0 0))⟩,
  ⟨(some 7), none, .mv (.c (.int .i64 0))⟩]
@[go_sem] def x_circuit_Shows_1 : List XO := [
  ⟨(some 9), none, .load true 3 (.tf 3)⟩,
  ⟨(some 10), none, .mv (.t 1)⟩,
  ⟨(some 11), none, .call "newel/circuit.check" [(.t 9), (.t 10)]⟩,
  ⟨(some 8), none, .mv (.t 11)⟩]
@[go_sem] def x_circuit_Shows_2 : List XO := [
  ⟨(some 12), none, .mv (.t 8)⟩,
  ⟨(some 13), none, .bin .neq .no (.t 12) (.c (.int .i64 0))⟩]
@[go_sem] def x_circuit_Shows_3 : List XO := [
  ⟨(some 14), none, .mv (.t 8)⟩,
  ⟨(some 6), none, .mv (.c (.slice none 0 0))⟩,
  ⟨(some 7), none, .mv (.t 14)⟩]
@[go_sem] def x_circuit_Shows_4 : List XO := [
  ⟨(some 15), none, .mv (.t 2)⟩,
  ⟨(some 16), none, .bin .lss .no (.t 15) (.c (.int .i64 0))⟩,
  ⟨(some 17), none, .mv (.t 16)⟩,
  ⟨(some 18), (some (17, false)), .mv (.t 2)⟩,
  ⟨(some 19), (some (17, false)), .mv (.t 1)⟩,
  ⟨(some 20), (some (17, false)), .len false (.t 19)⟩,
  ⟨(some 21), (some (17, false)), .bin .geq .no (.t 18) (.t 20)⟩,
  ⟨(some 22), none, .pick (.t 17) (.c (.bool true)) (.t 21)⟩]
@[go_sem] def x_circuit_Shows_5 : List XO := [
  ⟨(some 6), none, .mv (.c (.slice none 0 0))⟩,
  ⟨(some 7), none, .mv (.c (.int .i64 1))⟩]
@[go_sem] def x_circuit_Shows_6 : List XO := [
  ⟨(some 23), none, .load true 3 (.tf 3)⟩,
  ⟨(some 24), none, .mv (.t 1)⟩,
  ⟨(some 25), none, .mv (.t 2)⟩,
  ⟨(some 26), none, .ixA 2 (.t 24) (.t 25)⟩,
  ⟨(some 27), none, .load true 2 (.t 26)⟩,
  ⟨(some 28), none, .call "newel/circuit.shown" [(.t 23), (.t 27)]⟩,
  ⟨(some 29), none, .call "newel/circuit.elements" [(.t 28)]⟩,
  ⟨(some 6), none, .mv (.t 29)⟩,
  ⟨(some 7), none, .mv (.c (.int .i64 0))⟩]
def x_circuit_Shows : XFunc := { np := 3, res := [.t 6, .t 7], body :=
  (.seq (.reg x_circuit_Shows_0) (.seq (.seq (.reg x_circuit_Shows_1) (.seq (.reg x_circuit_Shows_2) (.cond (.t 13) (.seq (.reg x_circuit_Shows_3) .ret) .skip))) (.seq (.seq (.reg x_circuit_Shows_4) (.cond (.t 22) (.seq (.reg x_circuit_Shows_5) .ret) .skip)) (.seq (.reg x_circuit_Shows_6) .ret)))) }

/- newel/newelref03.Shows boxF [3, 27] frz [] -/
@[go_sem] def x_r03_Shows_0 : List XO := [
  ⟨(some 3), none, .boxF (.t 0)⟩,
  ⟨(some 6), none, .mv (.c (.slice none 0 0))⟩,
  ⟨(some 7), none, .mv (.c (.int .i64 0))⟩]
@[go_sem] def x_r03_Shows_1 : List XO := [
  ⟨(some 9), none, .load true 3 (.tf 3)⟩,
  ⟨(some 10), none, .mv (.t 1)⟩,
  ⟨(some 11), none, .call "newel/newelref03.CheckTrials" [(.t 9), (.t 10)]⟩,
  ⟨(some 8), none, .mv (.t 11)⟩]
@[go_sem] def x_r03_Shows_2 : List XO := [
  ⟨(some 12), none, .mv (.t 8)⟩,
  ⟨(some 13), none, .bin .neq .no (.t 12) (.c (.int .i64 0))⟩]
@[go_sem] def x_r03_Shows_3 : List XO := [
  ⟨(some 14), none, .mv (.t 8)⟩,
  ⟨(some 6), none, .mv (.c (.slice none 0 0))⟩,
  ⟨(some 7), none, .mv (.t 14)⟩]
@[go_sem] def x_r03_Shows_4 : List XO := [
  ⟨(some 15), none, .mv (.t 2)⟩,
  ⟨(some 16), none, .mv (.t 1)⟩,
  ⟨(some 17), none, .len false (.t 16)⟩,
  ⟨(some 18), none, .bin .sub .no (.t 17) (.c (.int .i64 1))⟩,
  ⟨(some 19), none, .call "newel/newelref03.within" [(.t 15), (.c (.int .i64 0)), (.t 18)]⟩,
  ⟨(some 20), none, .un .not (.t 19)⟩]
@[go_sem] def x_r03_Shows_5 : List XO := [
  ⟨(some 6), none, .mv (.c (.slice none 0 0))⟩,
  ⟨(some 7), none, .mv (.c (.int .i64 1))⟩]
@[go_sem] def x_r03_Shows_6 : List XO := [
  ⟨(some 21), none, .load true 3 (.tf 3)⟩,
  ⟨(some 22), none, .mv (.t 1)⟩,
  ⟨(some 23), none, .mv (.t 2)⟩,
  ⟨(some 24), none, .ixA 2 (.t 22) (.t 23)⟩,
  ⟨(some 25), none, .load true 2 (.t 24)⟩,
  ⟨(some 26), none, .call "newel/newelref03.shown" [(.t 21), (.t 25)]⟩,
  ⟨(some 27), none, .fldA 1 (.tf 3)⟩,
  ⟨(some 28), none, .load false 1 (.tf 27)⟩,
  ⟨(some 29), none, .len false (.t 28)⟩,
  ⟨(some 30), none, .call "newel/newelref03.members" [(.t 26), (.t 29)]⟩,
  ⟨(some 6), none, .mv (.t 30)⟩,
  ⟨(some 7), none, .mv (.c (.int .i64 0))⟩]
def x_r03_Shows : XFunc := { np := 3, res := [.t 6, .t 7], body :=
  (.seq (.reg x_r03_Shows_0) (.seq (.seq (.reg x_r03_Shows_1) (.seq (.reg x_r03_Shows_2) (.cond (.t 13) (.seq (.reg x_r03_Shows_3) .ret) .skip))) (.seq (.seq (.reg x_r03_Shows_4) (.cond (.t 20) (.seq (.reg x_r03_Shows_5) .ret) .skip)) (.seq (.reg x_r03_Shows_6) .ret)))) }

/- newel/newellaw03.sameInts boxF [] frz [] -/
@[go_sem] def x_l03_sameInts_0 : List XO := [
  ⟨(some 4), none, .mv (.c (.bool false))⟩]
@[go_sem] def x_l03_sameInts_1 : List XO := [
  ⟨(some 6), none, .mv (.t 0)⟩,
  ⟨(some 7), none, .len false (.t 6)⟩,
  ⟨(some 8), none, .mv (.t 1)⟩,
  ⟨(some 9), none, .len false (.t 8)⟩,
  ⟨(some 10), none, .bin .neq .no (.t 7) (.t 9)⟩]
@[go_sem] def x_l03_sameInts_2 : List XO := [
  ⟨(some 4), none, .mv (.c (.bool false))⟩]
@[go_sem] def x_l03_sameInts_3 : List XO := [
  ⟨(some 5), none, .mv (.c (.int .i64 0))⟩]
@[go_sem] def x_l03_sameInts_4 : List XO := [
  ⟨(some 11), none, .mv (.t 5)⟩,
  ⟨(some 12), none, .mv (.t 0)⟩,
  ⟨(some 13), none, .len false (.t 12)⟩,
  ⟨(some 14), none, .bin .lss .no (.t 11) (.t 13)⟩]
@[go_sem] def x_l03_sameInts_5 : List XO := [
  ⟨(some 17), none, .mv (.t 0)⟩,
  ⟨(some 18), none, .mv (.t 5)⟩,
  ⟨(some 19), none, .ixA 1 (.t 17) (.t 18)⟩,
  ⟨(some 20), none, .load false 1 (.t 19)⟩,
  ⟨(some 21), none, .mv (.t 1)⟩,
  ⟨(some 22), none, .mv (.t 5)⟩,
  ⟨(some 23), none, .ixA 1 (.t 21) (.t 22)⟩,
  ⟨(some 24), none, .load false 1 (.t 23)⟩,
  ⟨(some 25), none, .bin .neq .no (.t 20) (.t 24)⟩]
@[go_sem] def x_l03_sameInts_6 : List XO := [
  ⟨(some 4), none, .mv (.c (.bool false))⟩]
@[go_sem] def x_l03_sameInts_7 : List XO := [
  ⟨(some 15), none, .mv (.t 5)⟩,
  ⟨(some 16), none, .bin .add .no (.t 15) (.c (.int .i64 1))⟩,
  ⟨(some 5), none, .mv (.t 16)⟩]
def x_l03_sameInts_L8 : XCode :=
  (.seq (.seq (.reg x_l03_sameInts_4) (.cond (.t 14) .skip (.exit 0))) (.seq (.block 1 (.seq (.reg x_l03_sameInts_5) (.cond (.t 25) (.seq (.reg x_l03_sameInts_6) .ret) .skip))) (.reg x_l03_sameInts_7)))
@[go_sem] def x_l03_sameInts_9 : List XO := [
  ⟨(some 4), none, .mv (.c (.bool true))⟩]
def x_l03_sameInts : XFunc := { np := 2, res := [.t 4], body :=
  (.seq (.reg x_l03_sameInts_0) (.seq (.seq (.reg x_l03_sameInts_1) (.cond (.t 10) (.seq (.reg x_l03_sameInts_2) .ret) .skip)) (.seq (.seq (.reg x_l03_sameInts_3) (.block 0 (.loop x_l03_sameInts_L8))) (.seq (.reg x_l03_sameInts_9) .ret)))) }

/- newel/circuit.Blind boxF [2, 21] frz [] -/
@[go_sem] def x_circuit_Blind_0 : List XO := [
  ⟨(some 2), none, .boxF (.t 0)⟩,
  ⟨(some 4), none, .mv (.c (.slice none 0 0))⟩,
  ⟨(some 5), none, .mv (.c (.int .i64 0))⟩]
@[go_sem] def x_circuit_Blind_1 : List XO := [
  ⟨(some 9), none, .load true 3 (.tf 2)⟩,
  ⟨(some 10), none, .mv (.t 1)⟩,
  ⟨(some 11), none, .call "newel/circuit.check" [(.t 9), (.t 10)]⟩,
  ⟨(some 6), none, .mv (.t 11)⟩]
@[go_sem] def x_circuit_Blind_2 : List XO := [
  ⟨(some 12), none, .mv (.t 6)⟩,
  ⟨(some 13), none, .bin .neq .no (.t 12) (.c (.int .i64 0))⟩]
@[go_sem] def x_circuit_Blind_3 : List XO := [
  ⟨(some 14), none, .mv (.t 6)⟩,
  ⟨(some 4), none, .mv (.c (.slice none 0 0))⟩,
  ⟨(some 5), none, .mv (.t 14)⟩]
@[go_sem] def x_circuit_Blind_4 : List XO := [
  ⟨(some 16), none, .load true 3 (.tf 2)⟩,
  ⟨(some 17), none, .mv (.t 1)⟩,
  ⟨(some 18), none, .call "newel/circuit.all" [(.t 16), (.t 17)]⟩,
  ⟨(some 15), none, .mv (.t 18)⟩,
  ⟨(some 19), none, .ext (.t 15) 0⟩,
  ⟨(some 20), none, .ext (.t 15) 1⟩,
  ⟨(some 7), none, .mv (.t 19)⟩,
  ⟨(some 8), none, .mv (.t 20)⟩]
@[go_sem] def x_circuit_Blind_5 : List XO := [
  ⟨(some 21), none, .fldA 1 (.tf 2)⟩,
  ⟨(some 22), none, .load false 1 (.tf 21)⟩,
  ⟨(some 23), none, .len false (.t 22)⟩,
  ⟨(some 24), none, .bin .shl .no (.c (.int .i64 1)) (.t 23)⟩,
  ⟨(some 25), none, .bin .sub .no (.t 24) (.c (.int .i64 1))⟩,
  ⟨(some 26), none, .mv (.t 8)⟩,
  ⟨(some 27), none, .bin .andNot .no (.t 25) (.t 26)⟩,
  ⟨(some 28), none, .call "newel/circuit.elements" [(.t 27)]⟩,
  ⟨(some 4), none, .mv (.t 28)⟩,
  ⟨(some 5), none, .mv (.c (.int .i64 0))⟩]
def x_circuit_Blind : XFunc := { np := 2, res := [.t 4, .t 5], body :=
  (.seq (.reg x_circuit_Blind_0) (.seq (.seq (.reg x_circuit_Blind_1) (.seq (.reg x_circuit_Blind_2) (.cond (.t 13) (.seq (.reg x_circuit_Blind_3) .ret) .skip))) (.seq (.reg x_circuit_Blind_4) (.seq (.reg x_circuit_Blind_5) .ret)))) }

/- newel/newelref03.Blind boxF [2, 30, 22] frz [] -/
@[go_sem] def x_r03_Blind_0 : List XO := [
  ⟨(some 2), none, .boxF (.t 0)⟩,
  ⟨(some 4), none, .mv (.c (.slice none 0 0))⟩,
  ⟨(some 5), none, .mv (.c (.int .i64 0))⟩]
@[go_sem] def x_r03_Blind_1 : List XO := [
  ⟨(some 8), none, .load true 3 (.tf 2)⟩,
  ⟨(some 9), none, .mv (.t 1)⟩,
  ⟨(some 10), none, .call "newel/newelref03.CheckTrials" [(.t 8), (.t 9)]⟩,
  ⟨(some 6), none, .mv (.t 10)⟩]
@[go_sem] def x_r03_Blind_2 : List XO := [
  ⟨(some 11), none, .mv (.t 6)⟩,
  ⟨(some 12), none, .bin .neq .no (.t 11) (.c (.int .i64 0))⟩]
@[go_sem] def x_r03_Blind_3 : List XO := [
  ⟨(some 13), none, .mv (.t 6)⟩,
  ⟨(some 4), none, .mv (.c (.slice none 0 0))⟩,
  ⟨(some 5), none, .mv (.t 13)⟩]
@[go_sem] def x_r03_Blind_4 : List XO := [
  ⟨(some 14), none, .load true 3 (.tf 2)⟩,
  ⟨(some 15), none, .mv (.t 1)⟩,
  ⟨(some 16), none, .mv (.t 1)⟩,
  ⟨(some 17), none, .len false (.t 16)⟩,
  ⟨(some 18), none, .cvtI .u64 (.t 17)⟩,
  ⟨(some 19), none, .bin .shl .no (.c (.int .i64 1)) (.t 18)⟩,
  ⟨(some 20), none, .bin .sub .no (.t 19) (.c (.int .i64 1))⟩,
  ⟨(some 21), none, .call "newel/newelref03.all" [(.t 14), (.t 15), (.t 20)]⟩,
  ⟨(some 7), none, .mv (.t 21)⟩]
@[go_sem] def x_r03_Blind_5 : List XO := [
  ⟨(some 22), none, .fldA 1 (.tf 2)⟩,
  ⟨(some 23), none, .load false 1 (.tf 22)⟩,
  ⟨(some 24), none, .len false (.t 23)⟩,
  ⟨(some 25), none, .cvtI .u64 (.t 24)⟩,
  ⟨(some 26), none, .bin .shl .no (.c (.int .i64 1)) (.t 25)⟩,
  ⟨(some 27), none, .bin .sub .no (.t 26) (.c (.int .i64 1))⟩,
  ⟨(some 28), none, .mv (.t 7)⟩,
  ⟨(some 29), none, .bin .sub .no (.t 27) (.t 28)⟩,
  ⟨(some 30), none, .fldA 1 (.tf 2)⟩,
  ⟨(some 31), none, .load false 1 (.tf 30)⟩,
  ⟨(some 32), none, .len false (.t 31)⟩,
  ⟨(some 33), none, .call "newel/newelref03.members" [(.t 29), (.t 32)]⟩,
  ⟨(some 4), none, .mv (.t 33)⟩,
  ⟨(some 5), none, .mv (.c (.int .i64 0))⟩]
def x_r03_Blind : XFunc := { np := 2, res := [.t 4, .t 5], body :=
  (.seq (.reg x_r03_Blind_0) (.seq (.seq (.reg x_r03_Blind_1) (.seq (.reg x_r03_Blind_2) (.cond (.t 12) (.seq (.reg x_r03_Blind_3) .ret) .skip))) (.seq (.reg x_r03_Blind_4) (.seq (.reg x_r03_Blind_5) .ret)))) }

/- newel/circuit.Fewest boxF [2] frz [] -/
@[go_sem] def x_circuit_Fewest_0 : List XO := [
  ⟨(some 2), none, .boxF (.t 0)⟩,
  ⟨(some 4), none, .mv (.c (.slice none 0 0))⟩,
  ⟨(some 5), none, .mv (.c (.int .i64 0))⟩]
@[go_sem] def x_circuit_Fewest_1 : List XO := [
  ⟨(some 16), none, .load true 3 (.tf 2)⟩,
  ⟨(some 17), none, .mv (.t 1)⟩,
  ⟨(some 18), none, .call "newel/circuit.check" [(.t 16), (.t 17)]⟩,
  ⟨(some 6), none, .mv (.t 18)⟩]
@[go_sem] def x_circuit_Fewest_2 : List XO := [
  ⟨(some 19), none, .mv (.t 6)⟩,
  ⟨(some 20), none, .bin .neq .no (.t 19) (.c (.int .i64 0))⟩]
@[go_sem] def x_circuit_Fewest_3 : List XO := [
  ⟨(some 21), none, .mv (.t 6)⟩,
  ⟨(some 4), none, .mv (.c (.slice none 0 0))⟩,
  ⟨(some 5), none, .mv (.t 21)⟩]
@[go_sem] def x_circuit_Fewest_4 : List XO := [
  ⟨(some 23), none, .load true 3 (.tf 2)⟩,
  ⟨(some 24), none, .mv (.t 1)⟩,
  ⟨(some 25), none, .call "newel/circuit.all" [(.t 23), (.t 24)]⟩,
  ⟨(some 22), none, .mv (.t 25)⟩,
  ⟨(some 26), none, .ext (.t 22) 0⟩,
  ⟨(some 27), none, .ext (.t 22) 1⟩,
  ⟨(some 7), none, .mv (.t 26)⟩,
  ⟨(some 8), none, .mv (.t 27)⟩]
@[go_sem] def x_circuit_Fewest_5 : List XO := [
  ⟨(some 9), none, .mv (.c (.slice none 0 0))⟩]
@[go_sem] def x_circuit_Fewest_6 : List XO := [
  ⟨(some 10), none, .mv (.c (.bool false))⟩]
@[go_sem] def x_circuit_Fewest_7 : List XO := [
  ⟨(some 28), none, .mv (.t 1)⟩,
  ⟨(some 29), none, .len false (.t 28)⟩,
  ⟨(some 30), none, .bin .shl .no (.c (.int .i64 1)) (.t 29)⟩,
  ⟨(some 31), none, .mv (.c (.int .i64 0))⟩]
@[go_sem] def x_circuit_Fewest_8 : List XO := [
  ⟨(some 32), none, .bin .lss .no (.t 31) (.t 30)⟩]
@[go_sem] def x_circuit_Fewest_9 : List XO := [
  ⟨(some 33), none, .mv (.t 31)⟩,
  ⟨(some 11), none, .mv (.t 33)⟩]
@[go_sem] def x_circuit_Fewest_10 : List XO := [
  ⟨(some 34), none, .mv (.t 11)⟩,
  ⟨(some 35), none, .call "newel/circuit.elements" [(.t 34)]⟩,
  ⟨(some 12), none, .mv (.t 35)⟩,
  ⟨(some 13), none, .mv (.c (.int .i64 0))⟩]
@[go_sem] def x_circuit_Fewest_11 : List XO := [
  ⟨(some 36), none, .mv (.t 12)⟩,
  ⟨(some 37), none, .len false (.t 36)⟩,
  ⟨(some 38), none, .mv (.c (.int .i64 0))⟩]
@[go_sem] def x_circuit_Fewest_12 : List XO := [
  ⟨(some 39), none, .bin .lss .no (.t 38) (.t 37)⟩]
@[go_sem] def x_circuit_Fewest_13 : List XO := [
  ⟨(some 40), none, .ixA 1 (.t 36) (.t 38)⟩,
  ⟨(some 41), none, .load false 1 (.t 40)⟩,
  ⟨(some 15), none, .mv (.t 41)⟩]
@[go_sem] def x_circuit_Fewest_14 : List XO := [
  ⟨(some 42), none, .mv (.t 13)⟩,
  ⟨(some 43), none, .mv (.t 7)⟩,
  ⟨(some 44), none, .mv (.t 15)⟩,
  ⟨(some 45), none, .ixA 1 (.t 43) (.t 44)⟩,
  ⟨(some 46), none, .load false 1 (.t 45)⟩,
  ⟨(some 47), none, .bin .or .no (.t 42) (.t 46)⟩,
  ⟨(some 13), none, .mv (.t 47)⟩]
@[go_sem] def x_circuit_Fewest_15 : List XO := [
  ⟨(some 48), none, .bin .add .no (.t 38) (.c (.int .i64 1))⟩,
  ⟨(some 38), none, .mv (.t 48)⟩]
def x_circuit_Fewest_L16 : XCode :=
  (.seq (.reg x_circuit_Fewest_12) (.seq (.cond (.t 39) .skip (.exit 2)) (.seq (.block 3 (.seq (.reg x_circuit_Fewest_13) (.reg x_circuit_Fewest_14))) (.reg x_circuit_Fewest_15))))
@[go_sem] def x_circuit_Fewest_17 : List XO := [
  ⟨(some 49), none, .mv (.t 13)⟩,
  ⟨(some 50), none, .mv (.t 8)⟩,
  ⟨(some 51), none, .bin .eql .no (.t 49) (.t 50)⟩,
  ⟨(some 52), none, .mv (.t 51)⟩,
  ⟨(some 53), (some (52, true)), .mv (.t 10)⟩,
  ⟨(some 54), (some (52, true)), .un .not (.t 53)⟩,
  ⟨(some 55), (some (52, true)), .mv (.t 54)⟩,
  ⟨(some 56), (some (55, false)), .mv (.t 12)⟩,
  ⟨(some 57), (some (55, false)), .len false (.t 56)⟩,
  ⟨(some 58), (some (55, false)), .mv (.t 9)⟩,
  ⟨(some 59), (some (55, false)), .len false (.t 58)⟩,
  ⟨(some 60), (some (55, false)), .bin .lss .no (.t 57) (.t 59)⟩,
  ⟨(some 61), (some (52, true)), .pick (.t 55) (.c (.bool true)) (.t 60)⟩,
  ⟨(some 62), (some (52, true)), .mv (.t 61)⟩,
  ⟨(some 63), (some (62, false)), .mv (.t 12)⟩,
  ⟨(some 64), (some (62, false)), .len false (.t 63)⟩,
  ⟨(some 65), (some (62, false)), .mv (.t 9)⟩,
  ⟨(some 66), (some (62, false)), .len false (.t 65)⟩,
  ⟨(some 67), (some (62, false)), .bin .eql .no (.t 64) (.t 66)⟩,
  ⟨(some 68), (some (62, false)), .mv (.t 67)⟩,
  ⟨(some 69), (some (68, true)), .mv (.t 12)⟩,
  ⟨(some 70), (some (68, true)), .mv (.t 9)⟩,
  ⟨(some 71), (some (68, true)), .call "slices.Compare[[]int,int]" [(.t 69), (.t 70)]⟩,
  ⟨(some 72), (some (68, true)), .bin .lss .no (.t 71) (.c (.int .i64 0))⟩,
  ⟨(some 73), (some (62, false)), .pick (.t 68) (.t 72) (.c (.bool false))⟩,
  ⟨(some 74), (some (52, true)), .pick (.t 62) (.c (.bool true)) (.t 73)⟩,
  ⟨(some 75), none, .pick (.t 52) (.t 74) (.c (.bool false))⟩]
@[go_sem] def x_circuit_Fewest_18 : List XO := [
  ⟨(some 76), none, .mv (.t 12)⟩,
  ⟨(some 9), none, .mv (.t 76)⟩,
  ⟨(some 10), none, .mv (.c (.bool true))⟩]
@[go_sem] def x_circuit_Fewest_19 : List XO := [
  ⟨(some 77), none, .bin .add .no (.t 31) (.c (.int .i64 1))⟩,
  ⟨(some 31), none, .mv (.t 77)⟩]
def x_circuit_Fewest_L20 : XCode :=
  (.seq (.reg x_circuit_Fewest_8) (.seq (.cond (.t 32) .skip (.exit 0)) (.seq (.block 1 (.seq (.reg x_circuit_Fewest_9) (.seq (.reg x_circuit_Fewest_10) (.seq (.seq (.reg x_circuit_Fewest_11) (.block 2 (.loop x_circuit_Fewest_L16))) (.seq (.reg x_circuit_Fewest_17) (.cond (.t 75) (.reg x_circuit_Fewest_18) .skip)))))) (.reg x_circuit_Fewest_19))))
@[go_sem] def x_circuit_Fewest_21 : List XO := [
  ⟨(some 78), none, .mv (.t 9)⟩,
  ⟨(some 4), none, .mv (.t 78)⟩,
  ⟨(some 5), none, .mv (.c (.int .i64 0))⟩]
def x_circuit_Fewest : XFunc := { np := 2, res := [.t 4, .t 5], body :=
  (.seq (.reg x_circuit_Fewest_0) (.seq (.seq (.reg x_circuit_Fewest_1) (.seq (.reg x_circuit_Fewest_2) (.cond (.t 20) (.seq (.reg x_circuit_Fewest_3) .ret) .skip))) (.seq (.reg x_circuit_Fewest_4) (.seq (.reg x_circuit_Fewest_5) (.seq (.reg x_circuit_Fewest_6) (.seq (.seq (.reg x_circuit_Fewest_7) (.block 0 (.loop x_circuit_Fewest_L20))) (.seq (.reg x_circuit_Fewest_21) .ret))))))) }

/- newel/newelref03.Fewest boxF [2] frz [] -/
@[go_sem] def x_r03_Fewest_0 : List XO := [
  ⟨(some 2), none, .boxF (.t 0)⟩,
  ⟨(some 4), none, .mv (.c (.slice none 0 0))⟩,
  ⟨(some 5), none, .mv (.c (.int .i64 0))⟩]
@[go_sem] def x_r03_Fewest_1 : List XO := [
  ⟨(some 14), none, .load true 3 (.tf 2)⟩,
  ⟨(some 15), none, .mv (.t 1)⟩,
  ⟨(some 16), none, .call "newel/newelref03.CheckTrials" [(.t 14), (.t 15)]⟩,
  ⟨(some 6), none, .mv (.t 16)⟩]
@[go_sem] def x_r03_Fewest_2 : List XO := [
  ⟨(some 17), none, .mv (.t 6)⟩,
  ⟨(some 18), none, .bin .neq .no (.t 17) (.c (.int .i64 0))⟩]
@[go_sem] def x_r03_Fewest_3 : List XO := [
  ⟨(some 19), none, .mv (.t 6)⟩,
  ⟨(some 4), none, .mv (.c (.slice none 0 0))⟩,
  ⟨(some 5), none, .mv (.t 19)⟩]
@[go_sem] def x_r03_Fewest_4 : List XO := [
  ⟨(some 20), none, .mv (.t 1)⟩,
  ⟨(some 21), none, .len false (.t 20)⟩,
  ⟨(some 22), none, .cvtI .u64 (.t 21)⟩,
  ⟨(some 23), none, .bin .shl .no (.c (.int .i64 1)) (.t 22)⟩,
  ⟨(some 24), none, .bin .sub .no (.t 23) (.c (.int .i64 1))⟩,
  ⟨(some 7), none, .mv (.t 24)⟩]
@[go_sem] def x_r03_Fewest_5 : List XO := [
  ⟨(some 25), none, .load true 3 (.tf 2)⟩,
  ⟨(some 26), none, .mv (.t 1)⟩,
  ⟨(some 27), none, .mv (.t 7)⟩,
  ⟨(some 28), none, .call "newel/newelref03.all" [(.t 25), (.t 26), (.t 27)]⟩,
  ⟨(some 8), none, .mv (.t 28)⟩]
@[go_sem] def x_r03_Fewest_6 : List XO := [
  ⟨(some 29), none, .load true 3 (.tf 2)⟩,
  ⟨(some 30), none, .mv (.t 1)⟩,
  ⟨(some 31), none, .call "newel/newelref03.every" [(.t 29), (.t 30)]⟩,
  ⟨(some 9), none, .mv (.t 31)⟩]
@[go_sem] def x_r03_Fewest_7 : List XO := [
  ⟨(some 32), none, .mv (.t 7)⟩,
  ⟨(some 10), none, .mv (.t 32)⟩]
@[go_sem] def x_r03_Fewest_8 : List XO := [
  ⟨(some 11), none, .mv (.c (.int .i64 0))⟩]
@[go_sem] def x_r03_Fewest_9 : List XO := [
  ⟨(some 33), none, .mv (.t 11)⟩,
  ⟨(some 34), none, .mv (.t 7)⟩,
  ⟨(some 35), none, .bin .leq .no (.t 33) (.t 34)⟩]
@[go_sem] def x_r03_Fewest_10 : List XO := [
  ⟨(some 12), none, .mv (.c (.int .i64 0))⟩]
@[go_sem] def x_r03_Fewest_11 : List XO := [
  ⟨(some 13), none, .mv (.c (.int .i64 0))⟩]
@[go_sem] def x_r03_Fewest_12 : List XO := [
  ⟨(some 38), none, .mv (.t 13)⟩,
  ⟨(some 39), none, .mv (.t 1)⟩,
  ⟨(some 40), none, .len false (.t 39)⟩,
  ⟨(some 41), none, .bin .lss .no (.t 38) (.t 40)⟩]
@[go_sem] def x_r03_Fewest_13 : List XO := [
  ⟨(some 44), none, .mv (.t 11)⟩,
  ⟨(some 45), none, .mv (.t 13)⟩,
  ⟨(some 46), none, .cvtI .u64 (.t 45)⟩,
  ⟨(some 47), none, .bin .shr .no (.t 44) (.t 46)⟩,
  ⟨(some 48), none, .bin .and .no (.t 47) (.c (.int .i64 1))⟩,
  ⟨(some 49), none, .bin .eql .no (.t 48) (.c (.int .i64 1))⟩]
@[go_sem] def x_r03_Fewest_14 : List XO := [
  ⟨(some 50), none, .mv (.t 12)⟩,
  ⟨(some 51), none, .mv (.t 9)⟩,
  ⟨(some 52), none, .mv (.t 13)⟩,
  ⟨(some 53), none, .ixA 1 (.t 51) (.t 52)⟩,
  ⟨(some 54), none, .load false 1 (.t 53)⟩,
  ⟨(some 55), none, .bin .or .no (.t 50) (.t 54)⟩,
  ⟨(some 12), none, .mv (.t 55)⟩]
@[go_sem] def x_r03_Fewest_15 : List XO := [
  ⟨(some 42), none, .mv (.t 13)⟩,
  ⟨(some 43), none, .bin .add .no (.t 42) (.c (.int .i64 1))⟩,
  ⟨(some 13), none, .mv (.t 43)⟩]
def x_r03_Fewest_L16 : XCode :=
  (.seq (.seq (.reg x_r03_Fewest_12) (.cond (.t 41) .skip (.exit 2))) (.seq (.block 3 (.seq (.reg x_r03_Fewest_13) (.cond (.t 49) (.reg x_r03_Fewest_14) .skip))) (.reg x_r03_Fewest_15)))
@[go_sem] def x_r03_Fewest_17 : List XO := [
  ⟨(some 56), none, .mv (.t 12)⟩,
  ⟨(some 57), none, .mv (.t 8)⟩,
  ⟨(some 58), none, .bin .neq .no (.t 56) (.t 57)⟩,
  ⟨(some 59), none, .mv (.t 58)⟩,
  ⟨(some 60), (some (59, false)), .mv (.t 11)⟩,
  ⟨(some 61), (some (59, false)), .call "newel/newelref03.Ones" [(.t 60)]⟩,
  ⟨(some 62), (some (59, false)), .mv (.t 10)⟩,
  ⟨(some 63), (some (59, false)), .call "newel/newelref03.Ones" [(.t 62)]⟩,
  ⟨(some 64), (some (59, false)), .bin .gtr .no (.t 61) (.t 63)⟩,
  ⟨(some 65), none, .pick (.t 59) (.c (.bool true)) (.t 64)⟩]
@[go_sem] def x_r03_Fewest_18 : List XO := [
  ⟨(some 66), none, .mv (.t 11)⟩,
  ⟨(some 67), none, .call "newel/newelref03.Ones" [(.t 66)]⟩,
  ⟨(some 68), none, .mv (.t 10)⟩,
  ⟨(some 69), none, .call "newel/newelref03.Ones" [(.t 68)]⟩,
  ⟨(some 70), none, .bin .lss .no (.t 67) (.t 69)⟩,
  ⟨(some 71), none, .mv (.t 70)⟩,
  ⟨(some 72), (some (71, false)), .mv (.t 11)⟩,
  ⟨(some 73), (some (71, false)), .mv (.t 1)⟩,
  ⟨(some 74), (some (71, false)), .len false (.t 73)⟩,
  ⟨(some 75), (some (71, false)), .call "newel/newelref03.members" [(.t 72), (.t 74)]⟩,
  ⟨(some 76), (some (71, false)), .mv (.t 10)⟩,
  ⟨(some 77), (some (71, false)), .mv (.t 1)⟩,
  ⟨(some 78), (some (71, false)), .len false (.t 77)⟩,
  ⟨(some 79), (some (71, false)), .call "newel/newelref03.members" [(.t 76), (.t 78)]⟩,
  ⟨(some 80), (some (71, false)), .call "newel/newelref03.less" [(.t 75), (.t 79)]⟩,
  ⟨(some 81), none, .pick (.t 71) (.c (.bool true)) (.t 80)⟩]
@[go_sem] def x_r03_Fewest_19 : List XO := [
  ⟨(some 82), none, .mv (.t 11)⟩,
  ⟨(some 10), none, .mv (.t 82)⟩]
@[go_sem] def x_r03_Fewest_20 : List XO := [
  ⟨(some 36), none, .mv (.t 11)⟩,
  ⟨(some 37), none, .bin .add .no (.t 36) (.c (.int .i64 1))⟩,
  ⟨(some 11), none, .mv (.t 37)⟩]
def x_r03_Fewest_L21 : XCode :=
  (.seq (.seq (.reg x_r03_Fewest_9) (.cond (.t 35) .skip (.exit 0))) (.seq (.block 1 (.seq (.reg x_r03_Fewest_10) (.seq (.seq (.reg x_r03_Fewest_11) (.block 2 (.loop x_r03_Fewest_L16))) (.seq (.seq (.reg x_r03_Fewest_17) (.cond (.t 65) (.exit 1) .skip)) (.seq (.reg x_r03_Fewest_18) (.cond (.t 81) (.reg x_r03_Fewest_19) .skip)))))) (.reg x_r03_Fewest_20)))
@[go_sem] def x_r03_Fewest_22 : List XO := [
  ⟨(some 83), none, .mv (.t 10)⟩,
  ⟨(some 84), none, .mv (.t 1)⟩,
  ⟨(some 85), none, .len false (.t 84)⟩,
  ⟨(some 86), none, .call "newel/newelref03.members" [(.t 83), (.t 85)]⟩,
  ⟨(some 4), none, .mv (.t 86)⟩,
  ⟨(some 5), none, .mv (.c (.int .i64 0))⟩]
def x_r03_Fewest : XFunc := { np := 2, res := [.t 4, .t 5], body :=
  (.seq (.reg x_r03_Fewest_0) (.seq (.seq (.reg x_r03_Fewest_1) (.seq (.reg x_r03_Fewest_2) (.cond (.t 18) (.seq (.reg x_r03_Fewest_3) .ret) .skip))) (.seq (.reg x_r03_Fewest_4) (.seq (.reg x_r03_Fewest_5) (.seq (.reg x_r03_Fewest_6) (.seq (.reg x_r03_Fewest_7) (.seq (.seq (.reg x_r03_Fewest_8) (.block 0 (.loop x_r03_Fewest_L21))) (.seq (.reg x_r03_Fewest_22) .ret)))))))) }

/- newel/newelref03.CheckTrials boxF [2, 32] frz [] -/
@[go_sem] def x_r03_CheckTrials_0 : List XO := [
  ⟨(some 2), none, .boxF (.t 0)⟩,
  ⟨(some 4), none, .mv (.c (.int .i64 0))⟩]
@[go_sem] def x_r03_CheckTrials_1 : List XO := [
  ⟨(some 6), none, .load true 3 (.tf 2)⟩,
  ⟨(some 7), none, .call "newel/newelref03.Check" [(.t 6)]⟩,
  ⟨(some 8), none, .bin .neq .no (.t 7) (.c (.int .i64 0))⟩]
@[go_sem] def x_r03_CheckTrials_2 : List XO := [
  ⟨(some 4), none, .mv (.c (.int .i64 30))⟩]
@[go_sem] def x_r03_CheckTrials_3 : List XO := [
  ⟨(some 9), none, .mv (.t 1)⟩,
  ⟨(some 10), none, .len false (.t 9)⟩,
  ⟨(some 11), none, .bin .gtr .no (.t 10) (.c (.int .i64 12))⟩]
@[go_sem] def x_r03_CheckTrials_4 : List XO := [
  ⟨(some 4), none, .mv (.c (.int .i64 2))⟩]
@[go_sem] def x_r03_CheckTrials_5 : List XO := [
  ⟨(some 5), none, .mv (.c (.int .i64 0))⟩]
@[go_sem] def x_r03_CheckTrials_6 : List XO := [
  ⟨(some 12), none, .mv (.t 5)⟩,
  ⟨(some 13), none, .mv (.t 1)⟩,
  ⟨(some 14), none, .len false (.t 13)⟩,
  ⟨(some 15), none, .bin .lss .no (.t 12) (.t 14)⟩]
@[go_sem] def x_r03_CheckTrials_7 : List XO := [
  ⟨(some 18), none, .load true 3 (.tf 2)⟩,
  ⟨(some 19), none, .mv (.t 1)⟩,
  ⟨(some 20), none, .mv (.t 5)⟩,
  ⟨(some 21), none, .ixA 2 (.t 19) (.t 20)⟩,
  ⟨(some 22), none, .fldA 0 (.t 21)⟩,
  ⟨(some 23), none, .load false 1 (.t 22)⟩,
  ⟨(some 24), none, .call "newel/newelref03.Hazards" [(.t 18), (.t 23)]⟩,
  ⟨(some 25), none, .un .not (.t 24)⟩,
  ⟨(some 26), none, .mv (.t 25)⟩,
  ⟨(some 27), (some (26, false)), .mv (.t 1)⟩,
  ⟨(some 28), (some (26, false)), .mv (.t 5)⟩,
  ⟨(some 29), (some (26, false)), .ixA 2 (.t 27) (.t 28)⟩,
  ⟨(some 30), (some (26, false)), .fldA 1 (.t 29)⟩,
  ⟨(some 31), (some (26, false)), .load false 1 (.t 30)⟩,
  ⟨(some 32), (some (26, false)), .fldA 2 (.tf 2)⟩,
  ⟨(some 33), (some (26, false)), .load false 1 (.tf 32)⟩,
  ⟨(some 34), (some (26, false)), .len false (.t 33)⟩,
  ⟨(some 35), (some (26, false)), .bin .sub .no (.t 34) (.c (.int .i64 1))⟩,
  ⟨(some 36), (some (26, false)), .call "newel/newelref03.within" [(.t 31), (.c (.int .i64 0)), (.t 35)]⟩,
  ⟨(some 37), (some (26, false)), .un .not (.t 36)⟩,
  ⟨(some 38), none, .pick (.t 26) (.c (.bool true)) (.t 37)⟩]
@[go_sem] def x_r03_CheckTrials_8 : List XO := [
  ⟨(some 4), none, .mv (.c (.int .i64 31))⟩]
@[go_sem] def x_r03_CheckTrials_9 : List XO := [
  ⟨(some 16), none, .mv (.t 5)⟩,
  ⟨(some 17), none, .bin .add .no (.t 16) (.c (.int .i64 1))⟩,
  ⟨(some 5), none, .mv (.t 17)⟩]
def x_r03_CheckTrials_L10 : XCode :=
  (.seq (.seq (.reg x_r03_CheckTrials_6) (.cond (.t 15) .skip (.exit 0))) (.seq (.block 1 (.seq (.reg x_r03_CheckTrials_7) (.cond (.t 38) (.seq (.reg x_r03_CheckTrials_8) .ret) .skip))) (.reg x_r03_CheckTrials_9)))
@[go_sem] def x_r03_CheckTrials_11 : List XO := [
  ⟨(some 4), none, .mv (.c (.int .i64 0))⟩]
def x_r03_CheckTrials : XFunc := { np := 2, res := [.t 4], body :=
  (.seq (.reg x_r03_CheckTrials_0) (.seq (.seq (.reg x_r03_CheckTrials_1) (.cond (.t 8) (.seq (.reg x_r03_CheckTrials_2) .ret) .skip)) (.seq (.seq (.reg x_r03_CheckTrials_3) (.cond (.t 11) (.seq (.reg x_r03_CheckTrials_4) .ret) .skip)) (.seq (.seq (.reg x_r03_CheckTrials_5) (.block 0 (.loop x_r03_CheckTrials_L10))) (.seq (.reg x_r03_CheckTrials_11) .ret))))) }

/- newel/newellaw03.Example boxF [] frz [] -/
@[go_sem] def x_l03_Example_0 : List XO := [
  ⟨(some 0), none, .alloc [(.int .i64 0), (.slice none 0 0), (.slice none 0 0)]⟩,
  ⟨(some 1), none, .mv (.c (.slice none 0 0))⟩]
@[go_sem] def x_l03_Example_1 : List XO := [
  ⟨(some 3), none, .bsl 1 [(.c (.int .i64 1)), (.c (.int .i64 1)), (.c (.int .i64 2)), (.c (.int .i64 2))]⟩,
  ⟨(some 4), none, .bsl 1 [(.c (.int .i64 1)), (.c (.int .i64 2)), (.c (.int .i64 3)), (.c (.int .i64 4))]⟩,
  ⟨(some 5), none, .build [(.int .i64 0), (.slice none 0 0)] [(0, 1, (.c (.int .i64 2))), (1, 1, (.t 4))]⟩,
  ⟨(some 6), none, .bsl 1 [(.c (.int .i64 0))]⟩,
  ⟨(some 7), none, .build [(.int .i64 0), (.slice none 0 0)] [(0, 1, (.c (.int .i64 1))), (1, 1, (.t 6))]⟩,
  ⟨(some 8), none, .bsl 1 [(.c (.int .i64 1))]⟩,
  ⟨(some 9), none, .build [(.int .i64 0), (.slice none 0 0)] [(0, 1, (.c (.int .i64 1))), (1, 1, (.t 8))]⟩,
  ⟨(some 10), none, .bsl 1 [(.c (.int .i64 2))]⟩,
  ⟨(some 11), none, .build [(.int .i64 0), (.slice none 0 0)] [(0, 1, (.c (.int .i64 1))), (1, 1, (.t 10))]⟩,
  ⟨(some 12), none, .bsl 1 [(.c (.int .i64 3))]⟩,
  ⟨(some 13), none, .build [(.int .i64 0), (.slice none 0 0)] [(0, 1, (.c (.int .i64 1))), (1, 1, (.t 12))]⟩,
  ⟨(some 14), none, .bsl 2 [(.t 5), (.t 7), (.t 9), (.t 11), (.t 13)]⟩,
  ⟨(some 15), none, .build [(.int .i64 0), (.slice none 0 0), (.slice none 0 0)] [(0, 1, (.c (.int .i64 2))), (1, 1, (.t 3)), (2, 1, (.t 14))]⟩,
  ⟨(some 2), none, .alloc [(.int .i64 0), (.slice none 0 0), (.slice none 0 0)]⟩,
  ⟨none, none, .store 3 (.t 2) (.t 15)⟩]
@[go_sem] def x_l03_Example_2 : List XO := [
  ⟨(some 16), none, .load true 3 (.t 2)⟩,
  ⟨(some 17), none, .build [(.int .i64 0), (.int .i64 0)] [(0, 1, (.c (.int .i64 1))), (1, 1, (.c (.int .i64 1)))]⟩,
  ⟨(some 18), none, .build [(.int .i64 0), (.int .i64 0)] [(0, 1, (.c (.int .i64 1))), (1, 1, (.c (.int .i64 2)))]⟩,
  ⟨(some 19), none, .build [(.int .i64 0), (.int .i64 0)] [(0, 1, (.c (.int .i64 2))), (1, 1, (.c (.int .i64 3)))]⟩,
  ⟨(some 20), none, .build [(.int .i64 0), (.int .i64 0)] [(0, 1, (.c (.int .i64 2))), (1, 1, (.c (.int .i64 4)))]⟩,
  ⟨(some 21), none, .bsl 2 [(.t 17), (.t 18), (.t 19), (.t 20)]⟩,
  ⟨none, none, .store 3 (.t 0) (.t 16)⟩,
  ⟨(some 1), none, .mv (.t 21)⟩]
def x_l03_Example : XFunc := { np := 0, res := [.cell 0 true 3, .t 1], body :=
  (.seq (.reg x_l03_Example_0) (.seq (.reg x_l03_Example_1) (.seq (.reg x_l03_Example_2) .ret))) }

/- newel/circuit.Pairs boxF [1, 26, 17] frz [] -/
@[go_sem] def x_circuit_Pairs_0 : List XO := [
  ⟨(some 1), none, .boxF (.t 0)⟩,
  ⟨(some 2), none, .mv (.c (.slice none 0 0))⟩,
  ⟨(some 3), none, .mv (.c (.int .i64 0))⟩]
@[go_sem] def x_circuit_Pairs_1 : List XO := [
  ⟨(some 10), none, .load true 3 (.tf 1)⟩,
  ⟨(some 11), none, .call "newel/circuit.Critical" [(.t 10)]⟩,
  ⟨(some 9), none, .mv (.t 11)⟩,
  ⟨(some 12), none, .ext (.t 9) 0⟩,
  ⟨(some 13), none, .ext (.t 9) 1⟩,
  ⟨(some 4), none, .mv (.t 12)⟩,
  ⟨(some 5), none, .mv (.t 13)⟩]
@[go_sem] def x_circuit_Pairs_2 : List XO := [
  ⟨(some 14), none, .mv (.t 5)⟩,
  ⟨(some 15), none, .bin .neq .no (.t 14) (.c (.int .i64 0))⟩]
@[go_sem] def x_circuit_Pairs_3 : List XO := [
  ⟨(some 16), none, .mv (.t 5)⟩,
  ⟨(some 2), none, .mv (.c (.slice none 0 0))⟩,
  ⟨(some 3), none, .mv (.t 16)⟩]
@[go_sem] def x_circuit_Pairs_4 : List XO := [
  ⟨(some 6), none, .mv (.c (.slice none 0 0))⟩]
@[go_sem] def x_circuit_Pairs_5 : List XO := [
  ⟨(some 17), none, .fldA 1 (.tf 1)⟩,
  ⟨(some 18), none, .load false 1 (.tf 17)⟩,
  ⟨(some 19), none, .len false (.t 18)⟩,
  ⟨(some 20), none, .mv (.c (.int .i64 0))⟩]
@[go_sem] def x_circuit_Pairs_6 : List XO := [
  ⟨(some 21), none, .bin .lss .no (.t 20) (.t 19)⟩]
@[go_sem] def x_circuit_Pairs_7 : List XO := [
  ⟨(some 22), none, .mv (.t 20)⟩,
  ⟨(some 7), none, .mv (.t 22)⟩]
@[go_sem] def x_circuit_Pairs_8 : List XO := [
  ⟨(some 23), none, .mv (.t 7)⟩,
  ⟨(some 24), none, .bin .add .no (.t 23) (.c (.int .i64 1))⟩,
  ⟨(some 8), none, .mv (.t 24)⟩]
@[go_sem] def x_circuit_Pairs_9 : List XO := [
  ⟨(some 25), none, .mv (.t 8)⟩,
  ⟨(some 26), none, .fldA 1 (.tf 1)⟩,
  ⟨(some 27), none, .load false 1 (.tf 26)⟩,
  ⟨(some 28), none, .len false (.t 27)⟩,
  ⟨(some 29), none, .bin .lss .no (.t 25) (.t 28)⟩]
@[go_sem] def x_circuit_Pairs_10 : List XO := [
  ⟨(some 32), none, .mv (.t 4)⟩,
  ⟨(some 33), none, .mv (.t 7)⟩,
  ⟨(some 34), none, .call "slices.Contains[[]int,int]" [(.t 32), (.t 33)]⟩,
  ⟨(some 35), none, .un .not (.t 34)⟩,
  ⟨(some 36), none, .mv (.t 35)⟩,
  ⟨(some 37), (some (36, true)), .mv (.t 4)⟩,
  ⟨(some 38), (some (36, true)), .mv (.t 8)⟩,
  ⟨(some 39), (some (36, true)), .call "slices.Contains[[]int,int]" [(.t 37), (.t 38)]⟩,
  ⟨(some 40), (some (36, true)), .un .not (.t 39)⟩,
  ⟨(some 41), none, .pick (.t 36) (.t 40) (.c (.bool false))⟩,
  ⟨(some 42), none, .mv (.t 41)⟩,
  ⟨(some 43), (some (42, true)), .load true 3 (.tf 1)⟩,
  ⟨(some 44), (some (42, true)), .mv (.t 7)⟩,
  ⟨(some 45), (some (42, true)), .bin .shl .no (.c (.int .i64 1)) (.t 44)⟩,
  ⟨(some 46), (some (42, true)), .mv (.t 8)⟩,
  ⟨(some 47), (some (42, true)), .bin .shl .no (.c (.int .i64 1)) (.t 46)⟩,
  ⟨(some 48), (some (42, true)), .bin .or .no (.t 45) (.t 47)⟩,
  ⟨(some 49), (some (42, true)), .call "newel/circuit.weak" [(.t 43), (.t 48)]⟩,
  ⟨(some 50), (some (42, true)), .len false (.t 49)⟩,
  ⟨(some 51), (some (42, true)), .bin .gtr .no (.t 50) (.c (.int .i64 0))⟩,
  ⟨(some 52), none, .pick (.t 42) (.t 51) (.c (.bool false))⟩]
@[go_sem] def x_circuit_Pairs_11 : List XO := [
  ⟨(some 53), none, .mv (.t 6)⟩,
  ⟨(some 54), none, .mv (.t 7)⟩,
  ⟨(some 55), none, .mv (.t 8)⟩,
  ⟨(some 56), none, .build [(.int .i64 0), (.int .i64 0)] [(0, 1, (.t 54)), (1, 1, (.t 55))]⟩,
  ⟨(some 57), none, .bsl 2 [(.t 56)]⟩,
  ⟨(some 58), none, .app 2 16 (.t 53) (.t 57)⟩,
  ⟨(some 6), none, .mv (.t 58)⟩]
@[go_sem] def x_circuit_Pairs_12 : List XO := [
  ⟨(some 30), none, .mv (.t 8)⟩,
  ⟨(some 31), none, .bin .add .no (.t 30) (.c (.int .i64 1))⟩,
  ⟨(some 8), none, .mv (.t 31)⟩]
def x_circuit_Pairs_L13 : XCode :=
  (.seq (.seq (.reg x_circuit_Pairs_9) (.cond (.t 29) .skip (.exit 2))) (.seq (.block 3 (.seq (.reg x_circuit_Pairs_10) (.cond (.t 52) (.reg x_circuit_Pairs_11) .skip))) (.reg x_circuit_Pairs_12)))
@[go_sem] def x_circuit_Pairs_14 : List XO := [
  ⟨(some 59), none, .bin .add .no (.t 20) (.c (.int .i64 1))⟩,
  ⟨(some 20), none, .mv (.t 59)⟩]
def x_circuit_Pairs_L15 : XCode :=
  (.seq (.reg x_circuit_Pairs_6) (.seq (.cond (.t 21) .skip (.exit 0)) (.seq (.block 1 (.seq (.reg x_circuit_Pairs_7) (.seq (.reg x_circuit_Pairs_8) (.block 2 (.loop x_circuit_Pairs_L13))))) (.reg x_circuit_Pairs_14))))
@[go_sem] def x_circuit_Pairs_16 : List XO := [
  ⟨(some 60), none, .mv (.t 6)⟩,
  ⟨(some 2), none, .mv (.t 60)⟩,
  ⟨(some 3), none, .mv (.c (.int .i64 0))⟩]
def x_circuit_Pairs : XFunc := { np := 1, res := [.t 2, .t 3], body :=
  (.seq (.reg x_circuit_Pairs_0) (.seq (.reg x_circuit_Pairs_1) (.seq (.seq (.reg x_circuit_Pairs_2) (.cond (.t 15) (.seq (.reg x_circuit_Pairs_3) .ret) .skip)) (.seq (.reg x_circuit_Pairs_4) (.seq (.seq (.reg x_circuit_Pairs_5) (.block 0 (.loop x_circuit_Pairs_L15))) (.seq (.reg x_circuit_Pairs_16) .ret)))))) }

/- newel/circuit.CheckRota boxF [5, 64, 34, 30, 3, 61] frz [] -/
@[go_sem] def x_circuit_CheckRota_0 : List XO := [
  ⟨(some 3), none, .boxF (.t 0)⟩,
  ⟨(some 5), none, .boxF (.t 2)⟩,
  ⟨(some 6), none, .mv (.c (.int .i64 0))⟩,
  ⟨(some 7), none, .mv (.c (.int .i64 0))⟩,
  ⟨(some 8), none, .mv (.c (.bool false))⟩,
  ⟨(some 9), none, .mv (.c (.int .i64 0))⟩]
@[go_sem] def x_circuit_CheckRota_1 : List XO := [
  ⟨(some 17), none, .load true 3 (.tf 3)⟩,
  ⟨(some 18), none, .mv (.t 1)⟩,
  ⟨(some 19), none, .load true 2 (.tf 5)⟩,
  ⟨(some 20), none, .call "newel/circuit.checkRota" [(.t 17), (.t 18), (.t 19)]⟩,
  ⟨(some 9), none, .mv (.t 20)⟩]
@[go_sem] def x_circuit_CheckRota_2 : List XO := [
  ⟨(some 21), none, .mv (.t 9)⟩,
  ⟨(some 22), none, .bin .neq .no (.t 21) (.c (.int .i64 0))⟩]
@[go_sem] def x_circuit_CheckRota_3 : List XO := [
  ⟨(some 23), none, .mv (.t 9)⟩,
  ⟨(some 6), none, .mv (.c (.int .i64 0))⟩,
  ⟨(some 7), none, .mv (.c (.int .i64 0))⟩,
  ⟨(some 8), none, .mv (.c (.bool false))⟩,
  ⟨(some 9), none, .mv (.t 23)⟩]
@[go_sem] def x_circuit_CheckRota_4 : List XO := [
  ⟨(some 25), none, .load true 3 (.tf 3)⟩,
  ⟨(some 26), none, .mv (.t 1)⟩,
  ⟨(some 27), none, .call "newel/circuit.all" [(.t 25), (.t 26)]⟩,
  ⟨(some 24), none, .mv (.t 27)⟩,
  ⟨(some 28), none, .ext (.t 24) 0⟩,
  ⟨(some 29), none, .ext (.t 24) 1⟩,
  ⟨(some 10), none, .mv (.t 28)⟩,
  ⟨(some 11), none, .mv (.t 29)⟩]
@[go_sem] def x_circuit_CheckRota_5 : List XO := [
  ⟨(some 30), none, .fldA 0 (.tf 5)⟩,
  ⟨(some 31), none, .load false 1 (.tf 30)⟩,
  ⟨(some 32), none, .len false (.t 31)⟩,
  ⟨(some 33), none, .mksl 1 [(.int .i64 0)] 8 (.t 32) (.t 32)⟩,
  ⟨(some 12), none, .mv (.t 33)⟩]
@[go_sem] def x_circuit_CheckRota_6 : List XO := [
  ⟨(some 34), none, .fldA 0 (.tf 5)⟩,
  ⟨(some 35), none, .load false 1 (.tf 34)⟩,
  ⟨(some 36), none, .len false (.t 35)⟩,
  ⟨(some 37), none, .mv (.c (.int .i64 0))⟩]
@[go_sem] def x_circuit_CheckRota_7 : List XO := [
  ⟨(some 38), none, .bin .lss .no (.t 37) (.t 36)⟩]
@[go_sem] def x_circuit_CheckRota_8 : List XO := [
  ⟨(some 39), none, .mv (.t 37)⟩,
  ⟨(some 40), none, .ixA 1 (.t 35) (.t 37)⟩,
  ⟨(some 41), none, .load false 1 (.t 40)⟩,
  ⟨(some 13), none, .mv (.t 39)⟩,
  ⟨(some 14), none, .mv (.t 41)⟩]
@[go_sem] def x_circuit_CheckRota_9 : List XO := [
  ⟨(some 42), none, .mv (.t 14)⟩,
  ⟨(some 43), none, .len false (.t 42)⟩,
  ⟨(some 44), none, .mv (.c (.int .i64 0))⟩]
@[go_sem] def x_circuit_CheckRota_10 : List XO := [
  ⟨(some 45), none, .bin .lss .no (.t 44) (.t 43)⟩]
@[go_sem] def x_circuit_CheckRota_11 : List XO := [
  ⟨(some 46), none, .ixA 1 (.t 42) (.t 44)⟩,
  ⟨(some 47), none, .load false 1 (.t 46)⟩,
  ⟨(some 16), none, .mv (.t 47)⟩]
@[go_sem] def x_circuit_CheckRota_12 : List XO := [
  ⟨(some 48), none, .mv (.t 12)⟩,
  ⟨(some 49), none, .mv (.t 13)⟩,
  ⟨(some 50), none, .ixA 1 (.t 48) (.t 49)⟩,
  ⟨(some 51), none, .load false 1 (.t 50)⟩,
  ⟨(some 52), none, .mv (.t 10)⟩,
  ⟨(some 53), none, .mv (.t 16)⟩,
  ⟨(some 54), none, .ixA 1 (.t 52) (.t 53)⟩,
  ⟨(some 55), none, .load false 1 (.t 54)⟩,
  ⟨(some 56), none, .bin .or .no (.t 51) (.t 55)⟩,
  ⟨(some 57), none, .ixA 1 (.t 48) (.t 49)⟩,
  ⟨none, none, .store 1 (.t 57) (.t 56)⟩]
@[go_sem] def x_circuit_CheckRota_13 : List XO := [
  ⟨(some 58), none, .bin .add .no (.t 44) (.c (.int .i64 1))⟩,
  ⟨(some 44), none, .mv (.t 58)⟩]
def x_circuit_CheckRota_L14 : XCode :=
  (.seq (.reg x_circuit_CheckRota_10) (.seq (.cond (.t 45) .skip (.exit 2)) (.seq (.block 3 (.seq (.reg x_circuit_CheckRota_11) (.reg x_circuit_CheckRota_12))) (.reg x_circuit_CheckRota_13))))
@[go_sem] def x_circuit_CheckRota_15 : List XO := [
  ⟨(some 59), none, .bin .add .no (.t 37) (.c (.int .i64 1))⟩,
  ⟨(some 37), none, .mv (.t 59)⟩]
def x_circuit_CheckRota_L16 : XCode :=
  (.seq (.reg x_circuit_CheckRota_7) (.seq (.cond (.t 38) .skip (.exit 0)) (.seq (.block 1 (.seq (.reg x_circuit_CheckRota_8) (.seq (.reg x_circuit_CheckRota_9) (.block 2 (.loop x_circuit_CheckRota_L14))))) (.reg x_circuit_CheckRota_15))))
@[go_sem] def x_circuit_CheckRota_17 : List XO := [
  ⟨(some 61), none, .fldA 1 (.tf 3)⟩,
  ⟨(some 62), none, .load false 1 (.tf 61)⟩,
  ⟨(some 63), none, .len false (.t 62)⟩,
  ⟨(some 64), none, .fldA 1 (.tf 5)⟩,
  ⟨(some 65), none, .load false 1 (.tf 64)⟩,
  ⟨(some 66), none, .mv (.t 12)⟩,
  ⟨(some 67), none, .call "newel/circuit.gap" [(.t 63), (.t 65), (.t 66)]⟩,
  ⟨(some 60), none, .mv (.t 67)⟩,
  ⟨(some 68), none, .ext (.t 60) 0⟩,
  ⟨(some 69), none, .ext (.t 60) 1⟩,
  ⟨(some 70), none, .ext (.t 60) 2⟩,
  ⟨(some 6), none, .mv (.t 68)⟩,
  ⟨(some 7), none, .mv (.t 69)⟩,
  ⟨(some 8), none, .mv (.t 70)⟩]
@[go_sem] def x_circuit_CheckRota_18 : List XO := [
  ⟨(some 71), none, .mv (.t 6)⟩,
  ⟨(some 72), none, .mv (.t 7)⟩,
  ⟨(some 73), none, .mv (.t 8)⟩,
  ⟨(some 6), none, .mv (.t 71)⟩,
  ⟨(some 7), none, .mv (.t 72)⟩,
  ⟨(some 8), none, .mv (.t 73)⟩,
  ⟨(some 9), none, .mv (.c (.int .i64 0))⟩]
def x_circuit_CheckRota : XFunc := { np := 3, res := [.t 6, .t 7, .t 8, .t 9], body :=
  (.seq (.reg x_circuit_CheckRota_0) (.seq (.seq (.reg x_circuit_CheckRota_1) (.seq (.reg x_circuit_CheckRota_2) (.cond (.t 22) (.seq (.reg x_circuit_CheckRota_3) .ret) .skip))) (.seq (.reg x_circuit_CheckRota_4) (.seq (.reg x_circuit_CheckRota_5) (.seq (.seq (.reg x_circuit_CheckRota_6) (.block 0 (.loop x_circuit_CheckRota_L16))) (.seq (.reg x_circuit_CheckRota_17) (.seq (.reg x_circuit_CheckRota_18) .ret))))))) }

/- newel/circuit.check boxF [2, 36, 24] frz [] -/
@[go_sem] def x_circuit_check_0 : List XO := [
  ⟨(some 2), none, .boxF (.t 0)⟩,
  ⟨(some 4), none, .mv (.c (.int .i64 0))⟩]
@[go_sem] def x_circuit_check_1 : List XO := [
  ⟨(some 8), none, .load true 3 (.tf 2)⟩,
  ⟨(some 9), none, .call "newel/circuit.Check" [(.t 8)]⟩,
  ⟨(some 5), none, .mv (.t 9)⟩]
@[go_sem] def x_circuit_check_2 : List XO := [
  ⟨(some 10), none, .mv (.t 5)⟩,
  ⟨(some 11), none, .bin .neq .no (.t 10) (.c (.int .i64 0))⟩]
@[go_sem] def x_circuit_check_3 : List XO := [
  ⟨(some 12), none, .mv (.t 5)⟩,
  ⟨(some 4), none, .mv (.t 12)⟩]
@[go_sem] def x_circuit_check_4 : List XO := [
  ⟨(some 13), none, .mv (.t 1)⟩,
  ⟨(some 14), none, .len false (.t 13)⟩,
  ⟨(some 15), none, .bin .gtr .no (.t 14) (.c (.int .i64 12))⟩]
@[go_sem] def x_circuit_check_5 : List XO := [
  ⟨(some 4), none, .mv (.c (.int .i64 2))⟩]
@[go_sem] def x_circuit_check_6 : List XO := [
  ⟨(some 16), none, .mv (.t 1)⟩,
  ⟨(some 17), none, .len false (.t 16)⟩,
  ⟨(some 18), none, .mv (.c (.int .i64 0))⟩]
@[go_sem] def x_circuit_check_7 : List XO := [
  ⟨(some 19), none, .bin .lss .no (.t 18) (.t 17)⟩]
@[go_sem] def x_circuit_check_8 : List XO := [
  ⟨(some 20), none, .ixA 2 (.t 16) (.t 18)⟩,
  ⟨(some 21), none, .load true 2 (.t 20)⟩,
  ⟨(some 7), none, .alloc [(.int .i64 0), (.int .i64 0)]⟩,
  ⟨none, none, .store 2 (.t 7) (.t 21)⟩]
@[go_sem] def x_circuit_check_9 : List XO := [
  ⟨(some 22), none, .fldA 0 (.t 7)⟩,
  ⟨(some 23), none, .load false 1 (.t 22)⟩,
  ⟨(some 24), none, .fldA 0 (.tf 2)⟩,
  ⟨(some 25), none, .load false 1 (.tf 24)⟩,
  ⟨(some 26), none, .call "newel/circuit.isSet" [(.t 23), (.t 25)]⟩,
  ⟨(some 27), none, .un .not (.t 26)⟩,
  ⟨(some 28), none, .mv (.t 27)⟩,
  ⟨(some 29), (some (28, false)), .fldA 1 (.t 7)⟩,
  ⟨(some 30), (some (28, false)), .load false 1 (.t 29)⟩,
  ⟨(some 31), (some (28, false)), .bin .lss .no (.t 30) (.c (.int .i64 0))⟩,
  ⟨(some 32), none, .pick (.t 28) (.c (.bool true)) (.t 31)⟩,
  ⟨(some 33), none, .mv (.t 32)⟩,
  ⟨(some 34), (some (33, false)), .fldA 1 (.t 7)⟩,
  ⟨(some 35), (some (33, false)), .load false 1 (.t 34)⟩,
  ⟨(some 36), (some (33, false)), .fldA 2 (.tf 2)⟩,
  ⟨(some 37), (some (33, false)), .load false 1 (.tf 36)⟩,
  ⟨(some 38), (some (33, false)), .len false (.t 37)⟩,
  ⟨(some 39), (some (33, false)), .bin .geq .no (.t 35) (.t 38)⟩,
  ⟨(some 40), none, .pick (.t 33) (.c (.bool true)) (.t 39)⟩]
@[go_sem] def x_circuit_check_10 : List XO := [
  ⟨(some 4), none, .mv (.c (.int .i64 31))⟩]
@[go_sem] def x_circuit_check_11 : List XO := [
  ⟨(some 41), none, .bin .add .no (.t 18) (.c (.int .i64 1))⟩,
  ⟨(some 18), none, .mv (.t 41)⟩]
def x_circuit_check_L12 : XCode :=
  (.seq (.reg x_circuit_check_7) (.seq (.cond (.t 19) .skip (.exit 0)) (.seq (.block 1 (.seq (.reg x_circuit_check_8) (.seq (.reg x_circuit_check_9) (.cond (.t 40) (.seq (.reg x_circuit_check_10) .ret) .skip)))) (.reg x_circuit_check_11))))
@[go_sem] def x_circuit_check_13 : List XO := [
  ⟨(some 4), none, .mv (.c (.int .i64 0))⟩]
def x_circuit_check : XFunc := { np := 2, res := [.t 4], body :=
  (.seq (.reg x_circuit_check_0) (.seq (.seq (.reg x_circuit_check_1) (.seq (.reg x_circuit_check_2) (.cond (.t 11) (.seq (.reg x_circuit_check_3) .ret) .skip))) (.seq (.seq (.reg x_circuit_check_4) (.cond (.t 15) (.seq (.reg x_circuit_check_5) .ret) .skip)) (.seq (.seq (.reg x_circuit_check_6) (.block 0 (.loop x_circuit_check_L12))) (.seq (.reg x_circuit_check_13) .ret))))) }

/- newel/circuit.elements boxF [] frz [] -/
@[go_sem] def x_circuit_elements_0 : List XO := [
  ⟨(some 2), none, .mv (.c (.slice none 0 0))⟩]
@[go_sem] def x_circuit_elements_1 : List XO := [
  ⟨(some 3), none, .mv (.t 0)⟩,
  ⟨(some 4), none, .bin .neq .no (.t 3) (.c (.int .i64 0))⟩]
@[go_sem] def x_circuit_elements_2 : List XO := [
  ⟨(some 9), none, .mv (.t 2)⟩,
  ⟨(some 10), none, .mv (.t 0)⟩,
  ⟨(some 11), none, .cvtI .u64 (.t 10)⟩,
  ⟨(some 12), none, .call "math/bits.TrailingZeros" [(.t 11)]⟩,
  ⟨(some 13), none, .bsl 1 [(.t 12)]⟩,
  ⟨(some 14), none, .app 1 8 (.t 9) (.t 13)⟩,
  ⟨(some 2), none, .mv (.t 14)⟩]
@[go_sem] def x_circuit_elements_3 : List XO := [
  ⟨(some 5), none, .mv (.t 0)⟩,
  ⟨(some 6), none, .mv (.t 0)⟩,
  ⟨(some 7), none, .bin .sub .no (.t 6) (.c (.int .i64 1))⟩,
  ⟨(some 8), none, .bin .and .no (.t 5) (.t 7)⟩,
  ⟨(some 0), none, .mv (.t 8)⟩]
def x_circuit_elements_L4 : XCode :=
  (.seq (.seq (.reg x_circuit_elements_1) (.cond (.t 4) .skip (.exit 0))) (.seq (.block 1 (.reg x_circuit_elements_2)) (.reg x_circuit_elements_3)))
@[go_sem] def x_circuit_elements_5 : List XO := [
  ⟨(some 15), none, .mv (.t 2)⟩,
  ⟨(some 2), none, .mv (.t 15)⟩]
def x_circuit_elements : XFunc := { np := 1, res := [.t 2], body :=
  (.seq (.reg x_circuit_elements_0) (.seq (.block 0 (.loop x_circuit_elements_L4)) (.seq (.reg x_circuit_elements_5) .ret))) }

/- newel/circuit.shown boxF [3, 2, 6] frz [] -/
@[go_sem] def x_circuit_shown_0 : List XO := [
  ⟨(some 2), none, .boxF (.t 0)⟩,
  ⟨(some 3), none, .boxF (.t 1)⟩,
  ⟨(some 4), none, .mv (.c (.int .i64 0))⟩]
@[go_sem] def x_circuit_shown_1 : List XO := [
  ⟨(some 6), none, .fldA 1 (.tf 2)⟩,
  ⟨(some 7), none, .load false 1 (.tf 6)⟩,
  ⟨(some 8), none, .len false (.t 7)⟩,
  ⟨(some 9), none, .mv (.c (.int .i64 0))⟩]
@[go_sem] def x_circuit_shown_2 : List XO := [
  ⟨(some 10), none, .bin .lss .no (.t 9) (.t 8)⟩]
@[go_sem] def x_circuit_shown_3 : List XO := [
  ⟨(some 11), none, .mv (.t 9)⟩,
  ⟨(some 5), none, .mv (.t 11)⟩]
@[go_sem] def x_circuit_shown_4 : List XO := [
  ⟨(some 12), none, .load true 3 (.tf 2)⟩,
  ⟨(some 13), none, .load true 2 (.tf 3)⟩,
  ⟨(some 14), none, .mv (.t 5)⟩,
  ⟨(some 15), none, .bin .shl .no (.c (.int .i64 1)) (.t 14)⟩,
  ⟨(some 16), none, .call "newel/circuit.shows" [(.t 12), (.t 13), (.t 15)]⟩]
@[go_sem] def x_circuit_shown_5 : List XO := [
  ⟨(some 17), none, .mv (.t 4)⟩,
  ⟨(some 18), none, .mv (.t 5)⟩,
  ⟨(some 19), none, .bin .shl .no (.c (.int .i64 1)) (.t 18)⟩,
  ⟨(some 20), none, .bin .or .no (.t 17) (.t 19)⟩,
  ⟨(some 4), none, .mv (.t 20)⟩]
@[go_sem] def x_circuit_shown_6 : List XO := [
  ⟨(some 21), none, .bin .add .no (.t 9) (.c (.int .i64 1))⟩,
  ⟨(some 9), none, .mv (.t 21)⟩]
def x_circuit_shown_L7 : XCode :=
  (.seq (.reg x_circuit_shown_2) (.seq (.cond (.t 10) .skip (.exit 0)) (.seq (.block 1 (.seq (.reg x_circuit_shown_3) (.seq (.reg x_circuit_shown_4) (.cond (.t 16) (.reg x_circuit_shown_5) .skip)))) (.reg x_circuit_shown_6))))
@[go_sem] def x_circuit_shown_8 : List XO := [
  ⟨(some 22), none, .mv (.t 4)⟩,
  ⟨(some 4), none, .mv (.t 22)⟩]
def x_circuit_shown : XFunc := { np := 2, res := [.t 4], body :=
  (.seq (.reg x_circuit_shown_0) (.seq (.seq (.reg x_circuit_shown_1) (.block 0 (.loop x_circuit_shown_L7))) (.seq (.reg x_circuit_shown_8) .ret))) }

/- newel/newelref03.within boxF [] frz [] -/
@[go_sem] def x_r03_within_0 : List XO := [
  ⟨(some 6), none, .mv (.c (.bool false))⟩]
@[go_sem] def x_r03_within_1 : List XO := [
  ⟨(some 7), none, .mv (.t 0)⟩,
  ⟨(some 8), none, .mv (.t 1)⟩,
  ⟨(some 9), none, .bin .geq .no (.t 7) (.t 8)⟩,
  ⟨(some 10), none, .mv (.t 9)⟩,
  ⟨(some 11), (some (10, true)), .mv (.t 0)⟩,
  ⟨(some 12), (some (10, true)), .mv (.t 2)⟩,
  ⟨(some 13), (some (10, true)), .bin .leq .no (.t 11) (.t 12)⟩,
  ⟨(some 14), none, .pick (.t 10) (.t 13) (.c (.bool false))⟩,
  ⟨(some 6), none, .mv (.t 14)⟩]
def x_r03_within : XFunc := { np := 3, res := [.t 6], body :=
  (.seq (.reg x_r03_within_0) (.seq (.reg x_r03_within_1) .ret)) }

/- newel/newelref03.members boxF [] frz [] -/
@[go_sem] def x_r03_members_0 : List XO := [
  ⟨(some 4), none, .mv (.c (.slice none 0 0))⟩]
@[go_sem] def x_r03_members_1 : List XO := [
  ⟨(some 5), none, .mv (.c (.slice none 0 0))⟩]
@[go_sem] def x_r03_members_2 : List XO := [
  ⟨(some 6), none, .mv (.c (.int .i64 0))⟩]
@[go_sem] def x_r03_members_3 : List XO := [
  ⟨(some 7), none, .mv (.t 6)⟩,
  ⟨(some 8), none, .mv (.t 1)⟩,
  ⟨(some 9), none, .bin .lss .no (.t 7) (.t 8)⟩]
@[go_sem] def x_r03_members_4 : List XO := [
  ⟨(some 12), none, .mv (.t 0)⟩,
  ⟨(some 13), none, .mv (.t 6)⟩,
  ⟨(some 14), none, .cvtI .u64 (.t 13)⟩,
  ⟨(some 15), none, .bin .shr .no (.t 12) (.t 14)⟩,
  ⟨(some 16), none, .bin .and .no (.t 15) (.c (.int .i64 1))⟩,
  ⟨(some 17), none, .bin .eql .no (.t 16) (.c (.int .i64 1))⟩]
@[go_sem] def x_r03_members_5 : List XO := [
  ⟨(some 18), none, .mv (.t 5)⟩,
  ⟨(some 19), none, .mv (.t 6)⟩,
  ⟨(some 20), none, .bsl 1 [(.t 19)]⟩,
  ⟨(some 21), none, .app 1 8 (.t 18) (.t 20)⟩,
  ⟨(some 5), none, .mv (.t 21)⟩]
@[go_sem] def x_r03_members_6 : List XO := [
  ⟨(some 10), none, .mv (.t 6)⟩,
  ⟨(some 11), none, .bin .add .no (.t 10) (.c (.int .i64 1))⟩,
  ⟨(some 6), none, .mv (.t 11)⟩]
def x_r03_members_L7 : XCode :=
  (.seq (.seq (.reg x_r03_members_3) (.cond (.t 9) .skip (.exit 0))) (.seq (.block 1 (.seq (.reg x_r03_members_4) (.cond (.t 17) (.reg x_r03_members_5) .skip))) (.reg x_r03_members_6)))
@[go_sem] def x_r03_members_8 : List XO := [
  ⟨(some 22), none, .mv (.t 5)⟩,
  ⟨(some 4), none, .mv (.t 22)⟩]
def x_r03_members : XFunc := { np := 2, res := [.t 4], body :=
  (.seq (.reg x_r03_members_0) (.seq (.reg x_r03_members_1) (.seq (.seq (.reg x_r03_members_2) (.block 0 (.loop x_r03_members_L7))) (.seq (.reg x_r03_members_8) .ret)))) }

/- newel/newelref03.shown boxF [3, 2, 8] frz [] -/
@[go_sem] def x_r03_shown_0 : List XO := [
  ⟨(some 2), none, .boxF (.t 0)⟩,
  ⟨(some 3), none, .boxF (.t 1)⟩,
  ⟨(some 4), none, .mv (.c (.int .i64 0))⟩]
@[go_sem] def x_r03_shown_1 : List XO := [
  ⟨(some 5), none, .mv (.c (.int .i64 0))⟩]
@[go_sem] def x_r03_shown_2 : List XO := [
  ⟨(some 6), none, .mv (.c (.int .i64 0))⟩]
@[go_sem] def x_r03_shown_3 : List XO := [
  ⟨(some 7), none, .mv (.t 6)⟩,
  ⟨(some 8), none, .fldA 1 (.tf 2)⟩,
  ⟨(some 9), none, .load false 1 (.tf 8)⟩,
  ⟨(some 10), none, .len false (.t 9)⟩,
  ⟨(some 11), none, .bin .lss .no (.t 7) (.t 10)⟩]
@[go_sem] def x_r03_shown_4 : List XO := [
  ⟨(some 14), none, .load true 3 (.tf 2)⟩,
  ⟨(some 15), none, .load true 2 (.tf 3)⟩,
  ⟨(some 16), none, .mv (.t 6)⟩,
  ⟨(some 17), none, .cvtI .u64 (.t 16)⟩,
  ⟨(some 18), none, .bin .shl .no (.c (.int .i64 1)) (.t 17)⟩,
  ⟨(some 19), none, .call "newel/newelref03.Tells" [(.t 14), (.t 15), (.t 18)]⟩]
@[go_sem] def x_r03_shown_5 : List XO := [
  ⟨(some 20), none, .mv (.t 5)⟩,
  ⟨(some 21), none, .mv (.t 6)⟩,
  ⟨(some 22), none, .cvtI .u64 (.t 21)⟩,
  ⟨(some 23), none, .bin .shl .no (.c (.int .i64 1)) (.t 22)⟩,
  ⟨(some 24), none, .bin .or .no (.t 20) (.t 23)⟩,
  ⟨(some 5), none, .mv (.t 24)⟩]
@[go_sem] def x_r03_shown_6 : List XO := [
  ⟨(some 12), none, .mv (.t 6)⟩,
  ⟨(some 13), none, .bin .add .no (.t 12) (.c (.int .i64 1))⟩,
  ⟨(some 6), none, .mv (.t 13)⟩]
def x_r03_shown_L7 : XCode :=
  (.seq (.seq (.reg x_r03_shown_3) (.cond (.t 11) .skip (.exit 0))) (.seq (.block 1 (.seq (.reg x_r03_shown_4) (.cond (.t 19) (.reg x_r03_shown_5) .skip))) (.reg x_r03_shown_6)))
@[go_sem] def x_r03_shown_8 : List XO := [
  ⟨(some 25), none, .mv (.t 5)⟩,
  ⟨(some 4), none, .mv (.t 25)⟩]
def x_r03_shown : XFunc := { np := 2, res := [.t 4], body :=
  (.seq (.reg x_r03_shown_0) (.seq (.reg x_r03_shown_1) (.seq (.seq (.reg x_r03_shown_2) (.block 0 (.loop x_r03_shown_L7))) (.seq (.reg x_r03_shown_8) .ret)))) }

/- newel/circuit.all boxF [2] frz [] -/
@[go_sem] def x_circuit_all_0 : List XO := [
  ⟨(some 2), none, .boxF (.t 0)⟩,
  ⟨(some 4), none, .mv (.c (.slice none 0 0))⟩,
  ⟨(some 5), none, .mv (.c (.int .i64 0))⟩]
@[go_sem] def x_circuit_all_1 : List XO := [
  ⟨(some 9), none, .mv (.t 1)⟩,
  ⟨(some 10), none, .len false (.t 9)⟩,
  ⟨(some 11), none, .mv (.c (.int .i64 0))⟩]
@[go_sem] def x_circuit_all_2 : List XO := [
  ⟨(some 12), none, .bin .lss .no (.t 11) (.t 10)⟩]
@[go_sem] def x_circuit_all_3 : List XO := [
  ⟨(some 13), none, .ixA 2 (.t 9) (.t 11)⟩,
  ⟨(some 14), none, .load true 2 (.t 13)⟩,
  ⟨(some 7), none, .alloc [(.int .i64 0), (.int .i64 0)]⟩,
  ⟨none, none, .store 2 (.t 7) (.t 14)⟩]
@[go_sem] def x_circuit_all_4 : List XO := [
  ⟨(some 15), none, .load true 3 (.tf 2)⟩,
  ⟨(some 16), none, .load true 2 (.t 7)⟩,
  ⟨(some 17), none, .call "newel/circuit.shown" [(.t 15), (.t 16)]⟩,
  ⟨(some 8), none, .mv (.t 17)⟩]
@[go_sem] def x_circuit_all_5 : List XO := [
  ⟨(some 18), none, .mv (.t 4)⟩,
  ⟨(some 19), none, .mv (.t 8)⟩,
  ⟨(some 20), none, .bsl 1 [(.t 19)]⟩,
  ⟨(some 21), none, .app 1 8 (.t 18) (.t 20)⟩,
  ⟨(some 4), none, .mv (.t 21)⟩]
@[go_sem] def x_circuit_all_6 : List XO := [
  ⟨(some 22), none, .mv (.t 5)⟩,
  ⟨(some 23), none, .mv (.t 8)⟩,
  ⟨(some 24), none, .bin .or .no (.t 22) (.t 23)⟩,
  ⟨(some 5), none, .mv (.t 24)⟩]
@[go_sem] def x_circuit_all_7 : List XO := [
  ⟨(some 25), none, .bin .add .no (.t 11) (.c (.int .i64 1))⟩,
  ⟨(some 11), none, .mv (.t 25)⟩]
def x_circuit_all_L8 : XCode :=
  (.seq (.reg x_circuit_all_2) (.seq (.cond (.t 12) .skip (.exit 0)) (.seq (.block 1 (.seq (.reg x_circuit_all_3) (.seq (.reg x_circuit_all_4) (.seq (.reg x_circuit_all_5) (.reg x_circuit_all_6))))) (.reg x_circuit_all_7))))
@[go_sem] def x_circuit_all_9 : List XO := [
  ⟨(some 26), none, .mv (.t 4)⟩,
  ⟨(some 27), none, .mv (.t 5)⟩,
  ⟨(some 4), none, .mv (.t 26)⟩,
  ⟨(some 5), none, .mv (.t 27)⟩]
def x_circuit_all : XFunc := { np := 2, res := [.t 4, .t 5], body :=
  (.seq (.reg x_circuit_all_0) (.seq (.seq (.reg x_circuit_all_1) (.block 0 (.loop x_circuit_all_L8))) (.seq (.reg x_circuit_all_9) .ret))) }

/- newel/newelref03.all boxF [3] frz [] -/
@[go_sem] def x_r03_all_0 : List XO := [
  ⟨(some 3), none, .boxF (.t 0)⟩,
  ⟨(some 6), none, .mv (.c (.int .i64 0))⟩]
@[go_sem] def x_r03_all_1 : List XO := [
  ⟨(some 7), none, .mv (.c (.int .i64 0))⟩]
@[go_sem] def x_r03_all_2 : List XO := [
  ⟨(some 8), none, .mv (.c (.int .i64 0))⟩]
@[go_sem] def x_r03_all_3 : List XO := [
  ⟨(some 9), none, .mv (.t 8)⟩,
  ⟨(some 10), none, .mv (.t 1)⟩,
  ⟨(some 11), none, .len false (.t 10)⟩,
  ⟨(some 12), none, .bin .lss .no (.t 9) (.t 11)⟩]
@[go_sem] def x_r03_all_4 : List XO := [
  ⟨(some 15), none, .mv (.t 2)⟩,
  ⟨(some 16), none, .mv (.t 8)⟩,
  ⟨(some 17), none, .cvtI .u64 (.t 16)⟩,
  ⟨(some 18), none, .bin .shr .no (.t 15) (.t 17)⟩,
  ⟨(some 19), none, .bin .and .no (.t 18) (.c (.int .i64 1))⟩,
  ⟨(some 20), none, .bin .eql .no (.t 19) (.c (.int .i64 1))⟩]
@[go_sem] def x_r03_all_5 : List XO := [
  ⟨(some 21), none, .mv (.t 7)⟩,
  ⟨(some 22), none, .load true 3 (.tf 3)⟩,
  ⟨(some 23), none, .mv (.t 1)⟩,
  ⟨(some 24), none, .mv (.t 8)⟩,
  ⟨(some 25), none, .ixA 2 (.t 23) (.t 24)⟩,
  ⟨(some 26), none, .load true 2 (.t 25)⟩,
  ⟨(some 27), none, .call "newel/newelref03.shown" [(.t 22), (.t 26)]⟩,
  ⟨(some 28), none, .bin .or .no (.t 21) (.t 27)⟩,
  ⟨(some 7), none, .mv (.t 28)⟩]
@[go_sem] def x_r03_all_6 : List XO := [
  ⟨(some 13), none, .mv (.t 8)⟩,
  ⟨(some 14), none, .bin .add .no (.t 13) (.c (.int .i64 1))⟩,
  ⟨(some 8), none, .mv (.t 14)⟩]
def x_r03_all_L7 : XCode :=
  (.seq (.seq (.reg x_r03_all_3) (.cond (.t 12) .skip (.exit 0))) (.seq (.block 1 (.seq (.reg x_r03_all_4) (.cond (.t 20) (.reg x_r03_all_5) .skip))) (.reg x_r03_all_6)))
@[go_sem] def x_r03_all_8 : List XO := [
  ⟨(some 29), none, .mv (.t 7)⟩,
  ⟨(some 6), none, .mv (.t 29)⟩]
def x_r03_all : XFunc := { np := 3, res := [.t 6], body :=
  (.seq (.reg x_r03_all_0) (.seq (.reg x_r03_all_1) (.seq (.seq (.reg x_r03_all_2) (.block 0 (.loop x_r03_all_L7))) (.seq (.reg x_r03_all_8) .ret)))) }

/- slices.Compare[[]int,int] boxF [] frz [] -/
@[go_sem] def x_slices_Compare___int_int__0 : List XO := [
  ⟨(some 4), none, .mv (.c (.int .i64 0))⟩]
@[go_sem] def x_slices_Compare___int_int__1 : List XO := [
  ⟨(some 9), none, .mv (.t 0)⟩,
  ⟨(some 10), none, .len false (.t 9)⟩,
  ⟨(some 11), none, .mv (.c (.int .i64 0))⟩]
@[go_sem] def x_slices_Compare___int_int__2 : List XO := [
  ⟨(some 12), none, .bin .lss .no (.t 11) (.t 10)⟩]
@[go_sem] def x_slices_Compare___int_int__3 : List XO := [
  ⟨(some 13), none, .mv (.t 11)⟩,
  ⟨(some 14), none, .ixA 1 (.t 9) (.t 11)⟩,
  ⟨(some 15), none, .load false 1 (.t 14)⟩,
  ⟨(some 5), none, .mv (.t 13)⟩,
  ⟨(some 6), none, .mv (.t 15)⟩]
@[go_sem] def x_slices_Compare___int_int__4 : List XO := [
  ⟨(some 16), none, .mv (.t 5)⟩,
  ⟨(some 17), none, .mv (.t 1)⟩,
  ⟨(some 18), none, .len false (.t 17)⟩,
  ⟨(some 19), none, .bin .geq .no (.t 16) (.t 18)⟩]
@[go_sem] def x_slices_Compare___int_int__5 : List XO := [
  ⟨(some 4), none, .mv (.c (.int .i64 1))⟩]
@[go_sem] def x_slices_Compare___int_int__6 : List XO := [
  ⟨(some 20), none, .mv (.t 1)⟩,
  ⟨(some 21), none, .mv (.t 5)⟩,
  ⟨(some 22), none, .ixA 1 (.t 20) (.t 21)⟩,
  ⟨(some 23), none, .load false 1 (.t 22)⟩,
  ⟨(some 7), none, .mv (.t 23)⟩]
@[go_sem] def x_slices_Compare___int_int__7 : List XO := [
  ⟨(some 24), none, .mv (.t 6)⟩,
  ⟨(some 25), none, .mv (.t 7)⟩,
  ⟨(some 26), none, .call "cmp.Compare[int]" [(.t 24), (.t 25)]⟩,
  ⟨(some 8), none, .mv (.t 26)⟩]
@[go_sem] def x_slices_Compare___int_int__8 : List XO := [
  ⟨(some 27), none, .mv (.t 8)⟩,
  ⟨(some 28), none, .bin .neq .no (.t 27) (.c (.int .i64 0))⟩]
@[go_sem] def x_slices_Compare___int_int__9 : List XO := [
  ⟨(some 29), none, .mv (.t 8)⟩,
  ⟨(some 4), none, .mv (.t 29)⟩]
@[go_sem] def x_slices_Compare___int_int__10 : List XO := [
  ⟨(some 30), none, .bin .add .no (.t 11) (.c (.int .i64 1))⟩,
  ⟨(some 11), none, .mv (.t 30)⟩]
def x_slices_Compare___int_int__L11 : XCode :=
  (.seq (.reg x_slices_Compare___int_int__2) (.seq (.cond (.t 12) .skip (.exit 0)) (.seq (.block 1 (.seq (.reg x_slices_Compare___int_int__3) (.seq (.seq (.reg x_slices_Compare___int_int__4) (.cond (.t 19) (.seq (.reg x_slices_Compare___int_int__5) .ret) .skip)) (.seq (.reg x_slices_Compare___int_int__6) (.seq (.reg x_slices_Compare___int_int__7) (.seq (.reg x_slices_Compare___int_int__8) (.cond (.t 28) (.seq (.reg x_slices_Compare___int_int__9) .ret) .skip))))))) (.reg x_slices_Compare___int_int__10))))
@[go_sem] def x_slices_Compare___int_int__12 : List XO := [
  ⟨(some 31), none, .mv (.t 0)⟩,
  ⟨(some 32), none, .len false (.t 31)⟩,
  ⟨(some 33), none, .mv (.t 1)⟩,
  ⟨(some 34), none, .len false (.t 33)⟩,
  ⟨(some 35), none, .bin .lss .no (.t 32) (.t 34)⟩]
@[go_sem] def x_slices_Compare___int_int__13 : List XO := [
  ⟨(some 4), none, .mv (.c (.int .i64 (-1)))⟩]
@[go_sem] def x_slices_Compare___int_int__14 : List XO := [
  ⟨(some 4), none, .mv (.c (.int .i64 0))⟩]
def x_slices_Compare___int_int_ : XFunc := { np := 2, res := [.t 4], body :=
  (.seq (.reg x_slices_Compare___int_int__0) (.seq (.seq (.reg x_slices_Compare___int_int__1) (.block 0 (.loop x_slices_Compare___int_int__L11))) (.seq (.seq (.reg x_slices_Compare___int_int__12) (.cond (.t 35) (.seq (.reg x_slices_Compare___int_int__13) .ret) .skip)) (.seq (.reg x_slices_Compare___int_int__14) .ret)))) }

/- newel/newelref03.every boxF [2] frz [] -/
@[go_sem] def x_r03_every_0 : List XO := [
  ⟨(some 2), none, .boxF (.t 0)⟩,
  ⟨(some 4), none, .mv (.c (.slice none 0 0))⟩]
@[go_sem] def x_r03_every_1 : List XO := [
  ⟨(some 5), none, .mv (.c (.slice none 0 0))⟩]
@[go_sem] def x_r03_every_2 : List XO := [
  ⟨(some 6), none, .mv (.c (.int .i64 0))⟩]
@[go_sem] def x_r03_every_3 : List XO := [
  ⟨(some 7), none, .mv (.t 6)⟩,
  ⟨(some 8), none, .mv (.t 1)⟩,
  ⟨(some 9), none, .len false (.t 8)⟩,
  ⟨(some 10), none, .bin .lss .no (.t 7) (.t 9)⟩]
@[go_sem] def x_r03_every_4 : List XO := [
  ⟨(some 13), none, .mv (.t 5)⟩,
  ⟨(some 14), none, .load true 3 (.tf 2)⟩,
  ⟨(some 15), none, .mv (.t 1)⟩,
  ⟨(some 16), none, .mv (.t 6)⟩,
  ⟨(some 17), none, .ixA 2 (.t 15) (.t 16)⟩,
  ⟨(some 18), none, .load true 2 (.t 17)⟩,
  ⟨(some 19), none, .call "newel/newelref03.shown" [(.t 14), (.t 18)]⟩,
  ⟨(some 20), none, .bsl 1 [(.t 19)]⟩,
  ⟨(some 21), none, .app 1 8 (.t 13) (.t 20)⟩,
  ⟨(some 5), none, .mv (.t 21)⟩]
@[go_sem] def x_r03_every_5 : List XO := [
  ⟨(some 11), none, .mv (.t 6)⟩,
  ⟨(some 12), none, .bin .add .no (.t 11) (.c (.int .i64 1))⟩,
  ⟨(some 6), none, .mv (.t 12)⟩]
def x_r03_every_L6 : XCode :=
  (.seq (.seq (.reg x_r03_every_3) (.cond (.t 10) .skip (.exit 0))) (.seq (.block 1 (.reg x_r03_every_4)) (.reg x_r03_every_5)))
@[go_sem] def x_r03_every_7 : List XO := [
  ⟨(some 22), none, .mv (.t 5)⟩,
  ⟨(some 4), none, .mv (.t 22)⟩]
def x_r03_every : XFunc := { np := 2, res := [.t 4], body :=
  (.seq (.reg x_r03_every_0) (.seq (.reg x_r03_every_1) (.seq (.seq (.reg x_r03_every_2) (.block 0 (.loop x_r03_every_L6))) (.seq (.reg x_r03_every_7) .ret)))) }

/- newel/newelref03.Ones boxF [] frz [] -/
@[go_sem] def x_r03_Ones_0 : List XO := [
  ⟨(some 2), none, .mv (.c (.int .i64 0))⟩]
@[go_sem] def x_r03_Ones_1 : List XO := [
  ⟨(some 3), none, .mv (.c (.int .i64 0))⟩]
@[go_sem] def x_r03_Ones_2 : List XO := [
  ⟨(some 4), none, .mv (.t 0)⟩,
  ⟨(some 5), none, .bin .gtr .no (.t 4) (.c (.int .i64 0))⟩]
@[go_sem] def x_r03_Ones_3 : List XO := [
  ⟨(some 8), none, .mv (.t 3)⟩,
  ⟨(some 9), none, .mv (.t 0)⟩,
  ⟨(some 10), none, .bin .and .no (.t 9) (.c (.int .i64 1))⟩,
  ⟨(some 11), none, .bin .add .no (.t 8) (.t 10)⟩,
  ⟨(some 3), none, .mv (.t 11)⟩]
@[go_sem] def x_r03_Ones_4 : List XO := [
  ⟨(some 6), none, .mv (.t 0)⟩,
  ⟨(some 7), none, .bin .shr .no (.t 6) (.c (.int .u64 1))⟩,
  ⟨(some 0), none, .mv (.t 7)⟩]
def x_r03_Ones_L5 : XCode :=
  (.seq (.seq (.reg x_r03_Ones_2) (.cond (.t 5) .skip (.exit 0))) (.seq (.block 1 (.reg x_r03_Ones_3)) (.reg x_r03_Ones_4)))
@[go_sem] def x_r03_Ones_6 : List XO := [
  ⟨(some 12), none, .mv (.t 3)⟩,
  ⟨(some 2), none, .mv (.t 12)⟩]
def x_r03_Ones : XFunc := { np := 1, res := [.t 2], body :=
  (.seq (.reg x_r03_Ones_0) (.seq (.reg x_r03_Ones_1) (.seq (.block 0 (.loop x_r03_Ones_L5)) (.seq (.reg x_r03_Ones_6) .ret)))) }

/- newel/newelref03.less boxF [] frz [] -/
@[go_sem] def x_r03_less_0 : List XO := [
  ⟨(some 4), none, .mv (.c (.bool false))⟩]
@[go_sem] def x_r03_less_1 : List XO := [
  ⟨(some 5), none, .mv (.c (.int .i64 0))⟩]
@[go_sem] def x_r03_less_2 : List XO := [
  ⟨(some 6), none, .mv (.t 5)⟩,
  ⟨(some 7), none, .mv (.t 0)⟩,
  ⟨(some 8), none, .len false (.t 7)⟩,
  ⟨(some 9), none, .bin .lss .no (.t 6) (.t 8)⟩]
@[go_sem] def x_r03_less_3 : List XO := [
  ⟨(some 12), none, .mv (.t 0)⟩,
  ⟨(some 13), none, .mv (.t 5)⟩,
  ⟨(some 14), none, .ixA 1 (.t 12) (.t 13)⟩,
  ⟨(some 15), none, .load false 1 (.t 14)⟩,
  ⟨(some 16), none, .mv (.t 1)⟩,
  ⟨(some 17), none, .mv (.t 5)⟩,
  ⟨(some 18), none, .ixA 1 (.t 16) (.t 17)⟩,
  ⟨(some 19), none, .load false 1 (.t 18)⟩,
  ⟨(some 20), none, .bin .neq .no (.t 15) (.t 19)⟩]
@[go_sem] def x_r03_less_4 : List XO := [
  ⟨(some 21), none, .mv (.t 0)⟩,
  ⟨(some 22), none, .mv (.t 5)⟩,
  ⟨(some 23), none, .ixA 1 (.t 21) (.t 22)⟩,
  ⟨(some 24), none, .load false 1 (.t 23)⟩,
  ⟨(some 25), none, .mv (.t 1)⟩,
  ⟨(some 26), none, .mv (.t 5)⟩,
  ⟨(some 27), none, .ixA 1 (.t 25) (.t 26)⟩,
  ⟨(some 28), none, .load false 1 (.t 27)⟩,
  ⟨(some 29), none, .bin .lss .no (.t 24) (.t 28)⟩,
  ⟨(some 4), none, .mv (.t 29)⟩]
@[go_sem] def x_r03_less_5 : List XO := [
  ⟨(some 10), none, .mv (.t 5)⟩,
  ⟨(some 11), none, .bin .add .no (.t 10) (.c (.int .i64 1))⟩,
  ⟨(some 5), none, .mv (.t 11)⟩]
def x_r03_less_L6 : XCode :=
  (.seq (.seq (.reg x_r03_less_2) (.cond (.t 9) .skip (.exit 0))) (.seq (.block 1 (.seq (.reg x_r03_less_3) (.cond (.t 20) (.seq (.reg x_r03_less_4) .ret) .skip))) (.reg x_r03_less_5)))
@[go_sem] def x_r03_less_7 : List XO := [
  ⟨(some 4), none, .mv (.c (.bool false))⟩]
def x_r03_less : XFunc := { np := 2, res := [.t 4], body :=
  (.seq (.reg x_r03_less_0) (.seq (.seq (.reg x_r03_less_1) (.block 0 (.loop x_r03_less_L6))) (.seq (.reg x_r03_less_7) .ret))) }

/- newel/newelref03.Check boxF [1, 106, 76, 58, 52, 47, 40, 35, 29, 22, 15, 10] frz [] -/
@[go_sem] def x_r03_Check_0 : List XO := [
  ⟨(some 1), none, .boxF (.t 0)⟩,
  ⟨(some 2), none, .mv (.c (.int .i64 0))⟩]
@[go_sem] def x_r03_Check_1 : List XO := [
  ⟨(some 10), none, .fldA 0 (.tf 1)⟩,
  ⟨(some 11), none, .load false 1 (.tf 10)⟩,
  ⟨(some 12), none, .call "newel/newelref03.within" [(.t 11), (.c (.int .i64 1)), (.c (.int .i64 8))]⟩,
  ⟨(some 13), none, .un .not (.t 12)⟩,
  ⟨(some 14), none, .mv (.t 13)⟩,
  ⟨(some 15), (some (14, false)), .fldA 1 (.tf 1)⟩,
  ⟨(some 16), (some (14, false)), .load false 1 (.tf 15)⟩,
  ⟨(some 17), (some (14, false)), .len false (.t 16)⟩,
  ⟨(some 18), (some (14, false)), .call "newel/newelref03.within" [(.t 17), (.c (.int .i64 1)), (.c (.int .i64 12))]⟩,
  ⟨(some 19), (some (14, false)), .un .not (.t 18)⟩,
  ⟨(some 20), none, .pick (.t 14) (.c (.bool true)) (.t 19)⟩,
  ⟨(some 21), none, .mv (.t 20)⟩,
  ⟨(some 22), (some (21, false)), .fldA 2 (.tf 1)⟩,
  ⟨(some 23), (some (21, false)), .load false 1 (.tf 22)⟩,
  ⟨(some 24), (some (21, false)), .len false (.t 23)⟩,
  ⟨(some 25), (some (21, false)), .call "newel/newelref03.within" [(.t 24), (.c (.int .i64 1)), (.c (.int .i64 24))]⟩,
  ⟨(some 26), (some (21, false)), .un .not (.t 25)⟩,
  ⟨(some 27), none, .pick (.t 21) (.c (.bool true)) (.t 26)⟩]
@[go_sem] def x_r03_Check_2 : List XO := [
  ⟨(some 2), none, .mv (.c (.int .i64 30))⟩]
@[go_sem] def x_r03_Check_3 : List XO := [
  ⟨(some 3), none, .mv (.c (.int .i64 0))⟩]
@[go_sem] def x_r03_Check_4 : List XO := [
  ⟨(some 28), none, .mv (.t 3)⟩,
  ⟨(some 29), none, .fldA 1 (.tf 1)⟩,
  ⟨(some 30), none, .load false 1 (.tf 29)⟩,
  ⟨(some 31), none, .len false (.t 30)⟩,
  ⟨(some 32), none, .bin .lss .no (.t 28) (.t 31)⟩]
@[go_sem] def x_r03_Check_5 : List XO := [
  ⟨(some 35), none, .fldA 1 (.tf 1)⟩,
  ⟨(some 36), none, .load false 1 (.tf 35)⟩,
  ⟨(some 37), none, .mv (.t 3)⟩,
  ⟨(some 38), none, .ixA 1 (.t 36) (.t 37)⟩,
  ⟨(some 39), none, .load false 1 (.t 38)⟩,
  ⟨(some 40), none, .fldA 0 (.tf 1)⟩,
  ⟨(some 41), none, .load false 1 (.tf 40)⟩,
  ⟨(some 42), none, .cvtI .u64 (.t 41)⟩,
  ⟨(some 43), none, .bin .shl .no (.c (.int .i64 1)) (.t 42)⟩,
  ⟨(some 44), none, .bin .sub .no (.t 43) (.c (.int .i64 1))⟩,
  ⟨(some 45), none, .call "newel/newelref03.within" [(.t 39), (.c (.int .i64 0)), (.t 44)]⟩,
  ⟨(some 46), none, .un .not (.t 45)⟩]
@[go_sem] def x_r03_Check_6 : List XO := [
  ⟨(some 2), none, .mv (.c (.int .i64 30))⟩]
@[go_sem] def x_r03_Check_7 : List XO := [
  ⟨(some 33), none, .mv (.t 3)⟩,
  ⟨(some 34), none, .bin .add .no (.t 33) (.c (.int .i64 1))⟩,
  ⟨(some 3), none, .mv (.t 34)⟩]
def x_r03_Check_L8 : XCode :=
  (.seq (.seq (.reg x_r03_Check_4) (.cond (.t 32) .skip (.exit 0))) (.seq (.block 1 (.seq (.reg x_r03_Check_5) (.cond (.t 46) (.seq (.reg x_r03_Check_6) .ret) .skip))) (.reg x_r03_Check_7)))
@[go_sem] def x_r03_Check_9 : List XO := [
  ⟨(some 47), none, .fldA 2 (.tf 1)⟩,
  ⟨(some 48), none, .load false 1 (.tf 47)⟩,
  ⟨(some 49), none, .len false (.t 48)⟩,
  ⟨(some 50), none, .mksl 1 [(.int .i64 0)] 8 (.t 49) (.t 49)⟩,
  ⟨(some 4), none, .mv (.t 50)⟩]
@[go_sem] def x_r03_Check_10 : List XO := [
  ⟨(some 5), none, .mv (.c (.int .i64 0))⟩]
@[go_sem] def x_r03_Check_11 : List XO := [
  ⟨(some 51), none, .mv (.t 5)⟩,
  ⟨(some 52), none, .fldA 2 (.tf 1)⟩,
  ⟨(some 53), none, .load false 1 (.tf 52)⟩,
  ⟨(some 54), none, .len false (.t 53)⟩,
  ⟨(some 55), none, .bin .lss .no (.t 51) (.t 54)⟩]
@[go_sem] def x_r03_Check_12 : List XO := [
  ⟨(some 58), none, .fldA 2 (.tf 1)⟩,
  ⟨(some 59), none, .load false 1 (.tf 58)⟩,
  ⟨(some 60), none, .mv (.t 5)⟩,
  ⟨(some 61), none, .ixA 2 (.t 59) (.t 60)⟩,
  ⟨(some 62), none, .load true 2 (.t 61)⟩,
  ⟨(some 6), none, .alloc [(.int .i64 0), (.slice none 0 0)]⟩,
  ⟨none, none, .store 2 (.t 6) (.t 62)⟩]
@[go_sem] def x_r03_Check_13 : List XO := [
  ⟨(some 63), none, .fldA 0 (.t 6)⟩,
  ⟨(some 64), none, .load false 1 (.t 63)⟩]
@[go_sem] def x_r03_Check_14 : List XO := [
  ⟨(some 66), none, .bin .eql .no (.t 64) (.c (.int .i64 1))⟩,
  ⟨(some 65), none, .mv (.t 66)⟩]
@[go_sem] def x_r03_Check_15 : List XO := [
  ⟨(some 67), none, .fldA 1 (.t 6)⟩,
  ⟨(some 68), none, .load false 1 (.t 67)⟩,
  ⟨(some 69), none, .len false (.t 68)⟩,
  ⟨(some 70), none, .bin .neq .no (.t 69) (.c (.int .i64 1))⟩,
  ⟨(some 71), none, .mv (.t 70)⟩,
  ⟨(some 72), (some (71, false)), .fldA 1 (.t 6)⟩,
  ⟨(some 73), (some (71, false)), .load false 1 (.t 72)⟩,
  ⟨(some 74), (some (71, false)), .ixA 1 (.t 73) (.c (.int .i64 0))⟩,
  ⟨(some 75), (some (71, false)), .load false 1 (.t 74)⟩,
  ⟨(some 76), (some (71, false)), .fldA 1 (.tf 1)⟩,
  ⟨(some 77), (some (71, false)), .load false 1 (.tf 76)⟩,
  ⟨(some 78), (some (71, false)), .len false (.t 77)⟩,
  ⟨(some 79), (some (71, false)), .bin .sub .no (.t 78) (.c (.int .i64 1))⟩,
  ⟨(some 80), (some (71, false)), .call "newel/newelref03.within" [(.t 75), (.c (.int .i64 0)), (.t 79)]⟩,
  ⟨(some 81), (some (71, false)), .un .not (.t 80)⟩,
  ⟨(some 82), none, .pick (.t 71) (.c (.bool true)) (.t 81)⟩]
@[go_sem] def x_r03_Check_16 : List XO := [
  ⟨(some 2), none, .mv (.c (.int .i64 30))⟩]
@[go_sem] def x_r03_Check_17 : List XO := [
  ⟨(some 84), none, .bin .eql .no (.t 64) (.c (.int .i64 2))⟩,
  ⟨(some 83), none, .mv (.t 84)⟩]
@[go_sem] def x_r03_Check_18 : List XO := [
  ⟨(some 85), none, .bin .eql .no (.t 64) (.c (.int .i64 3))⟩,
  ⟨(some 83), none, .mv (.t 85)⟩]
@[go_sem] def x_r03_Check_19 : List XO := [
  ⟨(some 86), none, .fldA 1 (.t 6)⟩,
  ⟨(some 87), none, .load false 1 (.t 86)⟩,
  ⟨(some 88), none, .len false (.t 87)⟩,
  ⟨(some 89), none, .call "newel/newelref03.within" [(.t 88), (.c (.int .i64 1)), (.c (.int .i64 8))]⟩,
  ⟨(some 90), none, .un .not (.t 89)⟩]
@[go_sem] def x_r03_Check_20 : List XO := [
  ⟨(some 2), none, .mv (.c (.int .i64 30))⟩]
@[go_sem] def x_r03_Check_21 : List XO := [
  ⟨(some 91), none, .mv (.t 5)⟩,
  ⟨(some 7), none, .mv (.t 91)⟩]
@[go_sem] def x_r03_Check_22 : List XO := [
  ⟨(some 8), none, .mv (.c (.int .i64 0))⟩]
@[go_sem] def x_r03_Check_23 : List XO := [
  ⟨(some 92), none, .mv (.t 8)⟩,
  ⟨(some 93), none, .fldA 1 (.t 6)⟩,
  ⟨(some 94), none, .load false 1 (.t 93)⟩,
  ⟨(some 95), none, .len false (.t 94)⟩,
  ⟨(some 96), none, .bin .lss .no (.t 92) (.t 95)⟩]
@[go_sem] def x_r03_Check_24 : List XO := [
  ⟨(some 99), none, .fldA 1 (.t 6)⟩,
  ⟨(some 100), none, .load false 1 (.t 99)⟩,
  ⟨(some 101), none, .mv (.t 8)⟩,
  ⟨(some 102), none, .ixA 1 (.t 100) (.t 101)⟩,
  ⟨(some 103), none, .load false 1 (.t 102)⟩,
  ⟨(some 104), none, .mv (.t 7)⟩,
  ⟨(some 105), none, .bin .add .no (.t 104) (.c (.int .i64 1))⟩,
  ⟨(some 106), none, .fldA 2 (.tf 1)⟩,
  ⟨(some 107), none, .load false 1 (.tf 106)⟩,
  ⟨(some 108), none, .len false (.t 107)⟩,
  ⟨(some 109), none, .bin .sub .no (.t 108) (.c (.int .i64 1))⟩,
  ⟨(some 110), none, .call "newel/newelref03.within" [(.t 103), (.t 105), (.t 109)]⟩,
  ⟨(some 111), none, .un .not (.t 110)⟩]
@[go_sem] def x_r03_Check_25 : List XO := [
  ⟨(some 2), none, .mv (.c (.int .i64 30))⟩]
@[go_sem] def x_r03_Check_26 : List XO := [
  ⟨(some 112), none, .fldA 1 (.t 6)⟩,
  ⟨(some 113), none, .load false 1 (.t 112)⟩,
  ⟨(some 114), none, .mv (.t 8)⟩,
  ⟨(some 115), none, .ixA 1 (.t 113) (.t 114)⟩,
  ⟨(some 116), none, .load false 1 (.t 115)⟩,
  ⟨(some 7), none, .mv (.t 116)⟩]
@[go_sem] def x_r03_Check_27 : List XO := [
  ⟨(some 117), none, .mv (.t 4)⟩,
  ⟨(some 118), none, .mv (.t 7)⟩,
  ⟨(some 119), none, .ixA 1 (.t 117) (.t 118)⟩,
  ⟨(some 120), none, .load false 1 (.t 119)⟩,
  ⟨(some 121), none, .bin .add .no (.t 120) (.c (.int .i64 1))⟩,
  ⟨(some 122), none, .ixA 1 (.t 117) (.t 118)⟩,
  ⟨none, none, .store 1 (.t 122) (.t 121)⟩]
@[go_sem] def x_r03_Check_28 : List XO := [
  ⟨(some 97), none, .mv (.t 8)⟩,
  ⟨(some 98), none, .bin .add .no (.t 97) (.c (.int .i64 1))⟩,
  ⟨(some 8), none, .mv (.t 98)⟩]
def x_r03_Check_L29 : XCode :=
  (.seq (.seq (.reg x_r03_Check_23) (.cond (.t 96) .skip (.exit 5))) (.seq (.block 6 (.seq (.seq (.reg x_r03_Check_24) (.cond (.t 111) (.seq (.reg x_r03_Check_25) .ret) .skip)) (.seq (.reg x_r03_Check_26) (.reg x_r03_Check_27)))) (.reg x_r03_Check_28)))
@[go_sem] def x_r03_Check_30 : List XO := [
  ⟨(some 2), none, .mv (.c (.int .i64 30))⟩]
@[go_sem] def x_r03_Check_31 : List XO := [
  ⟨(some 56), none, .mv (.t 5)⟩,
  ⟨(some 57), none, .bin .add .no (.t 56) (.c (.int .i64 1))⟩,
  ⟨(some 5), none, .mv (.t 57)⟩]
def x_r03_Check_L32 : XCode :=
  (.seq (.seq (.reg x_r03_Check_11) (.cond (.t 55) .skip (.exit 2))) (.seq (.block 3 (.seq (.reg x_r03_Check_12) (.seq (.reg x_r03_Check_13) (.block 4 (.seq (.reg x_r03_Check_14) (.cond (.t 65) (.seq (.reg x_r03_Check_15) (.cond (.t 82) (.seq (.reg x_r03_Check_16) .ret) .skip)) (.seq (.seq (.reg x_r03_Check_17) (.cond (.t 83) .skip (.reg x_r03_Check_18))) (.cond (.t 83) (.seq (.seq (.reg x_r03_Check_19) (.cond (.t 90) (.seq (.reg x_r03_Check_20) .ret) .skip)) (.seq (.reg x_r03_Check_21) (.seq (.reg x_r03_Check_22) (.block 5 (.loop x_r03_Check_L29))))) (.seq (.reg x_r03_Check_30) .ret))))))))) (.reg x_r03_Check_31)))
@[go_sem] def x_r03_Check_33 : List XO := [
  ⟨(some 9), none, .mv (.c (.int .i64 1))⟩]
@[go_sem] def x_r03_Check_34 : List XO := [
  ⟨(some 123), none, .mv (.t 9)⟩,
  ⟨(some 124), none, .mv (.t 4)⟩,
  ⟨(some 125), none, .len false (.t 124)⟩,
  ⟨(some 126), none, .bin .lss .no (.t 123) (.t 125)⟩]
@[go_sem] def x_r03_Check_35 : List XO := [
  ⟨(some 129), none, .mv (.t 4)⟩,
  ⟨(some 130), none, .mv (.t 9)⟩,
  ⟨(some 131), none, .ixA 1 (.t 129) (.t 130)⟩,
  ⟨(some 132), none, .load false 1 (.t 131)⟩,
  ⟨(some 133), none, .bin .neq .no (.t 132) (.c (.int .i64 1))⟩]
@[go_sem] def x_r03_Check_36 : List XO := [
  ⟨(some 2), none, .mv (.c (.int .i64 30))⟩]
@[go_sem] def x_r03_Check_37 : List XO := [
  ⟨(some 127), none, .mv (.t 9)⟩,
  ⟨(some 128), none, .bin .add .no (.t 127) (.c (.int .i64 1))⟩,
  ⟨(some 9), none, .mv (.t 128)⟩]
def x_r03_Check_L38 : XCode :=
  (.seq (.seq (.reg x_r03_Check_34) (.cond (.t 126) .skip (.exit 7))) (.seq (.block 8 (.seq (.reg x_r03_Check_35) (.cond (.t 133) (.seq (.reg x_r03_Check_36) .ret) .skip))) (.reg x_r03_Check_37)))
@[go_sem] def x_r03_Check_39 : List XO := [
  ⟨(some 2), none, .mv (.c (.int .i64 0))⟩]
def x_r03_Check : XFunc := { np := 1, res := [.t 2], body :=
  (.seq (.reg x_r03_Check_0) (.seq (.seq (.reg x_r03_Check_1) (.cond (.t 27) (.seq (.reg x_r03_Check_2) .ret) .skip)) (.seq (.seq (.reg x_r03_Check_3) (.block 0 (.loop x_r03_Check_L8))) (.seq (.reg x_r03_Check_9) (.seq (.seq (.reg x_r03_Check_10) (.block 2 (.loop x_r03_Check_L32))) (.seq (.seq (.reg x_r03_Check_33) (.block 7 (.loop x_r03_Check_L38))) (.seq (.reg x_r03_Check_39) .ret))))))) }

/- newel/newelref03.Hazards boxF [2, 6] frz [] -/
@[go_sem] def x_r03_Hazards_0 : List XO := [
  ⟨(some 2), none, .boxF (.t 0)⟩,
  ⟨(some 4), none, .mv (.c (.bool false))⟩]
@[go_sem] def x_r03_Hazards_1 : List XO := [
  ⟨(some 5), none, .mv (.t 1)⟩,
  ⟨(some 6), none, .fldA 0 (.tf 2)⟩,
  ⟨(some 7), none, .load false 1 (.tf 6)⟩,
  ⟨(some 8), none, .cvtI .u64 (.t 7)⟩,
  ⟨(some 9), none, .bin .shl .no (.c (.int .i64 1)) (.t 8)⟩,
  ⟨(some 10), none, .bin .sub .no (.t 9) (.c (.int .i64 1))⟩,
  ⟨(some 11), none, .call "newel/newelref03.within" [(.t 5), (.c (.int .i64 0)), (.t 10)]⟩,
  ⟨(some 4), none, .mv (.t 11)⟩]
def x_r03_Hazards : XFunc := { np := 2, res := [.t 4], body :=
  (.seq (.reg x_r03_Hazards_0) (.seq (.reg x_r03_Hazards_1) .ret)) }

/- newel/circuit.Critical boxF [1, 12] frz [] -/
@[go_sem] def x_circuit_Critical_0 : List XO := [
  ⟨(some 1), none, .boxF (.t 0)⟩,
  ⟨(some 2), none, .mv (.c (.slice none 0 0))⟩,
  ⟨(some 3), none, .mv (.c (.int .i64 0))⟩]
@[go_sem] def x_circuit_Critical_1 : List XO := [
  ⟨(some 7), none, .load true 3 (.tf 1)⟩,
  ⟨(some 8), none, .call "newel/circuit.Check" [(.t 7)]⟩,
  ⟨(some 4), none, .mv (.t 8)⟩]
@[go_sem] def x_circuit_Critical_2 : List XO := [
  ⟨(some 9), none, .mv (.t 4)⟩,
  ⟨(some 10), none, .bin .neq .no (.t 9) (.c (.int .i64 0))⟩]
@[go_sem] def x_circuit_Critical_3 : List XO := [
  ⟨(some 11), none, .mv (.t 4)⟩,
  ⟨(some 2), none, .mv (.c (.slice none 0 0))⟩,
  ⟨(some 3), none, .mv (.t 11)⟩]
@[go_sem] def x_circuit_Critical_4 : List XO := [
  ⟨(some 5), none, .mv (.c (.slice none 0 0))⟩]
@[go_sem] def x_circuit_Critical_5 : List XO := [
  ⟨(some 12), none, .fldA 1 (.tf 1)⟩,
  ⟨(some 13), none, .load false 1 (.tf 12)⟩,
  ⟨(some 14), none, .len false (.t 13)⟩,
  ⟨(some 15), none, .mv (.c (.int .i64 0))⟩]
@[go_sem] def x_circuit_Critical_6 : List XO := [
  ⟨(some 16), none, .bin .lss .no (.t 15) (.t 14)⟩]
@[go_sem] def x_circuit_Critical_7 : List XO := [
  ⟨(some 17), none, .mv (.t 15)⟩,
  ⟨(some 6), none, .mv (.t 17)⟩]
@[go_sem] def x_circuit_Critical_8 : List XO := [
  ⟨(some 18), none, .load true 3 (.tf 1)⟩,
  ⟨(some 19), none, .mv (.t 6)⟩,
  ⟨(some 20), none, .bin .shl .no (.c (.int .i64 1)) (.t 19)⟩,
  ⟨(some 21), none, .call "newel/circuit.weak" [(.t 18), (.t 20)]⟩,
  ⟨(some 22), none, .len false (.t 21)⟩,
  ⟨(some 23), none, .bin .gtr .no (.t 22) (.c (.int .i64 0))⟩]
@[go_sem] def x_circuit_Critical_9 : List XO := [
  ⟨(some 24), none, .mv (.t 5)⟩,
  ⟨(some 25), none, .mv (.t 6)⟩,
  ⟨(some 26), none, .bsl 1 [(.t 25)]⟩,
  ⟨(some 27), none, .app 1 8 (.t 24) (.t 26)⟩,
  ⟨(some 5), none, .mv (.t 27)⟩]
@[go_sem] def x_circuit_Critical_10 : List XO := [
  ⟨(some 28), none, .bin .add .no (.t 15) (.c (.int .i64 1))⟩,
  ⟨(some 15), none, .mv (.t 28)⟩]
def x_circuit_Critical_L11 : XCode :=
  (.seq (.reg x_circuit_Critical_6) (.seq (.cond (.t 16) .skip (.exit 0)) (.seq (.block 1 (.seq (.reg x_circuit_Critical_7) (.seq (.reg x_circuit_Critical_8) (.cond (.t 23) (.reg x_circuit_Critical_9) .skip)))) (.reg x_circuit_Critical_10))))
@[go_sem] def x_circuit_Critical_12 : List XO := [
  ⟨(some 29), none, .mv (.t 5)⟩,
  ⟨(some 2), none, .mv (.t 29)⟩,
  ⟨(some 3), none, .mv (.c (.int .i64 0))⟩]
def x_circuit_Critical : XFunc := { np := 1, res := [.t 2, .t 3], body :=
  (.seq (.reg x_circuit_Critical_0) (.seq (.seq (.reg x_circuit_Critical_1) (.seq (.reg x_circuit_Critical_2) (.cond (.t 10) (.seq (.reg x_circuit_Critical_3) .ret) .skip))) (.seq (.reg x_circuit_Critical_4) (.seq (.seq (.reg x_circuit_Critical_5) (.block 0 (.loop x_circuit_Critical_L11))) (.seq (.reg x_circuit_Critical_12) .ret))))) }

/- slices.Contains[[]int,int] boxF [] frz [] -/
@[go_sem] def x_slices_Contains___int_int__0 : List XO := [
  ⟨(some 4), none, .mv (.c (.bool false))⟩]
@[go_sem] def x_slices_Contains___int_int__1 : List XO := [
  ⟨(some 5), none, .mv (.t 0)⟩,
  ⟨(some 6), none, .mv (.t 1)⟩,
  ⟨(some 7), none, .call "slices.Index[[]int,int]" [(.t 5), (.t 6)]⟩,
  ⟨(some 8), none, .bin .geq .no (.t 7) (.c (.int .i64 0))⟩,
  ⟨(some 4), none, .mv (.t 8)⟩]
def x_slices_Contains___int_int_ : XFunc := { np := 2, res := [.t 4], body :=
  (.seq (.reg x_slices_Contains___int_int__0) (.seq (.reg x_slices_Contains___int_int__1) .ret)) }

/- newel/circuit.weak boxF [2, 6] frz [] -/
@[go_sem] def x_circuit_weak_0 : List XO := [
  ⟨(some 2), none, .boxF (.t 0)⟩,
  ⟨(some 4), none, .mv (.c (.slice none 0 0))⟩]
@[go_sem] def x_circuit_weak_1 : List XO := [
  ⟨(some 6), none, .fldA 0 (.tf 2)⟩,
  ⟨(some 7), none, .load false 1 (.tf 6)⟩,
  ⟨(some 8), none, .mv (.c (.int .i64 0))⟩]
@[go_sem] def x_circuit_weak_2 : List XO := [
  ⟨(some 9), none, .bin .lss .no (.t 8) (.t 7)⟩]
@[go_sem] def x_circuit_weak_3 : List XO := [
  ⟨(some 10), none, .mv (.t 8)⟩,
  ⟨(some 5), none, .mv (.t 10)⟩]
@[go_sem] def x_circuit_weak_4 : List XO := [
  ⟨(some 11), none, .load true 3 (.tf 2)⟩,
  ⟨(some 12), none, .mv (.t 5)⟩,
  ⟨(some 13), none, .bin .shl .no (.c (.int .i64 1)) (.t 12)⟩,
  ⟨(some 14), none, .mv (.t 1)⟩,
  ⟨(some 15), none, .build [(.int .i64 0), (.slice none 0 0), (.slice none 0 0), (.int .i64 0), (.int .i64 0), (.int .i64 0)] [(0, 3, (.t 11)), (3, 1, (.t 13)), (4, 1, (.t 14))]⟩,
  ⟨(some 16), none, .call "(newel/circuit.state).wire" [(.t 15), (.c (.int .i64 0))]⟩]
@[go_sem] def x_circuit_weak_5 : List XO := [
  ⟨(some 17), none, .mv (.t 4)⟩,
  ⟨(some 18), none, .mv (.t 5)⟩,
  ⟨(some 19), none, .bsl 1 [(.t 18)]⟩,
  ⟨(some 20), none, .app 1 8 (.t 17) (.t 19)⟩,
  ⟨(some 4), none, .mv (.t 20)⟩]
@[go_sem] def x_circuit_weak_6 : List XO := [
  ⟨(some 21), none, .bin .add .no (.t 8) (.c (.int .i64 1))⟩,
  ⟨(some 8), none, .mv (.t 21)⟩]
def x_circuit_weak_L7 : XCode :=
  (.seq (.reg x_circuit_weak_2) (.seq (.cond (.t 9) .skip (.exit 0)) (.seq (.block 1 (.seq (.reg x_circuit_weak_3) (.seq (.reg x_circuit_weak_4) (.cond (.t 16) (.reg x_circuit_weak_5) .skip)))) (.reg x_circuit_weak_6))))
@[go_sem] def x_circuit_weak_8 : List XO := [
  ⟨(some 22), none, .mv (.t 4)⟩,
  ⟨(some 4), none, .mv (.t 22)⟩]
def x_circuit_weak : XFunc := { np := 2, res := [.t 4], body :=
  (.seq (.reg x_circuit_weak_0) (.seq (.seq (.reg x_circuit_weak_1) (.block 0 (.loop x_circuit_weak_L7))) (.seq (.reg x_circuit_weak_8) .ret))) }

/- newel/circuit.checkRota boxF [5, 36, 32, 27, 21, 16, 3] frz [] -/
@[go_sem] def x_circuit_checkRota_0 : List XO := [
  ⟨(some 3), none, .boxF (.t 0)⟩,
  ⟨(some 5), none, .boxF (.t 2)⟩,
  ⟨(some 6), none, .mv (.c (.int .i64 0))⟩]
@[go_sem] def x_circuit_checkRota_1 : List XO := [
  ⟨(some 10), none, .load true 3 (.tf 3)⟩,
  ⟨(some 11), none, .mv (.t 1)⟩,
  ⟨(some 12), none, .call "newel/circuit.check" [(.t 10), (.t 11)]⟩,
  ⟨(some 7), none, .mv (.t 12)⟩]
@[go_sem] def x_circuit_checkRota_2 : List XO := [
  ⟨(some 13), none, .mv (.t 7)⟩,
  ⟨(some 14), none, .bin .neq .no (.t 13) (.c (.int .i64 0))⟩]
@[go_sem] def x_circuit_checkRota_3 : List XO := [
  ⟨(some 15), none, .mv (.t 7)⟩,
  ⟨(some 6), none, .mv (.t 15)⟩]
@[go_sem] def x_circuit_checkRota_4 : List XO := [
  ⟨(some 16), none, .fldA 0 (.tf 5)⟩,
  ⟨(some 17), none, .load false 1 (.tf 16)⟩,
  ⟨(some 18), none, .len false (.t 17)⟩,
  ⟨(some 19), none, .bin .lss .no (.t 18) (.c (.int .i64 1))⟩,
  ⟨(some 20), none, .mv (.t 19)⟩,
  ⟨(some 21), (some (20, false)), .fldA 0 (.tf 5)⟩,
  ⟨(some 22), (some (20, false)), .load false 1 (.tf 21)⟩,
  ⟨(some 23), (some (20, false)), .len false (.t 22)⟩,
  ⟨(some 24), (some (20, false)), .bin .gtr .no (.t 23) (.c (.int .i64 60))⟩,
  ⟨(some 25), none, .pick (.t 20) (.c (.bool true)) (.t 24)⟩,
  ⟨(some 26), none, .mv (.t 25)⟩,
  ⟨(some 27), (some (26, false)), .fldA 1 (.tf 5)⟩,
  ⟨(some 28), (some (26, false)), .load false 1 (.tf 27)⟩,
  ⟨(some 29), (some (26, false)), .bin .lss .no (.t 28) (.c (.int .i64 1))⟩,
  ⟨(some 30), none, .pick (.t 26) (.c (.bool true)) (.t 29)⟩,
  ⟨(some 31), none, .mv (.t 30)⟩,
  ⟨(some 32), (some (31, false)), .fldA 1 (.tf 5)⟩,
  ⟨(some 33), (some (31, false)), .load false 1 (.tf 32)⟩,
  ⟨(some 34), (some (31, false)), .bin .gtr .no (.t 33) (.c (.int .i64 60))⟩,
  ⟨(some 35), none, .pick (.t 31) (.c (.bool true)) (.t 34)⟩]
@[go_sem] def x_circuit_checkRota_5 : List XO := [
  ⟨(some 6), none, .mv (.c (.int .i64 32))⟩]
@[go_sem] def x_circuit_checkRota_6 : List XO := [
  ⟨(some 36), none, .fldA 0 (.tf 5)⟩,
  ⟨(some 37), none, .load false 1 (.tf 36)⟩,
  ⟨(some 38), none, .len false (.t 37)⟩,
  ⟨(some 39), none, .mv (.c (.int .i64 0))⟩]
@[go_sem] def x_circuit_checkRota_7 : List XO := [
  ⟨(some 40), none, .bin .lss .no (.t 39) (.t 38)⟩]
@[go_sem] def x_circuit_checkRota_8 : List XO := [
  ⟨(some 41), none, .ixA 1 (.t 37) (.t 39)⟩,
  ⟨(some 42), none, .load false 1 (.t 41)⟩,
  ⟨(some 9), none, .mv (.t 42)⟩]
@[go_sem] def x_circuit_checkRota_9 : List XO := [
  ⟨(some 43), none, .mv (.t 9)⟩,
  ⟨(some 44), none, .mv (.t 1)⟩,
  ⟨(some 45), none, .len false (.t 44)⟩,
  ⟨(some 46), none, .call "newel/circuit.ascending" [(.t 43), (.c (.int .i64 0)), (.t 45)]⟩,
  ⟨(some 47), none, .un .not (.t 46)⟩]
@[go_sem] def x_circuit_checkRota_10 : List XO := [
  ⟨(some 6), none, .mv (.c (.int .i64 32))⟩]
@[go_sem] def x_circuit_checkRota_11 : List XO := [
  ⟨(some 48), none, .bin .add .no (.t 39) (.c (.int .i64 1))⟩,
  ⟨(some 39), none, .mv (.t 48)⟩]
def x_circuit_checkRota_L12 : XCode :=
  (.seq (.reg x_circuit_checkRota_7) (.seq (.cond (.t 40) .skip (.exit 0)) (.seq (.block 1 (.seq (.reg x_circuit_checkRota_8) (.seq (.reg x_circuit_checkRota_9) (.cond (.t 47) (.seq (.reg x_circuit_checkRota_10) .ret) .skip)))) (.reg x_circuit_checkRota_11))))
@[go_sem] def x_circuit_checkRota_13 : List XO := [
  ⟨(some 6), none, .mv (.c (.int .i64 0))⟩]
def x_circuit_checkRota : XFunc := { np := 3, res := [.t 6], body :=
  (.seq (.reg x_circuit_checkRota_0) (.seq (.seq (.reg x_circuit_checkRota_1) (.seq (.reg x_circuit_checkRota_2) (.cond (.t 14) (.seq (.reg x_circuit_checkRota_3) .ret) .skip))) (.seq (.seq (.reg x_circuit_checkRota_4) (.cond (.t 35) (.seq (.reg x_circuit_checkRota_5) .ret) .skip)) (.seq (.seq (.reg x_circuit_checkRota_6) (.block 0 (.loop x_circuit_checkRota_L12))) (.seq (.reg x_circuit_checkRota_13) .ret))))) }

/- newel/circuit.gap boxF [] frz [] -/
@[go_sem] def x_circuit_gap_0 : List XO := [
  ⟨(some 6), none, .mv (.c (.int .i64 0))⟩,
  ⟨(some 7), none, .mv (.c (.int .i64 0))⟩,
  ⟨(some 8), none, .mv (.c (.bool false))⟩]
@[go_sem] def x_circuit_gap_1 : List XO := [
  ⟨(some 11), none, .mv (.t 0)⟩,
  ⟨(some 12), none, .mv (.c (.int .i64 0))⟩]
@[go_sem] def x_circuit_gap_2 : List XO := [
  ⟨(some 13), none, .bin .lss .no (.t 12) (.t 11)⟩]
@[go_sem] def x_circuit_gap_3 : List XO := [
  ⟨(some 14), none, .mv (.t 12)⟩,
  ⟨(some 6), none, .mv (.t 14)⟩]
@[go_sem] def x_circuit_gap_4 : List XO := [
  ⟨(some 15), none, .mv (.t 2)⟩,
  ⟨(some 16), none, .len false (.t 15)⟩,
  ⟨(some 17), none, .mv (.c (.int .i64 0))⟩]
@[go_sem] def x_circuit_gap_5 : List XO := [
  ⟨(some 18), none, .bin .lss .no (.t 17) (.t 16)⟩]
@[go_sem] def x_circuit_gap_6 : List XO := [
  ⟨(some 19), none, .mv (.t 17)⟩,
  ⟨(some 7), none, .mv (.t 19)⟩]
@[go_sem] def x_circuit_gap_7 : List XO := [
  ⟨(some 9), none, .mv (.c (.bool false))⟩]
@[go_sem] def x_circuit_gap_8 : List XO := [
  ⟨(some 20), none, .mv (.t 1)⟩,
  ⟨(some 21), none, .mv (.c (.int .i64 0))⟩]
@[go_sem] def x_circuit_gap_9 : List XO := [
  ⟨(some 22), none, .bin .lss .no (.t 21) (.t 20)⟩]
@[go_sem] def x_circuit_gap_10 : List XO := [
  ⟨(some 23), none, .mv (.t 21)⟩,
  ⟨(some 10), none, .mv (.t 23)⟩]
@[go_sem] def x_circuit_gap_11 : List XO := [
  ⟨(some 24), none, .mv (.t 9)⟩,
  ⟨(some 25), none, .mv (.t 24)⟩,
  ⟨(some 26), (some (25, false)), .mv (.t 2)⟩,
  ⟨(some 27), (some (25, false)), .mv (.t 7)⟩,
  ⟨(some 28), (some (25, false)), .mv (.t 10)⟩,
  ⟨(some 29), (some (25, false)), .bin .add .no (.t 27) (.t 28)⟩,
  ⟨(some 30), (some (25, false)), .mv (.t 2)⟩,
  ⟨(some 31), (some (25, false)), .len false (.t 30)⟩,
  ⟨(some 32), (some (25, false)), .bin .rem .no (.t 29) (.t 31)⟩,
  ⟨(some 33), (some (25, false)), .ixA 1 (.t 26) (.t 32)⟩,
  ⟨(some 34), (some (25, false)), .load false 1 (.t 33)⟩,
  ⟨(some 35), (some (25, false)), .mv (.t 6)⟩,
  ⟨(some 36), (some (25, false)), .bin .shr .no (.t 34) (.t 35)⟩,
  ⟨(some 37), (some (25, false)), .bin .and .no (.t 36) (.c (.int .i64 1))⟩,
  ⟨(some 38), (some (25, false)), .bin .eql .no (.t 37) (.c (.int .i64 1))⟩,
  ⟨(some 39), none, .pick (.t 25) (.c (.bool true)) (.t 38)⟩,
  ⟨(some 9), none, .mv (.t 39)⟩]
@[go_sem] def x_circuit_gap_12 : List XO := [
  ⟨(some 40), none, .bin .add .no (.t 21) (.c (.int .i64 1))⟩,
  ⟨(some 21), none, .mv (.t 40)⟩]
def x_circuit_gap_L13 : XCode :=
  (.seq (.reg x_circuit_gap_9) (.seq (.cond (.t 22) .skip (.exit 4)) (.seq (.block 5 (.seq (.reg x_circuit_gap_10) (.reg x_circuit_gap_11))) (.reg x_circuit_gap_12))))
@[go_sem] def x_circuit_gap_14 : List XO := [
  ⟨(some 41), none, .mv (.t 9)⟩,
  ⟨(some 42), none, .un .not (.t 41)⟩]
@[go_sem] def x_circuit_gap_15 : List XO := [
  ⟨(some 43), none, .mv (.t 6)⟩,
  ⟨(some 44), none, .mv (.t 7)⟩,
  ⟨(some 6), none, .mv (.t 43)⟩,
  ⟨(some 7), none, .mv (.t 44)⟩,
  ⟨(some 8), none, .mv (.c (.bool false))⟩]
@[go_sem] def x_circuit_gap_16 : List XO := [
  ⟨(some 45), none, .bin .add .no (.t 17) (.c (.int .i64 1))⟩,
  ⟨(some 17), none, .mv (.t 45)⟩]
def x_circuit_gap_L17 : XCode :=
  (.seq (.reg x_circuit_gap_5) (.seq (.cond (.t 18) .skip (.exit 2)) (.seq (.block 3 (.seq (.reg x_circuit_gap_6) (.seq (.reg x_circuit_gap_7) (.seq (.seq (.reg x_circuit_gap_8) (.block 4 (.loop x_circuit_gap_L13))) (.seq (.reg x_circuit_gap_14) (.cond (.t 42) (.seq (.reg x_circuit_gap_15) .ret) .skip)))))) (.reg x_circuit_gap_16))))
@[go_sem] def x_circuit_gap_18 : List XO := [
  ⟨(some 46), none, .bin .add .no (.t 12) (.c (.int .i64 1))⟩,
  ⟨(some 12), none, .mv (.t 46)⟩]
def x_circuit_gap_L19 : XCode :=
  (.seq (.reg x_circuit_gap_2) (.seq (.cond (.t 13) .skip (.exit 0)) (.seq (.block 1 (.seq (.reg x_circuit_gap_3) (.seq (.reg x_circuit_gap_4) (.block 2 (.loop x_circuit_gap_L17))))) (.reg x_circuit_gap_18))))
@[go_sem] def x_circuit_gap_20 : List XO := [
  ⟨(some 6), none, .mv (.c (.int .i64 0))⟩,
  ⟨(some 7), none, .mv (.c (.int .i64 0))⟩,
  ⟨(some 8), none, .mv (.c (.bool true))⟩]
def x_circuit_gap : XFunc := { np := 3, res := [.t 6, .t 7, .t 8], body :=
  (.seq (.reg x_circuit_gap_0) (.seq (.seq (.reg x_circuit_gap_1) (.block 0 (.loop x_circuit_gap_L19))) (.seq (.reg x_circuit_gap_20) .ret))) }

/- newel/circuit.Check boxF [1, 93, 69, 50, 46, 41, 32, 27, 22, 17, 13, 9] frz [(46, 4)] -/
@[go_sem] def x_circuit_Check_0 : List XO := [
  ⟨(some 1), none, .boxF (.t 0)⟩,
  ⟨(some 2), none, .mv (.c (.int .i64 0))⟩]
@[go_sem] def x_circuit_Check_1 : List XO := [
  ⟨(some 9), none, .fldA 0 (.tf 1)⟩,
  ⟨(some 10), none, .load false 1 (.tf 9)⟩,
  ⟨(some 11), none, .bin .geq .no (.t 10) (.c (.int .i64 1))⟩,
  ⟨(some 12), none, .mv (.t 11)⟩,
  ⟨(some 13), (some (12, true)), .fldA 0 (.tf 1)⟩,
  ⟨(some 14), (some (12, true)), .load false 1 (.tf 13)⟩,
  ⟨(some 15), (some (12, true)), .bin .leq .no (.t 14) (.c (.int .i64 8))⟩,
  ⟨(some 16), none, .pick (.t 12) (.t 15) (.c (.bool false))⟩,
  ⟨(some 17), none, .fldA 1 (.tf 1)⟩,
  ⟨(some 18), none, .load false 1 (.tf 17)⟩,
  ⟨(some 19), none, .len false (.t 18)⟩,
  ⟨(some 20), none, .bin .geq .no (.t 19) (.c (.int .i64 1))⟩,
  ⟨(some 21), none, .mv (.t 20)⟩,
  ⟨(some 22), (some (21, true)), .fldA 1 (.tf 1)⟩,
  ⟨(some 23), (some (21, true)), .load false 1 (.tf 22)⟩,
  ⟨(some 24), (some (21, true)), .len false (.t 23)⟩,
  ⟨(some 25), (some (21, true)), .bin .leq .no (.t 24) (.c (.int .i64 12))⟩,
  ⟨(some 26), none, .pick (.t 21) (.t 25) (.c (.bool false))⟩,
  ⟨(some 27), none, .fldA 2 (.tf 1)⟩,
  ⟨(some 28), none, .load false 1 (.tf 27)⟩,
  ⟨(some 29), none, .len false (.t 28)⟩,
  ⟨(some 30), none, .bin .geq .no (.t 29) (.c (.int .i64 1))⟩,
  ⟨(some 31), none, .mv (.t 30)⟩,
  ⟨(some 32), (some (31, true)), .fldA 2 (.tf 1)⟩,
  ⟨(some 33), (some (31, true)), .load false 1 (.tf 32)⟩,
  ⟨(some 34), (some (31, true)), .len false (.t 33)⟩,
  ⟨(some 35), (some (31, true)), .bin .leq .no (.t 34) (.c (.int .i64 24))⟩,
  ⟨(some 36), none, .pick (.t 31) (.t 35) (.c (.bool false))⟩,
  ⟨(some 37), none, .bsl 1 [(.t 16), (.t 26), (.t 36)]⟩,
  ⟨(some 3), none, .mv (.t 37)⟩]
@[go_sem] def x_circuit_Check_2 : List XO := [
  ⟨(some 38), none, .mv (.t 3)⟩,
  ⟨(some 39), none, .call "slices.Contains[[]bool,bool]" [(.t 38), (.c (.bool false))]⟩,
  ⟨(some 40), none, .mv (.t 39)⟩,
  ⟨(some 41), (some (40, false)), .fldA 1 (.tf 1)⟩,
  ⟨(some 42), (some (40, false)), .load false 1 (.tf 41)⟩,
  ⟨(some 43), (some (40, false)), .mkfn "newel/circuit.Check$1" [] [(.t 1)]⟩,
  ⟨(some 44), (some (40, false)), .call "slices.ContainsFunc[[]int,int]" [(.t 42), (.t 43)]⟩,
  ⟨(some 45), none, .pick (.t 40) (.c (.bool true)) (.t 44)⟩]
@[go_sem] def x_circuit_Check_3 : List XO := [
  ⟨(some 2), none, .mv (.c (.int .i64 30))⟩]
@[go_sem] def x_circuit_Check_4 : List XO := [
  ⟨(some 46), none, .fldA 2 (.tf 1)⟩,
  ⟨(some 47), none, .load false 1 (.tf 46)⟩,
  ⟨(some 48), none, .len false (.t 47)⟩,
  ⟨(some 49), none, .mksl 1 [(.int .i64 0)] 8 (.t 48) (.t 48)⟩,
  ⟨(some 4), none, .mv (.t 49)⟩]
@[go_sem] def x_circuit_Check_5 : List XO := [
  ⟨(some 50), none, .fldA 2 (.tf 1)⟩,
  ⟨(some 51), none, .load false 1 (.tf 50)⟩,
  ⟨(some 52), none, .len false (.t 51)⟩,
  ⟨(some 53), none, .mv (.c (.int .i64 0))⟩]
@[go_sem] def x_circuit_Check_6 : List XO := [
  ⟨(some 54), none, .bin .lss .no (.t 53) (.t 52)⟩]
@[go_sem] def x_circuit_Check_7 : List XO := [
  ⟨(some 55), none, .mv (.t 53)⟩,
  ⟨(some 56), none, .ixA 2 (.t 51) (.t 53)⟩,
  ⟨(some 57), none, .load true 2 (.t 56)⟩,
  ⟨(some 6), none, .alloc [(.int .i64 0), (.slice none 0 0)]⟩,
  ⟨(some 5), none, .mv (.t 55)⟩,
  ⟨none, none, .store 2 (.t 6) (.t 57)⟩]
@[go_sem] def x_circuit_Check_8 : List XO := [
  ⟨(some 58), none, .fldA 0 (.t 6)⟩,
  ⟨(some 59), none, .load false 1 (.t 58)⟩]
@[go_sem] def x_circuit_Check_9 : List XO := [
  ⟨(some 61), none, .bin .eql .no (.t 59) (.c (.int .i64 1))⟩,
  ⟨(some 60), none, .mv (.t 61)⟩]
@[go_sem] def x_circuit_Check_10 : List XO := [
  ⟨(some 62), none, .fldA 1 (.t 6)⟩,
  ⟨(some 63), none, .load false 1 (.t 62)⟩,
  ⟨(some 64), none, .len false (.t 63)⟩,
  ⟨(some 65), none, .bin .neq .no (.t 64) (.c (.int .i64 1))⟩,
  ⟨(some 66), none, .mv (.t 65)⟩,
  ⟨(some 67), (some (66, false)), .fldA 1 (.t 6)⟩,
  ⟨(some 68), (some (66, false)), .load false 1 (.t 67)⟩,
  ⟨(some 69), (some (66, false)), .fldA 1 (.tf 1)⟩,
  ⟨(some 70), (some (66, false)), .load false 1 (.tf 69)⟩,
  ⟨(some 71), (some (66, false)), .len false (.t 70)⟩,
  ⟨(some 72), (some (66, false)), .call "newel/circuit.ascending" [(.t 68), (.c (.int .i64 0)), (.t 71)]⟩,
  ⟨(some 73), (some (66, false)), .un .not (.t 72)⟩,
  ⟨(some 74), none, .pick (.t 66) (.c (.bool true)) (.t 73)⟩]
@[go_sem] def x_circuit_Check_11 : List XO := [
  ⟨(some 2), none, .mv (.c (.int .i64 30))⟩]
@[go_sem] def x_circuit_Check_12 : List XO := [
  ⟨(some 76), none, .bin .eql .no (.t 59) (.c (.int .i64 2))⟩,
  ⟨(some 75), none, .mv (.t 76)⟩]
@[go_sem] def x_circuit_Check_13 : List XO := [
  ⟨(some 77), none, .bin .eql .no (.t 59) (.c (.int .i64 3))⟩,
  ⟨(some 75), none, .mv (.t 77)⟩]
@[go_sem] def x_circuit_Check_14 : List XO := [
  ⟨(some 78), none, .fldA 1 (.t 6)⟩,
  ⟨(some 79), none, .load false 1 (.t 78)⟩,
  ⟨(some 80), none, .len false (.t 79)⟩,
  ⟨(some 81), none, .bin .lss .no (.t 80) (.c (.int .i64 1))⟩,
  ⟨(some 82), none, .mv (.t 81)⟩,
  ⟨(some 83), (some (82, false)), .fldA 1 (.t 6)⟩,
  ⟨(some 84), (some (82, false)), .load false 1 (.t 83)⟩,
  ⟨(some 85), (some (82, false)), .len false (.t 84)⟩,
  ⟨(some 86), (some (82, false)), .bin .gtr .no (.t 85) (.c (.int .i64 8))⟩,
  ⟨(some 87), none, .pick (.t 82) (.c (.bool true)) (.t 86)⟩,
  ⟨(some 88), none, .mv (.t 87)⟩,
  ⟨(some 89), (some (88, false)), .fldA 1 (.t 6)⟩,
  ⟨(some 90), (some (88, false)), .load false 1 (.t 89)⟩,
  ⟨(some 91), (some (88, false)), .mv (.t 5)⟩,
  ⟨(some 92), (some (88, false)), .bin .add .no (.t 91) (.c (.int .i64 1))⟩,
  ⟨(some 93), (some (88, false)), .fldA 2 (.tf 1)⟩,
  ⟨(some 94), (some (88, false)), .load false 1 (.tf 93)⟩,
  ⟨(some 95), (some (88, false)), .len false (.t 94)⟩,
  ⟨(some 96), (some (88, false)), .call "newel/circuit.ascending" [(.t 90), (.t 92), (.t 95)]⟩,
  ⟨(some 97), (some (88, false)), .un .not (.t 96)⟩,
  ⟨(some 98), none, .pick (.t 88) (.c (.bool true)) (.t 97)⟩]
@[go_sem] def x_circuit_Check_15 : List XO := [
  ⟨(some 2), none, .mv (.c (.int .i64 30))⟩]
@[go_sem] def x_circuit_Check_16 : List XO := [
  ⟨(some 99), none, .fldA 1 (.t 6)⟩,
  ⟨(some 100), none, .load false 1 (.t 99)⟩,
  ⟨(some 101), none, .len false (.t 100)⟩,
  ⟨(some 102), none, .mv (.c (.int .i64 0))⟩]
@[go_sem] def x_circuit_Check_17 : List XO := [
  ⟨(some 103), none, .bin .lss .no (.t 102) (.t 101)⟩]
@[go_sem] def x_circuit_Check_18 : List XO := [
  ⟨(some 104), none, .ixA 1 (.t 100) (.t 102)⟩,
  ⟨(some 105), none, .load false 1 (.t 104)⟩,
  ⟨(some 8), none, .mv (.t 105)⟩]
@[go_sem] def x_circuit_Check_19 : List XO := [
  ⟨(some 106), none, .mv (.t 4)⟩,
  ⟨(some 107), none, .mv (.t 8)⟩,
  ⟨(some 108), none, .ixA 1 (.t 106) (.t 107)⟩,
  ⟨(some 109), none, .load false 1 (.t 108)⟩,
  ⟨(some 110), none, .bin .add .no (.t 109) (.c (.int .i64 1))⟩,
  ⟨(some 111), none, .ixA 1 (.t 106) (.t 107)⟩,
  ⟨none, none, .store 1 (.t 111) (.t 110)⟩]
@[go_sem] def x_circuit_Check_20 : List XO := [
  ⟨(some 112), none, .bin .add .no (.t 102) (.c (.int .i64 1))⟩,
  ⟨(some 102), none, .mv (.t 112)⟩]
def x_circuit_Check_L21 : XCode :=
  (.seq (.reg x_circuit_Check_17) (.seq (.cond (.t 103) .skip (.exit 3)) (.seq (.block 4 (.seq (.reg x_circuit_Check_18) (.reg x_circuit_Check_19))) (.reg x_circuit_Check_20))))
@[go_sem] def x_circuit_Check_22 : List XO := [
  ⟨(some 2), none, .mv (.c (.int .i64 30))⟩]
@[go_sem] def x_circuit_Check_23 : List XO := [
  ⟨(some 113), none, .bin .add .no (.t 53) (.c (.int .i64 1))⟩,
  ⟨(some 53), none, .mv (.t 113)⟩]
def x_circuit_Check_L24 : XCode :=
  (.seq (.reg x_circuit_Check_6) (.seq (.cond (.t 54) .skip (.exit 0)) (.seq (.block 1 (.seq (.reg x_circuit_Check_7) (.seq (.reg x_circuit_Check_8) (.block 2 (.seq (.reg x_circuit_Check_9) (.cond (.t 60) (.seq (.reg x_circuit_Check_10) (.cond (.t 74) (.seq (.reg x_circuit_Check_11) .ret) .skip)) (.seq (.seq (.reg x_circuit_Check_12) (.cond (.t 75) .skip (.reg x_circuit_Check_13))) (.cond (.t 75) (.seq (.seq (.reg x_circuit_Check_14) (.cond (.t 98) (.seq (.reg x_circuit_Check_15) .ret) .skip)) (.seq (.reg x_circuit_Check_16) (.block 3 (.loop x_circuit_Check_L21)))) (.seq (.reg x_circuit_Check_22) .ret))))))))) (.reg x_circuit_Check_23))))
@[go_sem] def x_circuit_Check_25 : List XO := [
  ⟨(some 114), none, .mv (.t 4)⟩,
  ⟨(some 115), none, .ixA 1 (.t 114) (.c (.int .i64 0))⟩,
  ⟨(some 116), none, .load false 1 (.t 115)⟩,
  ⟨(some 117), none, .bin .neq .no (.t 116) (.c (.int .i64 0))⟩,
  ⟨(some 118), none, .mv (.t 117)⟩,
  ⟨(some 119), (some (118, false)), .mv (.t 4)⟩,
  ⟨(some 120), (some (118, false)), .slc 1 (.t 119) (some (.c (.int .i64 1))) none⟩,
  ⟨(some 121), (some (118, false)), .call "slices.ContainsFunc[[]int,int]" [(.t 120), (.f "newel/circuit.Check$2")]⟩,
  ⟨(some 122), none, .pick (.t 118) (.c (.bool true)) (.t 121)⟩]
@[go_sem] def x_circuit_Check_26 : List XO := [
  ⟨(some 2), none, .mv (.c (.int .i64 30))⟩]
@[go_sem] def x_circuit_Check_27 : List XO := [
  ⟨(some 2), none, .mv (.c (.int .i64 0))⟩]
def x_circuit_Check : XFunc := { np := 1, res := [.t 2], body :=
  (.seq (.reg x_circuit_Check_0) (.seq (.reg x_circuit_Check_1) (.seq (.seq (.reg x_circuit_Check_2) (.cond (.t 45) (.seq (.reg x_circuit_Check_3) .ret) .skip)) (.seq (.reg x_circuit_Check_4) (.seq (.seq (.reg x_circuit_Check_5) (.block 0 (.loop x_circuit_Check_L24))) (.seq (.seq (.seq .ghost (.reg x_circuit_Check_25)) (.cond (.t 122) (.seq (.reg x_circuit_Check_26) .ret) .skip)) (.seq (.reg x_circuit_Check_27) .ret))))))) }

/- newel/circuit.isSet boxF [] frz [] -/
@[go_sem] def x_circuit_isSet_0 : List XO := [
  ⟨(some 4), none, .mv (.c (.bool false))⟩]
@[go_sem] def x_circuit_isSet_1 : List XO := [
  ⟨(some 5), none, .mv (.t 0)⟩,
  ⟨(some 6), none, .bin .geq .no (.t 5) (.c (.int .i64 0))⟩,
  ⟨(some 7), none, .mv (.t 6)⟩,
  ⟨(some 8), (some (7, true)), .mv (.t 0)⟩,
  ⟨(some 9), (some (7, true)), .mv (.t 1)⟩,
  ⟨(some 10), (some (7, true)), .bin .shl .no (.c (.int .i64 1)) (.t 9)⟩,
  ⟨(some 11), (some (7, true)), .bin .lss .no (.t 8) (.t 10)⟩,
  ⟨(some 12), none, .pick (.t 7) (.t 11) (.c (.bool false))⟩,
  ⟨(some 4), none, .mv (.t 12)⟩]
def x_circuit_isSet : XFunc := { np := 2, res := [.t 4], body :=
  (.seq (.reg x_circuit_isSet_0) (.seq (.reg x_circuit_isSet_1) .ret)) }

/- math/bits.TrailingZeros boxF [] frz [] -/
@[go_sem] def x_math_bits_TrailingZeros_0 : List XO := [
  ⟨(some 2), none, .mv (.c (.int .i64 0))⟩]
@[go_sem] def x_math_bits_TrailingZeros_1 : List XO := [
  ⟨(some 3), none, .mv (.t 0)⟩,
  ⟨(some 4), none, .cvtI .u32 (.t 3)⟩,
  ⟨(some 5), none, .call "math/bits.TrailingZeros32" [(.t 4)]⟩,
  ⟨(some 2), none, .mv (.t 5)⟩]
@[go_sem] def x_math_bits_TrailingZeros_2 : List XO := [
  ⟨(some 6), none, .mv (.t 0)⟩,
  ⟨(some 7), none, .call "math/bits.TrailingZeros64" [(.t 6)]⟩,
  ⟨(some 2), none, .mv (.t 7)⟩]
def x_math_bits_TrailingZeros : XFunc := { np := 1, res := [.t 2], body :=
  (.seq (.reg x_math_bits_TrailingZeros_0) (.seq (.cond (.c (.bool false)) (.seq (.reg x_math_bits_TrailingZeros_1) .ret) .skip) (.seq (.reg x_math_bits_TrailingZeros_2) .ret))) }

/- newel/circuit.shows boxF [4, 24, 19, 15, 10, 3] frz [] -/
@[go_sem] def x_circuit_shows_0 : List XO := [
  ⟨(some 3), none, .boxF (.t 0)⟩,
  ⟨(some 4), none, .boxF (.t 1)⟩,
  ⟨(some 6), none, .mv (.c (.bool false))⟩]
@[go_sem] def x_circuit_shows_1 : List XO := [
  ⟨(some 9), none, .load true 3 (.tf 3)⟩,
  ⟨(some 10), none, .fldA 0 (.tf 4)⟩,
  ⟨(some 11), none, .load false 1 (.tf 10)⟩,
  ⟨(some 12), none, .mv (.t 2)⟩,
  ⟨(some 13), none, .build [(.int .i64 0), (.slice none 0 0), (.slice none 0 0), (.int .i64 0), (.int .i64 0), (.int .i64 0)] [(0, 3, (.t 9)), (3, 1, (.t 11)), (4, 1, (.t 12))]⟩,
  ⟨(some 14), none, .load true 3 (.tf 3)⟩,
  ⟨(some 15), none, .fldA 0 (.tf 4)⟩,
  ⟨(some 16), none, .load false 1 (.tf 15)⟩,
  ⟨(some 17), none, .build [(.int .i64 0), (.slice none 0 0), (.slice none 0 0), (.int .i64 0), (.int .i64 0), (.int .i64 0)] [(0, 3, (.t 14)), (3, 1, (.t 16))]⟩,
  ⟨(some 7), none, .alloc [(.int .i64 0), (.slice none 0 0), (.slice none 0 0), (.int .i64 0), (.int .i64 0), (.int .i64 0)]⟩,
  ⟨(some 8), none, .alloc [(.int .i64 0), (.slice none 0 0), (.slice none 0 0), (.int .i64 0), (.int .i64 0), (.int .i64 0)]⟩,
  ⟨none, none, .store 6 (.t 7) (.t 13)⟩,
  ⟨none, none, .store 6 (.t 8) (.t 17)⟩]
@[go_sem] def x_circuit_shows_2 : List XO := [
  ⟨(some 18), none, .load true 6 (.t 7)⟩,
  ⟨(some 19), none, .fldA 1 (.tf 4)⟩,
  ⟨(some 20), none, .load false 1 (.tf 19)⟩,
  ⟨(some 21), none, .call "(newel/circuit.state).wire" [(.t 18), (.t 20)]⟩,
  ⟨(some 22), none, .mv (.t 21)⟩,
  ⟨(some 23), (some (22, true)), .load true 6 (.t 8)⟩,
  ⟨(some 24), (some (22, true)), .fldA 1 (.tf 4)⟩,
  ⟨(some 25), (some (22, true)), .load false 1 (.tf 24)⟩,
  ⟨(some 26), (some (22, true)), .call "(newel/circuit.state).wire" [(.t 23), (.t 25)]⟩,
  ⟨(some 27), (some (22, true)), .un .not (.t 26)⟩,
  ⟨(some 28), none, .pick (.t 22) (.t 27) (.c (.bool false))⟩,
  ⟨(some 6), none, .mv (.t 28)⟩]
def x_circuit_shows : XFunc := { np := 3, res := [.t 6], body :=
  (.seq (.reg x_circuit_shows_0) (.seq (.reg x_circuit_shows_1) (.seq (.reg x_circuit_shows_2) .ret))) }

/- newel/newelref03.Tells boxF [4, 18, 16, 10, 8, 3] frz [] -/
@[go_sem] def x_r03_Tells_0 : List XO := [
  ⟨(some 3), none, .boxF (.t 0)⟩,
  ⟨(some 4), none, .boxF (.t 1)⟩,
  ⟨(some 6), none, .mv (.c (.bool false))⟩]
@[go_sem] def x_r03_Tells_1 : List XO := [
  ⟨(some 7), none, .load true 3 (.tf 3)⟩,
  ⟨(some 8), none, .fldA 1 (.tf 4)⟩,
  ⟨(some 9), none, .load false 1 (.tf 8)⟩,
  ⟨(some 10), none, .fldA 0 (.tf 4)⟩,
  ⟨(some 11), none, .load false 1 (.tf 10)⟩,
  ⟨(some 12), none, .mv (.t 2)⟩,
  ⟨(some 13), none, .call "newel/newelref03.conducts" [(.t 7), (.t 9), (.t 11), (.t 12), (.c (.int .i64 0))]⟩,
  ⟨(some 14), none, .mv (.t 13)⟩,
  ⟨(some 15), (some (14, true)), .load true 3 (.tf 3)⟩,
  ⟨(some 16), (some (14, true)), .fldA 1 (.tf 4)⟩,
  ⟨(some 17), (some (14, true)), .load false 1 (.tf 16)⟩,
  ⟨(some 18), (some (14, true)), .fldA 0 (.tf 4)⟩,
  ⟨(some 19), (some (14, true)), .load false 1 (.tf 18)⟩,
  ⟨(some 20), (some (14, true)), .call "newel/newelref03.conducts" [(.t 15), (.t 17), (.t 19), (.c (.int .i64 0)), (.c (.int .i64 0))]⟩,
  ⟨(some 21), (some (14, true)), .un .not (.t 20)⟩,
  ⟨(some 22), none, .pick (.t 14) (.t 21) (.c (.bool false))⟩,
  ⟨(some 6), none, .mv (.t 22)⟩]
def x_r03_Tells : XFunc := { np := 3, res := [.t 6], body :=
  (.seq (.reg x_r03_Tells_0) (.seq (.reg x_r03_Tells_1) .ret)) }

/- cmp.Compare[int] boxF [] frz [] -/
@[go_sem] def x_cmp_Compare_int__0 : List XO := [
  ⟨(some 4), none, .mv (.c (.int .i64 0))⟩]
@[go_sem] def x_cmp_Compare_int__1 : List XO := [
  ⟨(some 7), none, .mv (.t 0)⟩,
  ⟨(some 8), none, .call "cmp.isNaN[int]" [(.t 7)]⟩,
  ⟨(some 5), none, .mv (.t 8)⟩]
@[go_sem] def x_cmp_Compare_int__2 : List XO := [
  ⟨(some 9), none, .mv (.t 1)⟩,
  ⟨(some 10), none, .call "cmp.isNaN[int]" [(.t 9)]⟩,
  ⟨(some 6), none, .mv (.t 10)⟩]
@[go_sem] def x_cmp_Compare_int__3 : List XO := [
  ⟨(some 11), none, .mv (.t 5)⟩]
@[go_sem] def x_cmp_Compare_int__4 : List XO := [
  ⟨(some 12), none, .mv (.t 6)⟩]
@[go_sem] def x_cmp_Compare_int__5 : List XO := [
  ⟨(some 4), none, .mv (.c (.int .i64 0))⟩]
@[go_sem] def x_cmp_Compare_int__6 : List XO := [
  ⟨(some 4), none, .mv (.c (.int .i64 (-1)))⟩]
@[go_sem] def x_cmp_Compare_int__7 : List XO := [
  ⟨(some 13), none, .mv (.t 6)⟩]
@[go_sem] def x_cmp_Compare_int__8 : List XO := [
  ⟨(some 4), none, .mv (.c (.int .i64 1))⟩]
@[go_sem] def x_cmp_Compare_int__9 : List XO := [
  ⟨(some 14), none, .mv (.t 0)⟩,
  ⟨(some 15), none, .mv (.t 1)⟩,
  ⟨(some 16), none, .bin .lss .no (.t 14) (.t 15)⟩]
@[go_sem] def x_cmp_Compare_int__10 : List XO := [
  ⟨(some 4), none, .mv (.c (.int .i64 (-1)))⟩]
@[go_sem] def x_cmp_Compare_int__11 : List XO := [
  ⟨(some 17), none, .mv (.t 0)⟩,
  ⟨(some 18), none, .mv (.t 1)⟩,
  ⟨(some 19), none, .bin .gtr .no (.t 17) (.t 18)⟩]
@[go_sem] def x_cmp_Compare_int__12 : List XO := [
  ⟨(some 4), none, .mv (.c (.int .i64 1))⟩]
@[go_sem] def x_cmp_Compare_int__13 : List XO := [
  ⟨(some 4), none, .mv (.c (.int .i64 0))⟩]
def x_cmp_Compare_int_ : XFunc := { np := 2, res := [.t 4], body :=
  (.seq (.reg x_cmp_Compare_int__0) (.seq (.reg x_cmp_Compare_int__1) (.seq (.reg x_cmp_Compare_int__2) (.seq (.seq (.reg x_cmp_Compare_int__3) (.cond (.t 11) (.seq (.seq (.reg x_cmp_Compare_int__4) (.cond (.t 12) (.seq (.reg x_cmp_Compare_int__5) .ret) .skip)) (.seq (.reg x_cmp_Compare_int__6) .ret)) .skip)) (.seq (.seq (.reg x_cmp_Compare_int__7) (.cond (.t 13) (.seq (.reg x_cmp_Compare_int__8) .ret) .skip)) (.seq (.seq (.reg x_cmp_Compare_int__9) (.cond (.t 16) (.seq (.reg x_cmp_Compare_int__10) .ret) .skip)) (.seq (.seq (.reg x_cmp_Compare_int__11) (.cond (.t 19) (.seq (.reg x_cmp_Compare_int__12) .ret) .skip)) (.seq (.reg x_cmp_Compare_int__13) .ret)))))))) }

/- slices.Index[[]int,int] boxF [] frz [] -/
@[go_sem] def x_slices_Index___int_int__0 : List XO := [
  ⟨(some 4), none, .mv (.c (.int .i64 0))⟩]
@[go_sem] def x_slices_Index___int_int__1 : List XO := [
  ⟨(some 6), none, .mv (.t 0)⟩,
  ⟨(some 7), none, .len false (.t 6)⟩,
  ⟨(some 8), none, .mv (.c (.int .i64 0))⟩]
@[go_sem] def x_slices_Index___int_int__2 : List XO := [
  ⟨(some 9), none, .bin .lss .no (.t 8) (.t 7)⟩]
@[go_sem] def x_slices_Index___int_int__3 : List XO := [
  ⟨(some 10), none, .mv (.t 8)⟩,
  ⟨(some 5), none, .mv (.t 10)⟩]
@[go_sem] def x_slices_Index___int_int__4 : List XO := [
  ⟨(some 11), none, .mv (.t 1)⟩,
  ⟨(some 12), none, .mv (.t 0)⟩,
  ⟨(some 13), none, .mv (.t 5)⟩,
  ⟨(some 14), none, .ixA 1 (.t 12) (.t 13)⟩,
  ⟨(some 15), none, .load false 1 (.t 14)⟩,
  ⟨(some 16), none, .bin .eql .no (.t 11) (.t 15)⟩]
@[go_sem] def x_slices_Index___int_int__5 : List XO := [
  ⟨(some 17), none, .mv (.t 5)⟩,
  ⟨(some 4), none, .mv (.t 17)⟩]
@[go_sem] def x_slices_Index___int_int__6 : List XO := [
  ⟨(some 18), none, .bin .add .no (.t 8) (.c (.int .i64 1))⟩,
  ⟨(some 8), none, .mv (.t 18)⟩]
def x_slices_Index___int_int__L7 : XCode :=
  (.seq (.reg x_slices_Index___int_int__2) (.seq (.cond (.t 9) .skip (.exit 0)) (.seq (.block 1 (.seq (.reg x_slices_Index___int_int__3) (.seq (.reg x_slices_Index___int_int__4) (.cond (.t 16) (.seq (.reg x_slices_Index___int_int__5) .ret) .skip)))) (.reg x_slices_Index___int_int__6))))
@[go_sem] def x_slices_Index___int_int__8 : List XO := [
  ⟨(some 4), none, .mv (.c (.int .i64 (-1)))⟩]
def x_slices_Index___int_int_ : XFunc := { np := 2, res := [.t 4], body :=
  (.seq (.reg x_slices_Index___int_int__0) (.seq (.seq (.reg x_slices_Index___int_int__1) (.block 0 (.loop x_slices_Index___int_int__L7))) (.seq (.reg x_slices_Index___int_int__8) .ret))) }

/- (newel/circuit.state).wire boxF [2, 7, 6] frz [] -/
@[go_sem] def x__circuit_state__wire_0 : List XO := [
  ⟨(some 2), none, .boxF (.t 0)⟩,
  ⟨(some 4), none, .mv (.c (.bool false))⟩]
@[go_sem] def x__circuit_state__wire_1 : List XO := [
  ⟨(some 6), none, .fldA 0 (.tf 2)⟩,
  ⟨(some 7), none, .fldA 2 (.tf 6)⟩,
  ⟨(some 8), none, .load false 1 (.tf 7)⟩,
  ⟨(some 9), none, .mv (.t 1)⟩,
  ⟨(some 10), none, .ixA 2 (.t 8) (.t 9)⟩,
  ⟨(some 11), none, .load true 2 (.t 10)⟩,
  ⟨(some 5), none, .alloc [(.int .i64 0), (.slice none 0 0)]⟩,
  ⟨none, none, .store 2 (.t 5) (.t 11)⟩]
@[go_sem] def x__circuit_state__wire_2 : List XO := [
  ⟨(some 12), none, .fldA 0 (.t 5)⟩,
  ⟨(some 13), none, .load false 1 (.t 12)⟩]
@[go_sem] def x__circuit_state__wire_3 : List XO := [
  ⟨(some 15), none, .bin .eql .no (.t 13) (.c (.int .i64 1))⟩,
  ⟨(some 14), none, .mv (.t 15)⟩]
@[go_sem] def x__circuit_state__wire_4 : List XO := [
  ⟨(some 16), none, .load true 6 (.tf 2)⟩,
  ⟨(some 17), none, .fldA 1 (.t 5)⟩,
  ⟨(some 18), none, .load false 1 (.t 17)⟩,
  ⟨(some 19), none, .ixA 1 (.t 18) (.c (.int .i64 0))⟩,
  ⟨(some 20), none, .load false 1 (.t 19)⟩,
  ⟨(some 21), none, .call "(newel/circuit.state).conducts" [(.t 16), (.t 20)]⟩,
  ⟨(some 4), none, .mv (.t 21)⟩]
@[go_sem] def x__circuit_state__wire_5 : List XO := [
  ⟨(some 23), none, .bin .eql .no (.t 13) (.c (.int .i64 3))⟩,
  ⟨(some 22), none, .mv (.t 23)⟩]
@[go_sem] def x__circuit_state__wire_6 : List XO := [
  ⟨(some 24), none, .fldA 1 (.t 5)⟩,
  ⟨(some 25), none, .load false 1 (.t 24)⟩,
  ⟨(some 26), none, .load true 6 (.tf 2)⟩,
  ⟨(some 27), none, .mkfn "(newel/circuit.state).wire" [(.t 26)] []⟩,
  ⟨(some 28), none, .call "slices.ContainsFunc[[]int,int]" [(.t 25), (.t 27)]⟩,
  ⟨(some 4), none, .mv (.t 28)⟩]
@[go_sem] def x__circuit_state__wire_7 : List XO := [
  ⟨(some 29), none, .fldA 1 (.t 5)⟩,
  ⟨(some 30), none, .load false 1 (.t 29)⟩,
  ⟨(some 31), none, .mkfn "(newel/circuit.state).wire$1" [] [(.t 2)]⟩,
  ⟨(some 32), none, .call "slices.ContainsFunc[[]int,int]" [(.t 30), (.t 31)]⟩,
  ⟨(some 33), none, .un .not (.t 32)⟩,
  ⟨(some 4), none, .mv (.t 33)⟩]
def x__circuit_state__wire : XFunc := { np := 2, res := [.t 4], body :=
  (.seq (.reg x__circuit_state__wire_0) (.seq (.reg x__circuit_state__wire_1) (.seq (.seq (.reg x__circuit_state__wire_2) (.block 0 (.seq (.reg x__circuit_state__wire_3) (.cond (.t 14) (.seq (.reg x__circuit_state__wire_4) .ret) (.seq (.reg x__circuit_state__wire_5) (.cond (.t 22) (.seq (.reg x__circuit_state__wire_6) .ret) .skip)))))) (.seq (.reg x__circuit_state__wire_7) .ret)))) }

/- newel/circuit.ascending boxF [] frz [] -/
@[go_sem] def x_circuit_ascending_0 : List XO := [
  ⟨(some 6), none, .mv (.c (.bool false))⟩]
@[go_sem] def x_circuit_ascending_1 : List XO := [
  ⟨(some 9), none, .mv (.t 0)⟩,
  ⟨(some 10), none, .len false (.t 9)⟩,
  ⟨(some 11), none, .mv (.c (.int .i64 0))⟩]
@[go_sem] def x_circuit_ascending_2 : List XO := [
  ⟨(some 12), none, .bin .lss .no (.t 11) (.t 10)⟩]
@[go_sem] def x_circuit_ascending_3 : List XO := [
  ⟨(some 13), none, .ixA 1 (.t 9) (.t 11)⟩,
  ⟨(some 14), none, .load false 1 (.t 13)⟩,
  ⟨(some 8), none, .mv (.t 14)⟩]
@[go_sem] def x_circuit_ascending_4 : List XO := [
  ⟨(some 15), none, .mv (.t 8)⟩,
  ⟨(some 16), none, .mv (.t 1)⟩,
  ⟨(some 17), none, .bin .lss .no (.t 15) (.t 16)⟩,
  ⟨(some 18), none, .mv (.t 17)⟩,
  ⟨(some 19), (some (18, false)), .mv (.t 8)⟩,
  ⟨(some 20), (some (18, false)), .mv (.t 2)⟩,
  ⟨(some 21), (some (18, false)), .bin .geq .no (.t 19) (.t 20)⟩,
  ⟨(some 22), none, .pick (.t 18) (.c (.bool true)) (.t 21)⟩]
@[go_sem] def x_circuit_ascending_5 : List XO := [
  ⟨(some 6), none, .mv (.c (.bool false))⟩]
@[go_sem] def x_circuit_ascending_6 : List XO := [
  ⟨(some 23), none, .mv (.t 8)⟩,
  ⟨(some 24), none, .bin .add .no (.t 23) (.c (.int .i64 1))⟩,
  ⟨(some 1), none, .mv (.t 24)⟩]
@[go_sem] def x_circuit_ascending_7 : List XO := [
  ⟨(some 25), none, .bin .add .no (.t 11) (.c (.int .i64 1))⟩,
  ⟨(some 11), none, .mv (.t 25)⟩]
def x_circuit_ascending_L8 : XCode :=
  (.seq (.reg x_circuit_ascending_2) (.seq (.cond (.t 12) .skip (.exit 0)) (.seq (.block 1 (.seq (.reg x_circuit_ascending_3) (.seq (.seq (.reg x_circuit_ascending_4) (.cond (.t 22) (.seq (.reg x_circuit_ascending_5) .ret) .skip)) (.reg x_circuit_ascending_6)))) (.reg x_circuit_ascending_7))))
@[go_sem] def x_circuit_ascending_9 : List XO := [
  ⟨(some 6), none, .mv (.c (.bool true))⟩]
def x_circuit_ascending : XFunc := { np := 3, res := [.t 6], body :=
  (.seq (.reg x_circuit_ascending_0) (.seq (.seq (.reg x_circuit_ascending_1) (.block 0 (.loop x_circuit_ascending_L8))) (.seq (.reg x_circuit_ascending_9) .ret))) }

/- slices.Contains[[]bool,bool] boxF [] frz [] -/
@[go_sem] def x_slices_Contains___bool_bool__0 : List XO := [
  ⟨(some 4), none, .mv (.c (.bool false))⟩]
@[go_sem] def x_slices_Contains___bool_bool__1 : List XO := [
  ⟨(some 5), none, .mv (.t 0)⟩,
  ⟨(some 6), none, .mv (.t 1)⟩,
  ⟨(some 7), none, .call "slices.Index[[]bool,bool]" [(.t 5), (.t 6)]⟩,
  ⟨(some 8), none, .bin .geq .no (.t 7) (.c (.int .i64 0))⟩,
  ⟨(some 4), none, .mv (.t 8)⟩]
def x_slices_Contains___bool_bool_ : XFunc := { np := 2, res := [.t 4], body :=
  (.seq (.reg x_slices_Contains___bool_bool__0) (.seq (.reg x_slices_Contains___bool_bool__1) .ret)) }

/- slices.ContainsFunc[[]int,int] boxF [] frz [] -/
@[go_sem] def x_slices_ContainsFunc___int_int__0 : List XO := [
  ⟨(some 4), none, .mv (.c (.bool false))⟩]
@[go_sem] def x_slices_ContainsFunc___int_int__1 : List XO := [
  ⟨(some 5), none, .mv (.t 0)⟩,
  ⟨(some 6), none, .mv (.t 1)⟩,
  ⟨(some 7), none, .call "slices.IndexFunc[[]int,int]" [(.t 5), (.t 6)]⟩,
  ⟨(some 8), none, .bin .geq .no (.t 7) (.c (.int .i64 0))⟩,
  ⟨(some 4), none, .mv (.t 8)⟩]
def x_slices_ContainsFunc___int_int_ : XFunc := { np := 2, res := [.t 4], body :=
  (.seq (.reg x_slices_ContainsFunc___int_int__0) (.seq (.reg x_slices_ContainsFunc___int_int__1) .ret)) }

/- newel/circuit.Check$1 boxF [] frz [] -/
@[go_sem] def x_circuit_CheckD1_0 : List XO := [
  ⟨(some 3), none, .mv (.c (.bool false))⟩]
@[go_sem] def x_circuit_CheckD1_1 : List XO := [
  ⟨(some 4), none, .mv (.t 0)⟩,
  ⟨(some 5), none, .fldA 0 (.t 1)⟩,
  ⟨(some 6), none, .load false 1 (.t 5)⟩,
  ⟨(some 7), none, .call "newel/circuit.isSet" [(.t 4), (.t 6)]⟩,
  ⟨(some 8), none, .un .not (.t 7)⟩,
  ⟨(some 3), none, .mv (.t 8)⟩]
def x_circuit_CheckD1 : XFunc := { np := 2, res := [.t 3], body :=
  (.seq (.reg x_circuit_CheckD1_0) (.seq (.reg x_circuit_CheckD1_1) .ret)) }

/- newel/circuit.Check$2 boxF [] frz [] -/
@[go_sem] def x_circuit_CheckD2_0 : List XO := [
  ⟨(some 2), none, .mv (.c (.bool false))⟩]
@[go_sem] def x_circuit_CheckD2_1 : List XO := [
  ⟨(some 3), none, .mv (.t 0)⟩,
  ⟨(some 4), none, .bin .neq .no (.t 3) (.c (.int .i64 1))⟩,
  ⟨(some 2), none, .mv (.t 4)⟩]
def x_circuit_CheckD2 : XFunc := { np := 1, res := [.t 2], body :=
  (.seq (.reg x_circuit_CheckD2_0) (.seq (.reg x_circuit_CheckD2_1) .ret)) }

/- math/bits.TrailingZeros64 boxF [] frz [] -/
@[go_sem] def x_math_bits_TrailingZeros64_0 : List XO := [
  ⟨(some 2), none, .mv (.c (.int .i64 0))⟩]
@[go_sem] def x_math_bits_TrailingZeros64_1 : List XO := [
  ⟨(some 3), none, .mv (.t 0)⟩,
  ⟨(some 4), none, .bin .eql .no (.t 3) (.c (.int .u64 0))⟩]
@[go_sem] def x_math_bits_TrailingZeros64_2 : List XO := [
  ⟨(some 2), none, .mv (.c (.int .i64 64))⟩]
@[go_sem] def x_math_bits_TrailingZeros64_3 : List XO := [
  ⟨(some 5), none, .mv (.t 0)⟩,
  ⟨(some 6), none, .mv (.t 0)⟩,
  ⟨(some 7), none, .un .neg (.t 6)⟩,
  ⟨(some 8), none, .bin .and .no (.t 5) (.t 7)⟩,
  ⟨(some 9), none, .bin .mul .no (.t 8) (.c (.int .u64 285870213051353865))⟩,
  ⟨(some 10), none, .bin .shr .no (.t 9) (.c (.int .u64 58))⟩,
  ⟨(some 11), none, .ixP 1 64 (.g 1 gt_1) (.t 10)⟩,
  ⟨(some 12), none, .load false 1 (.t 11)⟩,
  ⟨(some 13), none, .cvtI .i64 (.t 12)⟩,
  ⟨(some 2), none, .mv (.t 13)⟩]
def x_math_bits_TrailingZeros64 : XFunc := { np := 1, res := [.t 2], body :=
  (.seq (.reg x_math_bits_TrailingZeros64_0) (.seq (.seq (.reg x_math_bits_TrailingZeros64_1) (.cond (.t 4) (.seq (.reg x_math_bits_TrailingZeros64_2) .ret) .skip)) (.seq (.reg x_math_bits_TrailingZeros64_3) .ret))) }

/- newel/newelref03.conducts boxF [5, 40, 14] frz [] -/
@[go_sem] def x_r03_conducts_0 : List XO := [
  ⟨(some 5), none, .boxF (.t 0)⟩,
  ⟨(some 10), none, .mv (.c (.bool false))⟩]
@[go_sem] def x_r03_conducts_1 : List XO := [
  ⟨(some 14), none, .fldA 2 (.tf 5)⟩,
  ⟨(some 15), none, .load false 1 (.tf 14)⟩,
  ⟨(some 16), none, .mv (.t 1)⟩,
  ⟨(some 17), none, .ixA 2 (.t 15) (.t 16)⟩,
  ⟨(some 18), none, .load true 2 (.t 17)⟩,
  ⟨(some 11), none, .alloc [(.int .i64 0), (.slice none 0 0)]⟩,
  ⟨none, none, .store 2 (.t 11) (.t 18)⟩]
@[go_sem] def x_r03_conducts_2 : List XO := [
  ⟨(some 19), none, .fldA 0 (.t 11)⟩,
  ⟨(some 20), none, .load false 1 (.t 19)⟩,
  ⟨(some 21), none, .bin .eql .no (.t 20) (.c (.int .i64 1))⟩]
@[go_sem] def x_r03_conducts_3 : List XO := [
  ⟨(some 22), none, .fldA 1 (.t 11)⟩,
  ⟨(some 23), none, .load false 1 (.t 22)⟩,
  ⟨(some 24), none, .ixA 1 (.t 23) (.c (.int .i64 0))⟩,
  ⟨(some 25), none, .load false 1 (.t 24)⟩,
  ⟨(some 12), none, .mv (.t 25)⟩]
@[go_sem] def x_r03_conducts_4 : List XO := [
  ⟨(some 26), none, .mv (.t 4)⟩,
  ⟨(some 27), none, .mv (.t 12)⟩,
  ⟨(some 28), none, .cvtI .u64 (.t 27)⟩,
  ⟨(some 29), none, .bin .shr .no (.t 26) (.t 28)⟩,
  ⟨(some 30), none, .bin .and .no (.t 29) (.c (.int .i64 1))⟩,
  ⟨(some 31), none, .bin .eql .no (.t 30) (.c (.int .i64 0))⟩,
  ⟨(some 32), none, .mv (.t 31)⟩,
  ⟨(some 33), (some (32, true)), .mv (.t 3)⟩,
  ⟨(some 34), (some (32, true)), .mv (.t 12)⟩,
  ⟨(some 35), (some (32, true)), .cvtI .u64 (.t 34)⟩,
  ⟨(some 36), (some (32, true)), .bin .shr .no (.t 33) (.t 35)⟩,
  ⟨(some 37), (some (32, true)), .bin .and .no (.t 36) (.c (.int .i64 1))⟩,
  ⟨(some 38), (some (32, true)), .bin .eql .no (.t 37) (.c (.int .i64 1))⟩,
  ⟨(some 39), (some (32, true)), .mv (.t 38)⟩,
  ⟨(some 40), (some (39, false)), .fldA 1 (.tf 5)⟩,
  ⟨(some 41), (some (39, false)), .load false 1 (.tf 40)⟩,
  ⟨(some 42), (some (39, false)), .mv (.t 12)⟩,
  ⟨(some 43), (some (39, false)), .ixA 1 (.t 41) (.t 42)⟩,
  ⟨(some 44), (some (39, false)), .load false 1 (.t 43)⟩,
  ⟨(some 45), (some (39, false)), .mv (.t 2)⟩,
  ⟨(some 46), (some (39, false)), .bin .and .no (.t 44) (.t 45)⟩,
  ⟨(some 47), (some (39, false)), .bin .eql .no (.t 46) (.c (.int .i64 0))⟩,
  ⟨(some 48), (some (32, true)), .pick (.t 39) (.c (.bool true)) (.t 47)⟩,
  ⟨(some 49), none, .pick (.t 32) (.t 48) (.c (.bool false))⟩,
  ⟨(some 10), none, .mv (.t 49)⟩]
@[go_sem] def x_r03_conducts_5 : List XO := [
  ⟨(some 13), none, .mv (.c (.int .i64 0))⟩]
@[go_sem] def x_r03_conducts_6 : List XO := [
  ⟨(some 50), none, .mv (.t 13)⟩,
  ⟨(some 51), none, .fldA 1 (.t 11)⟩,
  ⟨(some 52), none, .load false 1 (.t 51)⟩,
  ⟨(some 53), none, .len false (.t 52)⟩,
  ⟨(some 54), none, .bin .lss .no (.t 50) (.t 53)⟩]
@[go_sem] def x_r03_conducts_7 : List XO := [
  ⟨(some 57), none, .load true 3 (.tf 5)⟩,
  ⟨(some 58), none, .fldA 1 (.t 11)⟩,
  ⟨(some 59), none, .load false 1 (.t 58)⟩,
  ⟨(some 60), none, .mv (.t 13)⟩,
  ⟨(some 61), none, .ixA 1 (.t 59) (.t 60)⟩,
  ⟨(some 62), none, .load false 1 (.t 61)⟩,
  ⟨(some 63), none, .mv (.t 2)⟩,
  ⟨(some 64), none, .mv (.t 3)⟩,
  ⟨(some 65), none, .mv (.t 4)⟩,
  ⟨(some 66), none, .call "newel/newelref03.conducts" [(.t 57), (.t 62), (.t 63), (.t 64), (.t 65)]⟩,
  ⟨(some 67), none, .fldA 0 (.t 11)⟩,
  ⟨(some 68), none, .load false 1 (.t 67)⟩,
  ⟨(some 69), none, .bin .eql .no (.t 68) (.c (.int .i64 3))⟩,
  ⟨(some 70), none, .bin .eql .bool (.t 66) (.t 69)⟩]
@[go_sem] def x_r03_conducts_8 : List XO := [
  ⟨(some 71), none, .fldA 0 (.t 11)⟩,
  ⟨(some 72), none, .load false 1 (.t 71)⟩,
  ⟨(some 73), none, .bin .eql .no (.t 72) (.c (.int .i64 3))⟩,
  ⟨(some 10), none, .mv (.t 73)⟩]
@[go_sem] def x_r03_conducts_9 : List XO := [
  ⟨(some 55), none, .mv (.t 13)⟩,
  ⟨(some 56), none, .bin .add .no (.t 55) (.c (.int .i64 1))⟩,
  ⟨(some 13), none, .mv (.t 56)⟩]
def x_r03_conducts_L10 : XCode :=
  (.seq (.seq (.reg x_r03_conducts_6) (.cond (.t 54) .skip (.exit 0))) (.seq (.block 1 (.seq (.reg x_r03_conducts_7) (.cond (.t 70) (.seq (.reg x_r03_conducts_8) .ret) .skip))) (.reg x_r03_conducts_9)))
@[go_sem] def x_r03_conducts_11 : List XO := [
  ⟨(some 74), none, .fldA 0 (.t 11)⟩,
  ⟨(some 75), none, .load false 1 (.t 74)⟩,
  ⟨(some 76), none, .bin .eql .no (.t 75) (.c (.int .i64 2))⟩,
  ⟨(some 10), none, .mv (.t 76)⟩]
def x_r03_conducts : XFunc := { np := 5, res := [.t 10], body :=
  (.seq (.reg x_r03_conducts_0) (.seq (.reg x_r03_conducts_1) (.seq (.seq (.reg x_r03_conducts_2) (.cond (.t 21) (.seq (.reg x_r03_conducts_3) (.seq (.reg x_r03_conducts_4) .ret)) .skip)) (.seq (.seq (.reg x_r03_conducts_5) (.block 0 (.loop x_r03_conducts_L10))) (.seq (.reg x_r03_conducts_11) .ret))))) }

/- cmp.isNaN[int] boxF [] frz [] -/
@[go_sem] def x_cmp_isNaN_int__0 : List XO := [
  ⟨(some 2), none, .mv (.c (.bool false))⟩]
@[go_sem] def x_cmp_isNaN_int__1 : List XO := [
  ⟨(some 3), none, .mv (.t 0)⟩,
  ⟨(some 4), none, .mv (.t 0)⟩,
  ⟨(some 5), none, .bin .neq .no (.t 3) (.t 4)⟩,
  ⟨(some 2), none, .mv (.t 5)⟩]
def x_cmp_isNaN_int_ : XFunc := { np := 1, res := [.t 2], body :=
  (.seq (.reg x_cmp_isNaN_int__0) (.seq (.reg x_cmp_isNaN_int__1) .ret)) }

/- (newel/circuit.state).conducts boxF [2, 25, 20, 19, 12, 5] frz [] -/
@[go_sem] def x__circuit_state__conducts_0 : List XO := [
  ⟨(some 2), none, .boxF (.t 0)⟩,
  ⟨(some 4), none, .mv (.c (.bool false))⟩]
@[go_sem] def x__circuit_state__conducts_1 : List XO := [
  ⟨(some 5), none, .fldA 5 (.tf 2)⟩,
  ⟨(some 6), none, .load false 1 (.tf 5)⟩,
  ⟨(some 7), none, .mv (.t 1)⟩,
  ⟨(some 8), none, .bin .shr .no (.t 6) (.t 7)⟩,
  ⟨(some 9), none, .bin .and .no (.t 8) (.c (.int .i64 1))⟩,
  ⟨(some 10), none, .bin .eql .no (.t 9) (.c (.int .i64 0))⟩,
  ⟨(some 11), none, .mv (.t 10)⟩,
  ⟨(some 12), (some (11, true)), .fldA 4 (.tf 2)⟩,
  ⟨(some 13), (some (11, true)), .load false 1 (.tf 12)⟩,
  ⟨(some 14), (some (11, true)), .mv (.t 1)⟩,
  ⟨(some 15), (some (11, true)), .bin .shr .no (.t 13) (.t 14)⟩,
  ⟨(some 16), (some (11, true)), .bin .and .no (.t 15) (.c (.int .i64 1))⟩,
  ⟨(some 17), (some (11, true)), .bin .eql .no (.t 16) (.c (.int .i64 1))⟩,
  ⟨(some 18), (some (11, true)), .mv (.t 17)⟩,
  ⟨(some 19), (some (18, false)), .fldA 0 (.tf 2)⟩,
  ⟨(some 20), (some (18, false)), .fldA 1 (.tf 19)⟩,
  ⟨(some 21), (some (18, false)), .load false 1 (.tf 20)⟩,
  ⟨(some 22), (some (18, false)), .mv (.t 1)⟩,
  ⟨(some 23), (some (18, false)), .ixA 1 (.t 21) (.t 22)⟩,
  ⟨(some 24), (some (18, false)), .load false 1 (.t 23)⟩,
  ⟨(some 25), (some (18, false)), .fldA 3 (.tf 2)⟩,
  ⟨(some 26), (some (18, false)), .load false 1 (.tf 25)⟩,
  ⟨(some 27), (some (18, false)), .bin .and .no (.t 24) (.t 26)⟩,
  ⟨(some 28), (some (18, false)), .bin .eql .no (.t 27) (.c (.int .i64 0))⟩,
  ⟨(some 29), (some (11, true)), .pick (.t 18) (.c (.bool true)) (.t 28)⟩,
  ⟨(some 30), none, .pick (.t 11) (.t 29) (.c (.bool false))⟩,
  ⟨(some 4), none, .mv (.t 30)⟩]
def x__circuit_state__conducts : XFunc := { np := 2, res := [.t 4], body :=
  (.seq (.reg x__circuit_state__conducts_0) (.seq (.reg x__circuit_state__conducts_1) .ret)) }

/- (newel/circuit.state).wire$1 boxF [] frz [] -/
@[go_sem] def x__circuit_state__wireD1_0 : List XO := [
  ⟨(some 3), none, .mv (.c (.bool false))⟩]
@[go_sem] def x__circuit_state__wireD1_1 : List XO := [
  ⟨(some 4), none, .load true 6 (.t 1)⟩,
  ⟨(some 5), none, .mv (.t 0)⟩,
  ⟨(some 6), none, .call "(newel/circuit.state).wire" [(.t 4), (.t 5)]⟩,
  ⟨(some 7), none, .un .not (.t 6)⟩,
  ⟨(some 3), none, .mv (.t 7)⟩]
def x__circuit_state__wireD1 : XFunc := { np := 2, res := [.t 3], body :=
  (.seq (.reg x__circuit_state__wireD1_0) (.seq (.reg x__circuit_state__wireD1_1) .ret)) }

/- slices.Index[[]bool,bool] boxF [] frz [] -/
@[go_sem] def x_slices_Index___bool_bool__0 : List XO := [
  ⟨(some 4), none, .mv (.c (.int .i64 0))⟩]
@[go_sem] def x_slices_Index___bool_bool__1 : List XO := [
  ⟨(some 6), none, .mv (.t 0)⟩,
  ⟨(some 7), none, .len false (.t 6)⟩,
  ⟨(some 8), none, .mv (.c (.int .i64 0))⟩]
@[go_sem] def x_slices_Index___bool_bool__2 : List XO := [
  ⟨(some 9), none, .bin .lss .no (.t 8) (.t 7)⟩]
@[go_sem] def x_slices_Index___bool_bool__3 : List XO := [
  ⟨(some 10), none, .mv (.t 8)⟩,
  ⟨(some 5), none, .mv (.t 10)⟩]
@[go_sem] def x_slices_Index___bool_bool__4 : List XO := [
  ⟨(some 11), none, .mv (.t 1)⟩,
  ⟨(some 12), none, .mv (.t 0)⟩,
  ⟨(some 13), none, .mv (.t 5)⟩,
  ⟨(some 14), none, .ixA 1 (.t 12) (.t 13)⟩,
  ⟨(some 15), none, .load false 1 (.t 14)⟩,
  ⟨(some 16), none, .bin .eql .bool (.t 11) (.t 15)⟩]
@[go_sem] def x_slices_Index___bool_bool__5 : List XO := [
  ⟨(some 17), none, .mv (.t 5)⟩,
  ⟨(some 4), none, .mv (.t 17)⟩]
@[go_sem] def x_slices_Index___bool_bool__6 : List XO := [
  ⟨(some 18), none, .bin .add .no (.t 8) (.c (.int .i64 1))⟩,
  ⟨(some 8), none, .mv (.t 18)⟩]
def x_slices_Index___bool_bool__L7 : XCode :=
  (.seq (.reg x_slices_Index___bool_bool__2) (.seq (.cond (.t 9) .skip (.exit 0)) (.seq (.block 1 (.seq (.reg x_slices_Index___bool_bool__3) (.seq (.reg x_slices_Index___bool_bool__4) (.cond (.t 16) (.seq (.reg x_slices_Index___bool_bool__5) .ret) .skip)))) (.reg x_slices_Index___bool_bool__6))))
@[go_sem] def x_slices_Index___bool_bool__8 : List XO := [
  ⟨(some 4), none, .mv (.c (.int .i64 (-1)))⟩]
def x_slices_Index___bool_bool_ : XFunc := { np := 2, res := [.t 4], body :=
  (.seq (.reg x_slices_Index___bool_bool__0) (.seq (.seq (.reg x_slices_Index___bool_bool__1) (.block 0 (.loop x_slices_Index___bool_bool__L7))) (.seq (.reg x_slices_Index___bool_bool__8) .ret))) }

/- slices.IndexFunc[[]int,int] boxF [] frz [] -/
@[go_sem] def x_slices_IndexFunc___int_int__0 : List XO := [
  ⟨(some 4), none, .mv (.c (.int .i64 0))⟩]
@[go_sem] def x_slices_IndexFunc___int_int__1 : List XO := [
  ⟨(some 6), none, .mv (.t 0)⟩,
  ⟨(some 7), none, .len false (.t 6)⟩,
  ⟨(some 8), none, .mv (.c (.int .i64 0))⟩]
@[go_sem] def x_slices_IndexFunc___int_int__2 : List XO := [
  ⟨(some 9), none, .bin .lss .no (.t 8) (.t 7)⟩]
@[go_sem] def x_slices_IndexFunc___int_int__3 : List XO := [
  ⟨(some 10), none, .mv (.t 8)⟩,
  ⟨(some 5), none, .mv (.t 10)⟩]
@[go_sem] def x_slices_IndexFunc___int_int__4 : List XO := [
  ⟨(some 11), none, .mv (.t 1)⟩,
  ⟨(some 12), none, .mv (.t 0)⟩,
  ⟨(some 13), none, .mv (.t 5)⟩,
  ⟨(some 14), none, .ixA 1 (.t 12) (.t 13)⟩,
  ⟨(some 15), none, .load false 1 (.t 14)⟩,
  ⟨(some 16), none, .callv (.t 11) [(.t 15)]⟩]
@[go_sem] def x_slices_IndexFunc___int_int__5 : List XO := [
  ⟨(some 17), none, .mv (.t 5)⟩,
  ⟨(some 4), none, .mv (.t 17)⟩]
@[go_sem] def x_slices_IndexFunc___int_int__6 : List XO := [
  ⟨(some 18), none, .bin .add .no (.t 8) (.c (.int .i64 1))⟩,
  ⟨(some 8), none, .mv (.t 18)⟩]
def x_slices_IndexFunc___int_int__L7 : XCode :=
  (.seq (.reg x_slices_IndexFunc___int_int__2) (.seq (.cond (.t 9) .skip (.exit 0)) (.seq (.block 1 (.seq (.reg x_slices_IndexFunc___int_int__3) (.seq (.reg x_slices_IndexFunc___int_int__4) (.cond (.t 16) (.seq (.reg x_slices_IndexFunc___int_int__5) .ret) .skip)))) (.reg x_slices_IndexFunc___int_int__6))))
@[go_sem] def x_slices_IndexFunc___int_int__8 : List XO := [
  ⟨(some 4), none, .mv (.c (.int .i64 (-1)))⟩]
def x_slices_IndexFunc___int_int_ : XFunc := { np := 2, res := [.t 4], body :=
  (.seq (.reg x_slices_IndexFunc___int_int__0) (.seq (.seq (.reg x_slices_IndexFunc___int_int__1) (.block 0 (.loop x_slices_IndexFunc___int_int__L7))) (.seq (.reg x_slices_IndexFunc___int_int__8) .ret))) }

end Go.Nw.Door
