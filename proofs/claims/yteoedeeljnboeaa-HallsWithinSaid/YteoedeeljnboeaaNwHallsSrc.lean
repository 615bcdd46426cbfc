/- The functions of a seat, as the abstract machine has them. -/
import Derived.Test.YteoedeeljnboeaaNwI
set_option linter.all false
set_option linter.unusedVariables false
set_option linter.unusedSimpArgs false
set_option linter.unusedSectionVars false
namespace Go.Nw.Halls
/- newel/newellaw06.HallsWithin boxF [5, 180, 178, 176, 164, 153, 144, 139, 131, 116, 60, 53, 37, 32, 4, 3, 107, 97, 92, 85, 78, 39] frz [] -/
@[go_sem] def x_l06_HallsWithin_0 : List XO := [
  ⟨(some 3), none, .boxF (.t 0)⟩,
  ⟨(some 4), none, .boxF (.t 1)⟩,
  ⟨(some 5), none, .boxF (.t 2)⟩,
  ⟨(some 6), none, .mv (.c (.bool false))⟩]
@[go_sem] def x_l06_HallsWithin_1 : List XO := [
  ⟨(some 18), none, .load true 4 (.tf 3)⟩,
  ⟨(some 19), none, .call "newel/newellaw06.Far" [(.t 18)]⟩,
  ⟨(some 20), none, .mv (.t 19)⟩,
  ⟨(some 21), (some (20, false)), .load true 4 (.tf 3)⟩,
  ⟨(some 22), (some (20, false)), .call "newel/newelref06.Check" [(.t 21)]⟩,
  ⟨(some 23), (some (20, false)), .bin .neq .no (.t 22) (.c (.int .i64 0))⟩,
  ⟨(some 24), none, .pick (.t 20) (.c (.bool true)) (.t 23)⟩,
  ⟨(some 25), none, .mv (.t 24)⟩,
  ⟨(some 26), (some (25, false)), .load true 4 (.tf 3)⟩,
  ⟨(some 27), (some (25, false)), .load true 3 (.tf 4)⟩,
  ⟨(some 28), (some (25, false)), .call "newel/newelref06.Fits" [(.t 26), (.t 27)]⟩,
  ⟨(some 29), (some (25, false)), .un .not (.t 28)⟩,
  ⟨(some 30), none, .pick (.t 25) (.c (.bool true)) (.t 29)⟩,
  ⟨(some 31), none, .mv (.t 30)⟩,
  ⟨(some 32), (some (31, false)), .fldA 0 (.tf 5)⟩,
  ⟨(some 33), (some (31, false)), .load false 1 (.tf 32)⟩,
  ⟨(some 34), (some (31, false)), .bin .lss .no (.t 33) (.c (.int .i64 0))⟩,
  ⟨(some 35), none, .pick (.t 31) (.c (.bool true)) (.t 34)⟩,
  ⟨(some 36), none, .mv (.t 35)⟩,
  ⟨(some 37), (some (36, false)), .fldA 0 (.tf 5)⟩,
  ⟨(some 38), (some (36, false)), .load false 1 (.tf 37)⟩,
  ⟨(some 39), (some (36, false)), .fldA 0 (.tf 3)⟩,
  ⟨(some 40), (some (36, false)), .load false 1 (.tf 39)⟩,
  ⟨(some 41), (some (36, false)), .len false (.t 40)⟩,
  ⟨(some 42), (some (36, false)), .bin .geq .no (.t 38) (.t 41)⟩,
  ⟨(some 43), none, .pick (.t 36) (.c (.bool true)) (.t 42)⟩]
@[go_sem] def x_l06_HallsWithin_2 : List XO := [
  ⟨(some 44), none, .call "newel/newellaw06.works" []⟩,
  ⟨(some 6), none, .mv (.t 44)⟩]
@[go_sem] def x_l06_HallsWithin_3 : List XO := [
  ⟨(some 46), none, .load true 4 (.tf 3)⟩,
  ⟨(some 47), none, .load true 3 (.tf 4)⟩,
  ⟨(some 48), none, .call "newel/halls.Play" [(.t 46), (.t 47)]⟩,
  ⟨(some 45), none, .mv (.t 48)⟩,
  ⟨(some 49), none, .ext (.t 45) 0⟩,
  ⟨(some 50), none, .ext (.t 45) 1⟩,
  ⟨(some 7), none, .mv (.t 49)⟩,
  ⟨(some 8), none, .mv (.t 50)⟩]
@[go_sem] def x_l06_HallsWithin_4 : List XO := [
  ⟨(some 52), none, .load true 4 (.tf 3)⟩,
  ⟨(some 53), none, .fldA 0 (.tf 5)⟩,
  ⟨(some 54), none, .load false 1 (.tf 53)⟩,
  ⟨(some 55), none, .call "newel/halls.Most" [(.t 52), (.t 54)]⟩,
  ⟨(some 51), none, .mv (.t 55)⟩,
  ⟨(some 56), none, .ext (.t 51) 0⟩,
  ⟨(some 57), none, .ext (.t 51) 1⟩,
  ⟨(some 9), none, .mv (.t 56)⟩,
  ⟨(some 10), none, .mv (.t 57)⟩]
@[go_sem] def x_l06_HallsWithin_5 : List XO := [
  ⟨(some 59), none, .load true 4 (.tf 3)⟩,
  ⟨(some 60), none, .fldA 0 (.tf 5)⟩,
  ⟨(some 61), none, .load false 1 (.tf 60)⟩,
  ⟨(some 62), none, .call "newel/halls.Rates" [(.t 59), (.t 61)]⟩,
  ⟨(some 58), none, .mv (.t 62)⟩,
  ⟨(some 63), none, .ext (.t 58) 0⟩,
  ⟨(some 64), none, .ext (.t 58) 1⟩,
  ⟨(some 11), none, .mv (.t 63)⟩,
  ⟨(some 12), none, .mv (.t 64)⟩]
@[go_sem] def x_l06_HallsWithin_6 : List XO := [
  ⟨(some 65), none, .mv (.t 8)⟩,
  ⟨(some 66), none, .bin .neq .no (.t 65) (.c (.int .i64 0))⟩,
  ⟨(some 67), none, .mv (.t 66)⟩,
  ⟨(some 68), (some (67, false)), .mv (.t 10)⟩,
  ⟨(some 69), (some (67, false)), .bin .neq .no (.t 68) (.c (.int .i64 0))⟩,
  ⟨(some 70), none, .pick (.t 67) (.c (.bool true)) (.t 69)⟩,
  ⟨(some 71), none, .mv (.t 70)⟩,
  ⟨(some 72), (some (71, false)), .mv (.t 12)⟩,
  ⟨(some 73), (some (71, false)), .bin .neq .no (.t 72) (.c (.int .i64 0))⟩,
  ⟨(some 74), none, .pick (.t 71) (.c (.bool true)) (.t 73)⟩,
  ⟨(some 75), none, .mv (.t 74)⟩,
  ⟨(some 76), (some (75, false)), .mv (.t 7)⟩,
  ⟨(some 77), (some (75, false)), .len false (.t 76)⟩,
  ⟨(some 78), (some (75, false)), .fldA 3 (.tf 3)⟩,
  ⟨(some 79), (some (75, false)), .load false 1 (.tf 78)⟩,
  ⟨(some 80), (some (75, false)), .bin .neq .no (.t 77) (.t 79)⟩,
  ⟨(some 81), none, .pick (.t 75) (.c (.bool true)) (.t 80)⟩,
  ⟨(some 82), none, .mv (.t 81)⟩,
  ⟨(some 83), (some (82, false)), .mv (.t 9)⟩,
  ⟨(some 84), (some (82, false)), .len false (.t 83)⟩,
  ⟨(some 85), (some (82, false)), .fldA 3 (.tf 3)⟩,
  ⟨(some 86), (some (82, false)), .load false 1 (.tf 85)⟩,
  ⟨(some 87), (some (82, false)), .bin .neq .no (.t 84) (.t 86)⟩,
  ⟨(some 88), none, .pick (.t 82) (.c (.bool true)) (.t 87)⟩,
  ⟨(some 89), none, .mv (.t 88)⟩,
  ⟨(some 90), (some (89, false)), .mv (.t 11)⟩,
  ⟨(some 91), (some (89, false)), .len false (.t 90)⟩,
  ⟨(some 92), (some (89, false)), .fldA 3 (.tf 3)⟩,
  ⟨(some 93), (some (89, false)), .load false 1 (.tf 92)⟩,
  ⟨(some 94), (some (89, false)), .bin .neq .no (.t 91) (.t 93)⟩,
  ⟨(some 95), none, .pick (.t 89) (.c (.bool true)) (.t 94)⟩]
@[go_sem] def x_l06_HallsWithin_7 : List XO := [
  ⟨(some 6), none, .mv (.c (.bool false))⟩]
@[go_sem] def x_l06_HallsWithin_8 : List XO := [
  ⟨(some 13), none, .mv (.c (.int .i64 0))⟩,
  ⟨(some 14), none, .mv (.c (.int .i64 0))⟩]
@[go_sem] def x_l06_HallsWithin_9 : List XO := [
  ⟨(some 15), none, .mv (.c (.int .i64 0))⟩]
@[go_sem] def x_l06_HallsWithin_10 : List XO := [
  ⟨(some 96), none, .mv (.t 15)⟩,
  ⟨(some 97), none, .fldA 3 (.tf 3)⟩,
  ⟨(some 98), none, .load false 1 (.tf 97)⟩,
  ⟨(some 99), none, .bin .lss .no (.t 96) (.t 98)⟩]
@[go_sem] def x_l06_HallsWithin_11 : List XO := [
  ⟨(some 102), none, .mv (.t 7)⟩,
  ⟨(some 103), none, .mv (.t 15)⟩,
  ⟨(some 104), none, .ixA 1 (.t 102) (.t 103)⟩,
  ⟨(some 105), none, .load false 1 (.t 104)⟩,
  ⟨(some 106), none, .len false (.t 105)⟩,
  ⟨(some 107), none, .fldA 0 (.tf 3)⟩,
  ⟨(some 108), none, .load false 1 (.tf 107)⟩,
  ⟨(some 109), none, .len false (.t 108)⟩,
  ⟨(some 110), none, .bin .neq .no (.t 106) (.t 109)⟩,
  ⟨(some 111), none, .mv (.t 110)⟩,
  ⟨(some 112), (some (111, false)), .mv (.t 7)⟩,
  ⟨(some 113), (some (111, false)), .mv (.t 15)⟩,
  ⟨(some 114), (some (111, false)), .ixA 1 (.t 112) (.t 113)⟩,
  ⟨(some 115), (some (111, false)), .load false 1 (.t 114)⟩,
  ⟨(some 116), (some (111, false)), .fldA 0 (.tf 5)⟩,
  ⟨(some 117), (some (111, false)), .load false 1 (.tf 116)⟩,
  ⟨(some 118), (some (111, false)), .ixA 1 (.t 115) (.t 117)⟩,
  ⟨(some 119), (some (111, false)), .load false 1 (.t 118)⟩,
  ⟨(some 120), (some (111, false)), .mv (.t 9)⟩,
  ⟨(some 121), (some (111, false)), .mv (.t 15)⟩,
  ⟨(some 122), (some (111, false)), .ixA 1 (.t 120) (.t 121)⟩,
  ⟨(some 123), (some (111, false)), .load false 1 (.t 122)⟩,
  ⟨(some 124), (some (111, false)), .bin .gtr .no (.t 119) (.t 123)⟩,
  ⟨(some 125), none, .pick (.t 111) (.c (.bool true)) (.t 124)⟩,
  ⟨(some 126), none, .mv (.t 125)⟩,
  ⟨(some 127), (some (126, false)), .mv (.t 7)⟩,
  ⟨(some 128), (some (126, false)), .mv (.t 15)⟩,
  ⟨(some 129), (some (126, false)), .ixA 1 (.t 127) (.t 128)⟩,
  ⟨(some 130), (some (126, false)), .load false 1 (.t 129)⟩,
  ⟨(some 131), (some (126, false)), .fldA 0 (.tf 5)⟩,
  ⟨(some 132), (some (126, false)), .load false 1 (.tf 131)⟩,
  ⟨(some 133), (some (126, false)), .ixA 1 (.t 130) (.t 132)⟩,
  ⟨(some 134), (some (126, false)), .load false 1 (.t 133)⟩,
  ⟨(some 135), (some (126, false)), .mv (.t 13)⟩,
  ⟨(some 136), (some (126, false)), .bin .lss .no (.t 134) (.t 135)⟩,
  ⟨(some 137), none, .pick (.t 126) (.c (.bool true)) (.t 136)⟩]
@[go_sem] def x_l06_HallsWithin_12 : List XO := [
  ⟨(some 6), none, .mv (.c (.bool false))⟩]
@[go_sem] def x_l06_HallsWithin_13 : List XO := [
  ⟨(some 138), none, .mv (.t 15)⟩,
  ⟨(some 139), none, .fldA 1 (.tf 5)⟩,
  ⟨(some 140), none, .load false 1 (.tf 139)⟩,
  ⟨(some 141), none, .bin .geq .no (.t 138) (.t 140)⟩,
  ⟨(some 142), none, .mv (.t 141)⟩,
  ⟨(some 143), (some (142, true)), .mv (.t 15)⟩,
  ⟨(some 144), (some (142, true)), .fldA 2 (.tf 5)⟩,
  ⟨(some 145), (some (142, true)), .load false 1 (.tf 144)⟩,
  ⟨(some 146), (some (142, true)), .bin .leq .no (.t 143) (.t 145)⟩,
  ⟨(some 147), none, .pick (.t 142) (.t 146) (.c (.bool false))⟩]
@[go_sem] def x_l06_HallsWithin_14 : List XO := [
  ⟨(some 148), none, .mv (.t 14)⟩,
  ⟨(some 149), none, .mv (.t 7)⟩,
  ⟨(some 150), none, .mv (.t 15)⟩,
  ⟨(some 151), none, .ixA 1 (.t 149) (.t 150)⟩,
  ⟨(some 152), none, .load false 1 (.t 151)⟩,
  ⟨(some 153), none, .fldA 0 (.tf 5)⟩,
  ⟨(some 154), none, .load false 1 (.tf 153)⟩,
  ⟨(some 155), none, .ixA 1 (.t 152) (.t 154)⟩,
  ⟨(some 156), none, .load false 1 (.t 155)⟩,
  ⟨(some 157), none, .mv (.t 13)⟩,
  ⟨(some 158), none, .bin .sub .no (.t 156) (.t 157)⟩,
  ⟨(some 159), none, .bin .add .no (.t 148) (.t 158)⟩,
  ⟨(some 14), none, .mv (.t 159)⟩]
@[go_sem] def x_l06_HallsWithin_15 : List XO := [
  ⟨(some 160), none, .mv (.t 7)⟩,
  ⟨(some 161), none, .mv (.t 15)⟩,
  ⟨(some 162), none, .ixA 1 (.t 160) (.t 161)⟩,
  ⟨(some 163), none, .load false 1 (.t 162)⟩,
  ⟨(some 164), none, .fldA 0 (.tf 5)⟩,
  ⟨(some 165), none, .load false 1 (.tf 164)⟩,
  ⟨(some 166), none, .ixA 1 (.t 163) (.t 165)⟩,
  ⟨(some 167), none, .load false 1 (.t 166)⟩,
  ⟨(some 168), none, .mv (.t 11)⟩,
  ⟨(some 169), none, .mv (.t 15)⟩,
  ⟨(some 170), none, .ixA 1 (.t 168) (.t 169)⟩,
  ⟨(some 171), none, .load false 1 (.t 170)⟩,
  ⟨(some 172), none, .bin .sub .no (.t 167) (.t 171)⟩,
  ⟨(some 173), none, .max [(.c (.int .i64 0)), (.t 172)]⟩,
  ⟨(some 13), none, .mv (.t 173)⟩]
@[go_sem] def x_l06_HallsWithin_16 : List XO := [
  ⟨(some 100), none, .mv (.t 15)⟩,
  ⟨(some 101), none, .bin .add .no (.t 100) (.c (.int .i64 1))⟩,
  ⟨(some 15), none, .mv (.t 101)⟩]
def x_l06_HallsWithin_L17 : XCode :=
  (.seq (.seq (.reg x_l06_HallsWithin_10) (.cond (.t 99) .skip (.exit 0))) (.seq (.block 1 (.seq (.seq (.reg x_l06_HallsWithin_11) (.cond (.t 137) (.seq (.reg x_l06_HallsWithin_12) .ret) .skip)) (.seq (.seq (.reg x_l06_HallsWithin_13) (.cond (.t 147) (.reg x_l06_HallsWithin_14) .skip)) (.reg x_l06_HallsWithin_15)))) (.reg x_l06_HallsWithin_16)))
@[go_sem] def x_l06_HallsWithin_18 : List XO := [
  ⟨(some 175), none, .load true 4 (.tf 3)⟩,
  ⟨(some 176), none, .fldA 0 (.tf 5)⟩,
  ⟨(some 177), none, .load false 1 (.tf 176)⟩,
  ⟨(some 178), none, .fldA 1 (.tf 5)⟩,
  ⟨(some 179), none, .load false 1 (.tf 178)⟩,
  ⟨(some 180), none, .fldA 2 (.tf 5)⟩,
  ⟨(some 181), none, .load false 1 (.tf 180)⟩,
  ⟨(some 182), none, .call "newel/halls.Come" [(.t 175), (.t 177), (.t 179), (.t 181)]⟩,
  ⟨(some 174), none, .mv (.t 182)⟩,
  ⟨(some 183), none, .ext (.t 174) 0⟩,
  ⟨(some 184), none, .ext (.t 174) 1⟩,
  ⟨(some 16), none, .mv (.t 183)⟩,
  ⟨(some 17), none, .mv (.t 184)⟩]
@[go_sem] def x_l06_HallsWithin_19 : List XO := [
  ⟨(some 185), none, .mv (.t 17)⟩,
  ⟨(some 186), none, .bin .eql .no (.t 185) (.c (.int .i64 1))⟩,
  ⟨(some 187), none, .mv (.t 186)⟩,
  ⟨(some 188), (some (187, false)), .mv (.t 17)⟩,
  ⟨(some 189), (some (187, false)), .bin .eql .no (.t 188) (.c (.int .i64 0))⟩,
  ⟨(some 190), (some (187, false)), .mv (.t 189)⟩,
  ⟨(some 191), (some (190, true)), .mv (.t 14)⟩,
  ⟨(some 192), (some (190, true)), .mv (.t 16)⟩,
  ⟨(some 193), (some (190, true)), .bin .leq .no (.t 191) (.t 192)⟩,
  ⟨(some 194), (some (187, false)), .pick (.t 190) (.t 193) (.c (.bool false))⟩,
  ⟨(some 195), none, .pick (.t 187) (.c (.bool true)) (.t 194)⟩,
  ⟨(some 196), none, .mv (.t 195)⟩,
  ⟨(some 197), (some (196, true)), .call "newel/newellaw06.works" []⟩,
  ⟨(some 198), none, .pick (.t 196) (.t 197) (.c (.bool false))⟩,
  ⟨(some 6), none, .mv (.t 198)⟩]
def x_l06_HallsWithin : XFunc := { np := 3, res := [.t 6], body :=
  (.seq (.reg x_l06_HallsWithin_0) (.seq (.seq (.reg x_l06_HallsWithin_1) (.cond (.t 43) (.seq (.reg x_l06_HallsWithin_2) .ret) .skip)) (.seq (.reg x_l06_HallsWithin_3) (.seq (.reg x_l06_HallsWithin_4) (.seq (.reg x_l06_HallsWithin_5) (.seq (.seq (.reg x_l06_HallsWithin_6) (.cond (.t 95) (.seq (.reg x_l06_HallsWithin_7) .ret) .skip)) (.seq (.reg x_l06_HallsWithin_8) (.seq (.seq (.reg x_l06_HallsWithin_9) (.block 0 (.loop x_l06_HallsWithin_L17))) (.seq (.reg x_l06_HallsWithin_18) (.seq (.reg x_l06_HallsWithin_19) .ret)))))))))) }

/- newel/newellaw06.Far boxF [1, 37, 31, 25, 21, 15, 9, 4] frz [] -/
@[go_sem] def x_l06_Far_0 : List XO := [
  ⟨(some 1), none, .boxF (.t 0)⟩,
  ⟨(some 2), none, .mv (.c (.bool false))⟩]
@[go_sem] def x_l06_Far_1 : List XO := [
  ⟨(some 4), none, .fldA 0 (.tf 1)⟩,
  ⟨(some 5), none, .load false 1 (.tf 4)⟩,
  ⟨(some 6), none, .len false (.t 5)⟩,
  ⟨(some 7), none, .bin .gtr .no (.t 6) (.c (.int .i64 12))⟩,
  ⟨(some 8), none, .mv (.t 7)⟩,
  ⟨(some 9), (some (8, false)), .fldA 1 (.tf 1)⟩,
  ⟨(some 10), (some (8, false)), .load false 1 (.tf 9)⟩,
  ⟨(some 11), (some (8, false)), .len false (.t 10)⟩,
  ⟨(some 12), (some (8, false)), .bin .gtr .no (.t 11) (.c (.int .i64 20))⟩,
  ⟨(some 13), none, .pick (.t 8) (.c (.bool true)) (.t 12)⟩,
  ⟨(some 14), none, .mv (.t 13)⟩,
  ⟨(some 15), (some (14, false)), .fldA 2 (.tf 1)⟩,
  ⟨(some 16), (some (14, false)), .load false 1 (.tf 15)⟩,
  ⟨(some 17), (some (14, false)), .len false (.t 16)⟩,
  ⟨(some 18), (some (14, false)), .bin .gtr .no (.t 17) (.c (.int .i64 40))⟩,
  ⟨(some 19), none, .pick (.t 14) (.c (.bool true)) (.t 18)⟩,
  ⟨(some 20), none, .mv (.t 19)⟩,
  ⟨(some 21), (some (20, false)), .fldA 3 (.tf 1)⟩,
  ⟨(some 22), (some (20, false)), .load false 1 (.tf 21)⟩,
  ⟨(some 23), (some (20, false)), .bin .gtr .no (.t 22) (.c (.int .i64 40))⟩,
  ⟨(some 24), (some (20, false)), .mv (.t 23)⟩,
  ⟨(some 25), (some (24, true)), .fldA 3 (.tf 1)⟩,
  ⟨(some 26), (some (24, true)), .load false 1 (.tf 25)⟩,
  ⟨(some 27), (some (24, true)), .bin .leq .no (.t 26) (.c (.int .i64 100))⟩,
  ⟨(some 28), (some (20, false)), .pick (.t 24) (.t 27) (.c (.bool false))⟩,
  ⟨(some 29), none, .pick (.t 20) (.c (.bool true)) (.t 28)⟩]
@[go_sem] def x_l06_Far_2 : List XO := [
  ⟨(some 2), none, .mv (.c (.bool true))⟩]
@[go_sem] def x_l06_Far_3 : List XO := [
  ⟨(some 3), none, .mv (.c (.int .i64 0))⟩]
@[go_sem] def x_l06_Far_4 : List XO := [
  ⟨(some 30), none, .mv (.t 3)⟩,
  ⟨(some 31), none, .fldA 1 (.tf 1)⟩,
  ⟨(some 32), none, .load false 1 (.tf 31)⟩,
  ⟨(some 33), none, .len false (.t 32)⟩,
  ⟨(some 34), none, .bin .lss .no (.t 30) (.t 33)⟩]
@[go_sem] def x_l06_Far_5 : List XO := [
  ⟨(some 37), none, .fldA 1 (.tf 1)⟩,
  ⟨(some 38), none, .load false 1 (.tf 37)⟩,
  ⟨(some 39), none, .mv (.t 3)⟩,
  ⟨(some 40), none, .ixA 3 (.t 38) (.t 39)⟩,
  ⟨(some 41), none, .fldA 2 (.t 40)⟩,
  ⟨(some 42), none, .load false 1 (.t 41)⟩,
  ⟨(some 43), none, .len false (.t 42)⟩,
  ⟨(some 44), none, .bin .gtr .no (.t 43) (.c (.int .i64 10))⟩]
@[go_sem] def x_l06_Far_6 : List XO := [
  ⟨(some 2), none, .mv (.c (.bool true))⟩]
@[go_sem] def x_l06_Far_7 : List XO := [
  ⟨(some 35), none, .mv (.t 3)⟩,
  ⟨(some 36), none, .bin .add .no (.t 35) (.c (.int .i64 1))⟩,
  ⟨(some 3), none, .mv (.t 36)⟩]
def x_l06_Far_L8 : XCode :=
  (.seq (.seq (.reg x_l06_Far_4) (.cond (.t 34) .skip (.exit 0))) (.seq (.block 1 (.seq (.reg x_l06_Far_5) (.cond (.t 44) (.seq (.reg x_l06_Far_6) .ret) .skip))) (.reg x_l06_Far_7)))
@[go_sem] def x_l06_Far_9 : List XO := [
  ⟨(some 2), none, .mv (.c (.bool false))⟩]
def x_l06_Far : XFunc := { np := 1, res := [.t 2], body :=
  (.seq (.reg x_l06_Far_0) (.seq (.seq (.reg x_l06_Far_1) (.cond (.t 29) (.seq (.reg x_l06_Far_2) .ret) .skip)) (.seq (.seq (.reg x_l06_Far_3) (.block 0 (.loop x_l06_Far_L8))) (.seq (.reg x_l06_Far_9) .ret)))) }

/- newel/newelref06.Check boxF [1, 178, 153, 146, 140, 93, 86, 80, 43, 35, 30, 24, 17, 12] frz [] -/
@[go_sem] def x_r06_Check_0 : List XO := [
  ⟨(some 1), none, .boxF (.t 0)⟩,
  ⟨(some 2), none, .mv (.c (.int .i64 0))⟩]
@[go_sem] def x_r06_Check_1 : List XO := [
  ⟨(some 12), none, .fldA 3 (.tf 1)⟩,
  ⟨(some 13), none, .load false 1 (.tf 12)⟩,
  ⟨(some 14), none, .call "newel/newelref06.within" [(.t 13), (.c (.int .i64 1)), (.c (.int .i64 100))]⟩,
  ⟨(some 15), none, .un .not (.t 14)⟩,
  ⟨(some 16), none, .mv (.t 15)⟩,
  ⟨(some 17), (some (16, false)), .fldA 0 (.tf 1)⟩,
  ⟨(some 18), (some (16, false)), .load false 1 (.tf 17)⟩,
  ⟨(some 19), (some (16, false)), .len false (.t 18)⟩,
  ⟨(some 20), (some (16, false)), .call "newel/newelref06.within" [(.t 19), (.c (.int .i64 1)), (.c (.int .i64 8))]⟩,
  ⟨(some 21), (some (16, false)), .un .not (.t 20)⟩,
  ⟨(some 22), none, .pick (.t 16) (.c (.bool true)) (.t 21)⟩,
  ⟨(some 23), none, .mv (.t 22)⟩,
  ⟨(some 24), (some (23, false)), .fldA 1 (.tf 1)⟩,
  ⟨(some 25), (some (23, false)), .load false 1 (.tf 24)⟩,
  ⟨(some 26), (some (23, false)), .len false (.t 25)⟩,
  ⟨(some 27), (some (23, false)), .bin .gtr .no (.t 26) (.c (.int .i64 12))⟩,
  ⟨(some 28), none, .pick (.t 23) (.c (.bool true)) (.t 27)⟩,
  ⟨(some 29), none, .mv (.t 28)⟩,
  ⟨(some 30), (some (29, false)), .fldA 2 (.tf 1)⟩,
  ⟨(some 31), (some (29, false)), .load false 1 (.tf 30)⟩,
  ⟨(some 32), (some (29, false)), .len false (.t 31)⟩,
  ⟨(some 33), (some (29, false)), .bin .gtr .no (.t 32) (.c (.int .i64 20))⟩,
  ⟨(some 34), none, .pick (.t 29) (.c (.bool true)) (.t 33)⟩]
@[go_sem] def x_r06_Check_2 : List XO := [
  ⟨(some 2), none, .mv (.c (.int .i64 60))⟩]
@[go_sem] def x_r06_Check_3 : List XO := [
  ⟨(some 35), none, .fldA 0 (.tf 1)⟩,
  ⟨(some 36), none, .load false 1 (.tf 35)⟩,
  ⟨(some 37), none, .len false (.t 36)⟩,
  ⟨(some 3), none, .mv (.t 37)⟩]
@[go_sem] def x_r06_Check_4 : List XO := [
  ⟨(some 4), none, .mv (.c (.int .i64 0))⟩]
@[go_sem] def x_r06_Check_5 : List XO := [
  ⟨(some 38), none, .mv (.t 4)⟩,
  ⟨(some 39), none, .mv (.t 3)⟩,
  ⟨(some 40), none, .bin .lss .no (.t 38) (.t 39)⟩]
@[go_sem] def x_r06_Check_6 : List XO := [
  ⟨(some 43), none, .fldA 0 (.tf 1)⟩,
  ⟨(some 44), none, .load false 1 (.tf 43)⟩,
  ⟨(some 45), none, .mv (.t 4)⟩,
  ⟨(some 46), none, .ixA 5 (.t 44) (.t 45)⟩,
  ⟨(some 47), none, .load true 5 (.t 46)⟩,
  ⟨(some 5), none, .alloc [(.int .i64 0), (.int .i64 0), (.int .i64 0), (.int .i64 0), (.int .i64 0)]⟩,
  ⟨none, none, .store 5 (.t 5) (.t 47)⟩]
@[go_sem] def x_r06_Check_7 : List XO := [
  ⟨(some 48), none, .fldA 0 (.t 5)⟩,
  ⟨(some 49), none, .load false 1 (.t 48)⟩,
  ⟨(some 50), none, .call "newel/newelref06.within" [(.t 49), (.c (.int .i64 0)), (.c (.int .i64 1000))]⟩,
  ⟨(some 51), none, .un .not (.t 50)⟩,
  ⟨(some 52), none, .mv (.t 51)⟩,
  ⟨(some 53), (some (52, false)), .fldA 1 (.t 5)⟩,
  ⟨(some 54), (some (52, false)), .load false 1 (.t 53)⟩,
  ⟨(some 55), (some (52, false)), .call "newel/newelref06.within" [(.t 54), (.c (.int .i64 0)), (.c (.int .i64 100000))]⟩,
  ⟨(some 56), (some (52, false)), .un .not (.t 55)⟩,
  ⟨(some 57), none, .pick (.t 52) (.c (.bool true)) (.t 56)⟩,
  ⟨(some 58), none, .mv (.t 57)⟩,
  ⟨(some 59), (some (58, false)), .fldA 2 (.t 5)⟩,
  ⟨(some 60), (some (58, false)), .load false 1 (.t 59)⟩,
  ⟨(some 61), (some (58, false)), .bin .neq .no (.t 60) (.c (.int .i64 (-1)))⟩,
  ⟨(some 62), (some (58, false)), .mv (.t 61)⟩,
  ⟨(some 63), (some (62, true)), .fldA 2 (.t 5)⟩,
  ⟨(some 64), (some (62, true)), .load false 1 (.t 63)⟩,
  ⟨(some 65), (some (62, true)), .mv (.t 4)⟩,
  ⟨(some 66), (some (62, true)), .bin .add .no (.t 65) (.c (.int .i64 1))⟩,
  ⟨(some 67), (some (62, true)), .mv (.t 3)⟩,
  ⟨(some 68), (some (62, true)), .bin .sub .no (.t 67) (.c (.int .i64 1))⟩,
  ⟨(some 69), (some (62, true)), .call "newel/newelref06.within" [(.t 64), (.t 66), (.t 68)]⟩,
  ⟨(some 70), (some (62, true)), .un .not (.t 69)⟩,
  ⟨(some 71), (some (58, false)), .pick (.t 62) (.t 70) (.c (.bool false))⟩,
  ⟨(some 72), none, .pick (.t 58) (.c (.bool true)) (.t 71)⟩,
  ⟨(some 73), none, .mv (.t 72)⟩,
  ⟨(some 74), (some (73, false)), .fldA 3 (.t 5)⟩,
  ⟨(some 75), (some (73, false)), .load true 2 (.t 74)⟩,
  ⟨(some 76), (some (73, false)), .call "newel/newelref06.spanned" [(.t 75), (.c (.int .i64 1)), (.c (.int .i64 20))]⟩,
  ⟨(some 77), (some (73, false)), .un .not (.t 76)⟩,
  ⟨(some 78), none, .pick (.t 73) (.c (.bool true)) (.t 77)⟩]
@[go_sem] def x_r06_Check_8 : List XO := [
  ⟨(some 2), none, .mv (.c (.int .i64 60))⟩]
@[go_sem] def x_r06_Check_9 : List XO := [
  ⟨(some 41), none, .mv (.t 4)⟩,
  ⟨(some 42), none, .bin .add .no (.t 41) (.c (.int .i64 1))⟩,
  ⟨(some 4), none, .mv (.t 42)⟩]
def x_r06_Check_L10 : XCode :=
  (.seq (.seq (.reg x_r06_Check_5) (.cond (.t 40) .skip (.exit 0))) (.seq (.block 1 (.seq (.reg x_r06_Check_6) (.seq (.reg x_r06_Check_7) (.cond (.t 78) (.seq (.reg x_r06_Check_8) .ret) .skip)))) (.reg x_r06_Check_9)))
@[go_sem] def x_r06_Check_11 : List XO := [
  ⟨(some 6), none, .mv (.c (.int .i64 0))⟩]
@[go_sem] def x_r06_Check_12 : List XO := [
  ⟨(some 79), none, .mv (.t 6)⟩,
  ⟨(some 80), none, .fldA 1 (.tf 1)⟩,
  ⟨(some 81), none, .load false 1 (.tf 80)⟩,
  ⟨(some 82), none, .len false (.t 81)⟩,
  ⟨(some 83), none, .bin .lss .no (.t 79) (.t 82)⟩]
@[go_sem] def x_r06_Check_13 : List XO := [
  ⟨(some 86), none, .fldA 1 (.tf 1)⟩,
  ⟨(some 87), none, .load false 1 (.tf 86)⟩,
  ⟨(some 88), none, .mv (.t 6)⟩,
  ⟨(some 89), none, .ixA 3 (.t 87) (.t 88)⟩,
  ⟨(some 90), none, .load true 3 (.t 89)⟩,
  ⟨(some 7), none, .alloc [(.int .i64 0), (.int .i64 0), (.slice none 0 0)]⟩,
  ⟨none, none, .store 3 (.t 7) (.t 90)⟩]
@[go_sem] def x_r06_Check_14 : List XO := [
  ⟨(some 91), none, .fldA 0 (.t 7)⟩,
  ⟨(some 92), none, .load true 2 (.t 91)⟩,
  ⟨(some 93), none, .fldA 3 (.tf 1)⟩,
  ⟨(some 94), none, .load false 1 (.tf 93)⟩,
  ⟨(some 95), none, .bin .sub .no (.t 94) (.c (.int .i64 1))⟩,
  ⟨(some 96), none, .call "newel/newelref06.spanned" [(.t 92), (.c (.int .i64 0)), (.t 95)]⟩,
  ⟨(some 97), none, .un .not (.t 96)⟩,
  ⟨(some 98), none, .mv (.t 97)⟩,
  ⟨(some 99), (some (98, false)), .fldA 2 (.t 7)⟩,
  ⟨(some 100), (some (98, false)), .load false 1 (.t 99)⟩,
  ⟨(some 101), (some (98, false)), .len false (.t 100)⟩,
  ⟨(some 102), (some (98, false)), .bin .gtr .no (.t 101) (.c (.int .i64 4))⟩,
  ⟨(some 103), none, .pick (.t 98) (.c (.bool true)) (.t 102)⟩]
@[go_sem] def x_r06_Check_15 : List XO := [
  ⟨(some 2), none, .mv (.c (.int .i64 60))⟩]
@[go_sem] def x_r06_Check_16 : List XO := [
  ⟨(some 8), none, .mv (.c (.int .i64 (-1)))⟩]
@[go_sem] def x_r06_Check_17 : List XO := [
  ⟨(some 9), none, .mv (.c (.int .i64 0))⟩]
@[go_sem] def x_r06_Check_18 : List XO := [
  ⟨(some 104), none, .mv (.t 9)⟩,
  ⟨(some 105), none, .fldA 2 (.t 7)⟩,
  ⟨(some 106), none, .load false 1 (.t 105)⟩,
  ⟨(some 107), none, .len false (.t 106)⟩,
  ⟨(some 108), none, .bin .lss .no (.t 104) (.t 107)⟩]
@[go_sem] def x_r06_Check_19 : List XO := [
  ⟨(some 111), none, .fldA 2 (.t 7)⟩,
  ⟨(some 112), none, .load false 1 (.t 111)⟩,
  ⟨(some 113), none, .mv (.t 9)⟩,
  ⟨(some 114), none, .ixA 3 (.t 112) (.t 113)⟩,
  ⟨(some 115), none, .fldA 0 (.t 114)⟩,
  ⟨(some 116), none, .load false 1 (.t 115)⟩,
  ⟨(some 117), none, .mv (.t 8)⟩,
  ⟨(some 118), none, .bin .add .no (.t 117) (.c (.int .i64 1))⟩,
  ⟨(some 119), none, .mv (.t 3)⟩,
  ⟨(some 120), none, .bin .sub .no (.t 119) (.c (.int .i64 1))⟩,
  ⟨(some 121), none, .call "newel/newelref06.within" [(.t 116), (.t 118), (.t 120)]⟩,
  ⟨(some 122), none, .un .not (.t 121)⟩,
  ⟨(some 123), none, .mv (.t 122)⟩,
  ⟨(some 124), (some (123, false)), .fldA 2 (.t 7)⟩,
  ⟨(some 125), (some (123, false)), .load false 1 (.t 124)⟩,
  ⟨(some 126), (some (123, false)), .mv (.t 9)⟩,
  ⟨(some 127), (some (123, false)), .ixA 3 (.t 125) (.t 126)⟩,
  ⟨(some 128), (some (123, false)), .fldA 1 (.t 127)⟩,
  ⟨(some 129), (some (123, false)), .load true 2 (.t 128)⟩,
  ⟨(some 130), (some (123, false)), .call "newel/newelref06.spanned" [(.t 129), (.c (.int .i64 0)), (.c (.int .i64 1000))]⟩,
  ⟨(some 131), (some (123, false)), .un .not (.t 130)⟩,
  ⟨(some 132), none, .pick (.t 123) (.c (.bool true)) (.t 131)⟩]
@[go_sem] def x_r06_Check_20 : List XO := [
  ⟨(some 2), none, .mv (.c (.int .i64 60))⟩]
@[go_sem] def x_r06_Check_21 : List XO := [
  ⟨(some 133), none, .fldA 2 (.t 7)⟩,
  ⟨(some 134), none, .load false 1 (.t 133)⟩,
  ⟨(some 135), none, .mv (.t 9)⟩,
  ⟨(some 136), none, .ixA 3 (.t 134) (.t 135)⟩,
  ⟨(some 137), none, .fldA 0 (.t 136)⟩,
  ⟨(some 138), none, .load false 1 (.t 137)⟩,
  ⟨(some 8), none, .mv (.t 138)⟩]
@[go_sem] def x_r06_Check_22 : List XO := [
  ⟨(some 109), none, .mv (.t 9)⟩,
  ⟨(some 110), none, .bin .add .no (.t 109) (.c (.int .i64 1))⟩,
  ⟨(some 9), none, .mv (.t 110)⟩]
def x_r06_Check_L23 : XCode :=
  (.seq (.seq (.reg x_r06_Check_18) (.cond (.t 108) .skip (.exit 4))) (.seq (.block 5 (.seq (.seq (.reg x_r06_Check_19) (.cond (.t 132) (.seq (.reg x_r06_Check_20) .ret) .skip)) (.reg x_r06_Check_21))) (.reg x_r06_Check_22)))
@[go_sem] def x_r06_Check_24 : List XO := [
  ⟨(some 84), none, .mv (.t 6)⟩,
  ⟨(some 85), none, .bin .add .no (.t 84) (.c (.int .i64 1))⟩,
  ⟨(some 6), none, .mv (.t 85)⟩]
def x_r06_Check_L25 : XCode :=
  (.seq (.seq (.reg x_r06_Check_12) (.cond (.t 83) .skip (.exit 2))) (.seq (.block 3 (.seq (.reg x_r06_Check_13) (.seq (.seq (.reg x_r06_Check_14) (.cond (.t 103) (.seq (.reg x_r06_Check_15) .ret) .skip)) (.seq (.reg x_r06_Check_16) (.seq (.reg x_r06_Check_17) (.block 4 (.loop x_r06_Check_L23))))))) (.reg x_r06_Check_24)))
@[go_sem] def x_r06_Check_26 : List XO := [
  ⟨(some 10), none, .mv (.c (.int .i64 0))⟩]
@[go_sem] def x_r06_Check_27 : List XO := [
  ⟨(some 139), none, .mv (.t 10)⟩,
  ⟨(some 140), none, .fldA 2 (.tf 1)⟩,
  ⟨(some 141), none, .load false 1 (.tf 140)⟩,
  ⟨(some 142), none, .len false (.t 141)⟩,
  ⟨(some 143), none, .bin .lss .no (.t 139) (.t 142)⟩]
@[go_sem] def x_r06_Check_28 : List XO := [
  ⟨(some 146), none, .fldA 2 (.tf 1)⟩,
  ⟨(some 147), none, .load false 1 (.tf 146)⟩,
  ⟨(some 148), none, .mv (.t 10)⟩,
  ⟨(some 149), none, .ixA 3 (.t 147) (.t 148)⟩,
  ⟨(some 150), none, .load true 3 (.t 149)⟩,
  ⟨(some 11), none, .alloc [(.int .i64 0), (.int .i64 0), (.int .i64 0)]⟩,
  ⟨none, none, .store 3 (.t 11) (.t 150)⟩]
@[go_sem] def x_r06_Check_29 : List XO := [
  ⟨(some 151), none, .fldA 0 (.t 11)⟩,
  ⟨(some 152), none, .load false 1 (.t 151)⟩,
  ⟨(some 153), none, .fldA 3 (.tf 1)⟩,
  ⟨(some 154), none, .load false 1 (.tf 153)⟩,
  ⟨(some 155), none, .bin .sub .no (.t 154) (.c (.int .i64 1))⟩,
  ⟨(some 156), none, .call "newel/newelref06.within" [(.t 152), (.c (.int .i64 0)), (.t 155)]⟩,
  ⟨(some 157), none, .un .not (.t 156)⟩,
  ⟨(some 158), none, .mv (.t 157)⟩,
  ⟨(some 159), (some (158, false)), .fldA 1 (.t 11)⟩,
  ⟨(some 160), (some (158, false)), .load false 1 (.t 159)⟩,
  ⟨(some 161), (some (158, false)), .mv (.t 3)⟩,
  ⟨(some 162), (some (158, false)), .bin .sub .no (.t 161) (.c (.int .i64 1))⟩,
  ⟨(some 163), (some (158, false)), .call "newel/newelref06.within" [(.t 160), (.c (.int .i64 0)), (.t 162)]⟩,
  ⟨(some 164), (some (158, false)), .un .not (.t 163)⟩,
  ⟨(some 165), none, .pick (.t 158) (.c (.bool true)) (.t 164)⟩,
  ⟨(some 166), none, .mv (.t 165)⟩,
  ⟨(some 167), (some (166, false)), .fldA 2 (.t 11)⟩,
  ⟨(some 168), (some (166, false)), .load false 1 (.t 167)⟩,
  ⟨(some 169), (some (166, false)), .call "newel/newelref06.within" [(.t 168), (.c (.int .i64 0)), (.c (.int .i64 1000))]⟩,
  ⟨(some 170), (some (166, false)), .un .not (.t 169)⟩,
  ⟨(some 171), none, .pick (.t 166) (.c (.bool true)) (.t 170)⟩,
  ⟨(some 172), none, .mv (.t 171)⟩,
  ⟨(some 173), (some (172, false)), .mv (.t 10)⟩,
  ⟨(some 174), (some (172, false)), .bin .gtr .no (.t 173) (.c (.int .i64 0))⟩,
  ⟨(some 175), (some (172, false)), .mv (.t 174)⟩,
  ⟨(some 176), (some (175, true)), .fldA 0 (.t 11)⟩,
  ⟨(some 177), (some (175, true)), .load false 1 (.t 176)⟩,
  ⟨(some 178), (some (175, true)), .fldA 2 (.tf 1)⟩,
  ⟨(some 179), (some (175, true)), .load false 1 (.tf 178)⟩,
  ⟨(some 180), (some (175, true)), .mv (.t 10)⟩,
  ⟨(some 181), (some (175, true)), .bin .sub .no (.t 180) (.c (.int .i64 1))⟩,
  ⟨(some 182), (some (175, true)), .ixA 3 (.t 179) (.t 181)⟩,
  ⟨(some 183), (some (175, true)), .fldA 0 (.t 182)⟩,
  ⟨(some 184), (some (175, true)), .load false 1 (.t 183)⟩,
  ⟨(some 185), (some (175, true)), .bin .lss .no (.t 177) (.t 184)⟩,
  ⟨(some 186), (some (172, false)), .pick (.t 175) (.t 185) (.c (.bool false))⟩,
  ⟨(some 187), none, .pick (.t 172) (.c (.bool true)) (.t 186)⟩]
@[go_sem] def x_r06_Check_30 : List XO := [
  ⟨(some 2), none, .mv (.c (.int .i64 60))⟩]
@[go_sem] def x_r06_Check_31 : List XO := [
  ⟨(some 144), none, .mv (.t 10)⟩,
  ⟨(some 145), none, .bin .add .no (.t 144) (.c (.int .i64 1))⟩,
  ⟨(some 10), none, .mv (.t 145)⟩]
def x_r06_Check_L32 : XCode :=
  (.seq (.seq (.reg x_r06_Check_27) (.cond (.t 143) .skip (.exit 6))) (.seq (.block 7 (.seq (.reg x_r06_Check_28) (.seq (.reg x_r06_Check_29) (.cond (.t 187) (.seq (.reg x_r06_Check_30) .ret) .skip)))) (.reg x_r06_Check_31)))
@[go_sem] def x_r06_Check_33 : List XO := [
  ⟨(some 2), none, .mv (.c (.int .i64 0))⟩]
def x_r06_Check : XFunc := { np := 1, res := [.t 2], body :=
  (.seq (.reg x_r06_Check_0) (.seq (.seq (.reg x_r06_Check_1) (.cond (.t 34) (.seq (.reg x_r06_Check_2) .ret) .skip)) (.seq (.reg x_r06_Check_3) (.seq (.seq (.reg x_r06_Check_4) (.block 0 (.loop x_r06_Check_L10))) (.seq (.seq (.reg x_r06_Check_11) (.block 2 (.loop x_r06_Check_L25))) (.seq (.seq (.reg x_r06_Check_26) (.block 6 (.loop x_r06_Check_L32))) (.seq (.reg x_r06_Check_33) .ret))))))) }

/- newel/newellaw06.works boxF [] frz [] -/
@[go_sem] def x_l06_works_0 : List XO := [
  ⟨(some 0), none, .mv (.c (.bool false))⟩]
@[go_sem] def x_l06_works_1 : List XO := [
  ⟨(some 6), none, .call "newel/newellaw06.Example" []⟩,
  ⟨(some 7), none, .call "newel/halls.Guard" [(.t 6), (.c (.int .i64 0)), (.c (.int .i64 5))]⟩,
  ⟨(some 5), none, .mv (.t 7)⟩,
  ⟨(some 8), none, .ext (.t 5) 0⟩,
  ⟨(some 9), none, .ext (.t 5) 1⟩,
  ⟨(some 1), none, .mv (.t 8)⟩,
  ⟨(some 2), none, .mv (.t 9)⟩]
@[go_sem] def x_l06_works_2 : List XO := [
  ⟨(some 11), none, .call "newel/newellaw06.Example" []⟩,
  ⟨(some 12), none, .call "newel/halls.Over" [(.t 11)]⟩,
  ⟨(some 10), none, .mv (.t 12)⟩,
  ⟨(some 13), none, .ext (.t 10) 0⟩,
  ⟨(some 14), none, .ext (.t 10) 1⟩,
  ⟨(some 3), none, .mv (.t 13)⟩,
  ⟨(some 4), none, .mv (.t 14)⟩]
@[go_sem] def x_l06_works_3 : List XO := [
  ⟨(some 15), none, .mv (.t 2)⟩,
  ⟨(some 16), none, .bin .eql .no (.t 15) (.c (.int .i64 0))⟩,
  ⟨(some 17), none, .mv (.t 16)⟩,
  ⟨(some 18), (some (17, true)), .mv (.t 4)⟩,
  ⟨(some 19), (some (17, true)), .bin .eql .no (.t 18) (.c (.int .i64 0))⟩,
  ⟨(some 20), none, .pick (.t 17) (.t 19) (.c (.bool false))⟩,
  ⟨(some 21), none, .mv (.t 20)⟩,
  ⟨(some 22), (some (21, true)), .mv (.t 1)⟩,
  ⟨(some 23), (some (21, true)), .bin .eql .no (.t 22) (.c (.int .i64 1))⟩,
  ⟨(some 24), none, .pick (.t 21) (.t 23) (.c (.bool false))⟩,
  ⟨(some 25), none, .mv (.t 24)⟩,
  ⟨(some 26), (some (25, true)), .mv (.t 3)⟩,
  ⟨(some 27), (some (25, true)), .len false (.t 26)⟩,
  ⟨(some 28), (some (25, true)), .bin .eql .no (.t 27) (.c (.int .i64 1))⟩,
  ⟨(some 29), none, .pick (.t 25) (.t 28) (.c (.bool false))⟩,
  ⟨(some 30), none, .mv (.t 29)⟩,
  ⟨(some 31), (some (30, true)), .mv (.t 3)⟩,
  ⟨(some 32), (some (30, true)), .ixA 2 (.t 31) (.c (.int .i64 0))⟩,
  ⟨(some 33), (some (30, true)), .load true 2 (.t 32)⟩,
  ⟨(some 34), (some (30, true)), .build [(.int .i64 0), (.int .i64 0)] [(0, 1, (.c (.int .i64 1))), (1, 1, (.c (.int .i64 7)))]⟩,
  ⟨(some 35), (some (30, true)), .bin .eql (.flat [.i, .i]) (.t 33) (.t 34)⟩,
  ⟨(some 36), none, .pick (.t 30) (.t 35) (.c (.bool false))⟩,
  ⟨(some 0), none, .mv (.t 36)⟩]
def x_l06_works : XFunc := { np := 0, res := [.t 0], body :=
  (.seq (.reg x_l06_works_0) (.seq (.reg x_l06_works_1) (.seq (.reg x_l06_works_2) (.seq (.reg x_l06_works_3) .ret)))) }

/- newel/halls.Guard boxF [3, 34] frz [(1000004, 2000049), (1000007, 2000051)] -/
@[go_sem] def x_halls_Guard_0 : List XO := [
  ⟨(some 3), none, .boxF (.t 0)⟩,
  ⟨(some 6), none, .mv (.c (.int .i64 0))⟩,
  ⟨(some 7), none, .mv (.c (.int .i64 0))⟩]
@[go_sem] def x_halls_Guard_1 : List XO := [
  ⟨(some 11), none, .load true 4 (.tf 3)⟩,
  ⟨(some 12), none, .mv (.t 1)⟩,
  ⟨(some 13), none, .mv (.t 2)⟩,
  ⟨(some 14), none, .bsl 1 [(.t 13)]⟩,
  ⟨(some 15), none, .call "newel/halls.check" [(.t 11), (.t 12), (.t 14)]⟩,
  ⟨(some 8), none, .mv (.t 15)⟩]
@[go_sem] def x_halls_Guard_2 : List XO := [
  ⟨(some 16), none, .mv (.t 8)⟩,
  ⟨(some 17), none, .bin .neq .no (.t 16) (.c (.int .i64 0))⟩]
@[go_sem] def x_halls_Guard_3 : List XO := [
  ⟨(some 18), none, .mv (.t 8)⟩,
  ⟨(some 6), none, .mv (.c (.int .i64 0))⟩,
  ⟨(some 7), none, .mv (.t 18)⟩]
@[go_sem] def x_halls_Guard_4 : List XO := [
  ⟨(some 19), none, .load true 4 (.tf 3)⟩,
  ⟨(some 20), none, .callw "newel/halls.open" [(.t 19)]⟩,
  ⟨(some 9), none, .mv (.t 20)⟩]
@[go_sem] def x_halls_Guard_5 : List XO := [
  ⟨(some 10), none, .mv (.c (.int .i64 0))⟩]
@[go_sem] def x_halls_Guard_6 : List XO := [
  ⟨(some 23), none, .load true 4 (.tf 3)⟩,
  ⟨(some 24), none, .load true 4 (.tf 3)⟩,
  ⟨(some 25), none, .mv (.t 9)⟩,
  ⟨(some 26), none, .callw "newel/halls.bounds" [(.t 24), (.t 25)]⟩,
  ⟨(some 27), none, .call "newel/halls.over" [(.t 23), (.t 26)]⟩,
  ⟨(some 28), none, .len false (.t 27)⟩,
  ⟨(some 29), none, .bin .eql .no (.t 28) (.c (.int .i64 0))⟩]
@[go_sem] def x_halls_Guard_7 : List XO := [
  ⟨(some 30), none, .mv (.t 10)⟩,
  ⟨(some 6), none, .mv (.t 30)⟩,
  ⟨(some 7), none, .mv (.c (.int .i64 0))⟩]
@[go_sem] def x_halls_Guard_8 : List XO := [
  ⟨(some 31), none, .mv (.t 2)⟩,
  ⟨(some 32), none, .mv (.t 10)⟩,
  ⟨(some 33), none, .bin .add .no (.t 31) (.t 32)⟩,
  ⟨(some 34), none, .fldA 3 (.tf 3)⟩,
  ⟨(some 35), none, .load false 1 (.tf 34)⟩,
  ⟨(some 36), none, .bin .eql .no (.t 33) (.t 35)⟩]
@[go_sem] def x_halls_Guard_9 : List XO := [
  ⟨(some 6), none, .mv (.c (.int .i64 0))⟩,
  ⟨(some 7), none, .mv (.c (.int .i64 3))⟩]
@[go_sem] def x_halls_Guard_10 : List XO := [
  ⟨(some 37), none, .mv (.t 9)⟩,
  ⟨(some 38), none, .mv (.t 1)⟩,
  ⟨(some 39), none, .ixA 1 (.t 37) (.t 38)⟩,
  ⟨(some 40), none, .load false 1 (.t 39)⟩,
  ⟨(some 41), none, .mv (.t 2)⟩,
  ⟨(some 42), none, .mv (.t 10)⟩,
  ⟨(some 43), none, .bin .add .no (.t 41) (.t 42)⟩,
  ⟨(some 44), none, .ixA 1 (.t 40) (.t 43)⟩,
  ⟨none, none, .store 1 (.t 44) (.c (.int .i64 0))⟩]
@[go_sem] def x_halls_Guard_11 : List XO := [
  ⟨(some 21), none, .mv (.t 10)⟩,
  ⟨(some 22), none, .bin .add .no (.t 21) (.c (.int .i64 1))⟩,
  ⟨(some 10), none, .mv (.t 22)⟩]
def x_halls_Guard_L12 : XCode :=
  (.seq (.block 1 (.seq (.seq (.reg x_halls_Guard_6) (.cond (.t 29) (.seq (.reg x_halls_Guard_7) .ret) .skip)) (.seq (.seq (.reg x_halls_Guard_8) (.cond (.t 36) (.seq (.reg x_halls_Guard_9) .ret) .skip)) (.reg x_halls_Guard_10)))) (.reg x_halls_Guard_11))
def x_halls_Guard : XFunc := { np := 3, res := [.t 6, .t 7], body :=
  (.seq (.reg x_halls_Guard_0) (.seq (.seq (.reg x_halls_Guard_1) (.seq (.reg x_halls_Guard_2) (.cond (.t 17) (.seq (.reg x_halls_Guard_3) .ret) .skip))) (.seq (.reg x_halls_Guard_4) (.seq (.reg x_halls_Guard_5) (.block 0 (.loop x_halls_Guard_L12)))))) }

/- newel/halls.Over boxF [1] frz [] -/
@[go_sem] def x_halls_Over_0 : List XO := [
  ⟨(some 1), none, .boxF (.t 0)⟩,
  ⟨(some 2), none, .mv (.c (.slice none 0 0))⟩,
  ⟨(some 3), none, .mv (.c (.int .i64 0))⟩]
@[go_sem] def x_halls_Over_1 : List XO := [
  ⟨(some 5), none, .load true 4 (.tf 1)⟩,
  ⟨(some 6), none, .call "newel/halls.Check" [(.t 5)]⟩,
  ⟨(some 4), none, .mv (.t 6)⟩]
@[go_sem] def x_halls_Over_2 : List XO := [
  ⟨(some 7), none, .mv (.t 4)⟩,
  ⟨(some 8), none, .bin .neq .no (.t 7) (.c (.int .i64 0))⟩]
@[go_sem] def x_halls_Over_3 : List XO := [
  ⟨(some 9), none, .mv (.t 4)⟩,
  ⟨(some 2), none, .mv (.c (.slice none 0 0))⟩,
  ⟨(some 3), none, .mv (.t 9)⟩]
@[go_sem] def x_halls_Over_4 : List XO := [
  ⟨(some 10), none, .load true 4 (.tf 1)⟩,
  ⟨(some 11), none, .load true 4 (.tf 1)⟩,
  ⟨(some 12), none, .load true 4 (.tf 1)⟩,
  ⟨(some 13), none, .call "newel/halls.open" [(.t 12)]⟩,
  ⟨(some 14), none, .call "newel/halls.bounds" [(.t 11), (.t 13)]⟩,
  ⟨(some 15), none, .call "newel/halls.over" [(.t 10), (.t 14)]⟩,
  ⟨(some 2), none, .mv (.t 15)⟩,
  ⟨(some 3), none, .mv (.c (.int .i64 0))⟩]
def x_halls_Over : XFunc := { np := 1, res := [.t 2, .t 3], body :=
  (.seq (.reg x_halls_Over_0) (.seq (.seq (.reg x_halls_Over_1) (.seq (.reg x_halls_Over_2) (.cond (.t 8) (.seq (.reg x_halls_Over_3) .ret) .skip))) (.seq (.reg x_halls_Over_4) .ret))) }

/- newel/halls.Most boxF [2] frz [] -/
@[go_sem] def x_halls_Most_0 : List XO := [
  ⟨(some 2), none, .boxF (.t 0)⟩,
  ⟨(some 4), none, .mv (.c (.slice none 0 0))⟩,
  ⟨(some 5), none, .mv (.c (.int .i64 0))⟩]
@[go_sem] def x_halls_Most_1 : List XO := [
  ⟨(some 7), none, .load true 4 (.tf 2)⟩,
  ⟨(some 8), none, .mv (.t 1)⟩,
  ⟨(some 9), none, .call "newel/halls.check" [(.t 7), (.t 8), (.c (.slice none 0 0))]⟩,
  ⟨(some 6), none, .mv (.t 9)⟩]
@[go_sem] def x_halls_Most_2 : List XO := [
  ⟨(some 10), none, .mv (.t 6)⟩,
  ⟨(some 11), none, .bin .neq .no (.t 10) (.c (.int .i64 0))⟩]
@[go_sem] def x_halls_Most_3 : List XO := [
  ⟨(some 12), none, .mv (.t 6)⟩,
  ⟨(some 4), none, .mv (.c (.slice none 0 0))⟩,
  ⟨(some 5), none, .mv (.t 12)⟩]
@[go_sem] def x_halls_Most_4 : List XO := [
  ⟨(some 13), none, .load true 4 (.tf 2)⟩,
  ⟨(some 14), none, .load true 4 (.tf 2)⟩,
  ⟨(some 15), none, .call "newel/halls.open" [(.t 14)]⟩,
  ⟨(some 16), none, .call "newel/halls.bounds" [(.t 13), (.t 15)]⟩,
  ⟨(some 17), none, .mv (.t 1)⟩,
  ⟨(some 18), none, .ixA 1 (.t 16) (.t 17)⟩,
  ⟨(some 19), none, .load false 1 (.t 18)⟩,
  ⟨(some 20), none, .nilck (.t 19)⟩,
  ⟨(some 21), none, .fldA 2 (.t 20)⟩,
  ⟨(some 22), none, .load false 1 (.t 21)⟩,
  ⟨(some 4), none, .mv (.t 22)⟩,
  ⟨(some 5), none, .mv (.c (.int .i64 0))⟩]
def x_halls_Most : XFunc := { np := 2, res := [.t 4, .t 5], body :=
  (.seq (.reg x_halls_Most_0) (.seq (.seq (.reg x_halls_Most_1) (.seq (.reg x_halls_Most_2) (.cond (.t 11) (.seq (.reg x_halls_Most_3) .ret) .skip))) (.seq (.reg x_halls_Most_4) .ret))) }

/- newel/halls.Come boxF [4] frz [] -/
@[go_sem] def x_halls_Come_0 : List XO := [
  ⟨(some 4), none, .boxF (.t 0)⟩,
  ⟨(some 8), none, .mv (.c (.int .i64 0))⟩,
  ⟨(some 9), none, .mv (.c (.int .i64 0))⟩]
@[go_sem] def x_halls_Come_1 : List XO := [
  ⟨(some 11), none, .load true 4 (.tf 4)⟩,
  ⟨(some 12), none, .mv (.t 1)⟩,
  ⟨(some 13), none, .mv (.t 2)⟩,
  ⟨(some 14), none, .mv (.t 3)⟩,
  ⟨(some 15), none, .bsl 1 [(.t 13), (.t 14)]⟩,
  ⟨(some 16), none, .call "newel/halls.check" [(.t 11), (.t 12), (.t 15)]⟩,
  ⟨(some 10), none, .mv (.t 16)⟩]
@[go_sem] def x_halls_Come_2 : List XO := [
  ⟨(some 17), none, .mv (.t 10)⟩,
  ⟨(some 18), none, .bin .neq .no (.t 17) (.c (.int .i64 0))⟩]
@[go_sem] def x_halls_Come_3 : List XO := [
  ⟨(some 19), none, .mv (.t 10)⟩,
  ⟨(some 8), none, .mv (.c (.int .i64 0))⟩,
  ⟨(some 9), none, .mv (.t 19)⟩]
@[go_sem] def x_halls_Come_4 : List XO := [
  ⟨(some 20), none, .load true 4 (.tf 4)⟩,
  ⟨(some 21), none, .load true 4 (.tf 4)⟩,
  ⟨(some 22), none, .call "newel/halls.open" [(.t 21)]⟩,
  ⟨(some 23), none, .call "newel/halls.bounds" [(.t 20), (.t 22)]⟩,
  ⟨(some 24), none, .mv (.t 1)⟩,
  ⟨(some 25), none, .ixA 1 (.t 23) (.t 24)⟩,
  ⟨(some 26), none, .load false 1 (.t 25)⟩,
  ⟨(some 27), none, .nilck (.t 26)⟩,
  ⟨(some 28), none, .fldA 3 (.t 27)⟩,
  ⟨(some 29), none, .load false 1 (.t 28)⟩,
  ⟨(some 30), none, .mv (.t 2)⟩,
  ⟨(some 31), none, .ixA 1 (.t 29) (.t 30)⟩,
  ⟨(some 32), none, .load false 1 (.t 31)⟩,
  ⟨(some 33), none, .mv (.t 3)⟩,
  ⟨(some 34), none, .ixA 1 (.t 32) (.t 33)⟩,
  ⟨(some 35), none, .load false 1 (.t 34)⟩,
  ⟨(some 8), none, .mv (.t 35)⟩,
  ⟨(some 9), none, .mv (.c (.int .i64 0))⟩]
def x_halls_Come : XFunc := { np := 4, res := [.t 8, .t 9], body :=
  (.seq (.reg x_halls_Come_0) (.seq (.seq (.reg x_halls_Come_1) (.seq (.reg x_halls_Come_2) (.cond (.t 18) (.seq (.reg x_halls_Come_3) .ret) .skip))) (.seq (.reg x_halls_Come_4) .ret))) }

/- newel/halls.Rates boxF [2] frz [] -/
@[go_sem] def x_halls_Rates_0 : List XO := [
  ⟨(some 2), none, .boxF (.t 0)⟩,
  ⟨(some 4), none, .mv (.c (.slice none 0 0))⟩,
  ⟨(some 5), none, .mv (.c (.int .i64 0))⟩]
@[go_sem] def x_halls_Rates_1 : List XO := [
  ⟨(some 7), none, .load true 4 (.tf 2)⟩,
  ⟨(some 8), none, .mv (.t 1)⟩,
  ⟨(some 9), none, .call "newel/halls.check" [(.t 7), (.t 8), (.c (.slice none 0 0))]⟩,
  ⟨(some 6), none, .mv (.t 9)⟩]
@[go_sem] def x_halls_Rates_2 : List XO := [
  ⟨(some 10), none, .mv (.t 6)⟩,
  ⟨(some 11), none, .bin .neq .no (.t 10) (.c (.int .i64 0))⟩]
@[go_sem] def x_halls_Rates_3 : List XO := [
  ⟨(some 12), none, .mv (.t 6)⟩,
  ⟨(some 4), none, .mv (.c (.slice none 0 0))⟩,
  ⟨(some 5), none, .mv (.t 12)⟩]
@[go_sem] def x_halls_Rates_4 : List XO := [
  ⟨(some 13), none, .load true 4 (.tf 2)⟩,
  ⟨(some 14), none, .mv (.t 1)⟩,
  ⟨(some 15), none, .call "newel/halls.rates" [(.t 13), (.t 14)]⟩,
  ⟨(some 4), none, .mv (.t 15)⟩,
  ⟨(some 5), none, .mv (.c (.int .i64 0))⟩]
def x_halls_Rates : XFunc := { np := 2, res := [.t 4, .t 5], body :=
  (.seq (.reg x_halls_Rates_0) (.seq (.seq (.reg x_halls_Rates_1) (.seq (.reg x_halls_Rates_2) (.cond (.t 11) (.seq (.reg x_halls_Rates_3) .ret) .skip))) (.seq (.reg x_halls_Rates_4) .ret))) }

/- newel/halls.Play boxF [3, 146, 140, 70, 59, 2, 167, 155, 124, 86, 82, 42, 35, 30] frz [] -/
@[go_sem] def x_halls_Play_0 : List XO := [
  ⟨(some 2), none, .boxF (.t 0)⟩,
  ⟨(some 3), none, .boxF (.t 1)⟩,
  ⟨(some 4), none, .mv (.c (.slice none 0 0))⟩,
  ⟨(some 5), none, .mv (.c (.int .i64 0))⟩]
@[go_sem] def x_halls_Play_1 : List XO := [
  ⟨(some 21), none, .load true 4 (.tf 2)⟩,
  ⟨(some 22), none, .call "newel/halls.Check" [(.t 21)]⟩,
  ⟨(some 6), none, .mv (.t 22)⟩]
@[go_sem] def x_halls_Play_2 : List XO := [
  ⟨(some 23), none, .mv (.t 6)⟩,
  ⟨(some 24), none, .bin .neq .no (.t 23) (.c (.int .i64 0))⟩]
@[go_sem] def x_halls_Play_3 : List XO := [
  ⟨(some 25), none, .mv (.t 6)⟩,
  ⟨(some 4), none, .mv (.c (.slice none 0 0))⟩,
  ⟨(some 5), none, .mv (.t 25)⟩]
@[go_sem] def x_halls_Play_4 : List XO := [
  ⟨(some 26), none, .load true 4 (.tf 2)⟩,
  ⟨(some 27), none, .load true 3 (.tf 3)⟩,
  ⟨(some 28), none, .call "newel/halls.isDay" [(.t 26), (.t 27)]⟩,
  ⟨(some 29), none, .un .not (.t 28)⟩]
@[go_sem] def x_halls_Play_5 : List XO := [
  ⟨(some 4), none, .mv (.c (.slice none 0 0))⟩,
  ⟨(some 5), none, .mv (.c (.int .i64 61))⟩]
@[go_sem] def x_halls_Play_6 : List XO := [
  ⟨(some 7), none, .mv (.c (.slice none 0 0))⟩]
@[go_sem] def x_halls_Play_7 : List XO := [
  ⟨(some 30), none, .fldA 3 (.tf 2)⟩,
  ⟨(some 31), none, .load false 1 (.tf 30)⟩,
  ⟨(some 32), none, .mv (.c (.int .i64 0))⟩]
@[go_sem] def x_halls_Play_8 : List XO := [
  ⟨(some 33), none, .bin .lss .no (.t 32) (.t 31)⟩]
@[go_sem] def x_halls_Play_9 : List XO := [
  ⟨(some 34), none, .mv (.t 7)⟩,
  ⟨(some 35), none, .fldA 0 (.tf 2)⟩,
  ⟨(some 36), none, .load false 1 (.tf 35)⟩,
  ⟨(some 37), none, .len false (.t 36)⟩,
  ⟨(some 38), none, .mksl 1 [(.int .i64 0)] 8 (.t 37) (.t 37)⟩,
  ⟨(some 39), none, .bsl 1 [(.t 38)]⟩,
  ⟨(some 40), none, .app 1 24 (.t 34) (.t 39)⟩,
  ⟨(some 7), none, .mv (.t 40)⟩]
@[go_sem] def x_halls_Play_10 : List XO := [
  ⟨(some 41), none, .bin .add .no (.t 32) (.c (.int .i64 1))⟩,
  ⟨(some 32), none, .mv (.t 41)⟩]
def x_halls_Play_L11 : XCode :=
  (.seq (.reg x_halls_Play_8) (.seq (.cond (.t 33) .skip (.exit 0)) (.seq (.block 1 (.reg x_halls_Play_9)) (.reg x_halls_Play_10))))
@[go_sem] def x_halls_Play_12 : List XO := [
  ⟨(some 42), none, .fldA 1 (.tf 2)⟩,
  ⟨(some 43), none, .load false 1 (.tf 42)⟩,
  ⟨(some 44), none, .len false (.t 43)⟩,
  ⟨(some 45), none, .mv (.c (.int .i64 0))⟩]
@[go_sem] def x_halls_Play_13 : List XO := [
  ⟨(some 46), none, .bin .lss .no (.t 45) (.t 44)⟩]
@[go_sem] def x_halls_Play_14 : List XO := [
  ⟨(some 47), none, .mv (.t 45)⟩,
  ⟨(some 48), none, .ixA 3 (.t 43) (.t 45)⟩,
  ⟨(some 49), none, .load true 3 (.t 48)⟩,
  ⟨(some 9), none, .alloc [(.int .i64 0), (.int .i64 0), (.slice none 0 0)]⟩,
  ⟨(some 8), none, .mv (.t 47)⟩,
  ⟨none, none, .store 3 (.t 9) (.t 49)⟩]
@[go_sem] def x_halls_Play_15 : List XO := [
  ⟨(some 50), none, .fldA 2 (.t 9)⟩,
  ⟨(some 51), none, .load false 1 (.t 50)⟩,
  ⟨(some 52), none, .len false (.t 51)⟩,
  ⟨(some 53), none, .mv (.c (.int .i64 0))⟩]
@[go_sem] def x_halls_Play_16 : List XO := [
  ⟨(some 54), none, .bin .lss .no (.t 53) (.t 52)⟩]
@[go_sem] def x_halls_Play_17 : List XO := [
  ⟨(some 55), none, .mv (.t 53)⟩,
  ⟨(some 56), none, .ixA 3 (.t 51) (.t 53)⟩,
  ⟨(some 57), none, .load true 3 (.t 56)⟩,
  ⟨(some 11), none, .alloc [(.int .i64 0), (.int .i64 0), (.int .i64 0)]⟩,
  ⟨(some 10), none, .mv (.t 55)⟩,
  ⟨none, none, .store 3 (.t 11) (.t 57)⟩]
@[go_sem] def x_halls_Play_18 : List XO := [
  ⟨(some 58), none, .mv (.t 7)⟩,
  ⟨(some 59), none, .fldA 0 (.tf 3)⟩,
  ⟨(some 60), none, .load false 1 (.tf 59)⟩,
  ⟨(some 61), none, .mv (.t 8)⟩,
  ⟨(some 62), none, .ixA 1 (.t 60) (.t 61)⟩,
  ⟨(some 63), none, .load false 1 (.t 62)⟩,
  ⟨(some 64), none, .ixA 1 (.t 58) (.t 63)⟩,
  ⟨(some 65), none, .load false 1 (.t 64)⟩,
  ⟨(some 66), none, .fldA 0 (.t 11)⟩,
  ⟨(some 67), none, .load false 1 (.t 66)⟩,
  ⟨(some 68), none, .ixA 1 (.t 65) (.t 67)⟩,
  ⟨(some 69), none, .load false 1 (.t 68)⟩,
  ⟨(some 70), none, .fldA 1 (.tf 3)⟩,
  ⟨(some 71), none, .load false 1 (.tf 70)⟩,
  ⟨(some 72), none, .mv (.t 8)⟩,
  ⟨(some 73), none, .ixA 1 (.t 71) (.t 72)⟩,
  ⟨(some 74), none, .load false 1 (.t 73)⟩,
  ⟨(some 75), none, .mv (.t 10)⟩,
  ⟨(some 76), none, .ixA 1 (.t 74) (.t 75)⟩,
  ⟨(some 77), none, .load false 1 (.t 76)⟩,
  ⟨(some 78), none, .bin .add .no (.t 69) (.t 77)⟩,
  ⟨(some 79), none, .ixA 1 (.t 65) (.t 67)⟩,
  ⟨none, none, .store 1 (.t 79) (.t 78)⟩]
@[go_sem] def x_halls_Play_19 : List XO := [
  ⟨(some 80), none, .bin .add .no (.t 53) (.c (.int .i64 1))⟩,
  ⟨(some 53), none, .mv (.t 80)⟩]
def x_halls_Play_L20 : XCode :=
  (.seq (.reg x_halls_Play_16) (.seq (.cond (.t 54) .skip (.exit 4)) (.seq (.block 5 (.seq (.reg x_halls_Play_17) (.reg x_halls_Play_18))) (.reg x_halls_Play_19))))
@[go_sem] def x_halls_Play_21 : List XO := [
  ⟨(some 81), none, .bin .add .no (.t 45) (.c (.int .i64 1))⟩,
  ⟨(some 45), none, .mv (.t 81)⟩]
def x_halls_Play_L22 : XCode :=
  (.seq (.reg x_halls_Play_13) (.seq (.cond (.t 46) .skip (.exit 2)) (.seq (.block 3 (.seq (.reg x_halls_Play_14) (.seq (.reg x_halls_Play_15) (.block 4 (.loop x_halls_Play_L20))))) (.reg x_halls_Play_21))))
@[go_sem] def x_halls_Play_23 : List XO := [
  ⟨(some 82), none, .fldA 0 (.tf 2)⟩,
  ⟨(some 83), none, .load false 1 (.tf 82)⟩,
  ⟨(some 84), none, .len false (.t 83)⟩,
  ⟨(some 85), none, .mksl 1 [(.slice none 0 0)] 24 (.t 84) (.t 84)⟩,
  ⟨(some 12), none, .mv (.t 85)⟩]
@[go_sem] def x_halls_Play_24 : List XO := [
  ⟨(some 86), none, .fldA 0 (.tf 2)⟩,
  ⟨(some 87), none, .load false 1 (.tf 86)⟩,
  ⟨(some 88), none, .len false (.t 87)⟩,
  ⟨(some 89), none, .mv (.c (.int .i64 0))⟩]
@[go_sem] def x_halls_Play_25 : List XO := [
  ⟨(some 90), none, .bin .lss .no (.t 89) (.t 88)⟩]
@[go_sem] def x_halls_Play_26 : List XO := [
  ⟨(some 91), none, .mv (.t 89)⟩,
  ⟨(some 13), none, .mv (.t 91)⟩]
@[go_sem] def x_halls_Play_27 : List XO := [
  ⟨(some 92), none, .mv (.t 12)⟩,
  ⟨(some 93), none, .mv (.t 13)⟩,
  ⟨(some 94), none, .load true 4 (.tf 2)⟩,
  ⟨(some 95), none, .mv (.t 13)⟩,
  ⟨(some 96), none, .call "newel/halls.rates" [(.t 94), (.t 95)]⟩,
  ⟨(some 97), none, .ixA 1 (.t 92) (.t 93)⟩,
  ⟨none, none, .store 1 (.t 97) (.t 96)⟩]
@[go_sem] def x_halls_Play_28 : List XO := [
  ⟨(some 98), none, .bin .add .no (.t 89) (.c (.int .i64 1))⟩,
  ⟨(some 89), none, .mv (.t 98)⟩]
def x_halls_Play_L29 : XCode :=
  (.seq (.reg x_halls_Play_25) (.seq (.cond (.t 90) .skip (.exit 6)) (.seq (.block 7 (.seq (.reg x_halls_Play_26) (.reg x_halls_Play_27))) (.reg x_halls_Play_28))))
@[go_sem] def x_halls_Play_30 : List XO := [
  ⟨(some 99), none, .mv (.t 7)⟩,
  ⟨(some 100), none, .len false (.t 99)⟩,
  ⟨(some 101), none, .mv (.c (.int .i64 0))⟩]
@[go_sem] def x_halls_Play_31 : List XO := [
  ⟨(some 102), none, .bin .lss .no (.t 101) (.t 100)⟩]
@[go_sem] def x_halls_Play_32 : List XO := [
  ⟨(some 103), none, .mv (.t 101)⟩,
  ⟨(some 104), none, .ixA 1 (.t 99) (.t 101)⟩,
  ⟨(some 105), none, .load false 1 (.t 104)⟩,
  ⟨(some 14), none, .mv (.t 103)⟩,
  ⟨(some 15), none, .mv (.t 105)⟩]
@[go_sem] def x_halls_Play_33 : List XO := [
  ⟨(some 106), none, .mv (.t 15)⟩,
  ⟨(some 107), none, .len false (.t 106)⟩,
  ⟨(some 108), none, .mv (.c (.int .i64 0))⟩]
@[go_sem] def x_halls_Play_34 : List XO := [
  ⟨(some 109), none, .bin .lss .no (.t 108) (.t 107)⟩]
@[go_sem] def x_halls_Play_35 : List XO := [
  ⟨(some 110), none, .mv (.t 108)⟩,
  ⟨(some 111), none, .ixA 1 (.t 106) (.t 108)⟩,
  ⟨(some 112), none, .load false 1 (.t 111)⟩,
  ⟨(some 16), none, .mv (.t 110)⟩,
  ⟨(some 17), none, .mv (.t 112)⟩]
@[go_sem] def x_halls_Play_36 : List XO := [
  ⟨(some 113), none, .mv (.t 17)⟩,
  ⟨(some 114), none, .mv (.t 12)⟩,
  ⟨(some 115), none, .mv (.t 16)⟩,
  ⟨(some 116), none, .ixA 1 (.t 114) (.t 115)⟩,
  ⟨(some 117), none, .load false 1 (.t 116)⟩,
  ⟨(some 118), none, .mv (.t 14)⟩,
  ⟨(some 119), none, .ixA 1 (.t 117) (.t 118)⟩,
  ⟨(some 120), none, .load false 1 (.t 119)⟩,
  ⟨(some 121), none, .min [(.t 113), (.t 120)]⟩,
  ⟨(some 18), none, .mv (.t 121)⟩]
@[go_sem] def x_halls_Play_37 : List XO := [
  ⟨(some 122), none, .mv (.t 14)⟩,
  ⟨(some 123), none, .bin .add .no (.t 122) (.c (.int .i64 1))⟩,
  ⟨(some 124), none, .fldA 3 (.tf 2)⟩,
  ⟨(some 125), none, .load false 1 (.tf 124)⟩,
  ⟨(some 126), none, .bin .lss .no (.t 123) (.t 125)⟩]
@[go_sem] def x_halls_Play_38 : List XO := [
  ⟨(some 127), none, .mv (.t 7)⟩,
  ⟨(some 128), none, .mv (.t 14)⟩,
  ⟨(some 129), none, .bin .add .no (.t 128) (.c (.int .i64 1))⟩,
  ⟨(some 130), none, .ixA 1 (.t 127) (.t 129)⟩,
  ⟨(some 131), none, .load false 1 (.t 130)⟩,
  ⟨(some 132), none, .mv (.t 16)⟩,
  ⟨(some 133), none, .ixA 1 (.t 131) (.t 132)⟩,
  ⟨(some 134), none, .load false 1 (.t 133)⟩,
  ⟨(some 135), none, .mv (.t 17)⟩,
  ⟨(some 136), none, .mv (.t 18)⟩,
  ⟨(some 137), none, .bin .sub .no (.t 135) (.t 136)⟩,
  ⟨(some 138), none, .bin .add .no (.t 134) (.t 137)⟩,
  ⟨(some 139), none, .ixA 1 (.t 131) (.t 132)⟩,
  ⟨none, none, .store 1 (.t 139) (.t 138)⟩]
@[go_sem] def x_halls_Play_39 : List XO := [
  ⟨(some 140), none, .fldA 2 (.tf 3)⟩,
  ⟨(some 141), none, .load false 1 (.tf 140)⟩,
  ⟨(some 142), none, .mv (.t 16)⟩,
  ⟨(some 143), none, .ixA 1 (.t 141) (.t 142)⟩,
  ⟨(some 144), none, .load false 1 (.t 143)⟩,
  ⟨(some 145), none, .mv (.t 14)⟩,
  ⟨(some 146), none, .fldA 2 (.tf 3)⟩,
  ⟨(some 147), none, .load false 1 (.tf 146)⟩,
  ⟨(some 148), none, .mv (.t 16)⟩,
  ⟨(some 149), none, .ixA 1 (.t 147) (.t 148)⟩,
  ⟨(some 150), none, .load false 1 (.t 149)⟩,
  ⟨(some 151), none, .len false (.t 150)⟩,
  ⟨(some 152), none, .bin .rem .no (.t 145) (.t 151)⟩,
  ⟨(some 153), none, .ixA 1 (.t 144) (.t 152)⟩,
  ⟨(some 154), none, .load false 1 (.t 153)⟩,
  ⟨(some 19), none, .mv (.t 154)⟩]
@[go_sem] def x_halls_Play_40 : List XO := [
  ⟨(some 155), none, .fldA 0 (.tf 2)⟩,
  ⟨(some 156), none, .load false 1 (.tf 155)⟩,
  ⟨(some 157), none, .mv (.t 16)⟩,
  ⟨(some 158), none, .ixA 5 (.t 156) (.t 157)⟩,
  ⟨(some 159), none, .fldA 2 (.t 158)⟩,
  ⟨(some 160), none, .load false 1 (.t 159)⟩,
  ⟨(some 20), none, .mv (.t 160)⟩]
@[go_sem] def x_halls_Play_41 : List XO := [
  ⟨(some 161), none, .mv (.t 20)⟩,
  ⟨(some 162), none, .bin .geq .no (.t 161) (.c (.int .i64 0))⟩,
  ⟨(some 163), none, .mv (.t 162)⟩,
  ⟨(some 164), (some (163, true)), .mv (.t 14)⟩,
  ⟨(some 165), (some (163, true)), .mv (.t 19)⟩,
  ⟨(some 166), (some (163, true)), .bin .add .no (.t 164) (.t 165)⟩,
  ⟨(some 167), (some (163, true)), .fldA 3 (.tf 2)⟩,
  ⟨(some 168), (some (163, true)), .load false 1 (.tf 167)⟩,
  ⟨(some 169), (some (163, true)), .bin .lss .no (.t 166) (.t 168)⟩,
  ⟨(some 170), none, .pick (.t 163) (.t 169) (.c (.bool false))⟩]
@[go_sem] def x_halls_Play_42 : List XO := [
  ⟨(some 171), none, .mv (.t 7)⟩,
  ⟨(some 172), none, .mv (.t 14)⟩,
  ⟨(some 173), none, .mv (.t 19)⟩,
  ⟨(some 174), none, .bin .add .no (.t 172) (.t 173)⟩,
  ⟨(some 175), none, .ixA 1 (.t 171) (.t 174)⟩,
  ⟨(some 176), none, .load false 1 (.t 175)⟩,
  ⟨(some 177), none, .mv (.t 20)⟩,
  ⟨(some 178), none, .ixA 1 (.t 176) (.t 177)⟩,
  ⟨(some 179), none, .load false 1 (.t 178)⟩,
  ⟨(some 180), none, .mv (.t 18)⟩,
  ⟨(some 181), none, .bin .add .no (.t 179) (.t 180)⟩,
  ⟨(some 182), none, .ixA 1 (.t 176) (.t 177)⟩,
  ⟨none, none, .store 1 (.t 182) (.t 181)⟩]
@[go_sem] def x_halls_Play_43 : List XO := [
  ⟨(some 183), none, .bin .add .no (.t 108) (.c (.int .i64 1))⟩,
  ⟨(some 108), none, .mv (.t 183)⟩]
def x_halls_Play_L44 : XCode :=
  (.seq (.reg x_halls_Play_34) (.seq (.cond (.t 109) .skip (.exit 10)) (.seq (.block 11 (.seq (.reg x_halls_Play_35) (.seq (.reg x_halls_Play_36) (.seq (.seq (.reg x_halls_Play_37) (.cond (.t 126) (.reg x_halls_Play_38) .skip)) (.seq (.reg x_halls_Play_39) (.seq (.reg x_halls_Play_40) (.seq (.reg x_halls_Play_41) (.cond (.t 170) (.reg x_halls_Play_42) .skip)))))))) (.reg x_halls_Play_43))))
@[go_sem] def x_halls_Play_45 : List XO := [
  ⟨(some 184), none, .bin .add .no (.t 101) (.c (.int .i64 1))⟩,
  ⟨(some 101), none, .mv (.t 184)⟩]
def x_halls_Play_L46 : XCode :=
  (.seq (.reg x_halls_Play_31) (.seq (.cond (.t 102) .skip (.exit 8)) (.seq (.block 9 (.seq (.reg x_halls_Play_32) (.seq (.reg x_halls_Play_33) (.block 10 (.loop x_halls_Play_L44))))) (.reg x_halls_Play_45))))
@[go_sem] def x_halls_Play_47 : List XO := [
  ⟨(some 185), none, .mv (.t 7)⟩,
  ⟨(some 4), none, .mv (.t 185)⟩,
  ⟨(some 5), none, .mv (.c (.int .i64 0))⟩]
def x_halls_Play : XFunc := { np := 2, res := [.t 4, .t 5], body :=
  (.seq (.reg x_halls_Play_0) (.seq (.seq (.reg x_halls_Play_1) (.seq (.reg x_halls_Play_2) (.cond (.t 24) (.seq (.reg x_halls_Play_3) .ret) .skip))) (.seq (.seq (.reg x_halls_Play_4) (.cond (.t 29) (.seq (.reg x_halls_Play_5) .ret) .skip)) (.seq (.reg x_halls_Play_6) (.seq (.seq (.reg x_halls_Play_7) (.block 0 (.loop x_halls_Play_L11))) (.seq (.seq (.reg x_halls_Play_12) (.block 2 (.loop x_halls_Play_L22))) (.seq (.reg x_halls_Play_23) (.seq (.seq (.reg x_halls_Play_24) (.block 6 (.loop x_halls_Play_L29))) (.seq (.seq (.reg x_halls_Play_30) (.block 8 (.loop x_halls_Play_L46))) (.seq (.reg x_halls_Play_47) .ret)))))))))) }

/- newel/halls.Check boxF [1, 95, 77, 67, 53, 49, 38, 33, 27, 21, 15, 10, 6] frz [] -/
@[go_sem] def x_halls_Check_0 : List XO := [
  ⟨(some 1), none, .boxF (.t 0)⟩,
  ⟨(some 2), none, .mv (.c (.int .i64 0))⟩]
@[go_sem] def x_halls_Check_1 : List XO := [
  ⟨(some 6), none, .fldA 3 (.tf 1)⟩,
  ⟨(some 7), none, .load false 1 (.tf 6)⟩,
  ⟨(some 8), none, .bin .lss .no (.t 7) (.c (.int .i64 1))⟩,
  ⟨(some 9), none, .mv (.t 8)⟩,
  ⟨(some 10), (some (9, false)), .fldA 3 (.tf 1)⟩,
  ⟨(some 11), (some (9, false)), .load false 1 (.tf 10)⟩,
  ⟨(some 12), (some (9, false)), .bin .gtr .no (.t 11) (.c (.int .i64 100))⟩,
  ⟨(some 13), none, .pick (.t 9) (.c (.bool true)) (.t 12)⟩,
  ⟨(some 14), none, .mv (.t 13)⟩,
  ⟨(some 15), (some (14, false)), .fldA 0 (.tf 1)⟩,
  ⟨(some 16), (some (14, false)), .load false 1 (.tf 15)⟩,
  ⟨(some 17), (some (14, false)), .len false (.t 16)⟩,
  ⟨(some 18), (some (14, false)), .bin .lss .no (.t 17) (.c (.int .i64 1))⟩,
  ⟨(some 19), none, .pick (.t 14) (.c (.bool true)) (.t 18)⟩,
  ⟨(some 20), none, .mv (.t 19)⟩,
  ⟨(some 21), (some (20, false)), .fldA 0 (.tf 1)⟩,
  ⟨(some 22), (some (20, false)), .load false 1 (.tf 21)⟩,
  ⟨(some 23), (some (20, false)), .len false (.t 22)⟩,
  ⟨(some 24), (some (20, false)), .bin .gtr .no (.t 23) (.c (.int .i64 8))⟩,
  ⟨(some 25), none, .pick (.t 20) (.c (.bool true)) (.t 24)⟩,
  ⟨(some 26), none, .mv (.t 25)⟩,
  ⟨(some 27), (some (26, false)), .fldA 1 (.tf 1)⟩,
  ⟨(some 28), (some (26, false)), .load false 1 (.tf 27)⟩,
  ⟨(some 29), (some (26, false)), .len false (.t 28)⟩,
  ⟨(some 30), (some (26, false)), .bin .gtr .no (.t 29) (.c (.int .i64 12))⟩,
  ⟨(some 31), none, .pick (.t 26) (.c (.bool true)) (.t 30)⟩,
  ⟨(some 32), none, .mv (.t 31)⟩,
  ⟨(some 33), (some (32, false)), .fldA 2 (.tf 1)⟩,
  ⟨(some 34), (some (32, false)), .load false 1 (.tf 33)⟩,
  ⟨(some 35), (some (32, false)), .len false (.t 34)⟩,
  ⟨(some 36), (some (32, false)), .bin .gtr .no (.t 35) (.c (.int .i64 20))⟩,
  ⟨(some 37), none, .pick (.t 32) (.c (.bool true)) (.t 36)⟩]
@[go_sem] def x_halls_Check_2 : List XO := [
  ⟨(some 2), none, .mv (.c (.int .i64 60))⟩]
@[go_sem] def x_halls_Check_3 : List XO := [
  ⟨(some 38), none, .fldA 0 (.tf 1)⟩,
  ⟨(some 39), none, .load false 1 (.tf 38)⟩,
  ⟨(some 40), none, .len false (.t 39)⟩,
  ⟨(some 41), none, .mv (.c (.int .i64 0))⟩]
@[go_sem] def x_halls_Check_4 : List XO := [
  ⟨(some 42), none, .bin .lss .no (.t 41) (.t 40)⟩]
@[go_sem] def x_halls_Check_5 : List XO := [
  ⟨(some 43), none, .mv (.t 41)⟩,
  ⟨(some 3), none, .mv (.t 43)⟩]
@[go_sem] def x_halls_Check_6 : List XO := [
  ⟨(some 44), none, .load true 4 (.tf 1)⟩,
  ⟨(some 45), none, .mv (.t 3)⟩,
  ⟨(some 46), none, .call "newel/halls.isComb" [(.t 44), (.t 45)]⟩,
  ⟨(some 47), none, .un .not (.t 46)⟩]
@[go_sem] def x_halls_Check_7 : List XO := [
  ⟨(some 2), none, .mv (.c (.int .i64 60))⟩]
@[go_sem] def x_halls_Check_8 : List XO := [
  ⟨(some 48), none, .bin .add .no (.t 41) (.c (.int .i64 1))⟩,
  ⟨(some 41), none, .mv (.t 48)⟩]
def x_halls_Check_L9 : XCode :=
  (.seq (.reg x_halls_Check_4) (.seq (.cond (.t 42) .skip (.exit 0)) (.seq (.block 1 (.seq (.reg x_halls_Check_5) (.seq (.reg x_halls_Check_6) (.cond (.t 47) (.seq (.reg x_halls_Check_7) .ret) .skip)))) (.reg x_halls_Check_8))))
@[go_sem] def x_halls_Check_10 : List XO := [
  ⟨(some 49), none, .fldA 1 (.tf 1)⟩,
  ⟨(some 50), none, .load false 1 (.tf 49)⟩,
  ⟨(some 51), none, .mkfn "newel/halls.Check$1" [] [(.t 1)]⟩,
  ⟨(some 52), none, .call "slices.ContainsFunc[[]newel/api.Train,newel/api.Train]" [(.t 50), (.t 51)]⟩]
@[go_sem] def x_halls_Check_11 : List XO := [
  ⟨(some 2), none, .mv (.c (.int .i64 60))⟩]
@[go_sem] def x_halls_Check_12 : List XO := [
  ⟨(some 53), none, .fldA 2 (.tf 1)⟩,
  ⟨(some 54), none, .load false 1 (.tf 53)⟩,
  ⟨(some 55), none, .len false (.t 54)⟩,
  ⟨(some 56), none, .mv (.c (.int .i64 0))⟩]
@[go_sem] def x_halls_Check_13 : List XO := [
  ⟨(some 57), none, .bin .lss .no (.t 56) (.t 55)⟩]
@[go_sem] def x_halls_Check_14 : List XO := [
  ⟨(some 58), none, .mv (.t 56)⟩,
  ⟨(some 59), none, .ixA 3 (.t 54) (.t 56)⟩,
  ⟨(some 60), none, .load true 3 (.t 59)⟩,
  ⟨(some 5), none, .alloc [(.int .i64 0), (.int .i64 0), (.int .i64 0)]⟩,
  ⟨(some 4), none, .mv (.t 58)⟩,
  ⟨none, none, .store 3 (.t 5) (.t 60)⟩]
@[go_sem] def x_halls_Check_15 : List XO := [
  ⟨(some 61), none, .fldA 0 (.t 5)⟩,
  ⟨(some 62), none, .load false 1 (.t 61)⟩,
  ⟨(some 63), none, .bin .lss .no (.t 62) (.c (.int .i64 0))⟩,
  ⟨(some 64), none, .mv (.t 63)⟩,
  ⟨(some 65), (some (64, false)), .fldA 0 (.t 5)⟩,
  ⟨(some 66), (some (64, false)), .load false 1 (.t 65)⟩,
  ⟨(some 67), (some (64, false)), .fldA 3 (.tf 1)⟩,
  ⟨(some 68), (some (64, false)), .load false 1 (.tf 67)⟩,
  ⟨(some 69), (some (64, false)), .bin .geq .no (.t 66) (.t 68)⟩,
  ⟨(some 70), none, .pick (.t 64) (.c (.bool true)) (.t 69)⟩,
  ⟨(some 71), none, .mv (.t 70)⟩,
  ⟨(some 72), (some (71, false)), .mv (.t 4)⟩,
  ⟨(some 73), (some (71, false)), .bin .gtr .no (.t 72) (.c (.int .i64 0))⟩,
  ⟨(some 74), (some (71, false)), .mv (.t 73)⟩,
  ⟨(some 75), (some (74, true)), .fldA 0 (.t 5)⟩,
  ⟨(some 76), (some (74, true)), .load false 1 (.t 75)⟩,
  ⟨(some 77), (some (74, true)), .fldA 2 (.tf 1)⟩,
  ⟨(some 78), (some (74, true)), .load false 1 (.tf 77)⟩,
  ⟨(some 79), (some (74, true)), .mv (.t 4)⟩,
  ⟨(some 80), (some (74, true)), .bin .sub .no (.t 79) (.c (.int .i64 1))⟩,
  ⟨(some 81), (some (74, true)), .ixA 3 (.t 78) (.t 80)⟩,
  ⟨(some 82), (some (74, true)), .fldA 0 (.t 81)⟩,
  ⟨(some 83), (some (74, true)), .load false 1 (.t 82)⟩,
  ⟨(some 84), (some (74, true)), .bin .lss .no (.t 76) (.t 83)⟩,
  ⟨(some 85), (some (71, false)), .pick (.t 74) (.t 84) (.c (.bool false))⟩,
  ⟨(some 86), none, .pick (.t 71) (.c (.bool true)) (.t 85)⟩,
  ⟨(some 87), none, .mv (.t 86)⟩,
  ⟨(some 88), (some (87, false)), .fldA 1 (.t 5)⟩,
  ⟨(some 89), (some (87, false)), .load false 1 (.t 88)⟩,
  ⟨(some 90), (some (87, false)), .bin .lss .no (.t 89) (.c (.int .i64 0))⟩,
  ⟨(some 91), none, .pick (.t 87) (.c (.bool true)) (.t 90)⟩,
  ⟨(some 92), none, .mv (.t 91)⟩,
  ⟨(some 93), (some (92, false)), .fldA 1 (.t 5)⟩,
  ⟨(some 94), (some (92, false)), .load false 1 (.t 93)⟩,
  ⟨(some 95), (some (92, false)), .fldA 0 (.tf 1)⟩,
  ⟨(some 96), (some (92, false)), .load false 1 (.tf 95)⟩,
  ⟨(some 97), (some (92, false)), .len false (.t 96)⟩,
  ⟨(some 98), (some (92, false)), .bin .geq .no (.t 94) (.t 97)⟩,
  ⟨(some 99), none, .pick (.t 92) (.c (.bool true)) (.t 98)⟩,
  ⟨(some 100), none, .mv (.t 99)⟩,
  ⟨(some 101), (some (100, false)), .fldA 2 (.t 5)⟩,
  ⟨(some 102), (some (100, false)), .load false 1 (.t 101)⟩,
  ⟨(some 103), (some (100, false)), .build [(.int .i64 0), (.int .i64 0)] [(1, 1, (.c (.int .i64 1000)))]⟩,
  ⟨(some 104), (some (100, false)), .call "newel/halls.in" [(.t 102), (.t 103)]⟩,
  ⟨(some 105), (some (100, false)), .un .not (.t 104)⟩,
  ⟨(some 106), none, .pick (.t 100) (.c (.bool true)) (.t 105)⟩]
@[go_sem] def x_halls_Check_16 : List XO := [
  ⟨(some 2), none, .mv (.c (.int .i64 60))⟩]
@[go_sem] def x_halls_Check_17 : List XO := [
  ⟨(some 107), none, .bin .add .no (.t 56) (.c (.int .i64 1))⟩,
  ⟨(some 56), none, .mv (.t 107)⟩]
def x_halls_Check_L18 : XCode :=
  (.seq (.reg x_halls_Check_13) (.seq (.cond (.t 57) .skip (.exit 2)) (.seq (.block 3 (.seq (.reg x_halls_Check_14) (.seq (.reg x_halls_Check_15) (.cond (.t 106) (.seq (.reg x_halls_Check_16) .ret) .skip)))) (.reg x_halls_Check_17))))
@[go_sem] def x_halls_Check_19 : List XO := [
  ⟨(some 2), none, .mv (.c (.int .i64 0))⟩]
def x_halls_Check : XFunc := { np := 1, res := [.t 2], body :=
  (.seq (.reg x_halls_Check_0) (.seq (.seq (.reg x_halls_Check_1) (.cond (.t 37) (.seq (.reg x_halls_Check_2) .ret) .skip)) (.seq (.seq (.reg x_halls_Check_3) (.block 0 (.loop x_halls_Check_L9))) (.seq (.seq (.reg x_halls_Check_10) (.cond (.t 52) (.seq (.reg x_halls_Check_11) .ret) .skip)) (.seq (.seq (.reg x_halls_Check_12) (.block 2 (.loop x_halls_Check_L18))) (.seq (.reg x_halls_Check_19) .ret)))))) }

/- newel/newelref06.Fits boxF [3, 128, 119, 110, 79, 61, 47, 27, 18, 10, 2, 143, 136, 104, 42, 36, 30, 21, 13] frz [] -/
@[go_sem] def x_r06_Fits_0 : List XO := [
  ⟨(some 2), none, .boxF (.t 0)⟩,
  ⟨(some 3), none, .boxF (.t 1)⟩,
  ⟨(some 4), none, .mv (.c (.bool false))⟩]
@[go_sem] def x_r06_Fits_1 : List XO := [
  ⟨(some 10), none, .fldA 0 (.tf 3)⟩,
  ⟨(some 11), none, .load false 1 (.tf 10)⟩,
  ⟨(some 12), none, .len false (.t 11)⟩,
  ⟨(some 13), none, .fldA 1 (.tf 2)⟩,
  ⟨(some 14), none, .load false 1 (.tf 13)⟩,
  ⟨(some 15), none, .len false (.t 14)⟩,
  ⟨(some 16), none, .bin .neq .no (.t 12) (.t 15)⟩,
  ⟨(some 17), none, .mv (.t 16)⟩,
  ⟨(some 18), (some (17, false)), .fldA 1 (.tf 3)⟩,
  ⟨(some 19), (some (17, false)), .load false 1 (.tf 18)⟩,
  ⟨(some 20), (some (17, false)), .len false (.t 19)⟩,
  ⟨(some 21), (some (17, false)), .fldA 1 (.tf 2)⟩,
  ⟨(some 22), (some (17, false)), .load false 1 (.tf 21)⟩,
  ⟨(some 23), (some (17, false)), .len false (.t 22)⟩,
  ⟨(some 24), (some (17, false)), .bin .neq .no (.t 20) (.t 23)⟩,
  ⟨(some 25), none, .pick (.t 17) (.c (.bool true)) (.t 24)⟩,
  ⟨(some 26), none, .mv (.t 25)⟩,
  ⟨(some 27), (some (26, false)), .fldA 2 (.tf 3)⟩,
  ⟨(some 28), (some (26, false)), .load false 1 (.tf 27)⟩,
  ⟨(some 29), (some (26, false)), .len false (.t 28)⟩,
  ⟨(some 30), (some (26, false)), .fldA 0 (.tf 2)⟩,
  ⟨(some 31), (some (26, false)), .load false 1 (.tf 30)⟩,
  ⟨(some 32), (some (26, false)), .len false (.t 31)⟩,
  ⟨(some 33), (some (26, false)), .bin .neq .no (.t 29) (.t 32)⟩,
  ⟨(some 34), none, .pick (.t 26) (.c (.bool true)) (.t 33)⟩]
@[go_sem] def x_r06_Fits_2 : List XO := [
  ⟨(some 4), none, .mv (.c (.bool false))⟩]
@[go_sem] def x_r06_Fits_3 : List XO := [
  ⟨(some 5), none, .mv (.c (.int .i64 0))⟩]
@[go_sem] def x_r06_Fits_4 : List XO := [
  ⟨(some 35), none, .mv (.t 5)⟩,
  ⟨(some 36), none, .fldA 1 (.tf 2)⟩,
  ⟨(some 37), none, .load false 1 (.tf 36)⟩,
  ⟨(some 38), none, .len false (.t 37)⟩,
  ⟨(some 39), none, .bin .lss .no (.t 35) (.t 38)⟩]
@[go_sem] def x_r06_Fits_5 : List XO := [
  ⟨(some 42), none, .fldA 1 (.tf 2)⟩,
  ⟨(some 43), none, .load false 1 (.tf 42)⟩,
  ⟨(some 44), none, .mv (.t 5)⟩,
  ⟨(some 45), none, .ixA 3 (.t 43) (.t 44)⟩,
  ⟨(some 46), none, .load true 3 (.t 45)⟩,
  ⟨(some 6), none, .alloc [(.int .i64 0), (.int .i64 0), (.slice none 0 0)]⟩,
  ⟨none, none, .store 3 (.t 6) (.t 46)⟩]
@[go_sem] def x_r06_Fits_6 : List XO := [
  ⟨(some 47), none, .fldA 0 (.tf 3)⟩,
  ⟨(some 48), none, .load false 1 (.tf 47)⟩,
  ⟨(some 49), none, .mv (.t 5)⟩,
  ⟨(some 50), none, .ixA 1 (.t 48) (.t 49)⟩,
  ⟨(some 51), none, .load false 1 (.t 50)⟩,
  ⟨(some 52), none, .fldA 0 (.t 6)⟩,
  ⟨(some 53), none, .fldA 0 (.t 52)⟩,
  ⟨(some 54), none, .load false 1 (.t 53)⟩,
  ⟨(some 55), none, .fldA 0 (.t 6)⟩,
  ⟨(some 56), none, .fldA 1 (.t 55)⟩,
  ⟨(some 57), none, .load false 1 (.t 56)⟩,
  ⟨(some 58), none, .call "newel/newelref06.within" [(.t 51), (.t 54), (.t 57)]⟩,
  ⟨(some 59), none, .un .not (.t 58)⟩,
  ⟨(some 60), none, .mv (.t 59)⟩,
  ⟨(some 61), (some (60, false)), .fldA 1 (.tf 3)⟩,
  ⟨(some 62), (some (60, false)), .load false 1 (.tf 61)⟩,
  ⟨(some 63), (some (60, false)), .mv (.t 5)⟩,
  ⟨(some 64), (some (60, false)), .ixA 1 (.t 62) (.t 63)⟩,
  ⟨(some 65), (some (60, false)), .load false 1 (.t 64)⟩,
  ⟨(some 66), (some (60, false)), .len false (.t 65)⟩,
  ⟨(some 67), (some (60, false)), .fldA 2 (.t 6)⟩,
  ⟨(some 68), (some (60, false)), .load false 1 (.t 67)⟩,
  ⟨(some 69), (some (60, false)), .len false (.t 68)⟩,
  ⟨(some 70), (some (60, false)), .bin .neq .no (.t 66) (.t 69)⟩,
  ⟨(some 71), none, .pick (.t 60) (.c (.bool true)) (.t 70)⟩]
@[go_sem] def x_r06_Fits_7 : List XO := [
  ⟨(some 4), none, .mv (.c (.bool false))⟩]
@[go_sem] def x_r06_Fits_8 : List XO := [
  ⟨(some 7), none, .mv (.c (.int .i64 0))⟩]
@[go_sem] def x_r06_Fits_9 : List XO := [
  ⟨(some 72), none, .mv (.t 7)⟩,
  ⟨(some 73), none, .fldA 2 (.t 6)⟩,
  ⟨(some 74), none, .load false 1 (.t 73)⟩,
  ⟨(some 75), none, .len false (.t 74)⟩,
  ⟨(some 76), none, .bin .lss .no (.t 72) (.t 75)⟩]
@[go_sem] def x_r06_Fits_10 : List XO := [
  ⟨(some 79), none, .fldA 1 (.tf 3)⟩,
  ⟨(some 80), none, .load false 1 (.tf 79)⟩,
  ⟨(some 81), none, .mv (.t 5)⟩,
  ⟨(some 82), none, .ixA 1 (.t 80) (.t 81)⟩,
  ⟨(some 83), none, .load false 1 (.t 82)⟩,
  ⟨(some 84), none, .mv (.t 7)⟩,
  ⟨(some 85), none, .ixA 1 (.t 83) (.t 84)⟩,
  ⟨(some 86), none, .load false 1 (.t 85)⟩,
  ⟨(some 87), none, .fldA 2 (.t 6)⟩,
  ⟨(some 88), none, .load false 1 (.t 87)⟩,
  ⟨(some 89), none, .mv (.t 7)⟩,
  ⟨(some 90), none, .ixA 3 (.t 88) (.t 89)⟩,
  ⟨(some 91), none, .fldA 1 (.t 90)⟩,
  ⟨(some 92), none, .fldA 0 (.t 91)⟩,
  ⟨(some 93), none, .load false 1 (.t 92)⟩,
  ⟨(some 94), none, .fldA 2 (.t 6)⟩,
  ⟨(some 95), none, .load false 1 (.t 94)⟩,
  ⟨(some 96), none, .mv (.t 7)⟩,
  ⟨(some 97), none, .ixA 3 (.t 95) (.t 96)⟩,
  ⟨(some 98), none, .fldA 1 (.t 97)⟩,
  ⟨(some 99), none, .fldA 1 (.t 98)⟩,
  ⟨(some 100), none, .load false 1 (.t 99)⟩,
  ⟨(some 101), none, .call "newel/newelref06.within" [(.t 86), (.t 93), (.t 100)]⟩,
  ⟨(some 102), none, .un .not (.t 101)⟩]
@[go_sem] def x_r06_Fits_11 : List XO := [
  ⟨(some 4), none, .mv (.c (.bool false))⟩]
@[go_sem] def x_r06_Fits_12 : List XO := [
  ⟨(some 77), none, .mv (.t 7)⟩,
  ⟨(some 78), none, .bin .add .no (.t 77) (.c (.int .i64 1))⟩,
  ⟨(some 7), none, .mv (.t 78)⟩]
def x_r06_Fits_L13 : XCode :=
  (.seq (.seq (.reg x_r06_Fits_9) (.cond (.t 76) .skip (.exit 2))) (.seq (.block 3 (.seq (.reg x_r06_Fits_10) (.cond (.t 102) (.seq (.reg x_r06_Fits_11) .ret) .skip))) (.reg x_r06_Fits_12)))
@[go_sem] def x_r06_Fits_14 : List XO := [
  ⟨(some 40), none, .mv (.t 5)⟩,
  ⟨(some 41), none, .bin .add .no (.t 40) (.c (.int .i64 1))⟩,
  ⟨(some 5), none, .mv (.t 41)⟩]
def x_r06_Fits_L15 : XCode :=
  (.seq (.seq (.reg x_r06_Fits_4) (.cond (.t 39) .skip (.exit 0))) (.seq (.block 1 (.seq (.reg x_r06_Fits_5) (.seq (.seq (.reg x_r06_Fits_6) (.cond (.t 71) (.seq (.reg x_r06_Fits_7) .ret) .skip)) (.seq (.reg x_r06_Fits_8) (.block 2 (.loop x_r06_Fits_L13)))))) (.reg x_r06_Fits_14)))
@[go_sem] def x_r06_Fits_16 : List XO := [
  ⟨(some 8), none, .mv (.c (.int .i64 0))⟩]
@[go_sem] def x_r06_Fits_17 : List XO := [
  ⟨(some 103), none, .mv (.t 8)⟩,
  ⟨(some 104), none, .fldA 0 (.tf 2)⟩,
  ⟨(some 105), none, .load false 1 (.tf 104)⟩,
  ⟨(some 106), none, .len false (.t 105)⟩,
  ⟨(some 107), none, .bin .lss .no (.t 103) (.t 106)⟩]
@[go_sem] def x_r06_Fits_18 : List XO := [
  ⟨(some 110), none, .fldA 2 (.tf 3)⟩,
  ⟨(some 111), none, .load false 1 (.tf 110)⟩,
  ⟨(some 112), none, .mv (.t 8)⟩,
  ⟨(some 113), none, .ixA 1 (.t 111) (.t 112)⟩,
  ⟨(some 114), none, .load false 1 (.t 113)⟩,
  ⟨(some 115), none, .len false (.t 114)⟩,
  ⟨(some 116), none, .call "newel/newelref06.within" [(.t 115), (.c (.int .i64 1)), (.c (.int .i64 20))]⟩,
  ⟨(some 117), none, .un .not (.t 116)⟩]
@[go_sem] def x_r06_Fits_19 : List XO := [
  ⟨(some 4), none, .mv (.c (.bool false))⟩]
@[go_sem] def x_r06_Fits_20 : List XO := [
  ⟨(some 9), none, .mv (.c (.int .i64 0))⟩]
@[go_sem] def x_r06_Fits_21 : List XO := [
  ⟨(some 118), none, .mv (.t 9)⟩,
  ⟨(some 119), none, .fldA 2 (.tf 3)⟩,
  ⟨(some 120), none, .load false 1 (.tf 119)⟩,
  ⟨(some 121), none, .mv (.t 8)⟩,
  ⟨(some 122), none, .ixA 1 (.t 120) (.t 121)⟩,
  ⟨(some 123), none, .load false 1 (.t 122)⟩,
  ⟨(some 124), none, .len false (.t 123)⟩,
  ⟨(some 125), none, .bin .lss .no (.t 118) (.t 124)⟩]
@[go_sem] def x_r06_Fits_22 : List XO := [
  ⟨(some 128), none, .fldA 2 (.tf 3)⟩,
  ⟨(some 129), none, .load false 1 (.tf 128)⟩,
  ⟨(some 130), none, .mv (.t 8)⟩,
  ⟨(some 131), none, .ixA 1 (.t 129) (.t 130)⟩,
  ⟨(some 132), none, .load false 1 (.t 131)⟩,
  ⟨(some 133), none, .mv (.t 9)⟩,
  ⟨(some 134), none, .ixA 1 (.t 132) (.t 133)⟩,
  ⟨(some 135), none, .load false 1 (.t 134)⟩,
  ⟨(some 136), none, .fldA 0 (.tf 2)⟩,
  ⟨(some 137), none, .load false 1 (.tf 136)⟩,
  ⟨(some 138), none, .mv (.t 8)⟩,
  ⟨(some 139), none, .ixA 5 (.t 137) (.t 138)⟩,
  ⟨(some 140), none, .fldA 3 (.t 139)⟩,
  ⟨(some 141), none, .fldA 0 (.t 140)⟩,
  ⟨(some 142), none, .load false 1 (.t 141)⟩,
  ⟨(some 143), none, .fldA 0 (.tf 2)⟩,
  ⟨(some 144), none, .load false 1 (.tf 143)⟩,
  ⟨(some 145), none, .mv (.t 8)⟩,
  ⟨(some 146), none, .ixA 5 (.t 144) (.t 145)⟩,
  ⟨(some 147), none, .fldA 3 (.t 146)⟩,
  ⟨(some 148), none, .fldA 1 (.t 147)⟩,
  ⟨(some 149), none, .load false 1 (.t 148)⟩,
  ⟨(some 150), none, .call "newel/newelref06.within" [(.t 135), (.t 142), (.t 149)]⟩,
  ⟨(some 151), none, .un .not (.t 150)⟩]
@[go_sem] def x_r06_Fits_23 : List XO := [
  ⟨(some 4), none, .mv (.c (.bool false))⟩]
@[go_sem] def x_r06_Fits_24 : List XO := [
  ⟨(some 126), none, .mv (.t 9)⟩,
  ⟨(some 127), none, .bin .add .no (.t 126) (.c (.int .i64 1))⟩,
  ⟨(some 9), none, .mv (.t 127)⟩]
def x_r06_Fits_L25 : XCode :=
  (.seq (.seq (.reg x_r06_Fits_21) (.cond (.t 125) .skip (.exit 6))) (.seq (.block 7 (.seq (.reg x_r06_Fits_22) (.cond (.t 151) (.seq (.reg x_r06_Fits_23) .ret) .skip))) (.reg x_r06_Fits_24)))
@[go_sem] def x_r06_Fits_26 : List XO := [
  ⟨(some 108), none, .mv (.t 8)⟩,
  ⟨(some 109), none, .bin .add .no (.t 108) (.c (.int .i64 1))⟩,
  ⟨(some 8), none, .mv (.t 109)⟩]
def x_r06_Fits_L27 : XCode :=
  (.seq (.seq (.reg x_r06_Fits_17) (.cond (.t 107) .skip (.exit 4))) (.seq (.block 5 (.seq (.seq (.reg x_r06_Fits_18) (.cond (.t 117) (.seq (.reg x_r06_Fits_19) .ret) .skip)) (.seq (.reg x_r06_Fits_20) (.block 6 (.loop x_r06_Fits_L25))))) (.reg x_r06_Fits_26)))
@[go_sem] def x_r06_Fits_28 : List XO := [
  ⟨(some 4), none, .mv (.c (.bool true))⟩]
def x_r06_Fits : XFunc := { np := 2, res := [.t 4], body :=
  (.seq (.reg x_r06_Fits_0) (.seq (.seq (.reg x_r06_Fits_1) (.cond (.t 34) (.seq (.reg x_r06_Fits_2) .ret) .skip)) (.seq (.seq (.reg x_r06_Fits_3) (.block 0 (.loop x_r06_Fits_L15))) (.seq (.seq (.reg x_r06_Fits_16) (.block 4 (.loop x_r06_Fits_L27))) (.seq (.reg x_r06_Fits_28) .ret))))) }

/- newel/newelref06.within boxF [] frz [] -/
@[go_sem] def x_r06_within_0 : List XO := [
  ⟨(some 6), none, .mv (.c (.bool false))⟩]
@[go_sem] def x_r06_within_1 : List XO := [
  ⟨(some 7), none, .mv (.t 0)⟩,
  ⟨(some 8), none, .mv (.t 1)⟩,
  ⟨(some 9), none, .bin .geq .no (.t 7) (.t 8)⟩,
  ⟨(some 10), none, .mv (.t 9)⟩,
  ⟨(some 11), (some (10, true)), .mv (.t 0)⟩,
  ⟨(some 12), (some (10, true)), .mv (.t 2)⟩,
  ⟨(some 13), (some (10, true)), .bin .leq .no (.t 11) (.t 12)⟩,
  ⟨(some 14), none, .pick (.t 10) (.t 13) (.c (.bool false))⟩,
  ⟨(some 6), none, .mv (.t 14)⟩]
def x_r06_within : XFunc := { np := 3, res := [.t 6], body :=
  (.seq (.reg x_r06_within_0) (.seq (.reg x_r06_within_1) .ret)) }

/- newel/newelref06.spanned boxF [3, 19, 14, 12, 7] frz [] -/
@[go_sem] def x_r06_spanned_0 : List XO := [
  ⟨(some 3), none, .boxF (.t 0)⟩,
  ⟨(some 6), none, .mv (.c (.bool false))⟩]
@[go_sem] def x_r06_spanned_1 : List XO := [
  ⟨(some 7), none, .fldA 0 (.tf 3)⟩,
  ⟨(some 8), none, .load false 1 (.tf 7)⟩,
  ⟨(some 9), none, .mv (.t 1)⟩,
  ⟨(some 10), none, .bin .geq .no (.t 8) (.t 9)⟩,
  ⟨(some 11), none, .mv (.t 10)⟩,
  ⟨(some 12), (some (11, true)), .fldA 0 (.tf 3)⟩,
  ⟨(some 13), (some (11, true)), .load false 1 (.tf 12)⟩,
  ⟨(some 14), (some (11, true)), .fldA 1 (.tf 3)⟩,
  ⟨(some 15), (some (11, true)), .load false 1 (.tf 14)⟩,
  ⟨(some 16), (some (11, true)), .bin .leq .no (.t 13) (.t 15)⟩,
  ⟨(some 17), none, .pick (.t 11) (.t 16) (.c (.bool false))⟩,
  ⟨(some 18), none, .mv (.t 17)⟩,
  ⟨(some 19), (some (18, true)), .fldA 1 (.tf 3)⟩,
  ⟨(some 20), (some (18, true)), .load false 1 (.tf 19)⟩,
  ⟨(some 21), (some (18, true)), .mv (.t 2)⟩,
  ⟨(some 22), (some (18, true)), .bin .leq .no (.t 20) (.t 21)⟩,
  ⟨(some 23), none, .pick (.t 18) (.t 22) (.c (.bool false))⟩,
  ⟨(some 6), none, .mv (.t 23)⟩]
def x_r06_spanned : XFunc := { np := 3, res := [.t 6], body :=
  (.seq (.reg x_r06_spanned_0) (.seq (.reg x_r06_spanned_1) .ret)) }

/- newel/newellaw06.Example boxF [] frz [] -/
@[go_sem] def x_l06_Example_0 : List XO := [
  ⟨(some 0), none, .alloc [(.slice none 0 0), (.slice none 0 0), (.slice none 0 0), (.int .i64 0)]⟩]
@[go_sem] def x_l06_Example_1 : List XO := [
  ⟨(some 1), none, .build [(.int .i64 0), (.int .i64 0)] [(0, 1, (.c (.int .i64 2))), (1, 1, (.c (.int .i64 3)))]⟩,
  ⟨(some 2), none, .build [(.int .i64 0), (.int .i64 0), (.int .i64 0), (.int .i64 0), (.int .i64 0)] [(0, 1, (.c (.int .i64 3))), (1, 1, (.c (.int .i64 12))), (2, 1, (.c (.int .i64 1))), (3, 2, (.t 1))]⟩,
  ⟨(some 3), none, .build [(.int .i64 0), (.int .i64 0)] [(0, 1, (.c (.int .i64 1))), (1, 1, (.c (.int .i64 1)))]⟩,
  ⟨(some 4), none, .build [(.int .i64 0), (.int .i64 0), (.int .i64 0), (.int .i64 0), (.int .i64 0)] [(0, 1, (.c (.int .i64 2))), (1, 1, (.c (.int .i64 10))), (2, 1, (.c (.int .i64 (-1)))), (3, 2, (.t 3))]⟩,
  ⟨(some 5), none, .bsl 5 [(.t 2), (.t 4)]⟩,
  ⟨(some 6), none, .build [(.int .i64 0), (.int .i64 0)] [(0, 1, (.c (.int .i64 2))), (1, 1, (.c (.int .i64 4)))]⟩,
  ⟨(some 7), none, .build [(.int .i64 0), (.int .i64 0)] [(0, 1, (.c (.int .i64 6))), (1, 1, (.c (.int .i64 10)))]⟩,
  ⟨(some 8), none, .build [(.int .i64 0), (.int .i64 0), (.int .i64 0)] [(1, 2, (.t 7))]⟩,
  ⟨(some 9), none, .bsl 3 [(.t 8)]⟩,
  ⟨(some 10), none, .build [(.int .i64 0), (.int .i64 0), (.slice none 0 0)] [(0, 2, (.t 6)), (2, 1, (.t 9))]⟩,
  ⟨(some 11), none, .build [(.int .i64 0), (.int .i64 0)] [(0, 1, (.c (.int .i64 5))), (1, 1, (.c (.int .i64 5)))]⟩,
  ⟨(some 12), none, .build [(.int .i64 0), (.int .i64 0)] [(1, 1, (.c (.int .i64 4)))]⟩,
  ⟨(some 13), none, .build [(.int .i64 0), (.int .i64 0), (.int .i64 0)] [(1, 2, (.t 12))]⟩,
  ⟨(some 14), none, .build [(.int .i64 0), (.int .i64 0)] [(0, 1, (.c (.int .i64 3))), (1, 1, (.c (.int .i64 3)))]⟩,
  ⟨(some 15), none, .build [(.int .i64 0), (.int .i64 0), (.int .i64 0)] [(0, 1, (.c (.int .i64 1))), (1, 2, (.t 14))]⟩,
  ⟨(some 16), none, .bsl 3 [(.t 13), (.t 15)]⟩,
  ⟨(some 17), none, .build [(.int .i64 0), (.int .i64 0), (.slice none 0 0)] [(0, 2, (.t 11)), (2, 1, (.t 16))]⟩,
  ⟨(some 18), none, .bsl 3 [(.t 10), (.t 17)]⟩,
  ⟨(some 19), none, .build [(.slice none 0 0), (.slice none 0 0), (.slice none 0 0), (.int .i64 0)] [(0, 1, (.t 5)), (1, 1, (.t 18)), (3, 1, (.c (.int .i64 20)))]⟩,
  ⟨none, none, .store 4 (.t 0) (.t 19)⟩]
def x_l06_Example : XFunc := { np := 0, res := [.cell 0 true 4], body :=
  (.seq (.reg x_l06_Example_0) (.seq (.reg x_l06_Example_1) .ret)) }

/- newel/halls.check boxF [3, 17] frz [] -/
@[go_sem] def x_halls_check_0 : List XO := [
  ⟨(some 3), none, .boxF (.t 0)⟩,
  ⟨(some 6), none, .mv (.c (.int .i64 0))⟩]
@[go_sem] def x_halls_check_1 : List XO := [
  ⟨(some 8), none, .load true 4 (.tf 3)⟩,
  ⟨(some 9), none, .call "newel/halls.Check" [(.t 8)]⟩,
  ⟨(some 7), none, .mv (.t 9)⟩]
@[go_sem] def x_halls_check_2 : List XO := [
  ⟨(some 10), none, .mv (.t 7)⟩,
  ⟨(some 11), none, .bin .neq .no (.t 10) (.c (.int .i64 0))⟩]
@[go_sem] def x_halls_check_3 : List XO := [
  ⟨(some 12), none, .mv (.t 7)⟩,
  ⟨(some 6), none, .mv (.t 12)⟩]
@[go_sem] def x_halls_check_4 : List XO := [
  ⟨(some 13), none, .mv (.t 1)⟩,
  ⟨(some 14), none, .bin .lss .no (.t 13) (.c (.int .i64 0))⟩,
  ⟨(some 15), none, .mv (.t 14)⟩,
  ⟨(some 16), (some (15, false)), .mv (.t 1)⟩,
  ⟨(some 17), (some (15, false)), .fldA 0 (.tf 3)⟩,
  ⟨(some 18), (some (15, false)), .load false 1 (.tf 17)⟩,
  ⟨(some 19), (some (15, false)), .len false (.t 18)⟩,
  ⟨(some 20), (some (15, false)), .bin .geq .no (.t 16) (.t 19)⟩,
  ⟨(some 21), none, .pick (.t 15) (.c (.bool true)) (.t 20)⟩,
  ⟨(some 22), none, .mv (.t 21)⟩,
  ⟨(some 23), (some (22, false)), .mv (.t 2)⟩,
  ⟨(some 24), (some (22, false)), .mkfn "newel/halls.check$1" [] [(.t 3)]⟩,
  ⟨(some 25), (some (22, false)), .call "slices.ContainsFunc[[]int,int]" [(.t 23), (.t 24)]⟩,
  ⟨(some 26), none, .pick (.t 22) (.c (.bool true)) (.t 25)⟩]
@[go_sem] def x_halls_check_5 : List XO := [
  ⟨(some 6), none, .mv (.c (.int .i64 1))⟩]
@[go_sem] def x_halls_check_6 : List XO := [
  ⟨(some 6), none, .mv (.c (.int .i64 0))⟩]
def x_halls_check : XFunc := { np := 3, res := [.t 6], body :=
  (.seq (.reg x_halls_check_0) (.seq (.seq (.reg x_halls_check_1) (.seq (.reg x_halls_check_2) (.cond (.t 11) (.seq (.reg x_halls_check_3) .ret) .skip))) (.seq (.seq (.reg x_halls_check_4) (.cond (.t 26) (.seq (.reg x_halls_check_5) .ret) .skip)) (.seq (.reg x_halls_check_6) .ret)))) }

/- newel/halls.open boxF [1, 4] frz [(9, 0)] -/
@[go_sem] def x_halls_open_0 : List XO := [
  ⟨(some 1), none, .boxF (.t 0)⟩,
  ⟨(some 2), none, .mv (.c (.slice none 0 0))⟩]
@[go_sem] def x_halls_open_1 : List XO := [
  ⟨(some 4), none, .fldA 0 (.tf 1)⟩,
  ⟨(some 5), none, .load false 1 (.tf 4)⟩,
  ⟨(some 6), none, .len false (.t 5)⟩,
  ⟨(some 7), none, .mv (.c (.int .i64 0))⟩]
@[go_sem] def x_halls_open_2 : List XO := [
  ⟨(some 8), none, .bin .lss .no (.t 7) (.t 6)⟩]
@[go_sem] def x_halls_open_3 : List XO := [
  ⟨(some 9), none, .mv (.t 7)⟩,
  ⟨(some 3), none, .mv (.t 9)⟩]
@[go_sem] def x_halls_open_4 : List XO := [
  ⟨(some 10), none, .mv (.t 2)⟩,
  ⟨(some 11), none, .load true 4 (.tf 1)⟩,
  ⟨(some 12), none, .mv (.t 3)⟩,
  ⟨(some 13), none, .call "newel/halls.rates" [(.t 11), (.t 12)]⟩,
  ⟨(some 14), none, .bsl 1 [(.t 13)]⟩,
  ⟨(some 15), none, .app 1 24 (.t 10) (.t 14)⟩,
  ⟨(some 2), none, .mv (.t 15)⟩]
@[go_sem] def x_halls_open_5 : List XO := [
  ⟨(some 16), none, .bin .add .no (.t 7) (.c (.int .i64 1))⟩,
  ⟨(some 7), none, .mv (.t 16)⟩]
def x_halls_open_L6 : XCode :=
  (.seq (.reg x_halls_open_2) (.seq (.cond (.t 8) .skip (.exit 0)) (.seq (.block 1 (.seq (.reg x_halls_open_3) (.seq (.reg x_halls_open_4) .ghost))) (.reg x_halls_open_5))))
@[go_sem] def x_halls_open_7 : List XO := [
  ⟨(some 17), none, .mv (.t 2)⟩,
  ⟨(some 2), none, .mv (.t 17)⟩]
def x_halls_open : XFunc := { np := 1, res := [.t 2], body :=
  (.seq (.reg x_halls_open_0) (.seq (.seq (.reg x_halls_open_1) (.block 0 (.loop x_halls_open_L6))) (.seq (.reg x_halls_open_7) .ret))) }

/- newel/halls.over boxF [2] frz [] -/
@[go_sem] def x_halls_over_0 : List XO := [
  ⟨(some 2), none, .boxF (.t 0)⟩,
  ⟨(some 4), none, .mv (.c (.slice none 0 0))⟩]
@[go_sem] def x_halls_over_1 : List XO := [
  ⟨(some 8), none, .mv (.t 1)⟩,
  ⟨(some 9), none, .len false (.t 8)⟩,
  ⟨(some 10), none, .mv (.c (.int .i64 0))⟩]
@[go_sem] def x_halls_over_2 : List XO := [
  ⟨(some 11), none, .bin .lss .no (.t 10) (.t 9)⟩]
@[go_sem] def x_halls_over_3 : List XO := [
  ⟨(some 12), none, .mv (.t 10)⟩,
  ⟨(some 13), none, .ixA 1 (.t 8) (.t 10)⟩,
  ⟨(some 14), none, .load false 1 (.t 13)⟩,
  ⟨(some 5), none, .alloc [(.int .i64 0)]⟩,
  ⟨none, none, .store 1 (.t 5) (.t 12)⟩,
  ⟨(some 6), none, .mv (.t 14)⟩]
@[go_sem] def x_halls_over_4 : List XO := [
  ⟨(some 15), none, .mv (.t 6)⟩,
  ⟨(some 16), none, .nilck (.t 15)⟩,
  ⟨(some 17), none, .fldA 2 (.t 16)⟩,
  ⟨(some 18), none, .load false 1 (.t 17)⟩,
  ⟨(some 19), none, .mkfn "newel/halls.over$1" [] [(.t 2), (.t 5)]⟩,
  ⟨(some 20), none, .call "slices.IndexFunc[[]int,int]" [(.t 18), (.t 19)]⟩,
  ⟨(some 7), none, .mv (.t 20)⟩]
@[go_sem] def x_halls_over_5 : List XO := [
  ⟨(some 21), none, .mv (.t 7)⟩,
  ⟨(some 22), none, .bin .geq .no (.t 21) (.c (.int .i64 0))⟩]
@[go_sem] def x_halls_over_6 : List XO := [
  ⟨(some 23), none, .mv (.t 4)⟩,
  ⟨(some 24), none, .load false 1 (.t 5)⟩,
  ⟨(some 25), none, .mv (.t 7)⟩,
  ⟨(some 26), none, .build [(.int .i64 0), (.int .i64 0)] [(0, 1, (.t 24)), (1, 1, (.t 25))]⟩,
  ⟨(some 27), none, .bsl 2 [(.t 26)]⟩,
  ⟨(some 28), none, .app 2 16 (.t 23) (.t 27)⟩,
  ⟨(some 4), none, .mv (.t 28)⟩]
@[go_sem] def x_halls_over_7 : List XO := [
  ⟨(some 29), none, .bin .add .no (.t 10) (.c (.int .i64 1))⟩,
  ⟨(some 10), none, .mv (.t 29)⟩]
def x_halls_over_L8 : XCode :=
  (.seq (.reg x_halls_over_2) (.seq (.cond (.t 11) .skip (.exit 0)) (.seq (.block 1 (.seq (.reg x_halls_over_3) (.seq (.reg x_halls_over_4) (.seq (.reg x_halls_over_5) (.cond (.t 22) (.reg x_halls_over_6) .skip))))) (.reg x_halls_over_7))))
@[go_sem] def x_halls_over_9 : List XO := [
  ⟨(some 30), none, .mv (.t 4)⟩,
  ⟨(some 4), none, .mv (.t 30)⟩]
def x_halls_over : XFunc := { np := 2, res := [.t 4], body :=
  (.seq (.reg x_halls_over_0) (.seq (.seq (.reg x_halls_over_1) (.block 0 (.loop x_halls_over_L8))) (.seq (.reg x_halls_over_9) .ret))) }

/- newel/halls.bounds boxF [2, 120, 49, 36, 31, 26, 16] frz [(74, 5), (40, 9), (70, 7)] -/
@[go_sem] def x_halls_bounds_0 : List XO := [
  ⟨(some 2), none, .boxF (.t 0)⟩,
  ⟨(some 4), none, .mv (.c (.slice none 0 0))⟩]
@[go_sem] def x_halls_bounds_1 : List XO := [
  ⟨(some 5), none, .mv (.c (.slice none 0 0))⟩]
@[go_sem] def x_halls_bounds_2 : List XO := [
  ⟨(some 16), none, .fldA 0 (.tf 2)⟩,
  ⟨(some 17), none, .load false 1 (.tf 16)⟩,
  ⟨(some 18), none, .len false (.t 17)⟩,
  ⟨(some 19), none, .mv (.c (.int .i64 0))⟩]
@[go_sem] def x_halls_bounds_3 : List XO := [
  ⟨(some 20), none, .bin .lss .no (.t 19) (.t 18)⟩]
@[go_sem] def x_halls_bounds_4 : List XO := [
  ⟨(some 21), none, .mv (.t 19)⟩,
  ⟨(some 6), none, .mv (.t 21)⟩]
@[go_sem] def x_halls_bounds_5 : List XO := [
  ⟨(some 22), none, .bsl 1 [(.c (.int .i64 0))]⟩,
  ⟨(some 23), none, .bsl 1 [(.c (.int .i64 0))]⟩,
  ⟨(some 24), none, .build [(.slice none 0 0), (.slice none 0 0), (.slice none 0 0), (.slice none 0 0)] [(0, 1, (.t 22)), (1, 1, (.t 23))]⟩,
  ⟨(some 25), none, .box (.t 24)⟩,
  ⟨(some 7), none, .mv (.t 25)⟩]
@[go_sem] def x_halls_bounds_6 : List XO := [
  ⟨(some 26), none, .fldA 3 (.tf 2)⟩,
  ⟨(some 27), none, .load false 1 (.tf 26)⟩,
  ⟨(some 28), none, .mv (.c (.int .i64 0))⟩]
@[go_sem] def x_halls_bounds_7 : List XO := [
  ⟨(some 29), none, .bin .lss .no (.t 28) (.t 27)⟩]
@[go_sem] def x_halls_bounds_8 : List XO := [
  ⟨(some 30), none, .mv (.t 28)⟩,
  ⟨(some 8), none, .mv (.t 30)⟩]
@[go_sem] def x_halls_bounds_9 : List XO := [
  ⟨(some 31), none, .fldA 3 (.tf 2)⟩,
  ⟨(some 32), none, .load false 1 (.tf 31)⟩,
  ⟨(some 33), none, .mksl 1 [(.int .i64 0)] 8 (.t 32) (.t 32)⟩,
  ⟨(some 9), none, .mv (.t 33)⟩]
@[go_sem] def x_halls_bounds_10 : List XO := [
  ⟨(some 34), none, .mv (.t 8)⟩,
  ⟨(some 10), none, .mv (.t 34)⟩]
@[go_sem] def x_halls_bounds_11 : List XO := [
  ⟨(some 35), none, .mv (.t 10)⟩,
  ⟨(some 36), none, .fldA 3 (.tf 2)⟩,
  ⟨(some 37), none, .load false 1 (.tf 36)⟩,
  ⟨(some 38), none, .bin .lss .no (.t 35) (.t 37)⟩]
@[go_sem] def x_halls_bounds_12 : List XO := [
  ⟨(some 41), none, .mv (.t 9)⟩,
  ⟨(some 42), none, .mv (.t 10)⟩,
  ⟨(some 43), none, .load true 4 (.tf 2)⟩,
  ⟨(some 44), none, .mv (.t 6)⟩,
  ⟨(some 45), none, .mv (.t 8)⟩,
  ⟨(some 46), none, .mv (.t 10)⟩,
  ⟨(some 47), none, .call "newel/halls.brought" [(.t 43), (.t 44), (.t 45), (.t 46)]⟩,
  ⟨(some 48), none, .ixA 1 (.t 41) (.t 42)⟩,
  ⟨none, none, .store 1 (.t 48) (.t 47)⟩]
@[go_sem] def x_halls_bounds_13 : List XO := [
  ⟨(some 49), none, .fldA 0 (.tf 2)⟩,
  ⟨(some 50), none, .load false 1 (.tf 49)⟩,
  ⟨(some 51), none, .mv (.t 6)⟩,
  ⟨(some 52), none, .slc 5 (.t 50) none (some (.t 51))⟩,
  ⟨(some 53), none, .len false (.t 52)⟩,
  ⟨(some 54), none, .mv (.c (.int .i64 0))⟩]
@[go_sem] def x_halls_bounds_14 : List XO := [
  ⟨(some 55), none, .bin .lss .no (.t 54) (.t 53)⟩]
@[go_sem] def x_halls_bounds_15 : List XO := [
  ⟨(some 56), none, .mv (.t 54)⟩,
  ⟨(some 57), none, .ixA 5 (.t 52) (.t 54)⟩,
  ⟨(some 58), none, .load true 5 (.t 57)⟩,
  ⟨(some 12), none, .alloc [(.int .i64 0), (.int .i64 0), (.int .i64 0), (.int .i64 0), (.int .i64 0)]⟩,
  ⟨(some 11), none, .mv (.t 56)⟩,
  ⟨none, none, .store 5 (.t 12) (.t 58)⟩]
@[go_sem] def x_halls_bounds_16 : List XO := [
  ⟨(some 59), none, .fldA 2 (.t 12)⟩,
  ⟨(some 60), none, .load false 1 (.t 59)⟩,
  ⟨(some 61), none, .mv (.t 6)⟩,
  ⟨(some 62), none, .bin .eql .no (.t 60) (.t 61)⟩]
@[go_sem] def x_halls_bounds_17 : List XO := [
  ⟨(some 63), none, .mv (.t 9)⟩,
  ⟨(some 64), none, .mv (.t 10)⟩,
  ⟨(some 65), none, .ixA 1 (.t 63) (.t 64)⟩,
  ⟨(some 66), none, .load false 1 (.t 65)⟩,
  ⟨(some 67), none, .mv (.t 5)⟩,
  ⟨(some 68), none, .mv (.t 11)⟩,
  ⟨(some 69), none, .ixA 1 (.t 67) (.t 68)⟩,
  ⟨(some 70), none, .load false 1 (.t 69)⟩,
  ⟨(some 71), none, .mv (.t 8)⟩,
  ⟨(some 72), none, .fldA 3 (.t 12)⟩,
  ⟨(some 73), none, .fldA 1 (.t 72)⟩,
  ⟨(some 74), none, .load false 1 (.t 73)⟩,
  ⟨(some 75), none, .bin .sub .no (.t 71) (.t 74)⟩,
  ⟨(some 76), none, .mv (.t 10)⟩,
  ⟨(some 77), none, .fldA 3 (.t 12)⟩,
  ⟨(some 78), none, .fldA 0 (.t 77)⟩,
  ⟨(some 79), none, .load false 1 (.t 78)⟩,
  ⟨(some 80), none, .bin .sub .no (.t 76) (.t 79)⟩,
  ⟨(some 81), none, .call "(*newel/halls.bound).passes" [(.t 70), (.t 75), (.t 80)]⟩,
  ⟨(some 82), none, .bin .add .no (.t 66) (.t 81)⟩,
  ⟨(some 83), none, .ixA 1 (.t 63) (.t 64)⟩,
  ⟨none, none, .store 1 (.t 83) (.t 82)⟩]
@[go_sem] def x_halls_bounds_18 : List XO := [
  ⟨(some 84), none, .bin .add .no (.t 54) (.c (.int .i64 1))⟩,
  ⟨(some 54), none, .mv (.t 84)⟩]
def x_halls_bounds_L19 : XCode :=
  (.seq (.reg x_halls_bounds_14) (.seq (.cond (.t 55) .skip (.exit 6)) (.seq (.block 7 (.seq (.reg x_halls_bounds_15) (.seq (.reg x_halls_bounds_16) (.cond (.t 62) (.reg x_halls_bounds_17) .skip)))) (.reg x_halls_bounds_18))))
@[go_sem] def x_halls_bounds_20 : List XO := [
  ⟨(some 39), none, .mv (.t 10)⟩,
  ⟨(some 40), none, .bin .add .no (.t 39) (.c (.int .i64 1))⟩,
  ⟨(some 10), none, .mv (.t 40)⟩]
def x_halls_bounds_L21 : XCode :=
  (.seq (.seq (.reg x_halls_bounds_11) (.cond (.t 38) .skip (.exit 4))) (.seq (.block 5 (.seq (.reg x_halls_bounds_12) (.seq (.reg x_halls_bounds_13) (.block 6 (.loop x_halls_bounds_L19))))) (.reg x_halls_bounds_20)))
@[go_sem] def x_halls_bounds_22 : List XO := [
  ⟨(some 85), none, .mv (.t 7)⟩,
  ⟨(some 86), none, .mv (.t 7)⟩,
  ⟨(some 87), none, .nilck (.t 86)⟩,
  ⟨(some 88), none, .fldA 3 (.t 87)⟩,
  ⟨(some 89), none, .load false 1 (.t 88)⟩,
  ⟨(some 90), none, .mv (.t 9)⟩,
  ⟨(some 91), none, .bsl 1 [(.t 90)]⟩,
  ⟨(some 92), none, .app 1 24 (.t 89) (.t 91)⟩,
  ⟨(some 93), none, .nilck (.t 85)⟩,
  ⟨(some 94), none, .fldA 3 (.t 93)⟩,
  ⟨none, none, .store 1 (.t 94) (.t 92)⟩]
@[go_sem] def x_halls_bounds_23 : List XO := [
  ⟨(some 95), none, .mv (.t 7)⟩,
  ⟨(some 96), none, .mv (.t 7)⟩,
  ⟨(some 97), none, .nilck (.t 96)⟩,
  ⟨(some 98), none, .fldA 0 (.t 97)⟩,
  ⟨(some 99), none, .load false 1 (.t 98)⟩,
  ⟨(some 100), none, .mv (.t 7)⟩,
  ⟨(some 101), none, .nilck (.t 100)⟩,
  ⟨(some 102), none, .fldA 0 (.t 101)⟩,
  ⟨(some 103), none, .load false 1 (.t 102)⟩,
  ⟨(some 104), none, .mv (.t 8)⟩,
  ⟨(some 105), none, .ixA 1 (.t 103) (.t 104)⟩,
  ⟨(some 106), none, .load false 1 (.t 105)⟩,
  ⟨(some 107), none, .mv (.t 1)⟩,
  ⟨(some 108), none, .mv (.t 6)⟩,
  ⟨(some 109), none, .ixA 1 (.t 107) (.t 108)⟩,
  ⟨(some 110), none, .load false 1 (.t 109)⟩,
  ⟨(some 111), none, .mv (.t 8)⟩,
  ⟨(some 112), none, .ixA 1 (.t 110) (.t 111)⟩,
  ⟨(some 113), none, .load false 1 (.t 112)⟩,
  ⟨(some 114), none, .bin .add .no (.t 106) (.t 113)⟩,
  ⟨(some 115), none, .bsl 1 [(.t 114)]⟩,
  ⟨(some 116), none, .app 1 8 (.t 99) (.t 115)⟩,
  ⟨(some 117), none, .nilck (.t 95)⟩,
  ⟨(some 118), none, .fldA 0 (.t 117)⟩,
  ⟨none, none, .store 1 (.t 118) (.t 116)⟩]
@[go_sem] def x_halls_bounds_24 : List XO := [
  ⟨(some 119), none, .bin .add .no (.t 28) (.c (.int .i64 1))⟩,
  ⟨(some 28), none, .mv (.t 119)⟩]
def x_halls_bounds_L25 : XCode :=
  (.seq (.reg x_halls_bounds_7) (.seq (.cond (.t 29) .skip (.exit 2)) (.seq (.block 3 (.seq (.reg x_halls_bounds_8) (.seq (.reg x_halls_bounds_9) (.seq (.seq (.reg x_halls_bounds_10) (.block 4 (.loop x_halls_bounds_L21))) (.seq (.seq .ghost (.reg x_halls_bounds_22)) (.reg x_halls_bounds_23)))))) (.reg x_halls_bounds_24))))
@[go_sem] def x_halls_bounds_26 : List XO := [
  ⟨(some 120), none, .fldA 3 (.tf 2)⟩,
  ⟨(some 121), none, .load false 1 (.tf 120)⟩,
  ⟨(some 122), none, .mv (.c (.int .i64 0))⟩]
@[go_sem] def x_halls_bounds_27 : List XO := [
  ⟨(some 123), none, .bin .lss .no (.t 122) (.t 121)⟩]
@[go_sem] def x_halls_bounds_28 : List XO := [
  ⟨(some 124), none, .mv (.t 122)⟩,
  ⟨(some 13), none, .mv (.t 124)⟩]
@[go_sem] def x_halls_bounds_29 : List XO := [
  ⟨(some 14), none, .mv (.c (.int .i64 0))⟩]
@[go_sem] def x_halls_bounds_30 : List XO := [
  ⟨(some 125), none, .mv (.t 13)⟩,
  ⟨(some 126), none, .bin .add .no (.t 125) (.c (.int .i64 1))⟩,
  ⟨(some 127), none, .mv (.c (.int .i64 0))⟩]
@[go_sem] def x_halls_bounds_31 : List XO := [
  ⟨(some 128), none, .bin .lss .no (.t 127) (.t 126)⟩]
@[go_sem] def x_halls_bounds_32 : List XO := [
  ⟨(some 129), none, .mv (.t 127)⟩,
  ⟨(some 15), none, .mv (.t 129)⟩]
@[go_sem] def x_halls_bounds_33 : List XO := [
  ⟨(some 130), none, .mv (.t 14)⟩,
  ⟨(some 131), none, .mv (.t 7)⟩,
  ⟨(some 132), none, .nilck (.t 131)⟩,
  ⟨(some 133), none, .fldA 3 (.t 132)⟩,
  ⟨(some 134), none, .load false 1 (.t 133)⟩,
  ⟨(some 135), none, .mv (.t 15)⟩,
  ⟨(some 136), none, .ixA 1 (.t 134) (.t 135)⟩,
  ⟨(some 137), none, .load false 1 (.t 136)⟩,
  ⟨(some 138), none, .mv (.t 13)⟩,
  ⟨(some 139), none, .ixA 1 (.t 137) (.t 138)⟩,
  ⟨(some 140), none, .load false 1 (.t 139)⟩,
  ⟨(some 141), none, .mv (.t 7)⟩,
  ⟨(some 142), none, .nilck (.t 141)⟩,
  ⟨(some 143), none, .fldA 0 (.t 142)⟩,
  ⟨(some 144), none, .load false 1 (.t 143)⟩,
  ⟨(some 145), none, .mv (.t 13)⟩,
  ⟨(some 146), none, .ixA 1 (.t 144) (.t 145)⟩,
  ⟨(some 147), none, .load false 1 (.t 146)⟩,
  ⟨(some 148), none, .mv (.t 7)⟩,
  ⟨(some 149), none, .nilck (.t 148)⟩,
  ⟨(some 150), none, .fldA 0 (.t 149)⟩,
  ⟨(some 151), none, .load false 1 (.t 150)⟩,
  ⟨(some 152), none, .mv (.t 15)⟩,
  ⟨(some 153), none, .ixA 1 (.t 151) (.t 152)⟩,
  ⟨(some 154), none, .load false 1 (.t 153)⟩,
  ⟨(some 155), none, .bin .sub .no (.t 147) (.t 154)⟩,
  ⟨(some 156), none, .bin .sub .no (.t 140) (.t 155)⟩,
  ⟨(some 157), none, .max [(.t 130), (.t 156)]⟩,
  ⟨(some 14), none, .mv (.t 157)⟩]
@[go_sem] def x_halls_bounds_34 : List XO := [
  ⟨(some 158), none, .bin .add .no (.t 127) (.c (.int .i64 1))⟩,
  ⟨(some 127), none, .mv (.t 158)⟩]
def x_halls_bounds_L35 : XCode :=
  (.seq (.reg x_halls_bounds_31) (.seq (.cond (.t 128) .skip (.exit 10)) (.seq (.block 11 (.seq (.reg x_halls_bounds_32) (.reg x_halls_bounds_33))) (.reg x_halls_bounds_34))))
@[go_sem] def x_halls_bounds_36 : List XO := [
  ⟨(some 159), none, .mv (.t 7)⟩,
  ⟨(some 160), none, .mv (.t 7)⟩,
  ⟨(some 161), none, .nilck (.t 160)⟩,
  ⟨(some 162), none, .fldA 2 (.t 161)⟩,
  ⟨(some 163), none, .load false 1 (.t 162)⟩,
  ⟨(some 164), none, .mv (.t 14)⟩,
  ⟨(some 165), none, .bsl 1 [(.t 164)]⟩,
  ⟨(some 166), none, .app 1 8 (.t 163) (.t 165)⟩,
  ⟨(some 167), none, .nilck (.t 159)⟩,
  ⟨(some 168), none, .fldA 2 (.t 167)⟩,
  ⟨none, none, .store 1 (.t 168) (.t 166)⟩]
@[go_sem] def x_halls_bounds_37 : List XO := [
  ⟨(some 169), none, .mv (.t 7)⟩,
  ⟨(some 170), none, .mv (.t 7)⟩,
  ⟨(some 171), none, .nilck (.t 170)⟩,
  ⟨(some 172), none, .fldA 1 (.t 171)⟩,
  ⟨(some 173), none, .load false 1 (.t 172)⟩,
  ⟨(some 174), none, .mv (.t 7)⟩,
  ⟨(some 175), none, .nilck (.t 174)⟩,
  ⟨(some 176), none, .fldA 1 (.t 175)⟩,
  ⟨(some 177), none, .load false 1 (.t 176)⟩,
  ⟨(some 178), none, .mv (.t 13)⟩,
  ⟨(some 179), none, .ixA 1 (.t 177) (.t 178)⟩,
  ⟨(some 180), none, .load false 1 (.t 179)⟩,
  ⟨(some 181), none, .mv (.t 14)⟩,
  ⟨(some 182), none, .mv (.t 1)⟩,
  ⟨(some 183), none, .mv (.t 6)⟩,
  ⟨(some 184), none, .ixA 1 (.t 182) (.t 183)⟩,
  ⟨(some 185), none, .load false 1 (.t 184)⟩,
  ⟨(some 186), none, .mv (.t 13)⟩,
  ⟨(some 187), none, .ixA 1 (.t 185) (.t 186)⟩,
  ⟨(some 188), none, .load false 1 (.t 187)⟩,
  ⟨(some 189), none, .min [(.t 181), (.t 188)]⟩,
  ⟨(some 190), none, .bin .add .no (.t 180) (.t 189)⟩,
  ⟨(some 191), none, .bsl 1 [(.t 190)]⟩,
  ⟨(some 192), none, .app 1 8 (.t 173) (.t 191)⟩,
  ⟨(some 193), none, .nilck (.t 169)⟩,
  ⟨(some 194), none, .fldA 1 (.t 193)⟩,
  ⟨none, none, .store 1 (.t 194) (.t 192)⟩]
@[go_sem] def x_halls_bounds_38 : List XO := [
  ⟨(some 195), none, .bin .add .no (.t 122) (.c (.int .i64 1))⟩,
  ⟨(some 122), none, .mv (.t 195)⟩]
def x_halls_bounds_L39 : XCode :=
  (.seq (.reg x_halls_bounds_27) (.seq (.cond (.t 123) .skip (.exit 8)) (.seq (.block 9 (.seq (.reg x_halls_bounds_28) (.seq (.reg x_halls_bounds_29) (.seq (.seq (.reg x_halls_bounds_30) (.block 10 (.loop x_halls_bounds_L35))) (.seq (.reg x_halls_bounds_36) (.reg x_halls_bounds_37)))))) (.reg x_halls_bounds_38))))
@[go_sem] def x_halls_bounds_40 : List XO := [
  ⟨(some 196), none, .mv (.t 5)⟩,
  ⟨(some 197), none, .mv (.t 7)⟩,
  ⟨(some 198), none, .bsl 1 [(.t 197)]⟩,
  ⟨(some 199), none, .app 1 8 (.t 196) (.t 198)⟩,
  ⟨(some 5), none, .mv (.t 199)⟩]
@[go_sem] def x_halls_bounds_41 : List XO := [
  ⟨(some 200), none, .bin .add .no (.t 19) (.c (.int .i64 1))⟩,
  ⟨(some 19), none, .mv (.t 200)⟩]
def x_halls_bounds_L42 : XCode :=
  (.seq (.reg x_halls_bounds_3) (.seq (.cond (.t 20) .skip (.exit 0)) (.seq (.block 1 (.seq (.reg x_halls_bounds_4) (.seq (.reg x_halls_bounds_5) (.seq (.seq (.reg x_halls_bounds_6) (.block 2 (.loop x_halls_bounds_L25))) (.seq (.seq (.reg x_halls_bounds_26) (.block 8 (.loop x_halls_bounds_L39))) (.seq .ghost (.reg x_halls_bounds_40))))))) (.reg x_halls_bounds_41))))
@[go_sem] def x_halls_bounds_43 : List XO := [
  ⟨(some 201), none, .mv (.t 5)⟩,
  ⟨(some 4), none, .mv (.t 201)⟩]
def x_halls_bounds : XFunc := { np := 2, res := [.t 4], body :=
  (.seq (.reg x_halls_bounds_0) (.seq (.reg x_halls_bounds_1) (.seq (.seq (.reg x_halls_bounds_2) (.block 0 (.loop x_halls_bounds_L42))) (.seq (.seq .ghost (.reg x_halls_bounds_43)) .ret)))) }

/- newel/halls.rates boxF [2, 48, 40, 29, 24, 12, 9] frz [] -/
@[go_sem] def x_halls_rates_0 : List XO := [
  ⟨(some 2), none, .boxF (.t 0)⟩,
  ⟨(some 4), none, .mv (.c (.slice none 0 0))⟩]
@[go_sem] def x_halls_rates_1 : List XO := [
  ⟨(some 9), none, .fldA 3 (.tf 2)⟩,
  ⟨(some 10), none, .load false 1 (.tf 9)⟩,
  ⟨(some 11), none, .mksl 1 [(.int .i64 0)] 8 (.t 10) (.t 10)⟩,
  ⟨(some 5), none, .mv (.t 11)⟩]
@[go_sem] def x_halls_rates_2 : List XO := [
  ⟨(some 12), none, .fldA 0 (.tf 2)⟩,
  ⟨(some 13), none, .load false 1 (.tf 12)⟩,
  ⟨(some 14), none, .mv (.t 1)⟩,
  ⟨(some 15), none, .ixA 5 (.t 13) (.t 14)⟩,
  ⟨(some 16), none, .fldA 0 (.t 15)⟩,
  ⟨(some 17), none, .load false 1 (.t 16)⟩,
  ⟨(some 6), none, .mv (.t 17)⟩,
  ⟨(some 7), none, .mv (.c (.int .i64 0))⟩]
@[go_sem] def x_halls_rates_3 : List XO := [
  ⟨(some 18), none, .mv (.t 5)⟩,
  ⟨(some 19), none, .len false (.t 18)⟩,
  ⟨(some 20), none, .mv (.c (.int .i64 0))⟩]
@[go_sem] def x_halls_rates_4 : List XO := [
  ⟨(some 21), none, .bin .lss .no (.t 20) (.t 19)⟩]
@[go_sem] def x_halls_rates_5 : List XO := [
  ⟨(some 22), none, .mv (.t 20)⟩,
  ⟨(some 8), none, .mv (.t 22)⟩]
@[go_sem] def x_halls_rates_6 : List XO := [
  ⟨(some 23), none, .mv (.t 7)⟩,
  ⟨(some 24), none, .fldA 2 (.tf 2)⟩,
  ⟨(some 25), none, .load false 1 (.tf 24)⟩,
  ⟨(some 26), none, .len false (.t 25)⟩,
  ⟨(some 27), none, .bin .lss .no (.t 23) (.t 26)⟩,
  ⟨(some 28), none, .mv (.t 27)⟩,
  ⟨(some 29), (some (28, true)), .fldA 2 (.tf 2)⟩,
  ⟨(some 30), (some (28, true)), .load false 1 (.tf 29)⟩,
  ⟨(some 31), (some (28, true)), .mv (.t 7)⟩,
  ⟨(some 32), (some (28, true)), .ixA 3 (.t 30) (.t 31)⟩,
  ⟨(some 33), (some (28, true)), .fldA 0 (.t 32)⟩,
  ⟨(some 34), (some (28, true)), .load false 1 (.t 33)⟩,
  ⟨(some 35), (some (28, true)), .mv (.t 8)⟩,
  ⟨(some 36), (some (28, true)), .bin .leq .no (.t 34) (.t 35)⟩,
  ⟨(some 37), none, .pick (.t 28) (.t 36) (.c (.bool false))⟩]
@[go_sem] def x_halls_rates_7 : List XO := [
  ⟨(some 40), none, .fldA 2 (.tf 2)⟩,
  ⟨(some 41), none, .load false 1 (.tf 40)⟩,
  ⟨(some 42), none, .mv (.t 7)⟩,
  ⟨(some 43), none, .ixA 3 (.t 41) (.t 42)⟩,
  ⟨(some 44), none, .fldA 1 (.t 43)⟩,
  ⟨(some 45), none, .load false 1 (.t 44)⟩,
  ⟨(some 46), none, .mv (.t 1)⟩,
  ⟨(some 47), none, .bin .eql .no (.t 45) (.t 46)⟩]
@[go_sem] def x_halls_rates_8 : List XO := [
  ⟨(some 48), none, .fldA 2 (.tf 2)⟩,
  ⟨(some 49), none, .load false 1 (.tf 48)⟩,
  ⟨(some 50), none, .mv (.t 7)⟩,
  ⟨(some 51), none, .ixA 3 (.t 49) (.t 50)⟩,
  ⟨(some 52), none, .fldA 2 (.t 51)⟩,
  ⟨(some 53), none, .load false 1 (.t 52)⟩,
  ⟨(some 6), none, .mv (.t 53)⟩]
@[go_sem] def x_halls_rates_9 : List XO := [
  ⟨(some 38), none, .mv (.t 7)⟩,
  ⟨(some 39), none, .bin .add .no (.t 38) (.c (.int .i64 1))⟩,
  ⟨(some 7), none, .mv (.t 39)⟩]
def x_halls_rates_L10 : XCode :=
  (.seq (.seq (.reg x_halls_rates_6) (.cond (.t 37) .skip (.exit 2))) (.seq (.block 3 (.seq (.reg x_halls_rates_7) (.cond (.t 47) (.reg x_halls_rates_8) .skip))) (.reg x_halls_rates_9)))
@[go_sem] def x_halls_rates_11 : List XO := [
  ⟨(some 54), none, .mv (.t 5)⟩,
  ⟨(some 55), none, .mv (.t 8)⟩,
  ⟨(some 56), none, .mv (.t 6)⟩,
  ⟨(some 57), none, .ixA 1 (.t 54) (.t 55)⟩,
  ⟨none, none, .store 1 (.t 57) (.t 56)⟩]
@[go_sem] def x_halls_rates_12 : List XO := [
  ⟨(some 58), none, .bin .add .no (.t 20) (.c (.int .i64 1))⟩,
  ⟨(some 20), none, .mv (.t 58)⟩]
def x_halls_rates_L13 : XCode :=
  (.seq (.reg x_halls_rates_4) (.seq (.cond (.t 21) .skip (.exit 0)) (.seq (.block 1 (.seq (.reg x_halls_rates_5) (.seq (.block 2 (.loop x_halls_rates_L10)) (.reg x_halls_rates_11)))) (.reg x_halls_rates_12))))
@[go_sem] def x_halls_rates_14 : List XO := [
  ⟨(some 59), none, .mv (.t 5)⟩,
  ⟨(some 4), none, .mv (.t 59)⟩]
def x_halls_rates : XFunc := { np := 2, res := [.t 4], body :=
  (.seq (.reg x_halls_rates_0) (.seq (.reg x_halls_rates_1) (.seq (.reg x_halls_rates_2) (.seq (.seq (.reg x_halls_rates_3) (.block 0 (.loop x_halls_rates_L13))) (.seq (.reg x_halls_rates_14) .ret))))) }

/- newel/halls.isDay boxF [3, 114, 105, 97, 74, 55, 45, 29, 20, 12, 2, 88, 37, 32, 23, 15] frz [] -/
@[go_sem] def x_halls_isDay_0 : List XO := [
  ⟨(some 2), none, .boxF (.t 0)⟩,
  ⟨(some 3), none, .boxF (.t 1)⟩,
  ⟨(some 4), none, .mv (.c (.bool false))⟩]
@[go_sem] def x_halls_isDay_1 : List XO := [
  ⟨(some 12), none, .fldA 0 (.tf 3)⟩,
  ⟨(some 13), none, .load false 1 (.tf 12)⟩,
  ⟨(some 14), none, .len false (.t 13)⟩,
  ⟨(some 15), none, .fldA 1 (.tf 2)⟩,
  ⟨(some 16), none, .load false 1 (.tf 15)⟩,
  ⟨(some 17), none, .len false (.t 16)⟩,
  ⟨(some 18), none, .bin .neq .no (.t 14) (.t 17)⟩,
  ⟨(some 19), none, .mv (.t 18)⟩,
  ⟨(some 20), (some (19, false)), .fldA 1 (.tf 3)⟩,
  ⟨(some 21), (some (19, false)), .load false 1 (.tf 20)⟩,
  ⟨(some 22), (some (19, false)), .len false (.t 21)⟩,
  ⟨(some 23), (some (19, false)), .fldA 1 (.tf 2)⟩,
  ⟨(some 24), (some (19, false)), .load false 1 (.tf 23)⟩,
  ⟨(some 25), (some (19, false)), .len false (.t 24)⟩,
  ⟨(some 26), (some (19, false)), .bin .neq .no (.t 22) (.t 25)⟩,
  ⟨(some 27), none, .pick (.t 19) (.c (.bool true)) (.t 26)⟩,
  ⟨(some 28), none, .mv (.t 27)⟩,
  ⟨(some 29), (some (28, false)), .fldA 2 (.tf 3)⟩,
  ⟨(some 30), (some (28, false)), .load false 1 (.tf 29)⟩,
  ⟨(some 31), (some (28, false)), .len false (.t 30)⟩,
  ⟨(some 32), (some (28, false)), .fldA 0 (.tf 2)⟩,
  ⟨(some 33), (some (28, false)), .load false 1 (.tf 32)⟩,
  ⟨(some 34), (some (28, false)), .len false (.t 33)⟩,
  ⟨(some 35), (some (28, false)), .bin .neq .no (.t 31) (.t 34)⟩,
  ⟨(some 36), none, .pick (.t 28) (.c (.bool true)) (.t 35)⟩]
@[go_sem] def x_halls_isDay_2 : List XO := [
  ⟨(some 4), none, .mv (.c (.bool false))⟩]
@[go_sem] def x_halls_isDay_3 : List XO := [
  ⟨(some 37), none, .fldA 1 (.tf 2)⟩,
  ⟨(some 38), none, .load false 1 (.tf 37)⟩,
  ⟨(some 39), none, .len false (.t 38)⟩,
  ⟨(some 40), none, .mv (.c (.int .i64 0))⟩]
@[go_sem] def x_halls_isDay_4 : List XO := [
  ⟨(some 41), none, .bin .lss .no (.t 40) (.t 39)⟩]
@[go_sem] def x_halls_isDay_5 : List XO := [
  ⟨(some 42), none, .mv (.t 40)⟩,
  ⟨(some 43), none, .ixA 3 (.t 38) (.t 40)⟩,
  ⟨(some 44), none, .load true 3 (.t 43)⟩,
  ⟨(some 6), none, .alloc [(.int .i64 0), (.int .i64 0), (.slice none 0 0)]⟩,
  ⟨(some 5), none, .mv (.t 42)⟩,
  ⟨none, none, .store 3 (.t 6) (.t 44)⟩]
@[go_sem] def x_halls_isDay_6 : List XO := [
  ⟨(some 45), none, .fldA 0 (.tf 3)⟩,
  ⟨(some 46), none, .load false 1 (.tf 45)⟩,
  ⟨(some 47), none, .mv (.t 5)⟩,
  ⟨(some 48), none, .ixA 1 (.t 46) (.t 47)⟩,
  ⟨(some 49), none, .load false 1 (.t 48)⟩,
  ⟨(some 50), none, .fldA 0 (.t 6)⟩,
  ⟨(some 51), none, .load true 2 (.t 50)⟩,
  ⟨(some 52), none, .call "newel/halls.in" [(.t 49), (.t 51)]⟩,
  ⟨(some 53), none, .un .not (.t 52)⟩,
  ⟨(some 54), none, .mv (.t 53)⟩,
  ⟨(some 55), (some (54, false)), .fldA 1 (.tf 3)⟩,
  ⟨(some 56), (some (54, false)), .load false 1 (.tf 55)⟩,
  ⟨(some 57), (some (54, false)), .mv (.t 5)⟩,
  ⟨(some 58), (some (54, false)), .ixA 1 (.t 56) (.t 57)⟩,
  ⟨(some 59), (some (54, false)), .load false 1 (.t 58)⟩,
  ⟨(some 60), (some (54, false)), .len false (.t 59)⟩,
  ⟨(some 61), (some (54, false)), .fldA 2 (.t 6)⟩,
  ⟨(some 62), (some (54, false)), .load false 1 (.t 61)⟩,
  ⟨(some 63), (some (54, false)), .len false (.t 62)⟩,
  ⟨(some 64), (some (54, false)), .bin .neq .no (.t 60) (.t 63)⟩,
  ⟨(some 65), none, .pick (.t 54) (.c (.bool true)) (.t 64)⟩]
@[go_sem] def x_halls_isDay_7 : List XO := [
  ⟨(some 4), none, .mv (.c (.bool false))⟩]
@[go_sem] def x_halls_isDay_8 : List XO := [
  ⟨(some 66), none, .fldA 2 (.t 6)⟩,
  ⟨(some 67), none, .load false 1 (.t 66)⟩,
  ⟨(some 68), none, .len false (.t 67)⟩,
  ⟨(some 69), none, .mv (.c (.int .i64 0))⟩]
@[go_sem] def x_halls_isDay_9 : List XO := [
  ⟨(some 70), none, .bin .lss .no (.t 69) (.t 68)⟩]
@[go_sem] def x_halls_isDay_10 : List XO := [
  ⟨(some 71), none, .mv (.t 69)⟩,
  ⟨(some 72), none, .ixA 3 (.t 67) (.t 69)⟩,
  ⟨(some 73), none, .load true 3 (.t 72)⟩,
  ⟨(some 8), none, .alloc [(.int .i64 0), (.int .i64 0), (.int .i64 0)]⟩,
  ⟨(some 7), none, .mv (.t 71)⟩,
  ⟨none, none, .store 3 (.t 8) (.t 73)⟩]
@[go_sem] def x_halls_isDay_11 : List XO := [
  ⟨(some 74), none, .fldA 1 (.tf 3)⟩,
  ⟨(some 75), none, .load false 1 (.tf 74)⟩,
  ⟨(some 76), none, .mv (.t 5)⟩,
  ⟨(some 77), none, .ixA 1 (.t 75) (.t 76)⟩,
  ⟨(some 78), none, .load false 1 (.t 77)⟩,
  ⟨(some 79), none, .mv (.t 7)⟩,
  ⟨(some 80), none, .ixA 1 (.t 78) (.t 79)⟩,
  ⟨(some 81), none, .load false 1 (.t 80)⟩,
  ⟨(some 82), none, .fldA 1 (.t 8)⟩,
  ⟨(some 83), none, .load true 2 (.t 82)⟩,
  ⟨(some 84), none, .call "newel/halls.in" [(.t 81), (.t 83)]⟩,
  ⟨(some 85), none, .un .not (.t 84)⟩]
@[go_sem] def x_halls_isDay_12 : List XO := [
  ⟨(some 4), none, .mv (.c (.bool false))⟩]
@[go_sem] def x_halls_isDay_13 : List XO := [
  ⟨(some 86), none, .bin .add .no (.t 69) (.c (.int .i64 1))⟩,
  ⟨(some 69), none, .mv (.t 86)⟩]
def x_halls_isDay_L14 : XCode :=
  (.seq (.reg x_halls_isDay_9) (.seq (.cond (.t 70) .skip (.exit 2)) (.seq (.block 3 (.seq (.reg x_halls_isDay_10) (.seq (.reg x_halls_isDay_11) (.cond (.t 85) (.seq (.reg x_halls_isDay_12) .ret) .skip)))) (.reg x_halls_isDay_13))))
@[go_sem] def x_halls_isDay_15 : List XO := [
  ⟨(some 87), none, .bin .add .no (.t 40) (.c (.int .i64 1))⟩,
  ⟨(some 40), none, .mv (.t 87)⟩]
def x_halls_isDay_L16 : XCode :=
  (.seq (.reg x_halls_isDay_4) (.seq (.cond (.t 41) .skip (.exit 0)) (.seq (.block 1 (.seq (.reg x_halls_isDay_5) (.seq (.seq (.reg x_halls_isDay_6) (.cond (.t 65) (.seq (.reg x_halls_isDay_7) .ret) .skip)) (.seq (.reg x_halls_isDay_8) (.block 2 (.loop x_halls_isDay_L14)))))) (.reg x_halls_isDay_15))))
@[go_sem] def x_halls_isDay_17 : List XO := [
  ⟨(some 88), none, .fldA 0 (.tf 2)⟩,
  ⟨(some 89), none, .load false 1 (.tf 88)⟩,
  ⟨(some 90), none, .len false (.t 89)⟩,
  ⟨(some 91), none, .mv (.c (.int .i64 0))⟩]
@[go_sem] def x_halls_isDay_18 : List XO := [
  ⟨(some 92), none, .bin .lss .no (.t 91) (.t 90)⟩]
@[go_sem] def x_halls_isDay_19 : List XO := [
  ⟨(some 93), none, .mv (.t 91)⟩,
  ⟨(some 94), none, .ixA 5 (.t 89) (.t 91)⟩,
  ⟨(some 95), none, .load true 5 (.t 94)⟩,
  ⟨(some 10), none, .alloc [(.int .i64 0), (.int .i64 0), (.int .i64 0), (.int .i64 0), (.int .i64 0)]⟩,
  ⟨(some 9), none, .mv (.t 93)⟩,
  ⟨none, none, .store 5 (.t 10) (.t 95)⟩]
@[go_sem] def x_halls_isDay_20 : List XO := [
  ⟨(some 96), none, .mkfn "newel/halls.isDay$1" [] [(.t 10)]⟩,
  ⟨(some 11), none, .mv (.t 96)⟩]
@[go_sem] def x_halls_isDay_21 : List XO := [
  ⟨(some 97), none, .fldA 2 (.tf 3)⟩,
  ⟨(some 98), none, .load false 1 (.tf 97)⟩,
  ⟨(some 99), none, .mv (.t 9)⟩,
  ⟨(some 100), none, .ixA 1 (.t 98) (.t 99)⟩,
  ⟨(some 101), none, .load false 1 (.t 100)⟩,
  ⟨(some 102), none, .len false (.t 101)⟩,
  ⟨(some 103), none, .bin .lss .no (.t 102) (.c (.int .i64 1))⟩,
  ⟨(some 104), none, .mv (.t 103)⟩,
  ⟨(some 105), (some (104, false)), .fldA 2 (.tf 3)⟩,
  ⟨(some 106), (some (104, false)), .load false 1 (.tf 105)⟩,
  ⟨(some 107), (some (104, false)), .mv (.t 9)⟩,
  ⟨(some 108), (some (104, false)), .ixA 1 (.t 106) (.t 107)⟩,
  ⟨(some 109), (some (104, false)), .load false 1 (.t 108)⟩,
  ⟨(some 110), (some (104, false)), .len false (.t 109)⟩,
  ⟨(some 111), (some (104, false)), .bin .gtr .no (.t 110) (.c (.int .i64 20))⟩,
  ⟨(some 112), none, .pick (.t 104) (.c (.bool true)) (.t 111)⟩,
  ⟨(some 113), none, .mv (.t 112)⟩,
  ⟨(some 114), (some (113, false)), .fldA 2 (.tf 3)⟩,
  ⟨(some 115), (some (113, false)), .load false 1 (.tf 114)⟩,
  ⟨(some 116), (some (113, false)), .mv (.t 9)⟩,
  ⟨(some 117), (some (113, false)), .ixA 1 (.t 115) (.t 116)⟩,
  ⟨(some 118), (some (113, false)), .load false 1 (.t 117)⟩,
  ⟨(some 119), (some (113, false)), .mv (.t 11)⟩,
  ⟨(some 120), (some (113, false)), .call "slices.ContainsFunc[[]int,int]" [(.t 118), (.t 119)]⟩,
  ⟨(some 121), none, .pick (.t 113) (.c (.bool true)) (.t 120)⟩]
@[go_sem] def x_halls_isDay_22 : List XO := [
  ⟨(some 4), none, .mv (.c (.bool false))⟩]
@[go_sem] def x_halls_isDay_23 : List XO := [
  ⟨(some 122), none, .bin .add .no (.t 91) (.c (.int .i64 1))⟩,
  ⟨(some 91), none, .mv (.t 122)⟩]
def x_halls_isDay_L24 : XCode :=
  (.seq (.reg x_halls_isDay_18) (.seq (.cond (.t 92) .skip (.exit 4)) (.seq (.block 5 (.seq (.reg x_halls_isDay_19) (.seq (.reg x_halls_isDay_20) (.seq (.reg x_halls_isDay_21) (.cond (.t 121) (.seq (.reg x_halls_isDay_22) .ret) .skip))))) (.reg x_halls_isDay_23))))
@[go_sem] def x_halls_isDay_25 : List XO := [
  ⟨(some 4), none, .mv (.c (.bool true))⟩]
def x_halls_isDay : XFunc := { np := 2, res := [.t 4], body :=
  (.seq (.reg x_halls_isDay_0) (.seq (.seq (.reg x_halls_isDay_1) (.cond (.t 36) (.seq (.reg x_halls_isDay_2) .ret) .skip)) (.seq (.seq (.reg x_halls_isDay_3) (.block 0 (.loop x_halls_isDay_L16))) (.seq (.seq (.reg x_halls_isDay_17) (.block 4 (.loop x_halls_isDay_L24))) (.seq (.reg x_halls_isDay_25) .ret))))) }

/- newel/halls.isComb boxF [2, 33, 6] frz [] -/
@[go_sem] def x_halls_isComb_0 : List XO := [
  ⟨(some 2), none, .boxF (.t 0)⟩,
  ⟨(some 4), none, .mv (.c (.bool false))⟩]
@[go_sem] def x_halls_isComb_1 : List XO := [
  ⟨(some 6), none, .fldA 0 (.tf 2)⟩,
  ⟨(some 7), none, .load false 1 (.tf 6)⟩,
  ⟨(some 8), none, .mv (.t 1)⟩,
  ⟨(some 9), none, .ixA 5 (.t 7) (.t 8)⟩,
  ⟨(some 10), none, .load true 5 (.t 9)⟩,
  ⟨(some 5), none, .alloc [(.int .i64 0), (.int .i64 0), (.int .i64 0), (.int .i64 0), (.int .i64 0)]⟩,
  ⟨none, none, .store 5 (.t 5) (.t 10)⟩]
@[go_sem] def x_halls_isComb_2 : List XO := [
  ⟨(some 11), none, .fldA 0 (.t 5)⟩,
  ⟨(some 12), none, .load false 1 (.t 11)⟩,
  ⟨(some 13), none, .build [(.int .i64 0), (.int .i64 0)] [(1, 1, (.c (.int .i64 1000)))]⟩,
  ⟨(some 14), none, .call "newel/halls.in" [(.t 12), (.t 13)]⟩,
  ⟨(some 15), none, .mv (.t 14)⟩,
  ⟨(some 16), (some (15, true)), .fldA 1 (.t 5)⟩,
  ⟨(some 17), (some (15, true)), .load false 1 (.t 16)⟩,
  ⟨(some 18), (some (15, true)), .build [(.int .i64 0), (.int .i64 0)] [(1, 1, (.c (.int .i64 100000)))]⟩,
  ⟨(some 19), (some (15, true)), .call "newel/halls.in" [(.t 17), (.t 18)]⟩,
  ⟨(some 20), none, .pick (.t 15) (.t 19) (.c (.bool false))⟩,
  ⟨(some 21), none, .mv (.t 20)⟩,
  ⟨(some 22), (some (21, true)), .fldA 2 (.t 5)⟩,
  ⟨(some 23), (some (21, true)), .load false 1 (.t 22)⟩,
  ⟨(some 24), (some (21, true)), .bin .eql .no (.t 23) (.c (.int .i64 (-1)))⟩,
  ⟨(some 25), (some (21, true)), .mv (.t 24)⟩,
  ⟨(some 26), (some (25, false)), .fldA 2 (.t 5)⟩,
  ⟨(some 27), (some (25, false)), .load false 1 (.t 26)⟩,
  ⟨(some 28), (some (25, false)), .mv (.t 1)⟩,
  ⟨(some 29), (some (25, false)), .bin .gtr .no (.t 27) (.t 28)⟩,
  ⟨(some 30), (some (25, false)), .mv (.t 29)⟩,
  ⟨(some 31), (some (30, true)), .fldA 2 (.t 5)⟩,
  ⟨(some 32), (some (30, true)), .load false 1 (.t 31)⟩,
  ⟨(some 33), (some (30, true)), .fldA 0 (.tf 2)⟩,
  ⟨(some 34), (some (30, true)), .load false 1 (.tf 33)⟩,
  ⟨(some 35), (some (30, true)), .len false (.t 34)⟩,
  ⟨(some 36), (some (30, true)), .bin .lss .no (.t 32) (.t 35)⟩,
  ⟨(some 37), (some (25, false)), .pick (.t 30) (.t 36) (.c (.bool false))⟩,
  ⟨(some 38), (some (21, true)), .pick (.t 25) (.c (.bool true)) (.t 37)⟩,
  ⟨(some 39), none, .pick (.t 21) (.t 38) (.c (.bool false))⟩,
  ⟨(some 40), none, .mv (.t 39)⟩,
  ⟨(some 41), (some (40, true)), .fldA 3 (.t 5)⟩,
  ⟨(some 42), (some (40, true)), .load true 2 (.t 41)⟩,
  ⟨(some 43), (some (40, true)), .call "newel/halls.span" [(.t 42), (.c (.int .i64 1)), (.c (.int .i64 20))]⟩,
  ⟨(some 44), none, .pick (.t 40) (.t 43) (.c (.bool false))⟩,
  ⟨(some 4), none, .mv (.t 44)⟩]
def x_halls_isComb : XFunc := { np := 2, res := [.t 4], body :=
  (.seq (.reg x_halls_isComb_0) (.seq (.reg x_halls_isComb_1) (.seq (.reg x_halls_isComb_2) .ret))) }

/- slices.ContainsFunc[[]newel/api.Train,newel/api.Train] boxF [] frz [] -/
@[go_sem] def x_slices_ContainsFunc___api_Train_api_Train__0 : List XO := [
  ⟨(some 4), none, .mv (.c (.bool false))⟩]
@[go_sem] def x_slices_ContainsFunc___api_Train_api_Train__1 : List XO := [
  ⟨(some 5), none, .mv (.t 0)⟩,
  ⟨(some 6), none, .mv (.t 1)⟩,
  ⟨(some 7), none, .call "slices.IndexFunc[[]newel/api.Train,newel/api.Train]" [(.t 5), (.t 6)]⟩,
  ⟨(some 8), none, .bin .geq .no (.t 7) (.c (.int .i64 0))⟩,
  ⟨(some 4), none, .mv (.t 8)⟩]
def x_slices_ContainsFunc___api_Train_api_Train_ : XFunc := { np := 2, res := [.t 4], body :=
  (.seq (.reg x_slices_ContainsFunc___api_Train_api_Train__0) (.seq (.reg x_slices_ContainsFunc___api_Train_api_Train__1) .ret)) }

/- newel/halls.Check$1 boxF [2] frz [] -/
@[go_sem] def x_halls_CheckD1_0 : List XO := [
  ⟨(some 2), none, .boxF (.t 0)⟩,
  ⟨(some 3), none, .mv (.c (.bool false))⟩]
@[go_sem] def x_halls_CheckD1_1 : List XO := [
  ⟨(some 4), none, .load true 4 (.t 1)⟩,
  ⟨(some 5), none, .load true 3 (.tf 2)⟩,
  ⟨(some 6), none, .call "newel/halls.isTrain" [(.t 4), (.t 5)]⟩,
  ⟨(some 7), none, .un .not (.t 6)⟩,
  ⟨(some 3), none, .mv (.t 7)⟩]
def x_halls_CheckD1 : XFunc := { np := 2, res := [.t 3], body :=
  (.seq (.reg x_halls_CheckD1_0) (.seq (.reg x_halls_CheckD1_1) .ret)) }

/- newel/halls.isTrain boxF [3, 43, 36, 8, 2, 38, 22] frz [] -/
@[go_sem] def x_halls_isTrain_0 : List XO := [
  ⟨(some 2), none, .boxF (.t 0)⟩,
  ⟨(some 3), none, .boxF (.t 1)⟩,
  ⟨(some 4), none, .mv (.c (.bool false))⟩]
@[go_sem] def x_halls_isTrain_1 : List XO := [
  ⟨(some 5), none, .mv (.c (.int .i64 (-1)))⟩]
@[go_sem] def x_halls_isTrain_2 : List XO := [
  ⟨(some 8), none, .fldA 2 (.tf 3)⟩,
  ⟨(some 9), none, .load false 1 (.tf 8)⟩,
  ⟨(some 10), none, .len false (.t 9)⟩,
  ⟨(some 11), none, .mv (.c (.int .i64 0))⟩]
@[go_sem] def x_halls_isTrain_3 : List XO := [
  ⟨(some 12), none, .bin .lss .no (.t 11) (.t 10)⟩]
@[go_sem] def x_halls_isTrain_4 : List XO := [
  ⟨(some 13), none, .ixA 3 (.t 9) (.t 11)⟩,
  ⟨(some 14), none, .load true 3 (.t 13)⟩,
  ⟨(some 7), none, .alloc [(.int .i64 0), (.int .i64 0), (.int .i64 0)]⟩,
  ⟨none, none, .store 3 (.t 7) (.t 14)⟩]
@[go_sem] def x_halls_isTrain_5 : List XO := [
  ⟨(some 15), none, .fldA 0 (.t 7)⟩,
  ⟨(some 16), none, .load false 1 (.t 15)⟩,
  ⟨(some 17), none, .mv (.t 5)⟩,
  ⟨(some 18), none, .bin .leq .no (.t 16) (.t 17)⟩,
  ⟨(some 19), none, .mv (.t 18)⟩,
  ⟨(some 20), (some (19, false)), .fldA 0 (.t 7)⟩,
  ⟨(some 21), (some (19, false)), .load false 1 (.t 20)⟩,
  ⟨(some 22), (some (19, false)), .fldA 0 (.tf 2)⟩,
  ⟨(some 23), (some (19, false)), .load false 1 (.tf 22)⟩,
  ⟨(some 24), (some (19, false)), .len false (.t 23)⟩,
  ⟨(some 25), (some (19, false)), .bin .geq .no (.t 21) (.t 24)⟩,
  ⟨(some 26), none, .pick (.t 19) (.c (.bool true)) (.t 25)⟩,
  ⟨(some 27), none, .mv (.t 26)⟩,
  ⟨(some 28), (some (27, false)), .fldA 1 (.t 7)⟩,
  ⟨(some 29), (some (27, false)), .load true 2 (.t 28)⟩,
  ⟨(some 30), (some (27, false)), .call "newel/halls.span" [(.t 29), (.c (.int .i64 0)), (.c (.int .i64 1000))]⟩,
  ⟨(some 31), (some (27, false)), .un .not (.t 30)⟩,
  ⟨(some 32), none, .pick (.t 27) (.c (.bool true)) (.t 31)⟩]
@[go_sem] def x_halls_isTrain_6 : List XO := [
  ⟨(some 4), none, .mv (.c (.bool false))⟩]
@[go_sem] def x_halls_isTrain_7 : List XO := [
  ⟨(some 33), none, .fldA 0 (.t 7)⟩,
  ⟨(some 34), none, .load false 1 (.t 33)⟩,
  ⟨(some 5), none, .mv (.t 34)⟩]
@[go_sem] def x_halls_isTrain_8 : List XO := [
  ⟨(some 35), none, .bin .add .no (.t 11) (.c (.int .i64 1))⟩,
  ⟨(some 11), none, .mv (.t 35)⟩]
def x_halls_isTrain_L9 : XCode :=
  (.seq (.reg x_halls_isTrain_3) (.seq (.cond (.t 12) .skip (.exit 0)) (.seq (.block 1 (.seq (.reg x_halls_isTrain_4) (.seq (.seq (.reg x_halls_isTrain_5) (.cond (.t 32) (.seq (.reg x_halls_isTrain_6) .ret) .skip)) (.reg x_halls_isTrain_7)))) (.reg x_halls_isTrain_8))))
@[go_sem] def x_halls_isTrain_10 : List XO := [
  ⟨(some 36), none, .fldA 0 (.tf 3)⟩,
  ⟨(some 37), none, .load true 2 (.tf 36)⟩,
  ⟨(some 38), none, .fldA 3 (.tf 2)⟩,
  ⟨(some 39), none, .load false 1 (.tf 38)⟩,
  ⟨(some 40), none, .bin .sub .no (.t 39) (.c (.int .i64 1))⟩,
  ⟨(some 41), none, .call "newel/halls.span" [(.t 37), (.c (.int .i64 0)), (.t 40)]⟩,
  ⟨(some 42), none, .mv (.t 41)⟩,
  ⟨(some 43), (some (42, true)), .fldA 2 (.tf 3)⟩,
  ⟨(some 44), (some (42, true)), .load false 1 (.tf 43)⟩,
  ⟨(some 45), (some (42, true)), .len false (.t 44)⟩,
  ⟨(some 46), (some (42, true)), .bin .leq .no (.t 45) (.c (.int .i64 4))⟩,
  ⟨(some 47), none, .pick (.t 42) (.t 46) (.c (.bool false))⟩,
  ⟨(some 4), none, .mv (.t 47)⟩]
def x_halls_isTrain : XFunc := { np := 2, res := [.t 4], body :=
  (.seq (.reg x_halls_isTrain_0) (.seq (.reg x_halls_isTrain_1) (.seq (.seq (.reg x_halls_isTrain_2) (.block 0 (.loop x_halls_isTrain_L9))) (.seq (.reg x_halls_isTrain_10) .ret)))) }

/- newel/halls.in boxF [3, 11, 5] frz [] -/
@[go_sem] def x_halls_in_0 : List XO := [
  ⟨(some 3), none, .boxF (.t 1)⟩,
  ⟨(some 4), none, .mv (.c (.bool false))⟩]
@[go_sem] def x_halls_in_1 : List XO := [
  ⟨(some 5), none, .fldA 0 (.tf 3)⟩,
  ⟨(some 6), none, .load false 1 (.tf 5)⟩,
  ⟨(some 7), none, .mv (.t 0)⟩,
  ⟨(some 8), none, .bin .leq .no (.t 6) (.t 7)⟩,
  ⟨(some 9), none, .mv (.t 8)⟩,
  ⟨(some 10), (some (9, true)), .mv (.t 0)⟩,
  ⟨(some 11), (some (9, true)), .fldA 1 (.tf 3)⟩,
  ⟨(some 12), (some (9, true)), .load false 1 (.tf 11)⟩,
  ⟨(some 13), (some (9, true)), .bin .leq .no (.t 10) (.t 12)⟩,
  ⟨(some 14), none, .pick (.t 9) (.t 13) (.c (.bool false))⟩,
  ⟨(some 4), none, .mv (.t 14)⟩]
def x_halls_in : XFunc := { np := 2, res := [.t 4], body :=
  (.seq (.reg x_halls_in_0) (.seq (.reg x_halls_in_1) .ret)) }

/- slices.ContainsFunc[[]int,int] boxF [] frz [] -/
@[go_sem] def x_slices_ContainsFunc___int_int__0 : List XO := [
  ⟨(some 4), none, .mv (.c (.bool false))⟩]
@[go_sem] def x_slices_ContainsFunc___int_int__1 : List XO := [
  ⟨(some 5), none, .mv (.t 0)⟩,
  ⟨(some 6), none, .mv (.t 1)⟩,
  ⟨(some 7), none, .call "slices.IndexFunc[[]int,int]" [(.t 5), (.t 6)]⟩,
  ⟨(some 8), none, .bin .geq .no (.t 7) (.c (.int .i64 0))⟩,
  ⟨(some 4), none, .mv (.t 8)⟩]
def x_slices_ContainsFunc___int_int_ : XFunc := { np := 2, res := [.t 4], body :=
  (.seq (.reg x_slices_ContainsFunc___int_int__0) (.seq (.reg x_slices_ContainsFunc___int_int__1) .ret)) }

/- newel/halls.check$1 boxF [] frz [] -/
@[go_sem] def x_halls_checkD1_0 : List XO := [
  ⟨(some 3), none, .mv (.c (.bool false))⟩]
@[go_sem] def x_halls_checkD1_1 : List XO := [
  ⟨(some 4), none, .mv (.t 0)⟩,
  ⟨(some 5), none, .bin .lss .no (.t 4) (.c (.int .i64 0))⟩,
  ⟨(some 6), none, .mv (.t 5)⟩,
  ⟨(some 7), (some (6, false)), .mv (.t 0)⟩,
  ⟨(some 8), (some (6, false)), .fldA 3 (.t 1)⟩,
  ⟨(some 9), (some (6, false)), .load false 1 (.t 8)⟩,
  ⟨(some 10), (some (6, false)), .bin .geq .no (.t 7) (.t 9)⟩,
  ⟨(some 11), none, .pick (.t 6) (.c (.bool true)) (.t 10)⟩,
  ⟨(some 3), none, .mv (.t 11)⟩]
def x_halls_checkD1 : XFunc := { np := 2, res := [.t 3], body :=
  (.seq (.reg x_halls_checkD1_0) (.seq (.reg x_halls_checkD1_1) .ret)) }

/- slices.IndexFunc[[]int,int] boxF [] frz [] -/
@[go_sem] def x_slices_IndexFunc___int_int__0 : List XO := [
  ⟨(some 4), none, .mv (.c (.int .i64 0))⟩]
@[go_sem] def x_slices_IndexFunc___int_int__1 : List XO := [
  ⟨(some 6), none, .mv (.t 0)⟩,
  ⟨(some 7), none, .len false (.t 6)⟩,
  ⟨(some 8), none, .mv (.c (.int .i64 0))⟩]
@[go_sem] def x_slices_IndexFunc___int_int__2 : List XO := [
  ⟨(some 9), none, .bin .lss .no (.t 8) (.t 7)⟩]
@[go_sem] def x_slices_IndexFunc___int_int__3 : List XO := [
  ⟨(some 10), none, .mv (.t 8)⟩,
  ⟨(some 5), none, .mv (.t 10)⟩]
@[go_sem] def x_slices_IndexFunc___int_int__4 : List XO := [
  ⟨(some 11), none, .mv (.t 1)⟩,
  ⟨(some 12), none, .mv (.t 0)⟩,
  ⟨(some 13), none, .mv (.t 5)⟩,
  ⟨(some 14), none, .ixA 1 (.t 12) (.t 13)⟩,
  ⟨(some 15), none, .load false 1 (.t 14)⟩,
  ⟨(some 16), none, .callv (.t 11) [(.t 15)]⟩]
@[go_sem] def x_slices_IndexFunc___int_int__5 : List XO := [
  ⟨(some 17), none, .mv (.t 5)⟩,
  ⟨(some 4), none, .mv (.t 17)⟩]
@[go_sem] def x_slices_IndexFunc___int_int__6 : List XO := [
  ⟨(some 18), none, .bin .add .no (.t 8) (.c (.int .i64 1))⟩,
  ⟨(some 8), none, .mv (.t 18)⟩]
def x_slices_IndexFunc___int_int__L7 : XCode :=
  (.seq (.reg x_slices_IndexFunc___int_int__2) (.seq (.cond (.t 9) .skip (.exit 0)) (.seq (.block 1 (.seq (.reg x_slices_IndexFunc___int_int__3) (.seq (.reg x_slices_IndexFunc___int_int__4) (.cond (.t 16) (.seq (.reg x_slices_IndexFunc___int_int__5) .ret) .skip)))) (.reg x_slices_IndexFunc___int_int__6))))
@[go_sem] def x_slices_IndexFunc___int_int__8 : List XO := [
  ⟨(some 4), none, .mv (.c (.int .i64 (-1)))⟩]
def x_slices_IndexFunc___int_int_ : XFunc := { np := 2, res := [.t 4], body :=
  (.seq (.reg x_slices_IndexFunc___int_int__0) (.seq (.seq (.reg x_slices_IndexFunc___int_int__1) (.block 0 (.loop x_slices_IndexFunc___int_int__L7))) (.seq (.reg x_slices_IndexFunc___int_int__8) .ret))) }

/- newel/halls.over$1 boxF [] frz [] -/
@[go_sem] def x_halls_overD1_0 : List XO := [
  ⟨(some 4), none, .mv (.c (.bool false))⟩]
@[go_sem] def x_halls_overD1_1 : List XO := [
  ⟨(some 5), none, .mv (.t 0)⟩,
  ⟨(some 6), none, .fldA 0 (.t 1)⟩,
  ⟨(some 7), none, .load false 1 (.t 6)⟩,
  ⟨(some 8), none, .load false 1 (.t 2)⟩,
  ⟨(some 9), none, .ixA 5 (.t 7) (.t 8)⟩,
  ⟨(some 10), none, .fldA 1 (.t 9)⟩,
  ⟨(some 11), none, .load false 1 (.t 10)⟩,
  ⟨(some 12), none, .bin .gtr .no (.t 5) (.t 11)⟩,
  ⟨(some 4), none, .mv (.t 12)⟩]
def x_halls_overD1 : XFunc := { np := 3, res := [.t 4], body :=
  (.seq (.reg x_halls_overD1_0) (.seq (.reg x_halls_overD1_1) .ret)) }

/- newel/halls.brought boxF [4, 13] frz [] -/
@[go_sem] def x_halls_brought_0 : List XO := [
  ⟨(some 4), none, .boxF (.t 0)⟩,
  ⟨(some 8), none, .mv (.c (.int .i64 0))⟩]
@[go_sem] def x_halls_brought_1 : List XO := [
  ⟨(some 13), none, .fldA 1 (.tf 4)⟩,
  ⟨(some 14), none, .load false 1 (.tf 13)⟩,
  ⟨(some 15), none, .len false (.t 14)⟩,
  ⟨(some 16), none, .mv (.c (.int .i64 0))⟩]
@[go_sem] def x_halls_brought_2 : List XO := [
  ⟨(some 17), none, .bin .lss .no (.t 16) (.t 15)⟩]
@[go_sem] def x_halls_brought_3 : List XO := [
  ⟨(some 18), none, .ixA 3 (.t 14) (.t 16)⟩,
  ⟨(some 19), none, .load true 3 (.t 18)⟩,
  ⟨(some 10), none, .alloc [(.int .i64 0), (.int .i64 0), (.slice none 0 0)]⟩,
  ⟨none, none, .store 3 (.t 10) (.t 19)⟩]
@[go_sem] def x_halls_brought_4 : List XO := [
  ⟨(some 20), none, .fldA 0 (.t 10)⟩,
  ⟨(some 21), none, .fldA 1 (.t 20)⟩,
  ⟨(some 22), none, .load false 1 (.t 21)⟩,
  ⟨(some 23), none, .mv (.t 2)⟩,
  ⟨(some 24), none, .bin .lss .no (.t 22) (.t 23)⟩,
  ⟨(some 25), none, .mv (.t 24)⟩,
  ⟨(some 26), (some (25, false)), .fldA 0 (.t 10)⟩,
  ⟨(some 27), (some (25, false)), .fldA 0 (.t 26)⟩,
  ⟨(some 28), (some (25, false)), .load false 1 (.t 27)⟩,
  ⟨(some 29), (some (25, false)), .mv (.t 3)⟩,
  ⟨(some 30), (some (25, false)), .bin .gtr .no (.t 28) (.t 29)⟩,
  ⟨(some 31), none, .pick (.t 25) (.c (.bool true)) (.t 30)⟩]
@[go_sem] def x_halls_brought_5 : List XO := [
  ⟨(some 32), none, .fldA 2 (.t 10)⟩,
  ⟨(some 33), none, .load false 1 (.t 32)⟩,
  ⟨(some 34), none, .len false (.t 33)⟩,
  ⟨(some 35), none, .mv (.c (.int .i64 0))⟩]
@[go_sem] def x_halls_brought_6 : List XO := [
  ⟨(some 36), none, .bin .lss .no (.t 35) (.t 34)⟩]
@[go_sem] def x_halls_brought_7 : List XO := [
  ⟨(some 37), none, .ixA 3 (.t 33) (.t 35)⟩,
  ⟨(some 38), none, .load true 3 (.t 37)⟩,
  ⟨(some 12), none, .alloc [(.int .i64 0), (.int .i64 0), (.int .i64 0)]⟩,
  ⟨none, none, .store 3 (.t 12) (.t 38)⟩]
@[go_sem] def x_halls_brought_8 : List XO := [
  ⟨(some 39), none, .fldA 0 (.t 12)⟩,
  ⟨(some 40), none, .load false 1 (.t 39)⟩,
  ⟨(some 41), none, .mv (.t 1)⟩,
  ⟨(some 42), none, .bin .eql .no (.t 40) (.t 41)⟩]
@[go_sem] def x_halls_brought_9 : List XO := [
  ⟨(some 43), none, .mv (.t 8)⟩,
  ⟨(some 44), none, .fldA 1 (.t 12)⟩,
  ⟨(some 45), none, .fldA 1 (.t 44)⟩,
  ⟨(some 46), none, .load false 1 (.t 45)⟩,
  ⟨(some 47), none, .bin .add .no (.t 43) (.t 46)⟩,
  ⟨(some 8), none, .mv (.t 47)⟩]
@[go_sem] def x_halls_brought_10 : List XO := [
  ⟨(some 48), none, .bin .add .no (.t 35) (.c (.int .i64 1))⟩,
  ⟨(some 35), none, .mv (.t 48)⟩]
def x_halls_brought_L11 : XCode :=
  (.seq (.reg x_halls_brought_6) (.seq (.cond (.t 36) .skip (.exit 2)) (.seq (.block 3 (.seq (.reg x_halls_brought_7) (.seq (.reg x_halls_brought_8) (.cond (.t 42) (.reg x_halls_brought_9) .skip)))) (.reg x_halls_brought_10))))
@[go_sem] def x_halls_brought_12 : List XO := [
  ⟨(some 49), none, .bin .add .no (.t 16) (.c (.int .i64 1))⟩,
  ⟨(some 16), none, .mv (.t 49)⟩]
def x_halls_brought_L13 : XCode :=
  (.seq (.reg x_halls_brought_2) (.seq (.cond (.t 17) .skip (.exit 0)) (.seq (.block 1 (.seq (.reg x_halls_brought_3) (.seq (.seq (.reg x_halls_brought_4) (.cond (.t 31) (.exit 1) .skip)) (.seq (.reg x_halls_brought_5) (.block 2 (.loop x_halls_brought_L11)))))) (.reg x_halls_brought_12))))
@[go_sem] def x_halls_brought_14 : List XO := [
  ⟨(some 50), none, .mv (.t 8)⟩,
  ⟨(some 8), none, .mv (.t 50)⟩]
def x_halls_brought : XFunc := { np := 4, res := [.t 8], body :=
  (.seq (.reg x_halls_brought_0) (.seq (.seq (.reg x_halls_brought_1) (.block 0 (.loop x_halls_brought_L13))) (.seq (.reg x_halls_brought_14) .ret))) }

/- (*newel/halls.bound).passes boxF [] frz [] -/
@[go_sem] def x___halls_bound__passes_0 : List XO := [
  ⟨(some 6), none, .mv (.c (.int .i64 0))⟩]
@[go_sem] def x___halls_bound__passes_1 : List XO := [
  ⟨(some 10), none, .mv (.t 2)⟩,
  ⟨(some 11), none, .mv (.t 1)⟩,
  ⟨(some 12), none, .bin .lss .no (.t 10) (.t 11)⟩,
  ⟨(some 13), none, .mv (.t 12)⟩,
  ⟨(some 14), (some (13, false)), .mv (.t 2)⟩,
  ⟨(some 15), (some (13, false)), .bin .lss .no (.t 14) (.c (.int .i64 0))⟩,
  ⟨(some 16), none, .pick (.t 13) (.c (.bool true)) (.t 15)⟩]
@[go_sem] def x___halls_bound__passes_2 : List XO := [
  ⟨(some 6), none, .mv (.c (.int .i64 0))⟩]
@[go_sem] def x___halls_bound__passes_3 : List XO := [
  ⟨(some 17), none, .mv (.t 1)⟩,
  ⟨(some 18), none, .max [(.t 17), (.c (.int .i64 0))]⟩,
  ⟨(some 1), none, .mv (.t 18)⟩]
@[go_sem] def x___halls_bound__passes_4 : List XO := [
  ⟨(some 19), none, .mv (.t 0)⟩,
  ⟨(some 20), none, .nilck (.t 19)⟩,
  ⟨(some 21), none, .fldA 3 (.t 20)⟩,
  ⟨(some 22), none, .load false 1 (.t 21)⟩,
  ⟨(some 23), none, .ixA 1 (.t 22) (.c (.int .i64 0))⟩,
  ⟨(some 24), none, .load false 1 (.t 23)⟩,
  ⟨(some 25), none, .mv (.t 2)⟩,
  ⟨(some 26), none, .ixA 1 (.t 24) (.t 25)⟩,
  ⟨(some 27), none, .load false 1 (.t 26)⟩,
  ⟨(some 28), none, .mv (.t 0)⟩,
  ⟨(some 29), none, .nilck (.t 28)⟩,
  ⟨(some 30), none, .fldA 1 (.t 29)⟩,
  ⟨(some 31), none, .load false 1 (.t 30)⟩,
  ⟨(some 32), none, .mv (.t 2)⟩,
  ⟨(some 33), none, .bin .add .no (.t 32) (.c (.int .i64 1))⟩,
  ⟨(some 34), none, .ixA 1 (.t 31) (.t 33)⟩,
  ⟨(some 35), none, .load false 1 (.t 34)⟩,
  ⟨(some 36), none, .mv (.t 0)⟩,
  ⟨(some 37), none, .nilck (.t 36)⟩,
  ⟨(some 38), none, .fldA 1 (.t 37)⟩,
  ⟨(some 39), none, .load false 1 (.t 38)⟩,
  ⟨(some 40), none, .mv (.t 1)⟩,
  ⟨(some 41), none, .ixA 1 (.t 39) (.t 40)⟩,
  ⟨(some 42), none, .load false 1 (.t 41)⟩,
  ⟨(some 43), none, .bin .sub .no (.t 35) (.t 42)⟩,
  ⟨(some 44), none, .min [(.t 27), (.t 43)]⟩,
  ⟨(some 7), none, .mv (.t 44)⟩]
@[go_sem] def x___halls_bound__passes_5 : List XO := [
  ⟨(some 45), none, .mv (.t 1)⟩,
  ⟨(some 8), none, .mv (.t 45)⟩]
@[go_sem] def x___halls_bound__passes_6 : List XO := [
  ⟨(some 46), none, .mv (.t 8)⟩,
  ⟨(some 47), none, .mv (.t 2)⟩,
  ⟨(some 48), none, .bin .leq .no (.t 46) (.t 47)⟩]
@[go_sem] def x___halls_bound__passes_7 : List XO := [
  ⟨(some 9), none, .mv (.c (.int .i64 0))⟩]
@[go_sem] def x___halls_bound__passes_8 : List XO := [
  ⟨(some 51), none, .mv (.t 8)⟩,
  ⟨(some 52), none, .mv (.t 2)⟩,
  ⟨(some 53), none, .bin .lss .no (.t 51) (.t 52)⟩]
@[go_sem] def x___halls_bound__passes_9 : List XO := [
  ⟨(some 54), none, .mv (.t 0)⟩,
  ⟨(some 55), none, .nilck (.t 54)⟩,
  ⟨(some 56), none, .fldA 3 (.t 55)⟩,
  ⟨(some 57), none, .load false 1 (.t 56)⟩,
  ⟨(some 58), none, .mv (.t 8)⟩,
  ⟨(some 59), none, .bin .add .no (.t 58) (.c (.int .i64 1))⟩,
  ⟨(some 60), none, .ixA 1 (.t 57) (.t 59)⟩,
  ⟨(some 61), none, .load false 1 (.t 60)⟩,
  ⟨(some 62), none, .mv (.t 2)⟩,
  ⟨(some 63), none, .ixA 1 (.t 61) (.t 62)⟩,
  ⟨(some 64), none, .load false 1 (.t 63)⟩,
  ⟨(some 9), none, .mv (.t 64)⟩]
@[go_sem] def x___halls_bound__passes_10 : List XO := [
  ⟨(some 65), none, .mv (.t 7)⟩,
  ⟨(some 66), none, .mv (.t 0)⟩,
  ⟨(some 67), none, .nilck (.t 66)⟩,
  ⟨(some 68), none, .fldA 1 (.t 67)⟩,
  ⟨(some 69), none, .load false 1 (.t 68)⟩,
  ⟨(some 70), none, .mv (.t 8)⟩,
  ⟨(some 71), none, .ixA 1 (.t 69) (.t 70)⟩,
  ⟨(some 72), none, .load false 1 (.t 71)⟩,
  ⟨(some 73), none, .mv (.t 0)⟩,
  ⟨(some 74), none, .nilck (.t 73)⟩,
  ⟨(some 75), none, .fldA 1 (.t 74)⟩,
  ⟨(some 76), none, .load false 1 (.t 75)⟩,
  ⟨(some 77), none, .mv (.t 1)⟩,
  ⟨(some 78), none, .ixA 1 (.t 76) (.t 77)⟩,
  ⟨(some 79), none, .load false 1 (.t 78)⟩,
  ⟨(some 80), none, .bin .sub .no (.t 72) (.t 79)⟩,
  ⟨(some 81), none, .mv (.t 0)⟩,
  ⟨(some 82), none, .nilck (.t 81)⟩,
  ⟨(some 83), none, .fldA 2 (.t 82)⟩,
  ⟨(some 84), none, .load false 1 (.t 83)⟩,
  ⟨(some 85), none, .mv (.t 8)⟩,
  ⟨(some 86), none, .ixA 1 (.t 84) (.t 85)⟩,
  ⟨(some 87), none, .load false 1 (.t 86)⟩,
  ⟨(some 88), none, .bin .add .no (.t 80) (.t 87)⟩,
  ⟨(some 89), none, .mv (.t 9)⟩,
  ⟨(some 90), none, .bin .add .no (.t 88) (.t 89)⟩,
  ⟨(some 91), none, .min [(.t 65), (.t 90)]⟩,
  ⟨(some 7), none, .mv (.t 91)⟩]
@[go_sem] def x___halls_bound__passes_11 : List XO := [
  ⟨(some 49), none, .mv (.t 8)⟩,
  ⟨(some 50), none, .bin .add .no (.t 49) (.c (.int .i64 1))⟩,
  ⟨(some 8), none, .mv (.t 50)⟩]
def x___halls_bound__passes_L12 : XCode :=
  (.seq (.seq (.reg x___halls_bound__passes_6) (.cond (.t 48) .skip (.exit 0))) (.seq (.block 1 (.seq (.reg x___halls_bound__passes_7) (.seq (.seq (.reg x___halls_bound__passes_8) (.cond (.t 53) (.reg x___halls_bound__passes_9) .skip)) (.reg x___halls_bound__passes_10)))) (.reg x___halls_bound__passes_11)))
@[go_sem] def x___halls_bound__passes_13 : List XO := [
  ⟨(some 92), none, .mv (.t 7)⟩,
  ⟨(some 6), none, .mv (.t 92)⟩]
def x___halls_bound__passes : XFunc := { np := 3, res := [.t 6], body :=
  (.seq (.reg x___halls_bound__passes_0) (.seq (.seq (.reg x___halls_bound__passes_1) (.cond (.t 16) (.seq (.reg x___halls_bound__passes_2) .ret) .skip)) (.seq (.reg x___halls_bound__passes_3) (.seq (.reg x___halls_bound__passes_4) (.seq (.seq (.reg x___halls_bound__passes_5) (.block 0 (.loop x___halls_bound__passes_L12))) (.seq (.reg x___halls_bound__passes_13) .ret)))))) }

/- newel/halls.isDay$1 boxF [] frz [] -/
@[go_sem] def x_halls_isDayD1_0 : List XO := [
  ⟨(some 3), none, .mv (.c (.bool false))⟩]
@[go_sem] def x_halls_isDayD1_1 : List XO := [
  ⟨(some 4), none, .mv (.t 0)⟩,
  ⟨(some 5), none, .fldA 3 (.t 1)⟩,
  ⟨(some 6), none, .load true 2 (.t 5)⟩,
  ⟨(some 7), none, .call "newel/halls.in" [(.t 4), (.t 6)]⟩,
  ⟨(some 8), none, .un .not (.t 7)⟩,
  ⟨(some 3), none, .mv (.t 8)⟩]
def x_halls_isDayD1 : XFunc := { np := 2, res := [.t 3], body :=
  (.seq (.reg x_halls_isDayD1_0) (.seq (.reg x_halls_isDayD1_1) .ret)) }

/- newel/halls.span boxF [3, 19, 14, 12, 8] frz [] -/
@[go_sem] def x_halls_span_0 : List XO := [
  ⟨(some 3), none, .boxF (.t 0)⟩,
  ⟨(some 6), none, .mv (.c (.bool false))⟩]
@[go_sem] def x_halls_span_1 : List XO := [
  ⟨(some 7), none, .mv (.t 1)⟩,
  ⟨(some 8), none, .fldA 0 (.tf 3)⟩,
  ⟨(some 9), none, .load false 1 (.tf 8)⟩,
  ⟨(some 10), none, .bin .leq .no (.t 7) (.t 9)⟩,
  ⟨(some 11), none, .mv (.t 10)⟩,
  ⟨(some 12), (some (11, true)), .fldA 0 (.tf 3)⟩,
  ⟨(some 13), (some (11, true)), .load false 1 (.tf 12)⟩,
  ⟨(some 14), (some (11, true)), .fldA 1 (.tf 3)⟩,
  ⟨(some 15), (some (11, true)), .load false 1 (.tf 14)⟩,
  ⟨(some 16), (some (11, true)), .bin .leq .no (.t 13) (.t 15)⟩,
  ⟨(some 17), none, .pick (.t 11) (.t 16) (.c (.bool false))⟩,
  ⟨(some 18), none, .mv (.t 17)⟩,
  ⟨(some 19), (some (18, true)), .fldA 1 (.tf 3)⟩,
  ⟨(some 20), (some (18, true)), .load false 1 (.tf 19)⟩,
  ⟨(some 21), (some (18, true)), .mv (.t 2)⟩,
  ⟨(some 22), (some (18, true)), .bin .leq .no (.t 20) (.t 21)⟩,
  ⟨(some 23), none, .pick (.t 18) (.t 22) (.c (.bool false))⟩,
  ⟨(some 6), none, .mv (.t 23)⟩]
def x_halls_span : XFunc := { np := 3, res := [.t 6], body :=
  (.seq (.reg x_halls_span_0) (.seq (.reg x_halls_span_1) .ret)) }

/- slices.IndexFunc[[]newel/api.Train,newel/api.Train] boxF [] frz [] -/
@[go_sem] def x_slices_IndexFunc___api_Train_api_Train__0 : List XO := [
  ⟨(some 4), none, .mv (.c (.int .i64 0))⟩]
@[go_sem] def x_slices_IndexFunc___api_Train_api_Train__1 : List XO := [
  ⟨(some 6), none, .mv (.t 0)⟩,
  ⟨(some 7), none, .len false (.t 6)⟩,
  ⟨(some 8), none, .mv (.c (.int .i64 0))⟩]
@[go_sem] def x_slices_IndexFunc___api_Train_api_Train__2 : List XO := [
  ⟨(some 9), none, .bin .lss .no (.t 8) (.t 7)⟩]
@[go_sem] def x_slices_IndexFunc___api_Train_api_Train__3 : List XO := [
  ⟨(some 10), none, .mv (.t 8)⟩,
  ⟨(some 5), none, .mv (.t 10)⟩]
@[go_sem] def x_slices_IndexFunc___api_Train_api_Train__4 : List XO := [
  ⟨(some 11), none, .mv (.t 1)⟩,
  ⟨(some 12), none, .mv (.t 0)⟩,
  ⟨(some 13), none, .mv (.t 5)⟩,
  ⟨(some 14), none, .ixA 3 (.t 12) (.t 13)⟩,
  ⟨(some 15), none, .load true 3 (.t 14)⟩,
  ⟨(some 16), none, .callv (.t 11) [(.t 15)]⟩]
@[go_sem] def x_slices_IndexFunc___api_Train_api_Train__5 : List XO := [
  ⟨(some 17), none, .mv (.t 5)⟩,
  ⟨(some 4), none, .mv (.t 17)⟩]
@[go_sem] def x_slices_IndexFunc___api_Train_api_Train__6 : List XO := [
  ⟨(some 18), none, .bin .add .no (.t 8) (.c (.int .i64 1))⟩,
  ⟨(some 8), none, .mv (.t 18)⟩]
def x_slices_IndexFunc___api_Train_api_Train__L7 : XCode :=
  (.seq (.reg x_slices_IndexFunc___api_Train_api_Train__2) (.seq (.cond (.t 9) .skip (.exit 0)) (.seq (.block 1 (.seq (.reg x_slices_IndexFunc___api_Train_api_Train__3) (.seq (.reg x_slices_IndexFunc___api_Train_api_Train__4) (.cond (.t 16) (.seq (.reg x_slices_IndexFunc___api_Train_api_Train__5) .ret) .skip)))) (.reg x_slices_IndexFunc___api_Train_api_Train__6))))
@[go_sem] def x_slices_IndexFunc___api_Train_api_Train__8 : List XO := [
  ⟨(some 4), none, .mv (.c (.int .i64 (-1)))⟩]
def x_slices_IndexFunc___api_Train_api_Train_ : XFunc := { np := 2, res := [.t 4], body :=
  (.seq (.reg x_slices_IndexFunc___api_Train_api_Train__0) (.seq (.seq (.reg x_slices_IndexFunc___api_Train_api_Train__1) (.block 0 (.loop x_slices_IndexFunc___api_Train_api_Train__L7))) (.seq (.reg x_slices_IndexFunc___api_Train_api_Train__8) .ret))) }

end Go.Nw.Halls
