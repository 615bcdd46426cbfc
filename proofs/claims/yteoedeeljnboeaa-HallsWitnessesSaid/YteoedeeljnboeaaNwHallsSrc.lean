/- The functions of a seat, as the abstract machine has them. -/
import Derived.Test.YteoedeeljnboeaaNwI
set_option linter.all false
set_option linter.unusedVariables false
set_option linter.unusedSimpArgs false
set_option linter.unusedSectionVars false
namespace Go.Nw.Halls
@[go_sem] def l5x : List XO := [
⟨some 3,none,.boxF (.t 0)⟩,
⟨some 6,none,.mv (.c (.bool false))⟩]
@[go_sem] def l5y : List XO := [
⟨some 11,none,.load true 4 (.tf 3)⟩,
⟨some 12,none,.call "newel/newellaw06.Far" [.t 11]⟩]
@[go_sem] def l5z : List XO := [
⟨some 13,none,.call "newel/newellaw06.works" []⟩,
⟨some 6,none,.mv (.t 13)⟩]
@[go_sem] def l50 : List XO := [
⟨some 15,none,.load true 4 (.tf 3)⟩,
⟨some 16,none,.mv (.t 1)⟩,
⟨some 17,none,.mv (.t 2)⟩,
⟨some 18,none,.call "newel/halls.Witness" [.t 15, .t 16, .t 17]⟩,
⟨some 14,none,.mv (.t 18)⟩,
⟨some 19,none,.ext (.t 14) 0⟩,
⟨some 20,none,.ext (.t 14) 1⟩,
⟨some 7,none,.alloc [(.slice none 0 0), (.slice none 0 0), (.slice none 0 0)]⟩,
⟨none, none, .store 3 (.t 7) (.t 19)⟩,
⟨some 8,none,.mv (.t 20)⟩]
@[go_sem] def l51 : List XO := [
⟨some 22,none,.load true 4 (.tf 3)⟩,
⟨some 23,none,.mv (.t 1)⟩,
⟨some 24,none,.mv (.t 2)⟩,
⟨some 25,none,.call "newel/newelref06.Witness" [.t 22, .t 23, .t 24]⟩,
⟨some 21,none,.mv (.t 25)⟩,
⟨some 26,none,.ext (.t 21) 0⟩,
⟨some 27,none,.ext (.t 21) 1⟩,
⟨some 9,none,.alloc [(.slice none 0 0), (.slice none 0 0), (.slice none 0 0)]⟩,
⟨none, none, .store 3 (.t 9) (.t 26)⟩,
⟨some 10,none,.mv (.t 27)⟩]
@[go_sem] def l52 : List XO := [
⟨some 28,none,.mv (.t 8)⟩,
⟨some 29,none,.mv (.t 10)⟩,
⟨some 30,none,.bin .eql .no (.t 28) (.t 29)⟩,
⟨some 31,none,.mv (.t 30)⟩,
⟨(some 32), (some (31, true)), .load true 3 (.t 7)⟩,
⟨(some 33), (some (31, true)), .load true 3 (.t 9)⟩,
⟨(some 34), (some (31, true)), .call "newel/newellaw06.sameDays" [.t 32, .t 33]⟩,
⟨some 35,none,.pick (.t 31) (.t 34) (.c (.bool false))⟩,
⟨some 36,none,.mv (.t 35)⟩,
⟨(some 37), (some (36, true)), .call "newel/newellaw06.works" []⟩,
⟨some 38,none,.pick (.t 36) (.t 37) (.c (.bool false))⟩,
⟨some 6,none,.mv (.t 38)⟩]
def x_l06_HallsWitnesses : XFunc := { np := 3, res := [.t 6], body :=
  (.seq (.reg l5x) (.seq (.seq (.reg l5y) (.cond (.t 12) (.seq (.reg l5z) .ret) .skip)) (.seq (.reg l50) (.seq (.reg l51) (.seq (.reg l52) .ret))))) }
@[go_sem] def l5o : List XO := [
⟨some 1,none,.boxF (.t 0)⟩,
⟨some 2,none,.mv (.c (.bool false))⟩]
@[go_sem] def l5p : List XO := [
⟨some 4,none,.fldA 0 (.tf 1)⟩,
⟨some 5,none,.load false 1 (.tf 4)⟩,
⟨some 6,none,.len false (.t 5)⟩,
⟨some 7,none,.bin .gtr .no (.t 6) (.c (.int .i64 12))⟩,
⟨some 8,none,.mv (.t 7)⟩,
⟨(some 9), (some (8, false)), .fldA 1 (.tf 1)⟩,
⟨(some 10), (some (8, false)), .load false 1 (.tf 9)⟩,
⟨(some 11), (some (8, false)), .len false (.t 10)⟩,
⟨(some 12), (some (8, false)), .bin .gtr .no (.t 11) (.c (.int .i64 20))⟩,
⟨some 13,none,.pick (.t 8) (.c (.bool true)) (.t 12)⟩,
⟨some 14,none,.mv (.t 13)⟩,
⟨(some 15), (some (14, false)), .fldA 2 (.tf 1)⟩,
⟨(some 16), (some (14, false)), .load false 1 (.tf 15)⟩,
⟨(some 17), (some (14, false)), .len false (.t 16)⟩,
⟨(some 18), (some (14, false)), .bin .gtr .no (.t 17) (.c (.int .i64 40))⟩,
⟨some 19,none,.pick (.t 14) (.c (.bool true)) (.t 18)⟩,
⟨some 20,none,.mv (.t 19)⟩,
⟨(some 21), (some (20, false)), .fldA 3 (.tf 1)⟩,
⟨(some 22), (some (20, false)), .load false 1 (.tf 21)⟩,
⟨(some 23), (some (20, false)), .bin .gtr .no (.t 22) (.c (.int .i64 40))⟩,
⟨(some 24), (some (20, false)), .mv (.t 23)⟩,
⟨(some 25), (some (24, true)), .fldA 3 (.tf 1)⟩,
⟨(some 26), (some (24, true)), .load false 1 (.tf 25)⟩,
⟨(some 27), (some (24, true)), .bin .leq .no (.t 26) (.c (.int .i64 100))⟩,
⟨(some 28), (some (20, false)), .pick (.t 24) (.t 27) (.c (.bool false))⟩,
⟨some 29,none,.pick (.t 20) (.c (.bool true)) (.t 28)⟩]
@[go_sem] def l5q : List XO := [
⟨some 2,none,.mv (.c (.bool true))⟩]
@[go_sem] def l5r : List XO := [
⟨some 3,none,.mv (.c (.int .i64 0))⟩]
@[go_sem] def l5s : List XO := [
⟨some 30,none,.mv (.t 3)⟩,
⟨some 31,none,.fldA 1 (.tf 1)⟩,
⟨some 32,none,.load false 1 (.tf 31)⟩,
⟨some 33,none,.len false (.t 32)⟩,
⟨some 34,none,.bin .lss .no (.t 30) (.t 33)⟩]
@[go_sem] def l5t : List XO := [
⟨some 37,none,.fldA 1 (.tf 1)⟩,
⟨some 38,none,.load false 1 (.tf 37)⟩,
⟨some 39,none,.mv (.t 3)⟩,
⟨some 40,none,.ixA 3 (.t 38) (.t 39)⟩,
⟨some 41,none,.fldA 2 (.t 40)⟩,
⟨some 42,none,.load false 1 (.t 41)⟩,
⟨some 43,none,.len false (.t 42)⟩,
⟨some 44,none,.bin .gtr .no (.t 43) (.c (.int .i64 10))⟩]
@[go_sem] def l5u : List XO := [
⟨some 2,none,.mv (.c (.bool true))⟩]
@[go_sem] def l5v : List XO := [
⟨some 35,none,.mv (.t 3)⟩,
⟨some 36,none,.bin .add .no (.t 35) (.c (.int .i64 1))⟩,
⟨some 3,none,.mv (.t 36)⟩]
def g02 : XCode :=
  (.seq (.seq (.reg l5s) (.cond (.t 34) .skip (.exit 0))) (.seq (.block 1 (.seq (.reg l5t) (.cond (.t 44) (.seq (.reg l5u) .ret) .skip))) (.reg l5v)))
@[go_sem] def l5w : List XO := [
⟨some 2,none,.mv (.c (.bool false))⟩]
def x_l06_Far : XFunc := { np := 1, res := [.t 2], body :=
  (.seq (.reg l5o) (.seq (.seq (.reg l5p) (.cond (.t 29) (.seq (.reg l5q) .ret) .skip)) (.seq (.seq (.reg l5r) (.block 0 (.loop g02))) (.seq (.reg l5w) .ret)))) }
@[go_sem] def l8c : List XO := [
⟨some 1,none,.boxF (.t 0)⟩,
⟨some 2,none,.mv (.c (.int .i64 0))⟩]
@[go_sem] def l8d : List XO := [
⟨some 12,none,.fldA 3 (.tf 1)⟩,
⟨some 13,none,.load false 1 (.tf 12)⟩,
⟨some 14,none,.call "newel/newelref06.within" [.t 13, (.c (.int .i64 1)), (.c (.int .i64 100))]⟩,
⟨some 15,none,.un .not (.t 14)⟩,
⟨some 16,none,.mv (.t 15)⟩,
⟨(some 17), (some (16, false)), .fldA 0 (.tf 1)⟩,
⟨(some 18), (some (16, false)), .load false 1 (.tf 17)⟩,
⟨(some 19), (some (16, false)), .len false (.t 18)⟩,
⟨(some 20), (some (16, false)), .call "newel/newelref06.within" [.t 19, (.c (.int .i64 1)), (.c (.int .i64 8))]⟩,
⟨(some 21), (some (16, false)), .un .not (.t 20)⟩,
⟨some 22,none,.pick (.t 16) (.c (.bool true)) (.t 21)⟩,
⟨some 23,none,.mv (.t 22)⟩,
⟨(some 24), (some (23, false)), .fldA 1 (.tf 1)⟩,
⟨(some 25), (some (23, false)), .load false 1 (.tf 24)⟩,
⟨(some 26), (some (23, false)), .len false (.t 25)⟩,
⟨(some 27), (some (23, false)), .bin .gtr .no (.t 26) (.c (.int .i64 12))⟩,
⟨some 28,none,.pick (.t 23) (.c (.bool true)) (.t 27)⟩,
⟨some 29,none,.mv (.t 28)⟩,
⟨(some 30), (some (29, false)), .fldA 2 (.tf 1)⟩,
⟨(some 31), (some (29, false)), .load false 1 (.tf 30)⟩,
⟨(some 32), (some (29, false)), .len false (.t 31)⟩,
⟨(some 33), (some (29, false)), .bin .gtr .no (.t 32) (.c (.int .i64 20))⟩,
⟨some 34,none,.pick (.t 29) (.c (.bool true)) (.t 33)⟩]
@[go_sem] def l8n : List XO := [
⟨some 2,none,.mv (.c (.int .i64 60))⟩]
@[go_sem] def l8w : List XO := [
⟨some 35,none,.fldA 0 (.tf 1)⟩,
⟨some 36,none,.load false 1 (.tf 35)⟩,
⟨some 37,none,.len false (.t 36)⟩,
⟨some 3,none,.mv (.t 37)⟩]
@[go_sem] def l80 : List XO := [
⟨some 4,none,.mv (.c (.int .i64 0))⟩]
@[go_sem] def l81 : List XO := [
⟨some 38,none,.mv (.t 4)⟩,
⟨some 39,none,.mv (.t 3)⟩,
⟨some 40,none,.bin .lss .no (.t 38) (.t 39)⟩]
@[go_sem] def l82 : List XO := [
⟨some 43,none,.fldA 0 (.tf 1)⟩,
⟨some 44,none,.load false 1 (.tf 43)⟩,
⟨some 45,none,.mv (.t 4)⟩,
⟨some 46,none,.ixA 5 (.t 44) (.t 45)⟩,
⟨some 47,none,.load true 5 (.t 46)⟩,
⟨some 5,none,.alloc [(.int .i64 0), (.int .i64 0), (.int .i64 0), (.int .i64 0), (.int .i64 0)]⟩,
⟨none, none, .store 5 (.t 5) (.t 47)⟩]
@[go_sem] def l83 : List XO := [
⟨some 48,none,.fldA 0 (.t 5)⟩,
⟨some 49,none,.load false 1 (.t 48)⟩,
⟨some 50,none,.call "newel/newelref06.within" [.t 49, (.c (.int .i64 0)), (.c (.int .i64 1000))]⟩,
⟨some 51,none,.un .not (.t 50)⟩,
⟨some 52,none,.mv (.t 51)⟩,
⟨(some 53), (some (52, false)), .fldA 1 (.t 5)⟩,
⟨(some 54), (some (52, false)), .load false 1 (.t 53)⟩,
⟨(some 55), (some (52, false)), .call "newel/newelref06.within" [.t 54, (.c (.int .i64 0)), (.c (.int .i64 100000))]⟩,
⟨(some 56), (some (52, false)), .un .not (.t 55)⟩,
⟨some 57,none,.pick (.t 52) (.c (.bool true)) (.t 56)⟩,
⟨some 58,none,.mv (.t 57)⟩,
⟨(some 59), (some (58, false)), .fldA 2 (.t 5)⟩,
⟨(some 60), (some (58, false)), .load false 1 (.t 59)⟩,
⟨(some 61), (some (58, false)), .bin .neq .no (.t 60) (.c (.int .i64 (-1)))⟩,
⟨(some 62), (some (58, false)), .mv (.t 61)⟩,
⟨(some 63), (some (62, true)), .fldA 2 (.t 5)⟩,
⟨(some 64), (some (62, true)), .load false 1 (.t 63)⟩,
⟨(some 65), (some (62, true)), .mv (.t 4)⟩,
⟨(some 66), (some (62, true)), .bin .add .no (.t 65) (.c (.int .i64 1))⟩,
⟨(some 67), (some (62, true)), .mv (.t 3)⟩,
⟨(some 68), (some (62, true)), .bin .sub .no (.t 67) (.c (.int .i64 1))⟩,
⟨(some 69), (some (62, true)), .call "newel/newelref06.within" [.t 64, .t 66, .t 68]⟩,
⟨(some 70), (some (62, true)), .un .not (.t 69)⟩,
⟨(some 71), (some (58, false)), .pick (.t 62) (.t 70) (.c (.bool false))⟩,
⟨some 72,none,.pick (.t 58) (.c (.bool true)) (.t 71)⟩,
⟨some 73,none,.mv (.t 72)⟩,
⟨(some 74), (some (73, false)), .fldA 3 (.t 5)⟩,
⟨(some 75), (some (73, false)), .load true 2 (.t 74)⟩,
⟨(some 76), (some (73, false)), .call "newel/newelref06.spanned" [.t 75, (.c (.int .i64 1)), (.c (.int .i64 20))]⟩,
⟨(some 77), (some (73, false)), .un .not (.t 76)⟩,
⟨some 78,none,.pick (.t 73) (.c (.bool true)) (.t 77)⟩]
@[go_sem] def l84 : List XO := [
⟨some 2,none,.mv (.c (.int .i64 60))⟩]
@[go_sem] def l85 : List XO := [
⟨some 41,none,.mv (.t 4)⟩,
⟨some 42,none,.bin .add .no (.t 41) (.c (.int .i64 1))⟩,
⟨some 4,none,.mv (.t 42)⟩]
def g1f : XCode :=
  (.seq (.seq (.reg l81) (.cond (.t 40) .skip (.exit 0))) (.seq (.block 1 (.seq (.reg l82) (.seq (.reg l83) (.cond (.t 78) (.seq (.reg l84) .ret) .skip)))) (.reg l85)))
@[go_sem] def l8e : List XO := [
⟨some 6,none,.mv (.c (.int .i64 0))⟩]
@[go_sem] def l8f : List XO := [
⟨some 79,none,.mv (.t 6)⟩,
⟨some 80,none,.fldA 1 (.tf 1)⟩,
⟨some 81,none,.load false 1 (.tf 80)⟩,
⟨some 82,none,.len false (.t 81)⟩,
⟨some 83,none,.bin .lss .no (.t 79) (.t 82)⟩]
@[go_sem] def l8g : List XO := [
⟨some 86,none,.fldA 1 (.tf 1)⟩,
⟨some 87,none,.load false 1 (.tf 86)⟩,
⟨some 88,none,.mv (.t 6)⟩,
⟨some 89,none,.ixA 3 (.t 87) (.t 88)⟩,
⟨some 90,none,.load true 3 (.t 89)⟩,
⟨some 7,none,.alloc [(.int .i64 0), (.int .i64 0), (.slice none 0 0)]⟩,
⟨none, none, .store 3 (.t 7) (.t 90)⟩]
@[go_sem] def l8h : List XO := [
⟨some 91,none,.fldA 0 (.t 7)⟩,
⟨some 92,none,.load true 2 (.t 91)⟩,
⟨some 93,none,.fldA 3 (.tf 1)⟩,
⟨some 94,none,.load false 1 (.tf 93)⟩,
⟨some 95,none,.bin .sub .no (.t 94) (.c (.int .i64 1))⟩,
⟨some 96,none,.call "newel/newelref06.spanned" [.t 92, (.c (.int .i64 0)), .t 95]⟩,
⟨some 97,none,.un .not (.t 96)⟩,
⟨some 98,none,.mv (.t 97)⟩,
⟨(some 99), (some (98, false)), .fldA 2 (.t 7)⟩,
⟨(some 100), (some (98, false)), .load false 1 (.t 99)⟩,
⟨(some 101), (some (98, false)), .len false (.t 100)⟩,
⟨(some 102), (some (98, false)), .bin .gtr .no (.t 101) (.c (.int .i64 4))⟩,
⟨some 103,none,.pick (.t 98) (.c (.bool true)) (.t 102)⟩]
@[go_sem] def l8i : List XO := [
⟨some 2,none,.mv (.c (.int .i64 60))⟩]
@[go_sem] def l8j : List XO := [
⟨some 8,none,.mv (.c (.int .i64 (-1)))⟩]
@[go_sem] def l8k : List XO := [
⟨some 9,none,.mv (.c (.int .i64 0))⟩]
@[go_sem] def l8l : List XO := [
⟨some 104,none,.mv (.t 9)⟩,
⟨some 105,none,.fldA 2 (.t 7)⟩,
⟨some 106,none,.load false 1 (.t 105)⟩,
⟨some 107,none,.len false (.t 106)⟩,
⟨some 108,none,.bin .lss .no (.t 104) (.t 107)⟩]
@[go_sem] def l8m : List XO := [
⟨some 111,none,.fldA 2 (.t 7)⟩,
⟨some 112,none,.load false 1 (.t 111)⟩,
⟨some 113,none,.mv (.t 9)⟩,
⟨some 114,none,.ixA 3 (.t 112) (.t 113)⟩,
⟨some 115,none,.fldA 0 (.t 114)⟩,
⟨some 116,none,.load false 1 (.t 115)⟩,
⟨some 117,none,.mv (.t 8)⟩,
⟨some 118,none,.bin .add .no (.t 117) (.c (.int .i64 1))⟩,
⟨some 119,none,.mv (.t 3)⟩,
⟨some 120,none,.bin .sub .no (.t 119) (.c (.int .i64 1))⟩,
⟨some 121,none,.call "newel/newelref06.within" [.t 116, .t 118, .t 120]⟩,
⟨some 122,none,.un .not (.t 121)⟩,
⟨some 123,none,.mv (.t 122)⟩,
⟨(some 124), (some (123, false)), .fldA 2 (.t 7)⟩,
⟨(some 125), (some (123, false)), .load false 1 (.t 124)⟩,
⟨(some 126), (some (123, false)), .mv (.t 9)⟩,
⟨(some 127), (some (123, false)), .ixA 3 (.t 125) (.t 126)⟩,
⟨(some 128), (some (123, false)), .fldA 1 (.t 127)⟩,
⟨(some 129), (some (123, false)), .load true 2 (.t 128)⟩,
⟨(some 130), (some (123, false)), .call "newel/newelref06.spanned" [.t 129, (.c (.int .i64 0)), (.c (.int .i64 1000))]⟩,
⟨(some 131), (some (123, false)), .un .not (.t 130)⟩,
⟨some 132,none,.pick (.t 123) (.c (.bool true)) (.t 131)⟩]
@[go_sem] def l8o : List XO := [
⟨some 2,none,.mv (.c (.int .i64 60))⟩]
@[go_sem] def l8p : List XO := [
⟨some 133,none,.fldA 2 (.t 7)⟩,
⟨some 134,none,.load false 1 (.t 133)⟩,
⟨some 135,none,.mv (.t 9)⟩,
⟨some 136,none,.ixA 3 (.t 134) (.t 135)⟩,
⟨some 137,none,.fldA 0 (.t 136)⟩,
⟨some 138,none,.load false 1 (.t 137)⟩,
⟨some 8,none,.mv (.t 138)⟩]
@[go_sem] def l8q : List XO := [
⟨some 109,none,.mv (.t 9)⟩,
⟨some 110,none,.bin .add .no (.t 109) (.c (.int .i64 1))⟩,
⟨some 9,none,.mv (.t 110)⟩]
def g1g : XCode :=
  (.seq (.seq (.reg l8l) (.cond (.t 108) .skip (.exit 4))) (.seq (.block 5 (.seq (.seq (.reg l8m) (.cond (.t 132) (.seq (.reg l8o) .ret) .skip)) (.reg l8p))) (.reg l8q)))
@[go_sem] def l8r : List XO := [
⟨some 84,none,.mv (.t 6)⟩,
⟨some 85,none,.bin .add .no (.t 84) (.c (.int .i64 1))⟩,
⟨some 6,none,.mv (.t 85)⟩]
def g1h : XCode :=
  (.seq (.seq (.reg l8f) (.cond (.t 83) .skip (.exit 2))) (.seq (.block 3 (.seq (.reg l8g) (.seq (.seq (.reg l8h) (.cond (.t 103) (.seq (.reg l8i) .ret) .skip)) (.seq (.reg l8j) (.seq (.reg l8k) (.block 4 (.loop g1g))))))) (.reg l8r)))
@[go_sem] def l8s : List XO := [
⟨some 10,none,.mv (.c (.int .i64 0))⟩]
@[go_sem] def l8t : List XO := [
⟨some 139,none,.mv (.t 10)⟩,
⟨some 140,none,.fldA 2 (.tf 1)⟩,
⟨some 141,none,.load false 1 (.tf 140)⟩,
⟨some 142,none,.len false (.t 141)⟩,
⟨some 143,none,.bin .lss .no (.t 139) (.t 142)⟩]
@[go_sem] def l8u : List XO := [
⟨some 146,none,.fldA 2 (.tf 1)⟩,
⟨some 147,none,.load false 1 (.tf 146)⟩,
⟨some 148,none,.mv (.t 10)⟩,
⟨some 149,none,.ixA 3 (.t 147) (.t 148)⟩,
⟨some 150,none,.load true 3 (.t 149)⟩,
⟨some 11,none,.alloc [(.int .i64 0), (.int .i64 0), (.int .i64 0)]⟩,
⟨none, none, .store 3 (.t 11) (.t 150)⟩]
@[go_sem] def l8v : List XO := [
⟨some 151,none,.fldA 0 (.t 11)⟩,
⟨some 152,none,.load false 1 (.t 151)⟩,
⟨some 153,none,.fldA 3 (.tf 1)⟩,
⟨some 154,none,.load false 1 (.tf 153)⟩,
⟨some 155,none,.bin .sub .no (.t 154) (.c (.int .i64 1))⟩,
⟨some 156,none,.call "newel/newelref06.within" [.t 152, (.c (.int .i64 0)), .t 155]⟩,
⟨some 157,none,.un .not (.t 156)⟩,
⟨some 158,none,.mv (.t 157)⟩,
⟨(some 159), (some (158, false)), .fldA 1 (.t 11)⟩,
⟨(some 160), (some (158, false)), .load false 1 (.t 159)⟩,
⟨(some 161), (some (158, false)), .mv (.t 3)⟩,
⟨(some 162), (some (158, false)), .bin .sub .no (.t 161) (.c (.int .i64 1))⟩,
⟨(some 163), (some (158, false)), .call "newel/newelref06.within" [.t 160, (.c (.int .i64 0)), .t 162]⟩,
⟨(some 164), (some (158, false)), .un .not (.t 163)⟩,
⟨some 165,none,.pick (.t 158) (.c (.bool true)) (.t 164)⟩,
⟨some 166,none,.mv (.t 165)⟩,
⟨(some 167), (some (166, false)), .fldA 2 (.t 11)⟩,
⟨(some 168), (some (166, false)), .load false 1 (.t 167)⟩,
⟨(some 169), (some (166, false)), .call "newel/newelref06.within" [.t 168, (.c (.int .i64 0)), (.c (.int .i64 1000))]⟩,
⟨(some 170), (some (166, false)), .un .not (.t 169)⟩,
⟨some 171,none,.pick (.t 166) (.c (.bool true)) (.t 170)⟩,
⟨some 172,none,.mv (.t 171)⟩,
⟨(some 173), (some (172, false)), .mv (.t 10)⟩,
⟨(some 174), (some (172, false)), .bin .gtr .no (.t 173) (.c (.int .i64 0))⟩,
⟨(some 175), (some (172, false)), .mv (.t 174)⟩,
⟨(some 176), (some (175, true)), .fldA 0 (.t 11)⟩,
⟨(some 177), (some (175, true)), .load false 1 (.t 176)⟩,
⟨(some 178), (some (175, true)), .fldA 2 (.tf 1)⟩,
⟨(some 179), (some (175, true)), .load false 1 (.tf 178)⟩,
⟨(some 180), (some (175, true)), .mv (.t 10)⟩,
⟨(some 181), (some (175, true)), .bin .sub .no (.t 180) (.c (.int .i64 1))⟩,
⟨(some 182), (some (175, true)), .ixA 3 (.t 179) (.t 181)⟩,
⟨(some 183), (some (175, true)), .fldA 0 (.t 182)⟩,
⟨(some 184), (some (175, true)), .load false 1 (.t 183)⟩,
⟨(some 185), (some (175, true)), .bin .lss .no (.t 177) (.t 184)⟩,
⟨(some 186), (some (172, false)), .pick (.t 175) (.t 185) (.c (.bool false))⟩,
⟨some 187,none,.pick (.t 172) (.c (.bool true)) (.t 186)⟩]
@[go_sem] def l8x : List XO := [
⟨some 2,none,.mv (.c (.int .i64 60))⟩]
@[go_sem] def l8y : List XO := [
⟨some 144,none,.mv (.t 10)⟩,
⟨some 145,none,.bin .add .no (.t 144) (.c (.int .i64 1))⟩,
⟨some 10,none,.mv (.t 145)⟩]
def g1i : XCode :=
  (.seq (.seq (.reg l8t) (.cond (.t 143) .skip (.exit 6))) (.seq (.block 7 (.seq (.reg l8u) (.seq (.reg l8v) (.cond (.t 187) (.seq (.reg l8x) .ret) .skip)))) (.reg l8y)))
@[go_sem] def l8z : List XO := [
⟨some 2,none,.mv (.c (.int .i64 0))⟩]
def x_r06_Check : XFunc := { np := 1, res := [.t 2], body :=
  (.seq (.reg l8c) (.seq (.seq (.reg l8d) (.cond (.t 34) (.seq (.reg l8n) .ret) .skip)) (.seq (.reg l8w) (.seq (.seq (.reg l80) (.block 0 (.loop g1f))) (.seq (.seq (.reg l8e) (.block 2 (.loop g1h))) (.seq (.seq (.reg l8s) (.block 6 (.loop g1i))) (.seq (.reg l8z) .ret))))))) }
@[go_sem] def l6h : List XO := [
⟨some 0,none,.mv (.c (.bool false))⟩]
@[go_sem] def l6i : List XO := [
⟨some 6,none,.call "newel/newellaw06.Example" []⟩,
⟨some 7,none,.call "newel/halls.Guard" [.t 6, (.c (.int .i64 0)), (.c (.int .i64 5))]⟩,
⟨some 5,none,.mv (.t 7)⟩,
⟨some 8,none,.ext (.t 5) 0⟩,
⟨some 9,none,.ext (.t 5) 1⟩,
⟨some 1,none,.mv (.t 8)⟩,
⟨some 2,none,.mv (.t 9)⟩]
@[go_sem] def l6j : List XO := [
⟨some 11,none,.call "newel/newellaw06.Example" []⟩,
⟨some 12,none,.call "newel/halls.Over" [.t 11]⟩,
⟨some 10,none,.mv (.t 12)⟩,
⟨some 13,none,.ext (.t 10) 0⟩,
⟨some 14,none,.ext (.t 10) 1⟩,
⟨some 3,none,.mv (.t 13)⟩,
⟨some 4,none,.mv (.t 14)⟩]
@[go_sem] def l6k : List XO := [
⟨some 15,none,.mv (.t 2)⟩,
⟨some 16,none,.bin .eql .no (.t 15) (.c (.int .i64 0))⟩,
⟨some 17,none,.mv (.t 16)⟩,
⟨(some 18), (some (17, true)), .mv (.t 4)⟩,
⟨(some 19), (some (17, true)), .bin .eql .no (.t 18) (.c (.int .i64 0))⟩,
⟨some 20,none,.pick (.t 17) (.t 19) (.c (.bool false))⟩,
⟨some 21,none,.mv (.t 20)⟩,
⟨(some 22), (some (21, true)), .mv (.t 1)⟩,
⟨(some 23), (some (21, true)), .bin .eql .no (.t 22) (.c (.int .i64 1))⟩,
⟨some 24,none,.pick (.t 21) (.t 23) (.c (.bool false))⟩,
⟨some 25,none,.mv (.t 24)⟩,
⟨(some 26), (some (25, true)), .mv (.t 3)⟩,
⟨(some 27), (some (25, true)), .len false (.t 26)⟩,
⟨(some 28), (some (25, true)), .bin .eql .no (.t 27) (.c (.int .i64 1))⟩,
⟨some 29,none,.pick (.t 25) (.t 28) (.c (.bool false))⟩,
⟨some 30,none,.mv (.t 29)⟩,
⟨(some 31), (some (30, true)), .mv (.t 3)⟩,
⟨(some 32), (some (30, true)), .ixA 2 (.t 31) (.c (.int .i64 0))⟩,
⟨(some 33), (some (30, true)), .load true 2 (.t 32)⟩,
⟨(some 34), (some (30, true)), .build [(.int .i64 0), (.int .i64 0)] [(0, 1, (.c (.int .i64 1))), (1, 1, (.c (.int .i64 7)))]⟩,
⟨(some 35), (some (30, true)), .bin .eql (.flat [.i, .i]) (.t 33) (.t 34)⟩,
⟨some 36,none,.pick (.t 30) (.t 35) (.c (.bool false))⟩,
⟨some 0,none,.mv (.t 36)⟩]
def x_l06_works : XFunc := { np := 0, res := [.t 0], body :=
  (.seq (.reg l6h) (.seq (.reg l6i) (.seq (.reg l6j) (.seq (.reg l6k) .ret)))) }
@[go_sem] def l0j : List XO := [
⟨some 3,none,.boxF (.t 0)⟩,
⟨some 6,none,.mv (.c (.int .i64 0))⟩,
⟨some 7,none,.mv (.c (.int .i64 0))⟩]
@[go_sem] def l0k : List XO := [
⟨some 11,none,.load true 4 (.tf 3)⟩,
⟨some 12,none,.mv (.t 1)⟩,
⟨some 13,none,.mv (.t 2)⟩,
⟨some 14,none,.bsl 1 [.t 13]⟩,
⟨some 15,none,.call "newel/halls.check" [.t 11, .t 12, .t 14]⟩,
⟨some 8,none,.mv (.t 15)⟩]
@[go_sem] def l0n : List XO := [
⟨some 16,none,.mv (.t 8)⟩,
⟨some 17,none,.bin .neq .no (.t 16) (.c (.int .i64 0))⟩]
@[go_sem] def l0o : List XO := [
⟨some 18,none,.mv (.t 8)⟩,
⟨some 6,none,.mv (.c (.int .i64 0))⟩,
⟨some 7,none,.mv (.t 18)⟩]
@[go_sem] def l0p : List XO := [
⟨some 19,none,.load true 4 (.tf 3)⟩,
⟨some 20,none,.callw "newel/halls.open" [.t 19]⟩,
⟨some 9,none,.mv (.t 20)⟩]
@[go_sem] def l0q : List XO := [
⟨some 10,none,.mv (.c (.int .i64 0))⟩]
@[go_sem] def l0r : List XO := [
⟨some 23,none,.load true 4 (.tf 3)⟩,
⟨some 24,none,.load true 4 (.tf 3)⟩,
⟨some 25,none,.mv (.t 9)⟩,
⟨some 26,none,.callw "newel/halls.bounds" [.t 24, .t 25]⟩,
⟨some 27,none,.call "newel/halls.over" [.t 23, .t 26]⟩,
⟨some 28,none,.len false (.t 27)⟩,
⟨some 29,none,.bin .eql .no (.t 28) (.c (.int .i64 0))⟩]
@[go_sem] def l0s : List XO := [
⟨some 30,none,.mv (.t 10)⟩,
⟨some 6,none,.mv (.t 30)⟩,
⟨some 7,none,.mv (.c (.int .i64 0))⟩]
@[go_sem] def l0t : List XO := [
⟨some 31,none,.mv (.t 2)⟩,
⟨some 32,none,.mv (.t 10)⟩,
⟨some 33,none,.bin .add .no (.t 31) (.t 32)⟩,
⟨some 34,none,.fldA 3 (.tf 3)⟩,
⟨some 35,none,.load false 1 (.tf 34)⟩,
⟨some 36,none,.bin .eql .no (.t 33) (.t 35)⟩]
@[go_sem] def l0u : List XO := [
⟨some 6,none,.mv (.c (.int .i64 0))⟩,
⟨some 7,none,.mv (.c (.int .i64 3))⟩]
@[go_sem] def l0l : List XO := [
⟨some 37,none,.mv (.t 9)⟩,
⟨some 38,none,.mv (.t 1)⟩,
⟨some 39,none,.ixA 1 (.t 37) (.t 38)⟩,
⟨some 40,none,.load false 1 (.t 39)⟩,
⟨some 41,none,.mv (.t 2)⟩,
⟨some 42,none,.mv (.t 10)⟩,
⟨some 43,none,.bin .add .no (.t 41) (.t 42)⟩,
⟨some 44,none,.ixA 1 (.t 40) (.t 43)⟩,
⟨none, none, .store 1 (.t 44) (.c (.int .i64 0))⟩]
@[go_sem] def l0m : List XO := [
⟨some 21,none,.mv (.t 10)⟩,
⟨some 22,none,.bin .add .no (.t 21) (.c (.int .i64 1))⟩,
⟨some 10,none,.mv (.t 22)⟩]
def g0k : XCode :=
  (.seq (.block 1 (.seq (.seq (.reg l0r) (.cond (.t 29) (.seq (.reg l0s) .ret) .skip)) (.seq (.seq (.reg l0t) (.cond (.t 36) (.seq (.reg l0u) .ret) .skip)) (.reg l0l)))) (.reg l0m))
def x_halls_Guard : XFunc := { np := 3, res := [.t 6, .t 7], body :=
  (.seq (.reg l0j) (.seq (.seq (.reg l0k) (.seq (.reg l0n) (.cond (.t 17) (.seq (.reg l0o) .ret) .skip))) (.seq (.reg l0p) (.seq (.reg l0q) (.block 0 (.loop g0k)))))) }
@[go_sem] def l0v : List XO := [
⟨some 1,none,.boxF (.t 0)⟩,
⟨some 2,none,.mv (.c (.slice none 0 0))⟩,
⟨some 3,none,.mv (.c (.int .i64 0))⟩]
@[go_sem] def l0w : List XO := [
⟨some 5,none,.load true 4 (.tf 1)⟩,
⟨some 6,none,.call "newel/halls.Check" [.t 5]⟩,
⟨some 4,none,.mv (.t 6)⟩]
@[go_sem] def l0x : List XO := [
⟨some 7,none,.mv (.t 4)⟩,
⟨some 8,none,.bin .neq .no (.t 7) (.c (.int .i64 0))⟩]
@[go_sem] def l0y : List XO := [
⟨some 9,none,.mv (.t 4)⟩,
⟨some 2,none,.mv (.c (.slice none 0 0))⟩,
⟨some 3,none,.mv (.t 9)⟩]
@[go_sem] def l0z : List XO := [
⟨some 10,none,.load true 4 (.tf 1)⟩,
⟨some 11,none,.load true 4 (.tf 1)⟩,
⟨some 12,none,.load true 4 (.tf 1)⟩,
⟨some 13,none,.callw "newel/halls.open" [.t 12]⟩,
⟨some 14,none,.callw "newel/halls.bounds" [.t 11, .t 13]⟩,
⟨some 15,none,.call "newel/halls.over" [.t 10, .t 14]⟩,
⟨some 2,none,.mv (.t 15)⟩,
⟨some 3,none,.mv (.c (.int .i64 0))⟩]
def x_halls_Over : XFunc := { np := 1, res := [.t 2, .t 3], body :=
  (.seq (.reg l0v) (.seq (.seq (.reg l0w) (.seq (.reg l0x) (.cond (.t 8) (.seq (.reg l0y) .ret) .skip))) (.seq (.reg l0z) .ret))) }
@[go_sem] def l9d : List XO := [
⟨some 4,none,.mv (.c (.bool false))⟩]
@[go_sem] def l9e : List XO := [
⟨some 6,none,.mv (.t 0)⟩,
⟨some 7,none,.len false (.t 6)⟩,
⟨some 8,none,.mv (.t 1)⟩,
⟨some 9,none,.len false (.t 8)⟩,
⟨some 10,none,.bin .neq .no (.t 7) (.t 9)⟩]
@[go_sem] def l9f : List XO := [
⟨some 4,none,.mv (.c (.bool false))⟩]
@[go_sem] def l9g : List XO := [
⟨some 5,none,.mv (.c (.int .i64 0))⟩]
@[go_sem] def l9h : List XO := [
⟨some 11,none,.mv (.t 5)⟩,
⟨some 12,none,.mv (.t 0)⟩,
⟨some 13,none,.len false (.t 12)⟩,
⟨some 14,none,.bin .lss .no (.t 11) (.t 13)⟩]
@[go_sem] def l9i : List XO := [
⟨some 17,none,.mv (.t 0)⟩,
⟨some 18,none,.mv (.t 5)⟩,
⟨some 19,none,.ixA 1 (.t 17) (.t 18)⟩,
⟨some 20,none,.load false 1 (.t 19)⟩,
⟨some 21,none,.mv (.t 1)⟩,
⟨some 22,none,.mv (.t 5)⟩,
⟨some 23,none,.ixA 1 (.t 21) (.t 22)⟩,
⟨some 24,none,.load false 1 (.t 23)⟩,
⟨some 25,none,.bin .neq .no (.t 20) (.t 24)⟩]
@[go_sem] def l9j : List XO := [
⟨some 4,none,.mv (.c (.bool false))⟩]
@[go_sem] def l9k : List XO := [
⟨some 15,none,.mv (.t 5)⟩,
⟨some 16,none,.bin .add .no (.t 15) (.c (.int .i64 1))⟩,
⟨some 5,none,.mv (.t 16)⟩]
def g1k : XCode :=
  (.seq (.seq (.reg l9h) (.cond (.t 14) .skip (.exit 0))) (.seq (.block 1 (.seq (.reg l9i) (.cond (.t 25) (.seq (.reg l9j) .ret) .skip))) (.reg l9k)))
@[go_sem] def l9l : List XO := [
⟨some 4,none,.mv (.c (.bool true))⟩]
def x_r06_Same : XFunc := { np := 2, res := [.t 4], body :=
  (.seq (.reg l9d) (.seq (.seq (.reg l9e) (.cond (.t 10) (.seq (.reg l9f) .ret) .skip)) (.seq (.seq (.reg l9g) (.block 0 (.loop g1k))) (.seq (.reg l9l) .ret)))) }
@[go_sem] def l02 : List XO := [
⟨some 3,none,.boxF (.t 0)⟩,
⟨some 4,none,.boxF (.t 1)⟩,
⟨some 6,none,.alloc [(.slice none 0 0), (.slice none 0 0), (.slice none 0 0)]⟩,
⟨some 7,none,.mv (.c (.int .i64 0))⟩]
@[go_sem] def l03 : List XO := [
⟨some 22,none,.load true 4 (.tf 3)⟩,
⟨some 23,none,.load false 1 (.tf 4)⟩,
⟨some 24,none,.mv (.t 2)⟩,
⟨some 25,none,.bsl 1 [.t 24]⟩,
⟨some 26,none,.call "newel/halls.check" [.t 22, .t 23, .t 25]⟩,
⟨some 8,none,.mv (.t 26)⟩]
@[go_sem] def l1d : List XO := [
⟨some 27,none,.mv (.t 8)⟩,
⟨some 28,none,.bin .neq .no (.t 27) (.c (.int .i64 0))⟩]
@[go_sem] def l1o : List XO := [
⟨some 29,none,.build [(.slice none 0 0), (.slice none 0 0), (.slice none 0 0)] []⟩,
⟨some 30,none,.mv (.t 8)⟩,
⟨none, none, .store 3 (.t 6) (.t 29)⟩,
⟨some 7,none,.mv (.t 30)⟩]
@[go_sem] def l1x : List XO := [
⟨some 31,none,.fldA 0 (.tf 3)⟩,
⟨some 32,none,.load false 1 (.tf 31)⟩,
⟨some 33,none,.mkfn "newel/halls.Witness$1" [] [.t 4]⟩,
⟨some 34,none,.call "slices.ContainsFunc[[]newel/api.Comb,newel/api.Comb]" [.t 32, .t 33]⟩]
@[go_sem] def l11 : List XO := [
⟨some 35,none,.build [(.slice none 0 0), (.slice none 0 0), (.slice none 0 0)] []⟩,
⟨none, none, .store 3 (.t 6) (.t 35)⟩,
⟨some 7,none,.mv (.c (.int .i64 3))⟩]
@[go_sem] def l12 : List XO := [
⟨some 36,none,.load true 4 (.tf 3)⟩,
⟨some 37,none,.load true 4 (.tf 3)⟩,
⟨some 38,none,.callw "newel/halls.open" [.t 37]⟩,
⟨some 39,none,.callw "newel/halls.bounds" [.t 36, .t 38]⟩,
⟨some 40,none,.load false 1 (.tf 4)⟩,
⟨some 41,none,.ixA 1 (.t 39) (.t 40)⟩,
⟨some 42,none,.load false 1 (.t 41)⟩,
⟨some 9,none,.mv (.t 42)⟩]
@[go_sem] def l14 : List XO := [
⟨some 10,none,.mv (.c (.int .i64 0))⟩]
@[go_sem] def l15 : List XO := [
⟨some 43,none,.mv (.t 2)⟩,
⟨some 44,none,.bin .add .no (.t 43) (.c (.int .i64 1))⟩,
⟨some 45,none,.mv (.c (.int .i64 0))⟩]
@[go_sem] def l18 : List XO := [
⟨some 46,none,.bin .lss .no (.t 45) (.t 44)⟩]
@[go_sem] def l04 : List XO := [
⟨some 47,none,.mv (.t 45)⟩,
⟨some 11,none,.mv (.t 47)⟩]
@[go_sem] def l05 : List XO := [
⟨some 48,none,.mv (.t 9)⟩,
⟨some 49,none,.nilck (.t 48)⟩,
⟨some 50,none,.fldA 3 (.t 49)⟩,
⟨some 51,none,.load false 1 (.t 50)⟩,
⟨some 52,none,.mv (.t 11)⟩,
⟨some 53,none,.ixA 1 (.t 51) (.t 52)⟩,
⟨some 54,none,.load false 1 (.t 53)⟩,
⟨some 55,none,.mv (.t 2)⟩,
⟨some 56,none,.ixA 1 (.t 54) (.t 55)⟩,
⟨some 57,none,.load false 1 (.t 56)⟩,
⟨some 58,none,.mv (.t 9)⟩,
⟨some 59,none,.nilck (.t 58)⟩,
⟨some 60,none,.fldA 0 (.t 59)⟩,
⟨some 61,none,.load false 1 (.t 60)⟩,
⟨some 62,none,.mv (.t 2)⟩,
⟨some 63,none,.ixA 1 (.t 61) (.t 62)⟩,
⟨some 64,none,.load false 1 (.t 63)⟩,
⟨some 65,none,.mv (.t 9)⟩,
⟨some 66,none,.nilck (.t 65)⟩,
⟨some 67,none,.fldA 0 (.t 66)⟩,
⟨some 68,none,.load false 1 (.t 67)⟩,
⟨some 69,none,.mv (.t 11)⟩,
⟨some 70,none,.ixA 1 (.t 68) (.t 69)⟩,
⟨some 71,none,.load false 1 (.t 70)⟩,
⟨some 72,none,.bin .sub .no (.t 64) (.t 71)⟩,
⟨some 73,none,.bin .sub .no (.t 57) (.t 72)⟩,
⟨some 74,none,.mv (.t 9)⟩,
⟨some 75,none,.nilck (.t 74)⟩,
⟨some 76,none,.fldA 2 (.t 75)⟩,
⟨some 77,none,.load false 1 (.t 76)⟩,
⟨some 78,none,.mv (.t 2)⟩,
⟨some 79,none,.ixA 1 (.t 77) (.t 78)⟩,
⟨some 80,none,.load false 1 (.t 79)⟩,
⟨some 81,none,.bin .eql .no (.t 73) (.t 80)⟩]
@[go_sem] def l06 : List XO := [
⟨some 82,none,.mv (.t 11)⟩,
⟨some 10,none,.mv (.t 82)⟩]
@[go_sem] def l07 : List XO := [
⟨some 83,none,.bin .add .no (.t 45) (.c (.int .i64 1))⟩,
⟨some 45,none,.mv (.t 83)⟩]
def g0l : XCode :=
  (.seq (.reg l18) (.seq (.cond (.t 46) .skip (.exit 0)) (.seq (.block 1 (.seq (.reg l04) (.seq (.reg l05) (.cond (.t 81) (.seq (.reg l06) (.exit 0)) .skip)))) (.reg l07))))
@[go_sem] def l08 : List XO := [
⟨some 12,none,.alloc [(.slice none 0 0), (.slice none 0 0), (.slice none 0 0)]⟩]
@[go_sem] def l09 : List XO := [
⟨some 84,none,.fldA 1 (.tf 3)⟩,
⟨some 85,none,.load false 1 (.tf 84)⟩,
⟨some 86,none,.len false (.t 85)⟩,
⟨some 87,none,.mv (.c (.int .i64 0))⟩]
@[go_sem] def l1a : List XO := [
⟨some 88,none,.bin .lss .no (.t 87) (.t 86)⟩]
@[go_sem] def l1b : List XO := [
⟨some 89,none,.ixA 3 (.t 85) (.t 87)⟩,
⟨some 90,none,.load true 3 (.t 89)⟩,
⟨some 14,none,.alloc [(.int .i64 0), (.int .i64 0), (.slice none 0 0)]⟩,
⟨none, none, .store 3 (.t 14) (.t 90)⟩]
@[go_sem] def l1c : List XO := [
⟨some 91,none,.fldA 0 (.t 14)⟩,
⟨some 92,none,.fldA 1 (.t 91)⟩,
⟨some 93,none,.load false 1 (.t 92)⟩,
⟨some 94,none,.mv (.t 10)⟩,
⟨some 95,none,.bin .geq .no (.t 93) (.t 94)⟩,
⟨some 96,none,.mv (.t 95)⟩,
⟨(some 97), (some (96, true)), .fldA 0 (.t 14)⟩,
⟨(some 98), (some (96, true)), .fldA 0 (.t 97)⟩,
⟨(some 99), (some (96, true)), .load false 1 (.t 98)⟩,
⟨(some 100), (some (96, true)), .mv (.t 2)⟩,
⟨(some 101), (some (96, true)), .bin .leq .no (.t 99) (.t 100)⟩,
⟨some 102,none,.pick (.t 96) (.t 101) (.c (.bool false))⟩,
⟨some 15,none,.mv (.t 102)⟩]
@[go_sem] def l1e : List XO := [
⟨some 103,none,.fldA 0 (.t 14)⟩,
⟨some 104,none,.fldA 0 (.t 103)⟩,
⟨some 105,none,.load false 1 (.t 104)⟩,
⟨some 16,none,.mv (.t 105)⟩]
@[go_sem] def l1f : List XO := [
⟨some 106,none,.mv (.t 15)⟩]
@[go_sem] def l1g : List XO := [
⟨some 107,none,.mv (.t 16)⟩,
⟨some 108,none,.mv (.t 10)⟩,
⟨some 109,none,.max [.t 107, .t 108]⟩,
⟨some 16,none,.mv (.t 109)⟩]
@[go_sem] def l1h : List XO := [
⟨some 110,none,.fldA 2 (.t 14)⟩,
⟨some 111,none,.load false 1 (.t 110)⟩,
⟨some 112,none,.len false (.t 111)⟩,
⟨some 113,none,.mksl 1 [(.int .i64 0)] 8 (.t 112) (.t 112)⟩,
⟨some 17,none,.mv (.t 113)⟩]
@[go_sem] def l1i : List XO := [
⟨some 114,none,.fldA 2 (.t 14)⟩,
⟨some 115,none,.load false 1 (.t 114)⟩,
⟨some 116,none,.len false (.t 115)⟩,
⟨some 117,none,.mv (.c (.int .i64 0))⟩]
@[go_sem] def l1j : List XO := [
⟨some 118,none,.bin .lss .no (.t 117) (.t 116)⟩]
@[go_sem] def l1k : List XO := [
⟨some 119,none,.mv (.t 117)⟩,
⟨some 120,none,.ixA 3 (.t 115) (.t 117)⟩,
⟨some 121,none,.load true 3 (.t 120)⟩,
⟨some 19,none,.alloc [(.int .i64 0), (.int .i64 0), (.int .i64 0)]⟩,
⟨some 18,none,.mv (.t 119)⟩,
⟨none, none, .store 3 (.t 19) (.t 121)⟩]
@[go_sem] def l1l : List XO := [
⟨some 122,none,.mv (.t 17)⟩,
⟨some 123,none,.mv (.t 18)⟩,
⟨some 124,none,.fldA 1 (.t 19)⟩,
⟨some 125,none,.fldA 0 (.t 124)⟩,
⟨some 126,none,.load false 1 (.t 125)⟩,
⟨some 127,none,.ixA 1 (.t 122) (.t 123)⟩,
⟨none, none, .store 1 (.t 127) (.t 126)⟩]
@[go_sem] def l1m : List XO := [
⟨some 128,none,.mv (.t 15)⟩]
@[go_sem] def l1n : List XO := [
⟨some 129,none,.mv (.t 17)⟩,
⟨some 130,none,.mv (.t 18)⟩,
⟨some 131,none,.fldA 1 (.t 19)⟩,
⟨some 132,none,.fldA 1 (.t 131)⟩,
⟨some 133,none,.load false 1 (.t 132)⟩,
⟨some 134,none,.ixA 1 (.t 129) (.t 130)⟩,
⟨none, none, .store 1 (.t 134) (.t 133)⟩]
@[go_sem] def l1p : List XO := [
⟨some 135,none,.bin .add .no (.t 117) (.c (.int .i64 1))⟩,
⟨some 117,none,.mv (.t 135)⟩]
def g0m : XCode :=
  (.seq (.reg l1j) (.seq (.cond (.t 118) .skip (.exit 4)) (.seq (.block 5 (.seq (.reg l1k) (.seq (.reg l1l) (.seq (.reg l1m) (.cond (.t 128) (.reg l1n) .skip))))) (.reg l1p))))
@[go_sem] def l1q : List XO := [
⟨some 136,none,.fldA 0 (.t 12)⟩,
⟨some 137,none,.load false 1 (.t 136)⟩,
⟨some 138,none,.mv (.t 16)⟩,
⟨some 139,none,.bsl 1 [.t 138]⟩,
⟨some 140,none,.app 1 8 (.t 137) (.t 139)⟩,
⟨some 141,none,.fldA 0 (.t 12)⟩,
⟨none, none, .store 1 (.t 141) (.t 140)⟩]
@[go_sem] def l1r : List XO := [
⟨some 142,none,.fldA 1 (.t 12)⟩,
⟨some 143,none,.load false 1 (.t 142)⟩,
⟨some 144,none,.mv (.t 17)⟩,
⟨some 145,none,.bsl 1 [.t 144]⟩,
⟨some 146,none,.app 1 24 (.t 143) (.t 145)⟩,
⟨some 147,none,.fldA 1 (.t 12)⟩,
⟨none, none, .store 1 (.t 147) (.t 146)⟩]
@[go_sem] def l1s : List XO := [
⟨some 148,none,.bin .add .no (.t 87) (.c (.int .i64 1))⟩,
⟨some 87,none,.mv (.t 148)⟩]
def g0n : XCode :=
  (.seq (.reg l1a) (.seq (.cond (.t 88) .skip (.exit 2)) (.seq (.block 3 (.seq (.reg l1b) (.seq (.reg l1c) (.seq (.reg l1e) (.seq (.seq (.reg l1f) (.cond (.t 106) (.reg l1g) .skip)) (.seq (.reg l1h) (.seq (.seq (.reg l1i) (.block 4 (.loop g0m))) (.seq (.reg l1q) (.seq .ghost (.reg l1r)))))))))) (.reg l1s))))
@[go_sem] def l1t : List XO := [
⟨some 149,none,.fldA 0 (.tf 3)⟩,
⟨some 150,none,.load false 1 (.tf 149)⟩,
⟨some 151,none,.len false (.t 150)⟩,
⟨some 152,none,.mv (.c (.int .i64 0))⟩]
@[go_sem] def l1u : List XO := [
⟨some 153,none,.bin .lss .no (.t 152) (.t 151)⟩]
@[go_sem] def l1v : List XO := [
⟨some 154,none,.ixA 5 (.t 150) (.t 152)⟩,
⟨some 155,none,.load true 5 (.t 154)⟩,
⟨some 21,none,.alloc [(.int .i64 0), (.int .i64 0), (.int .i64 0), (.int .i64 0), (.int .i64 0)]⟩,
⟨none, none, .store 5 (.t 21) (.t 155)⟩]
@[go_sem] def l1w : List XO := [
⟨some 156,none,.fldA 2 (.t 12)⟩,
⟨some 157,none,.load false 1 (.t 156)⟩,
⟨some 158,none,.fldA 3 (.t 21)⟩,
⟨some 159,none,.fldA 0 (.t 158)⟩,
⟨some 160,none,.load false 1 (.t 159)⟩,
⟨some 161,none,.bsl 1 [.t 160]⟩,
⟨some 162,none,.bsl 1 [.t 161]⟩,
⟨some 163,none,.app 1 24 (.t 157) (.t 162)⟩,
⟨some 164,none,.fldA 2 (.t 12)⟩,
⟨none, none, .store 1 (.t 164) (.t 163)⟩]
@[go_sem] def l1y : List XO := [
⟨some 165,none,.bin .add .no (.t 152) (.c (.int .i64 1))⟩,
⟨some 152,none,.mv (.t 165)⟩]
def g0o : XCode :=
  (.seq (.reg l1u) (.seq (.cond (.t 153) .skip (.exit 6)) (.seq (.block 7 (.seq (.reg l1v) (.seq (.reg l1w) .ghost))) (.reg l1y))))
@[go_sem] def l1z : List XO := [
⟨some 166,none,.load true 3 (.t 12)⟩,
⟨none, none, .store 3 (.t 6) (.t 166)⟩,
⟨some 7,none,.mv (.c (.int .i64 0))⟩]
def x_halls_Witness : XFunc := { np := 3, res := [.cell 6 true 3, .t 7], body :=
  (.seq (.reg l02) (.seq (.seq (.reg l03) (.seq (.reg l1d) (.cond (.t 28) (.seq (.reg l1o) .ret) .skip))) (.seq (.seq (.reg l1x) (.cond (.t 34) (.seq (.reg l11) .ret) .skip)) (.seq (.reg l12) (.seq (.reg l14) (.seq (.seq (.reg l15) (.block 0 (.loop g0l))) (.seq (.reg l08) (.seq (.seq (.reg l09) (.block 2 (.loop g0n))) (.seq (.seq (.reg l1t) (.block 6 (.loop g0o))) (.seq (.reg l1z) .ret)))))))))) }
@[go_sem] def l9m : List XO := [
⟨some 3,none,.boxF (.t 0)⟩,
⟨some 6,none,.alloc [(.slice none 0 0), (.slice none 0 0), (.slice none 0 0)]⟩,
⟨some 7,none,.mv (.c (.int .i64 0))⟩]
@[go_sem] def l9n : List XO := [
⟨some 22,none,.load true 4 (.tf 3)⟩,
⟨some 23,none,.call "newel/newelref06.Check" [.t 22]⟩,
⟨some 24,none,.bin .neq .no (.t 23) (.c (.int .i64 0))⟩]
@[go_sem] def l9x : List XO := [
⟨some 25,none,.build [(.slice none 0 0), (.slice none 0 0), (.slice none 0 0)] []⟩,
⟨none, none, .store 3 (.t 6) (.t 25)⟩,
⟨some 7,none,.mv (.c (.int .i64 60))⟩]
@[go_sem] def l98 : List XO := [
⟨some 26,none,.load true 4 (.tf 3)⟩,
⟨some 27,none,.mv (.t 1)⟩,
⟨some 28,none,.call "newel/newelref06.comb" [.t 26, .t 27]⟩,
⟨some 29,none,.un .not (.t 28)⟩,
⟨some 30,none,.mv (.t 29)⟩,
⟨(some 31), (some (30, false)), .mv (.t 2)⟩,
⟨(some 32), (some (30, false)), .fldA 3 (.tf 3)⟩,
⟨(some 33), (some (30, false)), .load false 1 (.tf 32)⟩,
⟨(some 34), (some (30, false)), .bin .sub .no (.t 33) (.c (.int .i64 1))⟩,
⟨(some 35), (some (30, false)), .call "newel/newelref06.within" [.t 31, (.c (.int .i64 0)), .t 34]⟩,
⟨(some 36), (some (30, false)), .un .not (.t 35)⟩,
⟨some 37,none,.pick (.t 30) (.c (.bool true)) (.t 36)⟩]
@[go_sem] def m0h : List XO := [
⟨some 38,none,.build [(.slice none 0 0), (.slice none 0 0), (.slice none 0 0)] []⟩,
⟨none, none, .store 3 (.t 6) (.t 38)⟩,
⟨some 7,none,.mv (.c (.int .i64 1))⟩]
@[go_sem] def m0l : List XO := [
⟨some 39,none,.load true 4 (.tf 3)⟩,
⟨some 40,none,.mv (.t 1)⟩,
⟨some 41,none,.call "newel/newelref06.First" [.t 39, .t 40]⟩,
⟨some 42,none,.un .not (.t 41)⟩]
@[go_sem] def m0m : List XO := [
⟨some 43,none,.build [(.slice none 0 0), (.slice none 0 0), (.slice none 0 0)] []⟩,
⟨none, none, .store 3 (.t 6) (.t 43)⟩,
⟨some 7,none,.mv (.c (.int .i64 3))⟩]
@[go_sem] def m0n : List XO := [
⟨some 44,none,.load true 4 (.tf 3)⟩,
⟨some 45,none,.call "newel/newelref06.All" [.t 44]⟩,
⟨some 8,none,.alloc [(.slice none 0 0), (.slice none 0 0), (.slice none 0 0), (.slice none 0 0)]⟩,
⟨none, none, .store 4 (.t 8) (.t 45)⟩]
@[go_sem] def m0o : List XO := [
⟨some 46,none,.load true 4 (.tf 3)⟩,
⟨some 47,none,.mv (.t 1)⟩,
⟨some 48,none,.call "newel/newelref06.rates" [.t 46, .t 47]⟩,
⟨some 9,none,.mv (.t 48)⟩]
@[go_sem] def m0p : List XO := [
⟨some 10,none,.mv (.c (.int .i64 0))⟩,
⟨some 11,none,.mv (.c (.int .i64 0))⟩]
@[go_sem] def l9o : List XO := [
⟨some 49,none,.mv (.t 2)⟩,
⟨some 12,none,.mv (.t 49)⟩]
@[go_sem] def l9p : List XO := [
⟨some 50,none,.mv (.t 12)⟩,
⟨some 51,none,.bin .geq .no (.t 50) (.c (.int .i64 0))⟩]
@[go_sem] def l9q : List XO := [
⟨some 54,none,.fldA 2 (.t 8)⟩,
⟨some 55,none,.load false 1 (.t 54)⟩,
⟨some 56,none,.mv (.t 1)⟩,
⟨some 57,none,.ixA 1 (.t 55) (.t 56)⟩,
⟨some 58,none,.load false 1 (.t 57)⟩,
⟨some 59,none,.mv (.t 12)⟩,
⟨some 60,none,.ixA 1 (.t 58) (.t 59)⟩,
⟨some 61,none,.load false 1 (.t 60)⟩,
⟨some 62,none,.mv (.t 2)⟩,
⟨some 63,none,.ixA 1 (.t 61) (.t 62)⟩,
⟨some 64,none,.load false 1 (.t 63)⟩,
⟨some 65,none,.mv (.t 11)⟩,
⟨some 66,none,.bin .sub .no (.t 64) (.t 65)⟩,
⟨some 67,none,.fldA 0 (.t 8)⟩,
⟨some 68,none,.load false 1 (.t 67)⟩,
⟨some 69,none,.mv (.t 1)⟩,
⟨some 70,none,.ixA 1 (.t 68) (.t 69)⟩,
⟨some 71,none,.load false 1 (.t 70)⟩,
⟨some 72,none,.mv (.t 2)⟩,
⟨some 73,none,.ixA 1 (.t 71) (.t 72)⟩,
⟨some 74,none,.load false 1 (.t 73)⟩,
⟨some 75,none,.bin .eql .no (.t 66) (.t 74)⟩]
@[go_sem] def l9r : List XO := [
⟨some 76,none,.mv (.t 12)⟩,
⟨some 10,none,.mv (.t 76)⟩]
@[go_sem] def l9s : List XO := [
⟨some 77,none,.mv (.t 12)⟩,
⟨some 78,none,.bin .gtr .no (.t 77) (.c (.int .i64 0))⟩]
@[go_sem] def l9t : List XO := [
⟨some 79,none,.mv (.t 11)⟩,
⟨some 80,none,.mv (.t 9)⟩,
⟨some 81,none,.mv (.t 12)⟩,
⟨some 82,none,.bin .sub .no (.t 81) (.c (.int .i64 1))⟩,
⟨some 83,none,.ixA 1 (.t 80) (.t 82)⟩,
⟨some 84,none,.load false 1 (.t 83)⟩,
⟨some 85,none,.bin .add .no (.t 79) (.t 84)⟩,
⟨some 11,none,.mv (.t 85)⟩]
@[go_sem] def l9u : List XO := [
⟨some 52,none,.mv (.t 12)⟩,
⟨some 53,none,.bin .sub .no (.t 52) (.c (.int .i64 1))⟩,
⟨some 12,none,.mv (.t 53)⟩]
def g1l : XCode :=
  (.seq (.seq (.reg l9p) (.cond (.t 51) .skip (.exit 0))) (.seq (.block 1 (.seq (.seq (.reg l9q) (.cond (.t 75) (.reg l9r) .skip)) (.seq (.reg l9s) (.cond (.t 78) (.reg l9t) .skip)))) (.reg l9u)))
@[go_sem] def l9v : List XO := [
⟨some 13,none,.alloc [(.slice none 0 0), (.slice none 0 0), (.slice none 0 0)]⟩]
@[go_sem] def l9w : List XO := [
⟨some 14,none,.mv (.c (.int .i64 0))⟩]
@[go_sem] def l9y : List XO := [
⟨some 86,none,.mv (.t 14)⟩,
⟨some 87,none,.fldA 1 (.tf 3)⟩,
⟨some 88,none,.load false 1 (.tf 87)⟩,
⟨some 89,none,.len false (.t 88)⟩,
⟨some 90,none,.bin .lss .no (.t 86) (.t 89)⟩]
@[go_sem] def l9z : List XO := [
⟨some 93,none,.fldA 1 (.tf 3)⟩,
⟨some 94,none,.load false 1 (.tf 93)⟩,
⟨some 95,none,.mv (.t 14)⟩,
⟨some 96,none,.ixA 3 (.t 94) (.t 95)⟩,
⟨some 97,none,.load true 3 (.t 96)⟩,
⟨some 15,none,.alloc [(.int .i64 0), (.int .i64 0), (.slice none 0 0)]⟩,
⟨none, none, .store 3 (.t 15) (.t 97)⟩]
@[go_sem] def l90 : List XO := [
⟨some 98,none,.fldA 0 (.t 15)⟩,
⟨some 99,none,.fldA 0 (.t 98)⟩,
⟨some 100,none,.load false 1 (.t 99)⟩,
⟨some 101,none,.fldA 0 (.t 15)⟩,
⟨some 102,none,.fldA 0 (.t 101)⟩,
⟨some 103,none,.load false 1 (.t 102)⟩,
⟨some 104,none,.mv (.t 2)⟩,
⟨some 105,none,.bin .leq .no (.t 103) (.t 104)⟩,
⟨some 106,none,.mv (.t 105)⟩,
⟨(some 107), (some (106, true)), .fldA 0 (.t 15)⟩,
⟨(some 108), (some (106, true)), .fldA 1 (.t 107)⟩,
⟨(some 109), (some (106, true)), .load false 1 (.t 108)⟩,
⟨(some 110), (some (106, true)), .mv (.t 10)⟩,
⟨(some 111), (some (106, true)), .bin .geq .no (.t 109) (.t 110)⟩,
⟨some 112,none,.pick (.t 106) (.t 111) (.c (.bool false))⟩,
⟨some 16,none,.mv (.t 100)⟩,
⟨some 17,none,.mv (.t 112)⟩]
@[go_sem] def l91 : List XO := [
⟨some 113,none,.mv (.t 17)⟩]
@[go_sem] def l92 : List XO := [
⟨some 114,none,.mv (.t 16)⟩,
⟨some 115,none,.mv (.t 10)⟩,
⟨some 116,none,.max [.t 114, .t 115]⟩,
⟨some 16,none,.mv (.t 116)⟩]
@[go_sem] def l93 : List XO := [
⟨some 117,none,.fldA 0 (.t 13)⟩,
⟨some 118,none,.load false 1 (.t 117)⟩,
⟨some 119,none,.mv (.t 16)⟩,
⟨some 120,none,.bsl 1 [.t 119]⟩,
⟨some 121,none,.app 1 8 (.t 118) (.t 120)⟩,
⟨some 122,none,.fldA 0 (.t 13)⟩,
⟨none, none, .store 1 (.t 122) (.t 121)⟩]
@[go_sem] def l94 : List XO := [
⟨some 18,none,.mv (.c (.slice none 0 0))⟩]
@[go_sem] def l95 : List XO := [
⟨some 19,none,.mv (.c (.int .i64 0))⟩]
@[go_sem] def l96 : List XO := [
⟨some 123,none,.mv (.t 19)⟩,
⟨some 124,none,.fldA 2 (.t 15)⟩,
⟨some 125,none,.load false 1 (.t 124)⟩,
⟨some 126,none,.len false (.t 125)⟩,
⟨some 127,none,.bin .lss .no (.t 123) (.t 126)⟩]
@[go_sem] def l97 : List XO := [
⟨some 130,none,.fldA 2 (.t 15)⟩,
⟨some 131,none,.load false 1 (.t 130)⟩,
⟨some 132,none,.mv (.t 19)⟩,
⟨some 133,none,.ixA 3 (.t 131) (.t 132)⟩,
⟨some 134,none,.fldA 1 (.t 133)⟩,
⟨some 135,none,.fldA 0 (.t 134)⟩,
⟨some 136,none,.load false 1 (.t 135)⟩,
⟨some 20,none,.mv (.t 136)⟩]
@[go_sem] def l99 : List XO := [
⟨some 137,none,.mv (.t 17)⟩]
@[go_sem] def m0a : List XO := [
⟨some 138,none,.fldA 2 (.t 15)⟩,
⟨some 139,none,.load false 1 (.t 138)⟩,
⟨some 140,none,.mv (.t 19)⟩,
⟨some 141,none,.ixA 3 (.t 139) (.t 140)⟩,
⟨some 142,none,.fldA 1 (.t 141)⟩,
⟨some 143,none,.fldA 1 (.t 142)⟩,
⟨some 144,none,.load false 1 (.t 143)⟩,
⟨some 20,none,.mv (.t 144)⟩]
@[go_sem] def m0b : List XO := [
⟨some 145,none,.mv (.t 18)⟩,
⟨some 146,none,.mv (.t 20)⟩,
⟨some 147,none,.bsl 1 [.t 146]⟩,
⟨some 148,none,.app 1 8 (.t 145) (.t 147)⟩,
⟨some 18,none,.mv (.t 148)⟩]
@[go_sem] def m0c : List XO := [
⟨some 128,none,.mv (.t 19)⟩,
⟨some 129,none,.bin .add .no (.t 128) (.c (.int .i64 1))⟩,
⟨some 19,none,.mv (.t 129)⟩]
def g1m : XCode :=
  (.seq (.seq (.reg l96) (.cond (.t 127) .skip (.exit 4))) (.seq (.block 5 (.seq (.reg l97) (.seq (.seq (.reg l99) (.cond (.t 137) (.reg m0a) .skip)) (.reg m0b)))) (.reg m0c)))
@[go_sem] def m0d : List XO := [
⟨some 149,none,.fldA 1 (.t 13)⟩,
⟨some 150,none,.load false 1 (.t 149)⟩,
⟨some 151,none,.mv (.t 18)⟩,
⟨some 152,none,.bsl 1 [.t 151]⟩,
⟨some 153,none,.app 1 24 (.t 150) (.t 152)⟩,
⟨some 154,none,.fldA 1 (.t 13)⟩,
⟨none, none, .store 1 (.t 154) (.t 153)⟩]
@[go_sem] def m0e : List XO := [
⟨some 91,none,.mv (.t 14)⟩,
⟨some 92,none,.bin .add .no (.t 91) (.c (.int .i64 1))⟩,
⟨some 14,none,.mv (.t 92)⟩]
def g1n : XCode :=
  (.seq (.seq (.reg l9y) (.cond (.t 90) .skip (.exit 2))) (.seq (.block 3 (.seq (.reg l9z) (.seq (.reg l90) (.seq (.seq (.reg l91) (.cond (.t 113) (.reg l92) .skip)) (.seq (.reg l93) (.seq (.reg l94) (.seq (.seq (.reg l95) (.block 4 (.loop g1m))) (.seq .ghost (.reg m0d))))))))) (.reg m0e)))
@[go_sem] def m0f : List XO := [
⟨some 21,none,.mv (.c (.int .i64 0))⟩]
@[go_sem] def m0g : List XO := [
⟨some 155,none,.mv (.t 21)⟩,
⟨some 156,none,.fldA 0 (.tf 3)⟩,
⟨some 157,none,.load false 1 (.tf 156)⟩,
⟨some 158,none,.len false (.t 157)⟩,
⟨some 159,none,.bin .lss .no (.t 155) (.t 158)⟩]
@[go_sem] def m0i : List XO := [
⟨some 162,none,.fldA 2 (.t 13)⟩,
⟨some 163,none,.load false 1 (.t 162)⟩,
⟨some 164,none,.fldA 0 (.tf 3)⟩,
⟨some 165,none,.load false 1 (.tf 164)⟩,
⟨some 166,none,.mv (.t 21)⟩,
⟨some 167,none,.ixA 5 (.t 165) (.t 166)⟩,
⟨some 168,none,.fldA 3 (.t 167)⟩,
⟨some 169,none,.fldA 0 (.t 168)⟩,
⟨some 170,none,.load false 1 (.t 169)⟩,
⟨some 171,none,.bsl 1 [.t 170]⟩,
⟨some 172,none,.bsl 1 [.t 171]⟩,
⟨some 173,none,.app 1 24 (.t 163) (.t 172)⟩,
⟨some 174,none,.fldA 2 (.t 13)⟩,
⟨none, none, .store 1 (.t 174) (.t 173)⟩]
@[go_sem] def m0j : List XO := [
⟨some 160,none,.mv (.t 21)⟩,
⟨some 161,none,.bin .add .no (.t 160) (.c (.int .i64 1))⟩,
⟨some 21,none,.mv (.t 161)⟩]
def g1o : XCode :=
  (.seq (.seq (.reg m0g) (.cond (.t 159) .skip (.exit 6))) (.seq (.block 7 (.seq (.reg m0i) .ghost)) (.reg m0j)))
@[go_sem] def m0k : List XO := [
⟨some 175,none,.load true 3 (.t 13)⟩,
⟨none, none, .store 3 (.t 6) (.t 175)⟩,
⟨some 7,none,.mv (.c (.int .i64 0))⟩]
def x_r06_Witness : XFunc := { np := 3, res := [.cell 6 true 3, .t 7], body :=
  (.seq (.reg l9m) (.seq (.seq (.reg l9n) (.cond (.t 24) (.seq (.reg l9x) .ret) .skip)) (.seq (.seq (.reg l98) (.cond (.t 37) (.seq (.reg m0h) .ret) .skip)) (.seq (.seq (.reg m0l) (.cond (.t 42) (.seq (.reg m0m) .ret) .skip)) (.seq (.reg m0n) (.seq (.reg m0o) (.seq (.reg m0p) (.seq (.seq (.reg l9o) (.block 0 (.loop g1l))) (.seq (.reg l9v) (.seq (.seq (.reg l9w) (.block 2 (.loop g1n))) (.seq (.seq (.reg m0f) (.block 6 (.loop g1o))) (.seq (.reg m0k) .ret)))))))))))) }
@[go_sem] def l54 : List XO := [
⟨some 2,none,.boxF (.t 0)⟩,
⟨some 3,none,.boxF (.t 1)⟩,
⟨some 4,none,.mv (.c (.bool false))⟩]
@[go_sem] def l55 : List XO := [
⟨some 5,none,.fldA 0 (.tf 2)⟩,
⟨some 6,none,.load false 1 (.tf 5)⟩,
⟨some 7,none,.fldA 0 (.tf 3)⟩,
⟨some 8,none,.load false 1 (.tf 7)⟩,
⟨some 9,none,.call "newel/newelref06.Same" [.t 6, .t 8]⟩,
⟨some 10,none,.mv (.t 9)⟩,
⟨(some 11), (some (10, true)), .fldA 1 (.tf 2)⟩,
⟨(some 12), (some (10, true)), .load false 1 (.tf 11)⟩,
⟨(some 13), (some (10, true)), .fldA 1 (.tf 3)⟩,
⟨(some 14), (some (10, true)), .load false 1 (.tf 13)⟩,
⟨(some 15), (some (10, true)), .call "newel/newellaw06.sameRows" [.t 12, .t 14]⟩,
⟨some 16,none,.pick (.t 10) (.t 15) (.c (.bool false))⟩,
⟨some 17,none,.mv (.t 16)⟩,
⟨(some 18), (some (17, true)), .fldA 2 (.tf 2)⟩,
⟨(some 19), (some (17, true)), .load false 1 (.tf 18)⟩,
⟨(some 20), (some (17, true)), .fldA 2 (.tf 3)⟩,
⟨(some 21), (some (17, true)), .load false 1 (.tf 20)⟩,
⟨(some 22), (some (17, true)), .call "newel/newellaw06.sameRows" [.t 19, .t 21]⟩,
⟨some 23,none,.pick (.t 17) (.t 22) (.c (.bool false))⟩,
⟨some 4,none,.mv (.t 23)⟩]
def x_l06_sameDays : XFunc := { np := 2, res := [.t 4], body :=
  (.seq (.reg l54) (.seq (.reg l55) .ret)) }
@[go_sem] def j91 : List XO := [
⟨some 1,none,.boxF (.t 0)⟩,
⟨some 2,none,.mv (.c (.int .i64 0))⟩]
@[go_sem] def j92 : List XO := [
⟨some 6,none,.fldA 3 (.tf 1)⟩,
⟨some 7,none,.load false 1 (.tf 6)⟩,
⟨some 8,none,.bin .lss .no (.t 7) (.c (.int .i64 1))⟩,
⟨some 9,none,.mv (.t 8)⟩,
⟨(some 10), (some (9, false)), .fldA 3 (.tf 1)⟩,
⟨(some 11), (some (9, false)), .load false 1 (.tf 10)⟩,
⟨(some 12), (some (9, false)), .bin .gtr .no (.t 11) (.c (.int .i64 100))⟩,
⟨some 13,none,.pick (.t 9) (.c (.bool true)) (.t 12)⟩,
⟨some 14,none,.mv (.t 13)⟩,
⟨(some 15), (some (14, false)), .fldA 0 (.tf 1)⟩,
⟨(some 16), (some (14, false)), .load false 1 (.tf 15)⟩,
⟨(some 17), (some (14, false)), .len false (.t 16)⟩,
⟨(some 18), (some (14, false)), .bin .lss .no (.t 17) (.c (.int .i64 1))⟩,
⟨some 19,none,.pick (.t 14) (.c (.bool true)) (.t 18)⟩,
⟨some 20,none,.mv (.t 19)⟩,
⟨(some 21), (some (20, false)), .fldA 0 (.tf 1)⟩,
⟨(some 22), (some (20, false)), .load false 1 (.tf 21)⟩,
⟨(some 23), (some (20, false)), .len false (.t 22)⟩,
⟨(some 24), (some (20, false)), .bin .gtr .no (.t 23) (.c (.int .i64 8))⟩,
⟨some 25,none,.pick (.t 20) (.c (.bool true)) (.t 24)⟩,
⟨some 26,none,.mv (.t 25)⟩,
⟨(some 27), (some (26, false)), .fldA 1 (.tf 1)⟩,
⟨(some 28), (some (26, false)), .load false 1 (.tf 27)⟩,
⟨(some 29), (some (26, false)), .len false (.t 28)⟩,
⟨(some 30), (some (26, false)), .bin .gtr .no (.t 29) (.c (.int .i64 12))⟩,
⟨some 31,none,.pick (.t 26) (.c (.bool true)) (.t 30)⟩,
⟨some 32,none,.mv (.t 31)⟩,
⟨(some 33), (some (32, false)), .fldA 2 (.tf 1)⟩,
⟨(some 34), (some (32, false)), .load false 1 (.tf 33)⟩,
⟨(some 35), (some (32, false)), .len false (.t 34)⟩,
⟨(some 36), (some (32, false)), .bin .gtr .no (.t 35) (.c (.int .i64 20))⟩,
⟨some 37,none,.pick (.t 32) (.c (.bool true)) (.t 36)⟩]
@[go_sem] def l0c : List XO := [
⟨some 2,none,.mv (.c (.int .i64 60))⟩]
@[go_sem] def l0d : List XO := [
⟨some 38,none,.fldA 0 (.tf 1)⟩,
⟨some 39,none,.load false 1 (.tf 38)⟩,
⟨some 40,none,.len false (.t 39)⟩,
⟨some 41,none,.mv (.c (.int .i64 0))⟩]
@[go_sem] def l0e : List XO := [
⟨some 42,none,.bin .lss .no (.t 41) (.t 40)⟩]
@[go_sem] def l0f : List XO := [
⟨some 43,none,.mv (.t 41)⟩,
⟨some 3,none,.mv (.t 43)⟩]
@[go_sem] def l0g : List XO := [
⟨some 44,none,.load true 4 (.tf 1)⟩,
⟨some 45,none,.mv (.t 3)⟩,
⟨some 46,none,.call "newel/halls.isComb" [.t 44, .t 45]⟩,
⟨some 47,none,.un .not (.t 46)⟩]
@[go_sem] def l0h : List XO := [
⟨some 2,none,.mv (.c (.int .i64 60))⟩]
@[go_sem] def l0i : List XO := [
⟨some 48,none,.bin .add .no (.t 41) (.c (.int .i64 1))⟩,
⟨some 41,none,.mv (.t 48)⟩]
def g0j : XCode :=
  (.seq (.reg l0e) (.seq (.cond (.t 42) .skip (.exit 0)) (.seq (.block 1 (.seq (.reg l0f) (.seq (.reg l0g) (.cond (.t 47) (.seq (.reg l0h) .ret) .skip)))) (.reg l0i))))
@[go_sem] def j93 : List XO := [
⟨some 49,none,.fldA 1 (.tf 1)⟩,
⟨some 50,none,.load false 1 (.tf 49)⟩,
⟨some 51,none,.mkfn "newel/halls.Check$1" [] [.t 1]⟩,
⟨some 52,none,.call "slices.ContainsFunc[[]newel/api.Train,newel/api.Train]" [.t 50, .t 51]⟩]
@[go_sem] def j94 : List XO := [
⟨some 2,none,.mv (.c (.int .i64 60))⟩]
@[go_sem] def j95 : List XO := [
⟨some 53,none,.fldA 2 (.tf 1)⟩,
⟨some 54,none,.load false 1 (.tf 53)⟩,
⟨some 55,none,.len false (.t 54)⟩,
⟨some 56,none,.mv (.c (.int .i64 0))⟩]
@[go_sem] def j96 : List XO := [
⟨some 57,none,.bin .lss .no (.t 56) (.t 55)⟩]
@[go_sem] def j97 : List XO := [
⟨some 58,none,.mv (.t 56)⟩,
⟨some 59,none,.ixA 3 (.t 54) (.t 56)⟩,
⟨some 60,none,.load true 3 (.t 59)⟩,
⟨some 5,none,.alloc [(.int .i64 0), (.int .i64 0), (.int .i64 0)]⟩,
⟨some 4,none,.mv (.t 58)⟩,
⟨none, none, .store 3 (.t 5) (.t 60)⟩]
@[go_sem] def j98 : List XO := [
⟨some 61,none,.fldA 0 (.t 5)⟩,
⟨some 62,none,.load false 1 (.t 61)⟩,
⟨some 63,none,.bin .lss .no (.t 62) (.c (.int .i64 0))⟩,
⟨some 64,none,.mv (.t 63)⟩,
⟨(some 65), (some (64, false)), .fldA 0 (.t 5)⟩,
⟨(some 66), (some (64, false)), .load false 1 (.t 65)⟩,
⟨(some 67), (some (64, false)), .fldA 3 (.tf 1)⟩,
⟨(some 68), (some (64, false)), .load false 1 (.tf 67)⟩,
⟨(some 69), (some (64, false)), .bin .geq .no (.t 66) (.t 68)⟩,
⟨some 70,none,.pick (.t 64) (.c (.bool true)) (.t 69)⟩,
⟨some 71,none,.mv (.t 70)⟩,
⟨(some 72), (some (71, false)), .mv (.t 4)⟩,
⟨(some 73), (some (71, false)), .bin .gtr .no (.t 72) (.c (.int .i64 0))⟩,
⟨(some 74), (some (71, false)), .mv (.t 73)⟩,
⟨(some 75), (some (74, true)), .fldA 0 (.t 5)⟩,
⟨(some 76), (some (74, true)), .load false 1 (.t 75)⟩,
⟨(some 77), (some (74, true)), .fldA 2 (.tf 1)⟩,
⟨(some 78), (some (74, true)), .load false 1 (.tf 77)⟩,
⟨(some 79), (some (74, true)), .mv (.t 4)⟩,
⟨(some 80), (some (74, true)), .bin .sub .no (.t 79) (.c (.int .i64 1))⟩,
⟨(some 81), (some (74, true)), .ixA 3 (.t 78) (.t 80)⟩,
⟨(some 82), (some (74, true)), .fldA 0 (.t 81)⟩,
⟨(some 83), (some (74, true)), .load false 1 (.t 82)⟩,
⟨(some 84), (some (74, true)), .bin .lss .no (.t 76) (.t 83)⟩,
⟨(some 85), (some (71, false)), .pick (.t 74) (.t 84) (.c (.bool false))⟩,
⟨some 86,none,.pick (.t 71) (.c (.bool true)) (.t 85)⟩,
⟨some 87,none,.mv (.t 86)⟩,
⟨(some 88), (some (87, false)), .fldA 1 (.t 5)⟩,
⟨(some 89), (some (87, false)), .load false 1 (.t 88)⟩,
⟨(some 90), (some (87, false)), .bin .lss .no (.t 89) (.c (.int .i64 0))⟩,
⟨some 91,none,.pick (.t 87) (.c (.bool true)) (.t 90)⟩,
⟨some 92,none,.mv (.t 91)⟩,
⟨(some 93), (some (92, false)), .fldA 1 (.t 5)⟩,
⟨(some 94), (some (92, false)), .load false 1 (.t 93)⟩,
⟨(some 95), (some (92, false)), .fldA 0 (.tf 1)⟩,
⟨(some 96), (some (92, false)), .load false 1 (.tf 95)⟩,
⟨(some 97), (some (92, false)), .len false (.t 96)⟩,
⟨(some 98), (some (92, false)), .bin .geq .no (.t 94) (.t 97)⟩,
⟨some 99,none,.pick (.t 92) (.c (.bool true)) (.t 98)⟩,
⟨some 100,none,.mv (.t 99)⟩,
⟨(some 101), (some (100, false)), .fldA 2 (.t 5)⟩,
⟨(some 102), (some (100, false)), .load false 1 (.t 101)⟩,
⟨(some 103), (some (100, false)), .build [(.int .i64 0), (.int .i64 0)] [(1, 1, (.c (.int .i64 1000)))]⟩,
⟨(some 104), (some (100, false)), .call "newel/halls.in" [.t 102, .t 103]⟩,
⟨(some 105), (some (100, false)), .un .not (.t 104)⟩,
⟨some 106,none,.pick (.t 100) (.c (.bool true)) (.t 105)⟩]
@[go_sem] def j99 : List XO := [
⟨some 2,none,.mv (.c (.int .i64 60))⟩]
@[go_sem] def l0a : List XO := [
⟨some 107,none,.bin .add .no (.t 56) (.c (.int .i64 1))⟩,
⟨some 56,none,.mv (.t 107)⟩]
def g0i : XCode :=
  (.seq (.reg j96) (.seq (.cond (.t 57) .skip (.exit 2)) (.seq (.block 3 (.seq (.reg j97) (.seq (.reg j98) (.cond (.t 106) (.seq (.reg j99) .ret) .skip)))) (.reg l0a))))
@[go_sem] def l0b : List XO := [
⟨some 2,none,.mv (.c (.int .i64 0))⟩]
def x_halls_Check : XFunc := { np := 1, res := [.t 2], body :=
  (.seq (.reg j91) (.seq (.seq (.reg j92) (.cond (.t 37) (.seq (.reg l0c) .ret) .skip)) (.seq (.seq (.reg l0d) (.block 0 (.loop g0j))) (.seq (.seq (.reg j93) (.cond (.t 52) (.seq (.reg j94) .ret) .skip)) (.seq (.seq (.reg j95) (.block 2 (.loop g0i))) (.seq (.reg l0b) .ret)))))) }
@[go_sem] def l58 : List XO := [
⟨some 4,none,.mv (.c (.bool false))⟩]
@[go_sem] def l59 : List XO := [
⟨some 6,none,.mv (.t 0)⟩,
⟨some 7,none,.len false (.t 6)⟩,
⟨some 8,none,.mv (.t 1)⟩,
⟨some 9,none,.len false (.t 8)⟩,
⟨some 10,none,.bin .neq .no (.t 7) (.t 9)⟩]
@[go_sem] def l6a : List XO := [
⟨some 4,none,.mv (.c (.bool false))⟩]
@[go_sem] def l6b : List XO := [
⟨some 5,none,.mv (.c (.int .i64 0))⟩]
@[go_sem] def l6c : List XO := [
⟨some 11,none,.mv (.t 5)⟩,
⟨some 12,none,.mv (.t 0)⟩,
⟨some 13,none,.len false (.t 12)⟩,
⟨some 14,none,.bin .lss .no (.t 11) (.t 13)⟩]
@[go_sem] def l6d : List XO := [
⟨some 17,none,.mv (.t 0)⟩,
⟨some 18,none,.mv (.t 5)⟩,
⟨some 19,none,.ixA 1 (.t 17) (.t 18)⟩,
⟨some 20,none,.load false 1 (.t 19)⟩,
⟨some 21,none,.mv (.t 1)⟩,
⟨some 22,none,.mv (.t 5)⟩,
⟨some 23,none,.ixA 1 (.t 21) (.t 22)⟩,
⟨some 24,none,.load false 1 (.t 23)⟩,
⟨some 25,none,.call "newel/newelref06.Same" [.t 20, .t 24]⟩,
⟨some 26,none,.un .not (.t 25)⟩]
@[go_sem] def l6e : List XO := [
⟨some 4,none,.mv (.c (.bool false))⟩]
@[go_sem] def l6f : List XO := [
⟨some 15,none,.mv (.t 5)⟩,
⟨some 16,none,.bin .add .no (.t 15) (.c (.int .i64 1))⟩,
⟨some 5,none,.mv (.t 16)⟩]
def g03 : XCode :=
  (.seq (.seq (.reg l6c) (.cond (.t 14) .skip (.exit 0))) (.seq (.block 1 (.seq (.reg l6d) (.cond (.t 26) (.seq (.reg l6e) .ret) .skip))) (.reg l6f)))
@[go_sem] def l6g : List XO := [
⟨some 4,none,.mv (.c (.bool true))⟩]
def x_l06_sameRows : XFunc := { np := 2, res := [.t 4], body :=
  (.seq (.reg l58) (.seq (.seq (.reg l59) (.cond (.t 10) (.seq (.reg l6a) .ret) .skip)) (.seq (.seq (.reg l6b) (.block 0 (.loop g03))) (.seq (.reg l6g) .ret)))) }
@[go_sem] def l86 : List XO := [
⟨some 2,none,.boxF (.t 0)⟩,
⟨some 4,none,.mv (.c (.bool false))⟩]
@[go_sem] def l87 : List XO := [
⟨some 5,none,.mv (.c (.int .i64 0))⟩]
@[go_sem] def l88 : List XO := [
⟨some 6,none,.mv (.t 5)⟩,
⟨some 7,none,.fldA 0 (.tf 2)⟩,
⟨some 8,none,.load false 1 (.tf 7)⟩,
⟨some 9,none,.len false (.t 8)⟩,
⟨some 10,none,.bin .lss .no (.t 6) (.t 9)⟩]
@[go_sem] def l89 : List XO := [
⟨some 13,none,.fldA 0 (.tf 2)⟩,
⟨some 14,none,.load false 1 (.tf 13)⟩,
⟨some 15,none,.mv (.t 5)⟩,
⟨some 16,none,.ixA 5 (.t 14) (.t 15)⟩,
⟨some 17,none,.fldA 2 (.t 16)⟩,
⟨some 18,none,.load false 1 (.t 17)⟩,
⟨some 19,none,.mv (.t 1)⟩,
⟨some 20,none,.bin .eql .no (.t 18) (.t 19)⟩]
@[go_sem] def l9a : List XO := [
⟨some 4,none,.mv (.c (.bool false))⟩]
@[go_sem] def l9b : List XO := [
⟨some 11,none,.mv (.t 5)⟩,
⟨some 12,none,.bin .add .no (.t 11) (.c (.int .i64 1))⟩,
⟨some 5,none,.mv (.t 12)⟩]
def g1j : XCode :=
  (.seq (.seq (.reg l88) (.cond (.t 10) .skip (.exit 0))) (.seq (.block 1 (.seq (.reg l89) (.cond (.t 20) (.seq (.reg l9a) .ret) .skip))) (.reg l9b)))
@[go_sem] def l9c : List XO := [
⟨some 4,none,.mv (.c (.bool true))⟩]
def x_r06_First : XFunc := { np := 2, res := [.t 4], body :=
  (.seq (.reg l86) (.seq (.seq (.reg l87) (.block 0 (.loop g1j))) (.seq (.reg l9c) .ret))) }
@[go_sem] def m06 : List XO := [
⟨some 6,none,.mv (.c (.bool false))⟩]
@[go_sem] def m07 : List XO := [
⟨some 7,none,.mv (.t 0)⟩,
⟨some 8,none,.mv (.t 1)⟩,
⟨some 9,none,.bin .geq .no (.t 7) (.t 8)⟩,
⟨some 10,none,.mv (.t 9)⟩,
⟨(some 11), (some (10, true)), .mv (.t 0)⟩,
⟨(some 12), (some (10, true)), .mv (.t 2)⟩,
⟨(some 13), (some (10, true)), .bin .leq .no (.t 11) (.t 12)⟩,
⟨some 14,none,.pick (.t 10) (.t 13) (.c (.bool false))⟩,
⟨some 6,none,.mv (.t 14)⟩]
def x_r06_within : XFunc := { np := 3, res := [.t 6], body :=
  (.seq (.reg m06) (.seq (.reg m07) .ret)) }
@[go_sem] def m04 : List XO := [
⟨some 3,none,.boxF (.t 0)⟩,
⟨some 6,none,.mv (.c (.bool false))⟩]
@[go_sem] def m05 : List XO := [
⟨some 7,none,.fldA 0 (.tf 3)⟩,
⟨some 8,none,.load false 1 (.tf 7)⟩,
⟨some 9,none,.mv (.t 1)⟩,
⟨some 10,none,.bin .geq .no (.t 8) (.t 9)⟩,
⟨some 11,none,.mv (.t 10)⟩,
⟨(some 12), (some (11, true)), .fldA 0 (.tf 3)⟩,
⟨(some 13), (some (11, true)), .load false 1 (.tf 12)⟩,
⟨(some 14), (some (11, true)), .fldA 1 (.tf 3)⟩,
⟨(some 15), (some (11, true)), .load false 1 (.tf 14)⟩,
⟨(some 16), (some (11, true)), .bin .leq .no (.t 13) (.t 15)⟩,
⟨some 17,none,.pick (.t 11) (.t 16) (.c (.bool false))⟩,
⟨some 18,none,.mv (.t 17)⟩,
⟨(some 19), (some (18, true)), .fldA 1 (.tf 3)⟩,
⟨(some 20), (some (18, true)), .load false 1 (.tf 19)⟩,
⟨(some 21), (some (18, true)), .mv (.t 2)⟩,
⟨(some 22), (some (18, true)), .bin .leq .no (.t 20) (.t 21)⟩,
⟨some 23,none,.pick (.t 18) (.t 22) (.c (.bool false))⟩,
⟨some 6,none,.mv (.t 23)⟩]
def x_r06_spanned : XFunc := { np := 3, res := [.t 6], body :=
  (.seq (.reg m04) (.seq (.reg m05) .ret)) }
@[go_sem] def l5m : List XO := [
⟨some 0,none,.alloc [(.slice none 0 0), (.slice none 0 0), (.slice none 0 0), (.int .i64 0)]⟩]
@[go_sem] def l5n : List XO := [
⟨some 1,none,.build [(.int .i64 0), (.int .i64 0)] [(0, 1, (.c (.int .i64 2))), (1, 1, (.c (.int .i64 3)))]⟩,
⟨some 2,none,.build [(.int .i64 0), (.int .i64 0), (.int .i64 0), (.int .i64 0), (.int .i64 0)] [(0, 1, (.c (.int .i64 3))), (1, 1, (.c (.int .i64 12))), (2, 1, (.c (.int .i64 1))), (3, 2, (.t 1))]⟩,
⟨some 3,none,.build [(.int .i64 0), (.int .i64 0)] [(0, 1, (.c (.int .i64 1))), (1, 1, (.c (.int .i64 1)))]⟩,
⟨some 4,none,.build [(.int .i64 0), (.int .i64 0), (.int .i64 0), (.int .i64 0), (.int .i64 0)] [(0, 1, (.c (.int .i64 2))), (1, 1, (.c (.int .i64 10))), (2, 1, (.c (.int .i64 (-1)))), (3, 2, (.t 3))]⟩,
⟨some 5,none,.bsl 5 [.t 2, .t 4]⟩,
⟨some 6,none,.build [(.int .i64 0), (.int .i64 0)] [(0, 1, (.c (.int .i64 2))), (1, 1, (.c (.int .i64 4)))]⟩,
⟨some 7,none,.build [(.int .i64 0), (.int .i64 0)] [(0, 1, (.c (.int .i64 6))), (1, 1, (.c (.int .i64 10)))]⟩,
⟨some 8,none,.build [(.int .i64 0), (.int .i64 0), (.int .i64 0)] [(1, 2, (.t 7))]⟩,
⟨some 9,none,.bsl 3 [.t 8]⟩,
⟨some 10,none,.build [(.int .i64 0), (.int .i64 0), (.slice none 0 0)] [(0, 2, (.t 6)), (2, 1, (.t 9))]⟩,
⟨some 11,none,.build [(.int .i64 0), (.int .i64 0)] [(0, 1, (.c (.int .i64 5))), (1, 1, (.c (.int .i64 5)))]⟩,
⟨some 12,none,.build [(.int .i64 0), (.int .i64 0)] [(1, 1, (.c (.int .i64 4)))]⟩,
⟨some 13,none,.build [(.int .i64 0), (.int .i64 0), (.int .i64 0)] [(1, 2, (.t 12))]⟩,
⟨some 14,none,.build [(.int .i64 0), (.int .i64 0)] [(0, 1, (.c (.int .i64 3))), (1, 1, (.c (.int .i64 3)))]⟩,
⟨some 15,none,.build [(.int .i64 0), (.int .i64 0), (.int .i64 0)] [(0, 1, (.c (.int .i64 1))), (1, 2, (.t 14))]⟩,
⟨some 16,none,.bsl 3 [.t 13, .t 15]⟩,
⟨some 17,none,.build [(.int .i64 0), (.int .i64 0), (.slice none 0 0)] [(0, 2, (.t 11)), (2, 1, (.t 16))]⟩,
⟨some 18,none,.bsl 3 [.t 10, .t 17]⟩,
⟨some 19,none,.build [(.slice none 0 0), (.slice none 0 0), (.slice none 0 0), (.int .i64 0)] [(0, 1, (.t 5)), (1, 1, (.t 18)), (3, 1, (.c (.int .i64 20)))]⟩,
⟨none, none, .store 4 (.t 0) (.t 19)⟩]
def x_l06_Example : XFunc := { np := 0, res := [.cell 0 true 4], body :=
  (.seq (.reg l5m) (.seq (.reg l5n) .ret)) }
@[go_sem] def l3v : List XO := [
⟨some 3,none,.boxF (.t 0)⟩,
⟨some 6,none,.mv (.c (.int .i64 0))⟩]
@[go_sem] def l3w : List XO := [
⟨some 8,none,.load true 4 (.tf 3)⟩,
⟨some 9,none,.call "newel/halls.Check" [.t 8]⟩,
⟨some 7,none,.mv (.t 9)⟩]
@[go_sem] def l3x : List XO := [
⟨some 10,none,.mv (.t 7)⟩,
⟨some 11,none,.bin .neq .no (.t 10) (.c (.int .i64 0))⟩]
@[go_sem] def l3y : List XO := [
⟨some 12,none,.mv (.t 7)⟩,
⟨some 6,none,.mv (.t 12)⟩]
@[go_sem] def l3z : List XO := [
⟨some 13,none,.mv (.t 1)⟩,
⟨some 14,none,.bin .lss .no (.t 13) (.c (.int .i64 0))⟩,
⟨some 15,none,.mv (.t 14)⟩,
⟨(some 16), (some (15, false)), .mv (.t 1)⟩,
⟨(some 17), (some (15, false)), .fldA 0 (.tf 3)⟩,
⟨(some 18), (some (15, false)), .load false 1 (.tf 17)⟩,
⟨(some 19), (some (15, false)), .len false (.t 18)⟩,
⟨(some 20), (some (15, false)), .bin .geq .no (.t 16) (.t 19)⟩,
⟨some 21,none,.pick (.t 15) (.c (.bool true)) (.t 20)⟩,
⟨some 22,none,.mv (.t 21)⟩,
⟨(some 23), (some (22, false)), .mv (.t 2)⟩,
⟨(some 24), (some (22, false)), .mkfn "newel/halls.check$1" [] [.t 3]⟩,
⟨(some 25), (some (22, false)), .call "slices.ContainsFunc[[]int,int]" [.t 23, .t 24]⟩,
⟨some 26,none,.pick (.t 22) (.c (.bool true)) (.t 25)⟩]
@[go_sem] def l32 : List XO := [
⟨some 6,none,.mv (.c (.int .i64 1))⟩]
@[go_sem] def l33 : List XO := [
⟨some 6,none,.mv (.c (.int .i64 0))⟩]
def x_halls_check : XFunc := { np := 3, res := [.t 6], body :=
  (.seq (.reg l3v) (.seq (.seq (.reg l3w) (.seq (.reg l3x) (.cond (.t 11) (.seq (.reg l3y) .ret) .skip))) (.seq (.seq (.reg l3z) (.cond (.t 26) (.seq (.reg l32) .ret) .skip)) (.seq (.reg l33) .ret)))) }
@[go_sem] def l4k : List XO := [
⟨some 1,none,.boxF (.t 0)⟩,
⟨some 2,none,.mv (.c (.slice none 0 0))⟩]
@[go_sem] def l4l : List XO := [
⟨some 4,none,.fldA 0 (.tf 1)⟩,
⟨some 5,none,.load false 1 (.tf 4)⟩,
⟨some 6,none,.len false (.t 5)⟩,
⟨some 7,none,.mv (.c (.int .i64 0))⟩]
@[go_sem] def l4m : List XO := [
⟨some 8,none,.bin .lss .no (.t 7) (.t 6)⟩]
@[go_sem] def l4n : List XO := [
⟨some 9,none,.mv (.t 7)⟩,
⟨some 3,none,.mv (.t 9)⟩]
@[go_sem] def l4o : List XO := [
⟨some 10,none,.mv (.t 2)⟩,
⟨some 11,none,.load true 4 (.tf 1)⟩,
⟨some 12,none,.mv (.t 3)⟩,
⟨some 13,none,.call "newel/halls.rates" [.t 11, .t 12]⟩,
⟨some 14,none,.bsl 1 [.t 13]⟩,
⟨some 15,none,.app 1 24 (.t 10) (.t 14)⟩,
⟨some 2,none,.mv (.t 15)⟩]
@[go_sem] def l4p : List XO := [
⟨some 16,none,.bin .add .no (.t 7) (.c (.int .i64 1))⟩,
⟨some 7,none,.mv (.t 16)⟩]
def g0y : XCode :=
  (.seq (.reg l4m) (.seq (.cond (.t 8) .skip (.exit 0)) (.seq (.block 1 (.seq (.reg l4n) (.seq (.reg l4o) .ghost))) (.reg l4p))))
@[go_sem] def l4q : List XO := [
⟨some 17,none,.mv (.t 2)⟩,
⟨some 2,none,.mv (.t 17)⟩]
def x_halls_open : XFunc := { np := 1, res := [.t 2], body :=
  (.seq (.reg l4k) (.seq (.seq (.reg l4l) (.block 0 (.loop g0y))) (.seq (.reg l4q) .ret))) }
@[go_sem] def l4t : List XO := [
⟨some 2,none,.boxF (.t 0)⟩,
⟨some 4,none,.mv (.c (.slice none 0 0))⟩]
@[go_sem] def l4u : List XO := [
⟨some 8,none,.mv (.t 1)⟩,
⟨some 9,none,.len false (.t 8)⟩,
⟨some 10,none,.mv (.c (.int .i64 0))⟩]
@[go_sem] def l4v : List XO := [
⟨some 11,none,.bin .lss .no (.t 10) (.t 9)⟩]
@[go_sem] def l4w : List XO := [
⟨some 12,none,.mv (.t 10)⟩,
⟨some 13,none,.ixA 1 (.t 8) (.t 10)⟩,
⟨some 14,none,.load false 1 (.t 13)⟩,
⟨some 5,none,.alloc [(.int .i64 0)]⟩,
⟨none, none, .store 1 (.t 5) (.t 12)⟩,
⟨some 6,none,.mv (.t 14)⟩]
@[go_sem] def l4x : List XO := [
⟨some 15,none,.mv (.t 6)⟩,
⟨some 16,none,.nilck (.t 15)⟩,
⟨some 17,none,.fldA 2 (.t 16)⟩,
⟨some 18,none,.load false 1 (.t 17)⟩,
⟨some 19,none,.mkfn "newel/halls.over$1" [] [.t 2, .t 5]⟩,
⟨some 20,none,.call "slices.IndexFunc[[]int,int]" [.t 18, .t 19]⟩,
⟨some 7,none,.mv (.t 20)⟩]
@[go_sem] def l4y : List XO := [
⟨some 21,none,.mv (.t 7)⟩,
⟨some 22,none,.bin .geq .no (.t 21) (.c (.int .i64 0))⟩]
@[go_sem] def l4z : List XO := [
⟨some 23,none,.mv (.t 4)⟩,
⟨some 24,none,.load false 1 (.t 5)⟩,
⟨some 25,none,.mv (.t 7)⟩,
⟨some 26,none,.build [(.int .i64 0), (.int .i64 0)] [(0, 1, (.t 24)), (1, 1, (.t 25))]⟩,
⟨some 27,none,.bsl 2 [.t 26]⟩,
⟨some 28,none,.app 2 16 (.t 23) (.t 27)⟩,
⟨some 4,none,.mv (.t 28)⟩]
@[go_sem] def l40 : List XO := [
⟨some 29,none,.bin .add .no (.t 10) (.c (.int .i64 1))⟩,
⟨some 10,none,.mv (.t 29)⟩]
def g0z : XCode :=
  (.seq (.reg l4v) (.seq (.cond (.t 11) .skip (.exit 0)) (.seq (.block 1 (.seq (.reg l4w) (.seq (.reg l4x) (.seq (.reg l4y) (.cond (.t 22) (.reg l4z) .skip))))) (.reg l40))))
@[go_sem] def l41 : List XO := [
⟨some 30,none,.mv (.t 4)⟩,
⟨some 4,none,.mv (.t 30)⟩]
def x_halls_over : XFunc := { np := 2, res := [.t 4], body :=
  (.seq (.reg l4t) (.seq (.seq (.reg l4u) (.block 0 (.loop g0z))) (.seq (.reg l41) .ret))) }
@[go_sem] def l19 : List XO := [
⟨some 2,none,.boxF (.t 0)⟩,
⟨some 4,none,.mv (.c (.slice none 0 0))⟩]
@[go_sem] def l2a : List XO := [
⟨some 5,none,.mv (.c (.slice none 0 0))⟩]
@[go_sem] def l2k : List XO := [
⟨some 16,none,.fldA 0 (.tf 2)⟩,
⟨some 17,none,.load false 1 (.tf 16)⟩,
⟨some 18,none,.len false (.t 17)⟩,
⟨some 19,none,.mv (.c (.int .i64 0))⟩]
@[go_sem] def l2t : List XO := [
⟨some 20,none,.bin .lss .no (.t 19) (.t 18)⟩]
@[go_sem] def l24 : List XO := [
⟨some 21,none,.mv (.t 19)⟩,
⟨some 6,none,.mv (.t 21)⟩]
@[go_sem] def l3b : List XO := [
⟨some 22,none,.bsl 1 [(.c (.int .i64 0))]⟩,
⟨some 23,none,.bsl 1 [(.c (.int .i64 0))]⟩,
⟨some 24,none,.build [(.slice none 0 0), (.slice none 0 0), (.slice none 0 0), (.slice none 0 0)] [(0, 1, (.t 22)), (1, 1, (.t 23))]⟩,
⟨some 25,none,.box (.t 24)⟩,
⟨some 7,none,.mv (.t 25)⟩]
@[go_sem] def l3c : List XO := [
⟨some 26,none,.fldA 3 (.tf 2)⟩,
⟨some 27,none,.load false 1 (.tf 26)⟩,
⟨some 28,none,.mv (.c (.int .i64 0))⟩]
@[go_sem] def l3d : List XO := [
⟨some 29,none,.bin .lss .no (.t 28) (.t 27)⟩]
@[go_sem] def l3e : List XO := [
⟨some 30,none,.mv (.t 28)⟩,
⟨some 8,none,.mv (.t 30)⟩]
@[go_sem] def l3f : List XO := [
⟨some 31,none,.fldA 3 (.tf 2)⟩,
⟨some 32,none,.load false 1 (.tf 31)⟩,
⟨some 33,none,.mksl 1 [(.int .i64 0)] 8 (.t 32) (.t 32)⟩,
⟨some 9,none,.mv (.t 33)⟩]
@[go_sem] def l2b : List XO := [
⟨some 34,none,.mv (.t 8)⟩,
⟨some 10,none,.mv (.t 34)⟩]
@[go_sem] def l2c : List XO := [
⟨some 35,none,.mv (.t 10)⟩,
⟨some 36,none,.fldA 3 (.tf 2)⟩,
⟨some 37,none,.load false 1 (.tf 36)⟩,
⟨some 38,none,.bin .lss .no (.t 35) (.t 37)⟩]
@[go_sem] def l2d : List XO := [
⟨some 41,none,.mv (.t 9)⟩,
⟨some 42,none,.mv (.t 10)⟩,
⟨some 43,none,.load true 4 (.tf 2)⟩,
⟨some 44,none,.mv (.t 6)⟩,
⟨some 45,none,.mv (.t 8)⟩,
⟨some 46,none,.mv (.t 10)⟩,
⟨some 47,none,.call "newel/halls.brought" [.t 43, .t 44, .t 45, .t 46]⟩,
⟨some 48,none,.ixA 1 (.t 41) (.t 42)⟩,
⟨none, none, .store 1 (.t 48) (.t 47)⟩]
@[go_sem] def l2e : List XO := [
⟨some 49,none,.fldA 0 (.tf 2)⟩,
⟨some 50,none,.load false 1 (.tf 49)⟩,
⟨some 51,none,.mv (.t 6)⟩,
⟨some 52,none,.slc 5 (.t 50) none (some (.t 51))⟩,
⟨some 53,none,.len false (.t 52)⟩,
⟨some 54,none,.mv (.c (.int .i64 0))⟩]
@[go_sem] def l2f : List XO := [
⟨some 55,none,.bin .lss .no (.t 54) (.t 53)⟩]
@[go_sem] def l2g : List XO := [
⟨some 56,none,.mv (.t 54)⟩,
⟨some 57,none,.ixA 5 (.t 52) (.t 54)⟩,
⟨some 58,none,.load true 5 (.t 57)⟩,
⟨some 12,none,.alloc [(.int .i64 0), (.int .i64 0), (.int .i64 0), (.int .i64 0), (.int .i64 0)]⟩,
⟨some 11,none,.mv (.t 56)⟩,
⟨none, none, .store 5 (.t 12) (.t 58)⟩]
@[go_sem] def l2h : List XO := [
⟨some 59,none,.fldA 2 (.t 12)⟩,
⟨some 60,none,.load false 1 (.t 59)⟩,
⟨some 61,none,.mv (.t 6)⟩,
⟨some 62,none,.bin .eql .no (.t 60) (.t 61)⟩]
@[go_sem] def l2i : List XO := [
⟨some 63,none,.mv (.t 9)⟩,
⟨some 64,none,.mv (.t 10)⟩,
⟨some 65,none,.ixA 1 (.t 63) (.t 64)⟩,
⟨some 66,none,.load false 1 (.t 65)⟩,
⟨some 67,none,.mv (.t 5)⟩,
⟨some 68,none,.mv (.t 11)⟩,
⟨some 69,none,.ixA 1 (.t 67) (.t 68)⟩,
⟨some 70,none,.load false 1 (.t 69)⟩,
⟨some 71,none,.mv (.t 8)⟩,
⟨some 72,none,.fldA 3 (.t 12)⟩,
⟨some 73,none,.fldA 1 (.t 72)⟩,
⟨some 74,none,.load false 1 (.t 73)⟩,
⟨some 75,none,.bin .sub .no (.t 71) (.t 74)⟩,
⟨some 76,none,.mv (.t 10)⟩,
⟨some 77,none,.fldA 3 (.t 12)⟩,
⟨some 78,none,.fldA 0 (.t 77)⟩,
⟨some 79,none,.load false 1 (.t 78)⟩,
⟨some 80,none,.bin .sub .no (.t 76) (.t 79)⟩,
⟨some 81,none,.call "(*newel/halls.bound).passes" [.t 70, .t 75, .t 80]⟩,
⟨some 82,none,.bin .add .no (.t 66) (.t 81)⟩,
⟨some 83,none,.ixA 1 (.t 63) (.t 64)⟩,
⟨none, none, .store 1 (.t 83) (.t 82)⟩]
@[go_sem] def l2j : List XO := [
⟨some 84,none,.bin .add .no (.t 54) (.c (.int .i64 1))⟩,
⟨some 54,none,.mv (.t 84)⟩]
def g0p : XCode :=
  (.seq (.reg l2f) (.seq (.cond (.t 55) .skip (.exit 6)) (.seq (.block 7 (.seq (.reg l2g) (.seq (.reg l2h) (.cond (.t 62) (.reg l2i) .skip)))) (.reg l2j))))
@[go_sem] def l2l : List XO := [
⟨some 39,none,.mv (.t 10)⟩,
⟨some 40,none,.bin .add .no (.t 39) (.c (.int .i64 1))⟩,
⟨some 10,none,.mv (.t 40)⟩]
def g0q : XCode :=
  (.seq (.seq (.reg l2c) (.cond (.t 38) .skip (.exit 4))) (.seq (.block 5 (.seq (.reg l2d) (.seq (.reg l2e) (.block 6 (.loop g0p))))) (.reg l2l)))
@[go_sem] def l2m : List XO := [
⟨some 85,none,.mv (.t 7)⟩,
⟨some 86,none,.mv (.t 7)⟩,
⟨some 87,none,.nilck (.t 86)⟩,
⟨some 88,none,.fldA 3 (.t 87)⟩,
⟨some 89,none,.load false 1 (.t 88)⟩,
⟨some 90,none,.mv (.t 9)⟩,
⟨some 91,none,.bsl 1 [.t 90]⟩,
⟨some 92,none,.app 1 24 (.t 89) (.t 91)⟩,
⟨some 93,none,.nilck (.t 85)⟩,
⟨some 94,none,.fldA 3 (.t 93)⟩,
⟨none, none, .store 1 (.t 94) (.t 92)⟩]
@[go_sem] def l2n : List XO := [
⟨some 95,none,.mv (.t 7)⟩,
⟨some 96,none,.mv (.t 7)⟩,
⟨some 97,none,.nilck (.t 96)⟩,
⟨some 98,none,.fldA 0 (.t 97)⟩,
⟨some 99,none,.load false 1 (.t 98)⟩,
⟨some 100,none,.mv (.t 7)⟩,
⟨some 101,none,.nilck (.t 100)⟩,
⟨some 102,none,.fldA 0 (.t 101)⟩,
⟨some 103,none,.load false 1 (.t 102)⟩,
⟨some 104,none,.mv (.t 8)⟩,
⟨some 105,none,.ixA 1 (.t 103) (.t 104)⟩,
⟨some 106,none,.load false 1 (.t 105)⟩,
⟨some 107,none,.mv (.t 1)⟩,
⟨some 108,none,.mv (.t 6)⟩,
⟨some 109,none,.ixA 1 (.t 107) (.t 108)⟩,
⟨some 110,none,.load false 1 (.t 109)⟩,
⟨some 111,none,.mv (.t 8)⟩,
⟨some 112,none,.ixA 1 (.t 110) (.t 111)⟩,
⟨some 113,none,.load false 1 (.t 112)⟩,
⟨some 114,none,.bin .add .no (.t 106) (.t 113)⟩,
⟨some 115,none,.bsl 1 [.t 114]⟩,
⟨some 116,none,.app 1 8 (.t 99) (.t 115)⟩,
⟨some 117,none,.nilck (.t 95)⟩,
⟨some 118,none,.fldA 0 (.t 117)⟩,
⟨none, none, .store 1 (.t 118) (.t 116)⟩]
@[go_sem] def l2o : List XO := [
⟨some 119,none,.bin .add .no (.t 28) (.c (.int .i64 1))⟩,
⟨some 28,none,.mv (.t 119)⟩]
def g0r : XCode :=
  (.seq (.reg l3d) (.seq (.cond (.t 29) .skip (.exit 2)) (.seq (.block 3 (.seq (.reg l3e) (.seq (.reg l3f) (.seq (.seq (.reg l2b) (.block 4 (.loop g0q))) (.seq (.seq .ghost (.reg l2m)) (.reg l2n)))))) (.reg l2o))))
@[go_sem] def l2p : List XO := [
⟨some 120,none,.fldA 3 (.tf 2)⟩,
⟨some 121,none,.load false 1 (.tf 120)⟩,
⟨some 122,none,.mv (.c (.int .i64 0))⟩]
@[go_sem] def l2q : List XO := [
⟨some 123,none,.bin .lss .no (.t 122) (.t 121)⟩]
@[go_sem] def l2r : List XO := [
⟨some 124,none,.mv (.t 122)⟩,
⟨some 13,none,.mv (.t 124)⟩]
@[go_sem] def l2s : List XO := [
⟨some 14,none,.mv (.c (.int .i64 0))⟩]
@[go_sem] def l2u : List XO := [
⟨some 125,none,.mv (.t 13)⟩,
⟨some 126,none,.bin .add .no (.t 125) (.c (.int .i64 1))⟩,
⟨some 127,none,.mv (.c (.int .i64 0))⟩]
@[go_sem] def l2v : List XO := [
⟨some 128,none,.bin .lss .no (.t 127) (.t 126)⟩]
@[go_sem] def l2w : List XO := [
⟨some 129,none,.mv (.t 127)⟩,
⟨some 15,none,.mv (.t 129)⟩]
@[go_sem] def l2x : List XO := [
⟨some 130,none,.mv (.t 14)⟩,
⟨some 131,none,.mv (.t 7)⟩,
⟨some 132,none,.nilck (.t 131)⟩,
⟨some 133,none,.fldA 3 (.t 132)⟩,
⟨some 134,none,.load false 1 (.t 133)⟩,
⟨some 135,none,.mv (.t 15)⟩,
⟨some 136,none,.ixA 1 (.t 134) (.t 135)⟩,
⟨some 137,none,.load false 1 (.t 136)⟩,
⟨some 138,none,.mv (.t 13)⟩,
⟨some 139,none,.ixA 1 (.t 137) (.t 138)⟩,
⟨some 140,none,.load false 1 (.t 139)⟩,
⟨some 141,none,.mv (.t 7)⟩,
⟨some 142,none,.nilck (.t 141)⟩,
⟨some 143,none,.fldA 0 (.t 142)⟩,
⟨some 144,none,.load false 1 (.t 143)⟩,
⟨some 145,none,.mv (.t 13)⟩,
⟨some 146,none,.ixA 1 (.t 144) (.t 145)⟩,
⟨some 147,none,.load false 1 (.t 146)⟩,
⟨some 148,none,.mv (.t 7)⟩,
⟨some 149,none,.nilck (.t 148)⟩,
⟨some 150,none,.fldA 0 (.t 149)⟩,
⟨some 151,none,.load false 1 (.t 150)⟩,
⟨some 152,none,.mv (.t 15)⟩,
⟨some 153,none,.ixA 1 (.t 151) (.t 152)⟩,
⟨some 154,none,.load false 1 (.t 153)⟩,
⟨some 155,none,.bin .sub .no (.t 147) (.t 154)⟩,
⟨some 156,none,.bin .sub .no (.t 140) (.t 155)⟩,
⟨some 157,none,.max [.t 130, .t 156]⟩,
⟨some 14,none,.mv (.t 157)⟩]
@[go_sem] def l2y : List XO := [
⟨some 158,none,.bin .add .no (.t 127) (.c (.int .i64 1))⟩,
⟨some 127,none,.mv (.t 158)⟩]
def g0s : XCode :=
  (.seq (.reg l2v) (.seq (.cond (.t 128) .skip (.exit 10)) (.seq (.block 11 (.seq (.reg l2w) (.reg l2x))) (.reg l2y))))
@[go_sem] def l2z : List XO := [
⟨some 159,none,.mv (.t 7)⟩,
⟨some 160,none,.mv (.t 7)⟩,
⟨some 161,none,.nilck (.t 160)⟩,
⟨some 162,none,.fldA 2 (.t 161)⟩,
⟨some 163,none,.load false 1 (.t 162)⟩,
⟨some 164,none,.mv (.t 14)⟩,
⟨some 165,none,.bsl 1 [.t 164]⟩,
⟨some 166,none,.app 1 8 (.t 163) (.t 165)⟩,
⟨some 167,none,.nilck (.t 159)⟩,
⟨some 168,none,.fldA 2 (.t 167)⟩,
⟨none, none, .store 1 (.t 168) (.t 166)⟩]
@[go_sem] def l20 : List XO := [
⟨some 169,none,.mv (.t 7)⟩,
⟨some 170,none,.mv (.t 7)⟩,
⟨some 171,none,.nilck (.t 170)⟩,
⟨some 172,none,.fldA 1 (.t 171)⟩,
⟨some 173,none,.load false 1 (.t 172)⟩,
⟨some 174,none,.mv (.t 7)⟩,
⟨some 175,none,.nilck (.t 174)⟩,
⟨some 176,none,.fldA 1 (.t 175)⟩,
⟨some 177,none,.load false 1 (.t 176)⟩,
⟨some 178,none,.mv (.t 13)⟩,
⟨some 179,none,.ixA 1 (.t 177) (.t 178)⟩,
⟨some 180,none,.load false 1 (.t 179)⟩,
⟨some 181,none,.mv (.t 14)⟩,
⟨some 182,none,.mv (.t 1)⟩,
⟨some 183,none,.mv (.t 6)⟩,
⟨some 184,none,.ixA 1 (.t 182) (.t 183)⟩,
⟨some 185,none,.load false 1 (.t 184)⟩,
⟨some 186,none,.mv (.t 13)⟩,
⟨some 187,none,.ixA 1 (.t 185) (.t 186)⟩,
⟨some 188,none,.load false 1 (.t 187)⟩,
⟨some 189,none,.min [.t 181, .t 188]⟩,
⟨some 190,none,.bin .add .no (.t 180) (.t 189)⟩,
⟨some 191,none,.bsl 1 [.t 190]⟩,
⟨some 192,none,.app 1 8 (.t 173) (.t 191)⟩,
⟨some 193,none,.nilck (.t 169)⟩,
⟨some 194,none,.fldA 1 (.t 193)⟩,
⟨none, none, .store 1 (.t 194) (.t 192)⟩]
@[go_sem] def l23 : List XO := [
⟨some 195,none,.bin .add .no (.t 122) (.c (.int .i64 1))⟩,
⟨some 122,none,.mv (.t 195)⟩]
def g0t : XCode :=
  (.seq (.reg l2q) (.seq (.cond (.t 123) .skip (.exit 8)) (.seq (.block 9 (.seq (.reg l2r) (.seq (.reg l2s) (.seq (.seq (.reg l2u) (.block 10 (.loop g0s))) (.seq (.reg l2z) (.reg l20)))))) (.reg l23))))
@[go_sem] def l25 : List XO := [
⟨some 196,none,.mv (.t 5)⟩,
⟨some 197,none,.mv (.t 7)⟩,
⟨some 198,none,.bsl 1 [.t 197]⟩,
⟨some 199,none,.app 1 8 (.t 196) (.t 198)⟩,
⟨some 5,none,.mv (.t 199)⟩]
@[go_sem] def l28 : List XO := [
⟨some 200,none,.bin .add .no (.t 19) (.c (.int .i64 1))⟩,
⟨some 19,none,.mv (.t 200)⟩]
def g0u : XCode :=
  (.seq (.reg l2t) (.seq (.cond (.t 20) .skip (.exit 0)) (.seq (.block 1 (.seq (.reg l24) (.seq (.reg l3b) (.seq (.seq (.reg l3c) (.block 2 (.loop g0r))) (.seq (.seq (.reg l2p) (.block 8 (.loop g0t))) (.seq .ghost (.reg l25))))))) (.reg l28))))
@[go_sem] def l3a : List XO := [
⟨some 201,none,.mv (.t 5)⟩,
⟨some 4,none,.mv (.t 201)⟩]
def x_halls_bounds : XFunc := { np := 2, res := [.t 4], body :=
  (.seq (.reg l19) (.seq (.reg l2a) (.seq (.seq (.reg l2k) (.block 0 (.loop g0u))) (.seq (.seq .ghost (.reg l3a)) .ret)))) }
@[go_sem] def m0s : List XO := [
⟨some 2,none,.boxF (.t 0)⟩,
⟨some 4,none,.mv (.c (.slice none 0 0))⟩]
@[go_sem] def m0t : List XO := [
⟨some 8,none,.fldA 3 (.tf 2)⟩,
⟨some 9,none,.load false 1 (.tf 8)⟩,
⟨some 10,none,.mksl 1 [(.int .i64 0)] 8 (.t 9) (.t 9)⟩,
⟨some 5,none,.mv (.t 10)⟩]
@[go_sem] def m0w : List XO := [
⟨some 6,none,.mv (.c (.int .i64 0))⟩]
@[go_sem] def m0x : List XO := [
⟨some 11,none,.mv (.t 6)⟩,
⟨some 12,none,.fldA 3 (.tf 2)⟩,
⟨some 13,none,.load false 1 (.tf 12)⟩,
⟨some 14,none,.bin .lss .no (.t 11) (.t 13)⟩]
@[go_sem] def m0y : List XO := [
⟨some 17,none,.mv (.t 5)⟩,
⟨some 18,none,.mv (.t 6)⟩,
⟨some 19,none,.fldA 0 (.tf 2)⟩,
⟨some 20,none,.load false 1 (.tf 19)⟩,
⟨some 21,none,.mv (.t 1)⟩,
⟨some 22,none,.ixA 5 (.t 20) (.t 21)⟩,
⟨some 23,none,.fldA 0 (.t 22)⟩,
⟨some 24,none,.load false 1 (.t 23)⟩,
⟨some 25,none,.ixA 1 (.t 17) (.t 18)⟩,
⟨none, none, .store 1 (.t 25) (.t 24)⟩]
@[go_sem] def m0z : List XO := [
⟨some 7,none,.mv (.c (.int .i64 0))⟩]
@[go_sem] def m00 : List XO := [
⟨some 26,none,.mv (.t 7)⟩,
⟨some 27,none,.fldA 2 (.tf 2)⟩,
⟨some 28,none,.load false 1 (.tf 27)⟩,
⟨some 29,none,.len false (.t 28)⟩,
⟨some 30,none,.bin .lss .no (.t 26) (.t 29)⟩]
@[go_sem] def m01 : List XO := [
⟨some 33,none,.fldA 2 (.tf 2)⟩,
⟨some 34,none,.load false 1 (.tf 33)⟩,
⟨some 35,none,.mv (.t 7)⟩,
⟨some 36,none,.ixA 3 (.t 34) (.t 35)⟩,
⟨some 37,none,.fldA 1 (.t 36)⟩,
⟨some 38,none,.load false 1 (.t 37)⟩,
⟨some 39,none,.mv (.t 1)⟩,
⟨some 40,none,.bin .eql .no (.t 38) (.t 39)⟩,
⟨some 41,none,.mv (.t 40)⟩,
⟨(some 42), (some (41, true)), .fldA 2 (.tf 2)⟩,
⟨(some 43), (some (41, true)), .load false 1 (.tf 42)⟩,
⟨(some 44), (some (41, true)), .mv (.t 7)⟩,
⟨(some 45), (some (41, true)), .ixA 3 (.t 43) (.t 44)⟩,
⟨(some 46), (some (41, true)), .fldA 0 (.t 45)⟩,
⟨(some 47), (some (41, true)), .load false 1 (.t 46)⟩,
⟨(some 48), (some (41, true)), .mv (.t 6)⟩,
⟨(some 49), (some (41, true)), .bin .leq .no (.t 47) (.t 48)⟩,
⟨some 50,none,.pick (.t 41) (.t 49) (.c (.bool false))⟩]
@[go_sem] def m02 : List XO := [
⟨some 51,none,.mv (.t 5)⟩,
⟨some 52,none,.mv (.t 6)⟩,
⟨some 53,none,.fldA 2 (.tf 2)⟩,
⟨some 54,none,.load false 1 (.tf 53)⟩,
⟨some 55,none,.mv (.t 7)⟩,
⟨some 56,none,.ixA 3 (.t 54) (.t 55)⟩,
⟨some 57,none,.fldA 2 (.t 56)⟩,
⟨some 58,none,.load false 1 (.t 57)⟩,
⟨some 59,none,.ixA 1 (.t 51) (.t 52)⟩,
⟨none, none, .store 1 (.t 59) (.t 58)⟩]
@[go_sem] def m03 : List XO := [
⟨some 31,none,.mv (.t 7)⟩,
⟨some 32,none,.bin .add .no (.t 31) (.c (.int .i64 1))⟩,
⟨some 7,none,.mv (.t 32)⟩]
def g1p : XCode :=
  (.seq (.seq (.reg m00) (.cond (.t 30) .skip (.exit 2))) (.seq (.block 3 (.seq (.reg m01) (.cond (.t 50) (.reg m02) .skip))) (.reg m03)))
@[go_sem] def m0u : List XO := [
⟨some 15,none,.mv (.t 6)⟩,
⟨some 16,none,.bin .add .no (.t 15) (.c (.int .i64 1))⟩,
⟨some 6,none,.mv (.t 16)⟩]
def g1q : XCode :=
  (.seq (.seq (.reg m0x) (.cond (.t 14) .skip (.exit 0))) (.seq (.block 1 (.seq (.reg m0y) (.seq (.reg m0z) (.block 2 (.loop g1p))))) (.reg m0u)))
@[go_sem] def m0v : List XO := [
⟨some 60,none,.mv (.t 5)⟩,
⟨some 4,none,.mv (.t 60)⟩]
def x_r06_rates : XFunc := { np := 2, res := [.t 4], body :=
  (.seq (.reg m0s) (.seq (.reg m0t) (.seq (.seq (.reg m0w) (.block 0 (.loop g1q))) (.seq (.reg m0v) .ret)))) }
@[go_sem] def m0q : List XO := [
⟨some 2,none,.boxF (.t 0)⟩,
⟨some 4,none,.mv (.c (.bool false))⟩]
@[go_sem] def m0r : List XO := [
⟨some 5,none,.mv (.t 1)⟩,
⟨some 6,none,.fldA 0 (.tf 2)⟩,
⟨some 7,none,.load false 1 (.tf 6)⟩,
⟨some 8,none,.len false (.t 7)⟩,
⟨some 9,none,.bin .sub .no (.t 8) (.c (.int .i64 1))⟩,
⟨some 10,none,.call "newel/newelref06.within" [.t 5, (.c (.int .i64 0)), .t 9]⟩,
⟨some 4,none,.mv (.t 10)⟩]
def x_r06_comb : XFunc := { np := 2, res := [.t 4], body :=
  (.seq (.reg m0q) (.seq (.reg m0r) .ret)) }
@[go_sem] def l6l : List XO := [
⟨some 1,none,.boxF (.t 0)⟩,
⟨some 2,none,.alloc [(.slice none 0 0), (.slice none 0 0), (.slice none 0 0), (.slice none 0 0)]⟩]
@[go_sem] def l6m : List XO := [
⟨some 3,none,.alloc [(.slice none 0 0), (.slice none 0 0), (.slice none 0 0), (.slice none 0 0)]⟩]
@[go_sem] def l6w : List XO := [
⟨some 4,none,.mv (.c (.int .i64 0))⟩]
@[go_sem] def l64 : List XO := [
⟨some 25,none,.mv (.t 4)⟩,
⟨some 26,none,.fldA 0 (.tf 1)⟩,
⟨some 27,none,.load false 1 (.tf 26)⟩,
⟨some 28,none,.len false (.t 27)⟩,
⟨some 29,none,.bin .lss .no (.t 25) (.t 28)⟩]
@[go_sem] def l7f : List XO := [
⟨some 32,none,.fldA 3 (.tf 1)⟩,
⟨some 33,none,.load false 1 (.tf 32)⟩,
⟨some 34,none,.mksl 1 [(.slice none 0 0)] 24 (.t 33) (.t 33)⟩,
⟨some 5,none,.mv (.t 34)⟩]
@[go_sem] def l7o : List XO := [
⟨some 6,none,.mv (.c (.int .i64 0))⟩]
@[go_sem] def l7z : List XO := [
⟨some 35,none,.mv (.t 6)⟩,
⟨some 36,none,.fldA 3 (.tf 1)⟩,
⟨some 37,none,.load false 1 (.tf 36)⟩,
⟨some 38,none,.bin .lss .no (.t 35) (.t 37)⟩]
@[go_sem] def l78 : List XO := [
⟨some 41,none,.mv (.t 5)⟩,
⟨some 42,none,.mv (.t 6)⟩,
⟨some 43,none,.fldA 3 (.tf 1)⟩,
⟨some 44,none,.load false 1 (.tf 43)⟩,
⟨some 45,none,.mksl 1 [(.int .i64 0)] 8 (.t 44) (.t 44)⟩,
⟨some 46,none,.ixA 1 (.t 41) (.t 42)⟩,
⟨none, none, .store 1 (.t 46) (.t 45)⟩]
@[go_sem] def l8a : List XO := [
⟨some 47,none,.mv (.t 6)⟩,
⟨some 7,none,.mv (.t 47)⟩]
@[go_sem] def l8b : List XO := [
⟨some 48,none,.mv (.t 7)⟩,
⟨some 49,none,.fldA 3 (.tf 1)⟩,
⟨some 50,none,.load false 1 (.tf 49)⟩,
⟨some 51,none,.bin .lss .no (.t 48) (.t 50)⟩]
@[go_sem] def l6n : List XO := [
⟨some 8,none,.mv (.c (.int .i64 0))⟩]
@[go_sem] def l6o : List XO := [
⟨some 54,none,.mv (.t 8)⟩,
⟨some 55,none,.fldA 1 (.tf 1)⟩,
⟨some 56,none,.load false 1 (.tf 55)⟩,
⟨some 57,none,.len false (.t 56)⟩,
⟨some 58,none,.bin .lss .no (.t 54) (.t 57)⟩]
@[go_sem] def l6p : List XO := [
⟨some 61,none,.fldA 1 (.tf 1)⟩,
⟨some 62,none,.load false 1 (.tf 61)⟩,
⟨some 63,none,.mv (.t 8)⟩,
⟨some 64,none,.ixA 3 (.t 62) (.t 63)⟩,
⟨some 65,none,.load true 3 (.t 64)⟩,
⟨some 9,none,.alloc [(.int .i64 0), (.int .i64 0), (.slice none 0 0)]⟩,
⟨none, none, .store 3 (.t 9) (.t 65)⟩]
@[go_sem] def l6q : List XO := [
⟨some 10,none,.mv (.c (.int .i64 0))⟩]
@[go_sem] def l6r : List XO := [
⟨some 66,none,.mv (.t 10)⟩,
⟨some 67,none,.fldA 2 (.t 9)⟩,
⟨some 68,none,.load false 1 (.t 67)⟩,
⟨some 69,none,.len false (.t 68)⟩,
⟨some 70,none,.bin .lss .no (.t 66) (.t 69)⟩]
@[go_sem] def l6s : List XO := [
⟨some 73,none,.fldA 2 (.t 9)⟩,
⟨some 74,none,.load false 1 (.t 73)⟩,
⟨some 75,none,.mv (.t 10)⟩,
⟨some 76,none,.ixA 3 (.t 74) (.t 75)⟩,
⟨some 77,none,.fldA 0 (.t 76)⟩,
⟨some 78,none,.load false 1 (.t 77)⟩,
⟨some 79,none,.mv (.t 4)⟩,
⟨some 80,none,.bin .eql .no (.t 78) (.t 79)⟩,
⟨some 81,none,.mv (.t 80)⟩,
⟨(some 82), (some (81, true)), .fldA 0 (.t 9)⟩,
⟨(some 83), (some (81, true)), .fldA 0 (.t 82)⟩,
⟨(some 84), (some (81, true)), .load false 1 (.t 83)⟩,
⟨(some 85), (some (81, true)), .mv (.t 7)⟩,
⟨(some 86), (some (81, true)), .bin .leq .no (.t 84) (.t 85)⟩,
⟨some 87,none,.pick (.t 81) (.t 86) (.c (.bool false))⟩,
⟨some 88,none,.mv (.t 87)⟩,
⟨(some 89), (some (88, true)), .fldA 0 (.t 9)⟩,
⟨(some 90), (some (88, true)), .fldA 1 (.t 89)⟩,
⟨(some 91), (some (88, true)), .load false 1 (.t 90)⟩,
⟨(some 92), (some (88, true)), .mv (.t 6)⟩,
⟨(some 93), (some (88, true)), .bin .geq .no (.t 91) (.t 92)⟩,
⟨some 94,none,.pick (.t 88) (.t 93) (.c (.bool false))⟩]
@[go_sem] def l6t : List XO := [
⟨some 95,none,.mv (.t 5)⟩,
⟨some 96,none,.mv (.t 6)⟩,
⟨some 97,none,.ixA 1 (.t 95) (.t 96)⟩,
⟨some 98,none,.load false 1 (.t 97)⟩,
⟨some 99,none,.mv (.t 7)⟩,
⟨some 100,none,.ixA 1 (.t 98) (.t 99)⟩,
⟨some 101,none,.load false 1 (.t 100)⟩,
⟨some 102,none,.fldA 2 (.t 9)⟩,
⟨some 103,none,.load false 1 (.t 102)⟩,
⟨some 104,none,.mv (.t 10)⟩,
⟨some 105,none,.ixA 3 (.t 103) (.t 104)⟩,
⟨some 106,none,.fldA 1 (.t 105)⟩,
⟨some 107,none,.fldA 1 (.t 106)⟩,
⟨some 108,none,.load false 1 (.t 107)⟩,
⟨some 109,none,.bin .add .no (.t 101) (.t 108)⟩,
⟨some 110,none,.ixA 1 (.t 98) (.t 99)⟩,
⟨none, none, .store 1 (.t 110) (.t 109)⟩]
@[go_sem] def l6u : List XO := [
⟨some 71,none,.mv (.t 10)⟩,
⟨some 72,none,.bin .add .no (.t 71) (.c (.int .i64 1))⟩,
⟨some 10,none,.mv (.t 72)⟩]
def g04 : XCode :=
  (.seq (.seq (.reg l6r) (.cond (.t 70) .skip (.exit 8))) (.seq (.block 9 (.seq (.reg l6s) (.cond (.t 94) (.reg l6t) .skip))) (.reg l6u)))
@[go_sem] def l6v : List XO := [
⟨some 59,none,.mv (.t 8)⟩,
⟨some 60,none,.bin .add .no (.t 59) (.c (.int .i64 1))⟩,
⟨some 8,none,.mv (.t 60)⟩]
def g05 : XCode :=
  (.seq (.seq (.reg l6o) (.cond (.t 58) .skip (.exit 6))) (.seq (.block 7 (.seq (.reg l6p) (.seq (.reg l6q) (.block 8 (.loop g04))))) (.reg l6v)))
@[go_sem] def l6x : List XO := [
⟨some 11,none,.mv (.c (.int .i64 0))⟩]
@[go_sem] def l6y : List XO := [
⟨some 111,none,.mv (.t 11)⟩,
⟨some 112,none,.mv (.t 4)⟩,
⟨some 113,none,.bin .lss .no (.t 111) (.t 112)⟩]
@[go_sem] def l6z : List XO := [
⟨some 116,none,.fldA 0 (.tf 1)⟩,
⟨some 117,none,.load false 1 (.tf 116)⟩,
⟨some 118,none,.mv (.t 11)⟩,
⟨some 119,none,.ixA 5 (.t 117) (.t 118)⟩,
⟨some 120,none,.fldA 2 (.t 119)⟩,
⟨some 121,none,.load false 1 (.t 120)⟩,
⟨some 122,none,.mv (.t 4)⟩,
⟨some 123,none,.bin .eql .no (.t 121) (.t 122)⟩]
@[go_sem] def l60 : List XO := [
⟨some 124,none,.mv (.t 5)⟩,
⟨some 125,none,.mv (.t 6)⟩,
⟨some 126,none,.ixA 1 (.t 124) (.t 125)⟩,
⟨some 127,none,.load false 1 (.t 126)⟩,
⟨some 128,none,.mv (.t 7)⟩,
⟨some 129,none,.ixA 1 (.t 127) (.t 128)⟩,
⟨some 130,none,.load false 1 (.t 129)⟩,
⟨some 131,none,.load true 4 (.t 3)⟩,
⟨some 132,none,.mv (.t 11)⟩,
⟨some 133,none,.mv (.t 6)⟩,
⟨some 134,none,.fldA 0 (.tf 1)⟩,
⟨some 135,none,.load false 1 (.tf 134)⟩,
⟨some 136,none,.mv (.t 11)⟩,
⟨some 137,none,.ixA 5 (.t 135) (.t 136)⟩,
⟨some 138,none,.fldA 3 (.t 137)⟩,
⟨some 139,none,.fldA 1 (.t 138)⟩,
⟨some 140,none,.load false 1 (.t 139)⟩,
⟨some 141,none,.bin .sub .no (.t 133) (.t 140)⟩,
⟨some 142,none,.mv (.t 7)⟩,
⟨some 143,none,.fldA 0 (.tf 1)⟩,
⟨some 144,none,.load false 1 (.tf 143)⟩,
⟨some 145,none,.mv (.t 11)⟩,
⟨some 146,none,.ixA 5 (.t 144) (.t 145)⟩,
⟨some 147,none,.fldA 3 (.t 146)⟩,
⟨some 148,none,.fldA 0 (.t 147)⟩,
⟨some 149,none,.load false 1 (.t 148)⟩,
⟨some 150,none,.bin .sub .no (.t 142) (.t 149)⟩,
⟨some 151,none,.call "(newel/newelref06.Bounds).pass" [.t 131, .t 132, .t 141, .t 150]⟩,
⟨some 152,none,.bin .add .no (.t 130) (.t 151)⟩,
⟨some 153,none,.ixA 1 (.t 127) (.t 128)⟩,
⟨none, none, .store 1 (.t 153) (.t 152)⟩]
@[go_sem] def l61 : List XO := [
⟨some 114,none,.mv (.t 11)⟩,
⟨some 115,none,.bin .add .no (.t 114) (.c (.int .i64 1))⟩,
⟨some 11,none,.mv (.t 115)⟩]
def g06 : XCode :=
  (.seq (.seq (.reg l6y) (.cond (.t 113) .skip (.exit 10))) (.seq (.block 11 (.seq (.reg l6z) (.cond (.t 123) (.reg l60) .skip))) (.reg l61)))
@[go_sem] def l62 : List XO := [
⟨some 52,none,.mv (.t 7)⟩,
⟨some 53,none,.bin .add .no (.t 52) (.c (.int .i64 1))⟩,
⟨some 7,none,.mv (.t 53)⟩]
def g07 : XCode :=
  (.seq (.seq (.reg l8b) (.cond (.t 51) .skip (.exit 4))) (.seq (.block 5 (.seq (.seq (.reg l6n) (.block 6 (.loop g05))) (.seq (.reg l6x) (.block 10 (.loop g06))))) (.reg l62)))
@[go_sem] def l63 : List XO := [
⟨some 39,none,.mv (.t 6)⟩,
⟨some 40,none,.bin .add .no (.t 39) (.c (.int .i64 1))⟩,
⟨some 6,none,.mv (.t 40)⟩]
def g08 : XCode :=
  (.seq (.seq (.reg l7z) (.cond (.t 38) .skip (.exit 2))) (.seq (.block 3 (.seq (.reg l78) (.seq (.reg l8a) (.block 4 (.loop g07))))) (.reg l63)))
@[go_sem] def l66 : List XO := [
⟨some 154,none,.load true 4 (.tf 1)⟩,
⟨some 155,none,.mv (.t 4)⟩,
⟨some 156,none,.call "newel/newelref06.rates" [.t 154, .t 155]⟩,
⟨some 12,none,.mv (.t 156)⟩]
@[go_sem] def l67 : List XO := [
⟨some 157,none,.fldA 3 (.tf 1)⟩,
⟨some 158,none,.load false 1 (.tf 157)⟩,
⟨some 159,none,.mksl 1 [(.int .i64 0)] 8 (.t 158) (.t 158)⟩,
⟨some 160,none,.fldA 3 (.tf 1)⟩,
⟨some 161,none,.load false 1 (.tf 160)⟩,
⟨some 162,none,.mksl 1 [(.int .i64 0)] 8 (.t 161) (.t 161)⟩,
⟨some 13,none,.mv (.t 159)⟩,
⟨some 14,none,.mv (.t 162)⟩]
@[go_sem] def l68 : List XO := [
⟨some 15,none,.mv (.c (.int .i64 0))⟩]
@[go_sem] def l69 : List XO := [
⟨some 163,none,.mv (.t 15)⟩,
⟨some 164,none,.fldA 3 (.tf 1)⟩,
⟨some 165,none,.load false 1 (.tf 164)⟩,
⟨some 166,none,.bin .lss .no (.t 163) (.t 165)⟩]
@[go_sem] def l7a : List XO := [
⟨some 16,none,.mv (.c (.int .i64 0))⟩]
@[go_sem] def l7b : List XO := [
⟨some 169,none,.mv (.t 15)⟩,
⟨some 17,none,.mv (.t 169)⟩]
@[go_sem] def l7c : List XO := [
⟨some 170,none,.mv (.t 17)⟩,
⟨some 171,none,.bin .geq .no (.t 170) (.c (.int .i64 0))⟩]
@[go_sem] def l7d : List XO := [
⟨some 174,none,.mv (.t 13)⟩,
⟨some 175,none,.mv (.t 15)⟩,
⟨some 176,none,.mv (.t 13)⟩,
⟨some 177,none,.mv (.t 15)⟩,
⟨some 178,none,.ixA 1 (.t 176) (.t 177)⟩,
⟨some 179,none,.load false 1 (.t 178)⟩,
⟨some 180,none,.mv (.t 5)⟩,
⟨some 181,none,.mv (.t 17)⟩,
⟨some 182,none,.ixA 1 (.t 180) (.t 181)⟩,
⟨some 183,none,.load false 1 (.t 182)⟩,
⟨some 184,none,.mv (.t 15)⟩,
⟨some 185,none,.ixA 1 (.t 183) (.t 184)⟩,
⟨some 186,none,.load false 1 (.t 185)⟩,
⟨some 187,none,.mv (.t 16)⟩,
⟨some 188,none,.bin .sub .no (.t 186) (.t 187)⟩,
⟨some 189,none,.max [.t 179, .t 188]⟩,
⟨some 190,none,.ixA 1 (.t 174) (.t 175)⟩,
⟨none, none, .store 1 (.t 190) (.t 189)⟩]
@[go_sem] def l7e : List XO := [
⟨some 191,none,.mv (.t 17)⟩,
⟨some 192,none,.bin .gtr .no (.t 191) (.c (.int .i64 0))⟩]
@[go_sem] def l7g : List XO := [
⟨some 193,none,.mv (.t 16)⟩,
⟨some 194,none,.mv (.t 12)⟩,
⟨some 195,none,.mv (.t 17)⟩,
⟨some 196,none,.bin .sub .no (.t 195) (.c (.int .i64 1))⟩,
⟨some 197,none,.ixA 1 (.t 194) (.t 196)⟩,
⟨some 198,none,.load false 1 (.t 197)⟩,
⟨some 199,none,.bin .add .no (.t 193) (.t 198)⟩,
⟨some 16,none,.mv (.t 199)⟩]
@[go_sem] def l7h : List XO := [
⟨some 172,none,.mv (.t 17)⟩,
⟨some 173,none,.bin .sub .no (.t 172) (.c (.int .i64 1))⟩,
⟨some 17,none,.mv (.t 173)⟩]
def g09 : XCode :=
  (.seq (.seq (.reg l7c) (.cond (.t 171) .skip (.exit 14))) (.seq (.block 15 (.seq (.reg l7d) (.seq (.reg l7e) (.cond (.t 192) (.reg l7g) .skip)))) (.reg l7h)))
@[go_sem] def l7i : List XO := [
⟨some 200,none,.mv (.t 14)⟩,
⟨some 201,none,.mv (.t 15)⟩,
⟨some 202,none,.mv (.t 12)⟩,
⟨some 203,none,.mv (.t 15)⟩,
⟨some 204,none,.ixA 1 (.t 202) (.t 203)⟩,
⟨some 205,none,.load false 1 (.t 204)⟩,
⟨some 206,none,.mv (.t 13)⟩,
⟨some 207,none,.mv (.t 15)⟩,
⟨some 208,none,.ixA 1 (.t 206) (.t 207)⟩,
⟨some 209,none,.load false 1 (.t 208)⟩,
⟨some 210,none,.min [.t 205, .t 209]⟩,
⟨some 211,none,.ixA 1 (.t 200) (.t 201)⟩,
⟨none, none, .store 1 (.t 211) (.t 210)⟩]
@[go_sem] def l7j : List XO := [
⟨some 167,none,.mv (.t 15)⟩,
⟨some 168,none,.bin .add .no (.t 167) (.c (.int .i64 1))⟩,
⟨some 15,none,.mv (.t 168)⟩]
def g1a : XCode :=
  (.seq (.seq (.reg l69) (.cond (.t 166) .skip (.exit 12))) (.seq (.block 13 (.seq (.reg l7a) (.seq (.seq (.reg l7b) (.block 14 (.loop g09))) (.reg l7i)))) (.reg l7j)))
@[go_sem] def l7k : List XO := [
⟨some 212,none,.fldA 3 (.tf 1)⟩,
⟨some 213,none,.load false 1 (.tf 212)⟩,
⟨some 214,none,.mksl 1 [(.slice none 0 0)] 24 (.t 213) (.t 213)⟩,
⟨some 18,none,.mv (.t 214)⟩]
@[go_sem] def l7l : List XO := [
⟨some 19,none,.mv (.c (.int .i64 0))⟩]
@[go_sem] def l7m : List XO := [
⟨some 215,none,.mv (.t 19)⟩,
⟨some 216,none,.fldA 3 (.tf 1)⟩,
⟨some 217,none,.load false 1 (.tf 216)⟩,
⟨some 218,none,.bin .lss .no (.t 215) (.t 217)⟩]
@[go_sem] def l7n : List XO := [
⟨some 221,none,.mv (.t 18)⟩,
⟨some 222,none,.mv (.t 19)⟩,
⟨some 223,none,.fldA 3 (.tf 1)⟩,
⟨some 224,none,.load false 1 (.tf 223)⟩,
⟨some 225,none,.mksl 1 [(.int .i64 0)] 8 (.t 224) (.t 224)⟩,
⟨some 226,none,.ixA 1 (.t 221) (.t 222)⟩,
⟨none, none, .store 1 (.t 226) (.t 225)⟩]
@[go_sem] def l7p : List XO := [
⟨some 227,none,.mv (.t 19)⟩,
⟨some 20,none,.mv (.t 227)⟩]
@[go_sem] def l7q : List XO := [
⟨some 228,none,.mv (.t 20)⟩,
⟨some 229,none,.fldA 3 (.tf 1)⟩,
⟨some 230,none,.load false 1 (.tf 229)⟩,
⟨some 231,none,.bin .lss .no (.t 228) (.t 230)⟩]
@[go_sem] def l7r : List XO := [
⟨some 234,none,.mv (.t 5)⟩,
⟨some 235,none,.ixA 1 (.t 234) (.c (.int .i64 0))⟩,
⟨some 236,none,.load false 1 (.t 235)⟩,
⟨some 237,none,.mv (.t 20)⟩,
⟨some 238,none,.ixA 1 (.t 236) (.t 237)⟩,
⟨some 239,none,.load false 1 (.t 238)⟩,
⟨some 21,none,.mv (.t 239)⟩,
⟨some 22,none,.mv (.c (.int .i64 0))⟩]
@[go_sem] def l7s : List XO := [
⟨some 240,none,.mv (.t 19)⟩,
⟨some 23,none,.mv (.t 240)⟩]
@[go_sem] def l7t : List XO := [
⟨some 241,none,.mv (.t 23)⟩,
⟨some 242,none,.mv (.t 20)⟩,
⟨some 243,none,.bin .leq .no (.t 241) (.t 242)⟩]
@[go_sem] def l7u : List XO := [
⟨some 24,none,.mv (.c (.int .i64 0))⟩]
@[go_sem] def l7v : List XO := [
⟨some 246,none,.mv (.t 23)⟩,
⟨some 247,none,.mv (.t 20)⟩,
⟨some 248,none,.bin .lss .no (.t 246) (.t 247)⟩]
@[go_sem] def l7w : List XO := [
⟨some 249,none,.mv (.t 5)⟩,
⟨some 250,none,.mv (.t 23)⟩,
⟨some 251,none,.bin .add .no (.t 250) (.c (.int .i64 1))⟩,
⟨some 252,none,.ixA 1 (.t 249) (.t 251)⟩,
⟨some 253,none,.load false 1 (.t 252)⟩,
⟨some 254,none,.mv (.t 20)⟩,
⟨some 255,none,.ixA 1 (.t 253) (.t 254)⟩,
⟨some 256,none,.load false 1 (.t 255)⟩,
⟨some 24,none,.mv (.t 256)⟩]
@[go_sem] def l7x : List XO := [
⟨some 257,none,.mv (.t 21)⟩,
⟨some 258,none,.mv (.t 22)⟩,
⟨some 259,none,.mv (.t 13)⟩,
⟨some 260,none,.mv (.t 23)⟩,
⟨some 261,none,.ixA 1 (.t 259) (.t 260)⟩,
⟨some 262,none,.load false 1 (.t 261)⟩,
⟨some 263,none,.bin .add .no (.t 258) (.t 262)⟩,
⟨some 264,none,.mv (.t 24)⟩,
⟨some 265,none,.bin .add .no (.t 263) (.t 264)⟩,
⟨some 266,none,.min [.t 257, .t 265]⟩,
⟨some 21,none,.mv (.t 266)⟩]
@[go_sem] def l7y : List XO := [
⟨some 267,none,.mv (.t 22)⟩,
⟨some 268,none,.mv (.t 14)⟩,
⟨some 269,none,.mv (.t 23)⟩,
⟨some 270,none,.ixA 1 (.t 268) (.t 269)⟩,
⟨some 271,none,.load false 1 (.t 270)⟩,
⟨some 272,none,.bin .add .no (.t 267) (.t 271)⟩,
⟨some 22,none,.mv (.t 272)⟩]
@[go_sem] def l70 : List XO := [
⟨some 244,none,.mv (.t 23)⟩,
⟨some 245,none,.bin .add .no (.t 244) (.c (.int .i64 1))⟩,
⟨some 23,none,.mv (.t 245)⟩]
def g1b : XCode :=
  (.seq (.seq (.reg l7t) (.cond (.t 243) .skip (.exit 20))) (.seq (.block 21 (.seq (.reg l7u) (.seq (.seq (.reg l7v) (.cond (.t 248) (.reg l7w) .skip)) (.seq (.reg l7x) (.reg l7y))))) (.reg l70)))
@[go_sem] def l71 : List XO := [
⟨some 273,none,.mv (.t 18)⟩,
⟨some 274,none,.mv (.t 19)⟩,
⟨some 275,none,.ixA 1 (.t 273) (.t 274)⟩,
⟨some 276,none,.load false 1 (.t 275)⟩,
⟨some 277,none,.mv (.t 20)⟩,
⟨some 278,none,.mv (.t 21)⟩,
⟨some 279,none,.mv (.t 22)⟩,
⟨some 280,none,.min [.t 278, .t 279]⟩,
⟨some 281,none,.ixA 1 (.t 276) (.t 277)⟩,
⟨none, none, .store 1 (.t 281) (.t 280)⟩]
@[go_sem] def l72 : List XO := [
⟨some 232,none,.mv (.t 20)⟩,
⟨some 233,none,.bin .add .no (.t 232) (.c (.int .i64 1))⟩,
⟨some 20,none,.mv (.t 233)⟩]
def g1c : XCode :=
  (.seq (.seq (.reg l7q) (.cond (.t 231) .skip (.exit 18))) (.seq (.block 19 (.seq (.reg l7r) (.seq (.seq (.reg l7s) (.block 20 (.loop g1b))) (.reg l71)))) (.reg l72)))
@[go_sem] def l73 : List XO := [
⟨some 219,none,.mv (.t 19)⟩,
⟨some 220,none,.bin .add .no (.t 219) (.c (.int .i64 1))⟩,
⟨some 19,none,.mv (.t 220)⟩]
def g1d : XCode :=
  (.seq (.seq (.reg l7m) (.cond (.t 218) .skip (.exit 16))) (.seq (.block 17 (.seq (.reg l7n) (.seq (.reg l7p) (.block 18 (.loop g1c))))) (.reg l73)))
@[go_sem] def l74 : List XO := [
⟨some 282,none,.fldA 0 (.t 3)⟩,
⟨some 283,none,.load false 1 (.t 282)⟩,
⟨some 284,none,.mv (.t 13)⟩,
⟨some 285,none,.bsl 1 [.t 284]⟩,
⟨some 286,none,.app 1 24 (.t 283) (.t 285)⟩,
⟨some 287,none,.fldA 1 (.t 3)⟩,
⟨some 288,none,.load false 1 (.t 287)⟩,
⟨some 289,none,.mv (.t 14)⟩,
⟨some 290,none,.bsl 1 [.t 289]⟩,
⟨some 291,none,.app 1 24 (.t 288) (.t 290)⟩,
⟨some 292,none,.fldA 0 (.t 3)⟩,
⟨none, none, .store 1 (.t 292) (.t 286)⟩,
⟨some 293,none,.fldA 1 (.t 3)⟩,
⟨none, none, .store 1 (.t 293) (.t 291)⟩]
@[go_sem] def l75 : List XO := [
⟨some 294,none,.fldA 2 (.t 3)⟩,
⟨some 295,none,.load false 1 (.t 294)⟩,
⟨some 296,none,.mv (.t 5)⟩,
⟨some 297,none,.bsl 1 [.t 296]⟩,
⟨some 298,none,.app 1 24 (.t 295) (.t 297)⟩,
⟨some 299,none,.fldA 3 (.t 3)⟩,
⟨some 300,none,.load false 1 (.t 299)⟩,
⟨some 301,none,.mv (.t 18)⟩,
⟨some 302,none,.bsl 1 [.t 301]⟩,
⟨some 303,none,.app 1 24 (.t 300) (.t 302)⟩,
⟨some 304,none,.fldA 2 (.t 3)⟩,
⟨none, none, .store 1 (.t 304) (.t 298)⟩,
⟨some 305,none,.fldA 3 (.t 3)⟩,
⟨none, none, .store 1 (.t 305) (.t 303)⟩]
@[go_sem] def l77 : List XO := [
⟨some 30,none,.mv (.t 4)⟩,
⟨some 31,none,.bin .add .no (.t 30) (.c (.int .i64 1))⟩,
⟨some 4,none,.mv (.t 31)⟩]
def g1e : XCode :=
  (.seq (.seq (.reg l64) (.cond (.t 29) .skip (.exit 0))) (.seq (.block 1 (.seq (.reg l7f) (.seq (.seq (.reg l7o) (.block 2 (.loop g08))) (.seq (.reg l66) (.seq (.reg l67) (.seq (.seq (.reg l68) (.block 12 (.loop g1a))) (.seq (.reg l7k) (.seq (.seq (.reg l7l) (.block 16 (.loop g1d))) (.seq (.seq .ghost (.seq .ghost (.reg l74))) (.seq .ghost (.seq .ghost (.reg l75)))))))))))) (.reg l77)))
@[go_sem] def l79 : List XO := [
⟨some 306,none,.load true 4 (.t 3)⟩,
⟨none, none, .store 4 (.t 2) (.t 306)⟩]
def x_r06_All : XFunc := { np := 1, res := [.cell 2 true 4], body :=
  (.seq (.reg l6l) (.seq (.reg l6m) (.seq (.seq (.reg l6w) (.block 0 (.loop g1e))) (.seq (.reg l79) .ret)))) }
@[go_sem] def m08 : List XO := [
⟨some 4,none,.mv (.c (.bool false))⟩]
@[go_sem] def m09 : List XO := [
⟨some 5,none,.mv (.t 0)⟩,
⟨some 6,none,.mv (.t 1)⟩,
⟨some 7,none,.call "slices.IndexFunc[[]newel/api.Comb,newel/api.Comb]" [.t 5, .t 6]⟩,
⟨some 8,none,.bin .geq .no (.t 7) (.c (.int .i64 0))⟩,
⟨some 4,none,.mv (.t 8)⟩]
def x_slices_ContainsFunc___api_Comb_api_Comb_ : XFunc := { np := 2, res := [.t 4], body :=
  (.seq (.reg m08) (.seq (.reg m09) .ret)) }
@[go_sem] def l00 : List XO := [
⟨some 2,none,.boxF (.t 0)⟩,
⟨some 3,none,.mv (.c (.bool false))⟩]
@[go_sem] def l01 : List XO := [
⟨some 4,none,.fldA 2 (.tf 2)⟩,
⟨some 5,none,.load false 1 (.tf 4)⟩,
⟨some 6,none,.load false 1 (.t 1)⟩,
⟨some 7,none,.bin .eql .no (.t 5) (.t 6)⟩,
⟨some 3,none,.mv (.t 7)⟩]
def x_halls_WitnessD1 : XFunc := { np := 2, res := [.t 3], body :=
  (.seq (.reg l00) (.seq (.reg l01) .ret)) }
@[go_sem] def l44 : List XO := [
⟨some 2,none,.boxF (.t 0)⟩,
⟨some 4,none,.mv (.c (.slice none 0 0))⟩]
@[go_sem] def l45 : List XO := [
⟨some 9,none,.fldA 3 (.tf 2)⟩,
⟨some 10,none,.load false 1 (.tf 9)⟩,
⟨some 11,none,.mksl 1 [(.int .i64 0)] 8 (.t 10) (.t 10)⟩,
⟨some 5,none,.mv (.t 11)⟩]
@[go_sem] def l5c : List XO := [
⟨some 12,none,.fldA 0 (.tf 2)⟩,
⟨some 13,none,.load false 1 (.tf 12)⟩,
⟨some 14,none,.mv (.t 1)⟩,
⟨some 15,none,.ixA 5 (.t 13) (.t 14)⟩,
⟨some 16,none,.fldA 0 (.t 15)⟩,
⟨some 17,none,.load false 1 (.t 16)⟩,
⟨some 6,none,.mv (.t 17)⟩,
⟨some 7,none,.mv (.c (.int .i64 0))⟩]
@[go_sem] def l5d : List XO := [
⟨some 18,none,.mv (.t 5)⟩,
⟨some 19,none,.len false (.t 18)⟩,
⟨some 20,none,.mv (.c (.int .i64 0))⟩]
@[go_sem] def l5e : List XO := [
⟨some 21,none,.bin .lss .no (.t 20) (.t 19)⟩]
@[go_sem] def l5f : List XO := [
⟨some 22,none,.mv (.t 20)⟩,
⟨some 8,none,.mv (.t 22)⟩]
@[go_sem] def l5g : List XO := [
⟨some 23,none,.mv (.t 7)⟩,
⟨some 24,none,.fldA 2 (.tf 2)⟩,
⟨some 25,none,.load false 1 (.tf 24)⟩,
⟨some 26,none,.len false (.t 25)⟩,
⟨some 27,none,.bin .lss .no (.t 23) (.t 26)⟩,
⟨some 28,none,.mv (.t 27)⟩,
⟨(some 29), (some (28, true)), .fldA 2 (.tf 2)⟩,
⟨(some 30), (some (28, true)), .load false 1 (.tf 29)⟩,
⟨(some 31), (some (28, true)), .mv (.t 7)⟩,
⟨(some 32), (some (28, true)), .ixA 3 (.t 30) (.t 31)⟩,
⟨(some 33), (some (28, true)), .fldA 0 (.t 32)⟩,
⟨(some 34), (some (28, true)), .load false 1 (.t 33)⟩,
⟨(some 35), (some (28, true)), .mv (.t 8)⟩,
⟨(some 36), (some (28, true)), .bin .leq .no (.t 34) (.t 35)⟩,
⟨some 37,none,.pick (.t 28) (.t 36) (.c (.bool false))⟩]
@[go_sem] def l5h : List XO := [
⟨some 40,none,.fldA 2 (.tf 2)⟩,
⟨some 41,none,.load false 1 (.tf 40)⟩,
⟨some 42,none,.mv (.t 7)⟩,
⟨some 43,none,.ixA 3 (.t 41) (.t 42)⟩,
⟨some 44,none,.fldA 1 (.t 43)⟩,
⟨some 45,none,.load false 1 (.t 44)⟩,
⟨some 46,none,.mv (.t 1)⟩,
⟨some 47,none,.bin .eql .no (.t 45) (.t 46)⟩]
@[go_sem] def l5i : List XO := [
⟨some 48,none,.fldA 2 (.tf 2)⟩,
⟨some 49,none,.load false 1 (.tf 48)⟩,
⟨some 50,none,.mv (.t 7)⟩,
⟨some 51,none,.ixA 3 (.t 49) (.t 50)⟩,
⟨some 52,none,.fldA 2 (.t 51)⟩,
⟨some 53,none,.load false 1 (.t 52)⟩,
⟨some 6,none,.mv (.t 53)⟩]
@[go_sem] def l5j : List XO := [
⟨some 38,none,.mv (.t 7)⟩,
⟨some 39,none,.bin .add .no (.t 38) (.c (.int .i64 1))⟩,
⟨some 7,none,.mv (.t 39)⟩]
def g00 : XCode :=
  (.seq (.seq (.reg l5g) (.cond (.t 37) .skip (.exit 2))) (.seq (.block 3 (.seq (.reg l5h) (.cond (.t 47) (.reg l5i) .skip))) (.reg l5j)))
@[go_sem] def l48 : List XO := [
⟨some 54,none,.mv (.t 5)⟩,
⟨some 55,none,.mv (.t 8)⟩,
⟨some 56,none,.mv (.t 6)⟩,
⟨some 57,none,.ixA 1 (.t 54) (.t 55)⟩,
⟨none, none, .store 1 (.t 57) (.t 56)⟩]
@[go_sem] def l5a : List XO := [
⟨some 58,none,.bin .add .no (.t 20) (.c (.int .i64 1))⟩,
⟨some 20,none,.mv (.t 58)⟩]
def g01 : XCode :=
  (.seq (.reg l5e) (.seq (.cond (.t 21) .skip (.exit 0)) (.seq (.block 1 (.seq (.reg l5f) (.seq (.block 2 (.loop g00)) (.reg l48)))) (.reg l5a))))
@[go_sem] def l5b : List XO := [
⟨some 59,none,.mv (.t 5)⟩,
⟨some 4,none,.mv (.t 59)⟩]
def x_halls_rates : XFunc := { np := 2, res := [.t 4], body :=
  (.seq (.reg l44) (.seq (.reg l45) (.seq (.reg l5c) (.seq (.seq (.reg l5d) (.block 0 (.loop g01))) (.seq (.reg l5b) .ret))))) }
@[go_sem] def l36 : List XO := [
⟨some 2,none,.boxF (.t 0)⟩,
⟨some 4,none,.mv (.c (.bool false))⟩]
@[go_sem] def l37 : List XO := [
⟨some 6,none,.fldA 0 (.tf 2)⟩,
⟨some 7,none,.load false 1 (.tf 6)⟩,
⟨some 8,none,.mv (.t 1)⟩,
⟨some 9,none,.ixA 5 (.t 7) (.t 8)⟩,
⟨some 10,none,.load true 5 (.t 9)⟩,
⟨some 5,none,.alloc [(.int .i64 0), (.int .i64 0), (.int .i64 0), (.int .i64 0), (.int .i64 0)]⟩,
⟨none, none, .store 5 (.t 5) (.t 10)⟩]
@[go_sem] def l38 : List XO := [
⟨some 11,none,.fldA 0 (.t 5)⟩,
⟨some 12,none,.load false 1 (.t 11)⟩,
⟨some 13,none,.build [(.int .i64 0), (.int .i64 0)] [(1, 1, (.c (.int .i64 1000)))]⟩,
⟨some 14,none,.call "newel/halls.in" [.t 12, .t 13]⟩,
⟨some 15,none,.mv (.t 14)⟩,
⟨(some 16), (some (15, true)), .fldA 1 (.t 5)⟩,
⟨(some 17), (some (15, true)), .load false 1 (.t 16)⟩,
⟨(some 18), (some (15, true)), .build [(.int .i64 0), (.int .i64 0)] [(1, 1, (.c (.int .i64 100000)))]⟩,
⟨(some 19), (some (15, true)), .call "newel/halls.in" [.t 17, .t 18]⟩,
⟨some 20,none,.pick (.t 15) (.t 19) (.c (.bool false))⟩,
⟨some 21,none,.mv (.t 20)⟩,
⟨(some 22), (some (21, true)), .fldA 2 (.t 5)⟩,
⟨(some 23), (some (21, true)), .load false 1 (.t 22)⟩,
⟨(some 24), (some (21, true)), .bin .eql .no (.t 23) (.c (.int .i64 (-1)))⟩,
⟨(some 25), (some (21, true)), .mv (.t 24)⟩,
⟨(some 26), (some (25, false)), .fldA 2 (.t 5)⟩,
⟨(some 27), (some (25, false)), .load false 1 (.t 26)⟩,
⟨(some 28), (some (25, false)), .mv (.t 1)⟩,
⟨(some 29), (some (25, false)), .bin .gtr .no (.t 27) (.t 28)⟩,
⟨(some 30), (some (25, false)), .mv (.t 29)⟩,
⟨(some 31), (some (30, true)), .fldA 2 (.t 5)⟩,
⟨(some 32), (some (30, true)), .load false 1 (.t 31)⟩,
⟨(some 33), (some (30, true)), .fldA 0 (.tf 2)⟩,
⟨(some 34), (some (30, true)), .load false 1 (.tf 33)⟩,
⟨(some 35), (some (30, true)), .len false (.t 34)⟩,
⟨(some 36), (some (30, true)), .bin .lss .no (.t 32) (.t 35)⟩,
⟨(some 37), (some (25, false)), .pick (.t 30) (.t 36) (.c (.bool false))⟩,
⟨(some 38), (some (21, true)), .pick (.t 25) (.c (.bool true)) (.t 37)⟩,
⟨some 39,none,.pick (.t 21) (.t 38) (.c (.bool false))⟩,
⟨some 40,none,.mv (.t 39)⟩,
⟨(some 41), (some (40, true)), .fldA 3 (.t 5)⟩,
⟨(some 42), (some (40, true)), .load true 2 (.t 41)⟩,
⟨(some 43), (some (40, true)), .call "newel/halls.span" [.t 42, (.c (.int .i64 1)), (.c (.int .i64 20))]⟩,
⟨some 44,none,.pick (.t 40) (.t 43) (.c (.bool false))⟩,
⟨some 4,none,.mv (.t 44)⟩]
def x_halls_isComb : XFunc := { np := 2, res := [.t 4], body :=
  (.seq (.reg l36) (.seq (.reg l37) (.seq (.reg l38) .ret))) }
@[go_sem] def m1a : List XO := [
⟨some 4,none,.mv (.c (.bool false))⟩]
@[go_sem] def m1b : List XO := [
⟨some 5,none,.mv (.t 0)⟩,
⟨some 6,none,.mv (.t 1)⟩,
⟨some 7,none,.call "slices.IndexFunc[[]newel/api.Train,newel/api.Train]" [.t 5, .t 6]⟩,
⟨some 8,none,.bin .geq .no (.t 7) (.c (.int .i64 0))⟩,
⟨some 4,none,.mv (.t 8)⟩]
def x_slices_ContainsFunc___api_Train_api_Train_ : XFunc := { np := 2, res := [.t 4], body :=
  (.seq (.reg m1a) (.seq (.reg m1b) .ret)) }
@[go_sem] def j9z : List XO := [
⟨some 2,none,.boxF (.t 0)⟩,
⟨some 3,none,.mv (.c (.bool false))⟩]
@[go_sem] def j90 : List XO := [
⟨some 4,none,.load true 4 (.t 1)⟩,
⟨some 5,none,.load true 3 (.tf 2)⟩,
⟨some 6,none,.call "newel/halls.isTrain" [.t 4, .t 5]⟩,
⟨some 7,none,.un .not (.t 6)⟩,
⟨some 3,none,.mv (.t 7)⟩]
def x_halls_CheckD1 : XFunc := { np := 2, res := [.t 3], body :=
  (.seq (.reg j9z) (.seq (.reg j90) .ret)) }
@[go_sem] def l4a : List XO := [
⟨some 2,none,.boxF (.t 0)⟩,
⟨some 3,none,.boxF (.t 1)⟩,
⟨some 4,none,.mv (.c (.bool false))⟩]
@[go_sem] def l4b : List XO := [
⟨some 5,none,.mv (.c (.int .i64 (-1)))⟩]
@[go_sem] def l4d : List XO := [
⟨some 8,none,.fldA 2 (.tf 3)⟩,
⟨some 9,none,.load false 1 (.tf 8)⟩,
⟨some 10,none,.len false (.t 9)⟩,
⟨some 11,none,.mv (.c (.int .i64 0))⟩]
@[go_sem] def l4e : List XO := [
⟨some 12,none,.bin .lss .no (.t 11) (.t 10)⟩]
@[go_sem] def l4f : List XO := [
⟨some 13,none,.ixA 3 (.t 9) (.t 11)⟩,
⟨some 14,none,.load true 3 (.t 13)⟩,
⟨some 7,none,.alloc [(.int .i64 0), (.int .i64 0), (.int .i64 0)]⟩,
⟨none, none, .store 3 (.t 7) (.t 14)⟩]
@[go_sem] def l4g : List XO := [
⟨some 15,none,.fldA 0 (.t 7)⟩,
⟨some 16,none,.load false 1 (.t 15)⟩,
⟨some 17,none,.mv (.t 5)⟩,
⟨some 18,none,.bin .leq .no (.t 16) (.t 17)⟩,
⟨some 19,none,.mv (.t 18)⟩,
⟨(some 20), (some (19, false)), .fldA 0 (.t 7)⟩,
⟨(some 21), (some (19, false)), .load false 1 (.t 20)⟩,
⟨(some 22), (some (19, false)), .fldA 0 (.tf 2)⟩,
⟨(some 23), (some (19, false)), .load false 1 (.tf 22)⟩,
⟨(some 24), (some (19, false)), .len false (.t 23)⟩,
⟨(some 25), (some (19, false)), .bin .geq .no (.t 21) (.t 24)⟩,
⟨some 26,none,.pick (.t 19) (.c (.bool true)) (.t 25)⟩,
⟨some 27,none,.mv (.t 26)⟩,
⟨(some 28), (some (27, false)), .fldA 1 (.t 7)⟩,
⟨(some 29), (some (27, false)), .load true 2 (.t 28)⟩,
⟨(some 30), (some (27, false)), .call "newel/halls.span" [.t 29, (.c (.int .i64 0)), (.c (.int .i64 1000))]⟩,
⟨(some 31), (some (27, false)), .un .not (.t 30)⟩,
⟨some 32,none,.pick (.t 27) (.c (.bool true)) (.t 31)⟩]
@[go_sem] def l4h : List XO := [
⟨some 4,none,.mv (.c (.bool false))⟩]
@[go_sem] def l4i : List XO := [
⟨some 33,none,.fldA 0 (.t 7)⟩,
⟨some 34,none,.load false 1 (.t 33)⟩,
⟨some 5,none,.mv (.t 34)⟩]
@[go_sem] def l4j : List XO := [
⟨some 35,none,.bin .add .no (.t 11) (.c (.int .i64 1))⟩,
⟨some 11,none,.mv (.t 35)⟩]
def g0x : XCode :=
  (.seq (.reg l4e) (.seq (.cond (.t 12) .skip (.exit 0)) (.seq (.block 1 (.seq (.reg l4f) (.seq (.seq (.reg l4g) (.cond (.t 32) (.seq (.reg l4h) .ret) .skip)) (.reg l4i)))) (.reg l4j))))
@[go_sem] def l4c : List XO := [
⟨some 36,none,.fldA 0 (.tf 3)⟩,
⟨some 37,none,.load true 2 (.tf 36)⟩,
⟨some 38,none,.fldA 3 (.tf 2)⟩,
⟨some 39,none,.load false 1 (.tf 38)⟩,
⟨some 40,none,.bin .sub .no (.t 39) (.c (.int .i64 1))⟩,
⟨some 41,none,.call "newel/halls.span" [.t 37, (.c (.int .i64 0)), .t 40]⟩,
⟨some 42,none,.mv (.t 41)⟩,
⟨(some 43), (some (42, true)), .fldA 2 (.tf 3)⟩,
⟨(some 44), (some (42, true)), .load false 1 (.tf 43)⟩,
⟨(some 45), (some (42, true)), .len false (.t 44)⟩,
⟨(some 46), (some (42, true)), .bin .leq .no (.t 45) (.c (.int .i64 4))⟩,
⟨some 47,none,.pick (.t 42) (.t 46) (.c (.bool false))⟩,
⟨some 4,none,.mv (.t 47)⟩]
def x_halls_isTrain : XFunc := { np := 2, res := [.t 4], body :=
  (.seq (.reg l4a) (.seq (.reg l4b) (.seq (.seq (.reg l4d) (.block 0 (.loop g0x))) (.seq (.reg l4c) .ret)))) }
@[go_sem] def l34 : List XO := [
⟨some 3,none,.boxF (.t 1)⟩,
⟨some 4,none,.mv (.c (.bool false))⟩]
@[go_sem] def l35 : List XO := [
⟨some 5,none,.fldA 0 (.tf 3)⟩,
⟨some 6,none,.load false 1 (.tf 5)⟩,
⟨some 7,none,.mv (.t 0)⟩,
⟨some 8,none,.bin .leq .no (.t 6) (.t 7)⟩,
⟨some 9,none,.mv (.t 8)⟩,
⟨(some 10), (some (9, true)), .mv (.t 0)⟩,
⟨(some 11), (some (9, true)), .fldA 1 (.tf 3)⟩,
⟨(some 12), (some (9, true)), .load false 1 (.tf 11)⟩,
⟨(some 13), (some (9, true)), .bin .leq .no (.t 10) (.t 12)⟩,
⟨some 14,none,.pick (.t 9) (.t 13) (.c (.bool false))⟩,
⟨some 4,none,.mv (.t 14)⟩]
def x_halls_in : XFunc := { np := 2, res := [.t 4], body :=
  (.seq (.reg l34) (.seq (.reg l35) .ret)) }
@[go_sem] def m1c : List XO := [
⟨some 4,none,.mv (.c (.bool false))⟩]
@[go_sem] def m1d : List XO := [
⟨some 5,none,.mv (.t 0)⟩,
⟨some 6,none,.mv (.t 1)⟩,
⟨some 7,none,.call "slices.IndexFunc[[]int,int]" [.t 5, .t 6]⟩,
⟨some 8,none,.bin .geq .no (.t 7) (.c (.int .i64 0))⟩,
⟨some 4,none,.mv (.t 8)⟩]
def x_slices_ContainsFunc___int_int_ : XFunc := { np := 2, res := [.t 4], body :=
  (.seq (.reg m1c) (.seq (.reg m1d) .ret)) }
@[go_sem] def l3t : List XO := [
⟨some 3,none,.mv (.c (.bool false))⟩]
@[go_sem] def l3u : List XO := [
⟨some 4,none,.mv (.t 0)⟩,
⟨some 5,none,.bin .lss .no (.t 4) (.c (.int .i64 0))⟩,
⟨some 6,none,.mv (.t 5)⟩,
⟨(some 7), (some (6, false)), .mv (.t 0)⟩,
⟨(some 8), (some (6, false)), .fldA 3 (.t 1)⟩,
⟨(some 9), (some (6, false)), .load false 1 (.t 8)⟩,
⟨(some 10), (some (6, false)), .bin .geq .no (.t 7) (.t 9)⟩,
⟨some 11,none,.pick (.t 6) (.c (.bool true)) (.t 10)⟩,
⟨some 3,none,.mv (.t 11)⟩]
def x_halls_checkD1 : XFunc := { np := 2, res := [.t 3], body :=
  (.seq (.reg l3t) (.seq (.reg l3u) .ret)) }
@[go_sem] def m1u : List XO := [
⟨some 4,none,.mv (.c (.int .i64 0))⟩]
@[go_sem] def m1v : List XO := [
⟨some 6,none,.mv (.t 0)⟩,
⟨some 7,none,.len false (.t 6)⟩,
⟨some 8,none,.mv (.c (.int .i64 0))⟩]
@[go_sem] def m1w : List XO := [
⟨some 9,none,.bin .lss .no (.t 8) (.t 7)⟩]
@[go_sem] def m1x : List XO := [
⟨some 10,none,.mv (.t 8)⟩,
⟨some 5,none,.mv (.t 10)⟩]
@[go_sem] def m1y : List XO := [
⟨some 11,none,.mv (.t 1)⟩,
⟨some 12,none,.mv (.t 0)⟩,
⟨some 13,none,.mv (.t 5)⟩,
⟨some 14,none,.ixA 1 (.t 12) (.t 13)⟩,
⟨some 15,none,.load false 1 (.t 14)⟩,
⟨some 16,none,.callv (.t 11) [.t 15]⟩]
@[go_sem] def m1z : List XO := [
⟨some 17,none,.mv (.t 5)⟩,
⟨some 4,none,.mv (.t 17)⟩]
@[go_sem] def m10 : List XO := [
⟨some 18,none,.bin .add .no (.t 8) (.c (.int .i64 1))⟩,
⟨some 8,none,.mv (.t 18)⟩]
def g1t : XCode :=
  (.seq (.reg m1w) (.seq (.cond (.t 9) .skip (.exit 0)) (.seq (.block 1 (.seq (.reg m1x) (.seq (.reg m1y) (.cond (.t 16) (.seq (.reg m1z) .ret) .skip)))) (.reg m10))))
@[go_sem] def m11 : List XO := [
⟨some 4,none,.mv (.c (.int .i64 (-1)))⟩]
def x_slices_IndexFunc___int_int_ : XFunc := { np := 2, res := [.t 4], body :=
  (.seq (.reg m1u) (.seq (.seq (.reg m1v) (.block 0 (.loop g1t))) (.seq (.reg m11) .ret))) }
@[go_sem] def l4r : List XO := [
⟨some 4,none,.mv (.c (.bool false))⟩]
@[go_sem] def l4s : List XO := [
⟨some 5,none,.mv (.t 0)⟩,
⟨some 6,none,.fldA 0 (.t 1)⟩,
⟨some 7,none,.load false 1 (.t 6)⟩,
⟨some 8,none,.load false 1 (.t 2)⟩,
⟨some 9,none,.ixA 5 (.t 7) (.t 8)⟩,
⟨some 10,none,.fldA 1 (.t 9)⟩,
⟨some 11,none,.load false 1 (.t 10)⟩,
⟨some 12,none,.bin .gtr .no (.t 5) (.t 11)⟩,
⟨some 4,none,.mv (.t 12)⟩]
def x_halls_overD1 : XFunc := { np := 3, res := [.t 4], body :=
  (.seq (.reg l4r) (.seq (.reg l4s) .ret)) }
@[go_sem] def l3g : List XO := [
⟨some 4,none,.boxF (.t 0)⟩,
⟨some 8,none,.mv (.c (.int .i64 0))⟩]
@[go_sem] def l3h : List XO := [
⟨some 13,none,.fldA 1 (.tf 4)⟩,
⟨some 14,none,.load false 1 (.tf 13)⟩,
⟨some 15,none,.len false (.t 14)⟩,
⟨some 16,none,.mv (.c (.int .i64 0))⟩]
@[go_sem] def l3l : List XO := [
⟨some 17,none,.bin .lss .no (.t 16) (.t 15)⟩]
@[go_sem] def l3m : List XO := [
⟨some 18,none,.ixA 3 (.t 14) (.t 16)⟩,
⟨some 19,none,.load true 3 (.t 18)⟩,
⟨some 10,none,.alloc [(.int .i64 0), (.int .i64 0), (.slice none 0 0)]⟩,
⟨none, none, .store 3 (.t 10) (.t 19)⟩]
@[go_sem] def l3n : List XO := [
⟨some 20,none,.fldA 0 (.t 10)⟩,
⟨some 21,none,.fldA 1 (.t 20)⟩,
⟨some 22,none,.load false 1 (.t 21)⟩,
⟨some 23,none,.mv (.t 2)⟩,
⟨some 24,none,.bin .lss .no (.t 22) (.t 23)⟩,
⟨some 25,none,.mv (.t 24)⟩,
⟨(some 26), (some (25, false)), .fldA 0 (.t 10)⟩,
⟨(some 27), (some (25, false)), .fldA 0 (.t 26)⟩,
⟨(some 28), (some (25, false)), .load false 1 (.t 27)⟩,
⟨(some 29), (some (25, false)), .mv (.t 3)⟩,
⟨(some 30), (some (25, false)), .bin .gtr .no (.t 28) (.t 29)⟩,
⟨some 31,none,.pick (.t 25) (.c (.bool true)) (.t 30)⟩]
@[go_sem] def l3o : List XO := [
⟨some 32,none,.fldA 2 (.t 10)⟩,
⟨some 33,none,.load false 1 (.t 32)⟩,
⟨some 34,none,.len false (.t 33)⟩,
⟨some 35,none,.mv (.c (.int .i64 0))⟩]
@[go_sem] def l3p : List XO := [
⟨some 36,none,.bin .lss .no (.t 35) (.t 34)⟩]
@[go_sem] def l3q : List XO := [
⟨some 37,none,.ixA 3 (.t 33) (.t 35)⟩,
⟨some 38,none,.load true 3 (.t 37)⟩,
⟨some 12,none,.alloc [(.int .i64 0), (.int .i64 0), (.int .i64 0)]⟩,
⟨none, none, .store 3 (.t 12) (.t 38)⟩]
@[go_sem] def l3r : List XO := [
⟨some 39,none,.fldA 0 (.t 12)⟩,
⟨some 40,none,.load false 1 (.t 39)⟩,
⟨some 41,none,.mv (.t 1)⟩,
⟨some 42,none,.bin .eql .no (.t 40) (.t 41)⟩]
@[go_sem] def l3s : List XO := [
⟨some 43,none,.mv (.t 8)⟩,
⟨some 44,none,.fldA 1 (.t 12)⟩,
⟨some 45,none,.fldA 1 (.t 44)⟩,
⟨some 46,none,.load false 1 (.t 45)⟩,
⟨some 47,none,.bin .add .no (.t 43) (.t 46)⟩,
⟨some 8,none,.mv (.t 47)⟩]
@[go_sem] def l3i : List XO := [
⟨some 48,none,.bin .add .no (.t 35) (.c (.int .i64 1))⟩,
⟨some 35,none,.mv (.t 48)⟩]
def g0v : XCode :=
  (.seq (.reg l3p) (.seq (.cond (.t 36) .skip (.exit 2)) (.seq (.block 3 (.seq (.reg l3q) (.seq (.reg l3r) (.cond (.t 42) (.reg l3s) .skip)))) (.reg l3i))))
@[go_sem] def l3j : List XO := [
⟨some 49,none,.bin .add .no (.t 16) (.c (.int .i64 1))⟩,
⟨some 16,none,.mv (.t 49)⟩]
def g0w : XCode :=
  (.seq (.reg l3l) (.seq (.cond (.t 17) .skip (.exit 0)) (.seq (.block 1 (.seq (.reg l3m) (.seq (.seq (.reg l3n) (.cond (.t 31) (.exit 1) .skip)) (.seq (.reg l3o) (.block 2 (.loop g0v)))))) (.reg l3j))))
@[go_sem] def l3k : List XO := [
⟨some 50,none,.mv (.t 8)⟩,
⟨some 8,none,.mv (.t 50)⟩]
def x_halls_brought : XFunc := { np := 4, res := [.t 8], body :=
  (.seq (.reg l3g) (.seq (.seq (.reg l3h) (.block 0 (.loop g0w))) (.seq (.reg l3k) .ret))) }
@[go_sem] def j9h : List XO := [
⟨some 6,none,.mv (.c (.int .i64 0))⟩]
@[go_sem] def j9i : List XO := [
⟨some 10,none,.mv (.t 2)⟩,
⟨some 11,none,.mv (.t 1)⟩,
⟨some 12,none,.bin .lss .no (.t 10) (.t 11)⟩,
⟨some 13,none,.mv (.t 12)⟩,
⟨(some 14), (some (13, false)), .mv (.t 2)⟩,
⟨(some 15), (some (13, false)), .bin .lss .no (.t 14) (.c (.int .i64 0))⟩,
⟨some 16,none,.pick (.t 13) (.c (.bool true)) (.t 15)⟩]
@[go_sem] def j9m : List XO := [
⟨some 6,none,.mv (.c (.int .i64 0))⟩]
@[go_sem] def j9n : List XO := [
⟨some 17,none,.mv (.t 1)⟩,
⟨some 18,none,.max [.t 17, (.c (.int .i64 0))]⟩,
⟨some 1,none,.mv (.t 18)⟩]
@[go_sem] def j9o : List XO := [
⟨some 19,none,.mv (.t 0)⟩,
⟨some 20,none,.nilck (.t 19)⟩,
⟨some 21,none,.fldA 3 (.t 20)⟩,
⟨some 22,none,.load false 1 (.t 21)⟩,
⟨some 23,none,.ixA 1 (.t 22) (.c (.int .i64 0))⟩,
⟨some 24,none,.load false 1 (.t 23)⟩,
⟨some 25,none,.mv (.t 2)⟩,
⟨some 26,none,.ixA 1 (.t 24) (.t 25)⟩,
⟨some 27,none,.load false 1 (.t 26)⟩,
⟨some 28,none,.mv (.t 0)⟩,
⟨some 29,none,.nilck (.t 28)⟩,
⟨some 30,none,.fldA 1 (.t 29)⟩,
⟨some 31,none,.load false 1 (.t 30)⟩,
⟨some 32,none,.mv (.t 2)⟩,
⟨some 33,none,.bin .add .no (.t 32) (.c (.int .i64 1))⟩,
⟨some 34,none,.ixA 1 (.t 31) (.t 33)⟩,
⟨some 35,none,.load false 1 (.t 34)⟩,
⟨some 36,none,.mv (.t 0)⟩,
⟨some 37,none,.nilck (.t 36)⟩,
⟨some 38,none,.fldA 1 (.t 37)⟩,
⟨some 39,none,.load false 1 (.t 38)⟩,
⟨some 40,none,.mv (.t 1)⟩,
⟨some 41,none,.ixA 1 (.t 39) (.t 40)⟩,
⟨some 42,none,.load false 1 (.t 41)⟩,
⟨some 43,none,.bin .sub .no (.t 35) (.t 42)⟩,
⟨some 44,none,.min [.t 27, .t 43]⟩,
⟨some 7,none,.mv (.t 44)⟩]
@[go_sem] def j9p : List XO := [
⟨some 45,none,.mv (.t 1)⟩,
⟨some 8,none,.mv (.t 45)⟩]
@[go_sem] def j9q : List XO := [
⟨some 46,none,.mv (.t 8)⟩,
⟨some 47,none,.mv (.t 2)⟩,
⟨some 48,none,.bin .leq .no (.t 46) (.t 47)⟩]
@[go_sem] def j9r : List XO := [
⟨some 9,none,.mv (.c (.int .i64 0))⟩]
@[go_sem] def j9s : List XO := [
⟨some 51,none,.mv (.t 8)⟩,
⟨some 52,none,.mv (.t 2)⟩,
⟨some 53,none,.bin .lss .no (.t 51) (.t 52)⟩]
@[go_sem] def j9t : List XO := [
⟨some 54,none,.mv (.t 0)⟩,
⟨some 55,none,.nilck (.t 54)⟩,
⟨some 56,none,.fldA 3 (.t 55)⟩,
⟨some 57,none,.load false 1 (.t 56)⟩,
⟨some 58,none,.mv (.t 8)⟩,
⟨some 59,none,.bin .add .no (.t 58) (.c (.int .i64 1))⟩,
⟨some 60,none,.ixA 1 (.t 57) (.t 59)⟩,
⟨some 61,none,.load false 1 (.t 60)⟩,
⟨some 62,none,.mv (.t 2)⟩,
⟨some 63,none,.ixA 1 (.t 61) (.t 62)⟩,
⟨some 64,none,.load false 1 (.t 63)⟩,
⟨some 9,none,.mv (.t 64)⟩]
@[go_sem] def j9j : List XO := [
⟨some 65,none,.mv (.t 7)⟩,
⟨some 66,none,.mv (.t 0)⟩,
⟨some 67,none,.nilck (.t 66)⟩,
⟨some 68,none,.fldA 1 (.t 67)⟩,
⟨some 69,none,.load false 1 (.t 68)⟩,
⟨some 70,none,.mv (.t 8)⟩,
⟨some 71,none,.ixA 1 (.t 69) (.t 70)⟩,
⟨some 72,none,.load false 1 (.t 71)⟩,
⟨some 73,none,.mv (.t 0)⟩,
⟨some 74,none,.nilck (.t 73)⟩,
⟨some 75,none,.fldA 1 (.t 74)⟩,
⟨some 76,none,.load false 1 (.t 75)⟩,
⟨some 77,none,.mv (.t 1)⟩,
⟨some 78,none,.ixA 1 (.t 76) (.t 77)⟩,
⟨some 79,none,.load false 1 (.t 78)⟩,
⟨some 80,none,.bin .sub .no (.t 72) (.t 79)⟩,
⟨some 81,none,.mv (.t 0)⟩,
⟨some 82,none,.nilck (.t 81)⟩,
⟨some 83,none,.fldA 2 (.t 82)⟩,
⟨some 84,none,.load false 1 (.t 83)⟩,
⟨some 85,none,.mv (.t 8)⟩,
⟨some 86,none,.ixA 1 (.t 84) (.t 85)⟩,
⟨some 87,none,.load false 1 (.t 86)⟩,
⟨some 88,none,.bin .add .no (.t 80) (.t 87)⟩,
⟨some 89,none,.mv (.t 9)⟩,
⟨some 90,none,.bin .add .no (.t 88) (.t 89)⟩,
⟨some 91,none,.min [.t 65, .t 90]⟩,
⟨some 7,none,.mv (.t 91)⟩]
@[go_sem] def j9k : List XO := [
⟨some 49,none,.mv (.t 8)⟩,
⟨some 50,none,.bin .add .no (.t 49) (.c (.int .i64 1))⟩,
⟨some 8,none,.mv (.t 50)⟩]
def g0h : XCode :=
  (.seq (.seq (.reg j9q) (.cond (.t 48) .skip (.exit 0))) (.seq (.block 1 (.seq (.reg j9r) (.seq (.seq (.reg j9s) (.cond (.t 53) (.reg j9t) .skip)) (.reg j9j)))) (.reg j9k)))
@[go_sem] def j9l : List XO := [
⟨some 92,none,.mv (.t 7)⟩,
⟨some 6,none,.mv (.t 92)⟩]
def x___halls_bound__passes : XFunc := { np := 3, res := [.t 6], body :=
  (.seq (.reg j9h) (.seq (.seq (.reg j9i) (.cond (.t 16) (.seq (.reg j9m) .ret) .skip)) (.seq (.reg j9n) (.seq (.reg j9o) (.seq (.seq (.reg j9p) (.block 0 (.loop g0h))) (.seq (.reg j9l) .ret)))))) }
@[go_sem] def j9u : List XO := [
⟨some 4,none,.boxF (.t 0)⟩,
⟨some 8,none,.mv (.c (.int .i64 0))⟩]
@[go_sem] def j9v : List XO := [
⟨some 9,none,.mv (.t 2)⟩,
⟨some 10,none,.max [.t 9, (.c (.int .i64 0))]⟩,
⟨some 2,none,.mv (.t 10)⟩]
@[go_sem] def j9w : List XO := [
⟨some 11,none,.mv (.t 3)⟩,
⟨some 12,none,.mv (.t 2)⟩,
⟨some 13,none,.bin .lss .no (.t 11) (.t 12)⟩]
@[go_sem] def j9x : List XO := [
⟨some 8,none,.mv (.c (.int .i64 0))⟩]
@[go_sem] def j9y : List XO := [
⟨some 14,none,.fldA 3 (.tf 4)⟩,
⟨some 15,none,.load false 1 (.tf 14)⟩,
⟨some 16,none,.mv (.t 1)⟩,
⟨some 17,none,.ixA 1 (.t 15) (.t 16)⟩,
⟨some 18,none,.load false 1 (.t 17)⟩,
⟨some 19,none,.mv (.t 2)⟩,
⟨some 20,none,.ixA 1 (.t 18) (.t 19)⟩,
⟨some 21,none,.load false 1 (.t 20)⟩,
⟨some 22,none,.mv (.t 3)⟩,
⟨some 23,none,.ixA 1 (.t 21) (.t 22)⟩,
⟨some 24,none,.load false 1 (.t 23)⟩,
⟨some 8,none,.mv (.t 24)⟩]
def x__r06_Bounds__pass : XFunc := { np := 4, res := [.t 8], body :=
  (.seq (.reg j9u) (.seq (.reg j9v) (.seq (.seq (.reg j9w) (.cond (.t 13) (.seq (.reg j9x) .ret) .skip)) (.seq (.reg j9y) .ret)))) }
@[go_sem] def m1e : List XO := [
⟨some 4,none,.mv (.c (.int .i64 0))⟩]
@[go_sem] def m1f : List XO := [
⟨some 6,none,.mv (.t 0)⟩,
⟨some 7,none,.len false (.t 6)⟩,
⟨some 8,none,.mv (.c (.int .i64 0))⟩]
@[go_sem] def m1g : List XO := [
⟨some 9,none,.bin .lss .no (.t 8) (.t 7)⟩]
@[go_sem] def m1h : List XO := [
⟨some 10,none,.mv (.t 8)⟩,
⟨some 5,none,.mv (.t 10)⟩]
@[go_sem] def m1i : List XO := [
⟨some 11,none,.mv (.t 1)⟩,
⟨some 12,none,.mv (.t 0)⟩,
⟨some 13,none,.mv (.t 5)⟩,
⟨some 14,none,.ixA 5 (.t 12) (.t 13)⟩,
⟨some 15,none,.load true 5 (.t 14)⟩,
⟨some 16,none,.callv (.t 11) [.t 15]⟩]
@[go_sem] def m1j : List XO := [
⟨some 17,none,.mv (.t 5)⟩,
⟨some 4,none,.mv (.t 17)⟩]
@[go_sem] def m1k : List XO := [
⟨some 18,none,.bin .add .no (.t 8) (.c (.int .i64 1))⟩,
⟨some 8,none,.mv (.t 18)⟩]
def g1r : XCode :=
  (.seq (.reg m1g) (.seq (.cond (.t 9) .skip (.exit 0)) (.seq (.block 1 (.seq (.reg m1h) (.seq (.reg m1i) (.cond (.t 16) (.seq (.reg m1j) .ret) .skip)))) (.reg m1k))))
@[go_sem] def m1l : List XO := [
⟨some 4,none,.mv (.c (.int .i64 (-1)))⟩]
def x_slices_IndexFunc___api_Comb_api_Comb_ : XFunc := { np := 2, res := [.t 4], body :=
  (.seq (.reg m1e) (.seq (.seq (.reg m1f) (.block 0 (.loop g1r))) (.seq (.reg m1l) .ret))) }
@[go_sem] def l5k : List XO := [
⟨some 3,none,.boxF (.t 0)⟩,
⟨some 6,none,.mv (.c (.bool false))⟩]
@[go_sem] def l5l : List XO := [
⟨some 7,none,.mv (.t 1)⟩,
⟨some 8,none,.fldA 0 (.tf 3)⟩,
⟨some 9,none,.load false 1 (.tf 8)⟩,
⟨some 10,none,.bin .leq .no (.t 7) (.t 9)⟩,
⟨some 11,none,.mv (.t 10)⟩,
⟨(some 12), (some (11, true)), .fldA 0 (.tf 3)⟩,
⟨(some 13), (some (11, true)), .load false 1 (.tf 12)⟩,
⟨(some 14), (some (11, true)), .fldA 1 (.tf 3)⟩,
⟨(some 15), (some (11, true)), .load false 1 (.tf 14)⟩,
⟨(some 16), (some (11, true)), .bin .leq .no (.t 13) (.t 15)⟩,
⟨some 17,none,.pick (.t 11) (.t 16) (.c (.bool false))⟩,
⟨some 18,none,.mv (.t 17)⟩,
⟨(some 19), (some (18, true)), .fldA 1 (.tf 3)⟩,
⟨(some 20), (some (18, true)), .load false 1 (.tf 19)⟩,
⟨(some 21), (some (18, true)), .mv (.t 2)⟩,
⟨(some 22), (some (18, true)), .bin .leq .no (.t 20) (.t 21)⟩,
⟨some 23,none,.pick (.t 18) (.t 22) (.c (.bool false))⟩,
⟨some 6,none,.mv (.t 23)⟩]
def x_halls_span : XFunc := { np := 3, res := [.t 6], body :=
  (.seq (.reg l5k) (.seq (.reg l5l) .ret)) }
@[go_sem] def m1m : List XO := [
⟨some 4,none,.mv (.c (.int .i64 0))⟩]
@[go_sem] def m1n : List XO := [
⟨some 6,none,.mv (.t 0)⟩,
⟨some 7,none,.len false (.t 6)⟩,
⟨some 8,none,.mv (.c (.int .i64 0))⟩]
@[go_sem] def m1o : List XO := [
⟨some 9,none,.bin .lss .no (.t 8) (.t 7)⟩]
@[go_sem] def m1p : List XO := [
⟨some 10,none,.mv (.t 8)⟩,
⟨some 5,none,.mv (.t 10)⟩]
@[go_sem] def m1q : List XO := [
⟨some 11,none,.mv (.t 1)⟩,
⟨some 12,none,.mv (.t 0)⟩,
⟨some 13,none,.mv (.t 5)⟩,
⟨some 14,none,.ixA 3 (.t 12) (.t 13)⟩,
⟨some 15,none,.load true 3 (.t 14)⟩,
⟨some 16,none,.callv (.t 11) [.t 15]⟩]
@[go_sem] def m1r : List XO := [
⟨some 17,none,.mv (.t 5)⟩,
⟨some 4,none,.mv (.t 17)⟩]
@[go_sem] def m1s : List XO := [
⟨some 18,none,.bin .add .no (.t 8) (.c (.int .i64 1))⟩,
⟨some 8,none,.mv (.t 18)⟩]
def g1s : XCode :=
  (.seq (.reg m1o) (.seq (.cond (.t 9) .skip (.exit 0)) (.seq (.block 1 (.seq (.reg m1p) (.seq (.reg m1q) (.cond (.t 16) (.seq (.reg m1r) .ret) .skip)))) (.reg m1s))))
@[go_sem] def m1t : List XO := [
⟨some 4,none,.mv (.c (.int .i64 (-1)))⟩]
def x_slices_IndexFunc___api_Train_api_Train_ : XFunc := { np := 2, res := [.t 4], body :=
  (.seq (.reg m1m) (.seq (.seq (.reg m1n) (.block 0 (.loop g1s))) (.seq (.reg m1t) .ret))) }
end Go.Nw.Halls
