/- The functions of a seat, as the abstract machine has them. -/
import Derived.Test.YtaccbljgojdfjaaDoorNwI
set_option linter.all false
set_option linter.unusedVariables false
set_option linter.unusedSimpArgs false
set_option linter.unusedSectionVars false
namespace Go.Nw.Fault
def gl_0 : List Int := [0, 1, 28, 2, 29, 14, 24, 3, 30, 22, 20, 15, 25, 17, 4, 8, 31, 27, 13, 23, 21, 19, 16, 7, 26, 12, 18, 6, 11, 5, 10, 9]
def gt_0 : List Value := List.map (Value.int .u8) gl_0
theorem d33 : gt_0 = List.map (Value.int .u8) gl_0 := rfl
def gl_1 : List Int := [0, 1, 56, 2, 57, 49, 28, 3, 61, 58, 42, 50, 38, 29, 17, 4, 62, 47, 59, 36, 45, 43, 51, 22, 53, 39, 33, 30, 24, 18, 12, 5, 63, 55, 48, 27, 60, 41, 37, 16, 46, 35, 44, 21, 52, 32, 23, 11, 54, 26, 40, 15, 34, 20, 31, 10, 25, 14, 19, 9, 13, 8, 7, 6]
def gt_1 : List Value := List.map (Value.int .u8) gl_1
theorem c09 : gt_1 = List.map (Value.int .u8) gl_1 := rfl
@[go_sem] def g9t : List XO := [
⟨some 6,none,.mv (.c (.bool false))⟩]
@[go_sem] def g9u : List XO := [
⟨some 18,none,.mv (.t 0)⟩,
⟨some 19,none,.len false (.t 18)⟩,
⟨some 20,none,.bin .gtr .no (.t 19) (.c (.int .i64 8))⟩,
⟨some 21,none,.mv (.t 20)⟩,
⟨(some 22), (some (21, false)), .mv (.t 0)⟩,
⟨(some 23), (some (21, false)), .call "newel/newelref10.Check" [.t 22]⟩,
⟨(some 24), (some (21, false)), .bin .neq .no (.t 23) (.c (.int .i64 0))⟩,
⟨some 25,none,.pick (.t 21) (.c (.bool true)) (.t 24)⟩]
@[go_sem] def g94 : List XO := [
⟨some 26,none,.call "newel/newellaw10.works" []⟩,
⟨some 6,none,.mv (.t 26)⟩]
@[go_sem] def j0e : List XO := [
⟨some 28,none,.mv (.t 0)⟩,
⟨some 29,none,.call "newel/faults.Truth" [.t 28]⟩,
⟨some 27,none,.mv (.t 29)⟩,
⟨some 30,none,.ext (.t 27) 0⟩,
⟨some 31,none,.ext (.t 27) 1⟩,
⟨some 7,none,.alloc [(.int .i64 0), (.int .i64 0)]⟩,
⟨none, none, .store 2 (.t 7) (.t 30)⟩,
⟨some 8,none,.mv (.t 31)⟩]
@[go_sem] def j0g : List XO := [
⟨some 33,none,.mv (.t 0)⟩,
⟨some 34,none,.call "newel/faults.Liars" [.t 33]⟩,
⟨some 32,none,.mv (.t 34)⟩,
⟨some 35,none,.ext (.t 32) 0⟩,
⟨some 36,none,.ext (.t 32) 1⟩,
⟨some 9,none,.mv (.t 35)⟩,
⟨some 10,none,.mv (.t 36)⟩]
@[go_sem] def j0h : List XO := [
⟨some 37,none,.mv (.t 10)⟩,
⟨some 38,none,.bin .neq .no (.t 37) (.c (.int .i64 0))⟩,
⟨some 39,none,.mv (.t 38)⟩,
⟨(some 40), (some (39, false)), .mv (.t 8)⟩,
⟨(some 41), (some (39, false)), .bin .neq .no (.t 40) (.c (.int .i64 0))⟩,
⟨(some 42), (some (39, false)), .mv (.t 41)⟩,
⟨(some 43), (some (42, true)), .mv (.t 8)⟩,
⟨(some 44), (some (42, true)), .bin .neq .no (.t 43) (.c (.int .i64 3))⟩,
⟨(some 45), (some (39, false)), .pick (.t 42) (.t 44) (.c (.bool false))⟩,
⟨some 46,none,.pick (.t 39) (.c (.bool true)) (.t 45)⟩,
⟨some 47,none,.mv (.t 46)⟩,
⟨(some 48), (some (47, false)), .mv (.t 8)⟩,
⟨(some 49), (some (47, false)), .bin .eql .no (.t 48) (.c (.int .i64 0))⟩,
⟨(some 50), (some (47, false)), .mv (.t 49)⟩,
⟨(some 51), (some (50, true)), .fldA 0 (.t 7)⟩,
⟨(some 52), (some (50, true)), .load false 1 (.t 51)⟩,
⟨(some 53), (some (50, true)), .fldA 1 (.t 7)⟩,
⟨(some 54), (some (50, true)), .load false 1 (.t 53)⟩,
⟨(some 55), (some (50, true)), .bin .gtr .no (.t 52) (.t 54)⟩,
⟨(some 56), (some (47, false)), .pick (.t 50) (.t 55) (.c (.bool false))⟩,
⟨some 57,none,.pick (.t 47) (.c (.bool true)) (.t 56)⟩]
@[go_sem] def j0i : List XO := [
⟨some 6,none,.mv (.c (.bool false))⟩]
@[go_sem] def j0j : List XO := [
⟨some 58,none,.mv (.t 0)⟩,
⟨some 59,none,.len false (.t 58)⟩,
⟨some 60,none,.bin .gtr .no (.t 59) (.c (.int .i64 0))⟩,
⟨some 11,none,.mv (.t 60)⟩]
@[go_sem] def j0k : List XO := [
⟨some 12,none,.mv (.c (.int .i64 0))⟩]
@[go_sem] def j0l : List XO := [
⟨some 61,none,.mv (.t 12)⟩,
⟨some 62,none,.mv (.t 0)⟩,
⟨some 63,none,.len false (.t 62)⟩,
⟨some 64,none,.bin .lss .no (.t 61) (.t 63)⟩]
@[go_sem] def g9v : List XO := [
⟨some 67,none,.mv (.t 0)⟩,
⟨some 68,none,.mv (.t 12)⟩,
⟨some 69,none,.ixA 4 (.t 67) (.t 68)⟩,
⟨some 70,none,.load true 4 (.t 69)⟩,
⟨some 71,none,.call "newel/newelref10.Allows" [.t 70]⟩,
⟨some 13,none,.alloc [(.int .i64 0), (.int .i64 0)]⟩,
⟨none, none, .store 2 (.t 13) (.t 71)⟩]
@[go_sem] def g9w : List XO := [
⟨some 72,none,.mv (.t 11)⟩,
⟨some 73,none,.mv (.t 72)⟩,
⟨(some 74), (some (73, true)), .fldA 0 (.t 13)⟩,
⟨(some 75), (some (73, true)), .load false 1 (.t 74)⟩,
⟨(some 76), (some (73, true)), .mv (.t 1)⟩,
⟨(some 77), (some (73, true)), .bin .leq .no (.t 75) (.t 76)⟩,
⟨some 78,none,.pick (.t 73) (.t 77) (.c (.bool false))⟩,
⟨some 79,none,.mv (.t 78)⟩,
⟨(some 80), (some (79, true)), .mv (.t 1)⟩,
⟨(some 81), (some (79, true)), .fldA 1 (.t 13)⟩,
⟨(some 82), (some (79, true)), .load false 1 (.t 81)⟩,
⟨(some 83), (some (79, true)), .bin .leq .no (.t 80) (.t 82)⟩,
⟨some 84,none,.pick (.t 79) (.t 83) (.c (.bool false))⟩,
⟨some 11,none,.mv (.t 84)⟩]
@[go_sem] def g9x : List XO := [
⟨some 65,none,.mv (.t 12)⟩,
⟨some 66,none,.bin .add .no (.t 65) (.c (.int .i64 1))⟩,
⟨some 12,none,.mv (.t 66)⟩]
def c8x : XCode :=
  (.seq (.seq (.reg j0l) (.cond (.t 64) .skip (.exit 0))) (.seq (.block 1 (.seq (.reg g9v) (.reg g9w))) (.reg g9x)))
@[go_sem] def g9y : List XO := [
⟨some 85,none,.mv (.t 11)⟩,
⟨some 86,none,.mv (.t 8)⟩,
⟨some 87,none,.bin .eql .no (.t 86) (.c (.int .i64 0))⟩,
⟨some 88,none,.mv (.t 87)⟩,
⟨(some 89), (some (88, true)), .fldA 0 (.t 7)⟩,
⟨(some 90), (some (88, true)), .load false 1 (.t 89)⟩,
⟨(some 91), (some (88, true)), .mv (.t 1)⟩,
⟨(some 92), (some (88, true)), .bin .leq .no (.t 90) (.t 91)⟩,
⟨some 93,none,.pick (.t 88) (.t 92) (.c (.bool false))⟩,
⟨some 94,none,.mv (.t 93)⟩,
⟨(some 95), (some (94, true)), .mv (.t 1)⟩,
⟨(some 96), (some (94, true)), .fldA 1 (.t 7)⟩,
⟨(some 97), (some (94, true)), .load false 1 (.t 96)⟩,
⟨(some 98), (some (94, true)), .bin .leq .no (.t 95) (.t 97)⟩,
⟨some 99,none,.pick (.t 94) (.t 98) (.c (.bool false))⟩,
⟨some 100,none,.bin .neq .bool (.t 85) (.t 99)⟩]
@[go_sem] def g9z : List XO := [
⟨some 6,none,.mv (.c (.bool false))⟩]
@[go_sem] def g90 : List XO := [
⟨some 14,none,.mv (.c (.int .i64 0))⟩]
@[go_sem] def g91 : List XO := [
⟨some 15,none,.mv (.c (.int .i64 0))⟩]
@[go_sem] def g92 : List XO := [
⟨some 101,none,.mv (.t 15)⟩,
⟨some 102,none,.mv (.t 9)⟩,
⟨some 103,none,.len false (.t 102)⟩,
⟨some 104,none,.bin .lss .no (.t 101) (.t 103)⟩]
@[go_sem] def g93 : List XO := [
⟨some 107,none,.mv (.t 9)⟩,
⟨some 108,none,.mv (.t 15)⟩,
⟨some 109,none,.ixA 1 (.t 107) (.t 108)⟩,
⟨some 110,none,.load false 1 (.t 109)⟩,
⟨some 111,none,.bin .lss .no (.t 110) (.c (.int .i64 0))⟩,
⟨some 112,none,.mv (.t 111)⟩,
⟨(some 113), (some (112, false)), .mv (.t 9)⟩,
⟨(some 114), (some (112, false)), .mv (.t 15)⟩,
⟨(some 115), (some (112, false)), .ixA 1 (.t 113) (.t 114)⟩,
⟨(some 116), (some (112, false)), .load false 1 (.t 115)⟩,
⟨(some 117), (some (112, false)), .mv (.t 0)⟩,
⟨(some 118), (some (112, false)), .len false (.t 117)⟩,
⟨(some 119), (some (112, false)), .bin .geq .no (.t 116) (.t 118)⟩,
⟨some 120,none,.pick (.t 112) (.c (.bool true)) (.t 119)⟩,
⟨some 121,none,.mv (.t 120)⟩,
⟨(some 122), (some (121, false)), .mv (.t 15)⟩,
⟨(some 123), (some (121, false)), .bin .gtr .no (.t 122) (.c (.int .i64 0))⟩,
⟨(some 124), (some (121, false)), .mv (.t 123)⟩,
⟨(some 125), (some (124, true)), .mv (.t 9)⟩,
⟨(some 126), (some (124, true)), .mv (.t 15)⟩,
⟨(some 127), (some (124, true)), .ixA 1 (.t 125) (.t 126)⟩,
⟨(some 128), (some (124, true)), .load false 1 (.t 127)⟩,
⟨(some 129), (some (124, true)), .mv (.t 9)⟩,
⟨(some 130), (some (124, true)), .mv (.t 15)⟩,
⟨(some 131), (some (124, true)), .bin .sub .no (.t 130) (.c (.int .i64 1))⟩,
⟨(some 132), (some (124, true)), .ixA 1 (.t 129) (.t 131)⟩,
⟨(some 133), (some (124, true)), .load false 1 (.t 132)⟩,
⟨(some 134), (some (124, true)), .bin .leq .no (.t 128) (.t 133)⟩,
⟨(some 135), (some (121, false)), .pick (.t 124) (.t 134) (.c (.bool false))⟩,
⟨some 136,none,.pick (.t 121) (.c (.bool true)) (.t 135)⟩]
@[go_sem] def g95 : List XO := [
⟨some 6,none,.mv (.c (.bool false))⟩]
@[go_sem] def g96 : List XO := [
⟨some 137,none,.mv (.t 14)⟩,
⟨some 138,none,.mv (.t 9)⟩,
⟨some 139,none,.mv (.t 15)⟩,
⟨some 140,none,.ixA 1 (.t 138) (.t 139)⟩,
⟨some 141,none,.load false 1 (.t 140)⟩,
⟨some 142,none,.cvtI .u64 (.t 141)⟩,
⟨some 143,none,.bin .shl .no (.c (.int .i64 1)) (.t 142)⟩,
⟨some 144,none,.bin .add .no (.t 137) (.t 143)⟩,
⟨some 14,none,.mv (.t 144)⟩]
@[go_sem] def g97 : List XO := [
⟨some 105,none,.mv (.t 15)⟩,
⟨some 106,none,.bin .add .no (.t 105) (.c (.int .i64 1))⟩,
⟨some 15,none,.mv (.t 106)⟩]
def c8y : XCode :=
  (.seq (.seq (.reg g92) (.cond (.t 104) .skip (.exit 2))) (.seq (.block 3 (.seq (.seq (.reg g93) (.cond (.t 136) (.seq (.reg g95) .ret) .skip)) (.reg g96))) (.reg g97)))
@[go_sem] def g98 : List XO := [
⟨some 145,none,.mv (.t 2)⟩,
⟨some 146,none,.mv (.t 0)⟩,
⟨some 147,none,.len false (.t 146)⟩,
⟨some 148,none,.cvtI .u64 (.t 147)⟩,
⟨some 149,none,.bin .shl .no (.c (.int .i64 1)) (.t 148)⟩,
⟨some 150,none,.bin .sub .no (.t 149) (.c (.int .i64 1))⟩,
⟨some 151,none,.bin .and .no (.t 145) (.t 150)⟩,
⟨some 2,none,.mv (.t 151)⟩]
@[go_sem] def g99 : List XO := [
⟨some 16,none,.mv (.c (.int .i64 0))⟩]
@[go_sem] def j0a : List XO := [
⟨some 17,none,.mv (.c (.int .i64 0))⟩]
@[go_sem] def j0b : List XO := [
⟨some 152,none,.mv (.t 17)⟩,
⟨some 153,none,.mv (.t 0)⟩,
⟨some 154,none,.len false (.t 153)⟩,
⟨some 155,none,.bin .lss .no (.t 152) (.t 154)⟩]
@[go_sem] def j0c : List XO := [
⟨some 158,none,.mv (.t 16)⟩,
⟨some 159,none,.mv (.t 2)⟩,
⟨some 160,none,.mv (.t 17)⟩,
⟨some 161,none,.cvtI .u64 (.t 160)⟩,
⟨some 162,none,.bin .shr .no (.t 159) (.t 161)⟩,
⟨some 163,none,.bin .and .no (.t 162) (.c (.int .i64 1))⟩,
⟨some 164,none,.bin .add .no (.t 158) (.t 163)⟩,
⟨some 16,none,.mv (.t 164)⟩]
@[go_sem] def j0d : List XO := [
⟨some 156,none,.mv (.t 17)⟩,
⟨some 157,none,.bin .add .no (.t 156) (.c (.int .i64 1))⟩,
⟨some 17,none,.mv (.t 157)⟩]
def c8z : XCode :=
  (.seq (.seq (.reg j0b) (.cond (.t 155) .skip (.exit 4))) (.seq (.block 5 (.reg j0c)) (.reg j0d)))
@[go_sem] def j0f : List XO := [
⟨some 165,none,.mv (.t 0)⟩,
⟨some 166,none,.mv (.t 14)⟩,
⟨some 167,none,.call "newel/newellaw10.agree" [.t 165, .t 166]⟩,
⟨some 168,none,.mv (.t 167)⟩,
⟨(some 169), (some (168, true)), .mv (.t 16)⟩,
⟨(some 170), (some (168, true)), .mv (.t 9)⟩,
⟨(some 171), (some (168, true)), .len false (.t 170)⟩,
⟨(some 172), (some (168, true)), .bin .geq .no (.t 169) (.t 171)⟩,
⟨(some 173), (some (168, true)), .mv (.t 172)⟩,
⟨(some 174), (some (173, false)), .mv (.t 0)⟩,
⟨(some 175), (some (173, false)), .mv (.t 2)⟩,
⟨(some 176), (some (173, false)), .call "newel/newellaw10.agree" [.t 174, .t 175]⟩,
⟨(some 177), (some (173, false)), .un .not (.t 176)⟩,
⟨(some 178), (some (168, true)), .pick (.t 173) (.c (.bool true)) (.t 177)⟩,
⟨some 179,none,.pick (.t 168) (.t 178) (.c (.bool false))⟩,
⟨some 180,none,.mv (.t 179)⟩,
⟨(some 181), (some (180, true)), .call "newel/newellaw10.works" []⟩,
⟨some 182,none,.pick (.t 180) (.t 181) (.c (.bool false))⟩,
⟨some 6,none,.mv (.t 182)⟩]
def x_l10_FaultsTruth : XFunc := { np := 3, res := [.t 6], body :=
  (.seq (.reg g9t) (.seq (.seq (.reg g9u) (.cond (.t 25) (.seq (.reg g94) .ret) .skip)) (.seq (.reg j0e) (.seq (.reg j0g) (.seq (.seq (.reg j0h) (.cond (.t 57) (.seq (.reg j0i) .ret) .skip)) (.seq (.reg j0j) (.seq (.seq (.reg j0k) (.block 0 (.loop c8x))) (.seq (.seq (.reg g9y) (.cond (.t 100) (.seq (.reg g9z) .ret) .skip)) (.seq (.reg g90) (.seq (.seq (.reg g91) (.block 2 (.loop c8y))) (.seq (.reg g98) (.seq (.reg g99) (.seq (.seq (.reg j0a) (.block 4 (.loop c8z))) (.seq (.reg j0f) .ret)))))))))))))) }
@[go_sem] def j07 : List XO := [
⟨some 0,none,.mv (.c (.bool false))⟩]
@[go_sem] def j08 : List XO := [
⟨some 6,none,.build [(.int .i64 0), (.int .i64 0), (.int .i64 0), (.int .i64 0)] [(0, 1, (.c (.int .i64 100))), (1, 1, (.c (.int .i64 2))), (2, 1, (.c (.int .i64 1))), (3, 1, (.c (.int .i64 3)))]⟩,
⟨some 7,none,.build [(.int .i64 0), (.int .i64 0), (.int .i64 0), (.int .i64 0)] [(0, 1, (.c (.int .i64 104))), (1, 1, (.c (.int .i64 2))), (3, 1, (.c (.int .i64 9)))]⟩,
⟨some 8,none,.build [(.int .i64 0), (.int .i64 0), (.int .i64 0), (.int .i64 0)] [(0, 1, (.c (.int .i64 90))), (1, 1, (.c (.int .i64 1))), (3, 1, (.c (.int .i64 5)))]⟩,
⟨some 9,none,.bsl 4 [.t 6, .t 7, .t 8]⟩,
⟨some 1,none,.mv (.t 9)⟩]
@[go_sem] def j09 : List XO := [
⟨some 11,none,.mv (.t 1)⟩,
⟨some 12,none,.call "newel/faults.Liars" [.t 11]⟩,
⟨some 10,none,.mv (.t 12)⟩,
⟨some 13,none,.ext (.t 10) 0⟩,
⟨some 14,none,.ext (.t 10) 1⟩,
⟨some 2,none,.mv (.t 13)⟩,
⟨some 3,none,.mv (.t 14)⟩]
@[go_sem] def j1a : List XO := [
⟨some 16,none,.bsl 1 [(.c (.int .i64 0))]⟩,
⟨some 17,none,.bsl 1 [(.c (.int .i64 0)), (.c (.int .i64 1))]⟩,
⟨some 18,none,.bsl 1 [(.c (.int .i64 1)), (.c (.int .i64 2))]⟩,
⟨some 19,none,.bsl 1 [(.c (.int .i64 2))]⟩,
⟨some 20,none,.bsl 1 [.t 16, .t 17, .t 18, .t 19]⟩,
⟨some 21,none,.build [(.int .i64 0), (.slice none 0 0)] [(0, 1, (.c (.int .i64 3))), (1, 1, (.t 20))]⟩,
⟨some 22,none,.bsl 1 [(.c (.bool true)), (.c (.bool true)), (.c (.bool false)), (.c (.bool false))]⟩,
⟨some 23,none,.call "newel/faults.Explain" [.t 21, .t 22]⟩,
⟨some 15,none,.mv (.t 23)⟩,
⟨some 24,none,.ext (.t 15) 0⟩,
⟨some 25,none,.ext (.t 15) 1⟩,
⟨some 4,none,.mv (.t 24)⟩,
⟨some 5,none,.mv (.t 25)⟩]
@[go_sem] def j1b : List XO := [
⟨some 26,none,.mv (.t 3)⟩,
⟨some 27,none,.bin .eql .no (.t 26) (.c (.int .i64 0))⟩,
⟨some 28,none,.mv (.t 27)⟩,
⟨(some 29), (some (28, true)), .mv (.t 5)⟩,
⟨(some 30), (some (28, true)), .bin .eql .no (.t 29) (.c (.int .i64 0))⟩,
⟨some 31,none,.pick (.t 28) (.t 30) (.c (.bool false))⟩,
⟨some 32,none,.mv (.t 31)⟩,
⟨(some 33), (some (32, true)), .mv (.t 2)⟩,
⟨(some 34), (some (32, true)), .bsl 1 [(.c (.int .i64 2))]⟩,
⟨(some 35), (some (32, true)), .call "newel/newellaw10.sameInts" [.t 33, .t 34]⟩,
⟨some 36,none,.pick (.t 32) (.t 35) (.c (.bool false))⟩,
⟨some 37,none,.mv (.t 36)⟩,
⟨(some 38), (some (37, true)), .mv (.t 4)⟩,
⟨(some 39), (some (37, true)), .bsl 1 [(.c (.int .i64 0))]⟩,
⟨(some 40), (some (37, true)), .call "newel/newellaw10.sameInts" [.t 38, .t 39]⟩,
⟨some 41,none,.pick (.t 37) (.t 40) (.c (.bool false))⟩,
⟨some 0,none,.mv (.t 41)⟩]
def x_l10_works : XFunc := { np := 0, res := [.t 0], body :=
  (.seq (.reg j07) (.seq (.reg j08) (.seq (.reg j09) (.seq (.reg j1a) (.seq (.reg j1b) .ret))))) }
@[go_sem] def g7b : List XO := [
⟨some 2,none,.alloc [(.int .i64 0), (.int .i64 0)]⟩,
⟨some 3,none,.mv (.c (.int .i64 0))⟩]
@[go_sem] def g7c : List XO := [
⟨some 7,none,.mv (.t 0)⟩,
⟨some 8,none,.call "newel/faults.readings" [.t 7]⟩,
⟨some 4,none,.mv (.t 8)⟩]
@[go_sem] def g7d : List XO := [
⟨some 9,none,.mv (.t 4)⟩,
⟨some 10,none,.bin .neq .no (.t 9) (.c (.int .i64 0))⟩]
@[go_sem] def g7e : List XO := [
⟨some 11,none,.build [(.int .i64 0), (.int .i64 0)] []⟩,
⟨some 12,none,.mv (.t 4)⟩,
⟨none, none, .store 2 (.t 2) (.t 11)⟩,
⟨some 3,none,.mv (.t 12)⟩]
@[go_sem] def g7f : List XO := [
⟨some 14,none,.mv (.t 0)⟩,
⟨some 15,none,.call "newel/faults.common" [.t 14, (.c (.int .i64 0))]⟩,
⟨some 13,none,.mv (.t 15)⟩,
⟨some 16,none,.ext (.t 13) 0⟩,
⟨some 17,none,.ext (.t 13) 1⟩,
⟨some 5,none,.alloc [(.int .i64 0), (.int .i64 0)]⟩,
⟨none, none, .store 2 (.t 5) (.t 16)⟩,
⟨some 6,none,.mv (.t 17)⟩]
@[go_sem] def g7g : List XO := [
⟨some 18,none,.mv (.t 0)⟩,
⟨some 19,none,.len false (.t 18)⟩,
⟨some 20,none,.bin .eql .no (.t 19) (.c (.int .i64 0))⟩,
⟨some 21,none,.mv (.t 20)⟩,
⟨(some 22), (some (21, false)), .mv (.t 6)⟩,
⟨(some 23), (some (21, false)), .un .not (.t 22)⟩,
⟨some 24,none,.pick (.t 21) (.c (.bool true)) (.t 23)⟩]
@[go_sem] def g7h : List XO := [
⟨some 25,none,.build [(.int .i64 0), (.int .i64 0)] []⟩,
⟨none, none, .store 2 (.t 2) (.t 25)⟩,
⟨some 3,none,.mv (.c (.int .i64 3))⟩]
@[go_sem] def g7i : List XO := [
⟨some 26,none,.load true 2 (.t 5)⟩,
⟨none, none, .store 2 (.t 2) (.t 26)⟩,
⟨some 3,none,.mv (.c (.int .i64 0))⟩]
def x_faults_Truth : XFunc := { np := 1, res := [.cell 2 true 2, .t 3], body :=
  (.seq (.reg g7b) (.seq (.seq (.reg g7c) (.seq (.reg g7d) (.cond (.t 10) (.seq (.reg g7e) .ret) .skip))) (.seq (.reg g7f) (.seq (.seq (.reg g7g) (.cond (.t 24) (.seq (.reg g7h) .ret) .skip)) (.seq (.reg g7i) .ret))))) }
@[go_sem] def g6y : List XO := [
⟨some 2,none,.mv (.c (.slice none 0 0))⟩,
⟨some 3,none,.mv (.c (.int .i64 0))⟩]
@[go_sem] def g6z : List XO := [
⟨some 9,none,.mv (.t 0)⟩,
⟨some 10,none,.call "newel/faults.readings" [.t 9]⟩,
⟨some 4,none,.mv (.t 10)⟩]
@[go_sem] def g63 : List XO := [
⟨some 11,none,.mv (.t 4)⟩,
⟨some 12,none,.bin .neq .no (.t 11) (.c (.int .i64 0))⟩]
@[go_sem] def g64 : List XO := [
⟨some 13,none,.mv (.t 4)⟩,
⟨some 2,none,.mv (.c (.slice none 0 0))⟩,
⟨some 3,none,.mv (.t 13)⟩]
@[go_sem] def g65 : List XO := [
⟨some 14,none,.mv (.t 0)⟩,
⟨some 15,none,.len false (.t 14)⟩,
⟨some 16,none,.bin .shl .no (.c (.int .i64 1)) (.t 15)⟩,
⟨some 17,none,.bin .sub .no (.t 16) (.c (.int .i64 1))⟩,
⟨some 5,none,.mv (.t 17)⟩]
@[go_sem] def g66 : List XO := [
⟨some 18,none,.mv (.t 5)⟩,
⟨some 19,none,.mv (.c (.int .i64 0))⟩]
@[go_sem] def g67 : List XO := [
⟨some 20,none,.bin .lss .no (.t 19) (.t 18)⟩]
@[go_sem] def g68 : List XO := [
⟨some 21,none,.mv (.t 19)⟩,
⟨some 6,none,.mv (.t 21)⟩]
@[go_sem] def g69 : List XO := [
⟨some 23,none,.mv (.t 0)⟩,
⟨some 24,none,.mv (.t 6)⟩,
⟨some 25,none,.call "newel/faults.common" [.t 23, .t 24]⟩,
⟨some 22,none,.mv (.t 25)⟩,
⟨some 26,none,.ext (.t 22) 0⟩,
⟨some 27,none,.ext (.t 22) 1⟩,
⟨some 7,none,.alloc [(.int .i64 0), (.int .i64 0)]⟩,
⟨none, none, .store 2 (.t 7) (.t 26)⟩,
⟨some 8,none,.mv (.t 27)⟩]
@[go_sem] def g7a : List XO := [
⟨some 28,none,.mv (.t 8)⟩,
⟨some 29,none,.mv (.t 28)⟩,
⟨(some 30), (some (29, true)), .mv (.t 6)⟩,
⟨(some 31), (some (29, true)), .mv (.t 5)⟩,
⟨(some 32), (some (29, true)), .call "newel/faults.fewer" [.t 30, .t 31]⟩,
⟨some 33,none,.pick (.t 29) (.t 32) (.c (.bool false))⟩]
@[go_sem] def g60 : List XO := [
⟨some 34,none,.mv (.t 6)⟩,
⟨some 5,none,.mv (.t 34)⟩]
@[go_sem] def g61 : List XO := [
⟨some 35,none,.bin .add .no (.t 19) (.c (.int .i64 1))⟩,
⟨some 19,none,.mv (.t 35)⟩]
def c8t : XCode :=
  (.seq (.reg g67) (.seq (.cond (.t 20) .skip (.exit 0)) (.seq (.block 1 (.seq (.reg g68) (.seq (.reg g69) (.seq (.reg g7a) (.cond (.t 33) (.reg g60) .skip))))) (.reg g61))))
@[go_sem] def g62 : List XO := [
⟨some 36,none,.mv (.t 5)⟩,
⟨some 37,none,.call "newel/faults.members" [.t 36]⟩,
⟨some 2,none,.mv (.t 37)⟩,
⟨some 3,none,.mv (.c (.int .i64 0))⟩]
def x_faults_Liars : XFunc := { np := 1, res := [.t 2, .t 3], body :=
  (.seq (.reg g6y) (.seq (.seq (.reg g6z) (.seq (.reg g63) (.cond (.t 12) (.seq (.reg g64) .ret) .skip))) (.seq (.reg g65) (.seq (.seq (.reg g66) (.block 0 (.loop c8t))) (.seq (.reg g62) .ret))))) }
@[go_sem] def j0x : List XO := [
⟨some 4,none,.mv (.c (.bool false))⟩]
@[go_sem] def j0y : List XO := [
⟨some 6,none,.mv (.t 0)⟩,
⟨some 7,none,.len false (.t 6)⟩,
⟨some 8,none,.mv (.t 1)⟩,
⟨some 9,none,.len false (.t 8)⟩,
⟨some 10,none,.bin .neq .no (.t 7) (.t 9)⟩]
@[go_sem] def j0z : List XO := [
⟨some 4,none,.mv (.c (.bool false))⟩]
@[go_sem] def j00 : List XO := [
⟨some 5,none,.mv (.c (.int .i64 0))⟩]
@[go_sem] def j01 : List XO := [
⟨some 11,none,.mv (.t 5)⟩,
⟨some 12,none,.mv (.t 0)⟩,
⟨some 13,none,.len false (.t 12)⟩,
⟨some 14,none,.bin .lss .no (.t 11) (.t 13)⟩]
@[go_sem] def j02 : List XO := [
⟨some 17,none,.mv (.t 0)⟩,
⟨some 18,none,.mv (.t 5)⟩,
⟨some 19,none,.ixA 1 (.t 17) (.t 18)⟩,
⟨some 20,none,.load false 1 (.t 19)⟩,
⟨some 21,none,.mv (.t 1)⟩,
⟨some 22,none,.mv (.t 5)⟩,
⟨some 23,none,.ixA 1 (.t 21) (.t 22)⟩,
⟨some 24,none,.load false 1 (.t 23)⟩,
⟨some 25,none,.bin .neq .no (.t 20) (.t 24)⟩]
@[go_sem] def j03 : List XO := [
⟨some 4,none,.mv (.c (.bool false))⟩]
@[go_sem] def j04 : List XO := [
⟨some 15,none,.mv (.t 5)⟩,
⟨some 16,none,.bin .add .no (.t 15) (.c (.int .i64 1))⟩,
⟨some 5,none,.mv (.t 16)⟩]
def j06 : XCode :=
  (.seq (.seq (.reg j01) (.cond (.t 14) .skip (.exit 0))) (.seq (.block 1 (.seq (.reg j02) (.cond (.t 25) (.seq (.reg j03) .ret) .skip))) (.reg j04)))
@[go_sem] def j05 : List XO := [
⟨some 4,none,.mv (.c (.bool true))⟩]
def x_l10_sameInts : XFunc := { np := 2, res := [.t 4], body :=
  (.seq (.reg j0x) (.seq (.seq (.reg j0y) (.cond (.t 10) (.seq (.reg j0z) .ret) .skip)) (.seq (.seq (.reg j00) (.block 0 (.loop j06))) (.seq (.reg j05) .ret)))) }
@[go_sem] def j2p : List XO := [
⟨some 2,none,.mv (.c (.int .i64 0))⟩]
@[go_sem] def j2q : List XO := [
⟨some 4,none,.mv (.t 0)⟩,
⟨some 5,none,.len false (.t 4)⟩,
⟨some 6,none,.bin .gtr .no (.t 5) (.c (.int .i64 12))⟩]
@[go_sem] def j2r : List XO := [
⟨some 2,none,.mv (.c (.int .i64 2))⟩]
@[go_sem] def j2s : List XO := [
⟨some 3,none,.mv (.c (.int .i64 0))⟩]
@[go_sem] def j2t : List XO := [
⟨some 7,none,.mv (.t 3)⟩,
⟨some 8,none,.mv (.t 0)⟩,
⟨some 9,none,.len false (.t 8)⟩,
⟨some 10,none,.bin .lss .no (.t 7) (.t 9)⟩]
@[go_sem] def j2u : List XO := [
⟨some 13,none,.mv (.t 0)⟩,
⟨some 14,none,.mv (.t 3)⟩,
⟨some 15,none,.ixA 4 (.t 13) (.t 14)⟩,
⟨some 16,none,.fldA 0 (.t 15)⟩,
⟨some 17,none,.load false 1 (.t 16)⟩,
⟨some 18,none,.call "newel/newelref10.from" [.t 17, (.c (.int .i64 (-100000))), (.c (.int .i64 100000))]⟩,
⟨some 19,none,.un .not (.t 18)⟩,
⟨some 20,none,.mv (.t 19)⟩,
⟨(some 21), (some (20, false)), .mv (.t 0)⟩,
⟨(some 22), (some (20, false)), .mv (.t 3)⟩,
⟨(some 23), (some (20, false)), .ixA 4 (.t 21) (.t 22)⟩,
⟨(some 24), (some (20, false)), .fldA 1 (.t 23)⟩,
⟨(some 25), (some (20, false)), .load false 1 (.t 24)⟩,
⟨(some 26), (some (20, false)), .call "newel/newelref10.from" [.t 25, (.c (.int .i64 0)), (.c (.int .i64 1000))]⟩,
⟨(some 27), (some (20, false)), .un .not (.t 26)⟩,
⟨some 28,none,.pick (.t 20) (.c (.bool true)) (.t 27)⟩,
⟨some 29,none,.mv (.t 28)⟩,
⟨(some 30), (some (29, false)), .mv (.t 0)⟩,
⟨(some 31), (some (29, false)), .mv (.t 3)⟩,
⟨(some 32), (some (29, false)), .ixA 4 (.t 30) (.t 31)⟩,
⟨(some 33), (some (29, false)), .fldA 2 (.t 32)⟩,
⟨(some 34), (some (29, false)), .load false 1 (.t 33)⟩,
⟨(some 35), (some (29, false)), .call "newel/newelref10.from" [.t 34, (.c (.int .i64 0)), (.c (.int .i64 1000))]⟩,
⟨(some 36), (some (29, false)), .un .not (.t 35)⟩,
⟨some 37,none,.pick (.t 29) (.c (.bool true)) (.t 36)⟩,
⟨some 38,none,.mv (.t 37)⟩,
⟨(some 39), (some (38, false)), .mv (.t 0)⟩,
⟨(some 40), (some (38, false)), .mv (.t 3)⟩,
⟨(some 41), (some (38, false)), .ixA 4 (.t 39) (.t 40)⟩,
⟨(some 42), (some (38, false)), .fldA 3 (.t 41)⟩,
⟨(some 43), (some (38, false)), .load false 1 (.t 42)⟩,
⟨(some 44), (some (38, false)), .call "newel/newelref10.from" [.t 43, (.c (.int .i64 0)), (.c (.int .i64 1000))]⟩,
⟨(some 45), (some (38, false)), .un .not (.t 44)⟩,
⟨some 46,none,.pick (.t 38) (.c (.bool true)) (.t 45)⟩]
@[go_sem] def j2v : List XO := [
⟨some 2,none,.mv (.c (.int .i64 100))⟩]
@[go_sem] def j2w : List XO := [
⟨some 11,none,.mv (.t 3)⟩,
⟨some 12,none,.bin .add .no (.t 11) (.c (.int .i64 1))⟩,
⟨some 3,none,.mv (.t 12)⟩]
def c82 : XCode :=
  (.seq (.seq (.reg j2t) (.cond (.t 10) .skip (.exit 0))) (.seq (.block 1 (.seq (.reg j2u) (.cond (.t 46) (.seq (.reg j2v) .ret) .skip))) (.reg j2w)))
@[go_sem] def j2x : List XO := [
⟨some 2,none,.mv (.c (.int .i64 0))⟩]
def x_r10_Check : XFunc := { np := 1, res := [.t 2], body :=
  (.seq (.reg j2p) (.seq (.seq (.reg j2q) (.cond (.t 6) (.seq (.reg j2r) .ret) .skip)) (.seq (.seq (.reg j2s) (.block 0 (.loop c82))) (.seq (.reg j2x) .ret)))) }
@[go_sem] def j2m : List XO := [
⟨some 1,none,.boxF (.t 0)⟩,
⟨some 2,none,.alloc [(.int .i64 0), (.int .i64 0)]⟩]
@[go_sem] def j2n : List XO := [
⟨some 4,none,.fldA 1 (.tf 1)⟩,
⟨some 5,none,.load false 1 (.tf 4)⟩,
⟨some 6,none,.fldA 2 (.tf 1)⟩,
⟨some 7,none,.load false 1 (.tf 6)⟩,
⟨some 8,none,.fldA 3 (.tf 1)⟩,
⟨some 9,none,.load false 1 (.tf 8)⟩,
⟨some 10,none,.bin .mul .no (.t 7) (.t 9)⟩,
⟨some 11,none,.bin .add .no (.t 5) (.t 10)⟩,
⟨some 3,none,.mv (.t 11)⟩]
@[go_sem] def j2o : List XO := [
⟨some 12,none,.fldA 0 (.tf 1)⟩,
⟨some 13,none,.load false 1 (.tf 12)⟩,
⟨some 14,none,.mv (.t 3)⟩,
⟨some 15,none,.bin .sub .no (.t 13) (.t 14)⟩,
⟨some 16,none,.fldA 0 (.tf 1)⟩,
⟨some 17,none,.load false 1 (.tf 16)⟩,
⟨some 18,none,.mv (.t 3)⟩,
⟨some 19,none,.bin .add .no (.t 17) (.t 18)⟩,
⟨some 20,none,.build [(.int .i64 0), (.int .i64 0)] [(0, 1, (.t 15)), (1, 1, (.t 19))]⟩,
⟨none, none, .store 2 (.t 2) (.t 20)⟩]
def x_r10_Allows : XFunc := { np := 1, res := [.cell 2 true 2], body :=
  (.seq (.reg j2m) (.seq (.reg j2n) (.seq (.reg j2o) .ret))) }
@[go_sem] def j0m : List XO := [
⟨some 4,none,.mv (.c (.bool false))⟩]
@[go_sem] def j0n : List XO := [
⟨some 5,none,.mv (.c (.int .i64 0))⟩]
@[go_sem] def j0q : List XO := [
⟨some 9,none,.mv (.t 5)⟩,
⟨some 10,none,.mv (.t 0)⟩,
⟨some 11,none,.len false (.t 10)⟩,
⟨some 12,none,.bin .lss .no (.t 9) (.t 11)⟩]
@[go_sem] def j0r : List XO := [
⟨some 6,none,.mv (.c (.int .i64 0))⟩]
@[go_sem] def j0s : List XO := [
⟨some 15,none,.mv (.t 6)⟩,
⟨some 16,none,.mv (.t 5)⟩,
⟨some 17,none,.bin .lss .no (.t 15) (.t 16)⟩]
@[go_sem] def j0t : List XO := [
⟨some 20,none,.mv (.t 0)⟩,
⟨some 21,none,.mv (.t 5)⟩,
⟨some 22,none,.ixA 4 (.t 20) (.t 21)⟩,
⟨some 23,none,.load true 4 (.t 22)⟩,
⟨some 24,none,.call "newel/newelref10.Allows" [.t 23]⟩,
⟨some 25,none,.mv (.t 0)⟩,
⟨some 26,none,.mv (.t 6)⟩,
⟨some 27,none,.ixA 4 (.t 25) (.t 26)⟩,
⟨some 28,none,.load true 4 (.t 27)⟩,
⟨some 29,none,.call "newel/newelref10.Allows" [.t 28]⟩,
⟨some 7,none,.alloc [(.int .i64 0), (.int .i64 0)]⟩,
⟨some 8,none,.alloc [(.int .i64 0), (.int .i64 0)]⟩,
⟨none, none, .store 2 (.t 7) (.t 24)⟩,
⟨none, none, .store 2 (.t 8) (.t 29)⟩]
@[go_sem] def j0u : List XO := [
⟨some 30,none,.mv (.t 1)⟩,
⟨some 31,none,.mv (.t 5)⟩,
⟨some 32,none,.cvtI .u64 (.t 31)⟩,
⟨some 33,none,.bin .shr .no (.t 30) (.t 32)⟩,
⟨some 34,none,.bin .and .no (.t 33) (.c (.int .i64 1))⟩,
⟨some 35,none,.bin .eql .no (.t 34) (.c (.int .i64 0))⟩,
⟨some 36,none,.mv (.t 35)⟩,
⟨(some 37), (some (36, true)), .mv (.t 1)⟩,
⟨(some 38), (some (36, true)), .mv (.t 6)⟩,
⟨(some 39), (some (36, true)), .cvtI .u64 (.t 38)⟩,
⟨(some 40), (some (36, true)), .bin .shr .no (.t 37) (.t 39)⟩,
⟨(some 41), (some (36, true)), .bin .and .no (.t 40) (.c (.int .i64 1))⟩,
⟨(some 42), (some (36, true)), .bin .eql .no (.t 41) (.c (.int .i64 0))⟩,
⟨some 43,none,.pick (.t 36) (.t 42) (.c (.bool false))⟩,
⟨some 44,none,.mv (.t 43)⟩,
⟨(some 45), (some (44, true)), .fldA 1 (.t 7)⟩,
⟨(some 46), (some (44, true)), .load false 1 (.t 45)⟩,
⟨(some 47), (some (44, true)), .fldA 0 (.t 8)⟩,
⟨(some 48), (some (44, true)), .load false 1 (.t 47)⟩,
⟨(some 49), (some (44, true)), .bin .lss .no (.t 46) (.t 48)⟩,
⟨(some 50), (some (44, true)), .mv (.t 49)⟩,
⟨(some 51), (some (50, false)), .fldA 1 (.t 8)⟩,
⟨(some 52), (some (50, false)), .load false 1 (.t 51)⟩,
⟨(some 53), (some (50, false)), .fldA 0 (.t 7)⟩,
⟨(some 54), (some (50, false)), .load false 1 (.t 53)⟩,
⟨(some 55), (some (50, false)), .bin .lss .no (.t 52) (.t 54)⟩,
⟨(some 56), (some (44, true)), .pick (.t 50) (.c (.bool true)) (.t 55)⟩,
⟨some 57,none,.pick (.t 44) (.t 56) (.c (.bool false))⟩]
@[go_sem] def j0v : List XO := [
⟨some 4,none,.mv (.c (.bool false))⟩]
@[go_sem] def j0w : List XO := [
⟨some 18,none,.mv (.t 6)⟩,
⟨some 19,none,.bin .add .no (.t 18) (.c (.int .i64 1))⟩,
⟨some 6,none,.mv (.t 19)⟩]
def c81 : XCode :=
  (.seq (.seq (.reg j0s) (.cond (.t 17) .skip (.exit 2))) (.seq (.block 3 (.seq (.reg j0t) (.seq (.reg j0u) (.cond (.t 57) (.seq (.reg j0v) .ret) .skip)))) (.reg j0w)))
@[go_sem] def j0o : List XO := [
⟨some 13,none,.mv (.t 5)⟩,
⟨some 14,none,.bin .add .no (.t 13) (.c (.int .i64 1))⟩,
⟨some 5,none,.mv (.t 14)⟩]
def c80 : XCode :=
  (.seq (.seq (.reg j0q) (.cond (.t 12) .skip (.exit 0))) (.seq (.block 1 (.seq (.reg j0r) (.block 2 (.loop c81)))) (.reg j0o)))
@[go_sem] def j0p : List XO := [
⟨some 4,none,.mv (.c (.bool true))⟩]
def x_l10_agree : XFunc := { np := 2, res := [.t 4], body :=
  (.seq (.reg j0m) (.seq (.seq (.reg j0n) (.block 0 (.loop c80))) (.seq (.reg j0p) .ret))) }
@[go_sem] def g6t : List XO := [
⟨some 2,none,.boxF (.t 0)⟩,
⟨some 4,none,.mv (.c (.slice none 0 0))⟩,
⟨some 5,none,.mv (.c (.int .i64 0))⟩]
@[go_sem] def g6u : List XO := [
⟨some 7,none,.load true 2 (.tf 2)⟩,
⟨some 8,none,.mv (.t 1)⟩,
⟨some 9,none,.call "newel/faults.plant" [.t 7, .t 8]⟩,
⟨some 6,none,.mv (.t 9)⟩]
@[go_sem] def g6v : List XO := [
⟨some 10,none,.mv (.t 6)⟩,
⟨some 11,none,.bin .neq .no (.t 10) (.c (.int .i64 0))⟩]
@[go_sem] def g6w : List XO := [
⟨some 12,none,.mv (.t 6)⟩,
⟨some 4,none,.mv (.c (.slice none 0 0))⟩,
⟨some 5,none,.mv (.t 12)⟩]
@[go_sem] def g6x : List XO := [
⟨some 13,none,.load true 2 (.tf 2)⟩,
⟨some 14,none,.mv (.t 1)⟩,
⟨some 15,none,.call "newel/faults.fewest" [.t 13, .t 14]⟩,
⟨some 16,none,.ixA 1 (.t 15) (.c (.int .i64 0))⟩,
⟨some 17,none,.load false 1 (.t 16)⟩,
⟨some 18,none,.call "newel/faults.members" [.t 17]⟩,
⟨some 4,none,.mv (.t 18)⟩,
⟨some 5,none,.mv (.c (.int .i64 0))⟩]
def x_faults_Explain : XFunc := { np := 2, res := [.t 4, .t 5], body :=
  (.seq (.reg g6t) (.seq (.seq (.reg g6u) (.seq (.reg g6v) (.cond (.t 11) (.seq (.reg g6w) .ret) .skip))) (.seq (.reg g6x) .ret))) }
@[go_sem] def g9h : List XO := [
⟨some 2,none,.mv (.c (.int .i64 0))⟩]
@[go_sem] def g9i : List XO := [
⟨some 5,none,.mv (.t 0)⟩,
⟨some 6,none,.len false (.t 5)⟩,
⟨some 7,none,.bin .gtr .no (.t 6) (.c (.int .i64 12))⟩]
@[go_sem] def g9k : List XO := [
⟨some 2,none,.mv (.c (.int .i64 2))⟩]
@[go_sem] def g9l : List XO := [
⟨some 8,none,.mv (.t 0)⟩,
⟨some 9,none,.len false (.t 8)⟩,
⟨some 10,none,.mv (.c (.int .i64 0))⟩]
@[go_sem] def g9m : List XO := [
⟨some 11,none,.bin .lss .no (.t 10) (.t 9)⟩]
@[go_sem] def g9n : List XO := [
⟨some 12,none,.ixA 4 (.t 8) (.t 10)⟩,
⟨some 13,none,.load true 4 (.t 12)⟩,
⟨some 4,none,.alloc [(.int .i64 0), (.int .i64 0), (.int .i64 0), (.int .i64 0)]⟩,
⟨none, none, .store 4 (.t 4) (.t 13)⟩]
@[go_sem] def g9o : List XO := [
⟨some 14,none,.fldA 0 (.t 4)⟩,
⟨some 15,none,.load false 1 (.t 14)⟩,
⟨some 16,none,.call "newel/faults.within" [.t 15, (.c (.int .i64 (-100000))), (.c (.int .i64 100000))]⟩,
⟨some 17,none,.un .not (.t 16)⟩,
⟨some 18,none,.mv (.t 17)⟩,
⟨(some 19), (some (18, false)), .fldA 1 (.t 4)⟩,
⟨(some 20), (some (18, false)), .load false 1 (.t 19)⟩,
⟨(some 21), (some (18, false)), .call "newel/faults.within" [.t 20, (.c (.int .i64 0)), (.c (.int .i64 1000))]⟩,
⟨(some 22), (some (18, false)), .un .not (.t 21)⟩,
⟨some 23,none,.pick (.t 18) (.c (.bool true)) (.t 22)⟩,
⟨some 24,none,.mv (.t 23)⟩,
⟨(some 25), (some (24, false)), .fldA 2 (.t 4)⟩,
⟨(some 26), (some (24, false)), .load false 1 (.t 25)⟩,
⟨(some 27), (some (24, false)), .call "newel/faults.within" [.t 26, (.c (.int .i64 0)), (.c (.int .i64 1000))]⟩,
⟨(some 28), (some (24, false)), .un .not (.t 27)⟩,
⟨some 29,none,.pick (.t 24) (.c (.bool true)) (.t 28)⟩,
⟨some 30,none,.mv (.t 29)⟩,
⟨(some 31), (some (30, false)), .fldA 3 (.t 4)⟩,
⟨(some 32), (some (30, false)), .load false 1 (.t 31)⟩,
⟨(some 33), (some (30, false)), .call "newel/faults.within" [.t 32, (.c (.int .i64 0)), (.c (.int .i64 1000))]⟩,
⟨(some 34), (some (30, false)), .un .not (.t 33)⟩,
⟨some 35,none,.pick (.t 30) (.c (.bool true)) (.t 34)⟩]
@[go_sem] def g9p : List XO := [
⟨some 2,none,.mv (.c (.int .i64 100))⟩]
@[go_sem] def g9q : List XO := [
⟨some 36,none,.bin .add .no (.t 10) (.c (.int .i64 1))⟩,
⟨some 10,none,.mv (.t 36)⟩]
def c8w : XCode :=
  (.seq (.reg g9m) (.seq (.cond (.t 11) .skip (.exit 0)) (.seq (.block 1 (.seq (.reg g9n) (.seq (.reg g9o) (.cond (.t 35) (.seq (.reg g9p) .ret) .skip)))) (.reg g9q))))
@[go_sem] def g9j : List XO := [
⟨some 2,none,.mv (.c (.int .i64 0))⟩]
def x_faults_readings : XFunc := { np := 1, res := [.t 2], body :=
  (.seq (.reg g9h) (.seq (.seq (.reg g9i) (.cond (.t 7) (.seq (.reg g9k) .ret) .skip)) (.seq (.seq (.reg g9l) (.block 0 (.loop c8w))) (.seq (.reg g9j) .ret)))) }
@[go_sem] def g7j : List XO := [
⟨some 4,none,.alloc [(.int .i64 0), (.int .i64 0)]⟩,
⟨some 5,none,.mv (.c (.bool false))⟩]
@[go_sem] def g7k : List XO := [
⟨some 10,none,.build [(.int .i64 0), (.int .i64 0)] [(0, 1, (.c (.int .i64 (-1099511627776)))), (1, 1, (.c (.int .i64 1099511627776)))]⟩,
⟨some 6,none,.alloc [(.int .i64 0), (.int .i64 0)]⟩,
⟨none, none, .store 2 (.t 6) (.t 10)⟩]
@[go_sem] def g7m : List XO := [
⟨some 11,none,.mv (.t 0)⟩,
⟨some 12,none,.len false (.t 11)⟩,
⟨some 13,none,.mv (.c (.int .i64 0))⟩]
@[go_sem] def g7n : List XO := [
⟨some 14,none,.bin .lss .no (.t 13) (.t 12)⟩]
@[go_sem] def g7o : List XO := [
⟨some 15,none,.mv (.t 13)⟩,
⟨some 16,none,.ixA 4 (.t 11) (.t 13)⟩,
⟨some 17,none,.load true 4 (.t 16)⟩,
⟨some 8,none,.alloc [(.int .i64 0), (.int .i64 0), (.int .i64 0), (.int .i64 0)]⟩,
⟨some 7,none,.mv (.t 15)⟩,
⟨none, none, .store 4 (.t 8) (.t 17)⟩]
@[go_sem] def g7p : List XO := [
⟨some 18,none,.mv (.t 1)⟩,
⟨some 19,none,.mv (.t 7)⟩,
⟨some 20,none,.bin .shr .no (.t 18) (.t 19)⟩,
⟨some 21,none,.bin .and .no (.t 20) (.c (.int .i64 1))⟩,
⟨some 22,none,.bin .eql .no (.t 21) (.c (.int .i64 0))⟩]
@[go_sem] def g7q : List XO := [
⟨some 23,none,.fldA 1 (.t 8)⟩,
⟨some 24,none,.load false 1 (.t 23)⟩,
⟨some 25,none,.fldA 2 (.t 8)⟩,
⟨some 26,none,.load false 1 (.t 25)⟩,
⟨some 27,none,.fldA 3 (.t 8)⟩,
⟨some 28,none,.load false 1 (.t 27)⟩,
⟨some 29,none,.bin .mul .no (.t 26) (.t 28)⟩,
⟨some 30,none,.bin .add .no (.t 24) (.t 29)⟩,
⟨some 9,none,.mv (.t 30)⟩]
@[go_sem] def g7r : List XO := [
⟨some 31,none,.fldA 0 (.t 6)⟩,
⟨some 32,none,.load false 1 (.t 31)⟩,
⟨some 33,none,.fldA 0 (.t 8)⟩,
⟨some 34,none,.load false 1 (.t 33)⟩,
⟨some 35,none,.mv (.t 9)⟩,
⟨some 36,none,.bin .sub .no (.t 34) (.t 35)⟩,
⟨some 37,none,.max [.t 32, .t 36]⟩,
⟨some 38,none,.fldA 1 (.t 6)⟩,
⟨some 39,none,.load false 1 (.t 38)⟩,
⟨some 40,none,.fldA 0 (.t 8)⟩,
⟨some 41,none,.load false 1 (.t 40)⟩,
⟨some 42,none,.mv (.t 9)⟩,
⟨some 43,none,.bin .add .no (.t 41) (.t 42)⟩,
⟨some 44,none,.min [.t 39, .t 43]⟩,
⟨some 45,none,.build [(.int .i64 0), (.int .i64 0)] [(0, 1, (.t 37)), (1, 1, (.t 44))]⟩,
⟨none, none, .store 2 (.t 6) (.t 45)⟩]
@[go_sem] def g7s : List XO := [
⟨some 46,none,.bin .add .no (.t 13) (.c (.int .i64 1))⟩,
⟨some 13,none,.mv (.t 46)⟩]
def c8u : XCode :=
  (.seq (.reg g7n) (.seq (.cond (.t 14) .skip (.exit 0)) (.seq (.block 1 (.seq (.reg g7o) (.seq (.reg g7p) (.cond (.t 22) (.seq (.reg g7q) (.reg g7r)) .skip)))) (.reg g7s))))
@[go_sem] def g7l : List XO := [
⟨some 47,none,.load true 2 (.tf 6)⟩,
⟨some 48,none,.fldA 0 (.tf 6)⟩,
⟨some 49,none,.load false 1 (.tf 48)⟩,
⟨some 50,none,.fldA 1 (.tf 6)⟩,
⟨some 51,none,.load false 1 (.tf 50)⟩,
⟨some 52,none,.bin .leq .no (.t 49) (.t 51)⟩,
⟨none, none, .store 2 (.t 4) (.t 47)⟩,
⟨some 5,none,.mv (.t 52)⟩]
def x_faults_common : XFunc := { np := 2, res := [.cell 4 true 2, .t 5], body :=
  (.seq (.reg g7j) (.seq (.reg g7k) (.seq (.seq (.reg g7m) (.block 0 (.loop c8u))) (.seq (.seq .ghost (.reg g7l)) .ret)))) }
@[go_sem] def g76 : List XO := [
⟨some 4,none,.mv (.c (.bool false))⟩]
@[go_sem] def g77 : List XO := [
⟨some 7,none,.mv (.t 0)⟩,
⟨some 8,none,.cvtI .u64 (.t 7)⟩,
⟨some 9,none,.call "math/bits.OnesCount" [.t 8]⟩,
⟨some 10,none,.mv (.t 1)⟩,
⟨some 11,none,.cvtI .u64 (.t 10)⟩,
⟨some 12,none,.call "math/bits.OnesCount" [.t 11]⟩,
⟨some 5,none,.mv (.t 9)⟩,
⟨some 6,none,.mv (.t 12)⟩]
@[go_sem] def g78 : List XO := [
⟨some 13,none,.mv (.t 5)⟩,
⟨some 14,none,.mv (.t 6)⟩,
⟨some 15,none,.bin .neq .no (.t 13) (.t 14)⟩]
@[go_sem] def g79 : List XO := [
⟨some 16,none,.mv (.t 5)⟩,
⟨some 17,none,.mv (.t 6)⟩,
⟨some 18,none,.bin .lss .no (.t 16) (.t 17)⟩,
⟨some 4,none,.mv (.t 18)⟩]
@[go_sem] def g8a : List XO := [
⟨some 19,none,.mv (.t 0)⟩,
⟨some 20,none,.call "newel/faults.members" [.t 19]⟩,
⟨some 21,none,.mv (.t 1)⟩,
⟨some 22,none,.call "newel/faults.members" [.t 21]⟩,
⟨some 23,none,.call "slices.Compare[[]int,int]" [.t 20, .t 22]⟩,
⟨some 24,none,.bin .lss .no (.t 23) (.c (.int .i64 0))⟩,
⟨some 4,none,.mv (.t 24)⟩]
def x_faults_fewer : XFunc := { np := 2, res := [.t 4], body :=
  (.seq (.reg g76) (.seq (.seq (.reg g77) (.seq (.reg g78) (.cond (.t 15) (.seq (.reg g79) .ret) .skip))) (.seq (.reg g8a) .ret))) }
@[go_sem] def g8r : List XO := [
⟨some 2,none,.mv (.c (.slice none 0 0))⟩]
@[go_sem] def g8s : List XO := [
⟨some 3,none,.mv (.c (.slice none 0 0))⟩]
@[go_sem] def g8t : List XO := [
⟨some 4,none,.mv (.t 0)⟩,
⟨some 5,none,.bin .neq .no (.t 4) (.c (.int .i64 0))⟩]
@[go_sem] def g8u : List XO := [
⟨some 10,none,.mv (.t 3)⟩,
⟨some 11,none,.mv (.t 0)⟩,
⟨some 12,none,.cvtI .u64 (.t 11)⟩,
⟨some 13,none,.call "math/bits.TrailingZeros" [.t 12]⟩,
⟨some 14,none,.bsl 1 [.t 13]⟩,
⟨some 15,none,.app 1 8 (.t 10) (.t 14)⟩,
⟨some 3,none,.mv (.t 15)⟩]
@[go_sem] def g8v : List XO := [
⟨some 6,none,.mv (.t 0)⟩,
⟨some 7,none,.mv (.t 0)⟩,
⟨some 8,none,.bin .sub .no (.t 7) (.c (.int .i64 1))⟩,
⟨some 9,none,.bin .and .no (.t 6) (.t 8)⟩,
⟨some 0,none,.mv (.t 9)⟩]
def c8v : XCode :=
  (.seq (.seq (.reg g8t) (.cond (.t 5) .skip (.exit 0))) (.seq (.block 1 (.reg g8u)) (.reg g8v)))
@[go_sem] def g8w : List XO := [
⟨some 16,none,.mv (.t 3)⟩,
⟨some 2,none,.mv (.t 16)⟩]
def x_faults_members : XFunc := { np := 1, res := [.t 2], body :=
  (.seq (.reg g8r) (.seq (.reg g8s) (.seq (.block 0 (.loop c8v)) (.seq (.reg g8w) .ret)))) }
@[go_sem] def j2y : List XO := [
⟨some 6,none,.mv (.c (.bool false))⟩]
@[go_sem] def j2z : List XO := [
⟨some 7,none,.mv (.t 0)⟩,
⟨some 8,none,.mv (.t 1)⟩,
⟨some 9,none,.bin .geq .no (.t 7) (.t 8)⟩,
⟨some 10,none,.mv (.t 9)⟩,
⟨(some 11), (some (10, true)), .mv (.t 0)⟩,
⟨(some 12), (some (10, true)), .mv (.t 2)⟩,
⟨(some 13), (some (10, true)), .bin .leq .no (.t 11) (.t 12)⟩,
⟨some 14,none,.pick (.t 10) (.t 13) (.c (.bool false))⟩,
⟨some 6,none,.mv (.t 14)⟩]
def x_r10_from : XFunc := { np := 3, res := [.t 6], body :=
  (.seq (.reg j2y) (.seq (.reg j2z) .ret)) }
@[go_sem] def g8x : List XO := [
⟨some 2,none,.boxF (.t 0)⟩,
⟨some 4,none,.mv (.c (.int .i64 0))⟩]
@[go_sem] def g8y : List XO := [
⟨some 10,none,.fldA 0 (.tf 2)⟩,
⟨some 11,none,.load false 1 (.tf 10)⟩,
⟨some 12,none,.call "newel/faults.within" [.t 11, (.c (.int .i64 0)), (.c (.int .i64 10))]⟩,
⟨some 13,none,.un .not (.t 12)⟩,
⟨some 14,none,.mv (.t 13)⟩,
⟨(some 15), (some (14, false)), .fldA 1 (.tf 2)⟩,
⟨(some 16), (some (14, false)), .load false 1 (.tf 15)⟩,
⟨(some 17), (some (14, false)), .len false (.t 16)⟩,
⟨(some 18), (some (14, false)), .bin .gtr .no (.t 17) (.c (.int .i64 10))⟩,
⟨some 19,none,.pick (.t 14) (.c (.bool true)) (.t 18)⟩]
@[go_sem] def g87 : List XO := [
⟨some 4,none,.mv (.c (.int .i64 101))⟩]
@[go_sem] def g88 : List XO := [
⟨some 20,none,.fldA 1 (.tf 2)⟩,
⟨some 21,none,.load false 1 (.tf 20)⟩,
⟨some 22,none,.len false (.t 21)⟩,
⟨some 23,none,.mv (.c (.int .i64 0))⟩]
@[go_sem] def g89 : List XO := [
⟨some 24,none,.bin .lss .no (.t 23) (.t 22)⟩]
@[go_sem] def g9a : List XO := [
⟨some 25,none,.ixA 1 (.t 21) (.t 23)⟩,
⟨some 26,none,.load false 1 (.t 25)⟩,
⟨some 6,none,.mv (.t 26)⟩]
@[go_sem] def g9b : List XO := [
⟨some 7,none,.mv (.c (.int .i64 (-1)))⟩]
@[go_sem] def g9c : List XO := [
⟨some 27,none,.mv (.t 6)⟩,
⟨some 28,none,.len false (.t 27)⟩,
⟨some 29,none,.mv (.c (.int .i64 0))⟩]
@[go_sem] def g9d : List XO := [
⟨some 30,none,.bin .lss .no (.t 29) (.t 28)⟩]
@[go_sem] def g9e : List XO := [
⟨some 31,none,.ixA 1 (.t 27) (.t 29)⟩,
⟨some 32,none,.load false 1 (.t 31)⟩,
⟨some 9,none,.mv (.t 32)⟩]
@[go_sem] def g8z : List XO := [
⟨some 33,none,.mv (.t 9)⟩,
⟨some 34,none,.mv (.t 7)⟩,
⟨some 35,none,.bin .add .no (.t 34) (.c (.int .i64 1))⟩,
⟨some 36,none,.fldA 0 (.tf 2)⟩,
⟨some 37,none,.load false 1 (.tf 36)⟩,
⟨some 38,none,.bin .sub .no (.t 37) (.c (.int .i64 1))⟩,
⟨some 39,none,.call "newel/faults.within" [.t 33, .t 35, .t 38]⟩,
⟨some 40,none,.un .not (.t 39)⟩]
@[go_sem] def g80 : List XO := [
⟨some 4,none,.mv (.c (.int .i64 101))⟩]
@[go_sem] def g81 : List XO := [
⟨some 41,none,.mv (.t 9)⟩,
⟨some 7,none,.mv (.t 41)⟩]
@[go_sem] def g82 : List XO := [
⟨some 42,none,.bin .add .no (.t 29) (.c (.int .i64 1))⟩,
⟨some 29,none,.mv (.t 42)⟩]
def g9f : XCode :=
  (.seq (.reg g9d) (.seq (.cond (.t 30) .skip (.exit 2)) (.seq (.block 3 (.seq (.reg g9e) (.seq (.seq (.reg g8z) (.cond (.t 40) (.seq (.reg g80) .ret) .skip)) (.reg g81)))) (.reg g82))))
@[go_sem] def g83 : List XO := [
⟨some 43,none,.bin .add .no (.t 23) (.c (.int .i64 1))⟩,
⟨some 23,none,.mv (.t 43)⟩]
def g9g : XCode :=
  (.seq (.reg g89) (.seq (.cond (.t 24) .skip (.exit 0)) (.seq (.block 1 (.seq (.reg g9a) (.seq (.reg g9b) (.seq (.reg g9c) (.block 2 (.loop g9f)))))) (.reg g83))))
@[go_sem] def g84 : List XO := [
⟨some 44,none,.mv (.t 1)⟩,
⟨some 45,none,.len false (.t 44)⟩,
⟨some 46,none,.fldA 1 (.tf 2)⟩,
⟨some 47,none,.load false 1 (.tf 46)⟩,
⟨some 48,none,.len false (.t 47)⟩,
⟨some 49,none,.bin .neq .no (.t 45) (.t 48)⟩]
@[go_sem] def g85 : List XO := [
⟨some 4,none,.mv (.c (.int .i64 1))⟩]
@[go_sem] def g86 : List XO := [
⟨some 4,none,.mv (.c (.int .i64 0))⟩]
def x_faults_plant : XFunc := { np := 2, res := [.t 4], body :=
  (.seq (.reg g8x) (.seq (.seq (.reg g8y) (.cond (.t 19) (.seq (.reg g87) .ret) .skip)) (.seq (.seq (.reg g88) (.block 0 (.loop g9g))) (.seq (.seq (.reg g84) (.cond (.t 49) (.seq (.reg g85) .ret) .skip)) (.seq (.reg g86) .ret))))) }
@[go_sem] def g8d : List XO := [
⟨some 2,none,.boxF (.t 0)⟩,
⟨some 4,none,.mv (.c (.slice none 0 0))⟩]
@[go_sem] def g8e : List XO := [
⟨some 5,none,.mv (.c (.slice none 0 0))⟩]
@[go_sem] def g8i : List XO := [
⟨some 8,none,.fldA 0 (.tf 2)⟩,
⟨some 9,none,.load false 1 (.tf 8)⟩,
⟨some 10,none,.bin .shl .no (.c (.int .i64 1)) (.t 9)⟩,
⟨some 11,none,.mv (.c (.int .i64 0))⟩]
@[go_sem] def g8j : List XO := [
⟨some 12,none,.bin .lss .no (.t 11) (.t 10)⟩]
@[go_sem] def g8k : List XO := [
⟨some 13,none,.mv (.t 11)⟩,
⟨some 6,none,.mv (.t 13)⟩]
@[go_sem] def g8l : List XO := [
⟨some 14,none,.load true 2 (.tf 2)⟩,
⟨some 15,none,.mv (.t 1)⟩,
⟨some 16,none,.mv (.t 6)⟩,
⟨some 17,none,.call "newel/faults.explained" [.t 14, .t 15, .t 16]⟩,
⟨some 7,none,.mv (.t 17)⟩]
@[go_sem] def g8m : List XO := [
⟨some 19,none,.mv (.t 5)⟩,
⟨some 20,none,.len false (.t 19)⟩,
⟨some 21,none,.bin .eql .no (.t 20) (.c (.int .i64 0))⟩,
⟨some 22,none,.mv (.t 21)⟩,
⟨(some 23), (some (22, false)), .mv (.t 7)⟩,
⟨(some 24), (some (22, false)), .cvtI .u64 (.t 23)⟩,
⟨(some 25), (some (22, false)), .call "math/bits.OnesCount" [.t 24]⟩,
⟨(some 26), (some (22, false)), .mv (.t 5)⟩,
⟨(some 27), (some (22, false)), .ixA 1 (.t 26) (.c (.int .i64 0))⟩,
⟨(some 28), (some (22, false)), .load false 1 (.t 27)⟩,
⟨(some 29), (some (22, false)), .cvtI .u64 (.t 28)⟩,
⟨(some 30), (some (22, false)), .call "math/bits.OnesCount" [.t 29]⟩,
⟨(some 31), (some (22, false)), .bin .lss .no (.t 25) (.t 30)⟩,
⟨some 32,none,.pick (.t 22) (.c (.bool true)) (.t 31)⟩,
⟨some 18,none,.mv (.t 32)⟩]
@[go_sem] def g8n : List XO := [
⟨some 33,none,.mv (.t 7)⟩,
⟨some 34,none,.bsl 1 [.t 33]⟩,
⟨some 5,none,.mv (.t 34)⟩]
@[go_sem] def g8o : List XO := [
⟨some 36,none,.mv (.t 7)⟩,
⟨some 37,none,.cvtI .u64 (.t 36)⟩,
⟨some 38,none,.call "math/bits.OnesCount" [.t 37]⟩,
⟨some 39,none,.mv (.t 5)⟩,
⟨some 40,none,.ixA 1 (.t 39) (.c (.int .i64 0))⟩,
⟨some 41,none,.load false 1 (.t 40)⟩,
⟨some 42,none,.cvtI .u64 (.t 41)⟩,
⟨some 43,none,.call "math/bits.OnesCount" [.t 42]⟩,
⟨some 44,none,.bin .eql .no (.t 38) (.t 43)⟩,
⟨some 35,none,.mv (.t 44)⟩]
@[go_sem] def g8p : List XO := [
⟨some 45,none,.mv (.t 5)⟩,
⟨some 46,none,.mv (.t 7)⟩,
⟨some 47,none,.bsl 1 [.t 46]⟩,
⟨some 48,none,.app 1 8 (.t 45) (.t 47)⟩,
⟨some 5,none,.mv (.t 48)⟩]
@[go_sem] def g8f : List XO := [
⟨some 49,none,.bin .add .no (.t 11) (.c (.int .i64 1))⟩,
⟨some 11,none,.mv (.t 49)⟩]
def g8q : XCode :=
  (.seq (.reg g8j) (.seq (.cond (.t 12) .skip (.exit 0)) (.seq (.block 1 (.seq (.reg g8k) (.seq (.reg g8l) (.block 2 (.seq (.reg g8m) (.cond (.t 18) (.reg g8n) (.seq (.reg g8o) (.cond (.t 35) (.reg g8p) .skip)))))))) (.reg g8f))))
@[go_sem] def g8g : List XO := [
⟨some 50,none,.mv (.t 5)⟩,
⟨some 51,none,.callw "slices.SortFunc[[]int,int]" [.t 50, (.f "newel/faults.fewest$1")]⟩]
@[go_sem] def g8h : List XO := [
⟨some 52,none,.mv (.t 5)⟩,
⟨some 4,none,.mv (.t 52)⟩]
def x_faults_fewest : XFunc := { np := 2, res := [.t 4], body :=
  (.seq (.reg g8d) (.seq (.reg g8e) (.seq (.seq (.reg g8i) (.block 0 (.loop g8q))) (.seq (.reg g8g) (.seq (.reg g8h) .ret))))) }
@[go_sem] def g9r : List XO := [
⟨some 6,none,.mv (.c (.bool false))⟩]
@[go_sem] def g9s : List XO := [
⟨some 7,none,.mv (.t 0)⟩,
⟨some 8,none,.mv (.t 1)⟩,
⟨some 9,none,.bin .geq .no (.t 7) (.t 8)⟩,
⟨some 10,none,.mv (.t 9)⟩,
⟨(some 11), (some (10, true)), .mv (.t 0)⟩,
⟨(some 12), (some (10, true)), .mv (.t 2)⟩,
⟨(some 13), (some (10, true)), .bin .leq .no (.t 11) (.t 12)⟩,
⟨some 14,none,.pick (.t 10) (.t 13) (.c (.bool false))⟩,
⟨some 6,none,.mv (.t 14)⟩]
def x_faults_within : XFunc := { np := 3, res := [.t 6], body :=
  (.seq (.reg g9r) (.seq (.reg g9s) .ret)) }
@[go_sem] def j18 : List XO := [
⟨some 2,none,.mv (.c (.int .i64 0))⟩]
@[go_sem] def j19 : List XO := [
⟨some 3,none,.mv (.t 0)⟩,
⟨some 4,none,.cvtI .u32 (.t 3)⟩,
⟨some 5,none,.call "math/bits.OnesCount32" [.t 4]⟩,
⟨some 2,none,.mv (.t 5)⟩]
@[go_sem] def j2a : List XO := [
⟨some 6,none,.mv (.t 0)⟩,
⟨some 7,none,.call "math/bits.OnesCount64" [.t 6]⟩,
⟨some 2,none,.mv (.t 7)⟩]
def x_math_bits_OnesCount : XFunc := { np := 1, res := [.t 2], body :=
  (.seq (.reg j18) (.seq (.cond (.c (.bool false)) (.seq (.reg j19) .ret) .skip) (.seq (.reg j2a) .ret))) }
@[go_sem] def j20 : List XO := [
⟨some 4,none,.mv (.c (.int .i64 0))⟩]
@[go_sem] def j21 : List XO := [
⟨some 9,none,.mv (.t 0)⟩,
⟨some 10,none,.len false (.t 9)⟩,
⟨some 11,none,.mv (.c (.int .i64 0))⟩]
@[go_sem] def j26 : List XO := [
⟨some 12,none,.bin .lss .no (.t 11) (.t 10)⟩]
@[go_sem] def j27 : List XO := [
⟨some 13,none,.mv (.t 11)⟩,
⟨some 14,none,.ixA 1 (.t 9) (.t 11)⟩,
⟨some 15,none,.load false 1 (.t 14)⟩,
⟨some 5,none,.mv (.t 13)⟩,
⟨some 6,none,.mv (.t 15)⟩]
@[go_sem] def j28 : List XO := [
⟨some 16,none,.mv (.t 5)⟩,
⟨some 17,none,.mv (.t 1)⟩,
⟨some 18,none,.len false (.t 17)⟩,
⟨some 19,none,.bin .geq .no (.t 16) (.t 18)⟩]
@[go_sem] def j29 : List XO := [
⟨some 4,none,.mv (.c (.int .i64 1))⟩]
@[go_sem] def j3a : List XO := [
⟨some 20,none,.mv (.t 1)⟩,
⟨some 21,none,.mv (.t 5)⟩,
⟨some 22,none,.ixA 1 (.t 20) (.t 21)⟩,
⟨some 23,none,.load false 1 (.t 22)⟩,
⟨some 7,none,.mv (.t 23)⟩]
@[go_sem] def j3b : List XO := [
⟨some 24,none,.mv (.t 6)⟩,
⟨some 25,none,.mv (.t 7)⟩,
⟨some 26,none,.call "cmp.Compare[int]" [.t 24, .t 25]⟩,
⟨some 8,none,.mv (.t 26)⟩]
@[go_sem] def j3c : List XO := [
⟨some 27,none,.mv (.t 8)⟩,
⟨some 28,none,.bin .neq .no (.t 27) (.c (.int .i64 0))⟩]
@[go_sem] def j3d : List XO := [
⟨some 29,none,.mv (.t 8)⟩,
⟨some 4,none,.mv (.t 29)⟩]
@[go_sem] def j22 : List XO := [
⟨some 30,none,.bin .add .no (.t 11) (.c (.int .i64 1))⟩,
⟨some 11,none,.mv (.t 30)⟩]
def c83 : XCode :=
  (.seq (.reg j26) (.seq (.cond (.t 12) .skip (.exit 0)) (.seq (.block 1 (.seq (.reg j27) (.seq (.seq (.reg j28) (.cond (.t 19) (.seq (.reg j29) .ret) .skip)) (.seq (.reg j3a) (.seq (.reg j3b) (.seq (.reg j3c) (.cond (.t 28) (.seq (.reg j3d) .ret) .skip))))))) (.reg j22))))
@[go_sem] def j23 : List XO := [
⟨some 31,none,.mv (.t 0)⟩,
⟨some 32,none,.len false (.t 31)⟩,
⟨some 33,none,.mv (.t 1)⟩,
⟨some 34,none,.len false (.t 33)⟩,
⟨some 35,none,.bin .lss .no (.t 32) (.t 34)⟩]
@[go_sem] def j24 : List XO := [
⟨some 4,none,.mv (.c (.int .i64 (-1)))⟩]
@[go_sem] def j25 : List XO := [
⟨some 4,none,.mv (.c (.int .i64 0))⟩]
def x_slices_Compare___int_int_ : XFunc := { np := 2, res := [.t 4], body :=
  (.seq (.reg j20) (.seq (.seq (.reg j21) (.block 0 (.loop c83))) (.seq (.seq (.reg j23) (.cond (.t 35) (.seq (.reg j24) .ret) .skip)) (.seq (.reg j25) .ret)))) }
@[go_sem] def j2j : List XO := [
⟨some 2,none,.mv (.c (.int .i64 0))⟩]
@[go_sem] def j2k : List XO := [
⟨some 3,none,.mv (.t 0)⟩,
⟨some 4,none,.cvtI .u32 (.t 3)⟩,
⟨some 5,none,.call "math/bits.TrailingZeros32" [.t 4]⟩,
⟨some 2,none,.mv (.t 5)⟩]
@[go_sem] def j2l : List XO := [
⟨some 6,none,.mv (.t 0)⟩,
⟨some 7,none,.call "math/bits.TrailingZeros64" [.t 6]⟩,
⟨some 2,none,.mv (.t 7)⟩]
def x_math_bits_TrailingZeros : XFunc := { np := 1, res := [.t 2], body :=
  (.seq (.reg j2j) (.seq (.cond (.c (.bool false)) (.seq (.reg j2k) .ret) .skip) (.seq (.reg j2l) .ret))) }
@[go_sem] def g7v : List XO := [
⟨some 3,none,.boxF (.t 0)⟩,
⟨some 5,none,.boxF (.t 2)⟩,
⟨some 6,none,.mv (.c (.int .i64 0))⟩]
@[go_sem] def g7w : List XO := [
⟨some 11,none,.load false 1 (.tf 5)⟩,
⟨some 7,none,.mv (.t 11)⟩]
@[go_sem] def g7y : List XO := [
⟨some 12,none,.fldA 1 (.tf 3)⟩,
⟨some 13,none,.load false 1 (.tf 12)⟩,
⟨some 14,none,.len false (.t 13)⟩,
⟨some 15,none,.mv (.c (.int .i64 0))⟩]
@[go_sem] def g7z : List XO := [
⟨some 16,none,.bin .lss .no (.t 15) (.t 14)⟩]
@[go_sem] def g70 : List XO := [
⟨some 17,none,.mv (.t 15)⟩,
⟨some 18,none,.ixA 1 (.t 13) (.t 15)⟩,
⟨some 19,none,.load false 1 (.t 18)⟩,
⟨some 8,none,.mv (.t 17)⟩,
⟨some 9,none,.mv (.t 19)⟩]
@[go_sem] def g71 : List XO := [
⟨some 20,none,.mv (.t 9)⟩,
⟨some 21,none,.mkfn "newel/faults.explained$1" [] [.t 5]⟩,
⟨some 22,none,.call "slices.ContainsFunc[[]int,int]" [.t 20, .t 21]⟩,
⟨some 10,none,.mv (.t 22)⟩]
@[go_sem] def g72 : List XO := [
⟨some 23,none,.mv (.t 10)⟩,
⟨some 24,none,.mv (.t 1)⟩,
⟨some 25,none,.mv (.t 8)⟩,
⟨some 26,none,.ixA 1 (.t 24) (.t 25)⟩,
⟨some 27,none,.load false 1 (.t 26)⟩,
⟨some 28,none,.bin .neq .bool (.t 23) (.t 27)⟩]
@[go_sem] def g73 : List XO := [
⟨some 29,none,.mv (.t 7)⟩,
⟨some 30,none,.fldA 0 (.tf 3)⟩,
⟨some 31,none,.load false 1 (.tf 30)⟩,
⟨some 32,none,.mv (.t 8)⟩,
⟨some 33,none,.bin .add .no (.t 31) (.t 32)⟩,
⟨some 34,none,.bin .shl .no (.c (.int .i64 1)) (.t 33)⟩,
⟨some 35,none,.bin .or .no (.t 29) (.t 34)⟩,
⟨some 7,none,.mv (.t 35)⟩]
@[go_sem] def g74 : List XO := [
⟨some 36,none,.bin .add .no (.t 15) (.c (.int .i64 1))⟩,
⟨some 15,none,.mv (.t 36)⟩]
def g75 : XCode :=
  (.seq (.reg g7z) (.seq (.cond (.t 16) .skip (.exit 0)) (.seq (.block 1 (.seq (.reg g70) (.seq (.reg g71) (.seq (.reg g72) (.cond (.t 28) (.reg g73) .skip))))) (.reg g74))))
@[go_sem] def g7x : List XO := [
⟨some 37,none,.mv (.t 7)⟩,
⟨some 6,none,.mv (.t 37)⟩]
def x_faults_explained : XFunc := { np := 3, res := [.t 6], body :=
  (.seq (.reg g7v) (.seq (.reg g7w) (.seq (.seq (.reg g7y) (.block 0 (.loop g75))) (.seq (.reg g7x) .ret)))) }
@[go_sem] def j3p : List XO := [
⟨some 5,none,.mv (.t 0)⟩,
⟨some 6,none,.len false (.t 5)⟩,
⟨some 4,none,.mv (.t 6)⟩]
@[go_sem] def j3q : List XO := [
⟨some 7,none,.mv (.t 0)⟩,
⟨some 8,none,.mv (.t 4)⟩,
⟨some 9,none,.mv (.t 4)⟩,
⟨some 10,none,.cvtI .u64 (.t 9)⟩,
⟨some 11,none,.call "math/bits.Len" [.t 10]⟩,
⟨some 12,none,.mv (.t 1)⟩,
⟨some 13,none,.callw "slices.pdqsortCmpFunc[int]" [.t 7, (.c (.int .i64 0)), .t 8, .t 11, .t 12]⟩]
def x_slices_SortFunc___int_int_ : XFunc := { np := 2, res := [], body :=
  (.seq (.reg j3p) (.reg j3q)) }
@[go_sem] def g8b : List XO := [
⟨some 4,none,.mv (.c (.int .i64 0))⟩]
@[go_sem] def g8c : List XO := [
⟨some 5,none,.mv (.t 0)⟩,
⟨some 6,none,.call "newel/faults.members" [.t 5]⟩,
⟨some 7,none,.mv (.t 1)⟩,
⟨some 8,none,.call "newel/faults.members" [.t 7]⟩,
⟨some 9,none,.call "slices.Compare[[]int,int]" [.t 6, .t 8]⟩,
⟨some 4,none,.mv (.t 9)⟩]
def x_faults_fewestD1 : XFunc := { np := 2, res := [.t 4], body :=
  (.seq (.reg g8b) (.seq (.reg g8c) .ret)) }
@[go_sem] def j1y : List XO := [
⟨some 2,none,.mv (.c (.int .i64 0))⟩]
@[go_sem] def j1z : List XO := [
⟨some 3,none,.mv (.t 0)⟩,
⟨some 4,none,.bin .shr .no (.t 3) (.c (.int .u64 24))⟩,
⟨some 5,none,.ixS (.c (.string (ByteArray.mk #[0, 1, 1, 2, 1, 2, 2, 3, 1, 2, 2, 3, 2, 3, 3, 4, 1, 2, 2, 3, 2, 3, 3, 4, 2, 3, 3, 4, 3, 4, 4, 5, 1, 2, 2, 3, 2, 3, 3, 4, 2, 3, 3, 4, 3, 4, 4, 5, 2, 3, 3, 4, 3, 4, 4, 5, 3, 4, 4, 5, 4, 5, 5, 6, 1, 2, 2, 3, 2, 3, 3, 4, 2, 3, 3, 4, 3, 4, 4, 5, 2, 3, 3, 4, 3, 4, 4, 5, 3, 4, 4, 5, 4, 5, 5, 6, 2, 3, 3, 4, 3, 4, 4, 5, 3, 4, 4, 5, 4, 5, 5, 6, 3, 4, 4, 5, 4, 5, 5, 6, 4, 5, 5, 6, 5, 6, 6, 7, 1, 2, 2, 3, 2, 3, 3, 4, 2, 3, 3, 4, 3, 4, 4, 5, 2, 3, 3, 4, 3, 4, 4, 5, 3, 4, 4, 5, 4, 5, 5, 6, 2, 3, 3, 4, 3, 4, 4, 5, 3, 4, 4, 5, 4, 5, 5, 6, 3, 4, 4, 5, 4, 5, 5, 6, 4, 5, 5, 6, 5, 6, 6, 7, 2, 3, 3, 4, 3, 4, 4, 5, 3, 4, 4, 5, 4, 5, 5, 6, 3, 4, 4, 5, 4, 5, 5, 6, 4, 5, 5, 6, 5, 6, 6, 7, 3, 4, 4, 5, 4, 5, 5, 6, 4, 5, 5, 6, 5, 6, 6, 7, 4, 5, 5, 6, 5, 6, 6, 7, 5, 6, 6, 7, 6, 7, 7, 8]))) (.t 4)⟩,
⟨some 6,none,.mv (.t 0)⟩,
⟨some 7,none,.bin .shr .no (.t 6) (.c (.int .u64 16))⟩,
⟨some 8,none,.bin .and .no (.t 7) (.c (.int .u32 255))⟩,
⟨some 9,none,.ixS (.c (.string (ByteArray.mk #[0, 1, 1, 2, 1, 2, 2, 3, 1, 2, 2, 3, 2, 3, 3, 4, 1, 2, 2, 3, 2, 3, 3, 4, 2, 3, 3, 4, 3, 4, 4, 5, 1, 2, 2, 3, 2, 3, 3, 4, 2, 3, 3, 4, 3, 4, 4, 5, 2, 3, 3, 4, 3, 4, 4, 5, 3, 4, 4, 5, 4, 5, 5, 6, 1, 2, 2, 3, 2, 3, 3, 4, 2, 3, 3, 4, 3, 4, 4, 5, 2, 3, 3, 4, 3, 4, 4, 5, 3, 4, 4, 5, 4, 5, 5, 6, 2, 3, 3, 4, 3, 4, 4, 5, 3, 4, 4, 5, 4, 5, 5, 6, 3, 4, 4, 5, 4, 5, 5, 6, 4, 5, 5, 6, 5, 6, 6, 7, 1, 2, 2, 3, 2, 3, 3, 4, 2, 3, 3, 4, 3, 4, 4, 5, 2, 3, 3, 4, 3, 4, 4, 5, 3, 4, 4, 5, 4, 5, 5, 6, 2, 3, 3, 4, 3, 4, 4, 5, 3, 4, 4, 5, 4, 5, 5, 6, 3, 4, 4, 5, 4, 5, 5, 6, 4, 5, 5, 6, 5, 6, 6, 7, 2, 3, 3, 4, 3, 4, 4, 5, 3, 4, 4, 5, 4, 5, 5, 6, 3, 4, 4, 5, 4, 5, 5, 6, 4, 5, 5, 6, 5, 6, 6, 7, 3, 4, 4, 5, 4, 5, 5, 6, 4, 5, 5, 6, 5, 6, 6, 7, 4, 5, 5, 6, 5, 6, 6, 7, 5, 6, 6, 7, 6, 7, 7, 8]))) (.t 8)⟩,
⟨some 10,none,.bin .add .no (.t 5) (.t 9)⟩,
⟨some 11,none,.mv (.t 0)⟩,
⟨some 12,none,.bin .shr .no (.t 11) (.c (.int .u64 8))⟩,
⟨some 13,none,.bin .and .no (.t 12) (.c (.int .u32 255))⟩,
⟨some 14,none,.ixS (.c (.string (ByteArray.mk #[0, 1, 1, 2, 1, 2, 2, 3, 1, 2, 2, 3, 2, 3, 3, 4, 1, 2, 2, 3, 2, 3, 3, 4, 2, 3, 3, 4, 3, 4, 4, 5, 1, 2, 2, 3, 2, 3, 3, 4, 2, 3, 3, 4, 3, 4, 4, 5, 2, 3, 3, 4, 3, 4, 4, 5, 3, 4, 4, 5, 4, 5, 5, 6, 1, 2, 2, 3, 2, 3, 3, 4, 2, 3, 3, 4, 3, 4, 4, 5, 2, 3, 3, 4, 3, 4, 4, 5, 3, 4, 4, 5, 4, 5, 5, 6, 2, 3, 3, 4, 3, 4, 4, 5, 3, 4, 4, 5, 4, 5, 5, 6, 3, 4, 4, 5, 4, 5, 5, 6, 4, 5, 5, 6, 5, 6, 6, 7, 1, 2, 2, 3, 2, 3, 3, 4, 2, 3, 3, 4, 3, 4, 4, 5, 2, 3, 3, 4, 3, 4, 4, 5, 3, 4, 4, 5, 4, 5, 5, 6, 2, 3, 3, 4, 3, 4, 4, 5, 3, 4, 4, 5, 4, 5, 5, 6, 3, 4, 4, 5, 4, 5, 5, 6, 4, 5, 5, 6, 5, 6, 6, 7, 2, 3, 3, 4, 3, 4, 4, 5, 3, 4, 4, 5, 4, 5, 5, 6, 3, 4, 4, 5, 4, 5, 5, 6, 4, 5, 5, 6, 5, 6, 6, 7, 3, 4, 4, 5, 4, 5, 5, 6, 4, 5, 5, 6, 5, 6, 6, 7, 4, 5, 5, 6, 5, 6, 6, 7, 5, 6, 6, 7, 6, 7, 7, 8]))) (.t 13)⟩,
⟨some 15,none,.bin .add .no (.t 10) (.t 14)⟩,
⟨some 16,none,.mv (.t 0)⟩,
⟨some 17,none,.bin .and .no (.t 16) (.c (.int .u32 255))⟩,
⟨some 18,none,.ixS (.c (.string (ByteArray.mk #[0, 1, 1, 2, 1, 2, 2, 3, 1, 2, 2, 3, 2, 3, 3, 4, 1, 2, 2, 3, 2, 3, 3, 4, 2, 3, 3, 4, 3, 4, 4, 5, 1, 2, 2, 3, 2, 3, 3, 4, 2, 3, 3, 4, 3, 4, 4, 5, 2, 3, 3, 4, 3, 4, 4, 5, 3, 4, 4, 5, 4, 5, 5, 6, 1, 2, 2, 3, 2, 3, 3, 4, 2, 3, 3, 4, 3, 4, 4, 5, 2, 3, 3, 4, 3, 4, 4, 5, 3, 4, 4, 5, 4, 5, 5, 6, 2, 3, 3, 4, 3, 4, 4, 5, 3, 4, 4, 5, 4, 5, 5, 6, 3, 4, 4, 5, 4, 5, 5, 6, 4, 5, 5, 6, 5, 6, 6, 7, 1, 2, 2, 3, 2, 3, 3, 4, 2, 3, 3, 4, 3, 4, 4, 5, 2, 3, 3, 4, 3, 4, 4, 5, 3, 4, 4, 5, 4, 5, 5, 6, 2, 3, 3, 4, 3, 4, 4, 5, 3, 4, 4, 5, 4, 5, 5, 6, 3, 4, 4, 5, 4, 5, 5, 6, 4, 5, 5, 6, 5, 6, 6, 7, 2, 3, 3, 4, 3, 4, 4, 5, 3, 4, 4, 5, 4, 5, 5, 6, 3, 4, 4, 5, 4, 5, 5, 6, 4, 5, 5, 6, 5, 6, 6, 7, 3, 4, 4, 5, 4, 5, 5, 6, 4, 5, 5, 6, 5, 6, 6, 7, 4, 5, 5, 6, 5, 6, 6, 7, 5, 6, 6, 7, 6, 7, 7, 8]))) (.t 17)⟩,
⟨some 19,none,.bin .add .no (.t 15) (.t 18)⟩,
⟨some 20,none,.cvtI .i64 (.t 19)⟩,
⟨some 2,none,.mv (.t 20)⟩]
def x_math_bits_OnesCount32 : XFunc := { np := 1, res := [.t 2], body :=
  (.seq (.reg j1y) (.seq (.reg j1z) .ret)) }
@[go_sem] def j10 : List XO := [
⟨some 2,none,.mv (.c (.int .i64 0))⟩]
@[go_sem] def j11 : List XO := [
⟨some 3,none,.mv (.t 0)⟩,
⟨some 4,none,.bin .shr .no (.t 3) (.c (.int .u64 1))⟩,
⟨some 5,none,.bin .and .no (.t 4) (.c (.int .u64 6148914691236517205))⟩,
⟨some 6,none,.mv (.t 0)⟩,
⟨some 7,none,.bin .and .no (.t 6) (.c (.int .u64 6148914691236517205))⟩,
⟨some 8,none,.bin .add .no (.t 5) (.t 7)⟩,
⟨some 0,none,.mv (.t 8)⟩]
@[go_sem] def j12 : List XO := [
⟨some 9,none,.mv (.t 0)⟩,
⟨some 10,none,.bin .shr .no (.t 9) (.c (.int .u64 2))⟩,
⟨some 11,none,.bin .and .no (.t 10) (.c (.int .u64 3689348814741910323))⟩,
⟨some 12,none,.mv (.t 0)⟩,
⟨some 13,none,.bin .and .no (.t 12) (.c (.int .u64 3689348814741910323))⟩,
⟨some 14,none,.bin .add .no (.t 11) (.t 13)⟩,
⟨some 0,none,.mv (.t 14)⟩]
@[go_sem] def j13 : List XO := [
⟨some 15,none,.mv (.t 0)⟩,
⟨some 16,none,.bin .shr .no (.t 15) (.c (.int .u64 4))⟩,
⟨some 17,none,.mv (.t 0)⟩,
⟨some 18,none,.bin .add .no (.t 16) (.t 17)⟩,
⟨some 19,none,.bin .and .no (.t 18) (.c (.int .u64 1085102592571150095))⟩,
⟨some 0,none,.mv (.t 19)⟩]
@[go_sem] def j14 : List XO := [
⟨some 20,none,.mv (.t 0)⟩,
⟨some 21,none,.mv (.t 0)⟩,
⟨some 22,none,.bin .shr .no (.t 21) (.c (.int .u64 8))⟩,
⟨some 23,none,.bin .add .no (.t 20) (.t 22)⟩,
⟨some 0,none,.mv (.t 23)⟩]
@[go_sem] def j15 : List XO := [
⟨some 24,none,.mv (.t 0)⟩,
⟨some 25,none,.mv (.t 0)⟩,
⟨some 26,none,.bin .shr .no (.t 25) (.c (.int .u64 16))⟩,
⟨some 27,none,.bin .add .no (.t 24) (.t 26)⟩,
⟨some 0,none,.mv (.t 27)⟩]
@[go_sem] def j16 : List XO := [
⟨some 28,none,.mv (.t 0)⟩,
⟨some 29,none,.mv (.t 0)⟩,
⟨some 30,none,.bin .shr .no (.t 29) (.c (.int .u64 32))⟩,
⟨some 31,none,.bin .add .no (.t 28) (.t 30)⟩,
⟨some 0,none,.mv (.t 31)⟩]
@[go_sem] def j17 : List XO := [
⟨some 32,none,.mv (.t 0)⟩,
⟨some 33,none,.cvtI .i64 (.t 32)⟩,
⟨some 34,none,.bin .and .no (.t 33) (.c (.int .i64 127))⟩,
⟨some 2,none,.mv (.t 34)⟩]
def x_math_bits_OnesCount64 : XFunc := { np := 1, res := [.t 2], body :=
  (.seq (.reg j10) (.seq (.reg j11) (.seq (.reg j12) (.seq (.reg j13) (.seq (.reg j14) (.seq (.reg j15) (.seq (.reg j16) (.seq (.reg j17) .ret)))))))) }
@[go_sem] def g6d : List XO := [
⟨some 4,none,.mv (.c (.int .i64 0))⟩]
@[go_sem] def g6e : List XO := [
⟨some 7,none,.mv (.t 0)⟩,
⟨some 8,none,.call "cmp.isNaN[int]" [.t 7]⟩,
⟨some 5,none,.mv (.t 8)⟩]
@[go_sem] def g6j : List XO := [
⟨some 9,none,.mv (.t 1)⟩,
⟨some 10,none,.call "cmp.isNaN[int]" [.t 9]⟩,
⟨some 6,none,.mv (.t 10)⟩]
@[go_sem] def g6k : List XO := [
⟨some 11,none,.mv (.t 5)⟩]
@[go_sem] def g6l : List XO := [
⟨some 12,none,.mv (.t 6)⟩]
@[go_sem] def g6m : List XO := [
⟨some 4,none,.mv (.c (.int .i64 0))⟩]
@[go_sem] def g6n : List XO := [
⟨some 4,none,.mv (.c (.int .i64 (-1)))⟩]
@[go_sem] def g6o : List XO := [
⟨some 13,none,.mv (.t 6)⟩]
@[go_sem] def g6p : List XO := [
⟨some 4,none,.mv (.c (.int .i64 1))⟩]
@[go_sem] def g6q : List XO := [
⟨some 14,none,.mv (.t 0)⟩,
⟨some 15,none,.mv (.t 1)⟩,
⟨some 16,none,.bin .lss .no (.t 14) (.t 15)⟩]
@[go_sem] def g6f : List XO := [
⟨some 4,none,.mv (.c (.int .i64 (-1)))⟩]
@[go_sem] def g6g : List XO := [
⟨some 17,none,.mv (.t 0)⟩,
⟨some 18,none,.mv (.t 1)⟩,
⟨some 19,none,.bin .gtr .no (.t 17) (.t 18)⟩]
@[go_sem] def g6h : List XO := [
⟨some 4,none,.mv (.c (.int .i64 1))⟩]
@[go_sem] def g6i : List XO := [
⟨some 4,none,.mv (.c (.int .i64 0))⟩]
def x_cmp_Compare_int_ : XFunc := { np := 2, res := [.t 4], body :=
  (.seq (.reg g6d) (.seq (.reg g6e) (.seq (.reg g6j) (.seq (.seq (.reg g6k) (.cond (.t 11) (.seq (.seq (.reg g6l) (.cond (.t 12) (.seq (.reg g6m) .ret) .skip)) (.seq (.reg g6n) .ret)) .skip)) (.seq (.seq (.reg g6o) (.cond (.t 13) (.seq (.reg g6p) .ret) .skip)) (.seq (.seq (.reg g6q) (.cond (.t 16) (.seq (.reg g6f) .ret) .skip)) (.seq (.seq (.reg g6g) (.cond (.t 19) (.seq (.reg g6h) .ret) .skip)) (.seq (.reg g6i) .ret)))))))) }
@[go_sem] def j2b : List XO := [
⟨some 2,none,.mv (.c (.int .i64 0))⟩]
@[go_sem] def j2c : List XO := [
⟨some 3,none,.mv (.t 0)⟩,
⟨some 4,none,.bin .eql .no (.t 3) (.c (.int .u32 0))⟩]
@[go_sem] def j2d : List XO := [
⟨some 2,none,.mv (.c (.int .i64 32))⟩]
@[go_sem] def j2e : List XO := [
⟨some 5,none,.mv (.t 0)⟩,
⟨some 6,none,.mv (.t 0)⟩,
⟨some 7,none,.un .neg (.t 6)⟩,
⟨some 8,none,.bin .and .no (.t 5) (.t 7)⟩,
⟨some 9,none,.bin .mul .no (.t 8) (.c (.int .u32 125613361))⟩,
⟨some 10,none,.bin .shr .no (.t 9) (.c (.int .u64 27))⟩,
⟨some 11,none,.ixP 1 32 (.g 0 gt_0) (.t 10)⟩,
⟨some 12,none,.load false 1 (.t 11)⟩,
⟨some 13,none,.cvtI .i64 (.t 12)⟩,
⟨some 2,none,.mv (.t 13)⟩]
def x_math_bits_TrailingZeros32 : XFunc := { np := 1, res := [.t 2], body :=
  (.seq (.reg j2b) (.seq (.seq (.reg j2c) (.cond (.t 4) (.seq (.reg j2d) .ret) .skip)) (.seq (.reg j2e) .ret))) }
@[go_sem] def j2f : List XO := [
⟨some 2,none,.mv (.c (.int .i64 0))⟩]
@[go_sem] def j2g : List XO := [
⟨some 3,none,.mv (.t 0)⟩,
⟨some 4,none,.bin .eql .no (.t 3) (.c (.int .u64 0))⟩]
@[go_sem] def j2h : List XO := [
⟨some 2,none,.mv (.c (.int .i64 64))⟩]
@[go_sem] def j2i : List XO := [
⟨some 5,none,.mv (.t 0)⟩,
⟨some 6,none,.mv (.t 0)⟩,
⟨some 7,none,.un .neg (.t 6)⟩,
⟨some 8,none,.bin .and .no (.t 5) (.t 7)⟩,
⟨some 9,none,.bin .mul .no (.t 8) (.c (.int .u64 285870213051353865))⟩,
⟨some 10,none,.bin .shr .no (.t 9) (.c (.int .u64 58))⟩,
⟨some 11,none,.ixP 1 64 (.g 1 gt_1) (.t 10)⟩,
⟨some 12,none,.load false 1 (.t 11)⟩,
⟨some 13,none,.cvtI .i64 (.t 12)⟩,
⟨some 2,none,.mv (.t 13)⟩]
def x_math_bits_TrailingZeros64 : XFunc := { np := 1, res := [.t 2], body :=
  (.seq (.reg j2f) (.seq (.seq (.reg j2g) (.cond (.t 4) (.seq (.reg j2h) .ret) .skip)) (.seq (.reg j2i) .ret))) }
@[go_sem] def j3e : List XO := [
⟨some 4,none,.mv (.c (.bool false))⟩]
@[go_sem] def j3f : List XO := [
⟨some 5,none,.mv (.t 0)⟩,
⟨some 6,none,.mv (.t 1)⟩,
⟨some 7,none,.call "slices.IndexFunc[[]int,int]" [.t 5, .t 6]⟩,
⟨some 8,none,.bin .geq .no (.t 7) (.c (.int .i64 0))⟩,
⟨some 4,none,.mv (.t 8)⟩]
def x_slices_ContainsFunc___int_int_ : XFunc := { np := 2, res := [.t 4], body :=
  (.seq (.reg j3e) (.seq (.reg j3f) .ret)) }
@[go_sem] def g7t : List XO := [
⟨some 3,none,.mv (.c (.bool false))⟩]
@[go_sem] def g7u : List XO := [
⟨some 4,none,.load false 1 (.t 1)⟩,
⟨some 5,none,.mv (.t 0)⟩,
⟨some 6,none,.bin .shr .no (.t 4) (.t 5)⟩,
⟨some 7,none,.bin .and .no (.t 6) (.c (.int .i64 1))⟩,
⟨some 8,none,.bin .eql .no (.t 7) (.c (.int .i64 1))⟩,
⟨some 3,none,.mv (.t 8)⟩]
def x_faults_explainedD1 : XFunc := { np := 2, res := [.t 3], body :=
  (.seq (.reg g7t) (.seq (.reg g7u) .ret)) }
@[go_sem] def j7m : List XO := [
⟨some 10,none,.mv (.c (.bool true))⟩]
@[go_sem] def j7n : List XO := [
⟨some 11,none,.mv (.c (.bool true))⟩]
@[go_sem] def j7y : List XO := [
⟨some 21,none,.mv (.t 2)⟩,
⟨some 22,none,.mv (.t 1)⟩,
⟨some 23,none,.bin .sub .no (.t 21) (.t 22)⟩,
⟨some 12,none,.mv (.t 23)⟩]
@[go_sem] def j79 : List XO := [
⟨some 24,none,.mv (.t 12)⟩,
⟨some 25,none,.bin .leq .no (.t 24) (.c (.int .i64 12))⟩]
@[go_sem] def j8b : List XO := [
⟨some 26,none,.mv (.t 0)⟩,
⟨some 27,none,.mv (.t 1)⟩,
⟨some 28,none,.mv (.t 2)⟩,
⟨some 29,none,.mv (.t 4)⟩,
⟨some 30,none,.callw "slices.insertionSortCmpFunc[int]" [.t 26, .t 27, .t 28, .t 29]⟩]
@[go_sem] def j8c : List XO := [
⟨some 31,none,.mv (.t 3)⟩,
⟨some 32,none,.bin .eql .no (.t 31) (.c (.int .i64 0))⟩]
@[go_sem] def j8d : List XO := [
⟨some 33,none,.mv (.t 0)⟩,
⟨some 34,none,.mv (.t 1)⟩,
⟨some 35,none,.mv (.t 2)⟩,
⟨some 36,none,.mv (.t 4)⟩,
⟨some 37,none,.callw "slices.heapSortCmpFunc[int]" [.t 33, .t 34, .t 35, .t 36]⟩]
@[go_sem] def j8e : List XO := [
⟨some 38,none,.mv (.t 10)⟩,
⟨some 39,none,.un .not (.t 38)⟩]
@[go_sem] def j8f : List XO := [
⟨some 40,none,.mv (.t 0)⟩,
⟨some 41,none,.mv (.t 1)⟩,
⟨some 42,none,.mv (.t 2)⟩,
⟨some 43,none,.mv (.t 4)⟩,
⟨some 44,none,.callw "slices.breakPatternsCmpFunc[int]" [.t 40, .t 41, .t 42, .t 43]⟩]
@[go_sem] def j8g : List XO := [
⟨some 45,none,.mv (.t 3)⟩,
⟨some 46,none,.bin .sub .no (.t 45) (.c (.int .i64 1))⟩,
⟨some 3,none,.mv (.t 46)⟩]
@[go_sem] def j7o : List XO := [
⟨some 48,none,.mv (.t 0)⟩,
⟨some 49,none,.mv (.t 1)⟩,
⟨some 50,none,.mv (.t 2)⟩,
⟨some 51,none,.mv (.t 4)⟩,
⟨some 52,none,.call "slices.choosePivotCmpFunc[int]" [.t 48, .t 49, .t 50, .t 51]⟩,
⟨some 47,none,.mv (.t 52)⟩,
⟨some 53,none,.ext (.t 47) 0⟩,
⟨some 54,none,.ext (.t 47) 1⟩,
⟨some 13,none,.mv (.t 53)⟩,
⟨some 14,none,.mv (.t 54)⟩]
@[go_sem] def j7p : List XO := [
⟨some 55,none,.mv (.t 14)⟩,
⟨some 56,none,.bin .eql .no (.t 55) (.c (.int .i64 2))⟩]
@[go_sem] def j7q : List XO := [
⟨some 57,none,.mv (.t 0)⟩,
⟨some 58,none,.mv (.t 1)⟩,
⟨some 59,none,.mv (.t 2)⟩,
⟨some 60,none,.mv (.t 4)⟩,
⟨some 61,none,.callw "slices.reverseRangeCmpFunc[int]" [.t 57, .t 58, .t 59, .t 60]⟩]
@[go_sem] def j7r : List XO := [
⟨some 62,none,.mv (.t 2)⟩,
⟨some 63,none,.bin .sub .no (.t 62) (.c (.int .i64 1))⟩,
⟨some 64,none,.mv (.t 13)⟩,
⟨some 65,none,.mv (.t 1)⟩,
⟨some 66,none,.bin .sub .no (.t 64) (.t 65)⟩,
⟨some 67,none,.bin .sub .no (.t 63) (.t 66)⟩,
⟨some 13,none,.mv (.t 67)⟩]
@[go_sem] def j7s : List XO := [
⟨some 14,none,.mv (.c (.int .i64 1))⟩]
@[go_sem] def j7t : List XO := [
⟨some 68,none,.mv (.t 10)⟩,
⟨some 69,none,.mv (.t 68)⟩,
⟨(some 70), (some (69, true)), .mv (.t 11)⟩,
⟨some 71,none,.pick (.t 69) (.t 70) (.c (.bool false))⟩,
⟨some 72,none,.mv (.t 71)⟩,
⟨(some 73), (some (72, true)), .mv (.t 14)⟩,
⟨(some 74), (some (72, true)), .bin .eql .no (.t 73) (.c (.int .i64 1))⟩,
⟨some 75,none,.pick (.t 72) (.t 74) (.c (.bool false))⟩]
@[go_sem] def j7u : List XO := [
⟨some 76,none,.mv (.t 0)⟩,
⟨some 77,none,.mv (.t 1)⟩,
⟨some 78,none,.mv (.t 2)⟩,
⟨some 79,none,.mv (.t 4)⟩,
⟨some 80,none,.callw "slices.partialInsertionSortCmpFunc[int]" [.t 76, .t 77, .t 78, .t 79]⟩]
@[go_sem] def j7v : List XO := [
⟨some 81,none,.mv (.t 1)⟩,
⟨some 82,none,.bin .gtr .no (.t 81) (.c (.int .i64 0))⟩,
⟨some 83,none,.mv (.t 82)⟩,
⟨(some 84), (some (83, true)), .mv (.t 4)⟩,
⟨(some 85), (some (83, true)), .mv (.t 0)⟩,
⟨(some 86), (some (83, true)), .mv (.t 1)⟩,
⟨(some 87), (some (83, true)), .bin .sub .no (.t 86) (.c (.int .i64 1))⟩,
⟨(some 88), (some (83, true)), .ixA 1 (.t 85) (.t 87)⟩,
⟨(some 89), (some (83, true)), .load false 1 (.t 88)⟩,
⟨(some 90), (some (83, true)), .mv (.t 0)⟩,
⟨(some 91), (some (83, true)), .mv (.t 13)⟩,
⟨(some 92), (some (83, true)), .ixA 1 (.t 90) (.t 91)⟩,
⟨(some 93), (some (83, true)), .load false 1 (.t 92)⟩,
⟨(some 94), (some (83, true)), .callv (.t 84) [.t 89, .t 93]⟩,
⟨(some 95), (some (83, true)), .bin .lss .no (.t 94) (.c (.int .i64 0))⟩,
⟨(some 96), (some (83, true)), .un .not (.t 95)⟩,
⟨some 97,none,.pick (.t 83) (.t 96) (.c (.bool false))⟩]
@[go_sem] def j7w : List XO := [
⟨some 98,none,.mv (.t 0)⟩,
⟨some 99,none,.mv (.t 1)⟩,
⟨some 100,none,.mv (.t 2)⟩,
⟨some 101,none,.mv (.t 13)⟩,
⟨some 102,none,.mv (.t 4)⟩,
⟨some 103,none,.callw "slices.partitionEqualCmpFunc[int]" [.t 98, .t 99, .t 100, .t 101, .t 102]⟩,
⟨some 15,none,.mv (.t 103)⟩]
@[go_sem] def j7x : List XO := [
⟨some 104,none,.mv (.t 15)⟩,
⟨some 1,none,.mv (.t 104)⟩]
@[go_sem] def j7z : List XO := [
⟨some 106,none,.mv (.t 0)⟩,
⟨some 107,none,.mv (.t 1)⟩,
⟨some 108,none,.mv (.t 2)⟩,
⟨some 109,none,.mv (.t 13)⟩,
⟨some 110,none,.mv (.t 4)⟩,
⟨some 111,none,.callw "slices.partitionCmpFunc[int]" [.t 106, .t 107, .t 108, .t 109, .t 110]⟩,
⟨some 105,none,.mv (.t 111)⟩,
⟨some 112,none,.ext (.t 105) 0⟩,
⟨some 113,none,.ext (.t 105) 1⟩,
⟨some 16,none,.mv (.t 112)⟩,
⟨some 17,none,.mv (.t 113)⟩]
@[go_sem] def j70 : List XO := [
⟨some 114,none,.mv (.t 17)⟩,
⟨some 11,none,.mv (.t 114)⟩]
@[go_sem] def j71 : List XO := [
⟨some 115,none,.mv (.t 16)⟩,
⟨some 116,none,.mv (.t 1)⟩,
⟨some 117,none,.bin .sub .no (.t 115) (.t 116)⟩,
⟨some 118,none,.mv (.t 2)⟩,
⟨some 119,none,.mv (.t 16)⟩,
⟨some 120,none,.bin .sub .no (.t 118) (.t 119)⟩,
⟨some 18,none,.mv (.t 117)⟩,
⟨some 19,none,.mv (.t 120)⟩]
@[go_sem] def j72 : List XO := [
⟨some 121,none,.mv (.t 12)⟩,
⟨some 122,none,.bin .quo .no (.t 121) (.c (.int .i64 8))⟩,
⟨some 20,none,.mv (.t 122)⟩]
@[go_sem] def j73 : List XO := [
⟨some 123,none,.mv (.t 18)⟩,
⟨some 124,none,.mv (.t 19)⟩,
⟨some 125,none,.bin .lss .no (.t 123) (.t 124)⟩]
@[go_sem] def j74 : List XO := [
⟨some 126,none,.mv (.t 18)⟩,
⟨some 127,none,.mv (.t 20)⟩,
⟨some 128,none,.bin .geq .no (.t 126) (.t 127)⟩,
⟨some 10,none,.mv (.t 128)⟩]
@[go_sem] def j75 : List XO := [
⟨some 129,none,.mv (.t 0)⟩,
⟨some 130,none,.mv (.t 1)⟩,
⟨some 131,none,.mv (.t 16)⟩,
⟨some 132,none,.mv (.t 3)⟩,
⟨some 133,none,.mv (.t 4)⟩,
⟨some 134,none,.callw "slices.pdqsortCmpFunc[int]" [.t 129, .t 130, .t 131, .t 132, .t 133]⟩]
@[go_sem] def j76 : List XO := [
⟨some 135,none,.mv (.t 16)⟩,
⟨some 136,none,.bin .add .no (.t 135) (.c (.int .i64 1))⟩,
⟨some 1,none,.mv (.t 136)⟩]
@[go_sem] def j77 : List XO := [
⟨some 137,none,.mv (.t 19)⟩,
⟨some 138,none,.mv (.t 20)⟩,
⟨some 139,none,.bin .geq .no (.t 137) (.t 138)⟩,
⟨some 10,none,.mv (.t 139)⟩]
@[go_sem] def j78 : List XO := [
⟨some 140,none,.mv (.t 0)⟩,
⟨some 141,none,.mv (.t 16)⟩,
⟨some 142,none,.bin .add .no (.t 141) (.c (.int .i64 1))⟩,
⟨some 143,none,.mv (.t 2)⟩,
⟨some 144,none,.mv (.t 3)⟩,
⟨some 145,none,.mv (.t 4)⟩,
⟨some 146,none,.callw "slices.pdqsortCmpFunc[int]" [.t 140, .t 142, .t 143, .t 144, .t 145]⟩]
@[go_sem] def j8a : List XO := [
⟨some 147,none,.mv (.t 16)⟩,
⟨some 2,none,.mv (.t 147)⟩]
def j8h : XCode :=
  (.block 1 (.seq (.reg j7y) (.seq (.seq (.reg j79) (.cond (.t 25) (.seq (.reg j8b) .ret) .skip)) (.seq (.seq (.reg j8c) (.cond (.t 32) (.seq (.reg j8d) .ret) .skip)) (.seq (.seq (.reg j8e) (.cond (.t 39) (.seq (.reg j8f) (.reg j8g)) .skip)) (.seq (.reg j7o) (.seq (.seq (.reg j7p) (.cond (.t 56) (.seq (.reg j7q) (.seq (.reg j7r) (.reg j7s))) .skip)) (.seq (.seq (.reg j7t) (.cond (.t 75) (.seq (.reg j7u) (.cond (.t 80) .ret .skip)) .skip)) (.seq (.seq (.reg j7v) (.cond (.t 97) (.seq (.reg j7w) (.seq (.reg j7x) (.exit 1))) .skip)) (.seq (.reg j7z) (.seq (.reg j70) (.seq (.reg j71) (.seq (.reg j72) (.seq (.reg j73) (.cond (.t 125) (.seq (.reg j74) (.seq (.reg j75) (.reg j76))) (.seq (.reg j77) (.seq (.reg j78) (.reg j8a))))))))))))))))))
def x_slices_pdqsortCmpFunc_int_ : XFunc := { np := 5, res := [], body :=
  (.seq (.reg j7m) (.seq (.reg j7n) (.block 0 (.loop j8h)))) }
@[go_sem] def j1v : List XO := [
⟨some 2,none,.mv (.c (.int .i64 0))⟩]
@[go_sem] def j1w : List XO := [
⟨some 3,none,.mv (.t 0)⟩,
⟨some 4,none,.cvtI .u32 (.t 3)⟩,
⟨some 5,none,.call "math/bits.Len32" [.t 4]⟩,
⟨some 2,none,.mv (.t 5)⟩]
@[go_sem] def j1x : List XO := [
⟨some 6,none,.mv (.t 0)⟩,
⟨some 7,none,.call "math/bits.Len64" [.t 6]⟩,
⟨some 2,none,.mv (.t 7)⟩]
def x_math_bits_Len : XFunc := { np := 1, res := [.t 2], body :=
  (.seq (.reg j1v) (.seq (.cond (.c (.bool false)) (.seq (.reg j1w) .ret) .skip) (.seq (.reg j1x) .ret))) }
@[go_sem] def g6r : List XO := [
⟨some 2,none,.mv (.c (.bool false))⟩]
@[go_sem] def g6s : List XO := [
⟨some 3,none,.mv (.t 0)⟩,
⟨some 4,none,.mv (.t 0)⟩,
⟨some 5,none,.bin .neq .no (.t 3) (.t 4)⟩,
⟨some 2,none,.mv (.t 5)⟩]
def x_cmp_isNaN_int_ : XFunc := { np := 1, res := [.t 2], body :=
  (.seq (.reg g6r) (.seq (.reg g6s) .ret)) }
@[go_sem] def j3g : List XO := [
⟨some 4,none,.mv (.c (.int .i64 0))⟩]
@[go_sem] def j3h : List XO := [
⟨some 6,none,.mv (.t 0)⟩,
⟨some 7,none,.len false (.t 6)⟩,
⟨some 8,none,.mv (.c (.int .i64 0))⟩]
@[go_sem] def j3i : List XO := [
⟨some 9,none,.bin .lss .no (.t 8) (.t 7)⟩]
@[go_sem] def j3j : List XO := [
⟨some 10,none,.mv (.t 8)⟩,
⟨some 5,none,.mv (.t 10)⟩]
@[go_sem] def j3k : List XO := [
⟨some 11,none,.mv (.t 1)⟩,
⟨some 12,none,.mv (.t 0)⟩,
⟨some 13,none,.mv (.t 5)⟩,
⟨some 14,none,.ixA 1 (.t 12) (.t 13)⟩,
⟨some 15,none,.load false 1 (.t 14)⟩,
⟨some 16,none,.callv (.t 11) [.t 15]⟩]
@[go_sem] def j3l : List XO := [
⟨some 17,none,.mv (.t 5)⟩,
⟨some 4,none,.mv (.t 17)⟩]
@[go_sem] def j3m : List XO := [
⟨some 18,none,.bin .add .no (.t 8) (.c (.int .i64 1))⟩,
⟨some 8,none,.mv (.t 18)⟩]
def j3o : XCode :=
  (.seq (.reg j3i) (.seq (.cond (.t 9) .skip (.exit 0)) (.seq (.block 1 (.seq (.reg j3j) (.seq (.reg j3k) (.cond (.t 16) (.seq (.reg j3l) .ret) .skip)))) (.reg j3m))))
@[go_sem] def j3n : List XO := [
⟨some 4,none,.mv (.c (.int .i64 (-1)))⟩]
def x_slices_IndexFunc___int_int_ : XFunc := { np := 2, res := [.t 4], body :=
  (.seq (.reg j3g) (.seq (.seq (.reg j3h) (.block 0 (.loop j3o))) (.seq (.reg j3n) .ret))) }
@[go_sem] def j4z : List XO := [
⟨some 10,none,.mv (.t 1)⟩,
⟨some 11,none,.bin .add .no (.t 10) (.c (.int .i64 1))⟩,
⟨some 8,none,.mv (.t 11)⟩]
@[go_sem] def j40 : List XO := [
⟨some 12,none,.mv (.t 8)⟩,
⟨some 13,none,.mv (.t 2)⟩,
⟨some 14,none,.bin .lss .no (.t 12) (.t 13)⟩]
@[go_sem] def j41 : List XO := [
⟨some 17,none,.mv (.t 8)⟩,
⟨some 9,none,.mv (.t 17)⟩]
@[go_sem] def j42 : List XO := [
⟨some 18,none,.mv (.t 9)⟩,
⟨some 19,none,.mv (.t 1)⟩,
⟨some 20,none,.bin .gtr .no (.t 18) (.t 19)⟩,
⟨some 21,none,.mv (.t 20)⟩,
⟨(some 22), (some (21, true)), .mv (.t 3)⟩,
⟨(some 23), (some (21, true)), .mv (.t 0)⟩,
⟨(some 24), (some (21, true)), .mv (.t 9)⟩,
⟨(some 25), (some (21, true)), .ixA 1 (.t 23) (.t 24)⟩,
⟨(some 26), (some (21, true)), .load false 1 (.t 25)⟩,
⟨(some 27), (some (21, true)), .mv (.t 0)⟩,
⟨(some 28), (some (21, true)), .mv (.t 9)⟩,
⟨(some 29), (some (21, true)), .bin .sub .no (.t 28) (.c (.int .i64 1))⟩,
⟨(some 30), (some (21, true)), .ixA 1 (.t 27) (.t 29)⟩,
⟨(some 31), (some (21, true)), .load false 1 (.t 30)⟩,
⟨(some 32), (some (21, true)), .callv (.t 22) [.t 26, .t 31]⟩,
⟨(some 33), (some (21, true)), .bin .lss .no (.t 32) (.c (.int .i64 0))⟩,
⟨some 34,none,.pick (.t 21) (.t 33) (.c (.bool false))⟩]
@[go_sem] def j43 : List XO := [
⟨some 37,none,.mv (.t 0)⟩,
⟨some 38,none,.mv (.t 9)⟩,
⟨some 39,none,.mv (.t 0)⟩,
⟨some 40,none,.mv (.t 9)⟩,
⟨some 41,none,.bin .sub .no (.t 40) (.c (.int .i64 1))⟩,
⟨some 42,none,.mv (.t 0)⟩,
⟨some 43,none,.mv (.t 9)⟩,
⟨some 44,none,.bin .sub .no (.t 43) (.c (.int .i64 1))⟩,
⟨some 45,none,.ixA 1 (.t 42) (.t 44)⟩,
⟨some 46,none,.load false 1 (.t 45)⟩,
⟨some 47,none,.mv (.t 0)⟩,
⟨some 48,none,.mv (.t 9)⟩,
⟨some 49,none,.ixA 1 (.t 47) (.t 48)⟩,
⟨some 50,none,.load false 1 (.t 49)⟩,
⟨some 51,none,.ixA 1 (.t 37) (.t 38)⟩,
⟨none, none, .store 1 (.t 51) (.t 46)⟩,
⟨some 52,none,.ixA 1 (.t 39) (.t 41)⟩,
⟨none, none, .store 1 (.t 52) (.t 50)⟩]
@[go_sem] def j44 : List XO := [
⟨some 35,none,.mv (.t 9)⟩,
⟨some 36,none,.bin .sub .no (.t 35) (.c (.int .i64 1))⟩,
⟨some 9,none,.mv (.t 36)⟩]
def j46 : XCode :=
  (.seq (.seq (.reg j42) (.cond (.t 34) .skip (.exit 2))) (.seq (.block 3 (.reg j43)) (.reg j44)))
@[go_sem] def j45 : List XO := [
⟨some 15,none,.mv (.t 8)⟩,
⟨some 16,none,.bin .add .no (.t 15) (.c (.int .i64 1))⟩,
⟨some 8,none,.mv (.t 16)⟩]
def j47 : XCode :=
  (.seq (.seq (.reg j40) (.cond (.t 14) .skip (.exit 0))) (.seq (.block 1 (.seq (.reg j41) (.block 2 (.loop j46)))) (.reg j45)))
def x_slices_insertionSortCmpFunc_int_ : XFunc := { np := 4, res := [], body :=
  (.seq (.reg j4z) (.block 0 (.loop j47))) }
@[go_sem] def j4l : List XO := [
⟨some 13,none,.mv (.t 1)⟩,
⟨some 8,none,.mv (.t 13)⟩]
@[go_sem] def j4m : List XO := [
⟨some 9,none,.mv (.c (.int .i64 0))⟩]
@[go_sem] def j4q : List XO := [
⟨some 14,none,.mv (.t 2)⟩,
⟨some 15,none,.mv (.t 1)⟩,
⟨some 16,none,.bin .sub .no (.t 14) (.t 15)⟩,
⟨some 10,none,.mv (.t 16)⟩]
@[go_sem] def j4r : List XO := [
⟨some 17,none,.mv (.t 10)⟩,
⟨some 18,none,.bin .sub .no (.t 17) (.c (.int .i64 1))⟩,
⟨some 19,none,.bin .quo .no (.t 18) (.c (.int .i64 2))⟩,
⟨some 11,none,.mv (.t 19)⟩]
@[go_sem] def j4s : List XO := [
⟨some 20,none,.mv (.t 11)⟩,
⟨some 21,none,.bin .geq .no (.t 20) (.c (.int .i64 0))⟩]
@[go_sem] def j4t : List XO := [
⟨some 24,none,.mv (.t 0)⟩,
⟨some 25,none,.mv (.t 11)⟩,
⟨some 26,none,.mv (.t 10)⟩,
⟨some 27,none,.mv (.t 8)⟩,
⟨some 28,none,.mv (.t 3)⟩,
⟨some 29,none,.callw "slices.siftDownCmpFunc[int]" [.t 24, .t 25, .t 26, .t 27, .t 28]⟩]
@[go_sem] def j4u : List XO := [
⟨some 22,none,.mv (.t 11)⟩,
⟨some 23,none,.bin .sub .no (.t 22) (.c (.int .i64 1))⟩,
⟨some 11,none,.mv (.t 23)⟩]
def j4y : XCode :=
  (.seq (.seq (.reg j4s) (.cond (.t 21) .skip (.exit 0))) (.seq (.block 1 (.reg j4t)) (.reg j4u)))
@[go_sem] def j4v : List XO := [
⟨some 30,none,.mv (.t 10)⟩,
⟨some 31,none,.bin .sub .no (.t 30) (.c (.int .i64 1))⟩,
⟨some 12,none,.mv (.t 31)⟩]
@[go_sem] def j4w : List XO := [
⟨some 32,none,.mv (.t 12)⟩,
⟨some 33,none,.bin .geq .no (.t 32) (.c (.int .i64 0))⟩]
@[go_sem] def j4n : List XO := [
⟨some 36,none,.mv (.t 0)⟩,
⟨some 37,none,.mv (.t 8)⟩,
⟨some 38,none,.mv (.t 0)⟩,
⟨some 39,none,.mv (.t 8)⟩,
⟨some 40,none,.mv (.t 12)⟩,
⟨some 41,none,.bin .add .no (.t 39) (.t 40)⟩,
⟨some 42,none,.mv (.t 0)⟩,
⟨some 43,none,.mv (.t 8)⟩,
⟨some 44,none,.mv (.t 12)⟩,
⟨some 45,none,.bin .add .no (.t 43) (.t 44)⟩,
⟨some 46,none,.ixA 1 (.t 42) (.t 45)⟩,
⟨some 47,none,.load false 1 (.t 46)⟩,
⟨some 48,none,.mv (.t 0)⟩,
⟨some 49,none,.mv (.t 8)⟩,
⟨some 50,none,.ixA 1 (.t 48) (.t 49)⟩,
⟨some 51,none,.load false 1 (.t 50)⟩,
⟨some 52,none,.ixA 1 (.t 36) (.t 37)⟩,
⟨none, none, .store 1 (.t 52) (.t 47)⟩,
⟨some 53,none,.ixA 1 (.t 38) (.t 41)⟩,
⟨none, none, .store 1 (.t 53) (.t 51)⟩]
@[go_sem] def j4o : List XO := [
⟨some 54,none,.mv (.t 0)⟩,
⟨some 55,none,.mv (.t 9)⟩,
⟨some 56,none,.mv (.t 12)⟩,
⟨some 57,none,.mv (.t 8)⟩,
⟨some 58,none,.mv (.t 3)⟩,
⟨some 59,none,.callw "slices.siftDownCmpFunc[int]" [.t 54, .t 55, .t 56, .t 57, .t 58]⟩]
@[go_sem] def j4p : List XO := [
⟨some 34,none,.mv (.t 12)⟩,
⟨some 35,none,.bin .sub .no (.t 34) (.c (.int .i64 1))⟩,
⟨some 12,none,.mv (.t 35)⟩]
def j4x : XCode :=
  (.seq (.seq (.reg j4w) (.cond (.t 33) .skip (.exit 2))) (.seq (.block 3 (.seq (.reg j4n) (.reg j4o))) (.reg j4p)))
def x_slices_heapSortCmpFunc_int_ : XFunc := { np := 4, res := [], body :=
  (.seq (.reg j4l) (.seq (.reg j4m) (.seq (.reg j4q) (.seq (.seq (.reg j4r) (.block 0 (.loop j4y))) (.seq (.reg j4v) (.block 2 (.loop j4x))))))) }
@[go_sem] def j3r : List XO := [
⟨some 13,none,.mv (.t 2)⟩,
⟨some 14,none,.mv (.t 1)⟩,
⟨some 15,none,.bin .sub .no (.t 13) (.t 14)⟩,
⟨some 8,none,.mv (.t 15)⟩]
@[go_sem] def j3s : List XO := [
⟨some 16,none,.mv (.t 8)⟩,
⟨some 17,none,.bin .geq .no (.t 16) (.c (.int .i64 8))⟩]
@[go_sem] def j3u : List XO := [
⟨some 18,none,.mv (.t 8)⟩,
⟨some 19,none,.cvtI .u64 (.t 18)⟩,
⟨some 9,none,.alloc [(.int .u64 0)]⟩,
⟨none, none, .store 1 (.t 9) (.t 19)⟩]
@[go_sem] def j3v : List XO := [
⟨some 20,none,.mv (.t 8)⟩,
⟨some 21,none,.call "slices.nextPowerOfTwo" [.t 20]⟩,
⟨some 10,none,.mv (.t 21)⟩]
@[go_sem] def j3w : List XO := [
⟨some 22,none,.mv (.t 1)⟩,
⟨some 23,none,.mv (.t 8)⟩,
⟨some 24,none,.bin .quo .no (.t 23) (.c (.int .i64 4))⟩,
⟨some 25,none,.bin .mul .no (.t 24) (.c (.int .i64 2))⟩,
⟨some 26,none,.bin .add .no (.t 22) (.t 25)⟩,
⟨some 27,none,.bin .sub .no (.t 26) (.c (.int .i64 1))⟩,
⟨some 11,none,.mv (.t 27)⟩]
@[go_sem] def j3x : List XO := [
⟨some 28,none,.mv (.t 11)⟩,
⟨some 29,none,.mv (.t 1)⟩,
⟨some 30,none,.mv (.t 8)⟩,
⟨some 31,none,.bin .quo .no (.t 30) (.c (.int .i64 4))⟩,
⟨some 32,none,.bin .mul .no (.t 31) (.c (.int .i64 2))⟩,
⟨some 33,none,.bin .add .no (.t 29) (.t 32)⟩,
⟨some 34,none,.bin .add .no (.t 33) (.c (.int .i64 1))⟩,
⟨some 35,none,.bin .leq .no (.t 28) (.t 34)⟩]
@[go_sem] def j3y : List XO := [
⟨some 38,none,.call "(*slices.xorshift).Next" [.t 9]⟩,
⟨some 39,none,.mv (.t 10)⟩,
⟨some 40,none,.bin .sub .no (.t 39) (.c (.int .u64 1))⟩,
⟨some 41,none,.bin .and .no (.t 38) (.t 40)⟩,
⟨some 42,none,.cvtI .i64 (.t 41)⟩,
⟨some 12,none,.mv (.t 42)⟩]
@[go_sem] def j3z : List XO := [
⟨some 43,none,.mv (.t 12)⟩,
⟨some 44,none,.mv (.t 8)⟩,
⟨some 45,none,.bin .geq .no (.t 43) (.t 44)⟩]
@[go_sem] def j30 : List XO := [
⟨some 46,none,.mv (.t 12)⟩,
⟨some 47,none,.mv (.t 8)⟩,
⟨some 48,none,.bin .sub .no (.t 46) (.t 47)⟩,
⟨some 12,none,.mv (.t 48)⟩]
@[go_sem] def j31 : List XO := [
⟨some 49,none,.mv (.t 0)⟩,
⟨some 50,none,.mv (.t 11)⟩,
⟨some 51,none,.mv (.t 0)⟩,
⟨some 52,none,.mv (.t 1)⟩,
⟨some 53,none,.mv (.t 12)⟩,
⟨some 54,none,.bin .add .no (.t 52) (.t 53)⟩,
⟨some 55,none,.mv (.t 0)⟩,
⟨some 56,none,.mv (.t 1)⟩,
⟨some 57,none,.mv (.t 12)⟩,
⟨some 58,none,.bin .add .no (.t 56) (.t 57)⟩,
⟨some 59,none,.ixA 1 (.t 55) (.t 58)⟩,
⟨some 60,none,.load false 1 (.t 59)⟩,
⟨some 61,none,.mv (.t 0)⟩,
⟨some 62,none,.mv (.t 11)⟩,
⟨some 63,none,.ixA 1 (.t 61) (.t 62)⟩,
⟨some 64,none,.load false 1 (.t 63)⟩,
⟨some 65,none,.ixA 1 (.t 49) (.t 50)⟩,
⟨none, none, .store 1 (.t 65) (.t 60)⟩,
⟨some 66,none,.ixA 1 (.t 51) (.t 54)⟩,
⟨none, none, .store 1 (.t 66) (.t 64)⟩]
@[go_sem] def j3t : List XO := [
⟨some 36,none,.mv (.t 11)⟩,
⟨some 37,none,.bin .add .no (.t 36) (.c (.int .i64 1))⟩,
⟨some 11,none,.mv (.t 37)⟩]
def j32 : XCode :=
  (.seq (.seq (.reg j3x) (.cond (.t 35) .skip (.exit 0))) (.seq (.block 1 (.seq (.reg j3y) (.seq (.seq (.reg j3z) (.cond (.t 45) (.reg j30) .skip)) (.reg j31)))) (.reg j3t)))
def x_slices_breakPatternsCmpFunc_int_ : XFunc := { np := 4, res := [], body :=
  (.seq (.reg j3r) (.seq (.reg j3s) (.cond (.t 17) (.seq (.reg j3u) (.seq (.reg j3v) (.seq (.reg j3w) (.block 0 (.loop j32))))) .skip))) }
@[go_sem] def j33 : List XO := [
⟨some 8,none,.mv (.c (.int .i64 0))⟩,
⟨some 9,none,.mv (.c (.int .i64 0))⟩]
@[go_sem] def j34 : List XO := [
⟨some 15,none,.mv (.t 2)⟩,
⟨some 16,none,.mv (.t 1)⟩,
⟨some 17,none,.bin .sub .no (.t 15) (.t 16)⟩,
⟨some 10,none,.mv (.t 17)⟩]
@[go_sem] def j4d : List XO := [
⟨some 11,none,.alloc [(.int .i64 0)]⟩]
@[go_sem] def j4e : List XO := [
⟨some 18,none,.mv (.t 1)⟩,
⟨some 19,none,.mv (.t 10)⟩,
⟨some 20,none,.bin .quo .no (.t 19) (.c (.int .i64 4))⟩,
⟨some 21,none,.bin .mul .no (.t 20) (.c (.int .i64 1))⟩,
⟨some 22,none,.bin .add .no (.t 18) (.t 21)⟩,
⟨some 12,none,.mv (.t 22)⟩]
@[go_sem] def j4f : List XO := [
⟨some 23,none,.mv (.t 1)⟩,
⟨some 24,none,.mv (.t 10)⟩,
⟨some 25,none,.bin .quo .no (.t 24) (.c (.int .i64 4))⟩,
⟨some 26,none,.bin .mul .no (.t 25) (.c (.int .i64 2))⟩,
⟨some 27,none,.bin .add .no (.t 23) (.t 26)⟩,
⟨some 13,none,.mv (.t 27)⟩]
@[go_sem] def j4g : List XO := [
⟨some 28,none,.mv (.t 1)⟩,
⟨some 29,none,.mv (.t 10)⟩,
⟨some 30,none,.bin .quo .no (.t 29) (.c (.int .i64 4))⟩,
⟨some 31,none,.bin .mul .no (.t 30) (.c (.int .i64 3))⟩,
⟨some 32,none,.bin .add .no (.t 28) (.t 31)⟩,
⟨some 14,none,.mv (.t 32)⟩]
@[go_sem] def j4h : List XO := [
⟨some 33,none,.mv (.t 10)⟩,
⟨some 34,none,.bin .geq .no (.t 33) (.c (.int .i64 8))⟩]
@[go_sem] def j4i : List XO := [
⟨some 35,none,.mv (.t 10)⟩,
⟨some 36,none,.bin .geq .no (.t 35) (.c (.int .i64 50))⟩]
@[go_sem] def j4j : List XO := [
⟨some 37,none,.mv (.t 0)⟩,
⟨some 38,none,.mv (.t 12)⟩,
⟨some 39,none,.mv (.t 3)⟩,
⟨some 40,none,.call "slices.medianAdjacentCmpFunc[int]" [.t 37, .t 38, .t 11, .t 39]⟩,
⟨some 12,none,.mv (.t 40)⟩]
@[go_sem] def j4k : List XO := [
⟨some 41,none,.mv (.t 0)⟩,
⟨some 42,none,.mv (.t 13)⟩,
⟨some 43,none,.mv (.t 3)⟩,
⟨some 44,none,.call "slices.medianAdjacentCmpFunc[int]" [.t 41, .t 42, .t 11, .t 43]⟩,
⟨some 13,none,.mv (.t 44)⟩]
@[go_sem] def j35 : List XO := [
⟨some 45,none,.mv (.t 0)⟩,
⟨some 46,none,.mv (.t 14)⟩,
⟨some 47,none,.mv (.t 3)⟩,
⟨some 48,none,.call "slices.medianAdjacentCmpFunc[int]" [.t 45, .t 46, .t 11, .t 47]⟩,
⟨some 14,none,.mv (.t 48)⟩]
@[go_sem] def j36 : List XO := [
⟨some 49,none,.mv (.t 0)⟩,
⟨some 50,none,.mv (.t 12)⟩,
⟨some 51,none,.mv (.t 13)⟩,
⟨some 52,none,.mv (.t 14)⟩,
⟨some 53,none,.mv (.t 3)⟩,
⟨some 54,none,.call "slices.medianCmpFunc[int]" [.t 49, .t 50, .t 51, .t 52, .t 11, .t 53]⟩,
⟨some 13,none,.mv (.t 54)⟩]
@[go_sem] def j37 : List XO := [
⟨some 55,none,.load false 1 (.t 11)⟩]
@[go_sem] def j38 : List XO := [
⟨some 58,none,.bin .eql .no (.t 55) (.c (.int .i64 0))⟩,
⟨some 57,none,.mv (.t 58)⟩]
@[go_sem] def j39 : List XO := [
⟨some 59,none,.mv (.t 13)⟩,
⟨some 8,none,.mv (.t 59)⟩,
⟨some 9,none,.mv (.c (.int .i64 1))⟩]
@[go_sem] def j4a : List XO := [
⟨some 61,none,.bin .eql .no (.t 55) (.c (.int .i64 12))⟩,
⟨some 60,none,.mv (.t 61)⟩]
@[go_sem] def j4b : List XO := [
⟨some 62,none,.mv (.t 13)⟩,
⟨some 8,none,.mv (.t 62)⟩,
⟨some 9,none,.mv (.c (.int .i64 2))⟩]
@[go_sem] def j4c : List XO := [
⟨some 56,none,.mv (.t 13)⟩,
⟨some 8,none,.mv (.t 56)⟩,
⟨some 9,none,.mv (.c (.int .i64 0))⟩]
def x_slices_choosePivotCmpFunc_int_ : XFunc := { np := 4, res := [.t 8, .t 9], body :=
  (.seq (.reg j33) (.seq (.reg j34) (.seq (.reg j4d) (.seq (.reg j4e) (.seq (.reg j4f) (.seq (.reg j4g) (.seq (.seq (.reg j4h) (.cond (.t 34) (.seq (.seq (.reg j4i) (.cond (.t 36) (.seq (.reg j4j) (.seq (.reg j4k) (.reg j35))) .skip)) (.reg j36)) .skip)) (.seq (.reg j37) (.block 0 (.seq (.reg j38) (.cond (.t 57) (.seq (.reg j39) .ret) (.seq (.reg j4a) (.cond (.t 60) (.seq (.reg j4b) .ret) (.seq (.reg j4c) .ret)))))))))))))) }
@[go_sem] def j8i : List XO := [
⟨some 10,none,.mv (.t 1)⟩,
⟨some 8,none,.mv (.t 10)⟩]
@[go_sem] def j8j : List XO := [
⟨some 11,none,.mv (.t 2)⟩,
⟨some 12,none,.bin .sub .no (.t 11) (.c (.int .i64 1))⟩,
⟨some 9,none,.mv (.t 12)⟩]
@[go_sem] def j8k : List XO := [
⟨some 13,none,.mv (.t 8)⟩,
⟨some 14,none,.mv (.t 9)⟩,
⟨some 15,none,.bin .lss .no (.t 13) (.t 14)⟩]
@[go_sem] def j8l : List XO := [
⟨some 16,none,.mv (.t 0)⟩,
⟨some 17,none,.mv (.t 8)⟩,
⟨some 18,none,.mv (.t 0)⟩,
⟨some 19,none,.mv (.t 9)⟩,
⟨some 20,none,.mv (.t 0)⟩,
⟨some 21,none,.mv (.t 9)⟩,
⟨some 22,none,.ixA 1 (.t 20) (.t 21)⟩,
⟨some 23,none,.load false 1 (.t 22)⟩,
⟨some 24,none,.mv (.t 0)⟩,
⟨some 25,none,.mv (.t 8)⟩,
⟨some 26,none,.ixA 1 (.t 24) (.t 25)⟩,
⟨some 27,none,.load false 1 (.t 26)⟩,
⟨some 28,none,.ixA 1 (.t 16) (.t 17)⟩,
⟨none, none, .store 1 (.t 28) (.t 23)⟩,
⟨some 29,none,.ixA 1 (.t 18) (.t 19)⟩,
⟨none, none, .store 1 (.t 29) (.t 27)⟩]
@[go_sem] def j8m : List XO := [
⟨some 30,none,.mv (.t 8)⟩,
⟨some 31,none,.bin .add .no (.t 30) (.c (.int .i64 1))⟩,
⟨some 8,none,.mv (.t 31)⟩]
@[go_sem] def j8n : List XO := [
⟨some 32,none,.mv (.t 9)⟩,
⟨some 33,none,.bin .sub .no (.t 32) (.c (.int .i64 1))⟩,
⟨some 9,none,.mv (.t 33)⟩]
def j8o : XCode :=
  (.seq (.seq (.reg j8k) (.cond (.t 15) .skip (.exit 0))) (.block 1 (.seq (.reg j8l) (.seq (.reg j8m) (.reg j8n)))))
def x_slices_reverseRangeCmpFunc_int_ : XFunc := { np := 4, res := [], body :=
  (.seq (.reg j8i) (.seq (.reg j8j) (.block 0 (.loop j8o)))) }
@[go_sem] def j5m : List XO := [
⟨some 8,none,.mv (.c (.bool false))⟩]
@[go_sem] def j5n : List XO := [
⟨some 13,none,.mv (.t 1)⟩,
⟨some 14,none,.bin .add .no (.t 13) (.c (.int .i64 1))⟩,
⟨some 9,none,.mv (.t 14)⟩]
@[go_sem] def j5x : List XO := [
⟨some 10,none,.mv (.c (.int .i64 0))⟩]
@[go_sem] def j55 : List XO := [
⟨some 15,none,.mv (.t 10)⟩,
⟨some 16,none,.bin .lss .no (.t 15) (.c (.int .i64 5))⟩]
@[go_sem] def j56 : List XO := [
⟨some 19,none,.mv (.t 9)⟩,
⟨some 20,none,.mv (.t 2)⟩,
⟨some 21,none,.bin .lss .no (.t 19) (.t 20)⟩,
⟨some 22,none,.mv (.t 21)⟩,
⟨(some 23), (some (22, true)), .mv (.t 3)⟩,
⟨(some 24), (some (22, true)), .mv (.t 0)⟩,
⟨(some 25), (some (22, true)), .mv (.t 9)⟩,
⟨(some 26), (some (22, true)), .ixA 1 (.t 24) (.t 25)⟩,
⟨(some 27), (some (22, true)), .load false 1 (.t 26)⟩,
⟨(some 28), (some (22, true)), .mv (.t 0)⟩,
⟨(some 29), (some (22, true)), .mv (.t 9)⟩,
⟨(some 30), (some (22, true)), .bin .sub .no (.t 29) (.c (.int .i64 1))⟩,
⟨(some 31), (some (22, true)), .ixA 1 (.t 28) (.t 30)⟩,
⟨(some 32), (some (22, true)), .load false 1 (.t 31)⟩,
⟨(some 33), (some (22, true)), .callv (.t 23) [.t 27, .t 32]⟩,
⟨(some 34), (some (22, true)), .bin .lss .no (.t 33) (.c (.int .i64 0))⟩,
⟨(some 35), (some (22, true)), .un .not (.t 34)⟩,
⟨some 36,none,.pick (.t 22) (.t 35) (.c (.bool false))⟩]
@[go_sem] def j57 : List XO := [
⟨some 37,none,.mv (.t 9)⟩,
⟨some 38,none,.bin .add .no (.t 37) (.c (.int .i64 1))⟩,
⟨some 9,none,.mv (.t 38)⟩]
def j6e : XCode :=
  (.seq (.seq (.reg j56) (.cond (.t 36) .skip (.exit 2))) (.block 3 (.reg j57)))
@[go_sem] def j58 : List XO := [
⟨some 39,none,.mv (.t 9)⟩,
⟨some 40,none,.mv (.t 2)⟩,
⟨some 41,none,.bin .eql .no (.t 39) (.t 40)⟩]
@[go_sem] def j59 : List XO := [
⟨some 8,none,.mv (.c (.bool true))⟩]
@[go_sem] def j6a : List XO := [
⟨some 42,none,.mv (.t 2)⟩,
⟨some 43,none,.mv (.t 1)⟩,
⟨some 44,none,.bin .sub .no (.t 42) (.t 43)⟩,
⟨some 45,none,.bin .lss .no (.t 44) (.c (.int .i64 50))⟩]
@[go_sem] def j5o : List XO := [
⟨some 8,none,.mv (.c (.bool false))⟩]
@[go_sem] def j5p : List XO := [
⟨some 46,none,.mv (.t 0)⟩,
⟨some 47,none,.mv (.t 9)⟩,
⟨some 48,none,.mv (.t 0)⟩,
⟨some 49,none,.mv (.t 9)⟩,
⟨some 50,none,.bin .sub .no (.t 49) (.c (.int .i64 1))⟩,
⟨some 51,none,.mv (.t 0)⟩,
⟨some 52,none,.mv (.t 9)⟩,
⟨some 53,none,.bin .sub .no (.t 52) (.c (.int .i64 1))⟩,
⟨some 54,none,.ixA 1 (.t 51) (.t 53)⟩,
⟨some 55,none,.load false 1 (.t 54)⟩,
⟨some 56,none,.mv (.t 0)⟩,
⟨some 57,none,.mv (.t 9)⟩,
⟨some 58,none,.ixA 1 (.t 56) (.t 57)⟩,
⟨some 59,none,.load false 1 (.t 58)⟩,
⟨some 60,none,.ixA 1 (.t 46) (.t 47)⟩,
⟨none, none, .store 1 (.t 60) (.t 55)⟩,
⟨some 61,none,.ixA 1 (.t 48) (.t 50)⟩,
⟨none, none, .store 1 (.t 61) (.t 59)⟩]
@[go_sem] def j5q : List XO := [
⟨some 62,none,.mv (.t 9)⟩,
⟨some 63,none,.mv (.t 1)⟩,
⟨some 64,none,.bin .sub .no (.t 62) (.t 63)⟩,
⟨some 65,none,.bin .geq .no (.t 64) (.c (.int .i64 2))⟩]
@[go_sem] def j5r : List XO := [
⟨some 66,none,.mv (.t 9)⟩,
⟨some 67,none,.bin .sub .no (.t 66) (.c (.int .i64 1))⟩,
⟨some 11,none,.mv (.t 67)⟩]
@[go_sem] def j5s : List XO := [
⟨some 68,none,.mv (.t 11)⟩,
⟨some 69,none,.bin .geq .no (.t 68) (.c (.int .i64 1))⟩]
@[go_sem] def j5t : List XO := [
⟨some 72,none,.mv (.t 3)⟩,
⟨some 73,none,.mv (.t 0)⟩,
⟨some 74,none,.mv (.t 11)⟩,
⟨some 75,none,.ixA 1 (.t 73) (.t 74)⟩,
⟨some 76,none,.load false 1 (.t 75)⟩,
⟨some 77,none,.mv (.t 0)⟩,
⟨some 78,none,.mv (.t 11)⟩,
⟨some 79,none,.bin .sub .no (.t 78) (.c (.int .i64 1))⟩,
⟨some 80,none,.ixA 1 (.t 77) (.t 79)⟩,
⟨some 81,none,.load false 1 (.t 80)⟩,
⟨some 82,none,.callv (.t 72) [.t 76, .t 81]⟩,
⟨some 83,none,.bin .lss .no (.t 82) (.c (.int .i64 0))⟩,
⟨some 84,none,.un .not (.t 83)⟩]
@[go_sem] def j5u : List XO := [
⟨some 85,none,.mv (.t 0)⟩,
⟨some 86,none,.mv (.t 11)⟩,
⟨some 87,none,.mv (.t 0)⟩,
⟨some 88,none,.mv (.t 11)⟩,
⟨some 89,none,.bin .sub .no (.t 88) (.c (.int .i64 1))⟩,
⟨some 90,none,.mv (.t 0)⟩,
⟨some 91,none,.mv (.t 11)⟩,
⟨some 92,none,.bin .sub .no (.t 91) (.c (.int .i64 1))⟩,
⟨some 93,none,.ixA 1 (.t 90) (.t 92)⟩,
⟨some 94,none,.load false 1 (.t 93)⟩,
⟨some 95,none,.mv (.t 0)⟩,
⟨some 96,none,.mv (.t 11)⟩,
⟨some 97,none,.ixA 1 (.t 95) (.t 96)⟩,
⟨some 98,none,.load false 1 (.t 97)⟩,
⟨some 99,none,.ixA 1 (.t 85) (.t 86)⟩,
⟨none, none, .store 1 (.t 99) (.t 94)⟩,
⟨some 100,none,.ixA 1 (.t 87) (.t 89)⟩,
⟨none, none, .store 1 (.t 100) (.t 98)⟩]
@[go_sem] def j5v : List XO := [
⟨some 70,none,.mv (.t 11)⟩,
⟨some 71,none,.bin .sub .no (.t 70) (.c (.int .i64 1))⟩,
⟨some 11,none,.mv (.t 71)⟩]
def j6b : XCode :=
  (.seq (.seq (.reg j5s) (.cond (.t 69) .skip (.exit 4))) (.seq (.block 5 (.seq (.seq (.reg j5t) (.cond (.t 84) (.exit 4) .skip)) (.reg j5u))) (.reg j5v)))
@[go_sem] def j5w : List XO := [
⟨some 101,none,.mv (.t 2)⟩,
⟨some 102,none,.mv (.t 9)⟩,
⟨some 103,none,.bin .sub .no (.t 101) (.t 102)⟩,
⟨some 104,none,.bin .geq .no (.t 103) (.c (.int .i64 2))⟩]
@[go_sem] def j5y : List XO := [
⟨some 105,none,.mv (.t 9)⟩,
⟨some 106,none,.bin .add .no (.t 105) (.c (.int .i64 1))⟩,
⟨some 12,none,.mv (.t 106)⟩]
@[go_sem] def j5z : List XO := [
⟨some 107,none,.mv (.t 12)⟩,
⟨some 108,none,.mv (.t 2)⟩,
⟨some 109,none,.bin .lss .no (.t 107) (.t 108)⟩]
@[go_sem] def j50 : List XO := [
⟨some 112,none,.mv (.t 3)⟩,
⟨some 113,none,.mv (.t 0)⟩,
⟨some 114,none,.mv (.t 12)⟩,
⟨some 115,none,.ixA 1 (.t 113) (.t 114)⟩,
⟨some 116,none,.load false 1 (.t 115)⟩,
⟨some 117,none,.mv (.t 0)⟩,
⟨some 118,none,.mv (.t 12)⟩,
⟨some 119,none,.bin .sub .no (.t 118) (.c (.int .i64 1))⟩,
⟨some 120,none,.ixA 1 (.t 117) (.t 119)⟩,
⟨some 121,none,.load false 1 (.t 120)⟩,
⟨some 122,none,.callv (.t 112) [.t 116, .t 121]⟩,
⟨some 123,none,.bin .lss .no (.t 122) (.c (.int .i64 0))⟩,
⟨some 124,none,.un .not (.t 123)⟩]
@[go_sem] def j51 : List XO := [
⟨some 125,none,.mv (.t 0)⟩,
⟨some 126,none,.mv (.t 12)⟩,
⟨some 127,none,.mv (.t 0)⟩,
⟨some 128,none,.mv (.t 12)⟩,
⟨some 129,none,.bin .sub .no (.t 128) (.c (.int .i64 1))⟩,
⟨some 130,none,.mv (.t 0)⟩,
⟨some 131,none,.mv (.t 12)⟩,
⟨some 132,none,.bin .sub .no (.t 131) (.c (.int .i64 1))⟩,
⟨some 133,none,.ixA 1 (.t 130) (.t 132)⟩,
⟨some 134,none,.load false 1 (.t 133)⟩,
⟨some 135,none,.mv (.t 0)⟩,
⟨some 136,none,.mv (.t 12)⟩,
⟨some 137,none,.ixA 1 (.t 135) (.t 136)⟩,
⟨some 138,none,.load false 1 (.t 137)⟩,
⟨some 139,none,.ixA 1 (.t 125) (.t 126)⟩,
⟨none, none, .store 1 (.t 139) (.t 134)⟩,
⟨some 140,none,.ixA 1 (.t 127) (.t 129)⟩,
⟨none, none, .store 1 (.t 140) (.t 138)⟩]
@[go_sem] def j52 : List XO := [
⟨some 110,none,.mv (.t 12)⟩,
⟨some 111,none,.bin .add .no (.t 110) (.c (.int .i64 1))⟩,
⟨some 12,none,.mv (.t 111)⟩]
def j6c : XCode :=
  (.seq (.seq (.reg j5z) (.cond (.t 109) .skip (.exit 6))) (.seq (.block 7 (.seq (.seq (.reg j50) (.cond (.t 124) (.exit 6) .skip)) (.reg j51))) (.reg j52)))
@[go_sem] def j53 : List XO := [
⟨some 17,none,.mv (.t 10)⟩,
⟨some 18,none,.bin .add .no (.t 17) (.c (.int .i64 1))⟩,
⟨some 10,none,.mv (.t 18)⟩]
def j6d : XCode :=
  (.seq (.seq (.reg j55) (.cond (.t 16) .skip (.exit 0))) (.seq (.block 1 (.seq (.block 2 (.loop j6e)) (.seq (.seq (.reg j58) (.cond (.t 41) (.seq (.reg j59) .ret) .skip)) (.seq (.seq (.reg j6a) (.cond (.t 45) (.seq (.reg j5o) .ret) .skip)) (.seq (.reg j5p) (.seq (.seq (.reg j5q) (.cond (.t 65) (.seq (.reg j5r) (.block 4 (.loop j6b))) .skip)) (.seq (.reg j5w) (.cond (.t 104) (.seq (.reg j5y) (.block 6 (.loop j6c))) .skip)))))))) (.reg j53)))
@[go_sem] def j54 : List XO := [
⟨some 8,none,.mv (.c (.bool false))⟩]
def x_slices_partialInsertionSortCmpFunc_int_ : XFunc := { np := 4, res := [.t 8], body :=
  (.seq (.reg j5m) (.seq (.reg j5n) (.seq (.seq (.reg j5x) (.block 0 (.loop j6d))) (.seq (.reg j54) .ret)))) }
@[go_sem] def j67 : List XO := [
⟨some 10,none,.mv (.c (.int .i64 0))⟩]
@[go_sem] def j68 : List XO := [
⟨some 13,none,.mv (.t 0)⟩,
⟨some 14,none,.mv (.t 1)⟩,
⟨some 15,none,.mv (.t 0)⟩,
⟨some 16,none,.mv (.t 3)⟩,
⟨some 17,none,.mv (.t 0)⟩,
⟨some 18,none,.mv (.t 3)⟩,
⟨some 19,none,.ixA 1 (.t 17) (.t 18)⟩,
⟨some 20,none,.load false 1 (.t 19)⟩,
⟨some 21,none,.mv (.t 0)⟩,
⟨some 22,none,.mv (.t 1)⟩,
⟨some 23,none,.ixA 1 (.t 21) (.t 22)⟩,
⟨some 24,none,.load false 1 (.t 23)⟩,
⟨some 25,none,.ixA 1 (.t 13) (.t 14)⟩,
⟨none, none, .store 1 (.t 25) (.t 20)⟩,
⟨some 26,none,.ixA 1 (.t 15) (.t 16)⟩,
⟨none, none, .store 1 (.t 26) (.t 24)⟩]
@[go_sem] def j7d : List XO := [
⟨some 27,none,.mv (.t 1)⟩,
⟨some 28,none,.bin .add .no (.t 27) (.c (.int .i64 1))⟩,
⟨some 29,none,.mv (.t 2)⟩,
⟨some 30,none,.bin .sub .no (.t 29) (.c (.int .i64 1))⟩,
⟨some 11,none,.mv (.t 28)⟩,
⟨some 12,none,.mv (.t 30)⟩]
@[go_sem] def j7e : List XO := [
⟨some 31,none,.mv (.t 11)⟩,
⟨some 32,none,.mv (.t 12)⟩,
⟨some 33,none,.bin .leq .no (.t 31) (.t 32)⟩,
⟨some 34,none,.mv (.t 33)⟩,
⟨(some 35), (some (34, true)), .mv (.t 4)⟩,
⟨(some 36), (some (34, true)), .mv (.t 0)⟩,
⟨(some 37), (some (34, true)), .mv (.t 1)⟩,
⟨(some 38), (some (34, true)), .ixA 1 (.t 36) (.t 37)⟩,
⟨(some 39), (some (34, true)), .load false 1 (.t 38)⟩,
⟨(some 40), (some (34, true)), .mv (.t 0)⟩,
⟨(some 41), (some (34, true)), .mv (.t 11)⟩,
⟨(some 42), (some (34, true)), .ixA 1 (.t 40) (.t 41)⟩,
⟨(some 43), (some (34, true)), .load false 1 (.t 42)⟩,
⟨(some 44), (some (34, true)), .callv (.t 35) [.t 39, .t 43]⟩,
⟨(some 45), (some (34, true)), .bin .lss .no (.t 44) (.c (.int .i64 0))⟩,
⟨(some 46), (some (34, true)), .un .not (.t 45)⟩,
⟨some 47,none,.pick (.t 34) (.t 46) (.c (.bool false))⟩]
@[go_sem] def j7f : List XO := [
⟨some 48,none,.mv (.t 11)⟩,
⟨some 49,none,.bin .add .no (.t 48) (.c (.int .i64 1))⟩,
⟨some 11,none,.mv (.t 49)⟩]
def j7k : XCode :=
  (.seq (.seq (.reg j7e) (.cond (.t 47) .skip (.exit 2))) (.block 3 (.reg j7f)))
@[go_sem] def j7g : List XO := [
⟨some 50,none,.mv (.t 11)⟩,
⟨some 51,none,.mv (.t 12)⟩,
⟨some 52,none,.bin .leq .no (.t 50) (.t 51)⟩,
⟨some 53,none,.mv (.t 52)⟩,
⟨(some 54), (some (53, true)), .mv (.t 4)⟩,
⟨(some 55), (some (53, true)), .mv (.t 0)⟩,
⟨(some 56), (some (53, true)), .mv (.t 1)⟩,
⟨(some 57), (some (53, true)), .ixA 1 (.t 55) (.t 56)⟩,
⟨(some 58), (some (53, true)), .load false 1 (.t 57)⟩,
⟨(some 59), (some (53, true)), .mv (.t 0)⟩,
⟨(some 60), (some (53, true)), .mv (.t 12)⟩,
⟨(some 61), (some (53, true)), .ixA 1 (.t 59) (.t 60)⟩,
⟨(some 62), (some (53, true)), .load false 1 (.t 61)⟩,
⟨(some 63), (some (53, true)), .callv (.t 54) [.t 58, .t 62]⟩,
⟨(some 64), (some (53, true)), .bin .lss .no (.t 63) (.c (.int .i64 0))⟩,
⟨some 65,none,.pick (.t 53) (.t 64) (.c (.bool false))⟩]
@[go_sem] def j7h : List XO := [
⟨some 66,none,.mv (.t 12)⟩,
⟨some 67,none,.bin .sub .no (.t 66) (.c (.int .i64 1))⟩,
⟨some 12,none,.mv (.t 67)⟩]
def j7l : XCode :=
  (.seq (.seq (.reg j7g) (.cond (.t 65) .skip (.exit 4))) (.block 5 (.reg j7h)))
@[go_sem] def j7i : List XO := [
⟨some 68,none,.mv (.t 11)⟩,
⟨some 69,none,.mv (.t 12)⟩,
⟨some 70,none,.bin .gtr .no (.t 68) (.t 69)⟩]
@[go_sem] def j69 : List XO := [
⟨some 71,none,.mv (.t 0)⟩,
⟨some 72,none,.mv (.t 11)⟩,
⟨some 73,none,.mv (.t 0)⟩,
⟨some 74,none,.mv (.t 12)⟩,
⟨some 75,none,.mv (.t 0)⟩,
⟨some 76,none,.mv (.t 12)⟩,
⟨some 77,none,.ixA 1 (.t 75) (.t 76)⟩,
⟨some 78,none,.load false 1 (.t 77)⟩,
⟨some 79,none,.mv (.t 0)⟩,
⟨some 80,none,.mv (.t 11)⟩,
⟨some 81,none,.ixA 1 (.t 79) (.t 80)⟩,
⟨some 82,none,.load false 1 (.t 81)⟩,
⟨some 83,none,.ixA 1 (.t 71) (.t 72)⟩,
⟨none, none, .store 1 (.t 83) (.t 78)⟩,
⟨some 84,none,.ixA 1 (.t 73) (.t 74)⟩,
⟨none, none, .store 1 (.t 84) (.t 82)⟩]
@[go_sem] def j7a : List XO := [
⟨some 85,none,.mv (.t 11)⟩,
⟨some 86,none,.bin .add .no (.t 85) (.c (.int .i64 1))⟩,
⟨some 11,none,.mv (.t 86)⟩]
@[go_sem] def j7b : List XO := [
⟨some 87,none,.mv (.t 12)⟩,
⟨some 88,none,.bin .sub .no (.t 87) (.c (.int .i64 1))⟩,
⟨some 12,none,.mv (.t 88)⟩]
def j7j : XCode :=
  (.block 1 (.seq (.block 2 (.loop j7k)) (.seq (.block 4 (.loop j7l)) (.seq (.seq (.reg j7i) (.cond (.t 70) (.exit 0) .skip)) (.seq (.reg j69) (.seq (.reg j7a) (.reg j7b)))))))
@[go_sem] def j7c : List XO := [
⟨some 89,none,.mv (.t 11)⟩,
⟨some 10,none,.mv (.t 89)⟩]
def x_slices_partitionEqualCmpFunc_int_ : XFunc := { np := 5, res := [.t 10], body :=
  (.seq (.reg j67) (.seq (.reg j68) (.seq (.reg j7d) (.seq (.block 0 (.loop j7j)) (.seq (.reg j7c) .ret))))) }
@[go_sem] def j6f : List XO := [
⟨some 10,none,.mv (.c (.int .i64 0))⟩,
⟨some 11,none,.mv (.c (.bool false))⟩]
@[go_sem] def j6g : List XO := [
⟨some 14,none,.mv (.t 0)⟩,
⟨some 15,none,.mv (.t 1)⟩,
⟨some 16,none,.mv (.t 0)⟩,
⟨some 17,none,.mv (.t 3)⟩,
⟨some 18,none,.mv (.t 0)⟩,
⟨some 19,none,.mv (.t 3)⟩,
⟨some 20,none,.ixA 1 (.t 18) (.t 19)⟩,
⟨some 21,none,.load false 1 (.t 20)⟩,
⟨some 22,none,.mv (.t 0)⟩,
⟨some 23,none,.mv (.t 1)⟩,
⟨some 24,none,.ixA 1 (.t 22) (.t 23)⟩,
⟨some 25,none,.load false 1 (.t 24)⟩,
⟨some 26,none,.ixA 1 (.t 14) (.t 15)⟩,
⟨none, none, .store 1 (.t 26) (.t 21)⟩,
⟨some 27,none,.ixA 1 (.t 16) (.t 17)⟩,
⟨none, none, .store 1 (.t 27) (.t 25)⟩]
@[go_sem] def j6q : List XO := [
⟨some 28,none,.mv (.t 1)⟩,
⟨some 29,none,.bin .add .no (.t 28) (.c (.int .i64 1))⟩,
⟨some 30,none,.mv (.t 2)⟩,
⟨some 31,none,.bin .sub .no (.t 30) (.c (.int .i64 1))⟩,
⟨some 12,none,.mv (.t 29)⟩,
⟨some 13,none,.mv (.t 31)⟩]
@[go_sem] def j6x : List XO := [
⟨some 32,none,.mv (.t 12)⟩,
⟨some 33,none,.mv (.t 13)⟩,
⟨some 34,none,.bin .leq .no (.t 32) (.t 33)⟩,
⟨some 35,none,.mv (.t 34)⟩,
⟨(some 36), (some (35, true)), .mv (.t 4)⟩,
⟨(some 37), (some (35, true)), .mv (.t 0)⟩,
⟨(some 38), (some (35, true)), .mv (.t 12)⟩,
⟨(some 39), (some (35, true)), .ixA 1 (.t 37) (.t 38)⟩,
⟨(some 40), (some (35, true)), .load false 1 (.t 39)⟩,
⟨(some 41), (some (35, true)), .mv (.t 0)⟩,
⟨(some 42), (some (35, true)), .mv (.t 1)⟩,
⟨(some 43), (some (35, true)), .ixA 1 (.t 41) (.t 42)⟩,
⟨(some 44), (some (35, true)), .load false 1 (.t 43)⟩,
⟨(some 45), (some (35, true)), .callv (.t 36) [.t 40, .t 44]⟩,
⟨(some 46), (some (35, true)), .bin .lss .no (.t 45) (.c (.int .i64 0))⟩,
⟨some 47,none,.pick (.t 35) (.t 46) (.c (.bool false))⟩]
@[go_sem] def j6y : List XO := [
⟨some 48,none,.mv (.t 12)⟩,
⟨some 49,none,.bin .add .no (.t 48) (.c (.int .i64 1))⟩,
⟨some 12,none,.mv (.t 49)⟩]
def j65 : XCode :=
  (.seq (.seq (.reg j6x) (.cond (.t 47) .skip (.exit 0))) (.block 1 (.reg j6y)))
@[go_sem] def j6z : List XO := [
⟨some 50,none,.mv (.t 12)⟩,
⟨some 51,none,.mv (.t 13)⟩,
⟨some 52,none,.bin .leq .no (.t 50) (.t 51)⟩,
⟨some 53,none,.mv (.t 52)⟩,
⟨(some 54), (some (53, true)), .mv (.t 4)⟩,
⟨(some 55), (some (53, true)), .mv (.t 0)⟩,
⟨(some 56), (some (53, true)), .mv (.t 13)⟩,
⟨(some 57), (some (53, true)), .ixA 1 (.t 55) (.t 56)⟩,
⟨(some 58), (some (53, true)), .load false 1 (.t 57)⟩,
⟨(some 59), (some (53, true)), .mv (.t 0)⟩,
⟨(some 60), (some (53, true)), .mv (.t 1)⟩,
⟨(some 61), (some (53, true)), .ixA 1 (.t 59) (.t 60)⟩,
⟨(some 62), (some (53, true)), .load false 1 (.t 61)⟩,
⟨(some 63), (some (53, true)), .callv (.t 54) [.t 58, .t 62]⟩,
⟨(some 64), (some (53, true)), .bin .lss .no (.t 63) (.c (.int .i64 0))⟩,
⟨(some 65), (some (53, true)), .un .not (.t 64)⟩,
⟨some 66,none,.pick (.t 53) (.t 65) (.c (.bool false))⟩]
@[go_sem] def j60 : List XO := [
⟨some 67,none,.mv (.t 13)⟩,
⟨some 68,none,.bin .sub .no (.t 67) (.c (.int .i64 1))⟩,
⟨some 13,none,.mv (.t 68)⟩]
def j66 : XCode :=
  (.seq (.seq (.reg j6z) (.cond (.t 66) .skip (.exit 2))) (.block 3 (.reg j60)))
@[go_sem] def j61 : List XO := [
⟨some 69,none,.mv (.t 12)⟩,
⟨some 70,none,.mv (.t 13)⟩,
⟨some 71,none,.bin .gtr .no (.t 69) (.t 70)⟩]
@[go_sem] def j6h : List XO := [
⟨some 72,none,.mv (.t 0)⟩,
⟨some 73,none,.mv (.t 13)⟩,
⟨some 74,none,.mv (.t 0)⟩,
⟨some 75,none,.mv (.t 1)⟩,
⟨some 76,none,.mv (.t 0)⟩,
⟨some 77,none,.mv (.t 1)⟩,
⟨some 78,none,.ixA 1 (.t 76) (.t 77)⟩,
⟨some 79,none,.load false 1 (.t 78)⟩,
⟨some 80,none,.mv (.t 0)⟩,
⟨some 81,none,.mv (.t 13)⟩,
⟨some 82,none,.ixA 1 (.t 80) (.t 81)⟩,
⟨some 83,none,.load false 1 (.t 82)⟩,
⟨some 84,none,.ixA 1 (.t 72) (.t 73)⟩,
⟨none, none, .store 1 (.t 84) (.t 79)⟩,
⟨some 85,none,.ixA 1 (.t 74) (.t 75)⟩,
⟨none, none, .store 1 (.t 85) (.t 83)⟩]
@[go_sem] def j6i : List XO := [
⟨some 86,none,.mv (.t 13)⟩,
⟨some 10,none,.mv (.t 86)⟩,
⟨some 11,none,.mv (.c (.bool true))⟩]
@[go_sem] def j6j : List XO := [
⟨some 87,none,.mv (.t 0)⟩,
⟨some 88,none,.mv (.t 12)⟩,
⟨some 89,none,.mv (.t 0)⟩,
⟨some 90,none,.mv (.t 13)⟩,
⟨some 91,none,.mv (.t 0)⟩,
⟨some 92,none,.mv (.t 13)⟩,
⟨some 93,none,.ixA 1 (.t 91) (.t 92)⟩,
⟨some 94,none,.load false 1 (.t 93)⟩,
⟨some 95,none,.mv (.t 0)⟩,
⟨some 96,none,.mv (.t 12)⟩,
⟨some 97,none,.ixA 1 (.t 95) (.t 96)⟩,
⟨some 98,none,.load false 1 (.t 97)⟩,
⟨some 99,none,.ixA 1 (.t 87) (.t 88)⟩,
⟨none, none, .store 1 (.t 99) (.t 94)⟩,
⟨some 100,none,.ixA 1 (.t 89) (.t 90)⟩,
⟨none, none, .store 1 (.t 100) (.t 98)⟩]
@[go_sem] def j6k : List XO := [
⟨some 101,none,.mv (.t 12)⟩,
⟨some 102,none,.bin .add .no (.t 101) (.c (.int .i64 1))⟩,
⟨some 12,none,.mv (.t 102)⟩]
@[go_sem] def j6l : List XO := [
⟨some 103,none,.mv (.t 13)⟩,
⟨some 104,none,.bin .sub .no (.t 103) (.c (.int .i64 1))⟩,
⟨some 13,none,.mv (.t 104)⟩]
@[go_sem] def j6m : List XO := [
⟨some 105,none,.mv (.t 12)⟩,
⟨some 106,none,.mv (.t 13)⟩,
⟨some 107,none,.bin .leq .no (.t 105) (.t 106)⟩,
⟨some 108,none,.mv (.t 107)⟩,
⟨(some 109), (some (108, true)), .mv (.t 4)⟩,
⟨(some 110), (some (108, true)), .mv (.t 0)⟩,
⟨(some 111), (some (108, true)), .mv (.t 12)⟩,
⟨(some 112), (some (108, true)), .ixA 1 (.t 110) (.t 111)⟩,
⟨(some 113), (some (108, true)), .load false 1 (.t 112)⟩,
⟨(some 114), (some (108, true)), .mv (.t 0)⟩,
⟨(some 115), (some (108, true)), .mv (.t 1)⟩,
⟨(some 116), (some (108, true)), .ixA 1 (.t 114) (.t 115)⟩,
⟨(some 117), (some (108, true)), .load false 1 (.t 116)⟩,
⟨(some 118), (some (108, true)), .callv (.t 109) [.t 113, .t 117]⟩,
⟨(some 119), (some (108, true)), .bin .lss .no (.t 118) (.c (.int .i64 0))⟩,
⟨some 120,none,.pick (.t 108) (.t 119) (.c (.bool false))⟩]
@[go_sem] def j6n : List XO := [
⟨some 121,none,.mv (.t 12)⟩,
⟨some 122,none,.bin .add .no (.t 121) (.c (.int .i64 1))⟩,
⟨some 12,none,.mv (.t 122)⟩]
def j62 : XCode :=
  (.seq (.seq (.reg j6m) (.cond (.t 120) .skip (.exit 6))) (.block 7 (.reg j6n)))
@[go_sem] def j6o : List XO := [
⟨some 123,none,.mv (.t 12)⟩,
⟨some 124,none,.mv (.t 13)⟩,
⟨some 125,none,.bin .leq .no (.t 123) (.t 124)⟩,
⟨some 126,none,.mv (.t 125)⟩,
⟨(some 127), (some (126, true)), .mv (.t 4)⟩,
⟨(some 128), (some (126, true)), .mv (.t 0)⟩,
⟨(some 129), (some (126, true)), .mv (.t 13)⟩,
⟨(some 130), (some (126, true)), .ixA 1 (.t 128) (.t 129)⟩,
⟨(some 131), (some (126, true)), .load false 1 (.t 130)⟩,
⟨(some 132), (some (126, true)), .mv (.t 0)⟩,
⟨(some 133), (some (126, true)), .mv (.t 1)⟩,
⟨(some 134), (some (126, true)), .ixA 1 (.t 132) (.t 133)⟩,
⟨(some 135), (some (126, true)), .load false 1 (.t 134)⟩,
⟨(some 136), (some (126, true)), .callv (.t 127) [.t 131, .t 135]⟩,
⟨(some 137), (some (126, true)), .bin .lss .no (.t 136) (.c (.int .i64 0))⟩,
⟨(some 138), (some (126, true)), .un .not (.t 137)⟩,
⟨some 139,none,.pick (.t 126) (.t 138) (.c (.bool false))⟩]
@[go_sem] def j6p : List XO := [
⟨some 140,none,.mv (.t 13)⟩,
⟨some 141,none,.bin .sub .no (.t 140) (.c (.int .i64 1))⟩,
⟨some 13,none,.mv (.t 141)⟩]
def j63 : XCode :=
  (.seq (.seq (.reg j6o) (.cond (.t 139) .skip (.exit 8))) (.block 9 (.reg j6p)))
@[go_sem] def j6r : List XO := [
⟨some 142,none,.mv (.t 12)⟩,
⟨some 143,none,.mv (.t 13)⟩,
⟨some 144,none,.bin .gtr .no (.t 142) (.t 143)⟩]
@[go_sem] def j6s : List XO := [
⟨some 145,none,.mv (.t 0)⟩,
⟨some 146,none,.mv (.t 12)⟩,
⟨some 147,none,.mv (.t 0)⟩,
⟨some 148,none,.mv (.t 13)⟩,
⟨some 149,none,.mv (.t 0)⟩,
⟨some 150,none,.mv (.t 13)⟩,
⟨some 151,none,.ixA 1 (.t 149) (.t 150)⟩,
⟨some 152,none,.load false 1 (.t 151)⟩,
⟨some 153,none,.mv (.t 0)⟩,
⟨some 154,none,.mv (.t 12)⟩,
⟨some 155,none,.ixA 1 (.t 153) (.t 154)⟩,
⟨some 156,none,.load false 1 (.t 155)⟩,
⟨some 157,none,.ixA 1 (.t 145) (.t 146)⟩,
⟨none, none, .store 1 (.t 157) (.t 152)⟩,
⟨some 158,none,.ixA 1 (.t 147) (.t 148)⟩,
⟨none, none, .store 1 (.t 158) (.t 156)⟩]
@[go_sem] def j6t : List XO := [
⟨some 159,none,.mv (.t 12)⟩,
⟨some 160,none,.bin .add .no (.t 159) (.c (.int .i64 1))⟩,
⟨some 12,none,.mv (.t 160)⟩]
@[go_sem] def j6u : List XO := [
⟨some 161,none,.mv (.t 13)⟩,
⟨some 162,none,.bin .sub .no (.t 161) (.c (.int .i64 1))⟩,
⟨some 13,none,.mv (.t 162)⟩]
def j64 : XCode :=
  (.block 5 (.seq (.block 6 (.loop j62)) (.seq (.block 8 (.loop j63)) (.seq (.seq (.reg j6r) (.cond (.t 144) (.exit 4) .skip)) (.seq (.reg j6s) (.seq (.reg j6t) (.reg j6u)))))))
@[go_sem] def j6v : List XO := [
⟨some 163,none,.mv (.t 0)⟩,
⟨some 164,none,.mv (.t 13)⟩,
⟨some 165,none,.mv (.t 0)⟩,
⟨some 166,none,.mv (.t 1)⟩,
⟨some 167,none,.mv (.t 0)⟩,
⟨some 168,none,.mv (.t 1)⟩,
⟨some 169,none,.ixA 1 (.t 167) (.t 168)⟩,
⟨some 170,none,.load false 1 (.t 169)⟩,
⟨some 171,none,.mv (.t 0)⟩,
⟨some 172,none,.mv (.t 13)⟩,
⟨some 173,none,.ixA 1 (.t 171) (.t 172)⟩,
⟨some 174,none,.load false 1 (.t 173)⟩,
⟨some 175,none,.ixA 1 (.t 163) (.t 164)⟩,
⟨none, none, .store 1 (.t 175) (.t 170)⟩,
⟨some 176,none,.ixA 1 (.t 165) (.t 166)⟩,
⟨none, none, .store 1 (.t 176) (.t 174)⟩]
@[go_sem] def j6w : List XO := [
⟨some 177,none,.mv (.t 13)⟩,
⟨some 10,none,.mv (.t 177)⟩,
⟨some 11,none,.mv (.c (.bool false))⟩]
def x_slices_partitionCmpFunc_int_ : XFunc := { np := 5, res := [.t 10, .t 11], body :=
  (.seq (.reg j6f) (.seq (.reg j6g) (.seq (.reg j6q) (.seq (.block 0 (.loop j65)) (.seq (.block 2 (.loop j66)) (.seq (.seq (.reg j61) (.cond (.t 71) (.seq (.reg j6h) (.seq (.reg j6i) .ret)) .skip)) (.seq (.reg j6j) (.seq (.reg j6k) (.seq (.reg j6l) (.seq (.block 4 (.loop j64)) (.seq (.reg j6v) (.seq (.reg j6w) .ret)))))))))))) }
@[go_sem] def j1c : List XO := [
⟨some 2,none,.mv (.c (.int .i64 0))⟩]
@[go_sem] def j1d : List XO := [
⟨some 3,none,.mv (.t 0)⟩,
⟨some 4,none,.bin .geq .no (.t 3) (.c (.int .u32 65536))⟩]
@[go_sem] def j1e : List XO := [
⟨some 5,none,.mv (.t 0)⟩,
⟨some 6,none,.bin .shr .no (.t 5) (.c (.int .u64 16))⟩,
⟨some 0,none,.mv (.t 6)⟩]
@[go_sem] def j1f : List XO := [
⟨some 2,none,.mv (.c (.int .i64 16))⟩]
@[go_sem] def j1g : List XO := [
⟨some 7,none,.mv (.t 0)⟩,
⟨some 8,none,.bin .geq .no (.t 7) (.c (.int .u32 256))⟩]
@[go_sem] def j1h : List XO := [
⟨some 9,none,.mv (.t 0)⟩,
⟨some 10,none,.bin .shr .no (.t 9) (.c (.int .u64 8))⟩,
⟨some 0,none,.mv (.t 10)⟩]
@[go_sem] def j1i : List XO := [
⟨some 11,none,.mv (.t 2)⟩,
⟨some 12,none,.bin .add .no (.t 11) (.c (.int .i64 8))⟩,
⟨some 2,none,.mv (.t 12)⟩]
@[go_sem] def j1j : List XO := [
⟨some 13,none,.mv (.t 2)⟩,
⟨some 14,none,.mv (.t 0)⟩,
⟨some 15,none,.cvtI .u8 (.t 14)⟩,
⟨some 16,none,.ixS (.c (.string (ByteArray.mk #[0, 1, 2, 2, 3, 3, 3, 3, 4, 4, 4, 4, 4, 4, 4, 4, 5, 5, 5, 5, 5, 5, 5, 5, 5, 5, 5, 5, 5, 5, 5, 5, 6, 6, 6, 6, 6, 6, 6, 6, 6, 6, 6, 6, 6, 6, 6, 6, 6, 6, 6, 6, 6, 6, 6, 6, 6, 6, 6, 6, 6, 6, 6, 6, 7, 7, 7, 7, 7, 7, 7, 7, 7, 7, 7, 7, 7, 7, 7, 7, 7, 7, 7, 7, 7, 7, 7, 7, 7, 7, 7, 7, 7, 7, 7, 7, 7, 7, 7, 7, 7, 7, 7, 7, 7, 7, 7, 7, 7, 7, 7, 7, 7, 7, 7, 7, 7, 7, 7, 7, 7, 7, 7, 7, 7, 7, 7, 7, 8, 8, 8, 8, 8, 8, 8, 8, 8, 8, 8, 8, 8, 8, 8, 8, 8, 8, 8, 8, 8, 8, 8, 8, 8, 8, 8, 8, 8, 8, 8, 8, 8, 8, 8, 8, 8, 8, 8, 8, 8, 8, 8, 8, 8, 8, 8, 8, 8, 8, 8, 8, 8, 8, 8, 8, 8, 8, 8, 8, 8, 8, 8, 8, 8, 8, 8, 8, 8, 8, 8, 8, 8, 8, 8, 8, 8, 8, 8, 8, 8, 8, 8, 8, 8, 8, 8, 8, 8, 8, 8, 8, 8, 8, 8, 8, 8, 8, 8, 8, 8, 8, 8, 8, 8, 8, 8, 8, 8, 8, 8, 8, 8, 8, 8, 8, 8, 8, 8, 8, 8, 8, 8, 8, 8, 8, 8, 8]))) (.t 15)⟩,
⟨some 17,none,.cvtI .i64 (.t 16)⟩,
⟨some 18,none,.bin .add .no (.t 13) (.t 17)⟩,
⟨some 2,none,.mv (.t 18)⟩]
def x_math_bits_Len32 : XFunc := { np := 1, res := [.t 2], body :=
  (.seq (.reg j1c) (.seq (.seq (.reg j1d) (.cond (.t 4) (.seq (.reg j1e) (.reg j1f)) .skip)) (.seq (.seq (.reg j1g) (.cond (.t 8) (.seq (.reg j1h) (.reg j1i)) .skip)) (.seq (.reg j1j) .ret)))) }
@[go_sem] def j1k : List XO := [
⟨some 2,none,.mv (.c (.int .i64 0))⟩]
@[go_sem] def j1l : List XO := [
⟨some 3,none,.mv (.t 0)⟩,
⟨some 4,none,.bin .geq .no (.t 3) (.c (.int .u64 4294967296))⟩]
@[go_sem] def j1n : List XO := [
⟨some 5,none,.mv (.t 0)⟩,
⟨some 6,none,.bin .shr .no (.t 5) (.c (.int .u64 32))⟩,
⟨some 0,none,.mv (.t 6)⟩]
@[go_sem] def j1o : List XO := [
⟨some 2,none,.mv (.c (.int .i64 32))⟩]
@[go_sem] def j1p : List XO := [
⟨some 7,none,.mv (.t 0)⟩,
⟨some 8,none,.bin .geq .no (.t 7) (.c (.int .u64 65536))⟩]
@[go_sem] def j1q : List XO := [
⟨some 9,none,.mv (.t 0)⟩,
⟨some 10,none,.bin .shr .no (.t 9) (.c (.int .u64 16))⟩,
⟨some 0,none,.mv (.t 10)⟩]
@[go_sem] def j1r : List XO := [
⟨some 11,none,.mv (.t 2)⟩,
⟨some 12,none,.bin .add .no (.t 11) (.c (.int .i64 16))⟩,
⟨some 2,none,.mv (.t 12)⟩]
@[go_sem] def j1s : List XO := [
⟨some 13,none,.mv (.t 0)⟩,
⟨some 14,none,.bin .geq .no (.t 13) (.c (.int .u64 256))⟩]
@[go_sem] def j1t : List XO := [
⟨some 15,none,.mv (.t 0)⟩,
⟨some 16,none,.bin .shr .no (.t 15) (.c (.int .u64 8))⟩,
⟨some 0,none,.mv (.t 16)⟩]
@[go_sem] def j1u : List XO := [
⟨some 17,none,.mv (.t 2)⟩,
⟨some 18,none,.bin .add .no (.t 17) (.c (.int .i64 8))⟩,
⟨some 2,none,.mv (.t 18)⟩]
@[go_sem] def j1m : List XO := [
⟨some 19,none,.mv (.t 2)⟩,
⟨some 20,none,.mv (.t 0)⟩,
⟨some 21,none,.cvtI .u8 (.t 20)⟩,
⟨some 22,none,.ixS (.c (.string (ByteArray.mk #[0, 1, 2, 2, 3, 3, 3, 3, 4, 4, 4, 4, 4, 4, 4, 4, 5, 5, 5, 5, 5, 5, 5, 5, 5, 5, 5, 5, 5, 5, 5, 5, 6, 6, 6, 6, 6, 6, 6, 6, 6, 6, 6, 6, 6, 6, 6, 6, 6, 6, 6, 6, 6, 6, 6, 6, 6, 6, 6, 6, 6, 6, 6, 6, 7, 7, 7, 7, 7, 7, 7, 7, 7, 7, 7, 7, 7, 7, 7, 7, 7, 7, 7, 7, 7, 7, 7, 7, 7, 7, 7, 7, 7, 7, 7, 7, 7, 7, 7, 7, 7, 7, 7, 7, 7, 7, 7, 7, 7, 7, 7, 7, 7, 7, 7, 7, 7, 7, 7, 7, 7, 7, 7, 7, 7, 7, 7, 7, 8, 8, 8, 8, 8, 8, 8, 8, 8, 8, 8, 8, 8, 8, 8, 8, 8, 8, 8, 8, 8, 8, 8, 8, 8, 8, 8, 8, 8, 8, 8, 8, 8, 8, 8, 8, 8, 8, 8, 8, 8, 8, 8, 8, 8, 8, 8, 8, 8, 8, 8, 8, 8, 8, 8, 8, 8, 8, 8, 8, 8, 8, 8, 8, 8, 8, 8, 8, 8, 8, 8, 8, 8, 8, 8, 8, 8, 8, 8, 8, 8, 8, 8, 8, 8, 8, 8, 8, 8, 8, 8, 8, 8, 8, 8, 8, 8, 8, 8, 8, 8, 8, 8, 8, 8, 8, 8, 8, 8, 8, 8, 8, 8, 8, 8, 8, 8, 8, 8, 8, 8, 8, 8, 8, 8, 8, 8, 8]))) (.t 21)⟩,
⟨some 23,none,.cvtI .i64 (.t 22)⟩,
⟨some 24,none,.bin .add .no (.t 19) (.t 23)⟩,
⟨some 2,none,.mv (.t 24)⟩]
def x_math_bits_Len64 : XFunc := { np := 1, res := [.t 2], body :=
  (.seq (.reg j1k) (.seq (.seq (.reg j1l) (.cond (.t 4) (.seq (.reg j1n) (.reg j1o)) .skip)) (.seq (.seq (.reg j1p) (.cond (.t 8) (.seq (.reg j1q) (.reg j1r)) .skip)) (.seq (.seq (.reg j1s) (.cond (.t 14) (.seq (.reg j1t) (.reg j1u)) .skip)) (.seq (.reg j1m) .ret))))) }
@[go_sem] def j8p : List XO := [
⟨some 12,none,.mv (.t 1)⟩,
⟨some 10,none,.mv (.t 12)⟩]
@[go_sem] def j8q : List XO := [
⟨some 13,none,.mv (.t 10)⟩,
⟨some 14,none,.bin .mul .no (.c (.int .i64 2)) (.t 13)⟩,
⟨some 15,none,.bin .add .no (.t 14) (.c (.int .i64 1))⟩,
⟨some 11,none,.mv (.t 15)⟩]
@[go_sem] def j8r : List XO := [
⟨some 16,none,.mv (.t 11)⟩,
⟨some 17,none,.mv (.t 2)⟩,
⟨some 18,none,.bin .geq .no (.t 16) (.t 17)⟩]
@[go_sem] def j8s : List XO := [
⟨some 19,none,.mv (.t 11)⟩,
⟨some 20,none,.bin .add .no (.t 19) (.c (.int .i64 1))⟩,
⟨some 21,none,.mv (.t 2)⟩,
⟨some 22,none,.bin .lss .no (.t 20) (.t 21)⟩,
⟨some 23,none,.mv (.t 22)⟩,
⟨(some 24), (some (23, true)), .mv (.t 4)⟩,
⟨(some 25), (some (23, true)), .mv (.t 0)⟩,
⟨(some 26), (some (23, true)), .mv (.t 3)⟩,
⟨(some 27), (some (23, true)), .mv (.t 11)⟩,
⟨(some 28), (some (23, true)), .bin .add .no (.t 26) (.t 27)⟩,
⟨(some 29), (some (23, true)), .ixA 1 (.t 25) (.t 28)⟩,
⟨(some 30), (some (23, true)), .load false 1 (.t 29)⟩,
⟨(some 31), (some (23, true)), .mv (.t 0)⟩,
⟨(some 32), (some (23, true)), .mv (.t 3)⟩,
⟨(some 33), (some (23, true)), .mv (.t 11)⟩,
⟨(some 34), (some (23, true)), .bin .add .no (.t 32) (.t 33)⟩,
⟨(some 35), (some (23, true)), .bin .add .no (.t 34) (.c (.int .i64 1))⟩,
⟨(some 36), (some (23, true)), .ixA 1 (.t 31) (.t 35)⟩,
⟨(some 37), (some (23, true)), .load false 1 (.t 36)⟩,
⟨(some 38), (some (23, true)), .callv (.t 24) [.t 30, .t 37]⟩,
⟨(some 39), (some (23, true)), .bin .lss .no (.t 38) (.c (.int .i64 0))⟩,
⟨some 40,none,.pick (.t 23) (.t 39) (.c (.bool false))⟩]
@[go_sem] def j8t : List XO := [
⟨some 41,none,.mv (.t 11)⟩,
⟨some 42,none,.bin .add .no (.t 41) (.c (.int .i64 1))⟩,
⟨some 11,none,.mv (.t 42)⟩]
@[go_sem] def j8u : List XO := [
⟨some 43,none,.mv (.t 4)⟩,
⟨some 44,none,.mv (.t 0)⟩,
⟨some 45,none,.mv (.t 3)⟩,
⟨some 46,none,.mv (.t 10)⟩,
⟨some 47,none,.bin .add .no (.t 45) (.t 46)⟩,
⟨some 48,none,.ixA 1 (.t 44) (.t 47)⟩,
⟨some 49,none,.load false 1 (.t 48)⟩,
⟨some 50,none,.mv (.t 0)⟩,
⟨some 51,none,.mv (.t 3)⟩,
⟨some 52,none,.mv (.t 11)⟩,
⟨some 53,none,.bin .add .no (.t 51) (.t 52)⟩,
⟨some 54,none,.ixA 1 (.t 50) (.t 53)⟩,
⟨some 55,none,.load false 1 (.t 54)⟩,
⟨some 56,none,.callv (.t 43) [.t 49, .t 55]⟩,
⟨some 57,none,.bin .lss .no (.t 56) (.c (.int .i64 0))⟩,
⟨some 58,none,.un .not (.t 57)⟩]
@[go_sem] def j8v : List XO := [
⟨some 59,none,.mv (.t 0)⟩,
⟨some 60,none,.mv (.t 3)⟩,
⟨some 61,none,.mv (.t 10)⟩,
⟨some 62,none,.bin .add .no (.t 60) (.t 61)⟩,
⟨some 63,none,.mv (.t 0)⟩,
⟨some 64,none,.mv (.t 3)⟩,
⟨some 65,none,.mv (.t 11)⟩,
⟨some 66,none,.bin .add .no (.t 64) (.t 65)⟩,
⟨some 67,none,.mv (.t 0)⟩,
⟨some 68,none,.mv (.t 3)⟩,
⟨some 69,none,.mv (.t 11)⟩,
⟨some 70,none,.bin .add .no (.t 68) (.t 69)⟩,
⟨some 71,none,.ixA 1 (.t 67) (.t 70)⟩,
⟨some 72,none,.load false 1 (.t 71)⟩,
⟨some 73,none,.mv (.t 0)⟩,
⟨some 74,none,.mv (.t 3)⟩,
⟨some 75,none,.mv (.t 10)⟩,
⟨some 76,none,.bin .add .no (.t 74) (.t 75)⟩,
⟨some 77,none,.ixA 1 (.t 73) (.t 76)⟩,
⟨some 78,none,.load false 1 (.t 77)⟩,
⟨some 79,none,.ixA 1 (.t 59) (.t 62)⟩,
⟨none, none, .store 1 (.t 79) (.t 72)⟩,
⟨some 80,none,.ixA 1 (.t 63) (.t 66)⟩,
⟨none, none, .store 1 (.t 80) (.t 78)⟩]
@[go_sem] def j8w : List XO := [
⟨some 81,none,.mv (.t 11)⟩,
⟨some 10,none,.mv (.t 81)⟩]
def j8x : XCode :=
  (.block 1 (.seq (.reg j8q) (.seq (.seq (.reg j8r) (.cond (.t 18) (.exit 0) .skip)) (.seq (.seq (.reg j8s) (.cond (.t 40) (.reg j8t) .skip)) (.seq (.seq (.reg j8u) (.cond (.t 58) .ret .skip)) (.seq (.reg j8v) (.reg j8w)))))))
def x_slices_siftDownCmpFunc_int_ : XFunc := { np := 5, res := [], body :=
  (.seq (.reg j8p) (.block 0 (.loop j8x))) }
@[go_sem] def j5f : List XO := [
⟨some 2,none,.mv (.c (.int .u64 0))⟩]
@[go_sem] def j5g : List XO := [
⟨some 3,none,.mv (.t 0)⟩,
⟨some 4,none,.cvtI .u64 (.t 3)⟩,
⟨some 5,none,.call "math/bits.Len" [.t 4]⟩,
⟨some 6,none,.bin .shl .no (.c (.int .u64 1)) (.t 5)⟩,
⟨some 2,none,.mv (.t 6)⟩]
def x_slices_nextPowerOfTwo : XFunc := { np := 1, res := [.t 2], body :=
  (.seq (.reg j5f) (.seq (.reg j5g) .ret)) }
@[go_sem] def g58 : List XO := [
⟨some 2,none,.mv (.c (.int .u64 0))⟩]
@[go_sem] def g59 : List XO := [
⟨some 3,none,.mv (.t 0)⟩,
⟨some 4,none,.nilck (.t 3)⟩,
⟨some 5,none,.load false 1 (.t 4)⟩,
⟨some 6,none,.mv (.t 0)⟩,
⟨some 7,none,.nilck (.t 6)⟩,
⟨some 8,none,.load false 1 (.t 7)⟩,
⟨some 9,none,.bin .shl .no (.t 8) (.c (.int .u64 13))⟩,
⟨some 10,none,.bin .xor .no (.t 5) (.t 9)⟩,
⟨some 11,none,.nilck (.t 3)⟩,
⟨none, none, .store 1 (.t 11) (.t 10)⟩]
@[go_sem] def g6a : List XO := [
⟨some 12,none,.mv (.t 0)⟩,
⟨some 13,none,.nilck (.t 12)⟩,
⟨some 14,none,.load false 1 (.t 13)⟩,
⟨some 15,none,.mv (.t 0)⟩,
⟨some 16,none,.nilck (.t 15)⟩,
⟨some 17,none,.load false 1 (.t 16)⟩,
⟨some 18,none,.bin .shr .no (.t 17) (.c (.int .u64 7))⟩,
⟨some 19,none,.bin .xor .no (.t 14) (.t 18)⟩,
⟨some 20,none,.nilck (.t 12)⟩,
⟨none, none, .store 1 (.t 20) (.t 19)⟩]
@[go_sem] def g6b : List XO := [
⟨some 21,none,.mv (.t 0)⟩,
⟨some 22,none,.nilck (.t 21)⟩,
⟨some 23,none,.load false 1 (.t 22)⟩,
⟨some 24,none,.mv (.t 0)⟩,
⟨some 25,none,.nilck (.t 24)⟩,
⟨some 26,none,.load false 1 (.t 25)⟩,
⟨some 27,none,.bin .shl .no (.t 26) (.c (.int .u64 17))⟩,
⟨some 28,none,.bin .xor .no (.t 23) (.t 27)⟩,
⟨some 29,none,.nilck (.t 21)⟩,
⟨none, none, .store 1 (.t 29) (.t 28)⟩]
@[go_sem] def g6c : List XO := [
⟨some 30,none,.mv (.t 0)⟩,
⟨some 31,none,.nilck (.t 30)⟩,
⟨some 32,none,.load false 1 (.t 31)⟩,
⟨some 2,none,.mv (.t 32)⟩]
def x___slices_xorshift__Next : XFunc := { np := 1, res := [.t 2], body :=
  (.seq (.reg g58) (.seq (.reg g59) (.seq (.reg g6a) (.seq (.reg g6b) (.seq (.reg g6c) .ret))))) }
@[go_sem] def j48 : List XO := [
⟨some 8,none,.mv (.c (.int .i64 0))⟩]
@[go_sem] def j49 : List XO := [
⟨some 9,none,.mv (.t 0)⟩,
⟨some 10,none,.mv (.t 1)⟩,
⟨some 11,none,.bin .sub .no (.t 10) (.c (.int .i64 1))⟩,
⟨some 12,none,.mv (.t 1)⟩,
⟨some 13,none,.mv (.t 1)⟩,
⟨some 14,none,.bin .add .no (.t 13) (.c (.int .i64 1))⟩,
⟨some 15,none,.mv (.t 2)⟩,
⟨some 16,none,.mv (.t 3)⟩,
⟨some 17,none,.call "slices.medianCmpFunc[int]" [.t 9, .t 11, .t 12, .t 14, .t 15, .t 16]⟩,
⟨some 8,none,.mv (.t 17)⟩]
def x_slices_medianAdjacentCmpFunc_int_ : XFunc := { np := 4, res := [.t 8], body :=
  (.seq (.reg j48) (.seq (.reg j49) .ret)) }
@[go_sem] def j5a : List XO := [
⟨some 12,none,.mv (.c (.int .i64 0))⟩]
@[go_sem] def j5b : List XO := [
⟨some 14,none,.mv (.t 0)⟩,
⟨some 15,none,.mv (.t 1)⟩,
⟨some 16,none,.mv (.t 2)⟩,
⟨some 17,none,.mv (.t 4)⟩,
⟨some 18,none,.mv (.t 5)⟩,
⟨some 19,none,.call "slices.order2CmpFunc[int]" [.t 14, .t 15, .t 16, .t 17, .t 18]⟩,
⟨some 13,none,.mv (.t 19)⟩,
⟨some 20,none,.ext (.t 13) 0⟩,
⟨some 21,none,.ext (.t 13) 1⟩,
⟨some 1,none,.mv (.t 20)⟩,
⟨some 2,none,.mv (.t 21)⟩]
@[go_sem] def j5c : List XO := [
⟨some 23,none,.mv (.t 0)⟩,
⟨some 24,none,.mv (.t 2)⟩,
⟨some 25,none,.mv (.t 3)⟩,
⟨some 26,none,.mv (.t 4)⟩,
⟨some 27,none,.mv (.t 5)⟩,
⟨some 28,none,.call "slices.order2CmpFunc[int]" [.t 23, .t 24, .t 25, .t 26, .t 27]⟩,
⟨some 22,none,.mv (.t 28)⟩,
⟨some 29,none,.ext (.t 22) 0⟩,
⟨some 30,none,.ext (.t 22) 1⟩,
⟨some 2,none,.mv (.t 29)⟩,
⟨some 3,none,.mv (.t 30)⟩]
@[go_sem] def j5d : List XO := [
⟨some 32,none,.mv (.t 0)⟩,
⟨some 33,none,.mv (.t 1)⟩,
⟨some 34,none,.mv (.t 2)⟩,
⟨some 35,none,.mv (.t 4)⟩,
⟨some 36,none,.mv (.t 5)⟩,
⟨some 37,none,.call "slices.order2CmpFunc[int]" [.t 32, .t 33, .t 34, .t 35, .t 36]⟩,
⟨some 31,none,.mv (.t 37)⟩,
⟨some 38,none,.ext (.t 31) 0⟩,
⟨some 39,none,.ext (.t 31) 1⟩,
⟨some 1,none,.mv (.t 38)⟩,
⟨some 2,none,.mv (.t 39)⟩]
@[go_sem] def j5e : List XO := [
⟨some 40,none,.mv (.t 2)⟩,
⟨some 12,none,.mv (.t 40)⟩]
def x_slices_medianCmpFunc_int_ : XFunc := { np := 6, res := [.t 12], body :=
  (.seq (.reg j5a) (.seq (.reg j5b) (.seq (.reg j5c) (.seq (.reg j5d) (.seq (.reg j5e) .ret))))) }
@[go_sem] def j5h : List XO := [
⟨some 10,none,.mv (.c (.int .i64 0))⟩,
⟨some 11,none,.mv (.c (.int .i64 0))⟩]
@[go_sem] def j5i : List XO := [
⟨some 12,none,.mv (.t 4)⟩,
⟨some 13,none,.mv (.t 0)⟩,
⟨some 14,none,.mv (.t 2)⟩,
⟨some 15,none,.ixA 1 (.t 13) (.t 14)⟩,
⟨some 16,none,.load false 1 (.t 15)⟩,
⟨some 17,none,.mv (.t 0)⟩,
⟨some 18,none,.mv (.t 1)⟩,
⟨some 19,none,.ixA 1 (.t 17) (.t 18)⟩,
⟨some 20,none,.load false 1 (.t 19)⟩,
⟨some 21,none,.callv (.t 12) [.t 16, .t 20]⟩,
⟨some 22,none,.bin .lss .no (.t 21) (.c (.int .i64 0))⟩]
@[go_sem] def j5j : List XO := [
⟨some 23,none,.mv (.t 3)⟩,
⟨some 24,none,.nilck (.t 23)⟩,
⟨some 25,none,.load false 1 (.t 24)⟩,
⟨some 26,none,.bin .add .no (.t 25) (.c (.int .i64 1))⟩,
⟨some 27,none,.nilck (.t 23)⟩,
⟨none, none, .store 1 (.t 27) (.t 26)⟩]
@[go_sem] def j5k : List XO := [
⟨some 28,none,.mv (.t 2)⟩,
⟨some 29,none,.mv (.t 1)⟩,
⟨some 10,none,.mv (.t 28)⟩,
⟨some 11,none,.mv (.t 29)⟩]
@[go_sem] def j5l : List XO := [
⟨some 30,none,.mv (.t 1)⟩,
⟨some 31,none,.mv (.t 2)⟩,
⟨some 10,none,.mv (.t 30)⟩,
⟨some 11,none,.mv (.t 31)⟩]
def x_slices_order2CmpFunc_int_ : XFunc := { np := 5, res := [.t 10, .t 11], body :=
  (.seq (.reg j5h) (.seq (.seq (.reg j5i) (.cond (.t 22) (.seq (.reg j5j) (.seq (.reg j5k) .ret)) .skip)) (.seq (.reg j5l) .ret))) }
end Go.Nw.Fault
