/- The functions of a seat, as the abstract machine has them. -/
import Derived.Test.YtkoonfmgmgfmdaaDoorNwI
set_option linter.all false
set_option linter.unusedVariables false
set_option linter.unusedSimpArgs false
set_option linter.unusedSectionVars false
namespace Go.Nw.Top
def gl_0 : List Int := [0, 1, 28, 2, 29, 14, 24, 3, 30, 22, 20, 15, 25, 17, 4, 8, 31, 27, 13, 23, 21, 19, 16, 7, 26, 12, 18, 6, 11, 5, 10, 9]
def gt_0 : List Value := List.map (Value.int .u8) gl_0
theorem g7d : gt_0 = List.map (Value.int .u8) gl_0 := rfl
def gl_1 : List Int := [0, 1, 56, 2, 57, 49, 28, 3, 61, 58, 42, 50, 38, 29, 17, 4, 62, 47, 59, 36, 45, 43, 51, 22, 53, 39, 33, 30, 24, 18, 12, 5, 63, 55, 48, 27, 60, 41, 37, 16, 46, 35, 44, 21, 52, 32, 23, 11, 54, 26, 40, 15, 34, 20, 31, 10, 25, 14, 19, 9, 13, 8, 7, 6]
def gt_1 : List Value := List.map (Value.int .u8) gl_1
theorem c9m : gt_1 = List.map (Value.int .u8) gl_1 := rfl
@[go_sem] def m4w : List XO := [
⟨some 3,none,.boxF (.t 0)⟩,
⟨some 4,none,.boxF (.t 1)⟩,
⟨some 5,none,.boxF (.t 2)⟩,
⟨some 6,none,.mv (.c (.bool false))⟩]
@[go_sem] def m4x : List XO := [
⟨some 20,none,.load true 4 (.tf 3)⟩,
⟨some 21,none,.call "newel/newellaw06.Far" [.t 20]⟩,
⟨some 22,none,.mv (.t 21)⟩,
⟨(some 23), (some (22, false)), .load true 4 (.tf 3)⟩,
⟨(some 24), (some (22, false)), .call "newel/newelref06.Check" [.t 23]⟩,
⟨(some 25), (some (22, false)), .bin .neq .no (.t 24) (.c (.int .i64 0))⟩,
⟨some 26,none,.pick (.t 22) (.c (.bool true)) (.t 25)⟩,
⟨some 27,none,.mv (.t 26)⟩,
⟨(some 28), (some (27, false)), .load true 4 (.tf 3)⟩,
⟨(some 29), (some (27, false)), .load true 3 (.tf 4)⟩,
⟨(some 30), (some (27, false)), .call "newel/newelref06.Fits" [.t 28, .t 29]⟩,
⟨(some 31), (some (27, false)), .un .not (.t 30)⟩,
⟨some 32,none,.pick (.t 27) (.c (.bool true)) (.t 31)⟩,
⟨some 33,none,.mv (.t 32)⟩,
⟨(some 34), (some (33, false)), .fldA 0 (.tf 5)⟩,
⟨(some 35), (some (33, false)), .load false 1 (.tf 34)⟩,
⟨(some 36), (some (33, false)), .bin .lss .no (.t 35) (.c (.int .i64 0))⟩,
⟨some 37,none,.pick (.t 33) (.c (.bool true)) (.t 36)⟩,
⟨some 38,none,.mv (.t 37)⟩,
⟨(some 39), (some (38, false)), .fldA 0 (.tf 5)⟩,
⟨(some 40), (some (38, false)), .load false 1 (.tf 39)⟩,
⟨(some 41), (some (38, false)), .fldA 0 (.tf 3)⟩,
⟨(some 42), (some (38, false)), .load false 1 (.tf 41)⟩,
⟨(some 43), (some (38, false)), .len false (.t 42)⟩,
⟨(some 44), (some (38, false)), .bin .geq .no (.t 40) (.t 43)⟩,
⟨some 45,none,.pick (.t 38) (.c (.bool true)) (.t 44)⟩,
⟨some 46,none,.mv (.t 45)⟩,
⟨(some 47), (some (46, false)), .fldA 1 (.tf 5)⟩,
⟨(some 48), (some (46, false)), .load false 1 (.tf 47)⟩,
⟨(some 49), (some (46, false)), .bin .lss .no (.t 48) (.c (.int .i64 0))⟩,
⟨some 50,none,.pick (.t 46) (.c (.bool true)) (.t 49)⟩,
⟨some 51,none,.mv (.t 50)⟩,
⟨(some 52), (some (51, false)), .fldA 1 (.tf 5)⟩,
⟨(some 53), (some (51, false)), .load false 1 (.tf 52)⟩,
⟨(some 54), (some (51, false)), .fldA 3 (.tf 3)⟩,
⟨(some 55), (some (51, false)), .load false 1 (.tf 54)⟩,
⟨(some 56), (some (51, false)), .bin .geq .no (.t 53) (.t 55)⟩,
⟨some 57,none,.pick (.t 51) (.c (.bool true)) (.t 56)⟩,
⟨some 58,none,.mv (.t 57)⟩,
⟨(some 59), (some (58, false)), .fldA 2 (.tf 5)⟩,
⟨(some 60), (some (58, false)), .load false 1 (.tf 59)⟩,
⟨(some 61), (some (58, false)), .len false (.t 60)⟩,
⟨(some 62), (some (58, false)), .bin .gtr .no (.t 61) (.c (.int .i64 7))⟩,
⟨some 63,none,.pick (.t 58) (.c (.bool true)) (.t 62)⟩,
⟨some 64,none,.mv (.t 63)⟩,
⟨(some 65), (some (64, false)), .fldA 2 (.tf 5)⟩,
⟨(some 66), (some (64, false)), .load false 1 (.tf 65)⟩,
⟨(some 67), (some (64, false)), .call "newel/newelref10.Check" [.t 66]⟩,
⟨(some 68), (some (64, false)), .bin .neq .no (.t 67) (.c (.int .i64 0))⟩,
⟨some 69,none,.pick (.t 64) (.c (.bool true)) (.t 68)⟩]
@[go_sem] def m48 : List XO := [
⟨some 70,none,.call "newel/neweltop.measures" []⟩,
⟨some 6,none,.mv (.t 70)⟩]
@[go_sem] def m5a : List XO := [
⟨some 72,none,.load true 4 (.tf 3)⟩,
⟨some 73,none,.load true 3 (.tf 4)⟩,
⟨some 74,none,.call "newel/halls.Play" [.t 72, .t 73]⟩,
⟨some 71,none,.mv (.t 74)⟩,
⟨some 75,none,.ext (.t 71) 0⟩,
⟨some 76,none,.ext (.t 71) 1⟩,
⟨some 7,none,.mv (.t 75)⟩,
⟨some 8,none,.mv (.t 76)⟩]
@[go_sem] def m5b : List XO := [
⟨some 78,none,.load true 4 (.tf 3)⟩,
⟨some 79,none,.fldA 0 (.tf 5)⟩,
⟨some 80,none,.load false 1 (.tf 79)⟩,
⟨some 81,none,.call "newel/halls.Most" [.t 78, .t 80]⟩,
⟨some 77,none,.mv (.t 81)⟩,
⟨some 82,none,.ext (.t 77) 0⟩,
⟨some 83,none,.ext (.t 77) 1⟩,
⟨some 9,none,.mv (.t 82)⟩,
⟨some 10,none,.mv (.t 83)⟩]
@[go_sem] def m5c : List XO := [
⟨some 84,none,.mv (.t 8)⟩,
⟨some 85,none,.bin .neq .no (.t 84) (.c (.int .i64 0))⟩,
⟨some 86,none,.mv (.t 85)⟩,
⟨(some 87), (some (86, false)), .mv (.t 10)⟩,
⟨(some 88), (some (86, false)), .bin .neq .no (.t 87) (.c (.int .i64 0))⟩,
⟨some 89,none,.pick (.t 86) (.c (.bool true)) (.t 88)⟩,
⟨some 90,none,.mv (.t 89)⟩,
⟨(some 91), (some (90, false)), .mv (.t 7)⟩,
⟨(some 92), (some (90, false)), .len false (.t 91)⟩,
⟨(some 93), (some (90, false)), .fldA 3 (.tf 3)⟩,
⟨(some 94), (some (90, false)), .load false 1 (.tf 93)⟩,
⟨(some 95), (some (90, false)), .bin .neq .no (.t 92) (.t 94)⟩,
⟨some 96,none,.pick (.t 90) (.c (.bool true)) (.t 95)⟩,
⟨some 97,none,.mv (.t 96)⟩,
⟨(some 98), (some (97, false)), .mv (.t 9)⟩,
⟨(some 99), (some (97, false)), .len false (.t 98)⟩,
⟨(some 100), (some (97, false)), .fldA 3 (.tf 3)⟩,
⟨(some 101), (some (97, false)), .load false 1 (.tf 100)⟩,
⟨(some 102), (some (97, false)), .bin .neq .no (.t 99) (.t 101)⟩,
⟨some 103,none,.pick (.t 97) (.c (.bool true)) (.t 102)⟩,
⟨some 104,none,.mv (.t 103)⟩,
⟨(some 105), (some (104, false)), .mv (.t 7)⟩,
⟨(some 106), (some (104, false)), .fldA 1 (.tf 5)⟩,
⟨(some 107), (some (104, false)), .load false 1 (.tf 106)⟩,
⟨(some 108), (some (104, false)), .ixA 1 (.t 105) (.t 107)⟩,
⟨(some 109), (some (104, false)), .load false 1 (.t 108)⟩,
⟨(some 110), (some (104, false)), .len false (.t 109)⟩,
⟨(some 111), (some (104, false)), .fldA 0 (.tf 3)⟩,
⟨(some 112), (some (104, false)), .load false 1 (.tf 111)⟩,
⟨(some 113), (some (104, false)), .len false (.t 112)⟩,
⟨(some 114), (some (104, false)), .bin .neq .no (.t 110) (.t 113)⟩,
⟨some 115,none,.pick (.t 104) (.c (.bool true)) (.t 114)⟩]
@[go_sem] def m5d : List XO := [
⟨some 6,none,.mv (.c (.bool false))⟩]
@[go_sem] def m5e : List XO := [
⟨some 116,none,.mv (.t 7)⟩,
⟨some 117,none,.fldA 1 (.tf 5)⟩,
⟨some 118,none,.load false 1 (.tf 117)⟩,
⟨some 119,none,.ixA 1 (.t 116) (.t 118)⟩,
⟨some 120,none,.load false 1 (.t 119)⟩,
⟨some 121,none,.fldA 0 (.tf 5)⟩,
⟨some 122,none,.load false 1 (.tf 121)⟩,
⟨some 123,none,.ixA 1 (.t 120) (.t 122)⟩,
⟨some 124,none,.load false 1 (.t 123)⟩,
⟨some 125,none,.mv (.t 9)⟩,
⟨some 126,none,.fldA 1 (.tf 5)⟩,
⟨some 127,none,.load false 1 (.tf 126)⟩,
⟨some 128,none,.ixA 1 (.t 125) (.t 127)⟩,
⟨some 129,none,.load false 1 (.t 128)⟩,
⟨some 11,none,.mv (.t 124)⟩,
⟨some 12,none,.mv (.t 129)⟩]
@[go_sem] def m5f : List XO := [
⟨some 130,none,.mv (.t 11)⟩,
⟨some 131,none,.mv (.t 12)⟩,
⟨some 132,none,.bin .gtr .no (.t 130) (.t 131)⟩]
@[go_sem] def m5g : List XO := [
⟨some 6,none,.mv (.c (.bool false))⟩]
@[go_sem] def m4y : List XO := [
⟨some 133,none,.mv (.t 12)⟩,
⟨some 134,none,.bin .gtr .no (.t 133) (.c (.int .i64 1000))⟩]
@[go_sem] def m4z : List XO := [
⟨some 135,none,.call "newel/neweltop.measures" []⟩,
⟨some 6,none,.mv (.t 135)⟩]
@[go_sem] def m40 : List XO := [
⟨some 136,none,.bsl 4 []⟩,
⟨some 137,none,.fldA 2 (.tf 5)⟩,
⟨some 138,none,.load false 1 (.tf 137)⟩,
⟨some 139,none,.app 4 32 (.t 136) (.t 138)⟩,
⟨some 140,none,.mv (.t 12)⟩,
⟨some 141,none,.mv (.t 12)⟩,
⟨some 142,none,.build [(.int .i64 0), (.int .i64 0), (.int .i64 0), (.int .i64 0)] [(0, 1, (.t 140)), (1, 1, (.t 141))]⟩,
⟨some 143,none,.bsl 4 [.t 142]⟩,
⟨some 144,none,.app 4 32 (.t 139) (.t 143)⟩,
⟨some 13,none,.mv (.t 144)⟩]
@[go_sem] def m41 : List XO := [
⟨some 145,none,.mv (.t 13)⟩,
⟨some 146,none,.mv (.t 11)⟩,
⟨some 147,none,.call "newel/neweltop.allow" [.t 145, .t 146]⟩]
@[go_sem] def m42 : List XO := [
⟨some 149,none,.mv (.t 13)⟩,
⟨some 150,none,.call "newel/faults.Truth" [.t 149]⟩,
⟨some 148,none,.mv (.t 150)⟩,
⟨some 151,none,.ext (.t 148) 0⟩,
⟨some 152,none,.ext (.t 148) 1⟩,
⟨some 14,none,.alloc [(.int .i64 0), (.int .i64 0)]⟩,
⟨none, none, .store 2 (.t 14) (.t 151)⟩,
⟨some 15,none,.mv (.t 152)⟩]
@[go_sem] def m43 : List XO := [
⟨some 154,none,.mv (.t 13)⟩,
⟨some 155,none,.call "newel/faults.Liars" [.t 154]⟩,
⟨some 153,none,.mv (.t 155)⟩,
⟨some 156,none,.ext (.t 153) 0⟩,
⟨some 157,none,.ext (.t 153) 1⟩,
⟨some 16,none,.mv (.t 156)⟩,
⟨some 17,none,.mv (.t 157)⟩]
@[go_sem] def m44 : List XO := [
⟨some 158,none,.mv (.t 15)⟩,
⟨some 159,none,.bin .eql .no (.t 158) (.c (.int .i64 0))⟩,
⟨some 160,none,.mv (.t 159)⟩,
⟨(some 161), (some (160, true)), .mv (.t 17)⟩,
⟨(some 162), (some (160, true)), .bin .eql .no (.t 161) (.c (.int .i64 0))⟩,
⟨some 163,none,.pick (.t 160) (.t 162) (.c (.bool false))⟩,
⟨some 164,none,.mv (.t 163)⟩,
⟨(some 165), (some (164, true)), .fldA 0 (.t 14)⟩,
⟨(some 166), (some (164, true)), .load false 1 (.t 165)⟩,
⟨(some 167), (some (164, true)), .mv (.t 11)⟩,
⟨(some 168), (some (164, true)), .bin .leq .no (.t 166) (.t 167)⟩,
⟨some 169,none,.pick (.t 164) (.t 168) (.c (.bool false))⟩,
⟨some 170,none,.mv (.t 169)⟩,
⟨(some 171), (some (170, true)), .mv (.t 11)⟩,
⟨(some 172), (some (170, true)), .fldA 1 (.t 14)⟩,
⟨(some 173), (some (170, true)), .load false 1 (.t 172)⟩,
⟨(some 174), (some (170, true)), .bin .leq .no (.t 171) (.t 173)⟩,
⟨some 175,none,.pick (.t 170) (.t 174) (.c (.bool false))⟩,
⟨some 176,none,.mv (.t 175)⟩,
⟨(some 177), (some (176, true)), .fldA 0 (.t 14)⟩,
⟨(some 178), (some (176, true)), .load false 1 (.t 177)⟩,
⟨(some 179), (some (176, true)), .mv (.t 12)⟩,
⟨(some 180), (some (176, true)), .bin .leq .no (.t 178) (.t 179)⟩,
⟨some 181,none,.pick (.t 176) (.t 180) (.c (.bool false))⟩,
⟨some 182,none,.mv (.t 181)⟩,
⟨(some 183), (some (182, true)), .mv (.t 16)⟩,
⟨(some 184), (some (182, true)), .len false (.t 183)⟩,
⟨(some 185), (some (182, true)), .bin .eql .no (.t 184) (.c (.int .i64 0))⟩,
⟨some 186,none,.pick (.t 182) (.t 185) (.c (.bool false))⟩,
⟨some 187,none,.mv (.t 186)⟩,
⟨(some 188), (some (187, true)), .call "newel/neweltop.measures" []⟩,
⟨some 189,none,.pick (.t 187) (.t 188) (.c (.bool false))⟩,
⟨some 6,none,.mv (.t 189)⟩]
@[go_sem] def m45 : List XO := [
⟨some 191,none,.fldA 2 (.tf 5)⟩,
⟨some 192,none,.load false 1 (.tf 191)⟩,
⟨some 193,none,.call "newel/faults.Truth" [.t 192]⟩,
⟨some 190,none,.mv (.t 193)⟩,
⟨some 194,none,.ext (.t 190) 0⟩,
⟨some 195,none,.ext (.t 190) 1⟩,
⟨some 18,none,.alloc [(.int .i64 0), (.int .i64 0)]⟩,
⟨none, none, .store 2 (.t 18) (.t 194)⟩,
⟨some 19,none,.mv (.t 195)⟩]
@[go_sem] def m46 : List XO := [
⟨some 196,none,.mv (.t 19)⟩,
⟨some 197,none,.bin .eql .no (.t 196) (.c (.int .i64 0))⟩,
⟨some 198,none,.mv (.t 197)⟩,
⟨(some 199), (some (198, true)), .fldA 0 (.t 18)⟩,
⟨(some 200), (some (198, true)), .load false 1 (.t 199)⟩,
⟨(some 201), (some (198, true)), .mv (.t 12)⟩,
⟨(some 202), (some (198, true)), .bin .gtr .no (.t 200) (.t 201)⟩,
⟨some 203,none,.pick (.t 198) (.t 202) (.c (.bool false))⟩,
⟨some 204,none,.mv (.t 203)⟩,
⟨(some 205), (some (204, true)), .fldA 2 (.tf 5)⟩,
⟨(some 206), (some (204, true)), .load false 1 (.tf 205)⟩,
⟨(some 207), (some (204, true)), .mv (.t 11)⟩,
⟨(some 208), (some (204, true)), .call "newel/neweltop.allow" [.t 206, .t 207]⟩,
⟨some 209,none,.pick (.t 204) (.t 208) (.c (.bool false))⟩]
@[go_sem] def m47 : List XO := [
⟨some 6,none,.mv (.c (.bool false))⟩]
@[go_sem] def m49 : List XO := [
⟨some 210,none,.call "newel/neweltop.measures" []⟩,
⟨some 6,none,.mv (.t 210)⟩]
def x_neweltop_TopCounted : XFunc := { np := 3, res := [.t 6], body :=
  (.seq (.reg m4w) (.seq (.seq (.reg m4x) (.cond (.t 69) (.seq (.reg m48) .ret) .skip)) (.seq (.reg m5a) (.seq (.reg m5b) (.seq (.seq (.reg m5c) (.cond (.t 115) (.seq (.reg m5d) .ret) .skip)) (.seq (.reg m5e) (.seq (.seq (.reg m5f) (.cond (.t 132) (.seq (.reg m5g) .ret) .skip)) (.seq (.seq (.reg m4y) (.cond (.t 134) (.seq (.reg m4z) .ret) .skip)) (.seq (.reg m40) (.seq (.seq (.reg m41) (.cond (.t 147) (.seq (.seq .ghost (.reg m42)) (.seq (.reg m43) (.seq (.reg m44) .ret))) .skip)) (.seq (.reg m45) (.seq (.seq (.reg m46) (.cond (.t 209) (.seq (.reg m47) .ret) .skip)) (.seq (.reg m49) .ret))))))))))))) }
@[go_sem] def m5r : List XO := [
⟨some 0,none,.mv (.c (.bool false))⟩]
@[go_sem] def m5s : List XO := [
⟨some 9,none,.build [(.int .i64 0), (.int .i64 0)] [(1, 1, (.c (.int .i64 500)))]⟩,
⟨some 10,none,.build [(.int .i64 0), (.int .i64 0), (.int .i64 0), (.int .i64 0)] [(0, 1, (.c (.int .i64 60))), (1, 2, (.t 9))]⟩,
⟨some 1,none,.alloc [(.int .i64 0), (.int .i64 0), (.int .i64 0), (.int .i64 0)]⟩,
⟨none, none, .store 4 (.t 1) (.t 10)⟩]
@[go_sem] def m5t : List XO := [
⟨some 12,none,.call "newel/newellaw01.Example" []⟩,
⟨some 13,none,.load true 4 (.t 1)⟩,
⟨some 14,none,.call "newel/drive.Distance" [.t 12, .t 13]⟩,
⟨some 11,none,.mv (.t 14)⟩,
⟨some 15,none,.ext (.t 11) 0⟩,
⟨some 16,none,.ext (.t 11) 1⟩,
⟨some 17,none,.ext (.t 11) 2⟩,
⟨some 2,none,.alloc [(.int .i64 0), (.int .i64 0)]⟩,
⟨some 3,none,.alloc [(.int .i64 0), (.int .i64 0)]⟩,
⟨none, none, .store 2 (.t 2) (.t 15)⟩,
⟨none, none, .store 2 (.t 3) (.t 16)⟩,
⟨some 4,none,.mv (.t 17)⟩]
@[go_sem] def m5u : List XO := [
⟨some 19,none,.call "newel/newellaw03.Example" []⟩,
⟨some 18,none,.mv (.t 19)⟩,
⟨some 20,none,.ext (.t 18) 0⟩,
⟨some 21,none,.ext (.t 18) 1⟩,
⟨some 5,none,.alloc [(.int .i64 0), (.slice none 0 0), (.slice none 0 0)]⟩,
⟨none, none, .store 3 (.t 5) (.t 20)⟩,
⟨some 6,none,.mv (.t 21)⟩]
@[go_sem] def m5v : List XO := [
⟨some 23,none,.load true 3 (.t 5)⟩,
⟨some 24,none,.call "newel/circuit.Pairs" [.t 23]⟩,
⟨some 22,none,.mv (.t 24)⟩,
⟨some 25,none,.ext (.t 22) 0⟩,
⟨some 26,none,.ext (.t 22) 1⟩,
⟨some 7,none,.mv (.t 25)⟩,
⟨some 8,none,.mv (.t 26)⟩]
@[go_sem] def m5w : List XO := [
⟨some 27,none,.mv (.t 4)⟩,
⟨some 28,none,.bin .eql .no (.t 27) (.c (.int .i64 0))⟩,
⟨some 29,none,.mv (.t 28)⟩,
⟨(some 30), (some (29, true)), .mv (.t 8)⟩,
⟨(some 31), (some (29, true)), .bin .eql .no (.t 30) (.c (.int .i64 0))⟩,
⟨some 32,none,.pick (.t 29) (.t 31) (.c (.bool false))⟩,
⟨some 33,none,.mv (.t 32)⟩,
⟨(some 34), (some (33, true)), .load true 2 (.t 2)⟩,
⟨(some 35), (some (33, true)), .build [(.int .i64 0), (.int .i64 0)] [(0, 1, (.c (.int .i64 108))), (1, 1, (.c (.int .i64 135)))]⟩,
⟨(some 36), (some (33, true)), .bin .eql (.flat [.i, .i]) (.t 34) (.t 35)⟩,
⟨some 37,none,.pick (.t 33) (.t 36) (.c (.bool false))⟩,
⟨some 38,none,.mv (.t 37)⟩,
⟨(some 39), (some (38, true)), .mv (.t 7)⟩,
⟨(some 40), (some (38, true)), .len false (.t 39)⟩,
⟨(some 41), (some (38, true)), .bin .eql .no (.t 40) (.c (.int .i64 2))⟩,
⟨some 42,none,.pick (.t 38) (.t 41) (.c (.bool false))⟩,
⟨some 0,none,.mv (.t 42)⟩]
def x_neweltop_measures : XFunc := { np := 0, res := [.t 0], body :=
  (.seq (.reg m5r) (.seq (.reg m5s) (.seq (.reg m5t) (.seq (.reg m5u) (.seq (.reg m5v) (.seq (.reg m5w) .ret)))))) }
@[go_sem] def m5h : List XO := [
⟨some 4,none,.mv (.c (.bool false))⟩]
@[go_sem] def m5i : List XO := [
⟨some 7,none,.mv (.t 0)⟩,
⟨some 8,none,.len false (.t 7)⟩,
⟨some 9,none,.bin .eql .no (.t 8) (.c (.int .i64 0))⟩,
⟨some 10,none,.mv (.t 9)⟩,
⟨(some 11), (some (10, false)), .mv (.t 0)⟩,
⟨(some 12), (some (10, false)), .len false (.t 11)⟩,
⟨(some 13), (some (10, false)), .bin .gtr .no (.t 12) (.c (.int .i64 8))⟩,
⟨some 14,none,.pick (.t 10) (.c (.bool true)) (.t 13)⟩,
⟨some 15,none,.mv (.t 14)⟩,
⟨(some 16), (some (15, false)), .mv (.t 0)⟩,
⟨(some 17), (some (15, false)), .call "newel/newelref10.Check" [.t 16]⟩,
⟨(some 18), (some (15, false)), .bin .neq .no (.t 17) (.c (.int .i64 0))⟩,
⟨some 19,none,.pick (.t 15) (.c (.bool true)) (.t 18)⟩]
@[go_sem] def m5k : List XO := [
⟨some 4,none,.mv (.c (.bool false))⟩]
@[go_sem] def m5l : List XO := [
⟨some 5,none,.mv (.c (.int .i64 0))⟩]
@[go_sem] def m5m : List XO := [
⟨some 20,none,.mv (.t 5)⟩,
⟨some 21,none,.mv (.t 0)⟩,
⟨some 22,none,.len false (.t 21)⟩,
⟨some 23,none,.bin .lss .no (.t 20) (.t 22)⟩]
@[go_sem] def m5n : List XO := [
⟨some 26,none,.mv (.t 0)⟩,
⟨some 27,none,.mv (.t 5)⟩,
⟨some 28,none,.ixA 4 (.t 26) (.t 27)⟩,
⟨some 29,none,.load true 4 (.t 28)⟩,
⟨some 30,none,.call "newel/newelref10.Allows" [.t 29]⟩,
⟨some 6,none,.alloc [(.int .i64 0), (.int .i64 0)]⟩,
⟨none, none, .store 2 (.t 6) (.t 30)⟩]
@[go_sem] def m5o : List XO := [
⟨some 31,none,.mv (.t 1)⟩,
⟨some 32,none,.fldA 0 (.t 6)⟩,
⟨some 33,none,.load false 1 (.t 32)⟩,
⟨some 34,none,.bin .lss .no (.t 31) (.t 33)⟩,
⟨some 35,none,.mv (.t 34)⟩,
⟨(some 36), (some (35, false)), .mv (.t 1)⟩,
⟨(some 37), (some (35, false)), .fldA 1 (.t 6)⟩,
⟨(some 38), (some (35, false)), .load false 1 (.t 37)⟩,
⟨(some 39), (some (35, false)), .bin .gtr .no (.t 36) (.t 38)⟩,
⟨some 40,none,.pick (.t 35) (.c (.bool true)) (.t 39)⟩]
@[go_sem] def m5p : List XO := [
⟨some 4,none,.mv (.c (.bool false))⟩]
@[go_sem] def m5q : List XO := [
⟨some 24,none,.mv (.t 5)⟩,
⟨some 25,none,.bin .add .no (.t 24) (.c (.int .i64 1))⟩,
⟨some 5,none,.mv (.t 25)⟩]
def g0o : XCode :=
  (.seq (.seq (.reg m5m) (.cond (.t 23) .skip (.exit 0))) (.seq (.block 1 (.seq (.reg m5n) (.seq (.reg m5o) (.cond (.t 40) (.seq (.reg m5p) .ret) .skip)))) (.reg m5q)))
@[go_sem] def m5j : List XO := [
⟨some 4,none,.mv (.c (.bool true))⟩]
def x_neweltop_allow : XFunc := { np := 2, res := [.t 4], body :=
  (.seq (.reg m5h) (.seq (.seq (.reg m5i) (.cond (.t 19) (.seq (.reg m5k) .ret) .skip)) (.seq (.seq (.reg m5l) (.block 0 (.loop g0o))) (.seq (.reg m5j) .ret)))) }
@[go_sem] def l7l : List XO := [
⟨some 2,none,.alloc [(.int .i64 0), (.int .i64 0)]⟩,
⟨some 3,none,.mv (.c (.int .i64 0))⟩]
@[go_sem] def l7m : List XO := [
⟨some 7,none,.mv (.t 0)⟩,
⟨some 8,none,.call "newel/faults.readings" [.t 7]⟩,
⟨some 4,none,.mv (.t 8)⟩]
@[go_sem] def l7n : List XO := [
⟨some 9,none,.mv (.t 4)⟩,
⟨some 10,none,.bin .neq .no (.t 9) (.c (.int .i64 0))⟩]
@[go_sem] def l7o : List XO := [
⟨some 11,none,.build [(.int .i64 0), (.int .i64 0)] []⟩,
⟨some 12,none,.mv (.t 4)⟩,
⟨none, none, .store 2 (.t 2) (.t 11)⟩,
⟨some 3,none,.mv (.t 12)⟩]
@[go_sem] def l7p : List XO := [
⟨some 14,none,.mv (.t 0)⟩,
⟨some 15,none,.call "newel/faults.common" [.t 14, (.c (.int .i64 0))]⟩,
⟨some 13,none,.mv (.t 15)⟩,
⟨some 16,none,.ext (.t 13) 0⟩,
⟨some 17,none,.ext (.t 13) 1⟩,
⟨some 5,none,.alloc [(.int .i64 0), (.int .i64 0)]⟩,
⟨none, none, .store 2 (.t 5) (.t 16)⟩,
⟨some 6,none,.mv (.t 17)⟩]
@[go_sem] def l7q : List XO := [
⟨some 18,none,.mv (.t 0)⟩,
⟨some 19,none,.len false (.t 18)⟩,
⟨some 20,none,.bin .eql .no (.t 19) (.c (.int .i64 0))⟩,
⟨some 21,none,.mv (.t 20)⟩,
⟨(some 22), (some (21, false)), .mv (.t 6)⟩,
⟨(some 23), (some (21, false)), .un .not (.t 22)⟩,
⟨some 24,none,.pick (.t 21) (.c (.bool true)) (.t 23)⟩]
@[go_sem] def l7r : List XO := [
⟨some 25,none,.build [(.int .i64 0), (.int .i64 0)] []⟩,
⟨none, none, .store 2 (.t 2) (.t 25)⟩,
⟨some 3,none,.mv (.c (.int .i64 3))⟩]
@[go_sem] def l7s : List XO := [
⟨some 26,none,.load true 2 (.t 5)⟩,
⟨none, none, .store 2 (.t 2) (.t 26)⟩,
⟨some 3,none,.mv (.c (.int .i64 0))⟩]
def x_faults_Truth : XFunc := { np := 1, res := [.cell 2 true 2, .t 3], body :=
  (.seq (.reg l7l) (.seq (.seq (.reg l7m) (.seq (.reg l7n) (.cond (.t 10) (.seq (.reg l7o) .ret) .skip))) (.seq (.reg l7p) (.seq (.seq (.reg l7q) (.cond (.t 24) (.seq (.reg l7r) .ret) .skip)) (.seq (.reg l7s) .ret))))) }
@[go_sem] def l68 : List XO := [
⟨some 2,none,.mv (.c (.slice none 0 0))⟩,
⟨some 3,none,.mv (.c (.int .i64 0))⟩]
@[go_sem] def l69 : List XO := [
⟨some 9,none,.mv (.t 0)⟩,
⟨some 10,none,.call "newel/faults.readings" [.t 9]⟩,
⟨some 4,none,.mv (.t 10)⟩]
@[go_sem] def l7d : List XO := [
⟨some 11,none,.mv (.t 4)⟩,
⟨some 12,none,.bin .neq .no (.t 11) (.c (.int .i64 0))⟩]
@[go_sem] def l7e : List XO := [
⟨some 13,none,.mv (.t 4)⟩,
⟨some 2,none,.mv (.c (.slice none 0 0))⟩,
⟨some 3,none,.mv (.t 13)⟩]
@[go_sem] def l7f : List XO := [
⟨some 14,none,.mv (.t 0)⟩,
⟨some 15,none,.len false (.t 14)⟩,
⟨some 16,none,.bin .shl .no (.c (.int .i64 1)) (.t 15)⟩,
⟨some 17,none,.bin .sub .no (.t 16) (.c (.int .i64 1))⟩,
⟨some 5,none,.mv (.t 17)⟩]
@[go_sem] def l7g : List XO := [
⟨some 18,none,.mv (.t 5)⟩,
⟨some 19,none,.mv (.c (.int .i64 0))⟩]
@[go_sem] def l7h : List XO := [
⟨some 20,none,.bin .lss .no (.t 19) (.t 18)⟩]
@[go_sem] def l7i : List XO := [
⟨some 21,none,.mv (.t 19)⟩,
⟨some 6,none,.mv (.t 21)⟩]
@[go_sem] def l7j : List XO := [
⟨some 23,none,.mv (.t 0)⟩,
⟨some 24,none,.mv (.t 6)⟩,
⟨some 25,none,.call "newel/faults.common" [.t 23, .t 24]⟩,
⟨some 22,none,.mv (.t 25)⟩,
⟨some 26,none,.ext (.t 22) 0⟩,
⟨some 27,none,.ext (.t 22) 1⟩,
⟨some 7,none,.alloc [(.int .i64 0), (.int .i64 0)]⟩,
⟨none, none, .store 2 (.t 7) (.t 26)⟩,
⟨some 8,none,.mv (.t 27)⟩]
@[go_sem] def l7k : List XO := [
⟨some 28,none,.mv (.t 8)⟩,
⟨some 29,none,.mv (.t 28)⟩,
⟨(some 30), (some (29, true)), .mv (.t 6)⟩,
⟨(some 31), (some (29, true)), .mv (.t 5)⟩,
⟨(some 32), (some (29, true)), .call "newel/faults.fewer" [.t 30, .t 31]⟩,
⟨some 33,none,.pick (.t 29) (.t 32) (.c (.bool false))⟩]
@[go_sem] def l7a : List XO := [
⟨some 34,none,.mv (.t 6)⟩,
⟨some 5,none,.mv (.t 34)⟩]
@[go_sem] def l7b : List XO := [
⟨some 35,none,.bin .add .no (.t 19) (.c (.int .i64 1))⟩,
⟨some 19,none,.mv (.t 35)⟩]
def d9w : XCode :=
  (.seq (.reg l7h) (.seq (.cond (.t 20) .skip (.exit 0)) (.seq (.block 1 (.seq (.reg l7i) (.seq (.reg l7j) (.seq (.reg l7k) (.cond (.t 33) (.reg l7a) .skip))))) (.reg l7b))))
@[go_sem] def l7c : List XO := [
⟨some 36,none,.mv (.t 5)⟩,
⟨some 37,none,.call "newel/faults.members" [.t 36]⟩,
⟨some 2,none,.mv (.t 37)⟩,
⟨some 3,none,.mv (.c (.int .i64 0))⟩]
def x_faults_Liars : XFunc := { np := 1, res := [.t 2, .t 3], body :=
  (.seq (.reg l68) (.seq (.seq (.reg l69) (.seq (.reg l7d) (.cond (.t 12) (.seq (.reg l7e) .ret) .skip))) (.seq (.reg l7f) (.seq (.seq (.reg l7g) (.block 0 (.loop d9w))) (.seq (.reg l7c) .ret))))) }
@[go_sem] def m35 : List XO := [
⟨some 1,none,.boxF (.t 0)⟩,
⟨some 2,none,.mv (.c (.bool false))⟩]
@[go_sem] def m36 : List XO := [
⟨some 4,none,.fldA 0 (.tf 1)⟩,
⟨some 5,none,.load false 1 (.tf 4)⟩,
⟨some 6,none,.len false (.t 5)⟩,
⟨some 7,none,.bin .gtr .no (.t 6) (.c (.int .i64 12))⟩,
⟨some 8,none,.mv (.t 7)⟩,
⟨(some 9), (some (8, false)), .fldA 1 (.tf 1)⟩,
⟨(some 10), (some (8, false)), .load false 1 (.tf 9)⟩,
⟨(some 11), (some (8, false)), .len false (.t 10)⟩,
⟨(some 12), (some (8, false)), .bin .gtr .no (.t 11) (.c (.int .i64 20))⟩,
⟨some 13,none,.pick (.t 8) (.c (.bool true)) (.t 12)⟩,
⟨some 14,none,.mv (.t 13)⟩,
⟨(some 15), (some (14, false)), .fldA 2 (.tf 1)⟩,
⟨(some 16), (some (14, false)), .load false 1 (.tf 15)⟩,
⟨(some 17), (some (14, false)), .len false (.t 16)⟩,
⟨(some 18), (some (14, false)), .bin .gtr .no (.t 17) (.c (.int .i64 40))⟩,
⟨some 19,none,.pick (.t 14) (.c (.bool true)) (.t 18)⟩,
⟨some 20,none,.mv (.t 19)⟩,
⟨(some 21), (some (20, false)), .fldA 3 (.tf 1)⟩,
⟨(some 22), (some (20, false)), .load false 1 (.tf 21)⟩,
⟨(some 23), (some (20, false)), .bin .gtr .no (.t 22) (.c (.int .i64 40))⟩,
⟨(some 24), (some (20, false)), .mv (.t 23)⟩,
⟨(some 25), (some (24, true)), .fldA 3 (.tf 1)⟩,
⟨(some 26), (some (24, true)), .load false 1 (.tf 25)⟩,
⟨(some 27), (some (24, true)), .bin .leq .no (.t 26) (.c (.int .i64 100))⟩,
⟨(some 28), (some (20, false)), .pick (.t 24) (.t 27) (.c (.bool false))⟩,
⟨some 29,none,.pick (.t 20) (.c (.bool true)) (.t 28)⟩]
@[go_sem] def m37 : List XO := [
⟨some 2,none,.mv (.c (.bool true))⟩]
@[go_sem] def m38 : List XO := [
⟨some 3,none,.mv (.c (.int .i64 0))⟩]
@[go_sem] def m39 : List XO := [
⟨some 30,none,.mv (.t 3)⟩,
⟨some 31,none,.fldA 1 (.tf 1)⟩,
⟨some 32,none,.load false 1 (.tf 31)⟩,
⟨some 33,none,.len false (.t 32)⟩,
⟨some 34,none,.bin .lss .no (.t 30) (.t 33)⟩]
@[go_sem] def m4a : List XO := [
⟨some 37,none,.fldA 1 (.tf 1)⟩,
⟨some 38,none,.load false 1 (.tf 37)⟩,
⟨some 39,none,.mv (.t 3)⟩,
⟨some 40,none,.ixA 3 (.t 38) (.t 39)⟩,
⟨some 41,none,.fldA 2 (.t 40)⟩,
⟨some 42,none,.load false 1 (.t 41)⟩,
⟨some 43,none,.len false (.t 42)⟩,
⟨some 44,none,.bin .gtr .no (.t 43) (.c (.int .i64 10))⟩]
@[go_sem] def m4b : List XO := [
⟨some 2,none,.mv (.c (.bool true))⟩]
@[go_sem] def m4c : List XO := [
⟨some 35,none,.mv (.t 3)⟩,
⟨some 36,none,.bin .add .no (.t 35) (.c (.int .i64 1))⟩,
⟨some 3,none,.mv (.t 36)⟩]
def g0n : XCode :=
  (.seq (.seq (.reg m39) (.cond (.t 34) .skip (.exit 0))) (.seq (.block 1 (.seq (.reg m4a) (.cond (.t 44) (.seq (.reg m4b) .ret) .skip))) (.reg m4c)))
@[go_sem] def m4d : List XO := [
⟨some 2,none,.mv (.c (.bool false))⟩]
def x_l06_Far : XFunc := { np := 1, res := [.t 2], body :=
  (.seq (.reg m35) (.seq (.seq (.reg m36) (.cond (.t 29) (.seq (.reg m37) .ret) .skip)) (.seq (.seq (.reg m38) (.block 0 (.loop g0n))) (.seq (.reg m4d) .ret)))) }
@[go_sem] def m5x : List XO := [
⟨some 1,none,.boxF (.t 0)⟩,
⟨some 2,none,.mv (.c (.int .i64 0))⟩]
@[go_sem] def m5y : List XO := [
⟨some 12,none,.fldA 3 (.tf 1)⟩,
⟨some 13,none,.load false 1 (.tf 12)⟩,
⟨some 14,none,.call "newel/newelref06.within" [.t 13, (.c (.int .i64 1)), (.c (.int .i64 100))]⟩,
⟨some 15,none,.un .not (.t 14)⟩,
⟨some 16,none,.mv (.t 15)⟩,
⟨(some 17), (some (16, false)), .fldA 0 (.tf 1)⟩,
⟨(some 18), (some (16, false)), .load false 1 (.tf 17)⟩,
⟨(some 19), (some (16, false)), .len false (.t 18)⟩,
⟨(some 20), (some (16, false)), .call "newel/newelref06.within" [.t 19, (.c (.int .i64 1)), (.c (.int .i64 8))]⟩,
⟨(some 21), (some (16, false)), .un .not (.t 20)⟩,
⟨some 22,none,.pick (.t 16) (.c (.bool true)) (.t 21)⟩,
⟨some 23,none,.mv (.t 22)⟩,
⟨(some 24), (some (23, false)), .fldA 1 (.tf 1)⟩,
⟨(some 25), (some (23, false)), .load false 1 (.tf 24)⟩,
⟨(some 26), (some (23, false)), .len false (.t 25)⟩,
⟨(some 27), (some (23, false)), .bin .gtr .no (.t 26) (.c (.int .i64 12))⟩,
⟨some 28,none,.pick (.t 23) (.c (.bool true)) (.t 27)⟩,
⟨some 29,none,.mv (.t 28)⟩,
⟨(some 30), (some (29, false)), .fldA 2 (.tf 1)⟩,
⟨(some 31), (some (29, false)), .load false 1 (.tf 30)⟩,
⟨(some 32), (some (29, false)), .len false (.t 31)⟩,
⟨(some 33), (some (29, false)), .bin .gtr .no (.t 32) (.c (.int .i64 20))⟩,
⟨some 34,none,.pick (.t 29) (.c (.bool true)) (.t 33)⟩]
@[go_sem] def m58 : List XO := [
⟨some 2,none,.mv (.c (.int .i64 60))⟩]
@[go_sem] def m6h : List XO := [
⟨some 35,none,.fldA 0 (.tf 1)⟩,
⟨some 36,none,.load false 1 (.tf 35)⟩,
⟨some 37,none,.len false (.t 36)⟩,
⟨some 3,none,.mv (.t 37)⟩]
@[go_sem] def m6l : List XO := [
⟨some 4,none,.mv (.c (.int .i64 0))⟩]
@[go_sem] def m6m : List XO := [
⟨some 38,none,.mv (.t 4)⟩,
⟨some 39,none,.mv (.t 3)⟩,
⟨some 40,none,.bin .lss .no (.t 38) (.t 39)⟩]
@[go_sem] def m6n : List XO := [
⟨some 43,none,.fldA 0 (.tf 1)⟩,
⟨some 44,none,.load false 1 (.tf 43)⟩,
⟨some 45,none,.mv (.t 4)⟩,
⟨some 46,none,.ixA 5 (.t 44) (.t 45)⟩,
⟨some 47,none,.load true 5 (.t 46)⟩,
⟨some 5,none,.alloc [(.int .i64 0), (.int .i64 0), (.int .i64 0), (.int .i64 0), (.int .i64 0)]⟩,
⟨none, none, .store 5 (.t 5) (.t 47)⟩]
@[go_sem] def m6o : List XO := [
⟨some 48,none,.fldA 0 (.t 5)⟩,
⟨some 49,none,.load false 1 (.t 48)⟩,
⟨some 50,none,.call "newel/newelref06.within" [.t 49, (.c (.int .i64 0)), (.c (.int .i64 1000))]⟩,
⟨some 51,none,.un .not (.t 50)⟩,
⟨some 52,none,.mv (.t 51)⟩,
⟨(some 53), (some (52, false)), .fldA 1 (.t 5)⟩,
⟨(some 54), (some (52, false)), .load false 1 (.t 53)⟩,
⟨(some 55), (some (52, false)), .call "newel/newelref06.within" [.t 54, (.c (.int .i64 0)), (.c (.int .i64 100000))]⟩,
⟨(some 56), (some (52, false)), .un .not (.t 55)⟩,
⟨some 57,none,.pick (.t 52) (.c (.bool true)) (.t 56)⟩,
⟨some 58,none,.mv (.t 57)⟩,
⟨(some 59), (some (58, false)), .fldA 2 (.t 5)⟩,
⟨(some 60), (some (58, false)), .load false 1 (.t 59)⟩,
⟨(some 61), (some (58, false)), .bin .neq .no (.t 60) (.c (.int .i64 (-1)))⟩,
⟨(some 62), (some (58, false)), .mv (.t 61)⟩,
⟨(some 63), (some (62, true)), .fldA 2 (.t 5)⟩,
⟨(some 64), (some (62, true)), .load false 1 (.t 63)⟩,
⟨(some 65), (some (62, true)), .mv (.t 4)⟩,
⟨(some 66), (some (62, true)), .bin .add .no (.t 65) (.c (.int .i64 1))⟩,
⟨(some 67), (some (62, true)), .mv (.t 3)⟩,
⟨(some 68), (some (62, true)), .bin .sub .no (.t 67) (.c (.int .i64 1))⟩,
⟨(some 69), (some (62, true)), .call "newel/newelref06.within" [.t 64, .t 66, .t 68]⟩,
⟨(some 70), (some (62, true)), .un .not (.t 69)⟩,
⟨(some 71), (some (58, false)), .pick (.t 62) (.t 70) (.c (.bool false))⟩,
⟨some 72,none,.pick (.t 58) (.c (.bool true)) (.t 71)⟩,
⟨some 73,none,.mv (.t 72)⟩,
⟨(some 74), (some (73, false)), .fldA 3 (.t 5)⟩,
⟨(some 75), (some (73, false)), .load true 2 (.t 74)⟩,
⟨(some 76), (some (73, false)), .call "newel/newelref06.spanned" [.t 75, (.c (.int .i64 1)), (.c (.int .i64 20))]⟩,
⟨(some 77), (some (73, false)), .un .not (.t 76)⟩,
⟨some 78,none,.pick (.t 73) (.c (.bool true)) (.t 77)⟩]
@[go_sem] def m6p : List XO := [
⟨some 2,none,.mv (.c (.int .i64 60))⟩]
@[go_sem] def m6q : List XO := [
⟨some 41,none,.mv (.t 4)⟩,
⟨some 42,none,.bin .add .no (.t 41) (.c (.int .i64 1))⟩,
⟨some 4,none,.mv (.t 42)⟩]
def g0p : XCode :=
  (.seq (.seq (.reg m6m) (.cond (.t 40) .skip (.exit 0))) (.seq (.block 1 (.seq (.reg m6n) (.seq (.reg m6o) (.cond (.t 78) (.seq (.reg m6p) .ret) .skip)))) (.reg m6q)))
@[go_sem] def m5z : List XO := [
⟨some 6,none,.mv (.c (.int .i64 0))⟩]
@[go_sem] def m50 : List XO := [
⟨some 79,none,.mv (.t 6)⟩,
⟨some 80,none,.fldA 1 (.tf 1)⟩,
⟨some 81,none,.load false 1 (.tf 80)⟩,
⟨some 82,none,.len false (.t 81)⟩,
⟨some 83,none,.bin .lss .no (.t 79) (.t 82)⟩]
@[go_sem] def m51 : List XO := [
⟨some 86,none,.fldA 1 (.tf 1)⟩,
⟨some 87,none,.load false 1 (.tf 86)⟩,
⟨some 88,none,.mv (.t 6)⟩,
⟨some 89,none,.ixA 3 (.t 87) (.t 88)⟩,
⟨some 90,none,.load true 3 (.t 89)⟩,
⟨some 7,none,.alloc [(.int .i64 0), (.int .i64 0), (.slice none 0 0)]⟩,
⟨none, none, .store 3 (.t 7) (.t 90)⟩]
@[go_sem] def m52 : List XO := [
⟨some 91,none,.fldA 0 (.t 7)⟩,
⟨some 92,none,.load true 2 (.t 91)⟩,
⟨some 93,none,.fldA 3 (.tf 1)⟩,
⟨some 94,none,.load false 1 (.tf 93)⟩,
⟨some 95,none,.bin .sub .no (.t 94) (.c (.int .i64 1))⟩,
⟨some 96,none,.call "newel/newelref06.spanned" [.t 92, (.c (.int .i64 0)), .t 95]⟩,
⟨some 97,none,.un .not (.t 96)⟩,
⟨some 98,none,.mv (.t 97)⟩,
⟨(some 99), (some (98, false)), .fldA 2 (.t 7)⟩,
⟨(some 100), (some (98, false)), .load false 1 (.t 99)⟩,
⟨(some 101), (some (98, false)), .len false (.t 100)⟩,
⟨(some 102), (some (98, false)), .bin .gtr .no (.t 101) (.c (.int .i64 4))⟩,
⟨some 103,none,.pick (.t 98) (.c (.bool true)) (.t 102)⟩]
@[go_sem] def m53 : List XO := [
⟨some 2,none,.mv (.c (.int .i64 60))⟩]
@[go_sem] def m54 : List XO := [
⟨some 8,none,.mv (.c (.int .i64 (-1)))⟩]
@[go_sem] def m55 : List XO := [
⟨some 9,none,.mv (.c (.int .i64 0))⟩]
@[go_sem] def m56 : List XO := [
⟨some 104,none,.mv (.t 9)⟩,
⟨some 105,none,.fldA 2 (.t 7)⟩,
⟨some 106,none,.load false 1 (.t 105)⟩,
⟨some 107,none,.len false (.t 106)⟩,
⟨some 108,none,.bin .lss .no (.t 104) (.t 107)⟩]
@[go_sem] def m57 : List XO := [
⟨some 111,none,.fldA 2 (.t 7)⟩,
⟨some 112,none,.load false 1 (.t 111)⟩,
⟨some 113,none,.mv (.t 9)⟩,
⟨some 114,none,.ixA 3 (.t 112) (.t 113)⟩,
⟨some 115,none,.fldA 0 (.t 114)⟩,
⟨some 116,none,.load false 1 (.t 115)⟩,
⟨some 117,none,.mv (.t 8)⟩,
⟨some 118,none,.bin .add .no (.t 117) (.c (.int .i64 1))⟩,
⟨some 119,none,.mv (.t 3)⟩,
⟨some 120,none,.bin .sub .no (.t 119) (.c (.int .i64 1))⟩,
⟨some 121,none,.call "newel/newelref06.within" [.t 116, .t 118, .t 120]⟩,
⟨some 122,none,.un .not (.t 121)⟩,
⟨some 123,none,.mv (.t 122)⟩,
⟨(some 124), (some (123, false)), .fldA 2 (.t 7)⟩,
⟨(some 125), (some (123, false)), .load false 1 (.t 124)⟩,
⟨(some 126), (some (123, false)), .mv (.t 9)⟩,
⟨(some 127), (some (123, false)), .ixA 3 (.t 125) (.t 126)⟩,
⟨(some 128), (some (123, false)), .fldA 1 (.t 127)⟩,
⟨(some 129), (some (123, false)), .load true 2 (.t 128)⟩,
⟨(some 130), (some (123, false)), .call "newel/newelref06.spanned" [.t 129, (.c (.int .i64 0)), (.c (.int .i64 1000))]⟩,
⟨(some 131), (some (123, false)), .un .not (.t 130)⟩,
⟨some 132,none,.pick (.t 123) (.c (.bool true)) (.t 131)⟩]
@[go_sem] def m59 : List XO := [
⟨some 2,none,.mv (.c (.int .i64 60))⟩]
@[go_sem] def m6a : List XO := [
⟨some 133,none,.fldA 2 (.t 7)⟩,
⟨some 134,none,.load false 1 (.t 133)⟩,
⟨some 135,none,.mv (.t 9)⟩,
⟨some 136,none,.ixA 3 (.t 134) (.t 135)⟩,
⟨some 137,none,.fldA 0 (.t 136)⟩,
⟨some 138,none,.load false 1 (.t 137)⟩,
⟨some 8,none,.mv (.t 138)⟩]
@[go_sem] def m6b : List XO := [
⟨some 109,none,.mv (.t 9)⟩,
⟨some 110,none,.bin .add .no (.t 109) (.c (.int .i64 1))⟩,
⟨some 9,none,.mv (.t 110)⟩]
def g0q : XCode :=
  (.seq (.seq (.reg m56) (.cond (.t 108) .skip (.exit 4))) (.seq (.block 5 (.seq (.seq (.reg m57) (.cond (.t 132) (.seq (.reg m59) .ret) .skip)) (.reg m6a))) (.reg m6b)))
@[go_sem] def m6c : List XO := [
⟨some 84,none,.mv (.t 6)⟩,
⟨some 85,none,.bin .add .no (.t 84) (.c (.int .i64 1))⟩,
⟨some 6,none,.mv (.t 85)⟩]
def g0r : XCode :=
  (.seq (.seq (.reg m50) (.cond (.t 83) .skip (.exit 2))) (.seq (.block 3 (.seq (.reg m51) (.seq (.seq (.reg m52) (.cond (.t 103) (.seq (.reg m53) .ret) .skip)) (.seq (.reg m54) (.seq (.reg m55) (.block 4 (.loop g0q))))))) (.reg m6c)))
@[go_sem] def m6d : List XO := [
⟨some 10,none,.mv (.c (.int .i64 0))⟩]
@[go_sem] def m6e : List XO := [
⟨some 139,none,.mv (.t 10)⟩,
⟨some 140,none,.fldA 2 (.tf 1)⟩,
⟨some 141,none,.load false 1 (.tf 140)⟩,
⟨some 142,none,.len false (.t 141)⟩,
⟨some 143,none,.bin .lss .no (.t 139) (.t 142)⟩]
@[go_sem] def m6f : List XO := [
⟨some 146,none,.fldA 2 (.tf 1)⟩,
⟨some 147,none,.load false 1 (.tf 146)⟩,
⟨some 148,none,.mv (.t 10)⟩,
⟨some 149,none,.ixA 3 (.t 147) (.t 148)⟩,
⟨some 150,none,.load true 3 (.t 149)⟩,
⟨some 11,none,.alloc [(.int .i64 0), (.int .i64 0), (.int .i64 0)]⟩,
⟨none, none, .store 3 (.t 11) (.t 150)⟩]
@[go_sem] def m6g : List XO := [
⟨some 151,none,.fldA 0 (.t 11)⟩,
⟨some 152,none,.load false 1 (.t 151)⟩,
⟨some 153,none,.fldA 3 (.tf 1)⟩,
⟨some 154,none,.load false 1 (.tf 153)⟩,
⟨some 155,none,.bin .sub .no (.t 154) (.c (.int .i64 1))⟩,
⟨some 156,none,.call "newel/newelref06.within" [.t 152, (.c (.int .i64 0)), .t 155]⟩,
⟨some 157,none,.un .not (.t 156)⟩,
⟨some 158,none,.mv (.t 157)⟩,
⟨(some 159), (some (158, false)), .fldA 1 (.t 11)⟩,
⟨(some 160), (some (158, false)), .load false 1 (.t 159)⟩,
⟨(some 161), (some (158, false)), .mv (.t 3)⟩,
⟨(some 162), (some (158, false)), .bin .sub .no (.t 161) (.c (.int .i64 1))⟩,
⟨(some 163), (some (158, false)), .call "newel/newelref06.within" [.t 160, (.c (.int .i64 0)), .t 162]⟩,
⟨(some 164), (some (158, false)), .un .not (.t 163)⟩,
⟨some 165,none,.pick (.t 158) (.c (.bool true)) (.t 164)⟩,
⟨some 166,none,.mv (.t 165)⟩,
⟨(some 167), (some (166, false)), .fldA 2 (.t 11)⟩,
⟨(some 168), (some (166, false)), .load false 1 (.t 167)⟩,
⟨(some 169), (some (166, false)), .call "newel/newelref06.within" [.t 168, (.c (.int .i64 0)), (.c (.int .i64 1000))]⟩,
⟨(some 170), (some (166, false)), .un .not (.t 169)⟩,
⟨some 171,none,.pick (.t 166) (.c (.bool true)) (.t 170)⟩,
⟨some 172,none,.mv (.t 171)⟩,
⟨(some 173), (some (172, false)), .mv (.t 10)⟩,
⟨(some 174), (some (172, false)), .bin .gtr .no (.t 173) (.c (.int .i64 0))⟩,
⟨(some 175), (some (172, false)), .mv (.t 174)⟩,
⟨(some 176), (some (175, true)), .fldA 0 (.t 11)⟩,
⟨(some 177), (some (175, true)), .load false 1 (.t 176)⟩,
⟨(some 178), (some (175, true)), .fldA 2 (.tf 1)⟩,
⟨(some 179), (some (175, true)), .load false 1 (.tf 178)⟩,
⟨(some 180), (some (175, true)), .mv (.t 10)⟩,
⟨(some 181), (some (175, true)), .bin .sub .no (.t 180) (.c (.int .i64 1))⟩,
⟨(some 182), (some (175, true)), .ixA 3 (.t 179) (.t 181)⟩,
⟨(some 183), (some (175, true)), .fldA 0 (.t 182)⟩,
⟨(some 184), (some (175, true)), .load false 1 (.t 183)⟩,
⟨(some 185), (some (175, true)), .bin .lss .no (.t 177) (.t 184)⟩,
⟨(some 186), (some (172, false)), .pick (.t 175) (.t 185) (.c (.bool false))⟩,
⟨some 187,none,.pick (.t 172) (.c (.bool true)) (.t 186)⟩]
@[go_sem] def m6i : List XO := [
⟨some 2,none,.mv (.c (.int .i64 60))⟩]
@[go_sem] def m6j : List XO := [
⟨some 144,none,.mv (.t 10)⟩,
⟨some 145,none,.bin .add .no (.t 144) (.c (.int .i64 1))⟩,
⟨some 10,none,.mv (.t 145)⟩]
def g0s : XCode :=
  (.seq (.seq (.reg m6e) (.cond (.t 143) .skip (.exit 6))) (.seq (.block 7 (.seq (.reg m6f) (.seq (.reg m6g) (.cond (.t 187) (.seq (.reg m6i) .ret) .skip)))) (.reg m6j)))
@[go_sem] def m6k : List XO := [
⟨some 2,none,.mv (.c (.int .i64 0))⟩]
def x_r06_Check : XFunc := { np := 1, res := [.t 2], body :=
  (.seq (.reg m5x) (.seq (.seq (.reg m5y) (.cond (.t 34) (.seq (.reg m58) .ret) .skip)) (.seq (.reg m6h) (.seq (.seq (.reg m6l) (.block 0 (.loop g0p))) (.seq (.seq (.reg m5z) (.block 2 (.loop g0r))) (.seq (.seq (.reg m6d) (.block 6 (.loop g0s))) (.seq (.reg m6k) .ret))))))) }
@[go_sem] def m6r : List XO := [
⟨some 2,none,.boxF (.t 0)⟩,
⟨some 3,none,.boxF (.t 1)⟩,
⟨some 4,none,.mv (.c (.bool false))⟩]
@[go_sem] def m6s : List XO := [
⟨some 10,none,.fldA 0 (.tf 3)⟩,
⟨some 11,none,.load false 1 (.tf 10)⟩,
⟨some 12,none,.len false (.t 11)⟩,
⟨some 13,none,.fldA 1 (.tf 2)⟩,
⟨some 14,none,.load false 1 (.tf 13)⟩,
⟨some 15,none,.len false (.t 14)⟩,
⟨some 16,none,.bin .neq .no (.t 12) (.t 15)⟩,
⟨some 17,none,.mv (.t 16)⟩,
⟨(some 18), (some (17, false)), .fldA 1 (.tf 3)⟩,
⟨(some 19), (some (17, false)), .load false 1 (.tf 18)⟩,
⟨(some 20), (some (17, false)), .len false (.t 19)⟩,
⟨(some 21), (some (17, false)), .fldA 1 (.tf 2)⟩,
⟨(some 22), (some (17, false)), .load false 1 (.tf 21)⟩,
⟨(some 23), (some (17, false)), .len false (.t 22)⟩,
⟨(some 24), (some (17, false)), .bin .neq .no (.t 20) (.t 23)⟩,
⟨some 25,none,.pick (.t 17) (.c (.bool true)) (.t 24)⟩,
⟨some 26,none,.mv (.t 25)⟩,
⟨(some 27), (some (26, false)), .fldA 2 (.tf 3)⟩,
⟨(some 28), (some (26, false)), .load false 1 (.tf 27)⟩,
⟨(some 29), (some (26, false)), .len false (.t 28)⟩,
⟨(some 30), (some (26, false)), .fldA 0 (.tf 2)⟩,
⟨(some 31), (some (26, false)), .load false 1 (.tf 30)⟩,
⟨(some 32), (some (26, false)), .len false (.t 31)⟩,
⟨(some 33), (some (26, false)), .bin .neq .no (.t 29) (.t 32)⟩,
⟨some 34,none,.pick (.t 26) (.c (.bool true)) (.t 33)⟩]
@[go_sem] def m61 : List XO := [
⟨some 4,none,.mv (.c (.bool false))⟩]
@[go_sem] def m69 : List XO := [
⟨some 5,none,.mv (.c (.int .i64 0))⟩]
@[go_sem] def m7a : List XO := [
⟨some 35,none,.mv (.t 5)⟩,
⟨some 36,none,.fldA 1 (.tf 2)⟩,
⟨some 37,none,.load false 1 (.tf 36)⟩,
⟨some 38,none,.len false (.t 37)⟩,
⟨some 39,none,.bin .lss .no (.t 35) (.t 38)⟩]
@[go_sem] def m7b : List XO := [
⟨some 42,none,.fldA 1 (.tf 2)⟩,
⟨some 43,none,.load false 1 (.tf 42)⟩,
⟨some 44,none,.mv (.t 5)⟩,
⟨some 45,none,.ixA 3 (.t 43) (.t 44)⟩,
⟨some 46,none,.load true 3 (.t 45)⟩,
⟨some 6,none,.alloc [(.int .i64 0), (.int .i64 0), (.slice none 0 0)]⟩,
⟨none, none, .store 3 (.t 6) (.t 46)⟩]
@[go_sem] def m7c : List XO := [
⟨some 47,none,.fldA 0 (.tf 3)⟩,
⟨some 48,none,.load false 1 (.tf 47)⟩,
⟨some 49,none,.mv (.t 5)⟩,
⟨some 50,none,.ixA 1 (.t 48) (.t 49)⟩,
⟨some 51,none,.load false 1 (.t 50)⟩,
⟨some 52,none,.fldA 0 (.t 6)⟩,
⟨some 53,none,.fldA 0 (.t 52)⟩,
⟨some 54,none,.load false 1 (.t 53)⟩,
⟨some 55,none,.fldA 0 (.t 6)⟩,
⟨some 56,none,.fldA 1 (.t 55)⟩,
⟨some 57,none,.load false 1 (.t 56)⟩,
⟨some 58,none,.call "newel/newelref06.within" [.t 51, .t 54, .t 57]⟩,
⟨some 59,none,.un .not (.t 58)⟩,
⟨some 60,none,.mv (.t 59)⟩,
⟨(some 61), (some (60, false)), .fldA 1 (.tf 3)⟩,
⟨(some 62), (some (60, false)), .load false 1 (.tf 61)⟩,
⟨(some 63), (some (60, false)), .mv (.t 5)⟩,
⟨(some 64), (some (60, false)), .ixA 1 (.t 62) (.t 63)⟩,
⟨(some 65), (some (60, false)), .load false 1 (.t 64)⟩,
⟨(some 66), (some (60, false)), .len false (.t 65)⟩,
⟨(some 67), (some (60, false)), .fldA 2 (.t 6)⟩,
⟨(some 68), (some (60, false)), .load false 1 (.t 67)⟩,
⟨(some 69), (some (60, false)), .len false (.t 68)⟩,
⟨(some 70), (some (60, false)), .bin .neq .no (.t 66) (.t 69)⟩,
⟨some 71,none,.pick (.t 60) (.c (.bool true)) (.t 70)⟩]
@[go_sem] def m7d : List XO := [
⟨some 4,none,.mv (.c (.bool false))⟩]
@[go_sem] def m7e : List XO := [
⟨some 7,none,.mv (.c (.int .i64 0))⟩]
@[go_sem] def m7f : List XO := [
⟨some 72,none,.mv (.t 7)⟩,
⟨some 73,none,.fldA 2 (.t 6)⟩,
⟨some 74,none,.load false 1 (.t 73)⟩,
⟨some 75,none,.len false (.t 74)⟩,
⟨some 76,none,.bin .lss .no (.t 72) (.t 75)⟩]
@[go_sem] def m6t : List XO := [
⟨some 79,none,.fldA 1 (.tf 3)⟩,
⟨some 80,none,.load false 1 (.tf 79)⟩,
⟨some 81,none,.mv (.t 5)⟩,
⟨some 82,none,.ixA 1 (.t 80) (.t 81)⟩,
⟨some 83,none,.load false 1 (.t 82)⟩,
⟨some 84,none,.mv (.t 7)⟩,
⟨some 85,none,.ixA 1 (.t 83) (.t 84)⟩,
⟨some 86,none,.load false 1 (.t 85)⟩,
⟨some 87,none,.fldA 2 (.t 6)⟩,
⟨some 88,none,.load false 1 (.t 87)⟩,
⟨some 89,none,.mv (.t 7)⟩,
⟨some 90,none,.ixA 3 (.t 88) (.t 89)⟩,
⟨some 91,none,.fldA 1 (.t 90)⟩,
⟨some 92,none,.fldA 0 (.t 91)⟩,
⟨some 93,none,.load false 1 (.t 92)⟩,
⟨some 94,none,.fldA 2 (.t 6)⟩,
⟨some 95,none,.load false 1 (.t 94)⟩,
⟨some 96,none,.mv (.t 7)⟩,
⟨some 97,none,.ixA 3 (.t 95) (.t 96)⟩,
⟨some 98,none,.fldA 1 (.t 97)⟩,
⟨some 99,none,.fldA 1 (.t 98)⟩,
⟨some 100,none,.load false 1 (.t 99)⟩,
⟨some 101,none,.call "newel/newelref06.within" [.t 86, .t 93, .t 100]⟩,
⟨some 102,none,.un .not (.t 101)⟩]
@[go_sem] def m6u : List XO := [
⟨some 4,none,.mv (.c (.bool false))⟩]
@[go_sem] def m6v : List XO := [
⟨some 77,none,.mv (.t 7)⟩,
⟨some 78,none,.bin .add .no (.t 77) (.c (.int .i64 1))⟩,
⟨some 7,none,.mv (.t 78)⟩]
def g0t : XCode :=
  (.seq (.seq (.reg m7f) (.cond (.t 76) .skip (.exit 2))) (.seq (.block 3 (.seq (.reg m6t) (.cond (.t 102) (.seq (.reg m6u) .ret) .skip))) (.reg m6v)))
@[go_sem] def m6w : List XO := [
⟨some 40,none,.mv (.t 5)⟩,
⟨some 41,none,.bin .add .no (.t 40) (.c (.int .i64 1))⟩,
⟨some 5,none,.mv (.t 41)⟩]
def g0u : XCode :=
  (.seq (.seq (.reg m7a) (.cond (.t 39) .skip (.exit 0))) (.seq (.block 1 (.seq (.reg m7b) (.seq (.seq (.reg m7c) (.cond (.t 71) (.seq (.reg m7d) .ret) .skip)) (.seq (.reg m7e) (.block 2 (.loop g0t)))))) (.reg m6w)))
@[go_sem] def m6x : List XO := [
⟨some 8,none,.mv (.c (.int .i64 0))⟩]
@[go_sem] def m6y : List XO := [
⟨some 103,none,.mv (.t 8)⟩,
⟨some 104,none,.fldA 0 (.tf 2)⟩,
⟨some 105,none,.load false 1 (.tf 104)⟩,
⟨some 106,none,.len false (.t 105)⟩,
⟨some 107,none,.bin .lss .no (.t 103) (.t 106)⟩]
@[go_sem] def m6z : List XO := [
⟨some 110,none,.fldA 2 (.tf 3)⟩,
⟨some 111,none,.load false 1 (.tf 110)⟩,
⟨some 112,none,.mv (.t 8)⟩,
⟨some 113,none,.ixA 1 (.t 111) (.t 112)⟩,
⟨some 114,none,.load false 1 (.t 113)⟩,
⟨some 115,none,.len false (.t 114)⟩,
⟨some 116,none,.call "newel/newelref06.within" [.t 115, (.c (.int .i64 1)), (.c (.int .i64 20))]⟩,
⟨some 117,none,.un .not (.t 116)⟩]
@[go_sem] def m60 : List XO := [
⟨some 4,none,.mv (.c (.bool false))⟩]
@[go_sem] def m62 : List XO := [
⟨some 9,none,.mv (.c (.int .i64 0))⟩]
@[go_sem] def m63 : List XO := [
⟨some 118,none,.mv (.t 9)⟩,
⟨some 119,none,.fldA 2 (.tf 3)⟩,
⟨some 120,none,.load false 1 (.tf 119)⟩,
⟨some 121,none,.mv (.t 8)⟩,
⟨some 122,none,.ixA 1 (.t 120) (.t 121)⟩,
⟨some 123,none,.load false 1 (.t 122)⟩,
⟨some 124,none,.len false (.t 123)⟩,
⟨some 125,none,.bin .lss .no (.t 118) (.t 124)⟩]
@[go_sem] def m64 : List XO := [
⟨some 128,none,.fldA 2 (.tf 3)⟩,
⟨some 129,none,.load false 1 (.tf 128)⟩,
⟨some 130,none,.mv (.t 8)⟩,
⟨some 131,none,.ixA 1 (.t 129) (.t 130)⟩,
⟨some 132,none,.load false 1 (.t 131)⟩,
⟨some 133,none,.mv (.t 9)⟩,
⟨some 134,none,.ixA 1 (.t 132) (.t 133)⟩,
⟨some 135,none,.load false 1 (.t 134)⟩,
⟨some 136,none,.fldA 0 (.tf 2)⟩,
⟨some 137,none,.load false 1 (.tf 136)⟩,
⟨some 138,none,.mv (.t 8)⟩,
⟨some 139,none,.ixA 5 (.t 137) (.t 138)⟩,
⟨some 140,none,.fldA 3 (.t 139)⟩,
⟨some 141,none,.fldA 0 (.t 140)⟩,
⟨some 142,none,.load false 1 (.t 141)⟩,
⟨some 143,none,.fldA 0 (.tf 2)⟩,
⟨some 144,none,.load false 1 (.tf 143)⟩,
⟨some 145,none,.mv (.t 8)⟩,
⟨some 146,none,.ixA 5 (.t 144) (.t 145)⟩,
⟨some 147,none,.fldA 3 (.t 146)⟩,
⟨some 148,none,.fldA 1 (.t 147)⟩,
⟨some 149,none,.load false 1 (.t 148)⟩,
⟨some 150,none,.call "newel/newelref06.within" [.t 135, .t 142, .t 149]⟩,
⟨some 151,none,.un .not (.t 150)⟩]
@[go_sem] def m65 : List XO := [
⟨some 4,none,.mv (.c (.bool false))⟩]
@[go_sem] def m66 : List XO := [
⟨some 126,none,.mv (.t 9)⟩,
⟨some 127,none,.bin .add .no (.t 126) (.c (.int .i64 1))⟩,
⟨some 9,none,.mv (.t 127)⟩]
def g0v : XCode :=
  (.seq (.seq (.reg m63) (.cond (.t 125) .skip (.exit 6))) (.seq (.block 7 (.seq (.reg m64) (.cond (.t 151) (.seq (.reg m65) .ret) .skip))) (.reg m66)))
@[go_sem] def m67 : List XO := [
⟨some 108,none,.mv (.t 8)⟩,
⟨some 109,none,.bin .add .no (.t 108) (.c (.int .i64 1))⟩,
⟨some 8,none,.mv (.t 109)⟩]
def g0w : XCode :=
  (.seq (.seq (.reg m6y) (.cond (.t 107) .skip (.exit 4))) (.seq (.block 5 (.seq (.seq (.reg m6z) (.cond (.t 117) (.seq (.reg m60) .ret) .skip)) (.seq (.reg m62) (.block 6 (.loop g0v))))) (.reg m67)))
@[go_sem] def m68 : List XO := [
⟨some 4,none,.mv (.c (.bool true))⟩]
def x_r06_Fits : XFunc := { np := 2, res := [.t 4], body :=
  (.seq (.reg m6r) (.seq (.seq (.reg m6s) (.cond (.t 34) (.seq (.reg m61) .ret) .skip)) (.seq (.seq (.reg m69) (.block 0 (.loop g0u))) (.seq (.seq (.reg m6x) (.block 4 (.loop g0w))) (.seq (.reg m68) .ret))))) }
@[go_sem] def m7n : List XO := [
⟨some 2,none,.mv (.c (.int .i64 0))⟩]
@[go_sem] def m7o : List XO := [
⟨some 4,none,.mv (.t 0)⟩,
⟨some 5,none,.len false (.t 4)⟩,
⟨some 6,none,.bin .gtr .no (.t 5) (.c (.int .i64 12))⟩]
@[go_sem] def m7p : List XO := [
⟨some 2,none,.mv (.c (.int .i64 2))⟩]
@[go_sem] def m7q : List XO := [
⟨some 3,none,.mv (.c (.int .i64 0))⟩]
@[go_sem] def m7r : List XO := [
⟨some 7,none,.mv (.t 3)⟩,
⟨some 8,none,.mv (.t 0)⟩,
⟨some 9,none,.len false (.t 8)⟩,
⟨some 10,none,.bin .lss .no (.t 7) (.t 9)⟩]
@[go_sem] def m7s : List XO := [
⟨some 13,none,.mv (.t 0)⟩,
⟨some 14,none,.mv (.t 3)⟩,
⟨some 15,none,.ixA 4 (.t 13) (.t 14)⟩,
⟨some 16,none,.fldA 0 (.t 15)⟩,
⟨some 17,none,.load false 1 (.t 16)⟩,
⟨some 18,none,.call "newel/newelref10.from" [.t 17, (.c (.int .i64 (-100000))), (.c (.int .i64 100000))]⟩,
⟨some 19,none,.un .not (.t 18)⟩,
⟨some 20,none,.mv (.t 19)⟩,
⟨(some 21), (some (20, false)), .mv (.t 0)⟩,
⟨(some 22), (some (20, false)), .mv (.t 3)⟩,
⟨(some 23), (some (20, false)), .ixA 4 (.t 21) (.t 22)⟩,
⟨(some 24), (some (20, false)), .fldA 1 (.t 23)⟩,
⟨(some 25), (some (20, false)), .load false 1 (.t 24)⟩,
⟨(some 26), (some (20, false)), .call "newel/newelref10.from" [.t 25, (.c (.int .i64 0)), (.c (.int .i64 1000))]⟩,
⟨(some 27), (some (20, false)), .un .not (.t 26)⟩,
⟨some 28,none,.pick (.t 20) (.c (.bool true)) (.t 27)⟩,
⟨some 29,none,.mv (.t 28)⟩,
⟨(some 30), (some (29, false)), .mv (.t 0)⟩,
⟨(some 31), (some (29, false)), .mv (.t 3)⟩,
⟨(some 32), (some (29, false)), .ixA 4 (.t 30) (.t 31)⟩,
⟨(some 33), (some (29, false)), .fldA 2 (.t 32)⟩,
⟨(some 34), (some (29, false)), .load false 1 (.t 33)⟩,
⟨(some 35), (some (29, false)), .call "newel/newelref10.from" [.t 34, (.c (.int .i64 0)), (.c (.int .i64 1000))]⟩,
⟨(some 36), (some (29, false)), .un .not (.t 35)⟩,
⟨some 37,none,.pick (.t 29) (.c (.bool true)) (.t 36)⟩,
⟨some 38,none,.mv (.t 37)⟩,
⟨(some 39), (some (38, false)), .mv (.t 0)⟩,
⟨(some 40), (some (38, false)), .mv (.t 3)⟩,
⟨(some 41), (some (38, false)), .ixA 4 (.t 39) (.t 40)⟩,
⟨(some 42), (some (38, false)), .fldA 3 (.t 41)⟩,
⟨(some 43), (some (38, false)), .load false 1 (.t 42)⟩,
⟨(some 44), (some (38, false)), .call "newel/newelref10.from" [.t 43, (.c (.int .i64 0)), (.c (.int .i64 1000))]⟩,
⟨(some 45), (some (38, false)), .un .not (.t 44)⟩,
⟨some 46,none,.pick (.t 38) (.c (.bool true)) (.t 45)⟩]
@[go_sem] def m7t : List XO := [
⟨some 2,none,.mv (.c (.int .i64 100))⟩]
@[go_sem] def m7u : List XO := [
⟨some 11,none,.mv (.t 3)⟩,
⟨some 12,none,.bin .add .no (.t 11) (.c (.int .i64 1))⟩,
⟨some 3,none,.mv (.t 12)⟩]
def g0x : XCode :=
  (.seq (.seq (.reg m7r) (.cond (.t 10) .skip (.exit 0))) (.seq (.block 1 (.seq (.reg m7s) (.cond (.t 46) (.seq (.reg m7t) .ret) .skip))) (.reg m7u)))
@[go_sem] def m7v : List XO := [
⟨some 2,none,.mv (.c (.int .i64 0))⟩]
def x_r10_Check : XFunc := { np := 1, res := [.t 2], body :=
  (.seq (.reg m7n) (.seq (.seq (.reg m7o) (.cond (.t 6) (.seq (.reg m7p) .ret) .skip)) (.seq (.seq (.reg m7q) (.block 0 (.loop g0x))) (.seq (.reg m7v) .ret)))) }
@[go_sem] def l9g : List XO := [
⟨some 2,none,.boxF (.t 0)⟩,
⟨some 3,none,.boxF (.t 1)⟩,
⟨some 4,none,.mv (.c (.slice none 0 0))⟩,
⟨some 5,none,.mv (.c (.int .i64 0))⟩]
@[go_sem] def l9h : List XO := [
⟨some 21,none,.load true 4 (.tf 2)⟩,
⟨some 22,none,.call "newel/halls.Check" [.t 21]⟩,
⟨some 6,none,.mv (.t 22)⟩]
@[go_sem] def l9r : List XO := [
⟨some 23,none,.mv (.t 6)⟩,
⟨some 24,none,.bin .neq .no (.t 23) (.c (.int .i64 0))⟩]
@[go_sem] def l9z : List XO := [
⟨some 25,none,.mv (.t 6)⟩,
⟨some 4,none,.mv (.c (.slice none 0 0))⟩,
⟨some 5,none,.mv (.t 25)⟩]
@[go_sem] def m0a : List XO := [
⟨some 26,none,.load true 4 (.tf 2)⟩,
⟨some 27,none,.load true 3 (.tf 3)⟩,
⟨some 28,none,.call "newel/halls.isDay" [.t 26, .t 27]⟩,
⟨some 29,none,.un .not (.t 28)⟩]
@[go_sem] def m0h : List XO := [
⟨some 4,none,.mv (.c (.slice none 0 0))⟩,
⟨some 5,none,.mv (.c (.int .i64 61))⟩]
@[go_sem] def m0i : List XO := [
⟨some 7,none,.mv (.c (.slice none 0 0))⟩]
@[go_sem] def m0j : List XO := [
⟨some 30,none,.fldA 3 (.tf 2)⟩,
⟨some 31,none,.load false 1 (.tf 30)⟩,
⟨some 32,none,.mv (.c (.int .i64 0))⟩]
@[go_sem] def m0k : List XO := [
⟨some 33,none,.bin .lss .no (.t 32) (.t 31)⟩]
@[go_sem] def m0l : List XO := [
⟨some 34,none,.mv (.t 7)⟩,
⟨some 35,none,.fldA 0 (.tf 2)⟩,
⟨some 36,none,.load false 1 (.tf 35)⟩,
⟨some 37,none,.len false (.t 36)⟩,
⟨some 38,none,.mksl 1 [(.int .i64 0)] 8 (.t 37) (.t 37)⟩,
⟨some 39,none,.bsl 1 [.t 38]⟩,
⟨some 40,none,.app 1 24 (.t 34) (.t 39)⟩,
⟨some 7,none,.mv (.t 40)⟩]
@[go_sem] def l9i : List XO := [
⟨some 41,none,.bin .add .no (.t 32) (.c (.int .i64 1))⟩,
⟨some 32,none,.mv (.t 41)⟩]
def d92 : XCode :=
  (.seq (.reg m0k) (.seq (.cond (.t 33) .skip (.exit 0)) (.seq (.block 1 (.reg m0l)) (.reg l9i))))
@[go_sem] def l9j : List XO := [
⟨some 42,none,.fldA 1 (.tf 2)⟩,
⟨some 43,none,.load false 1 (.tf 42)⟩,
⟨some 44,none,.len false (.t 43)⟩,
⟨some 45,none,.mv (.c (.int .i64 0))⟩]
@[go_sem] def l9k : List XO := [
⟨some 46,none,.bin .lss .no (.t 45) (.t 44)⟩]
@[go_sem] def l9l : List XO := [
⟨some 47,none,.mv (.t 45)⟩,
⟨some 48,none,.ixA 3 (.t 43) (.t 45)⟩,
⟨some 49,none,.load true 3 (.t 48)⟩,
⟨some 9,none,.alloc [(.int .i64 0), (.int .i64 0), (.slice none 0 0)]⟩,
⟨some 8,none,.mv (.t 47)⟩,
⟨none, none, .store 3 (.t 9) (.t 49)⟩]
@[go_sem] def l9m : List XO := [
⟨some 50,none,.fldA 2 (.t 9)⟩,
⟨some 51,none,.load false 1 (.t 50)⟩,
⟨some 52,none,.len false (.t 51)⟩,
⟨some 53,none,.mv (.c (.int .i64 0))⟩]
@[go_sem] def l9n : List XO := [
⟨some 54,none,.bin .lss .no (.t 53) (.t 52)⟩]
@[go_sem] def l9o : List XO := [
⟨some 55,none,.mv (.t 53)⟩,
⟨some 56,none,.ixA 3 (.t 51) (.t 53)⟩,
⟨some 57,none,.load true 3 (.t 56)⟩,
⟨some 11,none,.alloc [(.int .i64 0), (.int .i64 0), (.int .i64 0)]⟩,
⟨some 10,none,.mv (.t 55)⟩,
⟨none, none, .store 3 (.t 11) (.t 57)⟩]
@[go_sem] def l9p : List XO := [
⟨some 58,none,.mv (.t 7)⟩,
⟨some 59,none,.fldA 0 (.tf 3)⟩,
⟨some 60,none,.load false 1 (.tf 59)⟩,
⟨some 61,none,.mv (.t 8)⟩,
⟨some 62,none,.ixA 1 (.t 60) (.t 61)⟩,
⟨some 63,none,.load false 1 (.t 62)⟩,
⟨some 64,none,.ixA 1 (.t 58) (.t 63)⟩,
⟨some 65,none,.load false 1 (.t 64)⟩,
⟨some 66,none,.fldA 0 (.t 11)⟩,
⟨some 67,none,.load false 1 (.t 66)⟩,
⟨some 68,none,.ixA 1 (.t 65) (.t 67)⟩,
⟨some 69,none,.load false 1 (.t 68)⟩,
⟨some 70,none,.fldA 1 (.tf 3)⟩,
⟨some 71,none,.load false 1 (.tf 70)⟩,
⟨some 72,none,.mv (.t 8)⟩,
⟨some 73,none,.ixA 1 (.t 71) (.t 72)⟩,
⟨some 74,none,.load false 1 (.t 73)⟩,
⟨some 75,none,.mv (.t 10)⟩,
⟨some 76,none,.ixA 1 (.t 74) (.t 75)⟩,
⟨some 77,none,.load false 1 (.t 76)⟩,
⟨some 78,none,.bin .add .no (.t 69) (.t 77)⟩,
⟨some 79,none,.ixA 1 (.t 65) (.t 67)⟩,
⟨none, none, .store 1 (.t 79) (.t 78)⟩]
@[go_sem] def l9q : List XO := [
⟨some 80,none,.bin .add .no (.t 53) (.c (.int .i64 1))⟩,
⟨some 53,none,.mv (.t 80)⟩]
def d93 : XCode :=
  (.seq (.reg l9n) (.seq (.cond (.t 54) .skip (.exit 4)) (.seq (.block 5 (.seq (.reg l9o) (.reg l9p))) (.reg l9q))))
@[go_sem] def l9s : List XO := [
⟨some 81,none,.bin .add .no (.t 45) (.c (.int .i64 1))⟩,
⟨some 45,none,.mv (.t 81)⟩]
def d94 : XCode :=
  (.seq (.reg l9k) (.seq (.cond (.t 46) .skip (.exit 2)) (.seq (.block 3 (.seq (.reg l9l) (.seq (.reg l9m) (.block 4 (.loop d93))))) (.reg l9s))))
@[go_sem] def l9t : List XO := [
⟨some 82,none,.fldA 0 (.tf 2)⟩,
⟨some 83,none,.load false 1 (.tf 82)⟩,
⟨some 84,none,.len false (.t 83)⟩,
⟨some 85,none,.mksl 1 [(.slice none 0 0)] 24 (.t 84) (.t 84)⟩,
⟨some 12,none,.mv (.t 85)⟩]
@[go_sem] def l9u : List XO := [
⟨some 86,none,.fldA 0 (.tf 2)⟩,
⟨some 87,none,.load false 1 (.tf 86)⟩,
⟨some 88,none,.len false (.t 87)⟩,
⟨some 89,none,.mv (.c (.int .i64 0))⟩]
@[go_sem] def l9v : List XO := [
⟨some 90,none,.bin .lss .no (.t 89) (.t 88)⟩]
@[go_sem] def l9w : List XO := [
⟨some 91,none,.mv (.t 89)⟩,
⟨some 13,none,.mv (.t 91)⟩]
@[go_sem] def l9x : List XO := [
⟨some 92,none,.mv (.t 12)⟩,
⟨some 93,none,.mv (.t 13)⟩,
⟨some 94,none,.load true 4 (.tf 2)⟩,
⟨some 95,none,.mv (.t 13)⟩,
⟨some 96,none,.call "newel/halls.rates" [.t 94, .t 95]⟩,
⟨some 97,none,.ixA 1 (.t 92) (.t 93)⟩,
⟨none, none, .store 1 (.t 97) (.t 96)⟩]
@[go_sem] def l9y : List XO := [
⟨some 98,none,.bin .add .no (.t 89) (.c (.int .i64 1))⟩,
⟨some 89,none,.mv (.t 98)⟩]
def d95 : XCode :=
  (.seq (.reg l9v) (.seq (.cond (.t 90) .skip (.exit 6)) (.seq (.block 7 (.seq (.reg l9w) (.reg l9x))) (.reg l9y))))
@[go_sem] def l90 : List XO := [
⟨some 99,none,.mv (.t 7)⟩,
⟨some 100,none,.len false (.t 99)⟩,
⟨some 101,none,.mv (.c (.int .i64 0))⟩]
@[go_sem] def l91 : List XO := [
⟨some 102,none,.bin .lss .no (.t 101) (.t 100)⟩]
@[go_sem] def l92 : List XO := [
⟨some 103,none,.mv (.t 101)⟩,
⟨some 104,none,.ixA 1 (.t 99) (.t 101)⟩,
⟨some 105,none,.load false 1 (.t 104)⟩,
⟨some 14,none,.mv (.t 103)⟩,
⟨some 15,none,.mv (.t 105)⟩]
@[go_sem] def l93 : List XO := [
⟨some 106,none,.mv (.t 15)⟩,
⟨some 107,none,.len false (.t 106)⟩,
⟨some 108,none,.mv (.c (.int .i64 0))⟩]
@[go_sem] def l94 : List XO := [
⟨some 109,none,.bin .lss .no (.t 108) (.t 107)⟩]
@[go_sem] def l95 : List XO := [
⟨some 110,none,.mv (.t 108)⟩,
⟨some 111,none,.ixA 1 (.t 106) (.t 108)⟩,
⟨some 112,none,.load false 1 (.t 111)⟩,
⟨some 16,none,.mv (.t 110)⟩,
⟨some 17,none,.mv (.t 112)⟩]
@[go_sem] def l96 : List XO := [
⟨some 113,none,.mv (.t 17)⟩,
⟨some 114,none,.mv (.t 12)⟩,
⟨some 115,none,.mv (.t 16)⟩,
⟨some 116,none,.ixA 1 (.t 114) (.t 115)⟩,
⟨some 117,none,.load false 1 (.t 116)⟩,
⟨some 118,none,.mv (.t 14)⟩,
⟨some 119,none,.ixA 1 (.t 117) (.t 118)⟩,
⟨some 120,none,.load false 1 (.t 119)⟩,
⟨some 121,none,.min [.t 113, .t 120]⟩,
⟨some 18,none,.mv (.t 121)⟩]
@[go_sem] def l97 : List XO := [
⟨some 122,none,.mv (.t 14)⟩,
⟨some 123,none,.bin .add .no (.t 122) (.c (.int .i64 1))⟩,
⟨some 124,none,.fldA 3 (.tf 2)⟩,
⟨some 125,none,.load false 1 (.tf 124)⟩,
⟨some 126,none,.bin .lss .no (.t 123) (.t 125)⟩]
@[go_sem] def l98 : List XO := [
⟨some 127,none,.mv (.t 7)⟩,
⟨some 128,none,.mv (.t 14)⟩,
⟨some 129,none,.bin .add .no (.t 128) (.c (.int .i64 1))⟩,
⟨some 130,none,.ixA 1 (.t 127) (.t 129)⟩,
⟨some 131,none,.load false 1 (.t 130)⟩,
⟨some 132,none,.mv (.t 16)⟩,
⟨some 133,none,.ixA 1 (.t 131) (.t 132)⟩,
⟨some 134,none,.load false 1 (.t 133)⟩,
⟨some 135,none,.mv (.t 17)⟩,
⟨some 136,none,.mv (.t 18)⟩,
⟨some 137,none,.bin .sub .no (.t 135) (.t 136)⟩,
⟨some 138,none,.bin .add .no (.t 134) (.t 137)⟩,
⟨some 139,none,.ixA 1 (.t 131) (.t 132)⟩,
⟨none, none, .store 1 (.t 139) (.t 138)⟩]
@[go_sem] def l99 : List XO := [
⟨some 140,none,.fldA 2 (.tf 3)⟩,
⟨some 141,none,.load false 1 (.tf 140)⟩,
⟨some 142,none,.mv (.t 16)⟩,
⟨some 143,none,.ixA 1 (.t 141) (.t 142)⟩,
⟨some 144,none,.load false 1 (.t 143)⟩,
⟨some 145,none,.mv (.t 14)⟩,
⟨some 146,none,.fldA 2 (.tf 3)⟩,
⟨some 147,none,.load false 1 (.tf 146)⟩,
⟨some 148,none,.mv (.t 16)⟩,
⟨some 149,none,.ixA 1 (.t 147) (.t 148)⟩,
⟨some 150,none,.load false 1 (.t 149)⟩,
⟨some 151,none,.len false (.t 150)⟩,
⟨some 152,none,.bin .rem .no (.t 145) (.t 151)⟩,
⟨some 153,none,.ixA 1 (.t 144) (.t 152)⟩,
⟨some 154,none,.load false 1 (.t 153)⟩,
⟨some 19,none,.mv (.t 154)⟩]
@[go_sem] def m0b : List XO := [
⟨some 155,none,.fldA 0 (.tf 2)⟩,
⟨some 156,none,.load false 1 (.tf 155)⟩,
⟨some 157,none,.mv (.t 16)⟩,
⟨some 158,none,.ixA 5 (.t 156) (.t 157)⟩,
⟨some 159,none,.fldA 2 (.t 158)⟩,
⟨some 160,none,.load false 1 (.t 159)⟩,
⟨some 20,none,.mv (.t 160)⟩]
@[go_sem] def m0c : List XO := [
⟨some 161,none,.mv (.t 20)⟩,
⟨some 162,none,.bin .geq .no (.t 161) (.c (.int .i64 0))⟩,
⟨some 163,none,.mv (.t 162)⟩,
⟨(some 164), (some (163, true)), .mv (.t 14)⟩,
⟨(some 165), (some (163, true)), .mv (.t 19)⟩,
⟨(some 166), (some (163, true)), .bin .add .no (.t 164) (.t 165)⟩,
⟨(some 167), (some (163, true)), .fldA 3 (.tf 2)⟩,
⟨(some 168), (some (163, true)), .load false 1 (.tf 167)⟩,
⟨(some 169), (some (163, true)), .bin .lss .no (.t 166) (.t 168)⟩,
⟨some 170,none,.pick (.t 163) (.t 169) (.c (.bool false))⟩]
@[go_sem] def m0d : List XO := [
⟨some 171,none,.mv (.t 7)⟩,
⟨some 172,none,.mv (.t 14)⟩,
⟨some 173,none,.mv (.t 19)⟩,
⟨some 174,none,.bin .add .no (.t 172) (.t 173)⟩,
⟨some 175,none,.ixA 1 (.t 171) (.t 174)⟩,
⟨some 176,none,.load false 1 (.t 175)⟩,
⟨some 177,none,.mv (.t 20)⟩,
⟨some 178,none,.ixA 1 (.t 176) (.t 177)⟩,
⟨some 179,none,.load false 1 (.t 178)⟩,
⟨some 180,none,.mv (.t 18)⟩,
⟨some 181,none,.bin .add .no (.t 179) (.t 180)⟩,
⟨some 182,none,.ixA 1 (.t 176) (.t 177)⟩,
⟨none, none, .store 1 (.t 182) (.t 181)⟩]
@[go_sem] def m0e : List XO := [
⟨some 183,none,.bin .add .no (.t 108) (.c (.int .i64 1))⟩,
⟨some 108,none,.mv (.t 183)⟩]
def d96 : XCode :=
  (.seq (.reg l94) (.seq (.cond (.t 109) .skip (.exit 10)) (.seq (.block 11 (.seq (.reg l95) (.seq (.reg l96) (.seq (.seq (.reg l97) (.cond (.t 126) (.reg l98) .skip)) (.seq (.reg l99) (.seq (.reg m0b) (.seq (.reg m0c) (.cond (.t 170) (.reg m0d) .skip)))))))) (.reg m0e))))
@[go_sem] def m0f : List XO := [
⟨some 184,none,.bin .add .no (.t 101) (.c (.int .i64 1))⟩,
⟨some 101,none,.mv (.t 184)⟩]
def d97 : XCode :=
  (.seq (.reg l91) (.seq (.cond (.t 102) .skip (.exit 8)) (.seq (.block 9 (.seq (.reg l92) (.seq (.reg l93) (.block 10 (.loop d96))))) (.reg m0f))))
@[go_sem] def m0g : List XO := [
⟨some 185,none,.mv (.t 7)⟩,
⟨some 4,none,.mv (.t 185)⟩,
⟨some 5,none,.mv (.c (.int .i64 0))⟩]
def x_halls_Play : XFunc := { np := 2, res := [.t 4, .t 5], body :=
  (.seq (.reg l9g) (.seq (.seq (.reg l9h) (.seq (.reg l9r) (.cond (.t 24) (.seq (.reg l9z) .ret) .skip))) (.seq (.seq (.reg m0a) (.cond (.t 29) (.seq (.reg m0h) .ret) .skip)) (.seq (.reg m0i) (.seq (.seq (.reg m0j) (.block 0 (.loop d92))) (.seq (.seq (.reg l9j) (.block 2 (.loop d94))) (.seq (.reg l9t) (.seq (.seq (.reg l9u) (.block 6 (.loop d95))) (.seq (.seq (.reg l90) (.block 8 (.loop d97))) (.seq (.reg m0g) .ret)))))))))) }
@[go_sem] def l9b : List XO := [
⟨some 2,none,.boxF (.t 0)⟩,
⟨some 4,none,.mv (.c (.slice none 0 0))⟩,
⟨some 5,none,.mv (.c (.int .i64 0))⟩]
@[go_sem] def l9c : List XO := [
⟨some 7,none,.load true 4 (.tf 2)⟩,
⟨some 8,none,.mv (.t 1)⟩,
⟨some 9,none,.call "newel/halls.check" [.t 7, .t 8, (.c (.slice none 0 0))]⟩,
⟨some 6,none,.mv (.t 9)⟩]
@[go_sem] def l9d : List XO := [
⟨some 10,none,.mv (.t 6)⟩,
⟨some 11,none,.bin .neq .no (.t 10) (.c (.int .i64 0))⟩]
@[go_sem] def l9e : List XO := [
⟨some 12,none,.mv (.t 6)⟩,
⟨some 4,none,.mv (.c (.slice none 0 0))⟩,
⟨some 5,none,.mv (.t 12)⟩]
@[go_sem] def l9f : List XO := [
⟨some 13,none,.load true 4 (.tf 2)⟩,
⟨some 14,none,.load true 4 (.tf 2)⟩,
⟨some 15,none,.callw "newel/halls.open" [.t 14]⟩,
⟨some 16,none,.callw "newel/halls.bounds" [.t 13, .t 15]⟩,
⟨some 17,none,.mv (.t 1)⟩,
⟨some 18,none,.ixA 1 (.t 16) (.t 17)⟩,
⟨some 19,none,.load false 1 (.t 18)⟩,
⟨some 20,none,.nilck (.t 19)⟩,
⟨some 21,none,.fldA 2 (.t 20)⟩,
⟨some 22,none,.load false 1 (.t 21)⟩,
⟨some 4,none,.mv (.t 22)⟩,
⟨some 5,none,.mv (.c (.int .i64 0))⟩]
def x_halls_Most : XFunc := { np := 2, res := [.t 4, .t 5], body :=
  (.seq (.reg l9b) (.seq (.seq (.reg l9c) (.seq (.reg l9d) (.cond (.t 11) (.seq (.reg l9e) .ret) .skip))) (.seq (.reg l9f) .ret))) }
@[go_sem] def l5x : List XO := [
⟨some 2,none,.boxF (.t 0)⟩,
⟨some 3,none,.boxF (.t 1)⟩,
⟨some 4,none,.alloc [(.int .i64 0), (.int .i64 0)]⟩,
⟨some 5,none,.alloc [(.int .i64 0), (.int .i64 0)]⟩,
⟨some 6,none,.mv (.c (.int .i64 0))⟩]
@[go_sem] def l5y : List XO := [
⟨some 9,none,.load true 6 (.tf 2)⟩,
⟨some 10,none,.load true 4 (.tf 3)⟩,
⟨some 11,none,.call "newel/drive.checkStop" [.t 9, .t 10]⟩,
⟨some 6,none,.mv (.t 11)⟩]
@[go_sem] def l5z : List XO := [
⟨some 12,none,.mv (.t 6)⟩,
⟨some 13,none,.bin .neq .no (.t 12) (.c (.int .i64 0))⟩]
@[go_sem] def l50 : List XO := [
⟨some 14,none,.load true 2 (.tf 4)⟩,
⟨some 15,none,.load true 2 (.tf 5)⟩,
⟨some 16,none,.mv (.t 6)⟩,
⟨none, none, .store 2 (.t 4) (.t 14)⟩,
⟨none, none, .store 2 (.t 5) (.t 15)⟩,
⟨some 6,none,.mv (.t 16)⟩]
@[go_sem] def l51 : List XO := [
⟨some 17,none,.load true 6 (.tf 2)⟩,
⟨some 18,none,.load true 4 (.tf 3)⟩,
⟨some 19,none,.call "newel/drive.run" [.t 17, .t 18, (.c (.bool true))]⟩,
⟨some 20,none,.load true 6 (.tf 2)⟩,
⟨some 21,none,.load true 4 (.tf 3)⟩,
⟨some 22,none,.call "newel/drive.run" [.t 20, .t 21, (.c (.bool false))]⟩,
⟨some 7,none,.alloc [(.int .i64 0), (.slice none 0 0), (.bool false)]⟩,
⟨some 8,none,.alloc [(.int .i64 0), (.slice none 0 0), (.bool false)]⟩,
⟨none, none, .store 3 (.t 7) (.t 19)⟩,
⟨none, none, .store 3 (.t 8) (.t 22)⟩]
@[go_sem] def l52 : List XO := [
⟨some 23,none,.fldA 2 (.t 7)⟩,
⟨some 24,none,.load false 1 (.t 23)⟩,
⟨some 25,none,.un .not (.t 24)⟩]
@[go_sem] def l54 : List XO := [
⟨some 26,none,.load true 2 (.tf 4)⟩,
⟨some 27,none,.load true 2 (.tf 5)⟩,
⟨none, none, .store 2 (.t 4) (.t 26)⟩,
⟨none, none, .store 2 (.t 5) (.t 27)⟩,
⟨some 6,none,.mv (.c (.int .i64 12))⟩]
@[go_sem] def l58 : List XO := [
⟨some 28,none,.fldA 0 (.tf 8)⟩,
⟨some 29,none,.load false 1 (.tf 28)⟩,
⟨some 30,none,.fldA 0 (.tf 7)⟩,
⟨some 31,none,.load false 1 (.tf 30)⟩,
⟨some 32,none,.build [(.int .i64 0), (.int .i64 0)] [(0, 1, (.t 29)), (1, 1, (.t 31))]⟩,
⟨some 33,none,.fldA 1 (.tf 8)⟩,
⟨some 34,none,.load false 1 (.tf 33)⟩,
⟨some 35,none,.len false (.t 34)⟩,
⟨some 36,none,.fldA 1 (.tf 7)⟩,
⟨some 37,none,.load false 1 (.tf 36)⟩,
⟨some 38,none,.len false (.t 37)⟩,
⟨some 39,none,.build [(.int .i64 0), (.int .i64 0)] [(0, 1, (.t 35)), (1, 1, (.t 38))]⟩,
⟨none, none, .store 2 (.t 4) (.t 32)⟩,
⟨none, none, .store 2 (.t 5) (.t 39)⟩,
⟨some 6,none,.mv (.c (.int .i64 0))⟩]
def x_drive_Distance : XFunc := { np := 2, res := [.cell 4 true 2, .cell 5 true 2, .t 6], body :=
  (.seq (.reg l5x) (.seq (.seq (.reg l5y) (.seq (.reg l5z) (.cond (.t 13) (.seq (.reg l50) .ret) .skip))) (.seq (.reg l51) (.seq (.seq (.reg l52) (.cond (.t 25) (.seq (.reg l54) .ret) .skip)) (.seq (.seq .ghost (.seq .ghost (.seq .ghost (.seq .ghost (.reg l58))))) .ret))))) }
@[go_sem] def m30 : List XO := [
⟨some 0,none,.alloc [(.bool false), (.int .i64 0), (.int .i64 0), (.int .i64 0), (.int .i64 0), (.slice none 0 0)]⟩]
@[go_sem] def m31 : List XO := [
⟨some 1,none,.build [(.int .i64 0), (.int .i64 0)] [(0, 1, (.c (.int .i64 12000))), (1, 1, (.c (.int .i64 1)))]⟩,
⟨some 2,none,.build [(.int .i64 0), (.int .i64 0)] [(0, 1, (.c (.int .i64 16000))), (1, 1, (.c (.int .i64 3)))]⟩,
⟨some 3,none,.bsl 2 [.t 1, .t 2]⟩,
⟨some 4,none,.build [(.bool false), (.int .i64 0), (.int .i64 0), (.int .i64 0), (.int .i64 0), (.slice none 0 0)] [(0, 1, (.c (.bool true))), (1, 1, (.c (.int .i64 1000))), (2, 1, (.c (.int .i64 20))), (3, 1, (.c (.int .i64 2000))), (4, 1, (.c (.int .i64 20000))), (5, 1, (.t 3))]⟩,
⟨none, none, .store 6 (.t 0) (.t 4)⟩]
def x_l01_Example : XFunc := { np := 0, res := [.cell 0 true 6], body :=
  (.seq (.reg m30) (.seq (.reg m31) .ret)) }
@[go_sem] def m32 : List XO := [
⟨some 0,none,.alloc [(.int .i64 0), (.slice none 0 0), (.slice none 0 0)]⟩,
⟨some 1,none,.mv (.c (.slice none 0 0))⟩]
@[go_sem] def m33 : List XO := [
⟨some 3,none,.bsl 1 [(.c (.int .i64 1)), (.c (.int .i64 1)), (.c (.int .i64 2)), (.c (.int .i64 2))]⟩,
⟨some 4,none,.bsl 1 [(.c (.int .i64 1)), (.c (.int .i64 2)), (.c (.int .i64 3)), (.c (.int .i64 4))]⟩,
⟨some 5,none,.build [(.int .i64 0), (.slice none 0 0)] [(0, 1, (.c (.int .i64 2))), (1, 1, (.t 4))]⟩,
⟨some 6,none,.bsl 1 [(.c (.int .i64 0))]⟩,
⟨some 7,none,.build [(.int .i64 0), (.slice none 0 0)] [(0, 1, (.c (.int .i64 1))), (1, 1, (.t 6))]⟩,
⟨some 8,none,.bsl 1 [(.c (.int .i64 1))]⟩,
⟨some 9,none,.build [(.int .i64 0), (.slice none 0 0)] [(0, 1, (.c (.int .i64 1))), (1, 1, (.t 8))]⟩,
⟨some 10,none,.bsl 1 [(.c (.int .i64 2))]⟩,
⟨some 11,none,.build [(.int .i64 0), (.slice none 0 0)] [(0, 1, (.c (.int .i64 1))), (1, 1, (.t 10))]⟩,
⟨some 12,none,.bsl 1 [(.c (.int .i64 3))]⟩,
⟨some 13,none,.build [(.int .i64 0), (.slice none 0 0)] [(0, 1, (.c (.int .i64 1))), (1, 1, (.t 12))]⟩,
⟨some 14,none,.bsl 2 [.t 5, .t 7, .t 9, .t 11, .t 13]⟩,
⟨some 15,none,.build [(.int .i64 0), (.slice none 0 0), (.slice none 0 0)] [(0, 1, (.c (.int .i64 2))), (1, 1, (.t 3)), (2, 1, (.t 14))]⟩,
⟨some 2,none,.alloc [(.int .i64 0), (.slice none 0 0), (.slice none 0 0)]⟩,
⟨none, none, .store 3 (.t 2) (.t 15)⟩]
@[go_sem] def m34 : List XO := [
⟨some 16,none,.load true 3 (.t 2)⟩,
⟨some 17,none,.build [(.int .i64 0), (.int .i64 0)] [(0, 1, (.c (.int .i64 1))), (1, 1, (.c (.int .i64 1)))]⟩,
⟨some 18,none,.build [(.int .i64 0), (.int .i64 0)] [(0, 1, (.c (.int .i64 1))), (1, 1, (.c (.int .i64 2)))]⟩,
⟨some 19,none,.build [(.int .i64 0), (.int .i64 0)] [(0, 1, (.c (.int .i64 2))), (1, 1, (.c (.int .i64 3)))]⟩,
⟨some 20,none,.build [(.int .i64 0), (.int .i64 0)] [(0, 1, (.c (.int .i64 2))), (1, 1, (.c (.int .i64 4)))]⟩,
⟨some 21,none,.bsl 2 [.t 17, .t 18, .t 19, .t 20]⟩,
⟨none, none, .store 3 (.t 0) (.t 16)⟩,
⟨some 1,none,.mv (.t 21)⟩]
def x_l03_Example : XFunc := { np := 0, res := [.cell 0 true 3, .t 1], body :=
  (.seq (.reg m32) (.seq (.reg m33) (.seq (.reg m34) .ret))) }
@[go_sem] def l31 : List XO := [
⟨some 1,none,.boxF (.t 0)⟩,
⟨some 2,none,.mv (.c (.slice none 0 0))⟩,
⟨some 3,none,.mv (.c (.int .i64 0))⟩]
@[go_sem] def l32 : List XO := [
⟨some 10,none,.load true 3 (.tf 1)⟩,
⟨some 11,none,.call "newel/circuit.Critical" [.t 10]⟩,
⟨some 9,none,.mv (.t 11)⟩,
⟨some 12,none,.ext (.t 9) 0⟩,
⟨some 13,none,.ext (.t 9) 1⟩,
⟨some 4,none,.mv (.t 12)⟩,
⟨some 5,none,.mv (.t 13)⟩]
@[go_sem] def l38 : List XO := [
⟨some 14,none,.mv (.t 5)⟩,
⟨some 15,none,.bin .neq .no (.t 14) (.c (.int .i64 0))⟩]
@[go_sem] def l39 : List XO := [
⟨some 16,none,.mv (.t 5)⟩,
⟨some 2,none,.mv (.c (.slice none 0 0))⟩,
⟨some 3,none,.mv (.t 16)⟩]
@[go_sem] def l4a : List XO := [
⟨some 6,none,.mv (.c (.slice none 0 0))⟩]
@[go_sem] def l4b : List XO := [
⟨some 17,none,.fldA 1 (.tf 1)⟩,
⟨some 18,none,.load false 1 (.tf 17)⟩,
⟨some 19,none,.len false (.t 18)⟩,
⟨some 20,none,.mv (.c (.int .i64 0))⟩]
@[go_sem] def l4c : List XO := [
⟨some 21,none,.bin .lss .no (.t 20) (.t 19)⟩]
@[go_sem] def l4d : List XO := [
⟨some 22,none,.mv (.t 20)⟩,
⟨some 7,none,.mv (.t 22)⟩]
@[go_sem] def l4e : List XO := [
⟨some 23,none,.mv (.t 7)⟩,
⟨some 24,none,.bin .add .no (.t 23) (.c (.int .i64 1))⟩,
⟨some 8,none,.mv (.t 24)⟩]
@[go_sem] def l4f : List XO := [
⟨some 25,none,.mv (.t 8)⟩,
⟨some 26,none,.fldA 1 (.tf 1)⟩,
⟨some 27,none,.load false 1 (.tf 26)⟩,
⟨some 28,none,.len false (.t 27)⟩,
⟨some 29,none,.bin .lss .no (.t 25) (.t 28)⟩]
@[go_sem] def l33 : List XO := [
⟨some 32,none,.mv (.t 4)⟩,
⟨some 33,none,.mv (.t 7)⟩,
⟨some 34,none,.call "slices.Contains[[]int,int]" [.t 32, .t 33]⟩,
⟨some 35,none,.un .not (.t 34)⟩,
⟨some 36,none,.mv (.t 35)⟩,
⟨(some 37), (some (36, true)), .mv (.t 4)⟩,
⟨(some 38), (some (36, true)), .mv (.t 8)⟩,
⟨(some 39), (some (36, true)), .call "slices.Contains[[]int,int]" [.t 37, .t 38]⟩,
⟨(some 40), (some (36, true)), .un .not (.t 39)⟩,
⟨some 41,none,.pick (.t 36) (.t 40) (.c (.bool false))⟩,
⟨some 42,none,.mv (.t 41)⟩,
⟨(some 43), (some (42, true)), .load true 3 (.tf 1)⟩,
⟨(some 44), (some (42, true)), .mv (.t 7)⟩,
⟨(some 45), (some (42, true)), .bin .shl .no (.c (.int .i64 1)) (.t 44)⟩,
⟨(some 46), (some (42, true)), .mv (.t 8)⟩,
⟨(some 47), (some (42, true)), .bin .shl .no (.c (.int .i64 1)) (.t 46)⟩,
⟨(some 48), (some (42, true)), .bin .or .no (.t 45) (.t 47)⟩,
⟨(some 49), (some (42, true)), .call "newel/circuit.weak" [.t 43, .t 48]⟩,
⟨(some 50), (some (42, true)), .len false (.t 49)⟩,
⟨(some 51), (some (42, true)), .bin .gtr .no (.t 50) (.c (.int .i64 0))⟩,
⟨some 52,none,.pick (.t 42) (.t 51) (.c (.bool false))⟩]
@[go_sem] def l34 : List XO := [
⟨some 53,none,.mv (.t 6)⟩,
⟨some 54,none,.mv (.t 7)⟩,
⟨some 55,none,.mv (.t 8)⟩,
⟨some 56,none,.build [(.int .i64 0), (.int .i64 0)] [(0, 1, (.t 54)), (1, 1, (.t 55))]⟩,
⟨some 57,none,.bsl 2 [.t 56]⟩,
⟨some 58,none,.app 2 16 (.t 53) (.t 57)⟩,
⟨some 6,none,.mv (.t 58)⟩]
@[go_sem] def l35 : List XO := [
⟨some 30,none,.mv (.t 8)⟩,
⟨some 31,none,.bin .add .no (.t 30) (.c (.int .i64 1))⟩,
⟨some 8,none,.mv (.t 31)⟩]
def l4g : XCode :=
  (.seq (.seq (.reg l4f) (.cond (.t 29) .skip (.exit 2))) (.seq (.block 3 (.seq (.reg l33) (.cond (.t 52) (.reg l34) .skip))) (.reg l35)))
@[go_sem] def l36 : List XO := [
⟨some 59,none,.bin .add .no (.t 20) (.c (.int .i64 1))⟩,
⟨some 20,none,.mv (.t 59)⟩]
def l4h : XCode :=
  (.seq (.reg l4c) (.seq (.cond (.t 21) .skip (.exit 0)) (.seq (.block 1 (.seq (.reg l4d) (.seq (.reg l4e) (.block 2 (.loop l4g))))) (.reg l36))))
@[go_sem] def l37 : List XO := [
⟨some 60,none,.mv (.t 6)⟩,
⟨some 2,none,.mv (.t 60)⟩,
⟨some 3,none,.mv (.c (.int .i64 0))⟩]
def x_circuit_Pairs : XFunc := { np := 1, res := [.t 2, .t 3], body :=
  (.seq (.reg l31) (.seq (.reg l32) (.seq (.seq (.reg l38) (.cond (.t 15) (.seq (.reg l39) .ret) .skip)) (.seq (.reg l4a) (.seq (.seq (.reg l4b) (.block 0 (.loop l4h))) (.seq (.reg l37) .ret)))))) }
@[go_sem] def m7k : List XO := [
⟨some 1,none,.boxF (.t 0)⟩,
⟨some 2,none,.alloc [(.int .i64 0), (.int .i64 0)]⟩]
@[go_sem] def m7l : List XO := [
⟨some 4,none,.fldA 1 (.tf 1)⟩,
⟨some 5,none,.load false 1 (.tf 4)⟩,
⟨some 6,none,.fldA 2 (.tf 1)⟩,
⟨some 7,none,.load false 1 (.tf 6)⟩,
⟨some 8,none,.fldA 3 (.tf 1)⟩,
⟨some 9,none,.load false 1 (.tf 8)⟩,
⟨some 10,none,.bin .mul .no (.t 7) (.t 9)⟩,
⟨some 11,none,.bin .add .no (.t 5) (.t 10)⟩,
⟨some 3,none,.mv (.t 11)⟩]
@[go_sem] def m7m : List XO := [
⟨some 12,none,.fldA 0 (.tf 1)⟩,
⟨some 13,none,.load false 1 (.tf 12)⟩,
⟨some 14,none,.mv (.t 3)⟩,
⟨some 15,none,.bin .sub .no (.t 13) (.t 14)⟩,
⟨some 16,none,.fldA 0 (.tf 1)⟩,
⟨some 17,none,.load false 1 (.tf 16)⟩,
⟨some 18,none,.mv (.t 3)⟩,
⟨some 19,none,.bin .add .no (.t 17) (.t 18)⟩,
⟨some 20,none,.build [(.int .i64 0), (.int .i64 0)] [(0, 1, (.t 15)), (1, 1, (.t 19))]⟩,
⟨none, none, .store 2 (.t 2) (.t 20)⟩]
def x_r10_Allows : XFunc := { np := 1, res := [.cell 2 true 2], body :=
  (.seq (.reg m7k) (.seq (.reg m7l) (.seq (.reg m7m) .ret))) }
@[go_sem] def l8f : List XO := [
⟨some 2,none,.mv (.c (.int .i64 0))⟩]
@[go_sem] def l8g : List XO := [
⟨some 5,none,.mv (.t 0)⟩,
⟨some 6,none,.len false (.t 5)⟩,
⟨some 7,none,.bin .gtr .no (.t 6) (.c (.int .i64 12))⟩]
@[go_sem] def l8i : List XO := [
⟨some 2,none,.mv (.c (.int .i64 2))⟩]
@[go_sem] def l8j : List XO := [
⟨some 8,none,.mv (.t 0)⟩,
⟨some 9,none,.len false (.t 8)⟩,
⟨some 10,none,.mv (.c (.int .i64 0))⟩]
@[go_sem] def l8k : List XO := [
⟨some 11,none,.bin .lss .no (.t 10) (.t 9)⟩]
@[go_sem] def l8l : List XO := [
⟨some 12,none,.ixA 4 (.t 8) (.t 10)⟩,
⟨some 13,none,.load true 4 (.t 12)⟩,
⟨some 4,none,.alloc [(.int .i64 0), (.int .i64 0), (.int .i64 0), (.int .i64 0)]⟩,
⟨none, none, .store 4 (.t 4) (.t 13)⟩]
@[go_sem] def l8m : List XO := [
⟨some 14,none,.fldA 0 (.t 4)⟩,
⟨some 15,none,.load false 1 (.t 14)⟩,
⟨some 16,none,.call "newel/faults.within" [.t 15, (.c (.int .i64 (-100000))), (.c (.int .i64 100000))]⟩,
⟨some 17,none,.un .not (.t 16)⟩,
⟨some 18,none,.mv (.t 17)⟩,
⟨(some 19), (some (18, false)), .fldA 1 (.t 4)⟩,
⟨(some 20), (some (18, false)), .load false 1 (.t 19)⟩,
⟨(some 21), (some (18, false)), .call "newel/faults.within" [.t 20, (.c (.int .i64 0)), (.c (.int .i64 1000))]⟩,
⟨(some 22), (some (18, false)), .un .not (.t 21)⟩,
⟨some 23,none,.pick (.t 18) (.c (.bool true)) (.t 22)⟩,
⟨some 24,none,.mv (.t 23)⟩,
⟨(some 25), (some (24, false)), .fldA 2 (.t 4)⟩,
⟨(some 26), (some (24, false)), .load false 1 (.t 25)⟩,
⟨(some 27), (some (24, false)), .call "newel/faults.within" [.t 26, (.c (.int .i64 0)), (.c (.int .i64 1000))]⟩,
⟨(some 28), (some (24, false)), .un .not (.t 27)⟩,
⟨some 29,none,.pick (.t 24) (.c (.bool true)) (.t 28)⟩,
⟨some 30,none,.mv (.t 29)⟩,
⟨(some 31), (some (30, false)), .fldA 3 (.t 4)⟩,
⟨(some 32), (some (30, false)), .load false 1 (.t 31)⟩,
⟨(some 33), (some (30, false)), .call "newel/faults.within" [.t 32, (.c (.int .i64 0)), (.c (.int .i64 1000))]⟩,
⟨(some 34), (some (30, false)), .un .not (.t 33)⟩,
⟨some 35,none,.pick (.t 30) (.c (.bool true)) (.t 34)⟩]
@[go_sem] def l8n : List XO := [
⟨some 2,none,.mv (.c (.int .i64 100))⟩]
@[go_sem] def l8o : List XO := [
⟨some 36,none,.bin .add .no (.t 10) (.c (.int .i64 1))⟩,
⟨some 10,none,.mv (.t 36)⟩]
def d9z : XCode :=
  (.seq (.reg l8k) (.seq (.cond (.t 11) .skip (.exit 0)) (.seq (.block 1 (.seq (.reg l8l) (.seq (.reg l8m) (.cond (.t 35) (.seq (.reg l8n) .ret) .skip)))) (.reg l8o))))
@[go_sem] def l8h : List XO := [
⟨some 2,none,.mv (.c (.int .i64 0))⟩]
def x_faults_readings : XFunc := { np := 1, res := [.t 2], body :=
  (.seq (.reg l8f) (.seq (.seq (.reg l8g) (.cond (.t 7) (.seq (.reg l8i) .ret) .skip)) (.seq (.seq (.reg l8j) (.block 0 (.loop d9z))) (.seq (.reg l8h) .ret)))) }
@[go_sem] def l7t : List XO := [
⟨some 4,none,.alloc [(.int .i64 0), (.int .i64 0)]⟩,
⟨some 5,none,.mv (.c (.bool false))⟩]
@[go_sem] def l7u : List XO := [
⟨some 10,none,.build [(.int .i64 0), (.int .i64 0)] [(0, 1, (.c (.int .i64 (-1099511627776)))), (1, 1, (.c (.int .i64 1099511627776)))]⟩,
⟨some 6,none,.alloc [(.int .i64 0), (.int .i64 0)]⟩,
⟨none, none, .store 2 (.t 6) (.t 10)⟩]
@[go_sem] def l7w : List XO := [
⟨some 11,none,.mv (.t 0)⟩,
⟨some 12,none,.len false (.t 11)⟩,
⟨some 13,none,.mv (.c (.int .i64 0))⟩]
@[go_sem] def l7x : List XO := [
⟨some 14,none,.bin .lss .no (.t 13) (.t 12)⟩]
@[go_sem] def l7y : List XO := [
⟨some 15,none,.mv (.t 13)⟩,
⟨some 16,none,.ixA 4 (.t 11) (.t 13)⟩,
⟨some 17,none,.load true 4 (.t 16)⟩,
⟨some 8,none,.alloc [(.int .i64 0), (.int .i64 0), (.int .i64 0), (.int .i64 0)]⟩,
⟨some 7,none,.mv (.t 15)⟩,
⟨none, none, .store 4 (.t 8) (.t 17)⟩]
@[go_sem] def l7z : List XO := [
⟨some 18,none,.mv (.t 1)⟩,
⟨some 19,none,.mv (.t 7)⟩,
⟨some 20,none,.bin .shr .no (.t 18) (.t 19)⟩,
⟨some 21,none,.bin .and .no (.t 20) (.c (.int .i64 1))⟩,
⟨some 22,none,.bin .eql .no (.t 21) (.c (.int .i64 0))⟩]
@[go_sem] def l70 : List XO := [
⟨some 23,none,.fldA 1 (.t 8)⟩,
⟨some 24,none,.load false 1 (.t 23)⟩,
⟨some 25,none,.fldA 2 (.t 8)⟩,
⟨some 26,none,.load false 1 (.t 25)⟩,
⟨some 27,none,.fldA 3 (.t 8)⟩,
⟨some 28,none,.load false 1 (.t 27)⟩,
⟨some 29,none,.bin .mul .no (.t 26) (.t 28)⟩,
⟨some 30,none,.bin .add .no (.t 24) (.t 29)⟩,
⟨some 9,none,.mv (.t 30)⟩]
@[go_sem] def l71 : List XO := [
⟨some 31,none,.fldA 0 (.t 6)⟩,
⟨some 32,none,.load false 1 (.t 31)⟩,
⟨some 33,none,.fldA 0 (.t 8)⟩,
⟨some 34,none,.load false 1 (.t 33)⟩,
⟨some 35,none,.mv (.t 9)⟩,
⟨some 36,none,.bin .sub .no (.t 34) (.t 35)⟩,
⟨some 37,none,.max [.t 32, .t 36]⟩,
⟨some 38,none,.fldA 1 (.t 6)⟩,
⟨some 39,none,.load false 1 (.t 38)⟩,
⟨some 40,none,.fldA 0 (.t 8)⟩,
⟨some 41,none,.load false 1 (.t 40)⟩,
⟨some 42,none,.mv (.t 9)⟩,
⟨some 43,none,.bin .add .no (.t 41) (.t 42)⟩,
⟨some 44,none,.min [.t 39, .t 43]⟩,
⟨some 45,none,.build [(.int .i64 0), (.int .i64 0)] [(0, 1, (.t 37)), (1, 1, (.t 44))]⟩,
⟨none, none, .store 2 (.t 6) (.t 45)⟩]
@[go_sem] def l72 : List XO := [
⟨some 46,none,.bin .add .no (.t 13) (.c (.int .i64 1))⟩,
⟨some 13,none,.mv (.t 46)⟩]
def d9x : XCode :=
  (.seq (.reg l7x) (.seq (.cond (.t 14) .skip (.exit 0)) (.seq (.block 1 (.seq (.reg l7y) (.seq (.reg l7z) (.cond (.t 22) (.seq (.reg l70) (.reg l71)) .skip)))) (.reg l72))))
@[go_sem] def l7v : List XO := [
⟨some 47,none,.load true 2 (.tf 6)⟩,
⟨some 48,none,.fldA 0 (.tf 6)⟩,
⟨some 49,none,.load false 1 (.tf 48)⟩,
⟨some 50,none,.fldA 1 (.tf 6)⟩,
⟨some 51,none,.load false 1 (.tf 50)⟩,
⟨some 52,none,.bin .leq .no (.t 49) (.t 51)⟩,
⟨none, none, .store 2 (.t 4) (.t 47)⟩,
⟨some 5,none,.mv (.t 52)⟩]
def x_faults_common : XFunc := { np := 2, res := [.cell 4 true 2, .t 5], body :=
  (.seq (.reg l7t) (.seq (.reg l7u) (.seq (.seq (.reg l7w) (.block 0 (.loop d9x))) (.seq (.seq .ghost (.reg l7v)) .ret)))) }
@[go_sem] def l73 : List XO := [
⟨some 4,none,.mv (.c (.bool false))⟩]
@[go_sem] def l74 : List XO := [
⟨some 7,none,.mv (.t 0)⟩,
⟨some 8,none,.cvtI .u64 (.t 7)⟩,
⟨some 9,none,.call "math/bits.OnesCount" [.t 8]⟩,
⟨some 10,none,.mv (.t 1)⟩,
⟨some 11,none,.cvtI .u64 (.t 10)⟩,
⟨some 12,none,.call "math/bits.OnesCount" [.t 11]⟩,
⟨some 5,none,.mv (.t 9)⟩,
⟨some 6,none,.mv (.t 12)⟩]
@[go_sem] def l75 : List XO := [
⟨some 13,none,.mv (.t 5)⟩,
⟨some 14,none,.mv (.t 6)⟩,
⟨some 15,none,.bin .neq .no (.t 13) (.t 14)⟩]
@[go_sem] def l77 : List XO := [
⟨some 16,none,.mv (.t 5)⟩,
⟨some 17,none,.mv (.t 6)⟩,
⟨some 18,none,.bin .lss .no (.t 16) (.t 17)⟩,
⟨some 4,none,.mv (.t 18)⟩]
@[go_sem] def l78 : List XO := [
⟨some 19,none,.mv (.t 0)⟩,
⟨some 20,none,.call "newel/faults.members" [.t 19]⟩,
⟨some 21,none,.mv (.t 1)⟩,
⟨some 22,none,.call "newel/faults.members" [.t 21]⟩,
⟨some 23,none,.call "slices.Compare[[]int,int]" [.t 20, .t 22]⟩,
⟨some 24,none,.bin .lss .no (.t 23) (.c (.int .i64 0))⟩,
⟨some 4,none,.mv (.t 24)⟩]
def x_faults_fewer : XFunc := { np := 2, res := [.t 4], body :=
  (.seq (.reg l73) (.seq (.seq (.reg l74) (.seq (.reg l75) (.cond (.t 15) (.seq (.reg l77) .ret) .skip))) (.seq (.reg l78) .ret))) }
@[go_sem] def l79 : List XO := [
⟨some 2,none,.mv (.c (.slice none 0 0))⟩]
@[go_sem] def l8a : List XO := [
⟨some 3,none,.mv (.c (.slice none 0 0))⟩]
@[go_sem] def l8b : List XO := [
⟨some 4,none,.mv (.t 0)⟩,
⟨some 5,none,.bin .neq .no (.t 4) (.c (.int .i64 0))⟩]
@[go_sem] def l8c : List XO := [
⟨some 10,none,.mv (.t 3)⟩,
⟨some 11,none,.mv (.t 0)⟩,
⟨some 12,none,.cvtI .u64 (.t 11)⟩,
⟨some 13,none,.call "math/bits.TrailingZeros" [.t 12]⟩,
⟨some 14,none,.bsl 1 [.t 13]⟩,
⟨some 15,none,.app 1 8 (.t 10) (.t 14)⟩,
⟨some 3,none,.mv (.t 15)⟩]
@[go_sem] def l8d : List XO := [
⟨some 6,none,.mv (.t 0)⟩,
⟨some 7,none,.mv (.t 0)⟩,
⟨some 8,none,.bin .sub .no (.t 7) (.c (.int .i64 1))⟩,
⟨some 9,none,.bin .and .no (.t 6) (.t 8)⟩,
⟨some 0,none,.mv (.t 9)⟩]
def d9y : XCode :=
  (.seq (.seq (.reg l8b) (.cond (.t 5) .skip (.exit 0))) (.seq (.block 1 (.reg l8c)) (.reg l8d)))
@[go_sem] def l8e : List XO := [
⟨some 16,none,.mv (.t 3)⟩,
⟨some 2,none,.mv (.t 16)⟩]
def x_faults_members : XFunc := { np := 1, res := [.t 2], body :=
  (.seq (.reg l79) (.seq (.reg l8a) (.seq (.block 0 (.loop d9y)) (.seq (.reg l8e) .ret)))) }
@[go_sem] def m7i : List XO := [
⟨some 6,none,.mv (.c (.bool false))⟩]
@[go_sem] def m7j : List XO := [
⟨some 7,none,.mv (.t 0)⟩,
⟨some 8,none,.mv (.t 1)⟩,
⟨some 9,none,.bin .geq .no (.t 7) (.t 8)⟩,
⟨some 10,none,.mv (.t 9)⟩,
⟨(some 11), (some (10, true)), .mv (.t 0)⟩,
⟨(some 12), (some (10, true)), .mv (.t 2)⟩,
⟨(some 13), (some (10, true)), .bin .leq .no (.t 11) (.t 12)⟩,
⟨some 14,none,.pick (.t 10) (.t 13) (.c (.bool false))⟩,
⟨some 6,none,.mv (.t 14)⟩]
def x_r06_within : XFunc := { np := 3, res := [.t 6], body :=
  (.seq (.reg m7i) (.seq (.reg m7j) .ret)) }
@[go_sem] def m7g : List XO := [
⟨some 3,none,.boxF (.t 0)⟩,
⟨some 6,none,.mv (.c (.bool false))⟩]
@[go_sem] def m7h : List XO := [
⟨some 7,none,.fldA 0 (.tf 3)⟩,
⟨some 8,none,.load false 1 (.tf 7)⟩,
⟨some 9,none,.mv (.t 1)⟩,
⟨some 10,none,.bin .geq .no (.t 8) (.t 9)⟩,
⟨some 11,none,.mv (.t 10)⟩,
⟨(some 12), (some (11, true)), .fldA 0 (.tf 3)⟩,
⟨(some 13), (some (11, true)), .load false 1 (.tf 12)⟩,
⟨(some 14), (some (11, true)), .fldA 1 (.tf 3)⟩,
⟨(some 15), (some (11, true)), .load false 1 (.tf 14)⟩,
⟨(some 16), (some (11, true)), .bin .leq .no (.t 13) (.t 15)⟩,
⟨some 17,none,.pick (.t 11) (.t 16) (.c (.bool false))⟩,
⟨some 18,none,.mv (.t 17)⟩,
⟨(some 19), (some (18, true)), .fldA 1 (.tf 3)⟩,
⟨(some 20), (some (18, true)), .load false 1 (.tf 19)⟩,
⟨(some 21), (some (18, true)), .mv (.t 2)⟩,
⟨(some 22), (some (18, true)), .bin .leq .no (.t 20) (.t 21)⟩,
⟨some 23,none,.pick (.t 18) (.t 22) (.c (.bool false))⟩,
⟨some 6,none,.mv (.t 23)⟩]
def x_r06_spanned : XFunc := { np := 3, res := [.t 6], body :=
  (.seq (.reg m7g) (.seq (.reg m7h) .ret)) }
@[go_sem] def m7w : List XO := [
⟨some 6,none,.mv (.c (.bool false))⟩]
@[go_sem] def m7x : List XO := [
⟨some 7,none,.mv (.t 0)⟩,
⟨some 8,none,.mv (.t 1)⟩,
⟨some 9,none,.bin .geq .no (.t 7) (.t 8)⟩,
⟨some 10,none,.mv (.t 9)⟩,
⟨(some 11), (some (10, true)), .mv (.t 0)⟩,
⟨(some 12), (some (10, true)), .mv (.t 2)⟩,
⟨(some 13), (some (10, true)), .bin .leq .no (.t 11) (.t 12)⟩,
⟨some 14,none,.pick (.t 10) (.t 13) (.c (.bool false))⟩,
⟨some 6,none,.mv (.t 14)⟩]
def x_r10_from : XFunc := { np := 3, res := [.t 6], body :=
  (.seq (.reg m7w) (.seq (.reg m7x) .ret)) }
@[go_sem] def l8t : List XO := [
⟨some 1,none,.boxF (.t 0)⟩,
⟨some 2,none,.mv (.c (.int .i64 0))⟩]
@[go_sem] def l8u : List XO := [
⟨some 6,none,.fldA 3 (.tf 1)⟩,
⟨some 7,none,.load false 1 (.tf 6)⟩,
⟨some 8,none,.bin .lss .no (.t 7) (.c (.int .i64 1))⟩,
⟨some 9,none,.mv (.t 8)⟩,
⟨(some 10), (some (9, false)), .fldA 3 (.tf 1)⟩,
⟨(some 11), (some (9, false)), .load false 1 (.tf 10)⟩,
⟨(some 12), (some (9, false)), .bin .gtr .no (.t 11) (.c (.int .i64 100))⟩,
⟨some 13,none,.pick (.t 9) (.c (.bool true)) (.t 12)⟩,
⟨some 14,none,.mv (.t 13)⟩,
⟨(some 15), (some (14, false)), .fldA 0 (.tf 1)⟩,
⟨(some 16), (some (14, false)), .load false 1 (.tf 15)⟩,
⟨(some 17), (some (14, false)), .len false (.t 16)⟩,
⟨(some 18), (some (14, false)), .bin .lss .no (.t 17) (.c (.int .i64 1))⟩,
⟨some 19,none,.pick (.t 14) (.c (.bool true)) (.t 18)⟩,
⟨some 20,none,.mv (.t 19)⟩,
⟨(some 21), (some (20, false)), .fldA 0 (.tf 1)⟩,
⟨(some 22), (some (20, false)), .load false 1 (.tf 21)⟩,
⟨(some 23), (some (20, false)), .len false (.t 22)⟩,
⟨(some 24), (some (20, false)), .bin .gtr .no (.t 23) (.c (.int .i64 8))⟩,
⟨some 25,none,.pick (.t 20) (.c (.bool true)) (.t 24)⟩,
⟨some 26,none,.mv (.t 25)⟩,
⟨(some 27), (some (26, false)), .fldA 1 (.tf 1)⟩,
⟨(some 28), (some (26, false)), .load false 1 (.tf 27)⟩,
⟨(some 29), (some (26, false)), .len false (.t 28)⟩,
⟨(some 30), (some (26, false)), .bin .gtr .no (.t 29) (.c (.int .i64 12))⟩,
⟨some 31,none,.pick (.t 26) (.c (.bool true)) (.t 30)⟩,
⟨some 32,none,.mv (.t 31)⟩,
⟨(some 33), (some (32, false)), .fldA 2 (.tf 1)⟩,
⟨(some 34), (some (32, false)), .load false 1 (.tf 33)⟩,
⟨(some 35), (some (32, false)), .len false (.t 34)⟩,
⟨(some 36), (some (32, false)), .bin .gtr .no (.t 35) (.c (.int .i64 20))⟩,
⟨some 37,none,.pick (.t 32) (.c (.bool true)) (.t 36)⟩]
@[go_sem] def l84 : List XO := [
⟨some 2,none,.mv (.c (.int .i64 60))⟩]
@[go_sem] def l85 : List XO := [
⟨some 38,none,.fldA 0 (.tf 1)⟩,
⟨some 39,none,.load false 1 (.tf 38)⟩,
⟨some 40,none,.len false (.t 39)⟩,
⟨some 41,none,.mv (.c (.int .i64 0))⟩]
@[go_sem] def l86 : List XO := [
⟨some 42,none,.bin .lss .no (.t 41) (.t 40)⟩]
@[go_sem] def l87 : List XO := [
⟨some 43,none,.mv (.t 41)⟩,
⟨some 3,none,.mv (.t 43)⟩]
@[go_sem] def l88 : List XO := [
⟨some 44,none,.load true 4 (.tf 1)⟩,
⟨some 45,none,.mv (.t 3)⟩,
⟨some 46,none,.call "newel/halls.isComb" [.t 44, .t 45]⟩,
⟨some 47,none,.un .not (.t 46)⟩]
@[go_sem] def l89 : List XO := [
⟨some 2,none,.mv (.c (.int .i64 60))⟩]
@[go_sem] def l9a : List XO := [
⟨some 48,none,.bin .add .no (.t 41) (.c (.int .i64 1))⟩,
⟨some 41,none,.mv (.t 48)⟩]
def d91 : XCode :=
  (.seq (.reg l86) (.seq (.cond (.t 42) .skip (.exit 0)) (.seq (.block 1 (.seq (.reg l87) (.seq (.reg l88) (.cond (.t 47) (.seq (.reg l89) .ret) .skip)))) (.reg l9a))))
@[go_sem] def l8v : List XO := [
⟨some 49,none,.fldA 1 (.tf 1)⟩,
⟨some 50,none,.load false 1 (.tf 49)⟩,
⟨some 51,none,.mkfn "newel/halls.Check$1" [] [.t 1]⟩,
⟨some 52,none,.call "slices.ContainsFunc[[]newel/api.Train,newel/api.Train]" [.t 50, .t 51]⟩]
@[go_sem] def l8w : List XO := [
⟨some 2,none,.mv (.c (.int .i64 60))⟩]
@[go_sem] def l8x : List XO := [
⟨some 53,none,.fldA 2 (.tf 1)⟩,
⟨some 54,none,.load false 1 (.tf 53)⟩,
⟨some 55,none,.len false (.t 54)⟩,
⟨some 56,none,.mv (.c (.int .i64 0))⟩]
@[go_sem] def l8y : List XO := [
⟨some 57,none,.bin .lss .no (.t 56) (.t 55)⟩]
@[go_sem] def l8z : List XO := [
⟨some 58,none,.mv (.t 56)⟩,
⟨some 59,none,.ixA 3 (.t 54) (.t 56)⟩,
⟨some 60,none,.load true 3 (.t 59)⟩,
⟨some 5,none,.alloc [(.int .i64 0), (.int .i64 0), (.int .i64 0)]⟩,
⟨some 4,none,.mv (.t 58)⟩,
⟨none, none, .store 3 (.t 5) (.t 60)⟩]
@[go_sem] def l80 : List XO := [
⟨some 61,none,.fldA 0 (.t 5)⟩,
⟨some 62,none,.load false 1 (.t 61)⟩,
⟨some 63,none,.bin .lss .no (.t 62) (.c (.int .i64 0))⟩,
⟨some 64,none,.mv (.t 63)⟩,
⟨(some 65), (some (64, false)), .fldA 0 (.t 5)⟩,
⟨(some 66), (some (64, false)), .load false 1 (.t 65)⟩,
⟨(some 67), (some (64, false)), .fldA 3 (.tf 1)⟩,
⟨(some 68), (some (64, false)), .load false 1 (.tf 67)⟩,
⟨(some 69), (some (64, false)), .bin .geq .no (.t 66) (.t 68)⟩,
⟨some 70,none,.pick (.t 64) (.c (.bool true)) (.t 69)⟩,
⟨some 71,none,.mv (.t 70)⟩,
⟨(some 72), (some (71, false)), .mv (.t 4)⟩,
⟨(some 73), (some (71, false)), .bin .gtr .no (.t 72) (.c (.int .i64 0))⟩,
⟨(some 74), (some (71, false)), .mv (.t 73)⟩,
⟨(some 75), (some (74, true)), .fldA 0 (.t 5)⟩,
⟨(some 76), (some (74, true)), .load false 1 (.t 75)⟩,
⟨(some 77), (some (74, true)), .fldA 2 (.tf 1)⟩,
⟨(some 78), (some (74, true)), .load false 1 (.tf 77)⟩,
⟨(some 79), (some (74, true)), .mv (.t 4)⟩,
⟨(some 80), (some (74, true)), .bin .sub .no (.t 79) (.c (.int .i64 1))⟩,
⟨(some 81), (some (74, true)), .ixA 3 (.t 78) (.t 80)⟩,
⟨(some 82), (some (74, true)), .fldA 0 (.t 81)⟩,
⟨(some 83), (some (74, true)), .load false 1 (.t 82)⟩,
⟨(some 84), (some (74, true)), .bin .lss .no (.t 76) (.t 83)⟩,
⟨(some 85), (some (71, false)), .pick (.t 74) (.t 84) (.c (.bool false))⟩,
⟨some 86,none,.pick (.t 71) (.c (.bool true)) (.t 85)⟩,
⟨some 87,none,.mv (.t 86)⟩,
⟨(some 88), (some (87, false)), .fldA 1 (.t 5)⟩,
⟨(some 89), (some (87, false)), .load false 1 (.t 88)⟩,
⟨(some 90), (some (87, false)), .bin .lss .no (.t 89) (.c (.int .i64 0))⟩,
⟨some 91,none,.pick (.t 87) (.c (.bool true)) (.t 90)⟩,
⟨some 92,none,.mv (.t 91)⟩,
⟨(some 93), (some (92, false)), .fldA 1 (.t 5)⟩,
⟨(some 94), (some (92, false)), .load false 1 (.t 93)⟩,
⟨(some 95), (some (92, false)), .fldA 0 (.tf 1)⟩,
⟨(some 96), (some (92, false)), .load false 1 (.tf 95)⟩,
⟨(some 97), (some (92, false)), .len false (.t 96)⟩,
⟨(some 98), (some (92, false)), .bin .geq .no (.t 94) (.t 97)⟩,
⟨some 99,none,.pick (.t 92) (.c (.bool true)) (.t 98)⟩,
⟨some 100,none,.mv (.t 99)⟩,
⟨(some 101), (some (100, false)), .fldA 2 (.t 5)⟩,
⟨(some 102), (some (100, false)), .load false 1 (.t 101)⟩,
⟨(some 103), (some (100, false)), .build [(.int .i64 0), (.int .i64 0)] [(1, 1, (.c (.int .i64 1000)))]⟩,
⟨(some 104), (some (100, false)), .call "newel/halls.in" [.t 102, .t 103]⟩,
⟨(some 105), (some (100, false)), .un .not (.t 104)⟩,
⟨some 106,none,.pick (.t 100) (.c (.bool true)) (.t 105)⟩]
@[go_sem] def l81 : List XO := [
⟨some 2,none,.mv (.c (.int .i64 60))⟩]
@[go_sem] def l82 : List XO := [
⟨some 107,none,.bin .add .no (.t 56) (.c (.int .i64 1))⟩,
⟨some 56,none,.mv (.t 107)⟩]
def d90 : XCode :=
  (.seq (.reg l8y) (.seq (.cond (.t 57) .skip (.exit 2)) (.seq (.block 3 (.seq (.reg l8z) (.seq (.reg l80) (.cond (.t 106) (.seq (.reg l81) .ret) .skip)))) (.reg l82))))
@[go_sem] def l83 : List XO := [
⟨some 2,none,.mv (.c (.int .i64 0))⟩]
def x_halls_Check : XFunc := { np := 1, res := [.t 2], body :=
  (.seq (.reg l8t) (.seq (.seq (.reg l8u) (.cond (.t 37) (.seq (.reg l84) .ret) .skip)) (.seq (.seq (.reg l85) (.block 0 (.loop d91))) (.seq (.seq (.reg l8v) (.cond (.t 52) (.seq (.reg l8w) .ret) .skip)) (.seq (.seq (.reg l8x) (.block 2 (.loop d90))) (.seq (.reg l83) .ret)))))) }
@[go_sem] def m2h : List XO := [
⟨some 2,none,.boxF (.t 0)⟩,
⟨some 3,none,.boxF (.t 1)⟩,
⟨some 4,none,.mv (.c (.bool false))⟩]
@[go_sem] def m2i : List XO := [
⟨some 12,none,.fldA 0 (.tf 3)⟩,
⟨some 13,none,.load false 1 (.tf 12)⟩,
⟨some 14,none,.len false (.t 13)⟩,
⟨some 15,none,.fldA 1 (.tf 2)⟩,
⟨some 16,none,.load false 1 (.tf 15)⟩,
⟨some 17,none,.len false (.t 16)⟩,
⟨some 18,none,.bin .neq .no (.t 14) (.t 17)⟩,
⟨some 19,none,.mv (.t 18)⟩,
⟨(some 20), (some (19, false)), .fldA 1 (.tf 3)⟩,
⟨(some 21), (some (19, false)), .load false 1 (.tf 20)⟩,
⟨(some 22), (some (19, false)), .len false (.t 21)⟩,
⟨(some 23), (some (19, false)), .fldA 1 (.tf 2)⟩,
⟨(some 24), (some (19, false)), .load false 1 (.tf 23)⟩,
⟨(some 25), (some (19, false)), .len false (.t 24)⟩,
⟨(some 26), (some (19, false)), .bin .neq .no (.t 22) (.t 25)⟩,
⟨some 27,none,.pick (.t 19) (.c (.bool true)) (.t 26)⟩,
⟨some 28,none,.mv (.t 27)⟩,
⟨(some 29), (some (28, false)), .fldA 2 (.tf 3)⟩,
⟨(some 30), (some (28, false)), .load false 1 (.tf 29)⟩,
⟨(some 31), (some (28, false)), .len false (.t 30)⟩,
⟨(some 32), (some (28, false)), .fldA 0 (.tf 2)⟩,
⟨(some 33), (some (28, false)), .load false 1 (.tf 32)⟩,
⟨(some 34), (some (28, false)), .len false (.t 33)⟩,
⟨(some 35), (some (28, false)), .bin .neq .no (.t 31) (.t 34)⟩,
⟨some 36,none,.pick (.t 28) (.c (.bool true)) (.t 35)⟩]
@[go_sem] def m2r : List XO := [
⟨some 4,none,.mv (.c (.bool false))⟩]
@[go_sem] def m2x : List XO := [
⟨some 37,none,.fldA 1 (.tf 2)⟩,
⟨some 38,none,.load false 1 (.tf 37)⟩,
⟨some 39,none,.len false (.t 38)⟩,
⟨some 40,none,.mv (.c (.int .i64 0))⟩]
@[go_sem] def m2y : List XO := [
⟨some 41,none,.bin .lss .no (.t 40) (.t 39)⟩]
@[go_sem] def m2z : List XO := [
⟨some 42,none,.mv (.t 40)⟩,
⟨some 43,none,.ixA 3 (.t 38) (.t 40)⟩,
⟨some 44,none,.load true 3 (.t 43)⟩,
⟨some 6,none,.alloc [(.int .i64 0), (.int .i64 0), (.slice none 0 0)]⟩,
⟨some 5,none,.mv (.t 42)⟩,
⟨none, none, .store 3 (.t 6) (.t 44)⟩]
@[go_sem] def m20 : List XO := [
⟨some 45,none,.fldA 0 (.tf 3)⟩,
⟨some 46,none,.load false 1 (.tf 45)⟩,
⟨some 47,none,.mv (.t 5)⟩,
⟨some 48,none,.ixA 1 (.t 46) (.t 47)⟩,
⟨some 49,none,.load false 1 (.t 48)⟩,
⟨some 50,none,.fldA 0 (.t 6)⟩,
⟨some 51,none,.load true 2 (.t 50)⟩,
⟨some 52,none,.call "newel/halls.in" [.t 49, .t 51]⟩,
⟨some 53,none,.un .not (.t 52)⟩,
⟨some 54,none,.mv (.t 53)⟩,
⟨(some 55), (some (54, false)), .fldA 1 (.tf 3)⟩,
⟨(some 56), (some (54, false)), .load false 1 (.tf 55)⟩,
⟨(some 57), (some (54, false)), .mv (.t 5)⟩,
⟨(some 58), (some (54, false)), .ixA 1 (.t 56) (.t 57)⟩,
⟨(some 59), (some (54, false)), .load false 1 (.t 58)⟩,
⟨(some 60), (some (54, false)), .len false (.t 59)⟩,
⟨(some 61), (some (54, false)), .fldA 2 (.t 6)⟩,
⟨(some 62), (some (54, false)), .load false 1 (.t 61)⟩,
⟨(some 63), (some (54, false)), .len false (.t 62)⟩,
⟨(some 64), (some (54, false)), .bin .neq .no (.t 60) (.t 63)⟩,
⟨some 65,none,.pick (.t 54) (.c (.bool true)) (.t 64)⟩]
@[go_sem] def m21 : List XO := [
⟨some 4,none,.mv (.c (.bool false))⟩]
@[go_sem] def m22 : List XO := [
⟨some 66,none,.fldA 2 (.t 6)⟩,
⟨some 67,none,.load false 1 (.t 66)⟩,
⟨some 68,none,.len false (.t 67)⟩,
⟨some 69,none,.mv (.c (.int .i64 0))⟩]
@[go_sem] def m23 : List XO := [
⟨some 70,none,.bin .lss .no (.t 69) (.t 68)⟩]
@[go_sem] def m2j : List XO := [
⟨some 71,none,.mv (.t 69)⟩,
⟨some 72,none,.ixA 3 (.t 67) (.t 69)⟩,
⟨some 73,none,.load true 3 (.t 72)⟩,
⟨some 8,none,.alloc [(.int .i64 0), (.int .i64 0), (.int .i64 0)]⟩,
⟨some 7,none,.mv (.t 71)⟩,
⟨none, none, .store 3 (.t 8) (.t 73)⟩]
@[go_sem] def m2k : List XO := [
⟨some 74,none,.fldA 1 (.tf 3)⟩,
⟨some 75,none,.load false 1 (.tf 74)⟩,
⟨some 76,none,.mv (.t 5)⟩,
⟨some 77,none,.ixA 1 (.t 75) (.t 76)⟩,
⟨some 78,none,.load false 1 (.t 77)⟩,
⟨some 79,none,.mv (.t 7)⟩,
⟨some 80,none,.ixA 1 (.t 78) (.t 79)⟩,
⟨some 81,none,.load false 1 (.t 80)⟩,
⟨some 82,none,.fldA 1 (.t 8)⟩,
⟨some 83,none,.load true 2 (.t 82)⟩,
⟨some 84,none,.call "newel/halls.in" [.t 81, .t 83]⟩,
⟨some 85,none,.un .not (.t 84)⟩]
@[go_sem] def m2l : List XO := [
⟨some 4,none,.mv (.c (.bool false))⟩]
@[go_sem] def m2m : List XO := [
⟨some 86,none,.bin .add .no (.t 69) (.c (.int .i64 1))⟩,
⟨some 69,none,.mv (.t 86)⟩]
def g0g : XCode :=
  (.seq (.reg m23) (.seq (.cond (.t 70) .skip (.exit 2)) (.seq (.block 3 (.seq (.reg m2j) (.seq (.reg m2k) (.cond (.t 85) (.seq (.reg m2l) .ret) .skip)))) (.reg m2m))))
@[go_sem] def m2n : List XO := [
⟨some 87,none,.bin .add .no (.t 40) (.c (.int .i64 1))⟩,
⟨some 40,none,.mv (.t 87)⟩]
def g0h : XCode :=
  (.seq (.reg m2y) (.seq (.cond (.t 41) .skip (.exit 0)) (.seq (.block 1 (.seq (.reg m2z) (.seq (.seq (.reg m20) (.cond (.t 65) (.seq (.reg m21) .ret) .skip)) (.seq (.reg m22) (.block 2 (.loop g0g)))))) (.reg m2n))))
@[go_sem] def m2o : List XO := [
⟨some 88,none,.fldA 0 (.tf 2)⟩,
⟨some 89,none,.load false 1 (.tf 88)⟩,
⟨some 90,none,.len false (.t 89)⟩,
⟨some 91,none,.mv (.c (.int .i64 0))⟩]
@[go_sem] def m2p : List XO := [
⟨some 92,none,.bin .lss .no (.t 91) (.t 90)⟩]
@[go_sem] def m2q : List XO := [
⟨some 93,none,.mv (.t 91)⟩,
⟨some 94,none,.ixA 5 (.t 89) (.t 91)⟩,
⟨some 95,none,.load true 5 (.t 94)⟩,
⟨some 10,none,.alloc [(.int .i64 0), (.int .i64 0), (.int .i64 0), (.int .i64 0), (.int .i64 0)]⟩,
⟨some 9,none,.mv (.t 93)⟩,
⟨none, none, .store 5 (.t 10) (.t 95)⟩]
@[go_sem] def m2s : List XO := [
⟨some 96,none,.mkfn "newel/halls.isDay$1" [] [.t 10]⟩,
⟨some 11,none,.mv (.t 96)⟩]
@[go_sem] def m2t : List XO := [
⟨some 97,none,.fldA 2 (.tf 3)⟩,
⟨some 98,none,.load false 1 (.tf 97)⟩,
⟨some 99,none,.mv (.t 9)⟩,
⟨some 100,none,.ixA 1 (.t 98) (.t 99)⟩,
⟨some 101,none,.load false 1 (.t 100)⟩,
⟨some 102,none,.len false (.t 101)⟩,
⟨some 103,none,.bin .lss .no (.t 102) (.c (.int .i64 1))⟩,
⟨some 104,none,.mv (.t 103)⟩,
⟨(some 105), (some (104, false)), .fldA 2 (.tf 3)⟩,
⟨(some 106), (some (104, false)), .load false 1 (.tf 105)⟩,
⟨(some 107), (some (104, false)), .mv (.t 9)⟩,
⟨(some 108), (some (104, false)), .ixA 1 (.t 106) (.t 107)⟩,
⟨(some 109), (some (104, false)), .load false 1 (.t 108)⟩,
⟨(some 110), (some (104, false)), .len false (.t 109)⟩,
⟨(some 111), (some (104, false)), .bin .gtr .no (.t 110) (.c (.int .i64 20))⟩,
⟨some 112,none,.pick (.t 104) (.c (.bool true)) (.t 111)⟩,
⟨some 113,none,.mv (.t 112)⟩,
⟨(some 114), (some (113, false)), .fldA 2 (.tf 3)⟩,
⟨(some 115), (some (113, false)), .load false 1 (.tf 114)⟩,
⟨(some 116), (some (113, false)), .mv (.t 9)⟩,
⟨(some 117), (some (113, false)), .ixA 1 (.t 115) (.t 116)⟩,
⟨(some 118), (some (113, false)), .load false 1 (.t 117)⟩,
⟨(some 119), (some (113, false)), .mv (.t 11)⟩,
⟨(some 120), (some (113, false)), .call "slices.ContainsFunc[[]int,int]" [.t 118, .t 119]⟩,
⟨some 121,none,.pick (.t 113) (.c (.bool true)) (.t 120)⟩]
@[go_sem] def m2u : List XO := [
⟨some 4,none,.mv (.c (.bool false))⟩]
@[go_sem] def m2v : List XO := [
⟨some 122,none,.bin .add .no (.t 91) (.c (.int .i64 1))⟩,
⟨some 91,none,.mv (.t 122)⟩]
def g0i : XCode :=
  (.seq (.reg m2p) (.seq (.cond (.t 92) .skip (.exit 4)) (.seq (.block 5 (.seq (.reg m2q) (.seq (.reg m2s) (.seq (.reg m2t) (.cond (.t 121) (.seq (.reg m2u) .ret) .skip))))) (.reg m2v))))
@[go_sem] def m2w : List XO := [
⟨some 4,none,.mv (.c (.bool true))⟩]
def x_halls_isDay : XFunc := { np := 2, res := [.t 4], body :=
  (.seq (.reg m2h) (.seq (.seq (.reg m2i) (.cond (.t 36) (.seq (.reg m2r) .ret) .skip)) (.seq (.seq (.reg m2x) (.block 0 (.loop g0h))) (.seq (.seq (.reg m2o) (.block 4 (.loop g0i))) (.seq (.reg m2w) .ret))))) }
@[go_sem] def m3l : List XO := [
⟨some 2,none,.boxF (.t 0)⟩,
⟨some 4,none,.mv (.c (.slice none 0 0))⟩]
@[go_sem] def m3m : List XO := [
⟨some 9,none,.fldA 3 (.tf 2)⟩,
⟨some 10,none,.load false 1 (.tf 9)⟩,
⟨some 11,none,.mksl 1 [(.int .i64 0)] 8 (.t 10) (.t 10)⟩,
⟨some 5,none,.mv (.t 11)⟩]
@[go_sem] def m3q : List XO := [
⟨some 12,none,.fldA 0 (.tf 2)⟩,
⟨some 13,none,.load false 1 (.tf 12)⟩,
⟨some 14,none,.mv (.t 1)⟩,
⟨some 15,none,.ixA 5 (.t 13) (.t 14)⟩,
⟨some 16,none,.fldA 0 (.t 15)⟩,
⟨some 17,none,.load false 1 (.t 16)⟩,
⟨some 6,none,.mv (.t 17)⟩,
⟨some 7,none,.mv (.c (.int .i64 0))⟩]
@[go_sem] def m3r : List XO := [
⟨some 18,none,.mv (.t 5)⟩,
⟨some 19,none,.len false (.t 18)⟩,
⟨some 20,none,.mv (.c (.int .i64 0))⟩]
@[go_sem] def m3s : List XO := [
⟨some 21,none,.bin .lss .no (.t 20) (.t 19)⟩]
@[go_sem] def m3t : List XO := [
⟨some 22,none,.mv (.t 20)⟩,
⟨some 8,none,.mv (.t 22)⟩]
@[go_sem] def m3u : List XO := [
⟨some 23,none,.mv (.t 7)⟩,
⟨some 24,none,.fldA 2 (.tf 2)⟩,
⟨some 25,none,.load false 1 (.tf 24)⟩,
⟨some 26,none,.len false (.t 25)⟩,
⟨some 27,none,.bin .lss .no (.t 23) (.t 26)⟩,
⟨some 28,none,.mv (.t 27)⟩,
⟨(some 29), (some (28, true)), .fldA 2 (.tf 2)⟩,
⟨(some 30), (some (28, true)), .load false 1 (.tf 29)⟩,
⟨(some 31), (some (28, true)), .mv (.t 7)⟩,
⟨(some 32), (some (28, true)), .ixA 3 (.t 30) (.t 31)⟩,
⟨(some 33), (some (28, true)), .fldA 0 (.t 32)⟩,
⟨(some 34), (some (28, true)), .load false 1 (.t 33)⟩,
⟨(some 35), (some (28, true)), .mv (.t 8)⟩,
⟨(some 36), (some (28, true)), .bin .leq .no (.t 34) (.t 35)⟩,
⟨some 37,none,.pick (.t 28) (.t 36) (.c (.bool false))⟩]
@[go_sem] def m3v : List XO := [
⟨some 40,none,.fldA 2 (.tf 2)⟩,
⟨some 41,none,.load false 1 (.tf 40)⟩,
⟨some 42,none,.mv (.t 7)⟩,
⟨some 43,none,.ixA 3 (.t 41) (.t 42)⟩,
⟨some 44,none,.fldA 1 (.t 43)⟩,
⟨some 45,none,.load false 1 (.t 44)⟩,
⟨some 46,none,.mv (.t 1)⟩,
⟨some 47,none,.bin .eql .no (.t 45) (.t 46)⟩]
@[go_sem] def m3w : List XO := [
⟨some 48,none,.fldA 2 (.tf 2)⟩,
⟨some 49,none,.load false 1 (.tf 48)⟩,
⟨some 50,none,.mv (.t 7)⟩,
⟨some 51,none,.ixA 3 (.t 49) (.t 50)⟩,
⟨some 52,none,.fldA 2 (.t 51)⟩,
⟨some 53,none,.load false 1 (.t 52)⟩,
⟨some 6,none,.mv (.t 53)⟩]
@[go_sem] def m3x : List XO := [
⟨some 38,none,.mv (.t 7)⟩,
⟨some 39,none,.bin .add .no (.t 38) (.c (.int .i64 1))⟩,
⟨some 7,none,.mv (.t 39)⟩]
def g0l : XCode :=
  (.seq (.seq (.reg m3u) (.cond (.t 37) .skip (.exit 2))) (.seq (.block 3 (.seq (.reg m3v) (.cond (.t 47) (.reg m3w) .skip))) (.reg m3x)))
@[go_sem] def m3n : List XO := [
⟨some 54,none,.mv (.t 5)⟩,
⟨some 55,none,.mv (.t 8)⟩,
⟨some 56,none,.mv (.t 6)⟩,
⟨some 57,none,.ixA 1 (.t 54) (.t 55)⟩,
⟨none, none, .store 1 (.t 57) (.t 56)⟩]
@[go_sem] def m3o : List XO := [
⟨some 58,none,.bin .add .no (.t 20) (.c (.int .i64 1))⟩,
⟨some 20,none,.mv (.t 58)⟩]
def g0m : XCode :=
  (.seq (.reg m3s) (.seq (.cond (.t 21) .skip (.exit 0)) (.seq (.block 1 (.seq (.reg m3t) (.seq (.block 2 (.loop g0l)) (.reg m3n)))) (.reg m3o))))
@[go_sem] def m3p : List XO := [
⟨some 59,none,.mv (.t 5)⟩,
⟨some 4,none,.mv (.t 59)⟩]
def x_halls_rates : XFunc := { np := 2, res := [.t 4], body :=
  (.seq (.reg m3l) (.seq (.reg m3m) (.seq (.reg m3q) (.seq (.seq (.reg m3r) (.block 0 (.loop g0m))) (.seq (.reg m3p) .ret))))) }
@[go_sem] def m13 : List XO := [
⟨some 3,none,.boxF (.t 0)⟩,
⟨some 6,none,.mv (.c (.int .i64 0))⟩]
@[go_sem] def m14 : List XO := [
⟨some 8,none,.load true 4 (.tf 3)⟩,
⟨some 9,none,.call "newel/halls.Check" [.t 8]⟩,
⟨some 7,none,.mv (.t 9)⟩]
@[go_sem] def m15 : List XO := [
⟨some 10,none,.mv (.t 7)⟩,
⟨some 11,none,.bin .neq .no (.t 10) (.c (.int .i64 0))⟩]
@[go_sem] def m16 : List XO := [
⟨some 12,none,.mv (.t 7)⟩,
⟨some 6,none,.mv (.t 12)⟩]
@[go_sem] def m17 : List XO := [
⟨some 13,none,.mv (.t 1)⟩,
⟨some 14,none,.bin .lss .no (.t 13) (.c (.int .i64 0))⟩,
⟨some 15,none,.mv (.t 14)⟩,
⟨(some 16), (some (15, false)), .mv (.t 1)⟩,
⟨(some 17), (some (15, false)), .fldA 0 (.tf 3)⟩,
⟨(some 18), (some (15, false)), .load false 1 (.tf 17)⟩,
⟨(some 19), (some (15, false)), .len false (.t 18)⟩,
⟨(some 20), (some (15, false)), .bin .geq .no (.t 16) (.t 19)⟩,
⟨some 21,none,.pick (.t 15) (.c (.bool true)) (.t 20)⟩,
⟨some 22,none,.mv (.t 21)⟩,
⟨(some 23), (some (22, false)), .mv (.t 2)⟩,
⟨(some 24), (some (22, false)), .mkfn "newel/halls.check$1" [] [.t 3]⟩,
⟨(some 25), (some (22, false)), .call "slices.ContainsFunc[[]int,int]" [.t 23, .t 24]⟩,
⟨some 26,none,.pick (.t 22) (.c (.bool true)) (.t 25)⟩]
@[go_sem] def m18 : List XO := [
⟨some 6,none,.mv (.c (.int .i64 1))⟩]
@[go_sem] def m19 : List XO := [
⟨some 6,none,.mv (.c (.int .i64 0))⟩]
def x_halls_check : XFunc := { np := 3, res := [.t 6], body :=
  (.seq (.reg m13) (.seq (.seq (.reg m14) (.seq (.reg m15) (.cond (.t 11) (.seq (.reg m16) .ret) .skip))) (.seq (.seq (.reg m17) (.cond (.t 26) (.seq (.reg m18) .ret) .skip)) (.seq (.reg m19) .ret)))) }
@[go_sem] def m0m : List XO := [
⟨some 2,none,.boxF (.t 0)⟩,
⟨some 4,none,.mv (.c (.slice none 0 0))⟩]
@[go_sem] def m0n : List XO := [
⟨some 5,none,.mv (.c (.slice none 0 0))⟩]
@[go_sem] def m0x : List XO := [
⟨some 16,none,.fldA 0 (.tf 2)⟩,
⟨some 17,none,.load false 1 (.tf 16)⟩,
⟨some 18,none,.len false (.t 17)⟩,
⟨some 19,none,.mv (.c (.int .i64 0))⟩]
@[go_sem] def m06 : List XO := [
⟨some 20,none,.bin .lss .no (.t 19) (.t 18)⟩]
@[go_sem] def m1f : List XO := [
⟨some 21,none,.mv (.t 19)⟩,
⟨some 6,none,.mv (.t 21)⟩]
@[go_sem] def m1j : List XO := [
⟨some 22,none,.bsl 1 [(.c (.int .i64 0))]⟩,
⟨some 23,none,.bsl 1 [(.c (.int .i64 0))]⟩,
⟨some 24,none,.build [(.slice none 0 0), (.slice none 0 0), (.slice none 0 0), (.slice none 0 0)] [(0, 1, (.t 22)), (1, 1, (.t 23))]⟩,
⟨some 25,none,.box (.t 24)⟩,
⟨some 7,none,.mv (.t 25)⟩]
@[go_sem] def m1k : List XO := [
⟨some 26,none,.fldA 3 (.tf 2)⟩,
⟨some 27,none,.load false 1 (.tf 26)⟩,
⟨some 28,none,.mv (.c (.int .i64 0))⟩]
@[go_sem] def m1l : List XO := [
⟨some 29,none,.bin .lss .no (.t 28) (.t 27)⟩]
@[go_sem] def m1m : List XO := [
⟨some 30,none,.mv (.t 28)⟩,
⟨some 8,none,.mv (.t 30)⟩]
@[go_sem] def m1n : List XO := [
⟨some 31,none,.fldA 3 (.tf 2)⟩,
⟨some 32,none,.load false 1 (.tf 31)⟩,
⟨some 33,none,.mksl 1 [(.int .i64 0)] 8 (.t 32) (.t 32)⟩,
⟨some 9,none,.mv (.t 33)⟩]
@[go_sem] def m0o : List XO := [
⟨some 34,none,.mv (.t 8)⟩,
⟨some 10,none,.mv (.t 34)⟩]
@[go_sem] def m0p : List XO := [
⟨some 35,none,.mv (.t 10)⟩,
⟨some 36,none,.fldA 3 (.tf 2)⟩,
⟨some 37,none,.load false 1 (.tf 36)⟩,
⟨some 38,none,.bin .lss .no (.t 35) (.t 37)⟩]
@[go_sem] def m0q : List XO := [
⟨some 41,none,.mv (.t 9)⟩,
⟨some 42,none,.mv (.t 10)⟩,
⟨some 43,none,.load true 4 (.tf 2)⟩,
⟨some 44,none,.mv (.t 6)⟩,
⟨some 45,none,.mv (.t 8)⟩,
⟨some 46,none,.mv (.t 10)⟩,
⟨some 47,none,.call "newel/halls.brought" [.t 43, .t 44, .t 45, .t 46]⟩,
⟨some 48,none,.ixA 1 (.t 41) (.t 42)⟩,
⟨none, none, .store 1 (.t 48) (.t 47)⟩]
@[go_sem] def m0r : List XO := [
⟨some 49,none,.fldA 0 (.tf 2)⟩,
⟨some 50,none,.load false 1 (.tf 49)⟩,
⟨some 51,none,.mv (.t 6)⟩,
⟨some 52,none,.slc 5 (.t 50) none (some (.t 51))⟩,
⟨some 53,none,.len false (.t 52)⟩,
⟨some 54,none,.mv (.c (.int .i64 0))⟩]
@[go_sem] def m0s : List XO := [
⟨some 55,none,.bin .lss .no (.t 54) (.t 53)⟩]
@[go_sem] def m0t : List XO := [
⟨some 56,none,.mv (.t 54)⟩,
⟨some 57,none,.ixA 5 (.t 52) (.t 54)⟩,
⟨some 58,none,.load true 5 (.t 57)⟩,
⟨some 12,none,.alloc [(.int .i64 0), (.int .i64 0), (.int .i64 0), (.int .i64 0), (.int .i64 0)]⟩,
⟨some 11,none,.mv (.t 56)⟩,
⟨none, none, .store 5 (.t 12) (.t 58)⟩]
@[go_sem] def m0u : List XO := [
⟨some 59,none,.fldA 2 (.t 12)⟩,
⟨some 60,none,.load false 1 (.t 59)⟩,
⟨some 61,none,.mv (.t 6)⟩,
⟨some 62,none,.bin .eql .no (.t 60) (.t 61)⟩]
@[go_sem] def m0v : List XO := [
⟨some 63,none,.mv (.t 9)⟩,
⟨some 64,none,.mv (.t 10)⟩,
⟨some 65,none,.ixA 1 (.t 63) (.t 64)⟩,
⟨some 66,none,.load false 1 (.t 65)⟩,
⟨some 67,none,.mv (.t 5)⟩,
⟨some 68,none,.mv (.t 11)⟩,
⟨some 69,none,.ixA 1 (.t 67) (.t 68)⟩,
⟨some 70,none,.load false 1 (.t 69)⟩,
⟨some 71,none,.mv (.t 8)⟩,
⟨some 72,none,.fldA 3 (.t 12)⟩,
⟨some 73,none,.fldA 1 (.t 72)⟩,
⟨some 74,none,.load false 1 (.t 73)⟩,
⟨some 75,none,.bin .sub .no (.t 71) (.t 74)⟩,
⟨some 76,none,.mv (.t 10)⟩,
⟨some 77,none,.fldA 3 (.t 12)⟩,
⟨some 78,none,.fldA 0 (.t 77)⟩,
⟨some 79,none,.load false 1 (.t 78)⟩,
⟨some 80,none,.bin .sub .no (.t 76) (.t 79)⟩,
⟨some 81,none,.call "(*newel/halls.bound).passes" [.t 70, .t 75, .t 80]⟩,
⟨some 82,none,.bin .add .no (.t 66) (.t 81)⟩,
⟨some 83,none,.ixA 1 (.t 63) (.t 64)⟩,
⟨none, none, .store 1 (.t 83) (.t 82)⟩]
@[go_sem] def m0w : List XO := [
⟨some 84,none,.bin .add .no (.t 54) (.c (.int .i64 1))⟩,
⟨some 54,none,.mv (.t 84)⟩]
def d98 : XCode :=
  (.seq (.reg m0s) (.seq (.cond (.t 55) .skip (.exit 6)) (.seq (.block 7 (.seq (.reg m0t) (.seq (.reg m0u) (.cond (.t 62) (.reg m0v) .skip)))) (.reg m0w))))
@[go_sem] def m0y : List XO := [
⟨some 39,none,.mv (.t 10)⟩,
⟨some 40,none,.bin .add .no (.t 39) (.c (.int .i64 1))⟩,
⟨some 10,none,.mv (.t 40)⟩]
def d99 : XCode :=
  (.seq (.seq (.reg m0p) (.cond (.t 38) .skip (.exit 4))) (.seq (.block 5 (.seq (.reg m0q) (.seq (.reg m0r) (.block 6 (.loop d98))))) (.reg m0y)))
@[go_sem] def m0z : List XO := [
⟨some 85,none,.mv (.t 7)⟩,
⟨some 86,none,.mv (.t 7)⟩,
⟨some 87,none,.nilck (.t 86)⟩,
⟨some 88,none,.fldA 3 (.t 87)⟩,
⟨some 89,none,.load false 1 (.t 88)⟩,
⟨some 90,none,.mv (.t 9)⟩,
⟨some 91,none,.bsl 1 [.t 90]⟩,
⟨some 92,none,.app 1 24 (.t 89) (.t 91)⟩,
⟨some 93,none,.nilck (.t 85)⟩,
⟨some 94,none,.fldA 3 (.t 93)⟩,
⟨none, none, .store 1 (.t 94) (.t 92)⟩]
@[go_sem] def m00 : List XO := [
⟨some 95,none,.mv (.t 7)⟩,
⟨some 96,none,.mv (.t 7)⟩,
⟨some 97,none,.nilck (.t 96)⟩,
⟨some 98,none,.fldA 0 (.t 97)⟩,
⟨some 99,none,.load false 1 (.t 98)⟩,
⟨some 100,none,.mv (.t 7)⟩,
⟨some 101,none,.nilck (.t 100)⟩,
⟨some 102,none,.fldA 0 (.t 101)⟩,
⟨some 103,none,.load false 1 (.t 102)⟩,
⟨some 104,none,.mv (.t 8)⟩,
⟨some 105,none,.ixA 1 (.t 103) (.t 104)⟩,
⟨some 106,none,.load false 1 (.t 105)⟩,
⟨some 107,none,.mv (.t 1)⟩,
⟨some 108,none,.mv (.t 6)⟩,
⟨some 109,none,.ixA 1 (.t 107) (.t 108)⟩,
⟨some 110,none,.load false 1 (.t 109)⟩,
⟨some 111,none,.mv (.t 8)⟩,
⟨some 112,none,.ixA 1 (.t 110) (.t 111)⟩,
⟨some 113,none,.load false 1 (.t 112)⟩,
⟨some 114,none,.bin .add .no (.t 106) (.t 113)⟩,
⟨some 115,none,.bsl 1 [.t 114]⟩,
⟨some 116,none,.app 1 8 (.t 99) (.t 115)⟩,
⟨some 117,none,.nilck (.t 95)⟩,
⟨some 118,none,.fldA 0 (.t 117)⟩,
⟨none, none, .store 1 (.t 118) (.t 116)⟩]
@[go_sem] def m01 : List XO := [
⟨some 119,none,.bin .add .no (.t 28) (.c (.int .i64 1))⟩,
⟨some 28,none,.mv (.t 119)⟩]
def g0a : XCode :=
  (.seq (.reg m1l) (.seq (.cond (.t 29) .skip (.exit 2)) (.seq (.block 3 (.seq (.reg m1m) (.seq (.reg m1n) (.seq (.seq (.reg m0o) (.block 4 (.loop d99))) (.seq (.seq .ghost (.reg m0z)) (.reg m00)))))) (.reg m01))))
@[go_sem] def m02 : List XO := [
⟨some 120,none,.fldA 3 (.tf 2)⟩,
⟨some 121,none,.load false 1 (.tf 120)⟩,
⟨some 122,none,.mv (.c (.int .i64 0))⟩]
@[go_sem] def m03 : List XO := [
⟨some 123,none,.bin .lss .no (.t 122) (.t 121)⟩]
@[go_sem] def m04 : List XO := [
⟨some 124,none,.mv (.t 122)⟩,
⟨some 13,none,.mv (.t 124)⟩]
@[go_sem] def m05 : List XO := [
⟨some 14,none,.mv (.c (.int .i64 0))⟩]
@[go_sem] def m07 : List XO := [
⟨some 125,none,.mv (.t 13)⟩,
⟨some 126,none,.bin .add .no (.t 125) (.c (.int .i64 1))⟩,
⟨some 127,none,.mv (.c (.int .i64 0))⟩]
@[go_sem] def m08 : List XO := [
⟨some 128,none,.bin .lss .no (.t 127) (.t 126)⟩]
@[go_sem] def m09 : List XO := [
⟨some 129,none,.mv (.t 127)⟩,
⟨some 15,none,.mv (.t 129)⟩]
@[go_sem] def m1a : List XO := [
⟨some 130,none,.mv (.t 14)⟩,
⟨some 131,none,.mv (.t 7)⟩,
⟨some 132,none,.nilck (.t 131)⟩,
⟨some 133,none,.fldA 3 (.t 132)⟩,
⟨some 134,none,.load false 1 (.t 133)⟩,
⟨some 135,none,.mv (.t 15)⟩,
⟨some 136,none,.ixA 1 (.t 134) (.t 135)⟩,
⟨some 137,none,.load false 1 (.t 136)⟩,
⟨some 138,none,.mv (.t 13)⟩,
⟨some 139,none,.ixA 1 (.t 137) (.t 138)⟩,
⟨some 140,none,.load false 1 (.t 139)⟩,
⟨some 141,none,.mv (.t 7)⟩,
⟨some 142,none,.nilck (.t 141)⟩,
⟨some 143,none,.fldA 0 (.t 142)⟩,
⟨some 144,none,.load false 1 (.t 143)⟩,
⟨some 145,none,.mv (.t 13)⟩,
⟨some 146,none,.ixA 1 (.t 144) (.t 145)⟩,
⟨some 147,none,.load false 1 (.t 146)⟩,
⟨some 148,none,.mv (.t 7)⟩,
⟨some 149,none,.nilck (.t 148)⟩,
⟨some 150,none,.fldA 0 (.t 149)⟩,
⟨some 151,none,.load false 1 (.t 150)⟩,
⟨some 152,none,.mv (.t 15)⟩,
⟨some 153,none,.ixA 1 (.t 151) (.t 152)⟩,
⟨some 154,none,.load false 1 (.t 153)⟩,
⟨some 155,none,.bin .sub .no (.t 147) (.t 154)⟩,
⟨some 156,none,.bin .sub .no (.t 140) (.t 155)⟩,
⟨some 157,none,.max [.t 130, .t 156]⟩,
⟨some 14,none,.mv (.t 157)⟩]
@[go_sem] def m1b : List XO := [
⟨some 158,none,.bin .add .no (.t 127) (.c (.int .i64 1))⟩,
⟨some 127,none,.mv (.t 158)⟩]
def g0b : XCode :=
  (.seq (.reg m08) (.seq (.cond (.t 128) .skip (.exit 10)) (.seq (.block 11 (.seq (.reg m09) (.reg m1a))) (.reg m1b))))
@[go_sem] def m1c : List XO := [
⟨some 159,none,.mv (.t 7)⟩,
⟨some 160,none,.mv (.t 7)⟩,
⟨some 161,none,.nilck (.t 160)⟩,
⟨some 162,none,.fldA 2 (.t 161)⟩,
⟨some 163,none,.load false 1 (.t 162)⟩,
⟨some 164,none,.mv (.t 14)⟩,
⟨some 165,none,.bsl 1 [.t 164]⟩,
⟨some 166,none,.app 1 8 (.t 163) (.t 165)⟩,
⟨some 167,none,.nilck (.t 159)⟩,
⟨some 168,none,.fldA 2 (.t 167)⟩,
⟨none, none, .store 1 (.t 168) (.t 166)⟩]
@[go_sem] def m1d : List XO := [
⟨some 169,none,.mv (.t 7)⟩,
⟨some 170,none,.mv (.t 7)⟩,
⟨some 171,none,.nilck (.t 170)⟩,
⟨some 172,none,.fldA 1 (.t 171)⟩,
⟨some 173,none,.load false 1 (.t 172)⟩,
⟨some 174,none,.mv (.t 7)⟩,
⟨some 175,none,.nilck (.t 174)⟩,
⟨some 176,none,.fldA 1 (.t 175)⟩,
⟨some 177,none,.load false 1 (.t 176)⟩,
⟨some 178,none,.mv (.t 13)⟩,
⟨some 179,none,.ixA 1 (.t 177) (.t 178)⟩,
⟨some 180,none,.load false 1 (.t 179)⟩,
⟨some 181,none,.mv (.t 14)⟩,
⟨some 182,none,.mv (.t 1)⟩,
⟨some 183,none,.mv (.t 6)⟩,
⟨some 184,none,.ixA 1 (.t 182) (.t 183)⟩,
⟨some 185,none,.load false 1 (.t 184)⟩,
⟨some 186,none,.mv (.t 13)⟩,
⟨some 187,none,.ixA 1 (.t 185) (.t 186)⟩,
⟨some 188,none,.load false 1 (.t 187)⟩,
⟨some 189,none,.min [.t 181, .t 188]⟩,
⟨some 190,none,.bin .add .no (.t 180) (.t 189)⟩,
⟨some 191,none,.bsl 1 [.t 190]⟩,
⟨some 192,none,.app 1 8 (.t 173) (.t 191)⟩,
⟨some 193,none,.nilck (.t 169)⟩,
⟨some 194,none,.fldA 1 (.t 193)⟩,
⟨none, none, .store 1 (.t 194) (.t 192)⟩]
@[go_sem] def m1e : List XO := [
⟨some 195,none,.bin .add .no (.t 122) (.c (.int .i64 1))⟩,
⟨some 122,none,.mv (.t 195)⟩]
def g0c : XCode :=
  (.seq (.reg m03) (.seq (.cond (.t 123) .skip (.exit 8)) (.seq (.block 9 (.seq (.reg m04) (.seq (.reg m05) (.seq (.seq (.reg m07) (.block 10 (.loop g0b))) (.seq (.reg m1c) (.reg m1d)))))) (.reg m1e))))
@[go_sem] def m1g : List XO := [
⟨some 196,none,.mv (.t 5)⟩,
⟨some 197,none,.mv (.t 7)⟩,
⟨some 198,none,.bsl 1 [.t 197]⟩,
⟨some 199,none,.app 1 8 (.t 196) (.t 198)⟩,
⟨some 5,none,.mv (.t 199)⟩]
@[go_sem] def m1h : List XO := [
⟨some 200,none,.bin .add .no (.t 19) (.c (.int .i64 1))⟩,
⟨some 19,none,.mv (.t 200)⟩]
def g0d : XCode :=
  (.seq (.reg m06) (.seq (.cond (.t 20) .skip (.exit 0)) (.seq (.block 1 (.seq (.reg m1f) (.seq (.reg m1j) (.seq (.seq (.reg m1k) (.block 2 (.loop g0a))) (.seq (.seq (.reg m02) (.block 8 (.loop g0c))) (.seq .ghost (.reg m1g))))))) (.reg m1h))))
@[go_sem] def m1i : List XO := [
⟨some 201,none,.mv (.t 5)⟩,
⟨some 4,none,.mv (.t 201)⟩]
def x_halls_bounds : XFunc := { np := 2, res := [.t 4], body :=
  (.seq (.reg m0m) (.seq (.reg m0n) (.seq (.seq (.reg m0x) (.block 0 (.loop g0d))) (.seq (.seq .ghost (.reg m1i)) .ret)))) }
@[go_sem] def m3e : List XO := [
⟨some 1,none,.boxF (.t 0)⟩,
⟨some 2,none,.mv (.c (.slice none 0 0))⟩]
@[go_sem] def m3f : List XO := [
⟨some 4,none,.fldA 0 (.tf 1)⟩,
⟨some 5,none,.load false 1 (.tf 4)⟩,
⟨some 6,none,.len false (.t 5)⟩,
⟨some 7,none,.mv (.c (.int .i64 0))⟩]
@[go_sem] def m3g : List XO := [
⟨some 8,none,.bin .lss .no (.t 7) (.t 6)⟩]
@[go_sem] def m3h : List XO := [
⟨some 9,none,.mv (.t 7)⟩,
⟨some 3,none,.mv (.t 9)⟩]
@[go_sem] def m3i : List XO := [
⟨some 10,none,.mv (.t 2)⟩,
⟨some 11,none,.load true 4 (.tf 1)⟩,
⟨some 12,none,.mv (.t 3)⟩,
⟨some 13,none,.call "newel/halls.rates" [.t 11, .t 12]⟩,
⟨some 14,none,.bsl 1 [.t 13]⟩,
⟨some 15,none,.app 1 24 (.t 10) (.t 14)⟩,
⟨some 2,none,.mv (.t 15)⟩]
@[go_sem] def m3j : List XO := [
⟨some 16,none,.bin .add .no (.t 7) (.c (.int .i64 1))⟩,
⟨some 7,none,.mv (.t 16)⟩]
def g0k : XCode :=
  (.seq (.reg m3g) (.seq (.cond (.t 8) .skip (.exit 0)) (.seq (.block 1 (.seq (.reg m3h) (.seq (.reg m3i) .ghost))) (.reg m3j))))
@[go_sem] def m3k : List XO := [
⟨some 17,none,.mv (.t 2)⟩,
⟨some 2,none,.mv (.t 17)⟩]
def x_halls_open : XFunc := { np := 1, res := [.t 2], body :=
  (.seq (.reg m3e) (.seq (.seq (.reg m3f) (.block 0 (.loop g0k))) (.seq (.reg m3k) .ret))) }
@[go_sem] def l6b : List XO := [
⟨some 2,none,.boxF (.t 0)⟩,
⟨some 3,none,.boxF (.t 1)⟩,
⟨some 4,none,.mv (.c (.int .i64 0))⟩]
@[go_sem] def l6c : List XO := [
⟨some 6,none,.load true 6 (.tf 2)⟩,
⟨some 7,none,.call "newel/drive.Check" [.t 6]⟩,
⟨some 5,none,.mv (.t 7)⟩]
@[go_sem] def l6d : List XO := [
⟨some 8,none,.mv (.t 5)⟩,
⟨some 9,none,.bin .neq .no (.t 8) (.c (.int .i64 0))⟩]
@[go_sem] def l6e : List XO := [
⟨some 10,none,.mv (.t 5)⟩,
⟨some 4,none,.mv (.t 10)⟩]
@[go_sem] def l6f : List XO := [
⟨some 11,none,.fldA 0 (.tf 3)⟩,
⟨some 12,none,.load false 1 (.tf 11)⟩,
⟨some 13,none,.call "newel/drive.to" [(.c (.int .i64 1000))]⟩,
⟨some 14,none,.call "newel/drive.in" [.t 12, .t 13]⟩,
⟨some 15,none,.un .not (.t 14)⟩,
⟨some 16,none,.mv (.t 15)⟩,
⟨(some 17), (some (16, false)), .fldA 1 (.tf 3)⟩,
⟨(some 18), (some (16, false)), .fldA 0 (.tf 17)⟩,
⟨(some 19), (some (16, false)), .load false 1 (.tf 18)⟩,
⟨(some 20), (some (16, false)), .bin .lss .no (.t 19) (.c (.int .i64 0))⟩,
⟨some 21,none,.pick (.t 16) (.c (.bool true)) (.t 20)⟩,
⟨some 22,none,.mv (.t 21)⟩,
⟨(some 23), (some (22, false)), .fldA 1 (.tf 3)⟩,
⟨(some 24), (some (22, false)), .fldA 0 (.tf 23)⟩,
⟨(some 25), (some (22, false)), .load false 1 (.tf 24)⟩,
⟨(some 26), (some (22, false)), .fldA 1 (.tf 3)⟩,
⟨(some 27), (some (22, false)), .fldA 1 (.tf 26)⟩,
⟨(some 28), (some (22, false)), .load false 1 (.tf 27)⟩,
⟨(some 29), (some (22, false)), .bin .gtr .no (.t 25) (.t 28)⟩,
⟨some 30,none,.pick (.t 22) (.c (.bool true)) (.t 29)⟩,
⟨some 31,none,.mv (.t 30)⟩,
⟨(some 32), (some (31, false)), .fldA 1 (.tf 3)⟩,
⟨(some 33), (some (31, false)), .fldA 1 (.tf 32)⟩,
⟨(some 34), (some (31, false)), .load false 1 (.tf 33)⟩,
⟨(some 35), (some (31, false)), .bin .gtr .no (.t 34) (.c (.int .i64 100000))⟩,
⟨some 36,none,.pick (.t 31) (.c (.bool true)) (.t 35)⟩,
⟨some 37,none,.mv (.t 36)⟩,
⟨(some 38), (some (37, false)), .fldA 3 (.tf 3)⟩,
⟨(some 39), (some (37, false)), .load false 1 (.tf 38)⟩,
⟨(some 40), (some (37, false)), .bin .lss .no (.t 39) (.c (.int .i64 0))⟩,
⟨some 41,none,.pick (.t 37) (.c (.bool true)) (.t 40)⟩,
⟨some 42,none,.mv (.t 41)⟩,
⟨(some 43), (some (42, false)), .fldA 3 (.tf 3)⟩,
⟨(some 44), (some (42, false)), .load false 1 (.tf 43)⟩,
⟨(some 45), (some (42, false)), .fldA 5 (.tf 2)⟩,
⟨(some 46), (some (42, false)), .load false 1 (.tf 45)⟩,
⟨(some 47), (some (42, false)), .len false (.t 46)⟩,
⟨(some 48), (some (42, false)), .bin .shl .no (.c (.int .i64 1)) (.t 47)⟩,
⟨(some 49), (some (42, false)), .bin .geq .no (.t 44) (.t 48)⟩,
⟨some 50,none,.pick (.t 42) (.c (.bool true)) (.t 49)⟩]
@[go_sem] def l6g : List XO := [
⟨some 4,none,.mv (.c (.int .i64 11))⟩]
@[go_sem] def l6h : List XO := [
⟨some 4,none,.mv (.c (.int .i64 0))⟩]
def x_drive_checkStop : XFunc := { np := 2, res := [.t 4], body :=
  (.seq (.reg l6b) (.seq (.seq (.reg l6c) (.seq (.reg l6d) (.cond (.t 9) (.seq (.reg l6e) .ret) .skip))) (.seq (.seq (.reg l6f) (.cond (.t 50) (.seq (.reg l6g) .ret) .skip)) (.seq (.reg l6h) .ret)))) }
@[go_sem] def l6p : List XO := [
⟨some 3,none,.boxF (.t 0)⟩,
⟨some 4,none,.boxF (.t 1)⟩,
⟨some 6,none,.alloc [(.int .i64 0), (.slice none 0 0), (.bool false)]⟩]
@[go_sem] def l6q : List XO := [
⟨some 9,none,.load true 6 (.tf 3)⟩,
⟨some 10,none,.load true 4 (.tf 4)⟩,
⟨some 11,none,.fldA 0 (.tf 4)⟩,
⟨some 12,none,.load false 1 (.tf 11)⟩,
⟨some 13,none,.build [(.bool false), (.int .i64 0), (.int .i64 0), (.int .i64 0), (.int .i64 0), (.slice none 0 0), (.int .i64 0), (.int .i64 0), (.int .i64 0), (.int .i64 0), (.int .i64 0), (.int .i64 0)] [(0, 6, (.t 9)), (6, 4, (.t 10)), (10, 1, (.t 12))]⟩,
⟨some 7,none,.alloc [(.bool false), (.int .i64 0), (.int .i64 0), (.int .i64 0), (.int .i64 0), (.slice none 0 0), (.int .i64 0), (.int .i64 0), (.int .i64 0), (.int .i64 0), (.int .i64 0), (.int .i64 0)]⟩,
⟨none, none, .store 12 (.t 7) (.t 13)⟩]
@[go_sem] def l6r : List XO := [
⟨some 14,none,.fldA 0 (.tf 4)⟩,
⟨some 15,none,.load false 1 (.tf 14)⟩,
⟨some 16,none,.bin .eql .no (.t 15) (.c (.int .i64 0))⟩,
⟨some 17,none,.build [(.int .i64 0), (.slice none 0 0), (.bool false)] [(2, 1, (.t 16))]⟩,
⟨some 8,none,.alloc [(.int .i64 0), (.slice none 0 0), (.bool false)]⟩,
⟨none, none, .store 3 (.t 8) (.t 17)⟩]
@[go_sem] def l6s : List XO := [
⟨some 18,none,.fldA 2 (.t 8)⟩,
⟨some 19,none,.load false 1 (.t 18)⟩,
⟨some 20,none,.un .not (.t 19)⟩,
⟨some 21,none,.mv (.t 20)⟩,
⟨(some 22), (some (21, true)), .fldA 11 (.t 7)⟩,
⟨(some 23), (some (21, true)), .load false 1 (.t 22)⟩,
⟨(some 24), (some (21, true)), .bin .lss .no (.t 23) (.c (.int .i64 100))⟩,
⟨some 25,none,.pick (.t 21) (.t 24) (.c (.bool false))⟩]
@[go_sem] def l6t : List XO := [
⟨some 26,none,.fldA 1 (.t 8)⟩,
⟨some 27,none,.load false 1 (.t 26)⟩,
⟨some 28,none,.mv (.t 2)⟩,
⟨some 29,none,.callw "(*newel/drive.motion).extreme" [.t 7, .t 28]⟩,
⟨some 30,none,.bsl 1 [.t 29]⟩,
⟨some 31,none,.app 1 8 (.t 27) (.t 30)⟩,
⟨some 32,none,.fldA 1 (.t 8)⟩,
⟨none, none, .store 1 (.t 32) (.t 31)⟩]
@[go_sem] def l6u : List XO := [
⟨some 33,none,.fldA 0 (.t 8)⟩,
⟨some 34,none,.load false 1 (.t 33)⟩,
⟨some 35,none,.fldA 10 (.t 7)⟩,
⟨some 36,none,.load false 1 (.t 35)⟩,
⟨some 37,none,.bin .add .no (.t 34) (.t 36)⟩,
⟨some 38,none,.fldA 0 (.t 8)⟩,
⟨none, none, .store 1 (.t 38) (.t 37)⟩]
@[go_sem] def l6v : List XO := [
⟨some 39,none,.fldA 10 (.t 7)⟩,
⟨some 40,none,.load false 1 (.t 39)⟩,
⟨some 41,none,.bin .eql .no (.t 40) (.c (.int .i64 0))⟩,
⟨some 42,none,.fldA 2 (.t 8)⟩,
⟨none, none, .store 1 (.t 42) (.t 41)⟩]
def l6x : XCode :=
  (.seq (.seq (.reg l6s) (.cond (.t 25) .skip (.exit 0))) (.block 1 (.seq (.regW l6t) (.seq (.reg l6u) (.reg l6v)))))
@[go_sem] def l6w : List XO := [
⟨some 43,none,.load true 3 (.t 8)⟩,
⟨none, none, .store 3 (.t 6) (.t 43)⟩]
def x_drive_run : XFunc := { np := 3, res := [.cell 6 true 3], body :=
  (.seq (.reg l6p) (.seq (.reg l6q) (.seq (.reg l6r) (.seq (.block 0 (.loop l6x)) (.seq (.reg l6w) .ret))))) }
@[go_sem] def l3n : List XO := [
⟨some 1,none,.boxF (.t 0)⟩,
⟨some 2,none,.mv (.c (.slice none 0 0))⟩,
⟨some 3,none,.mv (.c (.int .i64 0))⟩]
@[go_sem] def l3o : List XO := [
⟨some 7,none,.load true 3 (.tf 1)⟩,
⟨some 8,none,.call "newel/circuit.Check" [.t 7]⟩,
⟨some 4,none,.mv (.t 8)⟩]
@[go_sem] def l3r : List XO := [
⟨some 9,none,.mv (.t 4)⟩,
⟨some 10,none,.bin .neq .no (.t 9) (.c (.int .i64 0))⟩]
@[go_sem] def l3s : List XO := [
⟨some 11,none,.mv (.t 4)⟩,
⟨some 2,none,.mv (.c (.slice none 0 0))⟩,
⟨some 3,none,.mv (.t 11)⟩]
@[go_sem] def l3t : List XO := [
⟨some 5,none,.mv (.c (.slice none 0 0))⟩]
@[go_sem] def l3u : List XO := [
⟨some 12,none,.fldA 1 (.tf 1)⟩,
⟨some 13,none,.load false 1 (.tf 12)⟩,
⟨some 14,none,.len false (.t 13)⟩,
⟨some 15,none,.mv (.c (.int .i64 0))⟩]
@[go_sem] def l3v : List XO := [
⟨some 16,none,.bin .lss .no (.t 15) (.t 14)⟩]
@[go_sem] def l3w : List XO := [
⟨some 17,none,.mv (.t 15)⟩,
⟨some 6,none,.mv (.t 17)⟩]
@[go_sem] def l3x : List XO := [
⟨some 18,none,.load true 3 (.tf 1)⟩,
⟨some 19,none,.mv (.t 6)⟩,
⟨some 20,none,.bin .shl .no (.c (.int .i64 1)) (.t 19)⟩,
⟨some 21,none,.call "newel/circuit.weak" [.t 18, .t 20]⟩,
⟨some 22,none,.len false (.t 21)⟩,
⟨some 23,none,.bin .gtr .no (.t 22) (.c (.int .i64 0))⟩]
@[go_sem] def l3y : List XO := [
⟨some 24,none,.mv (.t 5)⟩,
⟨some 25,none,.mv (.t 6)⟩,
⟨some 26,none,.bsl 1 [.t 25]⟩,
⟨some 27,none,.app 1 8 (.t 24) (.t 26)⟩,
⟨some 5,none,.mv (.t 27)⟩]
@[go_sem] def l3p : List XO := [
⟨some 28,none,.bin .add .no (.t 15) (.c (.int .i64 1))⟩,
⟨some 15,none,.mv (.t 28)⟩]
def l3z : XCode :=
  (.seq (.reg l3v) (.seq (.cond (.t 16) .skip (.exit 0)) (.seq (.block 1 (.seq (.reg l3w) (.seq (.reg l3x) (.cond (.t 23) (.reg l3y) .skip)))) (.reg l3p))))
@[go_sem] def l3q : List XO := [
⟨some 29,none,.mv (.t 5)⟩,
⟨some 2,none,.mv (.t 29)⟩,
⟨some 3,none,.mv (.c (.int .i64 0))⟩]
def x_circuit_Critical : XFunc := { np := 1, res := [.t 2, .t 3], body :=
  (.seq (.reg l3n) (.seq (.seq (.reg l3o) (.seq (.reg l3r) (.cond (.t 10) (.seq (.reg l3s) .ret) .skip))) (.seq (.reg l3t) (.seq (.seq (.reg l3u) (.block 0 (.loop l3z))) (.seq (.reg l3q) .ret))))) }
@[go_sem] def m8i : List XO := [
⟨some 4,none,.mv (.c (.bool false))⟩]
@[go_sem] def m8j : List XO := [
⟨some 5,none,.mv (.t 0)⟩,
⟨some 6,none,.mv (.t 1)⟩,
⟨some 7,none,.call "slices.Index[[]int,int]" [.t 5, .t 6]⟩,
⟨some 8,none,.bin .geq .no (.t 7) (.c (.int .i64 0))⟩,
⟨some 4,none,.mv (.t 8)⟩]
def x_slices_Contains___int_int_ : XFunc := { np := 2, res := [.t 4], body :=
  (.seq (.reg m8i) (.seq (.reg m8j) .ret)) }
@[go_sem] def l4u : List XO := [
⟨some 2,none,.boxF (.t 0)⟩,
⟨some 4,none,.mv (.c (.slice none 0 0))⟩]
@[go_sem] def l4v : List XO := [
⟨some 6,none,.fldA 0 (.tf 2)⟩,
⟨some 7,none,.load false 1 (.tf 6)⟩,
⟨some 8,none,.mv (.c (.int .i64 0))⟩]
@[go_sem] def l4w : List XO := [
⟨some 9,none,.bin .lss .no (.t 8) (.t 7)⟩]
@[go_sem] def l4x : List XO := [
⟨some 10,none,.mv (.t 8)⟩,
⟨some 5,none,.mv (.t 10)⟩]
@[go_sem] def l4y : List XO := [
⟨some 11,none,.load true 3 (.tf 2)⟩,
⟨some 12,none,.mv (.t 5)⟩,
⟨some 13,none,.bin .shl .no (.c (.int .i64 1)) (.t 12)⟩,
⟨some 14,none,.mv (.t 1)⟩,
⟨some 15,none,.build [(.int .i64 0), (.slice none 0 0), (.slice none 0 0), (.int .i64 0), (.int .i64 0), (.int .i64 0)] [(0, 3, (.t 11)), (3, 1, (.t 13)), (4, 1, (.t 14))]⟩,
⟨some 16,none,.call "(newel/circuit.state).wire" [.t 15, (.c (.int .i64 0))]⟩]
@[go_sem] def l4z : List XO := [
⟨some 17,none,.mv (.t 4)⟩,
⟨some 18,none,.mv (.t 5)⟩,
⟨some 19,none,.bsl 1 [.t 18]⟩,
⟨some 20,none,.app 1 8 (.t 17) (.t 19)⟩,
⟨some 4,none,.mv (.t 20)⟩]
@[go_sem] def l40 : List XO := [
⟨some 21,none,.bin .add .no (.t 8) (.c (.int .i64 1))⟩,
⟨some 8,none,.mv (.t 21)⟩]
def l42 : XCode :=
  (.seq (.reg l4w) (.seq (.cond (.t 9) .skip (.exit 0)) (.seq (.block 1 (.seq (.reg l4x) (.seq (.reg l4y) (.cond (.t 16) (.reg l4z) .skip)))) (.reg l40))))
@[go_sem] def l41 : List XO := [
⟨some 22,none,.mv (.t 4)⟩,
⟨some 4,none,.mv (.t 22)⟩]
def x_circuit_weak : XFunc := { np := 2, res := [.t 4], body :=
  (.seq (.reg l4u) (.seq (.seq (.reg l4v) (.block 0 (.loop l42))) (.seq (.reg l41) .ret))) }
@[go_sem] def l8p : List XO := [
⟨some 6,none,.mv (.c (.bool false))⟩]
@[go_sem] def l8q : List XO := [
⟨some 7,none,.mv (.t 0)⟩,
⟨some 8,none,.mv (.t 1)⟩,
⟨some 9,none,.bin .geq .no (.t 7) (.t 8)⟩,
⟨some 10,none,.mv (.t 9)⟩,
⟨(some 11), (some (10, true)), .mv (.t 0)⟩,
⟨(some 12), (some (10, true)), .mv (.t 2)⟩,
⟨(some 13), (some (10, true)), .bin .leq .no (.t 11) (.t 12)⟩,
⟨some 14,none,.pick (.t 10) (.t 13) (.c (.bool false))⟩,
⟨some 6,none,.mv (.t 14)⟩]
def x_faults_within : XFunc := { np := 3, res := [.t 6], body :=
  (.seq (.reg l8p) (.seq (.reg l8q) .ret)) }
@[go_sem] def m4m : List XO := [
⟨some 2,none,.mv (.c (.int .i64 0))⟩]
@[go_sem] def m4n : List XO := [
⟨some 3,none,.mv (.t 0)⟩,
⟨some 4,none,.cvtI .u32 (.t 3)⟩,
⟨some 5,none,.call "math/bits.OnesCount32" [.t 4]⟩,
⟨some 2,none,.mv (.t 5)⟩]
@[go_sem] def m4o : List XO := [
⟨some 6,none,.mv (.t 0)⟩,
⟨some 7,none,.call "math/bits.OnesCount64" [.t 6]⟩,
⟨some 2,none,.mv (.t 7)⟩]
def x_math_bits_OnesCount : XFunc := { np := 1, res := [.t 2], body :=
  (.seq (.reg m4m) (.seq (.cond (.c (.bool false)) (.seq (.reg m4n) .ret) .skip) (.seq (.reg m4o) .ret))) }
@[go_sem] def m7y : List XO := [
⟨some 4,none,.mv (.c (.int .i64 0))⟩]
@[go_sem] def m7z : List XO := [
⟨some 9,none,.mv (.t 0)⟩,
⟨some 10,none,.len false (.t 9)⟩,
⟨some 11,none,.mv (.c (.int .i64 0))⟩]
@[go_sem] def m74 : List XO := [
⟨some 12,none,.bin .lss .no (.t 11) (.t 10)⟩]
@[go_sem] def m75 : List XO := [
⟨some 13,none,.mv (.t 11)⟩,
⟨some 14,none,.ixA 1 (.t 9) (.t 11)⟩,
⟨some 15,none,.load false 1 (.t 14)⟩,
⟨some 5,none,.mv (.t 13)⟩,
⟨some 6,none,.mv (.t 15)⟩]
@[go_sem] def m76 : List XO := [
⟨some 16,none,.mv (.t 5)⟩,
⟨some 17,none,.mv (.t 1)⟩,
⟨some 18,none,.len false (.t 17)⟩,
⟨some 19,none,.bin .geq .no (.t 16) (.t 18)⟩]
@[go_sem] def m77 : List XO := [
⟨some 4,none,.mv (.c (.int .i64 1))⟩]
@[go_sem] def m78 : List XO := [
⟨some 20,none,.mv (.t 1)⟩,
⟨some 21,none,.mv (.t 5)⟩,
⟨some 22,none,.ixA 1 (.t 20) (.t 21)⟩,
⟨some 23,none,.load false 1 (.t 22)⟩,
⟨some 7,none,.mv (.t 23)⟩]
@[go_sem] def m79 : List XO := [
⟨some 24,none,.mv (.t 6)⟩,
⟨some 25,none,.mv (.t 7)⟩,
⟨some 26,none,.call "cmp.Compare[int]" [.t 24, .t 25]⟩,
⟨some 8,none,.mv (.t 26)⟩]
@[go_sem] def m8a : List XO := [
⟨some 27,none,.mv (.t 8)⟩,
⟨some 28,none,.bin .neq .no (.t 27) (.c (.int .i64 0))⟩]
@[go_sem] def m8b : List XO := [
⟨some 29,none,.mv (.t 8)⟩,
⟨some 4,none,.mv (.t 29)⟩]
@[go_sem] def m70 : List XO := [
⟨some 30,none,.bin .add .no (.t 11) (.c (.int .i64 1))⟩,
⟨some 11,none,.mv (.t 30)⟩]
def g0y : XCode :=
  (.seq (.reg m74) (.seq (.cond (.t 12) .skip (.exit 0)) (.seq (.block 1 (.seq (.reg m75) (.seq (.seq (.reg m76) (.cond (.t 19) (.seq (.reg m77) .ret) .skip)) (.seq (.reg m78) (.seq (.reg m79) (.seq (.reg m8a) (.cond (.t 28) (.seq (.reg m8b) .ret) .skip))))))) (.reg m70))))
@[go_sem] def m71 : List XO := [
⟨some 31,none,.mv (.t 0)⟩,
⟨some 32,none,.len false (.t 31)⟩,
⟨some 33,none,.mv (.t 1)⟩,
⟨some 34,none,.len false (.t 33)⟩,
⟨some 35,none,.bin .lss .no (.t 32) (.t 34)⟩]
@[go_sem] def m72 : List XO := [
⟨some 4,none,.mv (.c (.int .i64 (-1)))⟩]
@[go_sem] def m73 : List XO := [
⟨some 4,none,.mv (.c (.int .i64 0))⟩]
def x_slices_Compare___int_int_ : XFunc := { np := 2, res := [.t 4], body :=
  (.seq (.reg m7y) (.seq (.seq (.reg m7z) (.block 0 (.loop g0y))) (.seq (.seq (.reg m71) (.cond (.t 35) (.seq (.reg m72) .ret) .skip)) (.seq (.reg m73) .ret)))) }
@[go_sem] def m4t : List XO := [
⟨some 2,none,.mv (.c (.int .i64 0))⟩]
@[go_sem] def m4u : List XO := [
⟨some 3,none,.mv (.t 0)⟩,
⟨some 4,none,.cvtI .u32 (.t 3)⟩,
⟨some 5,none,.call "math/bits.TrailingZeros32" [.t 4]⟩,
⟨some 2,none,.mv (.t 5)⟩]
@[go_sem] def m4v : List XO := [
⟨some 6,none,.mv (.t 0)⟩,
⟨some 7,none,.call "math/bits.TrailingZeros64" [.t 6]⟩,
⟨some 2,none,.mv (.t 7)⟩]
def x_math_bits_TrailingZeros : XFunc := { np := 1, res := [.t 2], body :=
  (.seq (.reg m4t) (.seq (.cond (.c (.bool false)) (.seq (.reg m4u) .ret) .skip) (.seq (.reg m4v) .ret))) }
@[go_sem] def m8e : List XO := [
⟨some 4,none,.mv (.c (.bool false))⟩]
@[go_sem] def m8f : List XO := [
⟨some 5,none,.mv (.t 0)⟩,
⟨some 6,none,.mv (.t 1)⟩,
⟨some 7,none,.call "slices.IndexFunc[[]int,int]" [.t 5, .t 6]⟩,
⟨some 8,none,.bin .geq .no (.t 7) (.c (.int .i64 0))⟩,
⟨some 4,none,.mv (.t 8)⟩]
def x_slices_ContainsFunc___int_int_ : XFunc := { np := 2, res := [.t 4], body :=
  (.seq (.reg m8e) (.seq (.reg m8f) .ret)) }
@[go_sem] def m2c : List XO := [
⟨some 2,none,.boxF (.t 0)⟩,
⟨some 4,none,.mv (.c (.bool false))⟩]
@[go_sem] def m2d : List XO := [
⟨some 6,none,.fldA 0 (.tf 2)⟩,
⟨some 7,none,.load false 1 (.tf 6)⟩,
⟨some 8,none,.mv (.t 1)⟩,
⟨some 9,none,.ixA 5 (.t 7) (.t 8)⟩,
⟨some 10,none,.load true 5 (.t 9)⟩,
⟨some 5,none,.alloc [(.int .i64 0), (.int .i64 0), (.int .i64 0), (.int .i64 0), (.int .i64 0)]⟩,
⟨none, none, .store 5 (.t 5) (.t 10)⟩]
@[go_sem] def m2e : List XO := [
⟨some 11,none,.fldA 0 (.t 5)⟩,
⟨some 12,none,.load false 1 (.t 11)⟩,
⟨some 13,none,.build [(.int .i64 0), (.int .i64 0)] [(1, 1, (.c (.int .i64 1000)))]⟩,
⟨some 14,none,.call "newel/halls.in" [.t 12, .t 13]⟩,
⟨some 15,none,.mv (.t 14)⟩,
⟨(some 16), (some (15, true)), .fldA 1 (.t 5)⟩,
⟨(some 17), (some (15, true)), .load false 1 (.t 16)⟩,
⟨(some 18), (some (15, true)), .build [(.int .i64 0), (.int .i64 0)] [(1, 1, (.c (.int .i64 100000)))]⟩,
⟨(some 19), (some (15, true)), .call "newel/halls.in" [.t 17, .t 18]⟩,
⟨some 20,none,.pick (.t 15) (.t 19) (.c (.bool false))⟩,
⟨some 21,none,.mv (.t 20)⟩,
⟨(some 22), (some (21, true)), .fldA 2 (.t 5)⟩,
⟨(some 23), (some (21, true)), .load false 1 (.t 22)⟩,
⟨(some 24), (some (21, true)), .bin .eql .no (.t 23) (.c (.int .i64 (-1)))⟩,
⟨(some 25), (some (21, true)), .mv (.t 24)⟩,
⟨(some 26), (some (25, false)), .fldA 2 (.t 5)⟩,
⟨(some 27), (some (25, false)), .load false 1 (.t 26)⟩,
⟨(some 28), (some (25, false)), .mv (.t 1)⟩,
⟨(some 29), (some (25, false)), .bin .gtr .no (.t 27) (.t 28)⟩,
⟨(some 30), (some (25, false)), .mv (.t 29)⟩,
⟨(some 31), (some (30, true)), .fldA 2 (.t 5)⟩,
⟨(some 32), (some (30, true)), .load false 1 (.t 31)⟩,
⟨(some 33), (some (30, true)), .fldA 0 (.tf 2)⟩,
⟨(some 34), (some (30, true)), .load false 1 (.tf 33)⟩,
⟨(some 35), (some (30, true)), .len false (.t 34)⟩,
⟨(some 36), (some (30, true)), .bin .lss .no (.t 32) (.t 35)⟩,
⟨(some 37), (some (25, false)), .pick (.t 30) (.t 36) (.c (.bool false))⟩,
⟨(some 38), (some (21, true)), .pick (.t 25) (.c (.bool true)) (.t 37)⟩,
⟨some 39,none,.pick (.t 21) (.t 38) (.c (.bool false))⟩,
⟨some 40,none,.mv (.t 39)⟩,
⟨(some 41), (some (40, true)), .fldA 3 (.t 5)⟩,
⟨(some 42), (some (40, true)), .load true 2 (.t 41)⟩,
⟨(some 43), (some (40, true)), .call "newel/halls.span" [.t 42, (.c (.int .i64 1)), (.c (.int .i64 20))]⟩,
⟨some 44,none,.pick (.t 40) (.t 43) (.c (.bool false))⟩,
⟨some 4,none,.mv (.t 44)⟩]
def x_halls_isComb : XFunc := { np := 2, res := [.t 4], body :=
  (.seq (.reg m2c) (.seq (.reg m2d) (.seq (.reg m2e) .ret))) }
@[go_sem] def m8c : List XO := [
⟨some 4,none,.mv (.c (.bool false))⟩]
@[go_sem] def m8d : List XO := [
⟨some 5,none,.mv (.t 0)⟩,
⟨some 6,none,.mv (.t 1)⟩,
⟨some 7,none,.call "slices.IndexFunc[[]newel/api.Train,newel/api.Train]" [.t 5, .t 6]⟩,
⟨some 8,none,.bin .geq .no (.t 7) (.c (.int .i64 0))⟩,
⟨some 4,none,.mv (.t 8)⟩]
def x_slices_ContainsFunc___api_Train_api_Train_ : XFunc := { np := 2, res := [.t 4], body :=
  (.seq (.reg m8c) (.seq (.reg m8d) .ret)) }
@[go_sem] def l8r : List XO := [
⟨some 2,none,.boxF (.t 0)⟩,
⟨some 3,none,.mv (.c (.bool false))⟩]
@[go_sem] def l8s : List XO := [
⟨some 4,none,.load true 4 (.t 1)⟩,
⟨some 5,none,.load true 3 (.tf 2)⟩,
⟨some 6,none,.call "newel/halls.isTrain" [.t 4, .t 5]⟩,
⟨some 7,none,.un .not (.t 6)⟩,
⟨some 3,none,.mv (.t 7)⟩]
def x_halls_CheckD1 : XFunc := { np := 2, res := [.t 3], body :=
  (.seq (.reg l8r) (.seq (.reg l8s) .ret)) }
@[go_sem] def m24 : List XO := [
⟨some 2,none,.boxF (.t 0)⟩,
⟨some 3,none,.boxF (.t 1)⟩,
⟨some 4,none,.mv (.c (.bool false))⟩]
@[go_sem] def m25 : List XO := [
⟨some 5,none,.mv (.c (.int .i64 (-1)))⟩]
@[go_sem] def m27 : List XO := [
⟨some 8,none,.fldA 2 (.tf 3)⟩,
⟨some 9,none,.load false 1 (.tf 8)⟩,
⟨some 10,none,.len false (.t 9)⟩,
⟨some 11,none,.mv (.c (.int .i64 0))⟩]
@[go_sem] def m28 : List XO := [
⟨some 12,none,.bin .lss .no (.t 11) (.t 10)⟩]
@[go_sem] def m29 : List XO := [
⟨some 13,none,.ixA 3 (.t 9) (.t 11)⟩,
⟨some 14,none,.load true 3 (.t 13)⟩,
⟨some 7,none,.alloc [(.int .i64 0), (.int .i64 0), (.int .i64 0)]⟩,
⟨none, none, .store 3 (.t 7) (.t 14)⟩]
@[go_sem] def m3a : List XO := [
⟨some 15,none,.fldA 0 (.t 7)⟩,
⟨some 16,none,.load false 1 (.t 15)⟩,
⟨some 17,none,.mv (.t 5)⟩,
⟨some 18,none,.bin .leq .no (.t 16) (.t 17)⟩,
⟨some 19,none,.mv (.t 18)⟩,
⟨(some 20), (some (19, false)), .fldA 0 (.t 7)⟩,
⟨(some 21), (some (19, false)), .load false 1 (.t 20)⟩,
⟨(some 22), (some (19, false)), .fldA 0 (.tf 2)⟩,
⟨(some 23), (some (19, false)), .load false 1 (.tf 22)⟩,
⟨(some 24), (some (19, false)), .len false (.t 23)⟩,
⟨(some 25), (some (19, false)), .bin .geq .no (.t 21) (.t 24)⟩,
⟨some 26,none,.pick (.t 19) (.c (.bool true)) (.t 25)⟩,
⟨some 27,none,.mv (.t 26)⟩,
⟨(some 28), (some (27, false)), .fldA 1 (.t 7)⟩,
⟨(some 29), (some (27, false)), .load true 2 (.t 28)⟩,
⟨(some 30), (some (27, false)), .call "newel/halls.span" [.t 29, (.c (.int .i64 0)), (.c (.int .i64 1000))]⟩,
⟨(some 31), (some (27, false)), .un .not (.t 30)⟩,
⟨some 32,none,.pick (.t 27) (.c (.bool true)) (.t 31)⟩]
@[go_sem] def m3b : List XO := [
⟨some 4,none,.mv (.c (.bool false))⟩]
@[go_sem] def m3c : List XO := [
⟨some 33,none,.fldA 0 (.t 7)⟩,
⟨some 34,none,.load false 1 (.t 33)⟩,
⟨some 5,none,.mv (.t 34)⟩]
@[go_sem] def m3d : List XO := [
⟨some 35,none,.bin .add .no (.t 11) (.c (.int .i64 1))⟩,
⟨some 11,none,.mv (.t 35)⟩]
def g0j : XCode :=
  (.seq (.reg m28) (.seq (.cond (.t 12) .skip (.exit 0)) (.seq (.block 1 (.seq (.reg m29) (.seq (.seq (.reg m3a) (.cond (.t 32) (.seq (.reg m3b) .ret) .skip)) (.reg m3c)))) (.reg m3d))))
@[go_sem] def m26 : List XO := [
⟨some 36,none,.fldA 0 (.tf 3)⟩,
⟨some 37,none,.load true 2 (.tf 36)⟩,
⟨some 38,none,.fldA 3 (.tf 2)⟩,
⟨some 39,none,.load false 1 (.tf 38)⟩,
⟨some 40,none,.bin .sub .no (.t 39) (.c (.int .i64 1))⟩,
⟨some 41,none,.call "newel/halls.span" [.t 37, (.c (.int .i64 0)), .t 40]⟩,
⟨some 42,none,.mv (.t 41)⟩,
⟨(some 43), (some (42, true)), .fldA 2 (.tf 3)⟩,
⟨(some 44), (some (42, true)), .load false 1 (.tf 43)⟩,
⟨(some 45), (some (42, true)), .len false (.t 44)⟩,
⟨(some 46), (some (42, true)), .bin .leq .no (.t 45) (.c (.int .i64 4))⟩,
⟨some 47,none,.pick (.t 42) (.t 46) (.c (.bool false))⟩,
⟨some 4,none,.mv (.t 47)⟩]
def x_halls_isTrain : XFunc := { np := 2, res := [.t 4], body :=
  (.seq (.reg m24) (.seq (.reg m25) (.seq (.seq (.reg m27) (.block 0 (.loop g0j))) (.seq (.reg m26) .ret)))) }
@[go_sem] def m2a : List XO := [
⟨some 3,none,.boxF (.t 1)⟩,
⟨some 4,none,.mv (.c (.bool false))⟩]
@[go_sem] def m2b : List XO := [
⟨some 5,none,.fldA 0 (.tf 3)⟩,
⟨some 6,none,.load false 1 (.tf 5)⟩,
⟨some 7,none,.mv (.t 0)⟩,
⟨some 8,none,.bin .leq .no (.t 6) (.t 7)⟩,
⟨some 9,none,.mv (.t 8)⟩,
⟨(some 10), (some (9, true)), .mv (.t 0)⟩,
⟨(some 11), (some (9, true)), .fldA 1 (.tf 3)⟩,
⟨(some 12), (some (9, true)), .load false 1 (.tf 11)⟩,
⟨(some 13), (some (9, true)), .bin .leq .no (.t 10) (.t 12)⟩,
⟨some 14,none,.pick (.t 9) (.t 13) (.c (.bool false))⟩,
⟨some 4,none,.mv (.t 14)⟩]
def x_halls_in : XFunc := { np := 2, res := [.t 4], body :=
  (.seq (.reg m2a) (.seq (.reg m2b) .ret)) }
@[go_sem] def m2f : List XO := [
⟨some 3,none,.mv (.c (.bool false))⟩]
@[go_sem] def m2g : List XO := [
⟨some 4,none,.mv (.t 0)⟩,
⟨some 5,none,.fldA 3 (.t 1)⟩,
⟨some 6,none,.load true 2 (.t 5)⟩,
⟨some 7,none,.call "newel/halls.in" [.t 4, .t 6]⟩,
⟨some 8,none,.un .not (.t 7)⟩,
⟨some 3,none,.mv (.t 8)⟩]
def x_halls_isDayD1 : XFunc := { np := 2, res := [.t 3], body :=
  (.seq (.reg m2f) (.seq (.reg m2g) .ret)) }
@[go_sem] def m11 : List XO := [
⟨some 3,none,.mv (.c (.bool false))⟩]
@[go_sem] def m12 : List XO := [
⟨some 4,none,.mv (.t 0)⟩,
⟨some 5,none,.bin .lss .no (.t 4) (.c (.int .i64 0))⟩,
⟨some 6,none,.mv (.t 5)⟩,
⟨(some 7), (some (6, false)), .mv (.t 0)⟩,
⟨(some 8), (some (6, false)), .fldA 3 (.t 1)⟩,
⟨(some 9), (some (6, false)), .load false 1 (.t 8)⟩,
⟨(some 10), (some (6, false)), .bin .geq .no (.t 7) (.t 9)⟩,
⟨some 11,none,.pick (.t 6) (.c (.bool true)) (.t 10)⟩,
⟨some 3,none,.mv (.t 11)⟩]
def x_halls_checkD1 : XFunc := { np := 2, res := [.t 3], body :=
  (.seq (.reg m11) (.seq (.reg m12) .ret)) }
@[go_sem] def m1o : List XO := [
⟨some 4,none,.boxF (.t 0)⟩,
⟨some 8,none,.mv (.c (.int .i64 0))⟩]
@[go_sem] def m1p : List XO := [
⟨some 13,none,.fldA 1 (.tf 4)⟩,
⟨some 14,none,.load false 1 (.tf 13)⟩,
⟨some 15,none,.len false (.t 14)⟩,
⟨some 16,none,.mv (.c (.int .i64 0))⟩]
@[go_sem] def m1t : List XO := [
⟨some 17,none,.bin .lss .no (.t 16) (.t 15)⟩]
@[go_sem] def m1u : List XO := [
⟨some 18,none,.ixA 3 (.t 14) (.t 16)⟩,
⟨some 19,none,.load true 3 (.t 18)⟩,
⟨some 10,none,.alloc [(.int .i64 0), (.int .i64 0), (.slice none 0 0)]⟩,
⟨none, none, .store 3 (.t 10) (.t 19)⟩]
@[go_sem] def m1v : List XO := [
⟨some 20,none,.fldA 0 (.t 10)⟩,
⟨some 21,none,.fldA 1 (.t 20)⟩,
⟨some 22,none,.load false 1 (.t 21)⟩,
⟨some 23,none,.mv (.t 2)⟩,
⟨some 24,none,.bin .lss .no (.t 22) (.t 23)⟩,
⟨some 25,none,.mv (.t 24)⟩,
⟨(some 26), (some (25, false)), .fldA 0 (.t 10)⟩,
⟨(some 27), (some (25, false)), .fldA 0 (.t 26)⟩,
⟨(some 28), (some (25, false)), .load false 1 (.t 27)⟩,
⟨(some 29), (some (25, false)), .mv (.t 3)⟩,
⟨(some 30), (some (25, false)), .bin .gtr .no (.t 28) (.t 29)⟩,
⟨some 31,none,.pick (.t 25) (.c (.bool true)) (.t 30)⟩]
@[go_sem] def m1w : List XO := [
⟨some 32,none,.fldA 2 (.t 10)⟩,
⟨some 33,none,.load false 1 (.t 32)⟩,
⟨some 34,none,.len false (.t 33)⟩,
⟨some 35,none,.mv (.c (.int .i64 0))⟩]
@[go_sem] def m1x : List XO := [
⟨some 36,none,.bin .lss .no (.t 35) (.t 34)⟩]
@[go_sem] def m1y : List XO := [
⟨some 37,none,.ixA 3 (.t 33) (.t 35)⟩,
⟨some 38,none,.load true 3 (.t 37)⟩,
⟨some 12,none,.alloc [(.int .i64 0), (.int .i64 0), (.int .i64 0)]⟩,
⟨none, none, .store 3 (.t 12) (.t 38)⟩]
@[go_sem] def m1z : List XO := [
⟨some 39,none,.fldA 0 (.t 12)⟩,
⟨some 40,none,.load false 1 (.t 39)⟩,
⟨some 41,none,.mv (.t 1)⟩,
⟨some 42,none,.bin .eql .no (.t 40) (.t 41)⟩]
@[go_sem] def m10 : List XO := [
⟨some 43,none,.mv (.t 8)⟩,
⟨some 44,none,.fldA 1 (.t 12)⟩,
⟨some 45,none,.fldA 1 (.t 44)⟩,
⟨some 46,none,.load false 1 (.t 45)⟩,
⟨some 47,none,.bin .add .no (.t 43) (.t 46)⟩,
⟨some 8,none,.mv (.t 47)⟩]
@[go_sem] def m1q : List XO := [
⟨some 48,none,.bin .add .no (.t 35) (.c (.int .i64 1))⟩,
⟨some 35,none,.mv (.t 48)⟩]
def g0e : XCode :=
  (.seq (.reg m1x) (.seq (.cond (.t 36) .skip (.exit 2)) (.seq (.block 3 (.seq (.reg m1y) (.seq (.reg m1z) (.cond (.t 42) (.reg m10) .skip)))) (.reg m1q))))
@[go_sem] def m1r : List XO := [
⟨some 49,none,.bin .add .no (.t 16) (.c (.int .i64 1))⟩,
⟨some 16,none,.mv (.t 49)⟩]
def g0f : XCode :=
  (.seq (.reg m1t) (.seq (.cond (.t 17) .skip (.exit 0)) (.seq (.block 1 (.seq (.reg m1u) (.seq (.seq (.reg m1v) (.cond (.t 31) (.exit 1) .skip)) (.seq (.reg m1w) (.block 2 (.loop g0e)))))) (.reg m1r))))
@[go_sem] def m1s : List XO := [
⟨some 50,none,.mv (.t 8)⟩,
⟨some 8,none,.mv (.t 50)⟩]
def x_halls_brought : XFunc := { np := 4, res := [.t 8], body :=
  (.seq (.reg m1o) (.seq (.seq (.reg m1p) (.block 0 (.loop g0f))) (.seq (.reg m1s) .ret))) }
@[go_sem] def l1y : List XO := [
⟨some 6,none,.mv (.c (.int .i64 0))⟩]
@[go_sem] def l1z : List XO := [
⟨some 10,none,.mv (.t 2)⟩,
⟨some 11,none,.mv (.t 1)⟩,
⟨some 12,none,.bin .lss .no (.t 10) (.t 11)⟩,
⟨some 13,none,.mv (.t 12)⟩,
⟨(some 14), (some (13, false)), .mv (.t 2)⟩,
⟨(some 15), (some (13, false)), .bin .lss .no (.t 14) (.c (.int .i64 0))⟩,
⟨some 16,none,.pick (.t 13) (.c (.bool true)) (.t 15)⟩]
@[go_sem] def l16 : List XO := [
⟨some 6,none,.mv (.c (.int .i64 0))⟩]
@[go_sem] def l17 : List XO := [
⟨some 17,none,.mv (.t 1)⟩,
⟨some 18,none,.max [.t 17, (.c (.int .i64 0))]⟩,
⟨some 1,none,.mv (.t 18)⟩]
@[go_sem] def l18 : List XO := [
⟨some 19,none,.mv (.t 0)⟩,
⟨some 20,none,.nilck (.t 19)⟩,
⟨some 21,none,.fldA 3 (.t 20)⟩,
⟨some 22,none,.load false 1 (.t 21)⟩,
⟨some 23,none,.ixA 1 (.t 22) (.c (.int .i64 0))⟩,
⟨some 24,none,.load false 1 (.t 23)⟩,
⟨some 25,none,.mv (.t 2)⟩,
⟨some 26,none,.ixA 1 (.t 24) (.t 25)⟩,
⟨some 27,none,.load false 1 (.t 26)⟩,
⟨some 28,none,.mv (.t 0)⟩,
⟨some 29,none,.nilck (.t 28)⟩,
⟨some 30,none,.fldA 1 (.t 29)⟩,
⟨some 31,none,.load false 1 (.t 30)⟩,
⟨some 32,none,.mv (.t 2)⟩,
⟨some 33,none,.bin .add .no (.t 32) (.c (.int .i64 1))⟩,
⟨some 34,none,.ixA 1 (.t 31) (.t 33)⟩,
⟨some 35,none,.load false 1 (.t 34)⟩,
⟨some 36,none,.mv (.t 0)⟩,
⟨some 37,none,.nilck (.t 36)⟩,
⟨some 38,none,.fldA 1 (.t 37)⟩,
⟨some 39,none,.load false 1 (.t 38)⟩,
⟨some 40,none,.mv (.t 1)⟩,
⟨some 41,none,.ixA 1 (.t 39) (.t 40)⟩,
⟨some 42,none,.load false 1 (.t 41)⟩,
⟨some 43,none,.bin .sub .no (.t 35) (.t 42)⟩,
⟨some 44,none,.min [.t 27, .t 43]⟩,
⟨some 7,none,.mv (.t 44)⟩]
@[go_sem] def l19 : List XO := [
⟨some 45,none,.mv (.t 1)⟩,
⟨some 8,none,.mv (.t 45)⟩]
@[go_sem] def l2a : List XO := [
⟨some 46,none,.mv (.t 8)⟩,
⟨some 47,none,.mv (.t 2)⟩,
⟨some 48,none,.bin .leq .no (.t 46) (.t 47)⟩]
@[go_sem] def l2b : List XO := [
⟨some 9,none,.mv (.c (.int .i64 0))⟩]
@[go_sem] def l2c : List XO := [
⟨some 51,none,.mv (.t 8)⟩,
⟨some 52,none,.mv (.t 2)⟩,
⟨some 53,none,.bin .lss .no (.t 51) (.t 52)⟩]
@[go_sem] def l2d : List XO := [
⟨some 54,none,.mv (.t 0)⟩,
⟨some 55,none,.nilck (.t 54)⟩,
⟨some 56,none,.fldA 3 (.t 55)⟩,
⟨some 57,none,.load false 1 (.t 56)⟩,
⟨some 58,none,.mv (.t 8)⟩,
⟨some 59,none,.bin .add .no (.t 58) (.c (.int .i64 1))⟩,
⟨some 60,none,.ixA 1 (.t 57) (.t 59)⟩,
⟨some 61,none,.load false 1 (.t 60)⟩,
⟨some 62,none,.mv (.t 2)⟩,
⟨some 63,none,.ixA 1 (.t 61) (.t 62)⟩,
⟨some 64,none,.load false 1 (.t 63)⟩,
⟨some 9,none,.mv (.t 64)⟩]
@[go_sem] def l11 : List XO := [
⟨some 65,none,.mv (.t 7)⟩,
⟨some 66,none,.mv (.t 0)⟩,
⟨some 67,none,.nilck (.t 66)⟩,
⟨some 68,none,.fldA 1 (.t 67)⟩,
⟨some 69,none,.load false 1 (.t 68)⟩,
⟨some 70,none,.mv (.t 8)⟩,
⟨some 71,none,.ixA 1 (.t 69) (.t 70)⟩,
⟨some 72,none,.load false 1 (.t 71)⟩,
⟨some 73,none,.mv (.t 0)⟩,
⟨some 74,none,.nilck (.t 73)⟩,
⟨some 75,none,.fldA 1 (.t 74)⟩,
⟨some 76,none,.load false 1 (.t 75)⟩,
⟨some 77,none,.mv (.t 1)⟩,
⟨some 78,none,.ixA 1 (.t 76) (.t 77)⟩,
⟨some 79,none,.load false 1 (.t 78)⟩,
⟨some 80,none,.bin .sub .no (.t 72) (.t 79)⟩,
⟨some 81,none,.mv (.t 0)⟩,
⟨some 82,none,.nilck (.t 81)⟩,
⟨some 83,none,.fldA 2 (.t 82)⟩,
⟨some 84,none,.load false 1 (.t 83)⟩,
⟨some 85,none,.mv (.t 8)⟩,
⟨some 86,none,.ixA 1 (.t 84) (.t 85)⟩,
⟨some 87,none,.load false 1 (.t 86)⟩,
⟨some 88,none,.bin .add .no (.t 80) (.t 87)⟩,
⟨some 89,none,.mv (.t 9)⟩,
⟨some 90,none,.bin .add .no (.t 88) (.t 89)⟩,
⟨some 91,none,.min [.t 65, .t 90]⟩,
⟨some 7,none,.mv (.t 91)⟩]
@[go_sem] def l12 : List XO := [
⟨some 49,none,.mv (.t 8)⟩,
⟨some 50,none,.bin .add .no (.t 49) (.c (.int .i64 1))⟩,
⟨some 8,none,.mv (.t 50)⟩]
def d9v : XCode :=
  (.seq (.seq (.reg l2a) (.cond (.t 48) .skip (.exit 0))) (.seq (.block 1 (.seq (.reg l2b) (.seq (.seq (.reg l2c) (.cond (.t 53) (.reg l2d) .skip)) (.reg l11)))) (.reg l12)))
@[go_sem] def l15 : List XO := [
⟨some 92,none,.mv (.t 7)⟩,
⟨some 6,none,.mv (.t 92)⟩]
def x___halls_bound__passes : XFunc := { np := 3, res := [.t 6], body :=
  (.seq (.reg l1y) (.seq (.seq (.reg l1z) (.cond (.t 16) (.seq (.reg l16) .ret) .skip)) (.seq (.reg l17) (.seq (.reg l18) (.seq (.seq (.reg l19) (.block 0 (.loop d9v))) (.seq (.reg l15) .ret)))))) }
@[go_sem] def l5l : List XO := [
⟨some 1,none,.boxF (.t 0)⟩,
⟨some 2,none,.mv (.c (.int .i64 0))⟩]
@[go_sem] def l5m : List XO := [
⟨some 3,none,.mv (.f "newel/drive.Check$1")⟩]
@[go_sem] def l5o : List XO := [
⟨some 6,none,.fldA 1 (.tf 1)⟩,
⟨some 7,none,.load false 1 (.tf 6)⟩,
⟨some 8,none,.bin .lss .no (.t 7) (.c (.int .i64 1))⟩,
⟨some 9,none,.mv (.t 8)⟩,
⟨(some 10), (some (9, false)), .fldA 1 (.tf 1)⟩,
⟨(some 11), (some (9, false)), .load false 1 (.tf 10)⟩,
⟨(some 12), (some (9, false)), .bin .gtr .no (.t 11) (.c (.int .i64 100000))⟩,
⟨some 13,none,.pick (.t 9) (.c (.bool true)) (.t 12)⟩,
⟨some 14,none,.mv (.t 13)⟩,
⟨(some 15), (some (14, false)), .fldA 2 (.tf 1)⟩,
⟨(some 16), (some (14, false)), .load false 1 (.tf 15)⟩,
⟨(some 17), (some (14, false)), .call "newel/drive.to" [(.c (.int .i64 100))]⟩,
⟨(some 18), (some (14, false)), .call "newel/drive.in" [.t 16, .t 17]⟩,
⟨(some 19), (some (14, false)), .un .not (.t 18)⟩,
⟨some 20,none,.pick (.t 14) (.c (.bool true)) (.t 19)⟩,
⟨some 21,none,.mv (.t 20)⟩,
⟨(some 22), (some (21, false)), .fldA 3 (.tf 1)⟩,
⟨(some 23), (some (21, false)), .load false 1 (.tf 22)⟩,
⟨(some 24), (some (21, false)), .call "newel/drive.to" [(.c (.int .i64 10000000))]⟩,
⟨(some 25), (some (21, false)), .call "newel/drive.in" [.t 23, .t 24]⟩,
⟨(some 26), (some (21, false)), .un .not (.t 25)⟩,
⟨some 27,none,.pick (.t 21) (.c (.bool true)) (.t 26)⟩,
⟨some 28,none,.mv (.t 27)⟩,
⟨(some 29), (some (28, false)), .fldA 4 (.tf 1)⟩,
⟨(some 30), (some (28, false)), .load false 1 (.tf 29)⟩,
⟨(some 31), (some (28, false)), .call "newel/drive.to" [(.c (.int .i64 10000000))]⟩,
⟨(some 32), (some (28, false)), .call "newel/drive.in" [.t 30, .t 31]⟩,
⟨(some 33), (some (28, false)), .un .not (.t 32)⟩,
⟨some 34,none,.pick (.t 28) (.c (.bool true)) (.t 33)⟩,
⟨some 35,none,.mv (.t 34)⟩,
⟨(some 36), (some (35, false)), .fldA 5 (.tf 1)⟩,
⟨(some 37), (some (35, false)), .load false 1 (.tf 36)⟩,
⟨(some 38), (some (35, false)), .len false (.t 37)⟩,
⟨(some 39), (some (35, false)), .bin .gtr .no (.t 38) (.c (.int .i64 3))⟩,
⟨some 40,none,.pick (.t 35) (.c (.bool true)) (.t 39)⟩]
@[go_sem] def l5p : List XO := [
⟨some 2,none,.mv (.c (.int .i64 10))⟩]
@[go_sem] def l5q : List XO := [
⟨some 41,none,.fldA 5 (.tf 1)⟩,
⟨some 42,none,.load false 1 (.tf 41)⟩,
⟨some 43,none,.len false (.t 42)⟩,
⟨some 44,none,.mv (.c (.int .i64 0))⟩]
@[go_sem] def l5r : List XO := [
⟨some 45,none,.bin .lss .no (.t 44) (.t 43)⟩]
@[go_sem] def l5s : List XO := [
⟨some 46,none,.ixA 2 (.t 42) (.t 44)⟩,
⟨some 47,none,.load true 2 (.t 46)⟩,
⟨some 5,none,.alloc [(.int .i64 0), (.int .i64 0)]⟩,
⟨none, none, .store 2 (.t 5) (.t 47)⟩]
@[go_sem] def l5t : List XO := [
⟨some 48,none,.mv (.t 3)⟩,
⟨some 49,none,.load true 2 (.t 5)⟩,
⟨some 50,none,.callv (.t 48) [.t 49]⟩,
⟨some 51,none,.un .not (.t 50)⟩]
@[go_sem] def l5u : List XO := [
⟨some 2,none,.mv (.c (.int .i64 10))⟩]
@[go_sem] def l5v : List XO := [
⟨some 52,none,.bin .add .no (.t 44) (.c (.int .i64 1))⟩,
⟨some 44,none,.mv (.t 52)⟩]
def l5w : XCode :=
  (.seq (.reg l5r) (.seq (.cond (.t 45) .skip (.exit 0)) (.seq (.block 1 (.seq (.reg l5s) (.seq (.reg l5t) (.cond (.t 51) (.seq (.reg l5u) .ret) .skip)))) (.reg l5v))))
@[go_sem] def l5n : List XO := [
⟨some 2,none,.mv (.c (.int .i64 0))⟩]
def x_drive_Check : XFunc := { np := 1, res := [.t 2], body :=
  (.seq (.reg l5l) (.seq (.reg l5m) (.seq (.seq (.reg l5o) (.cond (.t 40) (.seq (.reg l5p) .ret) .skip)) (.seq (.seq (.reg l5q) (.block 0 (.loop l5w))) (.seq (.reg l5n) .ret))))) }
@[go_sem] def l6n : List XO := [
⟨some 3,none,.boxF (.t 1)⟩,
⟨some 4,none,.mv (.c (.bool false))⟩]
@[go_sem] def l6o : List XO := [
⟨some 5,none,.fldA 0 (.tf 3)⟩,
⟨some 6,none,.load false 1 (.tf 5)⟩,
⟨some 7,none,.mv (.t 0)⟩,
⟨some 8,none,.bin .leq .no (.t 6) (.t 7)⟩,
⟨some 9,none,.mv (.t 8)⟩,
⟨(some 10), (some (9, true)), .mv (.t 0)⟩,
⟨(some 11), (some (9, true)), .fldA 1 (.tf 3)⟩,
⟨(some 12), (some (9, true)), .load false 1 (.tf 11)⟩,
⟨(some 13), (some (9, true)), .bin .leq .no (.t 10) (.t 12)⟩,
⟨some 14,none,.pick (.t 9) (.t 13) (.c (.bool false))⟩,
⟨some 4,none,.mv (.t 14)⟩]
def x_drive_in : XFunc := { np := 2, res := [.t 4], body :=
  (.seq (.reg l6n) (.seq (.reg l6o) .ret)) }
@[go_sem] def l66 : List XO := [
⟨some 2,none,.alloc [(.int .i64 0), (.int .i64 0)]⟩]
@[go_sem] def l67 : List XO := [
⟨some 3,none,.mv (.t 0)⟩,
⟨some 4,none,.build [(.int .i64 0), (.int .i64 0)] [(1, 1, (.t 3))]⟩,
⟨none, none, .store 2 (.t 2) (.t 4)⟩]
def x_drive_to : XFunc := { np := 1, res := [.cell 2 true 2], body :=
  (.seq (.reg l66) (.seq (.reg l67) .ret)) }
@[go_sem] def l1d : List XO := [
⟨some 4,none,.mv (.c (.int .i64 0))⟩]
@[go_sem] def l1e : List XO := [
⟨some 9,none,.mv (.t 0)⟩,
⟨some 10,none,.nilck (.t 9)⟩,
⟨some 11,none,.load true 12 (.t 10)⟩,
⟨some 12,none,.mv (.t 0)⟩,
⟨some 13,none,.nilck (.t 12)⟩,
⟨some 14,none,.load true 12 (.t 13)⟩,
⟨some 5,none,.alloc [(.bool false), (.int .i64 0), (.int .i64 0), (.int .i64 0), (.int .i64 0), (.slice none 0 0), (.int .i64 0), (.int .i64 0), (.int .i64 0), (.int .i64 0), (.int .i64 0), (.int .i64 0)]⟩,
⟨some 6,none,.alloc [(.bool false), (.int .i64 0), (.int .i64 0), (.int .i64 0), (.int .i64 0), (.slice none 0 0), (.int .i64 0), (.int .i64 0), (.int .i64 0), (.int .i64 0), (.int .i64 0), (.int .i64 0)]⟩,
⟨none, none, .store 12 (.t 5) (.t 11)⟩,
⟨none, none, .store 12 (.t 6) (.t 14)⟩]
@[go_sem] def l1f : List XO := [
⟨some 15,none,.mv (.t 0)⟩,
⟨some 16,none,.nilck (.t 15)⟩,
⟨some 17,none,.fldA 6 (.t 16)⟩,
⟨some 18,none,.fldA 1 (.t 17)⟩,
⟨some 19,none,.fldA 0 (.t 18)⟩,
⟨some 20,none,.load false 1 (.t 19)⟩,
⟨some 21,none,.callw "(*newel/drive.motion).with" [.t 5, .t 20]⟩,
⟨some 22,none,.mv (.t 0)⟩,
⟨some 23,none,.nilck (.t 22)⟩,
⟨some 24,none,.fldA 6 (.t 23)⟩,
⟨some 25,none,.fldA 1 (.t 24)⟩,
⟨some 26,none,.fldA 1 (.t 25)⟩,
⟨some 27,none,.load false 1 (.t 26)⟩,
⟨some 28,none,.callw "(*newel/drive.motion).with" [.t 6, .t 27]⟩,
⟨some 7,none,.mv (.t 21)⟩,
⟨some 8,none,.mv (.t 28)⟩]
@[go_sem] def l1g : List XO := [
⟨some 29,none,.mv (.t 1)⟩,
⟨some 30,none,.mv (.t 29)⟩,
⟨(some 31), (some (30, true)), .mv (.t 8)⟩,
⟨(some 32), (some (30, true)), .mv (.t 7)⟩,
⟨(some 33), (some (30, true)), .bin .gtr .no (.t 31) (.t 32)⟩,
⟨some 34,none,.pick (.t 30) (.t 33) (.c (.bool false))⟩,
⟨some 35,none,.mv (.t 34)⟩,
⟨(some 36), (some (35, false)), .mv (.t 1)⟩,
⟨(some 37), (some (35, false)), .un .not (.t 36)⟩,
⟨(some 38), (some (35, false)), .mv (.t 37)⟩,
⟨(some 39), (some (38, true)), .mv (.t 8)⟩,
⟨(some 40), (some (38, true)), .mv (.t 7)⟩,
⟨(some 41), (some (38, true)), .bin .lss .no (.t 39) (.t 40)⟩,
⟨(some 42), (some (35, false)), .pick (.t 38) (.t 41) (.c (.bool false))⟩,
⟨some 43,none,.pick (.t 35) (.c (.bool true)) (.t 42)⟩]
@[go_sem] def l1h : List XO := [
⟨some 44,none,.mv (.t 0)⟩,
⟨some 45,none,.load true 12 (.t 6)⟩,
⟨some 46,none,.nilck (.t 44)⟩,
⟨none, none, .store 12 (.t 46) (.t 45)⟩]
@[go_sem] def l1i : List XO := [
⟨some 47,none,.mv (.t 0)⟩,
⟨some 48,none,.nilck (.t 47)⟩,
⟨some 49,none,.fldA 6 (.t 48)⟩,
⟨some 50,none,.fldA 1 (.t 49)⟩,
⟨some 51,none,.fldA 1 (.t 50)⟩,
⟨some 52,none,.load false 1 (.t 51)⟩,
⟨some 4,none,.mv (.t 52)⟩]
@[go_sem] def l1j : List XO := [
⟨some 53,none,.mv (.t 0)⟩,
⟨some 54,none,.load true 12 (.t 5)⟩,
⟨some 55,none,.nilck (.t 53)⟩,
⟨none, none, .store 12 (.t 55) (.t 54)⟩]
@[go_sem] def l1k : List XO := [
⟨some 56,none,.mv (.t 0)⟩,
⟨some 57,none,.nilck (.t 56)⟩,
⟨some 58,none,.fldA 6 (.t 57)⟩,
⟨some 59,none,.fldA 1 (.t 58)⟩,
⟨some 60,none,.fldA 0 (.t 59)⟩,
⟨some 61,none,.load false 1 (.t 60)⟩,
⟨some 4,none,.mv (.t 61)⟩]
def x___drive_motion__extreme : XFunc := { np := 2, res := [.t 4], body :=
  (.seq (.reg l1d) (.seq (.reg l1e) (.seq (.regW l1f) (.seq (.seq (.reg l1g) (.cond (.t 43) (.seq (.reg l1h) (.seq (.reg l1i) .ret)) .skip)) (.seq (.reg l1j) (.seq (.reg l1k) .ret)))))) }
@[go_sem] def l2u : List XO := [
⟨some 1,none,.boxF (.t 0)⟩,
⟨some 2,none,.mv (.c (.int .i64 0))⟩]
@[go_sem] def l2v : List XO := [
⟨some 9,none,.fldA 0 (.tf 1)⟩,
⟨some 10,none,.load false 1 (.tf 9)⟩,
⟨some 11,none,.bin .geq .no (.t 10) (.c (.int .i64 1))⟩,
⟨some 12,none,.mv (.t 11)⟩,
⟨(some 13), (some (12, true)), .fldA 0 (.tf 1)⟩,
⟨(some 14), (some (12, true)), .load false 1 (.tf 13)⟩,
⟨(some 15), (some (12, true)), .bin .leq .no (.t 14) (.c (.int .i64 8))⟩,
⟨some 16,none,.pick (.t 12) (.t 15) (.c (.bool false))⟩,
⟨some 17,none,.fldA 1 (.tf 1)⟩,
⟨some 18,none,.load false 1 (.tf 17)⟩,
⟨some 19,none,.len false (.t 18)⟩,
⟨some 20,none,.bin .geq .no (.t 19) (.c (.int .i64 1))⟩,
⟨some 21,none,.mv (.t 20)⟩,
⟨(some 22), (some (21, true)), .fldA 1 (.tf 1)⟩,
⟨(some 23), (some (21, true)), .load false 1 (.tf 22)⟩,
⟨(some 24), (some (21, true)), .len false (.t 23)⟩,
⟨(some 25), (some (21, true)), .bin .leq .no (.t 24) (.c (.int .i64 12))⟩,
⟨some 26,none,.pick (.t 21) (.t 25) (.c (.bool false))⟩,
⟨some 27,none,.fldA 2 (.tf 1)⟩,
⟨some 28,none,.load false 1 (.tf 27)⟩,
⟨some 29,none,.len false (.t 28)⟩,
⟨some 30,none,.bin .geq .no (.t 29) (.c (.int .i64 1))⟩,
⟨some 31,none,.mv (.t 30)⟩,
⟨(some 32), (some (31, true)), .fldA 2 (.tf 1)⟩,
⟨(some 33), (some (31, true)), .load false 1 (.tf 32)⟩,
⟨(some 34), (some (31, true)), .len false (.t 33)⟩,
⟨(some 35), (some (31, true)), .bin .leq .no (.t 34) (.c (.int .i64 24))⟩,
⟨some 36,none,.pick (.t 31) (.t 35) (.c (.bool false))⟩,
⟨some 37,none,.bsl 1 [.t 16, .t 26, .t 36]⟩,
⟨some 3,none,.mv (.t 37)⟩]
@[go_sem] def l27 : List XO := [
⟨some 38,none,.mv (.t 3)⟩,
⟨some 39,none,.call "slices.Contains[[]bool,bool]" [.t 38, (.c (.bool false))]⟩,
⟨some 40,none,.mv (.t 39)⟩,
⟨(some 41), (some (40, false)), .fldA 1 (.tf 1)⟩,
⟨(some 42), (some (40, false)), .load false 1 (.tf 41)⟩,
⟨(some 43), (some (40, false)), .mkfn "newel/circuit.Check$1" [] [.t 1]⟩,
⟨(some 44), (some (40, false)), .call "slices.ContainsFunc[[]int,int]" [.t 42, .t 43]⟩,
⟨some 45,none,.pick (.t 40) (.c (.bool true)) (.t 44)⟩]
@[go_sem] def l3e : List XO := [
⟨some 2,none,.mv (.c (.int .i64 30))⟩]
@[go_sem] def l3f : List XO := [
⟨some 46,none,.fldA 2 (.tf 1)⟩,
⟨some 47,none,.load false 1 (.tf 46)⟩,
⟨some 48,none,.len false (.t 47)⟩,
⟨some 49,none,.mksl 1 [(.int .i64 0)] 8 (.t 48) (.t 48)⟩,
⟨some 4,none,.mv (.t 49)⟩]
@[go_sem] def l3g : List XO := [
⟨some 50,none,.fldA 2 (.tf 1)⟩,
⟨some 51,none,.load false 1 (.tf 50)⟩,
⟨some 52,none,.len false (.t 51)⟩,
⟨some 53,none,.mv (.c (.int .i64 0))⟩]
@[go_sem] def l3h : List XO := [
⟨some 54,none,.bin .lss .no (.t 53) (.t 52)⟩]
@[go_sem] def l3i : List XO := [
⟨some 55,none,.mv (.t 53)⟩,
⟨some 56,none,.ixA 2 (.t 51) (.t 53)⟩,
⟨some 57,none,.load true 2 (.t 56)⟩,
⟨some 6,none,.alloc [(.int .i64 0), (.slice none 0 0)]⟩,
⟨some 5,none,.mv (.t 55)⟩,
⟨none, none, .store 2 (.t 6) (.t 57)⟩]
@[go_sem] def l3j : List XO := [
⟨some 58,none,.fldA 0 (.t 6)⟩,
⟨some 59,none,.load false 1 (.t 58)⟩]
@[go_sem] def l3k : List XO := [
⟨some 61,none,.bin .eql .no (.t 59) (.c (.int .i64 1))⟩,
⟨some 60,none,.mv (.t 61)⟩]
@[go_sem] def l2w : List XO := [
⟨some 62,none,.fldA 1 (.t 6)⟩,
⟨some 63,none,.load false 1 (.t 62)⟩,
⟨some 64,none,.len false (.t 63)⟩,
⟨some 65,none,.bin .neq .no (.t 64) (.c (.int .i64 1))⟩,
⟨some 66,none,.mv (.t 65)⟩,
⟨(some 67), (some (66, false)), .fldA 1 (.t 6)⟩,
⟨(some 68), (some (66, false)), .load false 1 (.t 67)⟩,
⟨(some 69), (some (66, false)), .fldA 1 (.tf 1)⟩,
⟨(some 70), (some (66, false)), .load false 1 (.tf 69)⟩,
⟨(some 71), (some (66, false)), .len false (.t 70)⟩,
⟨(some 72), (some (66, false)), .call "newel/circuit.ascending" [.t 68, (.c (.int .i64 0)), .t 71]⟩,
⟨(some 73), (some (66, false)), .un .not (.t 72)⟩,
⟨some 74,none,.pick (.t 66) (.c (.bool true)) (.t 73)⟩]
@[go_sem] def l2x : List XO := [
⟨some 2,none,.mv (.c (.int .i64 30))⟩]
@[go_sem] def l2y : List XO := [
⟨some 76,none,.bin .eql .no (.t 59) (.c (.int .i64 2))⟩,
⟨some 75,none,.mv (.t 76)⟩]
@[go_sem] def l2z : List XO := [
⟨some 77,none,.bin .eql .no (.t 59) (.c (.int .i64 3))⟩,
⟨some 75,none,.mv (.t 77)⟩]
@[go_sem] def l20 : List XO := [
⟨some 78,none,.fldA 1 (.t 6)⟩,
⟨some 79,none,.load false 1 (.t 78)⟩,
⟨some 80,none,.len false (.t 79)⟩,
⟨some 81,none,.bin .lss .no (.t 80) (.c (.int .i64 1))⟩,
⟨some 82,none,.mv (.t 81)⟩,
⟨(some 83), (some (82, false)), .fldA 1 (.t 6)⟩,
⟨(some 84), (some (82, false)), .load false 1 (.t 83)⟩,
⟨(some 85), (some (82, false)), .len false (.t 84)⟩,
⟨(some 86), (some (82, false)), .bin .gtr .no (.t 85) (.c (.int .i64 8))⟩,
⟨some 87,none,.pick (.t 82) (.c (.bool true)) (.t 86)⟩,
⟨some 88,none,.mv (.t 87)⟩,
⟨(some 89), (some (88, false)), .fldA 1 (.t 6)⟩,
⟨(some 90), (some (88, false)), .load false 1 (.t 89)⟩,
⟨(some 91), (some (88, false)), .mv (.t 5)⟩,
⟨(some 92), (some (88, false)), .bin .add .no (.t 91) (.c (.int .i64 1))⟩,
⟨(some 93), (some (88, false)), .fldA 2 (.tf 1)⟩,
⟨(some 94), (some (88, false)), .load false 1 (.tf 93)⟩,
⟨(some 95), (some (88, false)), .len false (.t 94)⟩,
⟨(some 96), (some (88, false)), .call "newel/circuit.ascending" [.t 90, .t 92, .t 95]⟩,
⟨(some 97), (some (88, false)), .un .not (.t 96)⟩,
⟨some 98,none,.pick (.t 88) (.c (.bool true)) (.t 97)⟩]
@[go_sem] def l21 : List XO := [
⟨some 2,none,.mv (.c (.int .i64 30))⟩]
@[go_sem] def l23 : List XO := [
⟨some 99,none,.fldA 1 (.t 6)⟩,
⟨some 100,none,.load false 1 (.t 99)⟩,
⟨some 101,none,.len false (.t 100)⟩,
⟨some 102,none,.mv (.c (.int .i64 0))⟩]
@[go_sem] def l24 : List XO := [
⟨some 103,none,.bin .lss .no (.t 102) (.t 101)⟩]
@[go_sem] def l25 : List XO := [
⟨some 104,none,.ixA 1 (.t 100) (.t 102)⟩,
⟨some 105,none,.load false 1 (.t 104)⟩,
⟨some 8,none,.mv (.t 105)⟩]
@[go_sem] def l26 : List XO := [
⟨some 106,none,.mv (.t 4)⟩,
⟨some 107,none,.mv (.t 8)⟩,
⟨some 108,none,.ixA 1 (.t 106) (.t 107)⟩,
⟨some 109,none,.load false 1 (.t 108)⟩,
⟨some 110,none,.bin .add .no (.t 109) (.c (.int .i64 1))⟩,
⟨some 111,none,.ixA 1 (.t 106) (.t 107)⟩,
⟨none, none, .store 1 (.t 111) (.t 110)⟩]
@[go_sem] def l28 : List XO := [
⟨some 112,none,.bin .add .no (.t 102) (.c (.int .i64 1))⟩,
⟨some 102,none,.mv (.t 112)⟩]
def l3l : XCode :=
  (.seq (.reg l24) (.seq (.cond (.t 103) .skip (.exit 3)) (.seq (.block 4 (.seq (.reg l25) (.reg l26))) (.reg l28))))
@[go_sem] def l29 : List XO := [
⟨some 2,none,.mv (.c (.int .i64 30))⟩]
@[go_sem] def l3a : List XO := [
⟨some 113,none,.bin .add .no (.t 53) (.c (.int .i64 1))⟩,
⟨some 53,none,.mv (.t 113)⟩]
def l3m : XCode :=
  (.seq (.reg l3h) (.seq (.cond (.t 54) .skip (.exit 0)) (.seq (.block 1 (.seq (.reg l3i) (.seq (.reg l3j) (.block 2 (.seq (.reg l3k) (.cond (.t 60) (.seq (.reg l2w) (.cond (.t 74) (.seq (.reg l2x) .ret) .skip)) (.seq (.seq (.reg l2y) (.cond (.t 75) .skip (.reg l2z))) (.cond (.t 75) (.seq (.seq (.reg l20) (.cond (.t 98) (.seq (.reg l21) .ret) .skip)) (.seq (.reg l23) (.block 3 (.loop l3l)))) (.seq (.reg l29) .ret))))))))) (.reg l3a))))
@[go_sem] def l3b : List XO := [
⟨some 114,none,.mv (.t 4)⟩,
⟨some 115,none,.ixA 1 (.t 114) (.c (.int .i64 0))⟩,
⟨some 116,none,.load false 1 (.t 115)⟩,
⟨some 117,none,.bin .neq .no (.t 116) (.c (.int .i64 0))⟩,
⟨some 118,none,.mv (.t 117)⟩,
⟨(some 119), (some (118, false)), .mv (.t 4)⟩,
⟨(some 120), (some (118, false)), .slc 1 (.t 119) (some (.c (.int .i64 1))) none⟩,
⟨(some 121), (some (118, false)), .call "slices.ContainsFunc[[]int,int]" [.t 120, (.f "newel/circuit.Check$2")]⟩,
⟨some 122,none,.pick (.t 118) (.c (.bool true)) (.t 121)⟩]
@[go_sem] def l3c : List XO := [
⟨some 2,none,.mv (.c (.int .i64 30))⟩]
@[go_sem] def l3d : List XO := [
⟨some 2,none,.mv (.c (.int .i64 0))⟩]
def x_circuit_Check : XFunc := { np := 1, res := [.t 2], body :=
  (.seq (.reg l2u) (.seq (.reg l2v) (.seq (.seq (.reg l27) (.cond (.t 45) (.seq (.reg l3e) .ret) .skip)) (.seq (.reg l3f) (.seq (.seq (.reg l3g) (.block 0 (.loop l3m))) (.seq (.seq (.reg l3b) (.cond (.t 122) (.seq (.reg l3c) .ret) .skip)) (.seq (.reg l3d) .ret))))))) }
@[go_sem] def m89 : List XO := [
⟨some 4,none,.mv (.c (.int .i64 0))⟩]
@[go_sem] def m9a : List XO := [
⟨some 6,none,.mv (.t 0)⟩,
⟨some 7,none,.len false (.t 6)⟩,
⟨some 8,none,.mv (.c (.int .i64 0))⟩]
@[go_sem] def m9b : List XO := [
⟨some 9,none,.bin .lss .no (.t 8) (.t 7)⟩]
@[go_sem] def m9c : List XO := [
⟨some 10,none,.mv (.t 8)⟩,
⟨some 5,none,.mv (.t 10)⟩]
@[go_sem] def m9d : List XO := [
⟨some 11,none,.mv (.t 1)⟩,
⟨some 12,none,.mv (.t 0)⟩,
⟨some 13,none,.mv (.t 5)⟩,
⟨some 14,none,.ixA 1 (.t 12) (.t 13)⟩,
⟨some 15,none,.load false 1 (.t 14)⟩,
⟨some 16,none,.bin .eql .no (.t 11) (.t 15)⟩]
@[go_sem] def m9e : List XO := [
⟨some 17,none,.mv (.t 5)⟩,
⟨some 4,none,.mv (.t 17)⟩]
@[go_sem] def m9f : List XO := [
⟨some 18,none,.bin .add .no (.t 8) (.c (.int .i64 1))⟩,
⟨some 8,none,.mv (.t 18)⟩]
def m9h : XCode :=
  (.seq (.reg m9b) (.seq (.cond (.t 9) .skip (.exit 0)) (.seq (.block 1 (.seq (.reg m9c) (.seq (.reg m9d) (.cond (.t 16) (.seq (.reg m9e) .ret) .skip)))) (.reg m9f))))
@[go_sem] def m9g : List XO := [
⟨some 4,none,.mv (.c (.int .i64 (-1)))⟩]
def x_slices_Index___int_int_ : XFunc := { np := 2, res := [.t 4], body :=
  (.seq (.reg m89) (.seq (.seq (.reg m9a) (.block 0 (.loop m9h))) (.seq (.reg m9g) .ret))) }
@[go_sem] def l2i : List XO := [
⟨some 2,none,.boxF (.t 0)⟩,
⟨some 4,none,.mv (.c (.bool false))⟩]
@[go_sem] def l2j : List XO := [
⟨some 6,none,.fldA 0 (.tf 2)⟩,
⟨some 7,none,.fldA 2 (.tf 6)⟩,
⟨some 8,none,.load false 1 (.tf 7)⟩,
⟨some 9,none,.mv (.t 1)⟩,
⟨some 10,none,.ixA 2 (.t 8) (.t 9)⟩,
⟨some 11,none,.load true 2 (.t 10)⟩,
⟨some 5,none,.alloc [(.int .i64 0), (.slice none 0 0)]⟩,
⟨none, none, .store 2 (.t 5) (.t 11)⟩]
@[go_sem] def l2k : List XO := [
⟨some 12,none,.fldA 0 (.t 5)⟩,
⟨some 13,none,.load false 1 (.t 12)⟩]
@[go_sem] def l2l : List XO := [
⟨some 15,none,.bin .eql .no (.t 13) (.c (.int .i64 1))⟩,
⟨some 14,none,.mv (.t 15)⟩]
@[go_sem] def l2m : List XO := [
⟨some 16,none,.load true 6 (.tf 2)⟩,
⟨some 17,none,.fldA 1 (.t 5)⟩,
⟨some 18,none,.load false 1 (.t 17)⟩,
⟨some 19,none,.ixA 1 (.t 18) (.c (.int .i64 0))⟩,
⟨some 20,none,.load false 1 (.t 19)⟩,
⟨some 21,none,.call "(newel/circuit.state).conducts" [.t 16, .t 20]⟩,
⟨some 4,none,.mv (.t 21)⟩]
@[go_sem] def l2n : List XO := [
⟨some 23,none,.bin .eql .no (.t 13) (.c (.int .i64 3))⟩,
⟨some 22,none,.mv (.t 23)⟩]
@[go_sem] def l2o : List XO := [
⟨some 24,none,.fldA 1 (.t 5)⟩,
⟨some 25,none,.load false 1 (.t 24)⟩,
⟨some 26,none,.load true 6 (.tf 2)⟩,
⟨some 27,none,.mkfn "(newel/circuit.state).wire" [.t 26] []⟩,
⟨some 28,none,.call "slices.ContainsFunc[[]int,int]" [.t 25, .t 27]⟩,
⟨some 4,none,.mv (.t 28)⟩]
@[go_sem] def l2p : List XO := [
⟨some 29,none,.fldA 1 (.t 5)⟩,
⟨some 30,none,.load false 1 (.t 29)⟩,
⟨some 31,none,.mkfn "(newel/circuit.state).wire$1" [] [.t 2]⟩,
⟨some 32,none,.call "slices.ContainsFunc[[]int,int]" [.t 30, .t 31]⟩,
⟨some 33,none,.un .not (.t 32)⟩,
⟨some 4,none,.mv (.t 33)⟩]
def x__circuit_state__wire : XFunc := { np := 2, res := [.t 4], body :=
  (.seq (.reg l2i) (.seq (.reg l2j) (.seq (.seq (.reg l2k) (.block 0 (.seq (.reg l2l) (.cond (.t 14) (.seq (.reg l2m) .ret) (.seq (.reg l2n) (.cond (.t 22) (.seq (.reg l2o) .ret) .skip)))))) (.seq (.reg l2p) .ret)))) }
@[go_sem] def m4e : List XO := [
⟨some 2,none,.mv (.c (.int .i64 0))⟩]
@[go_sem] def m4f : List XO := [
⟨some 3,none,.mv (.t 0)⟩,
⟨some 4,none,.bin .shr .no (.t 3) (.c (.int .u64 1))⟩,
⟨some 5,none,.bin .and .no (.t 4) (.c (.int .u64 6148914691236517205))⟩,
⟨some 6,none,.mv (.t 0)⟩,
⟨some 7,none,.bin .and .no (.t 6) (.c (.int .u64 6148914691236517205))⟩,
⟨some 8,none,.bin .add .no (.t 5) (.t 7)⟩,
⟨some 0,none,.mv (.t 8)⟩]
@[go_sem] def m4g : List XO := [
⟨some 9,none,.mv (.t 0)⟩,
⟨some 10,none,.bin .shr .no (.t 9) (.c (.int .u64 2))⟩,
⟨some 11,none,.bin .and .no (.t 10) (.c (.int .u64 3689348814741910323))⟩,
⟨some 12,none,.mv (.t 0)⟩,
⟨some 13,none,.bin .and .no (.t 12) (.c (.int .u64 3689348814741910323))⟩,
⟨some 14,none,.bin .add .no (.t 11) (.t 13)⟩,
⟨some 0,none,.mv (.t 14)⟩]
@[go_sem] def m4h : List XO := [
⟨some 15,none,.mv (.t 0)⟩,
⟨some 16,none,.bin .shr .no (.t 15) (.c (.int .u64 4))⟩,
⟨some 17,none,.mv (.t 0)⟩,
⟨some 18,none,.bin .add .no (.t 16) (.t 17)⟩,
⟨some 19,none,.bin .and .no (.t 18) (.c (.int .u64 1085102592571150095))⟩,
⟨some 0,none,.mv (.t 19)⟩]
@[go_sem] def m4i : List XO := [
⟨some 20,none,.mv (.t 0)⟩,
⟨some 21,none,.mv (.t 0)⟩,
⟨some 22,none,.bin .shr .no (.t 21) (.c (.int .u64 8))⟩,
⟨some 23,none,.bin .add .no (.t 20) (.t 22)⟩,
⟨some 0,none,.mv (.t 23)⟩]
@[go_sem] def m4j : List XO := [
⟨some 24,none,.mv (.t 0)⟩,
⟨some 25,none,.mv (.t 0)⟩,
⟨some 26,none,.bin .shr .no (.t 25) (.c (.int .u64 16))⟩,
⟨some 27,none,.bin .add .no (.t 24) (.t 26)⟩,
⟨some 0,none,.mv (.t 27)⟩]
@[go_sem] def m4k : List XO := [
⟨some 28,none,.mv (.t 0)⟩,
⟨some 29,none,.mv (.t 0)⟩,
⟨some 30,none,.bin .shr .no (.t 29) (.c (.int .u64 32))⟩,
⟨some 31,none,.bin .add .no (.t 28) (.t 30)⟩,
⟨some 0,none,.mv (.t 31)⟩]
@[go_sem] def m4l : List XO := [
⟨some 32,none,.mv (.t 0)⟩,
⟨some 33,none,.cvtI .i64 (.t 32)⟩,
⟨some 34,none,.bin .and .no (.t 33) (.c (.int .i64 127))⟩,
⟨some 2,none,.mv (.t 34)⟩]
def x_math_bits_OnesCount64 : XFunc := { np := 1, res := [.t 2], body :=
  (.seq (.reg m4e) (.seq (.reg m4f) (.seq (.reg m4g) (.seq (.reg m4h) (.seq (.reg m4i) (.seq (.reg m4j) (.seq (.reg m4k) (.seq (.reg m4l) .ret)))))))) }
@[go_sem] def l43 : List XO := [
⟨some 4,none,.mv (.c (.int .i64 0))⟩]
@[go_sem] def l44 : List XO := [
⟨some 7,none,.mv (.t 0)⟩,
⟨some 8,none,.call "cmp.isNaN[int]" [.t 7]⟩,
⟨some 5,none,.mv (.t 8)⟩]
@[go_sem] def l49 : List XO := [
⟨some 9,none,.mv (.t 1)⟩,
⟨some 10,none,.call "cmp.isNaN[int]" [.t 9]⟩,
⟨some 6,none,.mv (.t 10)⟩]
@[go_sem] def l5a : List XO := [
⟨some 11,none,.mv (.t 5)⟩]
@[go_sem] def l5b : List XO := [
⟨some 12,none,.mv (.t 6)⟩]
@[go_sem] def l5c : List XO := [
⟨some 4,none,.mv (.c (.int .i64 0))⟩]
@[go_sem] def l5d : List XO := [
⟨some 4,none,.mv (.c (.int .i64 (-1)))⟩]
@[go_sem] def l5e : List XO := [
⟨some 13,none,.mv (.t 6)⟩]
@[go_sem] def l5f : List XO := [
⟨some 4,none,.mv (.c (.int .i64 1))⟩]
@[go_sem] def l5g : List XO := [
⟨some 14,none,.mv (.t 0)⟩,
⟨some 15,none,.mv (.t 1)⟩,
⟨some 16,none,.bin .lss .no (.t 14) (.t 15)⟩]
@[go_sem] def l45 : List XO := [
⟨some 4,none,.mv (.c (.int .i64 (-1)))⟩]
@[go_sem] def l46 : List XO := [
⟨some 17,none,.mv (.t 0)⟩,
⟨some 18,none,.mv (.t 1)⟩,
⟨some 19,none,.bin .gtr .no (.t 17) (.t 18)⟩]
@[go_sem] def l47 : List XO := [
⟨some 4,none,.mv (.c (.int .i64 1))⟩]
@[go_sem] def l48 : List XO := [
⟨some 4,none,.mv (.c (.int .i64 0))⟩]
def x_cmp_Compare_int_ : XFunc := { np := 2, res := [.t 4], body :=
  (.seq (.reg l43) (.seq (.reg l44) (.seq (.reg l49) (.seq (.seq (.reg l5a) (.cond (.t 11) (.seq (.seq (.reg l5b) (.cond (.t 12) (.seq (.reg l5c) .ret) .skip)) (.seq (.reg l5d) .ret)) .skip)) (.seq (.seq (.reg l5e) (.cond (.t 13) (.seq (.reg l5f) .ret) .skip)) (.seq (.seq (.reg l5g) (.cond (.t 16) (.seq (.reg l45) .ret) .skip)) (.seq (.seq (.reg l46) (.cond (.t 19) (.seq (.reg l47) .ret) .skip)) (.seq (.reg l48) .ret)))))))) }
@[go_sem] def m4p : List XO := [
⟨some 2,none,.mv (.c (.int .i64 0))⟩]
@[go_sem] def m4q : List XO := [
⟨some 3,none,.mv (.t 0)⟩,
⟨some 4,none,.bin .eql .no (.t 3) (.c (.int .u64 0))⟩]
@[go_sem] def m4r : List XO := [
⟨some 2,none,.mv (.c (.int .i64 64))⟩]
@[go_sem] def m4s : List XO := [
⟨some 5,none,.mv (.t 0)⟩,
⟨some 6,none,.mv (.t 0)⟩,
⟨some 7,none,.un .neg (.t 6)⟩,
⟨some 8,none,.bin .and .no (.t 5) (.t 7)⟩,
⟨some 9,none,.bin .mul .no (.t 8) (.c (.int .u64 285870213051353865))⟩,
⟨some 10,none,.bin .shr .no (.t 9) (.c (.int .u64 58))⟩,
⟨some 11,none,.ixP 1 64 (.g 1 gt_1) (.t 10)⟩,
⟨some 12,none,.load false 1 (.t 11)⟩,
⟨some 13,none,.cvtI .i64 (.t 12)⟩,
⟨some 2,none,.mv (.t 13)⟩]
def x_math_bits_TrailingZeros64 : XFunc := { np := 1, res := [.t 2], body :=
  (.seq (.reg m4p) (.seq (.seq (.reg m4q) (.cond (.t 4) (.seq (.reg m4r) .ret) .skip)) (.seq (.reg m4s) .ret))) }
@[go_sem] def m8s : List XO := [
⟨some 4,none,.mv (.c (.int .i64 0))⟩]
@[go_sem] def m8t : List XO := [
⟨some 6,none,.mv (.t 0)⟩,
⟨some 7,none,.len false (.t 6)⟩,
⟨some 8,none,.mv (.c (.int .i64 0))⟩]
@[go_sem] def m8u : List XO := [
⟨some 9,none,.bin .lss .no (.t 8) (.t 7)⟩]
@[go_sem] def m8v : List XO := [
⟨some 10,none,.mv (.t 8)⟩,
⟨some 5,none,.mv (.t 10)⟩]
@[go_sem] def m8w : List XO := [
⟨some 11,none,.mv (.t 1)⟩,
⟨some 12,none,.mv (.t 0)⟩,
⟨some 13,none,.mv (.t 5)⟩,
⟨some 14,none,.ixA 1 (.t 12) (.t 13)⟩,
⟨some 15,none,.load false 1 (.t 14)⟩,
⟨some 16,none,.callv (.t 11) [.t 15]⟩]
@[go_sem] def m8x : List XO := [
⟨some 17,none,.mv (.t 5)⟩,
⟨some 4,none,.mv (.t 17)⟩]
@[go_sem] def m8y : List XO := [
⟨some 18,none,.bin .add .no (.t 8) (.c (.int .i64 1))⟩,
⟨some 8,none,.mv (.t 18)⟩]
def g00 : XCode :=
  (.seq (.reg m8u) (.seq (.cond (.t 9) .skip (.exit 0)) (.seq (.block 1 (.seq (.reg m8v) (.seq (.reg m8w) (.cond (.t 16) (.seq (.reg m8x) .ret) .skip)))) (.reg m8y))))
@[go_sem] def m8z : List XO := [
⟨some 4,none,.mv (.c (.int .i64 (-1)))⟩]
def x_slices_IndexFunc___int_int_ : XFunc := { np := 2, res := [.t 4], body :=
  (.seq (.reg m8s) (.seq (.seq (.reg m8t) (.block 0 (.loop g00))) (.seq (.reg m8z) .ret))) }
@[go_sem] def m3y : List XO := [
⟨some 3,none,.boxF (.t 0)⟩,
⟨some 6,none,.mv (.c (.bool false))⟩]
@[go_sem] def m3z : List XO := [
⟨some 7,none,.mv (.t 1)⟩,
⟨some 8,none,.fldA 0 (.tf 3)⟩,
⟨some 9,none,.load false 1 (.tf 8)⟩,
⟨some 10,none,.bin .leq .no (.t 7) (.t 9)⟩,
⟨some 11,none,.mv (.t 10)⟩,
⟨(some 12), (some (11, true)), .fldA 0 (.tf 3)⟩,
⟨(some 13), (some (11, true)), .load false 1 (.tf 12)⟩,
⟨(some 14), (some (11, true)), .fldA 1 (.tf 3)⟩,
⟨(some 15), (some (11, true)), .load false 1 (.tf 14)⟩,
⟨(some 16), (some (11, true)), .bin .leq .no (.t 13) (.t 15)⟩,
⟨some 17,none,.pick (.t 11) (.t 16) (.c (.bool false))⟩,
⟨some 18,none,.mv (.t 17)⟩,
⟨(some 19), (some (18, true)), .fldA 1 (.tf 3)⟩,
⟨(some 20), (some (18, true)), .load false 1 (.tf 19)⟩,
⟨(some 21), (some (18, true)), .mv (.t 2)⟩,
⟨(some 22), (some (18, true)), .bin .leq .no (.t 20) (.t 21)⟩,
⟨some 23,none,.pick (.t 18) (.t 22) (.c (.bool false))⟩,
⟨some 6,none,.mv (.t 23)⟩]
def x_halls_span : XFunc := { np := 3, res := [.t 6], body :=
  (.seq (.reg m3y) (.seq (.reg m3z) .ret)) }
@[go_sem] def m8k : List XO := [
⟨some 4,none,.mv (.c (.int .i64 0))⟩]
@[go_sem] def m8l : List XO := [
⟨some 6,none,.mv (.t 0)⟩,
⟨some 7,none,.len false (.t 6)⟩,
⟨some 8,none,.mv (.c (.int .i64 0))⟩]
@[go_sem] def m8m : List XO := [
⟨some 9,none,.bin .lss .no (.t 8) (.t 7)⟩]
@[go_sem] def m8n : List XO := [
⟨some 10,none,.mv (.t 8)⟩,
⟨some 5,none,.mv (.t 10)⟩]
@[go_sem] def m8o : List XO := [
⟨some 11,none,.mv (.t 1)⟩,
⟨some 12,none,.mv (.t 0)⟩,
⟨some 13,none,.mv (.t 5)⟩,
⟨some 14,none,.ixA 3 (.t 12) (.t 13)⟩,
⟨some 15,none,.load true 3 (.t 14)⟩,
⟨some 16,none,.callv (.t 11) [.t 15]⟩]
@[go_sem] def m8p : List XO := [
⟨some 17,none,.mv (.t 5)⟩,
⟨some 4,none,.mv (.t 17)⟩]
@[go_sem] def m8q : List XO := [
⟨some 18,none,.bin .add .no (.t 8) (.c (.int .i64 1))⟩,
⟨some 8,none,.mv (.t 18)⟩]
def g0z : XCode :=
  (.seq (.reg m8m) (.seq (.cond (.t 9) .skip (.exit 0)) (.seq (.block 1 (.seq (.reg m8n) (.seq (.reg m8o) (.cond (.t 16) (.seq (.reg m8p) .ret) .skip)))) (.reg m8q))))
@[go_sem] def m8r : List XO := [
⟨some 4,none,.mv (.c (.int .i64 (-1)))⟩]
def x_slices_IndexFunc___api_Train_api_Train_ : XFunc := { np := 2, res := [.t 4], body :=
  (.seq (.reg m8k) (.seq (.seq (.reg m8l) (.block 0 (.loop g0z))) (.seq (.reg m8r) .ret))) }
@[go_sem] def l5j : List XO := [
⟨some 1,none,.boxF (.t 0)⟩,
⟨some 2,none,.mv (.c (.bool false))⟩]
@[go_sem] def l5k : List XO := [
⟨some 3,none,.fldA 0 (.tf 1)⟩,
⟨some 4,none,.load false 1 (.tf 3)⟩,
⟨some 5,none,.call "newel/drive.to" [(.c (.int .i64 10000000))]⟩,
⟨some 6,none,.call "newel/drive.in" [.t 4, .t 5]⟩,
⟨some 7,none,.mv (.t 6)⟩,
⟨(some 8), (some (7, true)), .fldA 1 (.tf 1)⟩,
⟨(some 9), (some (7, true)), .load false 1 (.tf 8)⟩,
⟨(some 10), (some (7, true)), .call "newel/drive.to" [(.c (.int .i64 20))]⟩,
⟨(some 11), (some (7, true)), .call "newel/drive.in" [.t 9, .t 10]⟩,
⟨some 12,none,.pick (.t 7) (.t 11) (.c (.bool false))⟩,
⟨some 2,none,.mv (.t 12)⟩]
def x_drive_CheckD1 : XFunc := { np := 1, res := [.t 2], body :=
  (.seq (.reg l5j) (.seq (.reg l5k) .ret)) }
@[go_sem] def l1u : List XO := [
⟨some 4,none,.mv (.c (.int .i64 0))⟩]
@[go_sem] def l1v : List XO := [
⟨some 5,none,.mv (.t 0)⟩,
⟨some 6,none,.mv (.t 0)⟩,
⟨some 7,none,.nilck (.t 6)⟩,
⟨some 8,none,.fldA 0 (.t 7)⟩,
⟨some 9,none,.load true 6 (.t 8)⟩,
⟨some 10,none,.mv (.t 0)⟩,
⟨some 11,none,.nilck (.t 10)⟩,
⟨some 12,none,.fldA 10 (.t 11)⟩,
⟨some 13,none,.load false 1 (.t 12)⟩,
⟨some 14,none,.mv (.t 1)⟩,
⟨some 15,none,.mv (.t 0)⟩,
⟨some 16,none,.call "(*newel/drive.motion).grip" [.t 15]⟩,
⟨some 17,none,.call "newel/drive.tick" [.t 9, .t 13, .t 14, .t 16]⟩,
⟨some 18,none,.nilck (.t 5)⟩,
⟨some 19,none,.fldA 10 (.t 18)⟩,
⟨none, none, .store 1 (.t 19) (.t 17)⟩]
@[go_sem] def l1w : List XO := [
⟨some 20,none,.mv (.t 0)⟩,
⟨some 21,none,.nilck (.t 20)⟩,
⟨some 22,none,.fldA 11 (.t 21)⟩,
⟨some 23,none,.load false 1 (.t 22)⟩,
⟨some 24,none,.bin .add .no (.t 23) (.c (.int .i64 1))⟩,
⟨some 25,none,.nilck (.t 20)⟩,
⟨some 26,none,.fldA 11 (.t 25)⟩,
⟨none, none, .store 1 (.t 26) (.t 24)⟩]
@[go_sem] def l1x : List XO := [
⟨some 27,none,.mv (.t 0)⟩,
⟨some 28,none,.nilck (.t 27)⟩,
⟨some 29,none,.fldA 10 (.t 28)⟩,
⟨some 30,none,.load false 1 (.t 29)⟩,
⟨some 4,none,.mv (.t 30)⟩]
def x___drive_motion__with : XFunc := { np := 2, res := [.t 4], body :=
  (.seq (.reg l1u) (.seq (.reg l1v) (.seq (.reg l1w) (.seq (.reg l1x) .ret)))) }
@[go_sem] def m8g : List XO := [
⟨some 4,none,.mv (.c (.bool false))⟩]
@[go_sem] def m8h : List XO := [
⟨some 5,none,.mv (.t 0)⟩,
⟨some 6,none,.mv (.t 1)⟩,
⟨some 7,none,.call "slices.Index[[]bool,bool]" [.t 5, .t 6]⟩,
⟨some 8,none,.bin .geq .no (.t 7) (.c (.int .i64 0))⟩,
⟨some 4,none,.mv (.t 8)⟩]
def x_slices_Contains___bool_bool_ : XFunc := { np := 2, res := [.t 4], body :=
  (.seq (.reg m8g) (.seq (.reg m8h) .ret)) }
@[go_sem] def l2q : List XO := [
⟨some 3,none,.mv (.c (.bool false))⟩]
@[go_sem] def l2r : List XO := [
⟨some 4,none,.mv (.t 0)⟩,
⟨some 5,none,.fldA 0 (.t 1)⟩,
⟨some 6,none,.load false 1 (.t 5)⟩,
⟨some 7,none,.call "newel/circuit.isSet" [.t 4, .t 6]⟩,
⟨some 8,none,.un .not (.t 7)⟩,
⟨some 3,none,.mv (.t 8)⟩]
def x_circuit_CheckD1 : XFunc := { np := 2, res := [.t 3], body :=
  (.seq (.reg l2q) (.seq (.reg l2r) .ret)) }
@[go_sem] def l4s : List XO := [
⟨some 4,none,.mv (.c (.bool false))⟩]
@[go_sem] def l4t : List XO := [
⟨some 5,none,.mv (.t 0)⟩,
⟨some 6,none,.bin .geq .no (.t 5) (.c (.int .i64 0))⟩,
⟨some 7,none,.mv (.t 6)⟩,
⟨(some 8), (some (7, true)), .mv (.t 0)⟩,
⟨(some 9), (some (7, true)), .mv (.t 1)⟩,
⟨(some 10), (some (7, true)), .bin .shl .no (.c (.int .i64 1)) (.t 9)⟩,
⟨(some 11), (some (7, true)), .bin .lss .no (.t 8) (.t 10)⟩,
⟨some 12,none,.pick (.t 7) (.t 11) (.c (.bool false))⟩,
⟨some 4,none,.mv (.t 12)⟩]
def x_circuit_isSet : XFunc := { np := 2, res := [.t 4], body :=
  (.seq (.reg l4s) (.seq (.reg l4t) .ret)) }
@[go_sem] def l4i : List XO := [
⟨some 6,none,.mv (.c (.bool false))⟩]
@[go_sem] def l4j : List XO := [
⟨some 9,none,.mv (.t 0)⟩,
⟨some 10,none,.len false (.t 9)⟩,
⟨some 11,none,.mv (.c (.int .i64 0))⟩]
@[go_sem] def l4k : List XO := [
⟨some 12,none,.bin .lss .no (.t 11) (.t 10)⟩]
@[go_sem] def l4l : List XO := [
⟨some 13,none,.ixA 1 (.t 9) (.t 11)⟩,
⟨some 14,none,.load false 1 (.t 13)⟩,
⟨some 8,none,.mv (.t 14)⟩]
@[go_sem] def l4m : List XO := [
⟨some 15,none,.mv (.t 8)⟩,
⟨some 16,none,.mv (.t 1)⟩,
⟨some 17,none,.bin .lss .no (.t 15) (.t 16)⟩,
⟨some 18,none,.mv (.t 17)⟩,
⟨(some 19), (some (18, false)), .mv (.t 8)⟩,
⟨(some 20), (some (18, false)), .mv (.t 2)⟩,
⟨(some 21), (some (18, false)), .bin .geq .no (.t 19) (.t 20)⟩,
⟨some 22,none,.pick (.t 18) (.c (.bool true)) (.t 21)⟩]
@[go_sem] def l4n : List XO := [
⟨some 6,none,.mv (.c (.bool false))⟩]
@[go_sem] def l4o : List XO := [
⟨some 23,none,.mv (.t 8)⟩,
⟨some 24,none,.bin .add .no (.t 23) (.c (.int .i64 1))⟩,
⟨some 1,none,.mv (.t 24)⟩]
@[go_sem] def l4p : List XO := [
⟨some 25,none,.bin .add .no (.t 11) (.c (.int .i64 1))⟩,
⟨some 11,none,.mv (.t 25)⟩]
def l4r : XCode :=
  (.seq (.reg l4k) (.seq (.cond (.t 12) .skip (.exit 0)) (.seq (.block 1 (.seq (.reg l4l) (.seq (.seq (.reg l4m) (.cond (.t 22) (.seq (.reg l4n) .ret) .skip)) (.reg l4o)))) (.reg l4p))))
@[go_sem] def l4q : List XO := [
⟨some 6,none,.mv (.c (.bool true))⟩]
def x_circuit_ascending : XFunc := { np := 3, res := [.t 6], body :=
  (.seq (.reg l4i) (.seq (.seq (.reg l4j) (.block 0 (.loop l4r))) (.seq (.reg l4q) .ret))) }
@[go_sem] def l2s : List XO := [
⟨some 2,none,.mv (.c (.bool false))⟩]
@[go_sem] def l2t : List XO := [
⟨some 3,none,.mv (.t 0)⟩,
⟨some 4,none,.bin .neq .no (.t 3) (.c (.int .i64 1))⟩,
⟨some 2,none,.mv (.t 4)⟩]
def x_circuit_CheckD2 : XFunc := { np := 1, res := [.t 2], body :=
  (.seq (.reg l2s) (.seq (.reg l2t) .ret)) }
@[go_sem] def l2e : List XO := [
⟨some 2,none,.boxF (.t 0)⟩,
⟨some 4,none,.mv (.c (.bool false))⟩]
@[go_sem] def l2f : List XO := [
⟨some 5,none,.fldA 5 (.tf 2)⟩,
⟨some 6,none,.load false 1 (.tf 5)⟩,
⟨some 7,none,.mv (.t 1)⟩,
⟨some 8,none,.bin .shr .no (.t 6) (.t 7)⟩,
⟨some 9,none,.bin .and .no (.t 8) (.c (.int .i64 1))⟩,
⟨some 10,none,.bin .eql .no (.t 9) (.c (.int .i64 0))⟩,
⟨some 11,none,.mv (.t 10)⟩,
⟨(some 12), (some (11, true)), .fldA 4 (.tf 2)⟩,
⟨(some 13), (some (11, true)), .load false 1 (.tf 12)⟩,
⟨(some 14), (some (11, true)), .mv (.t 1)⟩,
⟨(some 15), (some (11, true)), .bin .shr .no (.t 13) (.t 14)⟩,
⟨(some 16), (some (11, true)), .bin .and .no (.t 15) (.c (.int .i64 1))⟩,
⟨(some 17), (some (11, true)), .bin .eql .no (.t 16) (.c (.int .i64 1))⟩,
⟨(some 18), (some (11, true)), .mv (.t 17)⟩,
⟨(some 19), (some (18, false)), .fldA 0 (.tf 2)⟩,
⟨(some 20), (some (18, false)), .fldA 1 (.tf 19)⟩,
⟨(some 21), (some (18, false)), .load false 1 (.tf 20)⟩,
⟨(some 22), (some (18, false)), .mv (.t 1)⟩,
⟨(some 23), (some (18, false)), .ixA 1 (.t 21) (.t 22)⟩,
⟨(some 24), (some (18, false)), .load false 1 (.t 23)⟩,
⟨(some 25), (some (18, false)), .fldA 3 (.tf 2)⟩,
⟨(some 26), (some (18, false)), .load false 1 (.tf 25)⟩,
⟨(some 27), (some (18, false)), .bin .and .no (.t 24) (.t 26)⟩,
⟨(some 28), (some (18, false)), .bin .eql .no (.t 27) (.c (.int .i64 0))⟩,
⟨(some 29), (some (11, true)), .pick (.t 18) (.c (.bool true)) (.t 28)⟩,
⟨some 30,none,.pick (.t 11) (.t 29) (.c (.bool false))⟩,
⟨some 4,none,.mv (.t 30)⟩]
def x__circuit_state__conducts : XFunc := { np := 2, res := [.t 4], body :=
  (.seq (.reg l2e) (.seq (.reg l2f) .ret)) }
@[go_sem] def l2g : List XO := [
⟨some 3,none,.mv (.c (.bool false))⟩]
@[go_sem] def l2h : List XO := [
⟨some 4,none,.load true 6 (.t 1)⟩,
⟨some 5,none,.mv (.t 0)⟩,
⟨some 6,none,.call "(newel/circuit.state).wire" [.t 4, .t 5]⟩,
⟨some 7,none,.un .not (.t 6)⟩,
⟨some 3,none,.mv (.t 7)⟩]
def x__circuit_state__wireD1 : XFunc := { np := 2, res := [.t 3], body :=
  (.seq (.reg l2g) (.seq (.reg l2h) .ret)) }
@[go_sem] def l5h : List XO := [
⟨some 2,none,.mv (.c (.bool false))⟩]
@[go_sem] def l5i : List XO := [
⟨some 3,none,.mv (.t 0)⟩,
⟨some 4,none,.mv (.t 0)⟩,
⟨some 5,none,.bin .neq .no (.t 3) (.t 4)⟩,
⟨some 2,none,.mv (.t 5)⟩]
def x_cmp_isNaN_int_ : XFunc := { np := 1, res := [.t 2], body :=
  (.seq (.reg l5h) (.seq (.reg l5i) .ret)) }
@[go_sem] def l6y : List XO := [
⟨some 4,none,.boxF (.t 0)⟩,
⟨some 8,none,.mv (.c (.int .i64 0))⟩]
@[go_sem] def l6z : List XO := [
⟨some 12,none,.fldA 2 (.tf 4)⟩,
⟨some 13,none,.load false 1 (.tf 12)⟩,
⟨some 14,none,.mv (.t 2)⟩,
⟨some 15,none,.bin .mul .no (.t 13) (.t 14)⟩,
⟨some 16,none,.fldA 3 (.tf 4)⟩,
⟨some 17,none,.load false 1 (.tf 16)⟩,
⟨some 18,none,.mv (.t 3)⟩,
⟨some 19,none,.bin .add .no (.t 17) (.t 18)⟩,
⟨some 20,none,.fldA 1 (.tf 4)⟩,
⟨some 21,none,.load false 1 (.tf 20)⟩,
⟨some 22,none,.mv (.t 2)⟩,
⟨some 23,none,.bin .add .no (.t 21) (.t 22)⟩,
⟨some 9,none,.mv (.t 15)⟩,
⟨some 10,none,.mv (.t 19)⟩,
⟨some 11,none,.mv (.t 23)⟩]
@[go_sem] def l60 : List XO := [
⟨some 24,none,.fldA 0 (.tf 4)⟩,
⟨some 25,none,.load false 1 (.tf 24)⟩]
@[go_sem] def l61 : List XO := [
⟨some 26,none,.mv (.t 9)⟩,
⟨some 27,none,.un .neg (.t 26)⟩,
⟨some 9,none,.mv (.t 27)⟩]
@[go_sem] def l62 : List XO := [
⟨some 28,none,.mv (.t 1)⟩,
⟨some 29,none,.bin .lss .no (.t 28) (.c (.int .i64 0))⟩,
⟨some 30,none,.mv (.t 29)⟩,
⟨(some 31), (some (30, false)), .mv (.t 1)⟩,
⟨(some 32), (some (30, false)), .bin .eql .no (.t 31) (.c (.int .i64 0))⟩,
⟨(some 33), (some (30, false)), .mv (.t 32)⟩,
⟨(some 34), (some (33, true)), .mv (.t 9)⟩,
⟨(some 35), (some (33, true)), .bin .lss .no (.t 34) (.c (.int .i64 0))⟩,
⟨(some 36), (some (30, false)), .pick (.t 33) (.t 35) (.c (.bool false))⟩,
⟨some 37,none,.pick (.t 30) (.c (.bool true)) (.t 36)⟩]
@[go_sem] def l63 : List XO := [
⟨some 38,none,.mv (.t 1)⟩,
⟨some 39,none,.un .neg (.t 38)⟩,
⟨some 40,none,.mv (.t 9)⟩,
⟨some 41,none,.un .neg (.t 40)⟩,
⟨some 42,none,.mv (.t 10)⟩,
⟨some 43,none,.mv (.t 11)⟩,
⟨some 44,none,.call "newel/drive.ahead" [.t 39, .t 41, .t 42, .t 43]⟩,
⟨some 45,none,.un .neg (.t 44)⟩,
⟨some 8,none,.mv (.t 45)⟩]
@[go_sem] def l64 : List XO := [
⟨some 46,none,.mv (.t 1)⟩,
⟨some 47,none,.mv (.t 9)⟩,
⟨some 48,none,.mv (.t 10)⟩,
⟨some 49,none,.mv (.t 11)⟩,
⟨some 50,none,.call "newel/drive.ahead" [.t 46, .t 47, .t 48, .t 49]⟩,
⟨some 8,none,.mv (.t 50)⟩]
def x_drive_tick : XFunc := { np := 4, res := [.t 8], body :=
  (.seq (.reg l6y) (.seq (.reg l6z) (.seq (.seq (.reg l60) (.cond (.t 25) (.reg l61) .skip)) (.seq (.seq (.reg l62) (.cond (.t 37) (.seq (.reg l63) .ret) .skip)) (.seq (.reg l64) .ret))))) }
@[go_sem] def l1l : List XO := [
⟨some 2,none,.mv (.c (.int .i64 0))⟩]
@[go_sem] def l1m : List XO := [
⟨some 5,none,.mv (.t 0)⟩,
⟨some 6,none,.nilck (.t 5)⟩,
⟨some 7,none,.fldA 0 (.t 6)⟩,
⟨some 8,none,.fldA 5 (.t 7)⟩,
⟨some 9,none,.load false 1 (.t 8)⟩,
⟨some 10,none,.len false (.t 9)⟩,
⟨some 11,none,.mv (.c (.int .i64 0))⟩]
@[go_sem] def l1n : List XO := [
⟨some 12,none,.bin .lss .no (.t 11) (.t 10)⟩]
@[go_sem] def l1o : List XO := [
⟨some 13,none,.mv (.t 11)⟩,
⟨some 14,none,.ixA 2 (.t 9) (.t 11)⟩,
⟨some 15,none,.load true 2 (.t 14)⟩,
⟨some 4,none,.alloc [(.int .i64 0), (.int .i64 0)]⟩,
⟨some 3,none,.mv (.t 13)⟩,
⟨none, none, .store 2 (.t 4) (.t 15)⟩]
@[go_sem] def l1p : List XO := [
⟨some 16,none,.mv (.t 0)⟩,
⟨some 17,none,.nilck (.t 16)⟩,
⟨some 18,none,.fldA 6 (.t 17)⟩,
⟨some 19,none,.fldA 3 (.t 18)⟩,
⟨some 20,none,.load false 1 (.t 19)⟩,
⟨some 21,none,.mv (.t 3)⟩,
⟨some 22,none,.bin .shr .no (.t 20) (.t 21)⟩,
⟨some 23,none,.bin .and .no (.t 22) (.c (.int .i64 1))⟩,
⟨some 24,none,.bin .eql .no (.t 23) (.c (.int .i64 0))⟩,
⟨some 25,none,.mv (.t 24)⟩,
⟨(some 26), (some (25, true)), .fldA 1 (.t 4)⟩,
⟨(some 27), (some (25, true)), .load false 1 (.t 26)⟩,
⟨(some 28), (some (25, true)), .mv (.t 0)⟩,
⟨(some 29), (some (25, true)), .nilck (.t 28)⟩,
⟨(some 30), (some (25, true)), .fldA 11 (.t 29)⟩,
⟨(some 31), (some (25, true)), .load false 1 (.t 30)⟩,
⟨(some 32), (some (25, true)), .bin .leq .no (.t 27) (.t 31)⟩,
⟨some 33,none,.pick (.t 25) (.t 32) (.c (.bool false))⟩]
@[go_sem] def l1q : List XO := [
⟨some 34,none,.mv (.t 2)⟩,
⟨some 35,none,.fldA 0 (.t 4)⟩,
⟨some 36,none,.load false 1 (.t 35)⟩,
⟨some 37,none,.bin .add .no (.t 34) (.t 36)⟩,
⟨some 2,none,.mv (.t 37)⟩]
@[go_sem] def l1r : List XO := [
⟨some 38,none,.bin .add .no (.t 11) (.c (.int .i64 1))⟩,
⟨some 11,none,.mv (.t 38)⟩]
def l1t : XCode :=
  (.seq (.reg l1n) (.seq (.cond (.t 12) .skip (.exit 0)) (.seq (.block 1 (.seq (.reg l1o) (.seq (.reg l1p) (.cond (.t 33) (.reg l1q) .skip)))) (.reg l1r))))
@[go_sem] def l1s : List XO := [
⟨some 39,none,.mv (.t 2)⟩,
⟨some 2,none,.mv (.t 39)⟩]
def x___drive_motion__grip : XFunc := { np := 1, res := [.t 2], body :=
  (.seq (.reg l1l) (.seq (.seq (.reg l1m) (.block 0 (.loop l1t))) (.seq (.reg l1s) .ret))) }
@[go_sem] def m80 : List XO := [
⟨some 4,none,.mv (.c (.int .i64 0))⟩]
@[go_sem] def m81 : List XO := [
⟨some 6,none,.mv (.t 0)⟩,
⟨some 7,none,.len false (.t 6)⟩,
⟨some 8,none,.mv (.c (.int .i64 0))⟩]
@[go_sem] def m82 : List XO := [
⟨some 9,none,.bin .lss .no (.t 8) (.t 7)⟩]
@[go_sem] def m83 : List XO := [
⟨some 10,none,.mv (.t 8)⟩,
⟨some 5,none,.mv (.t 10)⟩]
@[go_sem] def m84 : List XO := [
⟨some 11,none,.mv (.t 1)⟩,
⟨some 12,none,.mv (.t 0)⟩,
⟨some 13,none,.mv (.t 5)⟩,
⟨some 14,none,.ixA 1 (.t 12) (.t 13)⟩,
⟨some 15,none,.load false 1 (.t 14)⟩,
⟨some 16,none,.bin .eql .bool (.t 11) (.t 15)⟩]
@[go_sem] def m85 : List XO := [
⟨some 17,none,.mv (.t 5)⟩,
⟨some 4,none,.mv (.t 17)⟩]
@[go_sem] def m86 : List XO := [
⟨some 18,none,.bin .add .no (.t 8) (.c (.int .i64 1))⟩,
⟨some 8,none,.mv (.t 18)⟩]
def m88 : XCode :=
  (.seq (.reg m82) (.seq (.cond (.t 9) .skip (.exit 0)) (.seq (.block 1 (.seq (.reg m83) (.seq (.reg m84) (.cond (.t 16) (.seq (.reg m85) .ret) .skip)))) (.reg m86))))
@[go_sem] def m87 : List XO := [
⟨some 4,none,.mv (.c (.int .i64 (-1)))⟩]
def x_slices_Index___bool_bool_ : XFunc := { np := 2, res := [.t 4], body :=
  (.seq (.reg m80) (.seq (.seq (.reg m81) (.block 0 (.loop m88))) (.seq (.reg m87) .ret))) }
@[go_sem] def l59 : List XO := [
⟨some 8,none,.mv (.c (.int .i64 0))⟩]
@[go_sem] def l6a : List XO := [
⟨some 9,none,.mv (.t 0)⟩,
⟨some 10,none,.mv (.t 1)⟩,
⟨some 11,none,.mv (.t 2)⟩,
⟨some 12,none,.bin .sub .no (.t 10) (.t 11)⟩,
⟨some 13,none,.mv (.t 3)⟩,
⟨some 14,none,.call "newel/drive.floor" [.t 12, .t 13]⟩,
⟨some 15,none,.bin .add .no (.t 9) (.t 14)⟩,
⟨some 16,none,.max [(.c (.int .i64 0)), .t 15]⟩,
⟨some 8,none,.mv (.t 16)⟩]
def x_drive_ahead : XFunc := { np := 4, res := [.t 8], body :=
  (.seq (.reg l59) (.seq (.reg l6a) .ret)) }
@[go_sem] def l6i : List XO := [
⟨some 4,none,.mv (.c (.int .i64 0))⟩]
@[go_sem] def l6j : List XO := [
⟨some 7,none,.mv (.t 0)⟩,
⟨some 8,none,.mv (.t 1)⟩,
⟨some 9,none,.bin .quo .no (.t 7) (.t 8)⟩,
⟨some 10,none,.mv (.t 0)⟩,
⟨some 11,none,.mv (.t 1)⟩,
⟨some 12,none,.bin .rem .no (.t 10) (.t 11)⟩,
⟨some 5,none,.mv (.t 9)⟩,
⟨some 6,none,.mv (.t 12)⟩]
@[go_sem] def l6k : List XO := [
⟨some 13,none,.mv (.t 6)⟩,
⟨some 14,none,.bin .lss .no (.t 13) (.c (.int .i64 0))⟩]
@[go_sem] def l6l : List XO := [
⟨some 15,none,.mv (.t 5)⟩,
⟨some 16,none,.bin .sub .no (.t 15) (.c (.int .i64 1))⟩,
⟨some 5,none,.mv (.t 16)⟩]
@[go_sem] def l6m : List XO := [
⟨some 17,none,.mv (.t 5)⟩,
⟨some 4,none,.mv (.t 17)⟩]
def x_drive_floor : XFunc := { np := 2, res := [.t 4], body :=
  (.seq (.reg l6i) (.seq (.reg l6j) (.seq (.seq (.reg l6k) (.cond (.t 14) (.reg l6l) .skip)) (.seq (.reg l6m) .ret)))) }
end Go.Nw.Top
