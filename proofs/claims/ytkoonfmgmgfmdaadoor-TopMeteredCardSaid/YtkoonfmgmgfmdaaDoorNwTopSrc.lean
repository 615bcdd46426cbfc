/- The functions of a seat, as the abstract machine has them. -/
import Derived.Test.YtkoonfmgmgfmdaaDoorNwI
set_option linter.all false
set_option linter.unusedVariables false
set_option linter.unusedSimpArgs false
set_option linter.unusedSectionVars false
namespace Go.Nw.Top
def gl_0 : List Int := [0, 1, 28, 2, 29, 14, 24, 3, 30, 22, 20, 15, 25, 17, 4, 8, 31, 27, 13, 23, 21, 19, 16, 7, 26, 12, 18, 6, 11, 5, 10, 9]
def gt_0 : List Value := List.map (Value.int .u8) gl_0
theorem d70 : gt_0 = List.map (Value.int .u8) gl_0 := rfl
def gl_1 : List Int := [0, 1, 56, 2, 57, 49, 28, 3, 61, 58, 42, 50, 38, 29, 17, 4, 62, 47, 59, 36, 45, 43, 51, 22, 53, 39, 33, 30, 24, 18, 12, 5, 63, 55, 48, 27, 60, 41, 37, 16, 46, 35, 44, 21, 52, 32, 23, 11, 54, 26, 40, 15, 34, 20, 31, 10, 25, 14, 19, 9, 13, 8, 7, 6]
def gt_1 : List Value := List.map (Value.int .u8) gl_1
theorem c27 : gt_1 = List.map (Value.int .u8) gl_1 := rfl
@[go_sem] def l0j : List XO := [
⟨some 4,none,.boxF (.t 0)⟩,
⟨some 5,none,.boxF (.t 1)⟩,
⟨some 7,none,.boxF (.t 3)⟩,
⟨some 8,none,.mv (.c (.bool false))⟩]
@[go_sem] def l0k : List XO := [
⟨some 18,none,.load true 9 (.tf 4)⟩,
⟨some 19,none,.call "newel/newellaw11.Far" [.t 18]⟩,
⟨some 20,none,.mv (.t 19)⟩,
⟨(some 21), (some (20, false)), .load true 2 (.tf 5)⟩,
⟨(some 22), (some (20, false)), .call "newel/newellaw11.FarTimes" [.t 21]⟩,
⟨some 23,none,.pick (.t 20) (.c (.bool true)) (.t 22)⟩,
⟨some 24,none,.mv (.t 23)⟩,
⟨(some 25), (some (24, false)), .load true 9 (.tf 4)⟩,
⟨(some 26), (some (24, false)), .load true 2 (.tf 5)⟩,
⟨(some 27), (some (24, false)), .mv (.t 2)⟩,
⟨(some 28), (some (24, false)), .call "newel/newelref11.CheckPlan" [.t 25, .t 26, .t 27]⟩,
⟨(some 29), (some (24, false)), .bin .neq .no (.t 28) (.c (.int .i64 0))⟩,
⟨some 30,none,.pick (.t 24) (.c (.bool true)) (.t 29)⟩,
⟨some 31,none,.mv (.t 30)⟩,
⟨(some 32), (some (31, false)), .fldA 0 (.tf 7)⟩,
⟨(some 33), (some (31, false)), .load false 1 (.tf 32)⟩,
⟨(some 34), (some (31, false)), .bin .lss .no (.t 33) (.c (.int .i64 0))⟩,
⟨some 35,none,.pick (.t 31) (.c (.bool true)) (.t 34)⟩,
⟨some 36,none,.mv (.t 35)⟩,
⟨(some 37), (some (36, false)), .fldA 0 (.tf 7)⟩,
⟨(some 38), (some (36, false)), .load false 1 (.tf 37)⟩,
⟨(some 39), (some (36, false)), .mv (.t 2)⟩,
⟨(some 40), (some (36, false)), .len false (.t 39)⟩,
⟨(some 41), (some (36, false)), .bin .geq .no (.t 38) (.t 40)⟩,
⟨some 42,none,.pick (.t 36) (.c (.bool true)) (.t 41)⟩,
⟨some 43,none,.mv (.t 42)⟩,
⟨(some 44), (some (43, false)), .fldA 1 (.tf 7)⟩,
⟨(some 45), (some (43, false)), .load false 1 (.tf 44)⟩,
⟨(some 46), (some (43, false)), .fldA 0 (.tf 5)⟩,
⟨(some 47), (some (43, false)), .load false 1 (.tf 46)⟩,
⟨(some 48), (some (43, false)), .fldA 0 (.tf 7)⟩,
⟨(some 49), (some (43, false)), .load false 1 (.tf 48)⟩,
⟨(some 50), (some (43, false)), .ixA 4 (.t 47) (.t 49)⟩,
⟨(some 51), (some (43, false)), .fldA 2 (.t 50)⟩,
⟨(some 52), (some (43, false)), .fldA 0 (.t 51)⟩,
⟨(some 53), (some (43, false)), .load false 1 (.t 52)⟩,
⟨(some 54), (some (43, false)), .bin .lss .no (.t 45) (.t 53)⟩,
⟨some 55,none,.pick (.t 43) (.c (.bool true)) (.t 54)⟩,
⟨some 56,none,.mv (.t 55)⟩,
⟨(some 57), (some (56, false)), .fldA 1 (.tf 7)⟩,
⟨(some 58), (some (56, false)), .load false 1 (.tf 57)⟩,
⟨(some 59), (some (56, false)), .fldA 0 (.tf 5)⟩,
⟨(some 60), (some (56, false)), .load false 1 (.tf 59)⟩,
⟨(some 61), (some (56, false)), .fldA 0 (.tf 7)⟩,
⟨(some 62), (some (56, false)), .load false 1 (.tf 61)⟩,
⟨(some 63), (some (56, false)), .ixA 4 (.t 60) (.t 62)⟩,
⟨(some 64), (some (56, false)), .fldA 2 (.t 63)⟩,
⟨(some 65), (some (56, false)), .fldA 1 (.t 64)⟩,
⟨(some 66), (some (56, false)), .load false 1 (.t 65)⟩,
⟨(some 67), (some (56, false)), .bin .gtr .no (.t 58) (.t 66)⟩,
⟨some 68,none,.pick (.t 56) (.c (.bool true)) (.t 67)⟩]
@[go_sem] def l0q : List XO := [
⟨some 69,none,.call "newel/neweltop.measures" []⟩,
⟨some 8,none,.mv (.t 69)⟩]
@[go_sem] def l0r : List XO := [
⟨some 71,none,.load true 9 (.tf 4)⟩,
⟨some 72,none,.fldA 1 (.tf 7)⟩,
⟨some 73,none,.load false 1 (.tf 72)⟩,
⟨some 74,none,.mv (.t 2)⟩,
⟨some 75,none,.fldA 0 (.tf 7)⟩,
⟨some 76,none,.load false 1 (.tf 75)⟩,
⟨some 77,none,.ixA 1 (.t 74) (.t 76)⟩,
⟨some 78,none,.load false 1 (.t 77)⟩,
⟨some 79,none,.call "newel/energy.Power" [.t 71, .t 73, .t 78]⟩,
⟨some 70,none,.mv (.t 79)⟩,
⟨some 80,none,.ext (.t 70) 0⟩,
⟨some 81,none,.ext (.t 70) 1⟩,
⟨some 9,none,.mv (.t 80)⟩,
⟨some 10,none,.mv (.t 81)⟩]
@[go_sem] def l0s : List XO := [
⟨some 82,none,.mv (.t 10)⟩,
⟨some 83,none,.bin .neq .no (.t 82) (.c (.int .i64 0))⟩]
@[go_sem] def l0t : List XO := [
⟨some 8,none,.mv (.c (.bool false))⟩]
@[go_sem] def l0u : List XO := [
⟨some 84,none,.mv (.t 9)⟩,
⟨some 85,none,.fldA 0 (.tf 5)⟩,
⟨some 86,none,.load false 1 (.tf 85)⟩,
⟨some 87,none,.fldA 0 (.tf 7)⟩,
⟨some 88,none,.load false 1 (.tf 87)⟩,
⟨some 89,none,.ixA 4 (.t 86) (.t 88)⟩,
⟨some 90,none,.fldA 0 (.t 89)⟩,
⟨some 91,none,.load false 1 (.t 90)⟩,
⟨some 92,none,.bin .mul .no (.t 84) (.t 91)⟩,
⟨some 11,none,.mv (.t 92)⟩]
@[go_sem] def l0v : List XO := [
⟨some 93,none,.fldA 2 (.tf 7)⟩,
⟨some 94,none,.load false 1 (.tf 93)⟩,
⟨some 95,none,.mv (.t 11)⟩,
⟨some 96,none,.call "newel/neweltop.allow" [.t 94, .t 95]⟩,
⟨some 97,none,.un .not (.t 96)⟩]
@[go_sem] def l0w : List XO := [
⟨some 98,none,.call "newel/neweltop.measures" []⟩,
⟨some 8,none,.mv (.t 98)⟩]
@[go_sem] def l0x : List XO := [
⟨some 100,none,.fldA 2 (.tf 7)⟩,
⟨some 101,none,.load false 1 (.tf 100)⟩,
⟨some 102,none,.call "newel/faults.Truth" [.t 101]⟩,
⟨some 99,none,.mv (.t 102)⟩,
⟨some 103,none,.ext (.t 99) 0⟩,
⟨some 104,none,.ext (.t 99) 1⟩,
⟨some 12,none,.alloc [(.int .i64 0), (.int .i64 0)]⟩,
⟨none, none, .store 2 (.t 12) (.t 103)⟩,
⟨some 13,none,.mv (.t 104)⟩]
@[go_sem] def l0l : List XO := [
⟨some 106,none,.fldA 2 (.tf 7)⟩,
⟨some 107,none,.load false 1 (.tf 106)⟩,
⟨some 108,none,.call "newel/faults.Liars" [.t 107]⟩,
⟨some 105,none,.mv (.t 108)⟩,
⟨some 109,none,.ext (.t 105) 0⟩,
⟨some 110,none,.ext (.t 105) 1⟩,
⟨some 14,none,.mv (.t 109)⟩,
⟨some 15,none,.mv (.t 110)⟩]
@[go_sem] def l0m : List XO := [
⟨some 111,none,.mv (.t 13)⟩,
⟨some 112,none,.bin .neq .no (.t 111) (.c (.int .i64 0))⟩,
⟨some 113,none,.mv (.t 112)⟩,
⟨(some 114), (some (113, false)), .mv (.t 15)⟩,
⟨(some 115), (some (113, false)), .bin .neq .no (.t 114) (.c (.int .i64 0))⟩,
⟨some 116,none,.pick (.t 113) (.c (.bool true)) (.t 115)⟩,
⟨some 117,none,.mv (.t 116)⟩,
⟨(some 118), (some (117, false)), .mv (.t 14)⟩,
⟨(some 119), (some (117, false)), .len false (.t 118)⟩,
⟨(some 120), (some (117, false)), .bin .neq .no (.t 119) (.c (.int .i64 0))⟩,
⟨some 121,none,.pick (.t 117) (.c (.bool true)) (.t 120)⟩,
⟨some 122,none,.mv (.t 121)⟩,
⟨(some 123), (some (122, false)), .mv (.t 11)⟩,
⟨(some 124), (some (122, false)), .fldA 0 (.t 12)⟩,
⟨(some 125), (some (122, false)), .load false 1 (.t 124)⟩,
⟨(some 126), (some (122, false)), .bin .lss .no (.t 123) (.t 125)⟩,
⟨some 127,none,.pick (.t 122) (.c (.bool true)) (.t 126)⟩,
⟨some 128,none,.mv (.t 127)⟩,
⟨(some 129), (some (128, false)), .mv (.t 11)⟩,
⟨(some 130), (some (128, false)), .fldA 1 (.t 12)⟩,
⟨(some 131), (some (128, false)), .load false 1 (.t 130)⟩,
⟨(some 132), (some (128, false)), .bin .gtr .no (.t 129) (.t 131)⟩,
⟨some 133,none,.pick (.t 128) (.c (.bool true)) (.t 132)⟩]
@[go_sem] def l0n : List XO := [
⟨some 8,none,.mv (.c (.bool false))⟩]
@[go_sem] def l0o : List XO := [
⟨some 135,none,.load true 9 (.tf 4)⟩,
⟨some 136,none,.load true 2 (.tf 5)⟩,
⟨some 137,none,.mv (.t 2)⟩,
⟨some 138,none,.fldA 0 (.tf 7)⟩,
⟨some 139,none,.load false 1 (.tf 138)⟩,
⟨some 140,none,.load true 2 (.t 12)⟩,
⟨some 141,none,.call "newel/energy.Flows" [.t 135, .t 136, .t 137, .t 139, .t 140]⟩,
⟨some 134,none,.mv (.t 141)⟩,
⟨some 142,none,.ext (.t 134) 0⟩,
⟨some 143,none,.ext (.t 134) 1⟩,
⟨some 16,none,.mv (.t 142)⟩,
⟨some 17,none,.mv (.t 143)⟩]
@[go_sem] def l0p : List XO := [
⟨some 144,none,.mv (.t 17)⟩,
⟨some 145,none,.bin .eql .no (.t 144) (.c (.int .i64 0))⟩,
⟨some 146,none,.mv (.t 145)⟩,
⟨(some 147), (some (146, true)), .mv (.t 16)⟩,
⟨(some 148), (some (146, true)), .fldA 1 (.tf 7)⟩,
⟨(some 149), (some (146, true)), .load false 1 (.tf 148)⟩,
⟨(some 150), (some (146, true)), .call "newel/neweltop.names" [.t 147, .t 149]⟩,
⟨some 151,none,.pick (.t 146) (.t 150) (.c (.bool false))⟩,
⟨some 152,none,.mv (.t 151)⟩,
⟨(some 153), (some (152, true)), .call "newel/neweltop.measures" []⟩,
⟨some 154,none,.pick (.t 152) (.t 153) (.c (.bool false))⟩,
⟨some 8,none,.mv (.t 154)⟩]
def x_neweltop_TopMetered : XFunc := { np := 4, res := [.t 8], body :=
  (.seq (.reg l0j) (.seq (.seq (.reg l0k) (.cond (.t 68) (.seq (.reg l0q) .ret) .skip)) (.seq (.reg l0r) (.seq (.seq (.reg l0s) (.cond (.t 83) (.seq (.reg l0t) .ret) .skip)) (.seq (.reg l0u) (.seq (.seq (.reg l0v) (.cond (.t 97) (.seq (.reg l0w) .ret) .skip)) (.seq (.reg l0x) (.seq (.reg l0l) (.seq (.seq (.reg l0m) (.cond (.t 133) (.seq (.reg l0n) .ret) .skip)) (.seq (.reg l0o) (.seq (.reg l0p) .ret))))))))))) }
@[go_sem] def j9z : List XO := [
⟨some 1,none,.boxF (.t 0)⟩,
⟨some 2,none,.mv (.c (.bool false))⟩]
@[go_sem] def j90 : List XO := [
⟨some 3,none,.fldA 6 (.tf 1)⟩,
⟨some 4,none,.load false 1 (.tf 3)⟩,
⟨some 5,none,.len false (.t 4)⟩,
⟨some 6,none,.bin .gtr .no (.t 5) (.c (.int .i64 10))⟩,
⟨some 2,none,.mv (.t 6)⟩]
def x_l11_Far : XFunc := { np := 1, res := [.t 2], body :=
  (.seq (.reg j9z) (.seq (.reg j90) .ret)) }
@[go_sem] def j9x : List XO := [
⟨some 1,none,.boxF (.t 0)⟩,
⟨some 2,none,.mv (.c (.bool false))⟩]
@[go_sem] def j9y : List XO := [
⟨some 3,none,.fldA 0 (.tf 1)⟩,
⟨some 4,none,.load false 1 (.tf 3)⟩,
⟨some 5,none,.len false (.t 4)⟩,
⟨some 6,none,.bin .gtr .no (.t 5) (.c (.int .i64 20))⟩,
⟨some 2,none,.mv (.t 6)⟩]
def x_l11_FarTimes : XFunc := { np := 1, res := [.t 2], body :=
  (.seq (.reg j9x) (.seq (.reg j9y) .ret)) }
@[go_sem] def l1z : List XO := [
⟨some 3,none,.boxF (.t 0)⟩,
⟨some 4,none,.boxF (.t 1)⟩,
⟨some 6,none,.mv (.c (.int .i64 0))⟩]
@[go_sem] def l11 : List XO := [
⟨some 9,none,.load true 9 (.tf 3)⟩,
⟨some 10,none,.load true 2 (.tf 4)⟩,
⟨some 11,none,.call "newel/newelref11.CheckTimes" [.t 9, .t 10]⟩,
⟨some 7,none,.mv (.t 11)⟩]
@[go_sem] def l15 : List XO := [
⟨some 12,none,.mv (.t 7)⟩,
⟨some 13,none,.bin .neq .no (.t 12) (.c (.int .i64 0))⟩]
@[go_sem] def l16 : List XO := [
⟨some 14,none,.mv (.t 7)⟩,
⟨some 6,none,.mv (.t 14)⟩]
@[go_sem] def l17 : List XO := [
⟨some 15,none,.mv (.t 2)⟩,
⟨some 16,none,.len false (.t 15)⟩,
⟨some 17,none,.fldA 0 (.tf 4)⟩,
⟨some 18,none,.load false 1 (.tf 17)⟩,
⟨some 19,none,.len false (.t 18)⟩,
⟨some 20,none,.bin .neq .no (.t 16) (.t 19)⟩]
@[go_sem] def l18 : List XO := [
⟨some 6,none,.mv (.c (.int .i64 112))⟩]
@[go_sem] def l19 : List XO := [
⟨some 8,none,.mv (.c (.int .i64 0))⟩]
@[go_sem] def l2a : List XO := [
⟨some 21,none,.mv (.t 8)⟩,
⟨some 22,none,.mv (.t 2)⟩,
⟨some 23,none,.len false (.t 22)⟩,
⟨some 24,none,.bin .lss .no (.t 21) (.t 23)⟩]
@[go_sem] def l2b : List XO := [
⟨some 27,none,.load true 9 (.tf 3)⟩,
⟨some 28,none,.mv (.t 2)⟩,
⟨some 29,none,.mv (.t 8)⟩,
⟨some 30,none,.ixA 1 (.t 28) (.t 29)⟩,
⟨some 31,none,.load false 1 (.t 30)⟩,
⟨some 32,none,.call "newel/newelref11.Pace" [.t 27, .t 31]⟩,
⟨some 33,none,.un .not (.t 32)⟩]
@[go_sem] def l2c : List XO := [
⟨some 6,none,.mv (.c (.int .i64 112))⟩]
@[go_sem] def l12 : List XO := [
⟨some 25,none,.mv (.t 8)⟩,
⟨some 26,none,.bin .add .no (.t 25) (.c (.int .i64 1))⟩,
⟨some 8,none,.mv (.t 26)⟩]
def d14 : XCode :=
  (.seq (.seq (.reg l2a) (.cond (.t 24) .skip (.exit 0))) (.seq (.block 1 (.seq (.reg l2b) (.cond (.t 33) (.seq (.reg l2c) .ret) .skip))) (.reg l12)))
@[go_sem] def l14 : List XO := [
⟨some 6,none,.mv (.c (.int .i64 0))⟩]
def x_r11_CheckPlan : XFunc := { np := 3, res := [.t 6], body :=
  (.seq (.reg l1z) (.seq (.seq (.reg l11) (.seq (.reg l15) (.cond (.t 13) (.seq (.reg l16) .ret) .skip))) (.seq (.seq (.reg l17) (.cond (.t 20) (.seq (.reg l18) .ret) .skip)) (.seq (.seq (.reg l19) (.block 0 (.loop d14))) (.seq (.reg l14) .ret))))) }
@[go_sem] def l08 : List XO := [
⟨some 0,none,.mv (.c (.bool false))⟩]
@[go_sem] def l09 : List XO := [
⟨some 9,none,.build [(.int .i64 0), (.int .i64 0)] [(1, 1, (.c (.int .i64 500)))]⟩,
⟨some 10,none,.build [(.int .i64 0), (.int .i64 0), (.int .i64 0), (.int .i64 0)] [(0, 1, (.c (.int .i64 60))), (1, 2, (.t 9))]⟩,
⟨some 1,none,.alloc [(.int .i64 0), (.int .i64 0), (.int .i64 0), (.int .i64 0)]⟩,
⟨none, none, .store 4 (.t 1) (.t 10)⟩]
@[go_sem] def l1a : List XO := [
⟨some 12,none,.call "newel/newellaw01.Example" []⟩,
⟨some 13,none,.load true 4 (.t 1)⟩,
⟨some 14,none,.call "newel/drive.Distance" [.t 12, .t 13]⟩,
⟨some 11,none,.mv (.t 14)⟩,
⟨some 15,none,.ext (.t 11) 0⟩,
⟨some 16,none,.ext (.t 11) 1⟩,
⟨some 17,none,.ext (.t 11) 2⟩,
⟨some 2,none,.alloc [(.int .i64 0), (.int .i64 0)]⟩,
⟨some 3,none,.alloc [(.int .i64 0), (.int .i64 0)]⟩,
⟨none, none, .store 2 (.t 2) (.t 15)⟩,
⟨none, none, .store 2 (.t 3) (.t 16)⟩,
⟨some 4,none,.mv (.t 17)⟩]
@[go_sem] def l1b : List XO := [
⟨some 19,none,.call "newel/newellaw03.Example" []⟩,
⟨some 18,none,.mv (.t 19)⟩,
⟨some 20,none,.ext (.t 18) 0⟩,
⟨some 21,none,.ext (.t 18) 1⟩,
⟨some 5,none,.alloc [(.int .i64 0), (.slice none 0 0), (.slice none 0 0)]⟩,
⟨none, none, .store 3 (.t 5) (.t 20)⟩,
⟨some 6,none,.mv (.t 21)⟩]
@[go_sem] def l1c : List XO := [
⟨some 23,none,.load true 3 (.t 5)⟩,
⟨some 24,none,.call "newel/circuit.Pairs" [.t 23]⟩,
⟨some 22,none,.mv (.t 24)⟩,
⟨some 25,none,.ext (.t 22) 0⟩,
⟨some 26,none,.ext (.t 22) 1⟩,
⟨some 7,none,.mv (.t 25)⟩,
⟨some 8,none,.mv (.t 26)⟩]
@[go_sem] def l1d : List XO := [
⟨some 27,none,.mv (.t 4)⟩,
⟨some 28,none,.bin .eql .no (.t 27) (.c (.int .i64 0))⟩,
⟨some 29,none,.mv (.t 28)⟩,
⟨(some 30), (some (29, true)), .mv (.t 8)⟩,
⟨(some 31), (some (29, true)), .bin .eql .no (.t 30) (.c (.int .i64 0))⟩,
⟨some 32,none,.pick (.t 29) (.t 31) (.c (.bool false))⟩,
⟨some 33,none,.mv (.t 32)⟩,
⟨(some 34), (some (33, true)), .load true 2 (.t 2)⟩,
⟨(some 35), (some (33, true)), .build [(.int .i64 0), (.int .i64 0)] [(0, 1, (.c (.int .i64 108))), (1, 1, (.c (.int .i64 135)))]⟩,
⟨(some 36), (some (33, true)), .bin .eql (.flat [.i, .i]) (.t 34) (.t 35)⟩,
⟨some 37,none,.pick (.t 33) (.t 36) (.c (.bool false))⟩,
⟨some 38,none,.mv (.t 37)⟩,
⟨(some 39), (some (38, true)), .mv (.t 7)⟩,
⟨(some 40), (some (38, true)), .len false (.t 39)⟩,
⟨(some 41), (some (38, true)), .bin .eql .no (.t 40) (.c (.int .i64 2))⟩,
⟨some 42,none,.pick (.t 38) (.t 41) (.c (.bool false))⟩,
⟨some 0,none,.mv (.t 42)⟩]
def x_neweltop_measures : XFunc := { np := 0, res := [.t 0], body :=
  (.seq (.reg l08) (.seq (.reg l09) (.seq (.reg l1a) (.seq (.reg l1b) (.seq (.reg l1c) (.seq (.reg l1d) .ret)))))) }
@[go_sem] def j6q : List XO := [
⟨some 3,none,.boxF (.t 0)⟩,
⟨some 6,none,.mv (.c (.int .i64 0))⟩,
⟨some 7,none,.mv (.c (.int .i64 0))⟩]
@[go_sem] def j6r : List XO := [
⟨some 9,none,.load true 9 (.tf 3)⟩,
⟨some 10,none,.mv (.t 1)⟩,
⟨some 11,none,.mv (.t 2)⟩,
⟨some 12,none,.call "newel/energy.check" [.t 9, .t 10, .t 11]⟩,
⟨some 8,none,.mv (.t 12)⟩]
@[go_sem] def j6s : List XO := [
⟨some 13,none,.mv (.t 8)⟩,
⟨some 14,none,.bin .neq .no (.t 13) (.c (.int .i64 0))⟩]
@[go_sem] def j6t : List XO := [
⟨some 15,none,.mv (.t 8)⟩,
⟨some 6,none,.mv (.c (.int .i64 0))⟩,
⟨some 7,none,.mv (.t 15)⟩]
@[go_sem] def j6u : List XO := [
⟨some 16,none,.load true 9 (.tf 3)⟩,
⟨some 17,none,.mv (.t 1)⟩,
⟨some 18,none,.mv (.t 2)⟩,
⟨some 19,none,.call "newel/energy.power" [.t 16, .t 17, .t 18]⟩,
⟨some 6,none,.mv (.t 19)⟩,
⟨some 7,none,.mv (.c (.int .i64 0))⟩]
def x_energy_Power : XFunc := { np := 3, res := [.t 6, .t 7], body :=
  (.seq (.reg j6q) (.seq (.seq (.reg j6r) (.seq (.reg j6s) (.cond (.t 14) (.seq (.reg j6t) .ret) .skip))) (.seq (.reg j6u) .ret))) }
@[go_sem] def l0y : List XO := [
⟨some 4,none,.mv (.c (.bool false))⟩]
@[go_sem] def l0z : List XO := [
⟨some 7,none,.mv (.t 0)⟩,
⟨some 8,none,.len false (.t 7)⟩,
⟨some 9,none,.bin .eql .no (.t 8) (.c (.int .i64 0))⟩,
⟨some 10,none,.mv (.t 9)⟩,
⟨(some 11), (some (10, false)), .mv (.t 0)⟩,
⟨(some 12), (some (10, false)), .len false (.t 11)⟩,
⟨(some 13), (some (10, false)), .bin .gtr .no (.t 12) (.c (.int .i64 8))⟩,
⟨some 14,none,.pick (.t 10) (.c (.bool true)) (.t 13)⟩,
⟨some 15,none,.mv (.t 14)⟩,
⟨(some 16), (some (15, false)), .mv (.t 0)⟩,
⟨(some 17), (some (15, false)), .call "newel/newelref10.Check" [.t 16]⟩,
⟨(some 18), (some (15, false)), .bin .neq .no (.t 17) (.c (.int .i64 0))⟩,
⟨some 19,none,.pick (.t 15) (.c (.bool true)) (.t 18)⟩]
@[go_sem] def l01 : List XO := [
⟨some 4,none,.mv (.c (.bool false))⟩]
@[go_sem] def l02 : List XO := [
⟨some 5,none,.mv (.c (.int .i64 0))⟩]
@[go_sem] def l03 : List XO := [
⟨some 20,none,.mv (.t 5)⟩,
⟨some 21,none,.mv (.t 0)⟩,
⟨some 22,none,.len false (.t 21)⟩,
⟨some 23,none,.bin .lss .no (.t 20) (.t 22)⟩]
@[go_sem] def l04 : List XO := [
⟨some 26,none,.mv (.t 0)⟩,
⟨some 27,none,.mv (.t 5)⟩,
⟨some 28,none,.ixA 4 (.t 26) (.t 27)⟩,
⟨some 29,none,.load true 4 (.t 28)⟩,
⟨some 30,none,.call "newel/newelref10.Allows" [.t 29]⟩,
⟨some 6,none,.alloc [(.int .i64 0), (.int .i64 0)]⟩,
⟨none, none, .store 2 (.t 6) (.t 30)⟩]
@[go_sem] def l05 : List XO := [
⟨some 31,none,.mv (.t 1)⟩,
⟨some 32,none,.fldA 0 (.t 6)⟩,
⟨some 33,none,.load false 1 (.t 32)⟩,
⟨some 34,none,.bin .lss .no (.t 31) (.t 33)⟩,
⟨some 35,none,.mv (.t 34)⟩,
⟨(some 36), (some (35, false)), .mv (.t 1)⟩,
⟨(some 37), (some (35, false)), .fldA 1 (.t 6)⟩,
⟨(some 38), (some (35, false)), .load false 1 (.t 37)⟩,
⟨(some 39), (some (35, false)), .bin .gtr .no (.t 36) (.t 38)⟩,
⟨some 40,none,.pick (.t 35) (.c (.bool true)) (.t 39)⟩]
@[go_sem] def l06 : List XO := [
⟨some 4,none,.mv (.c (.bool false))⟩]
@[go_sem] def l07 : List XO := [
⟨some 24,none,.mv (.t 5)⟩,
⟨some 25,none,.bin .add .no (.t 24) (.c (.int .i64 1))⟩,
⟨some 5,none,.mv (.t 25)⟩]
def d11 : XCode :=
  (.seq (.seq (.reg l03) (.cond (.t 23) .skip (.exit 0))) (.seq (.block 1 (.seq (.reg l04) (.seq (.reg l05) (.cond (.t 40) (.seq (.reg l06) .ret) .skip)))) (.reg l07)))
@[go_sem] def l00 : List XO := [
⟨some 4,none,.mv (.c (.bool true))⟩]
def x_neweltop_allow : XFunc := { np := 2, res := [.t 4], body :=
  (.seq (.reg l0y) (.seq (.seq (.reg l0z) (.cond (.t 19) (.seq (.reg l01) .ret) .skip)) (.seq (.seq (.reg l02) (.block 0 (.loop d11))) (.seq (.reg l00) .ret)))) }
@[go_sem] def j8n : List XO := [
⟨some 2,none,.alloc [(.int .i64 0), (.int .i64 0)]⟩,
⟨some 3,none,.mv (.c (.int .i64 0))⟩]
@[go_sem] def j8o : List XO := [
⟨some 7,none,.mv (.t 0)⟩,
⟨some 8,none,.call "newel/faults.readings" [.t 7]⟩,
⟨some 4,none,.mv (.t 8)⟩]
@[go_sem] def j8p : List XO := [
⟨some 9,none,.mv (.t 4)⟩,
⟨some 10,none,.bin .neq .no (.t 9) (.c (.int .i64 0))⟩]
@[go_sem] def j8q : List XO := [
⟨some 11,none,.build [(.int .i64 0), (.int .i64 0)] []⟩,
⟨some 12,none,.mv (.t 4)⟩,
⟨none, none, .store 2 (.t 2) (.t 11)⟩,
⟨some 3,none,.mv (.t 12)⟩]
@[go_sem] def j8r : List XO := [
⟨some 14,none,.mv (.t 0)⟩,
⟨some 15,none,.call "newel/faults.common" [.t 14, (.c (.int .i64 0))]⟩,
⟨some 13,none,.mv (.t 15)⟩,
⟨some 16,none,.ext (.t 13) 0⟩,
⟨some 17,none,.ext (.t 13) 1⟩,
⟨some 5,none,.alloc [(.int .i64 0), (.int .i64 0)]⟩,
⟨none, none, .store 2 (.t 5) (.t 16)⟩,
⟨some 6,none,.mv (.t 17)⟩]
@[go_sem] def j8s : List XO := [
⟨some 18,none,.mv (.t 0)⟩,
⟨some 19,none,.len false (.t 18)⟩,
⟨some 20,none,.bin .eql .no (.t 19) (.c (.int .i64 0))⟩,
⟨some 21,none,.mv (.t 20)⟩,
⟨(some 22), (some (21, false)), .mv (.t 6)⟩,
⟨(some 23), (some (21, false)), .un .not (.t 22)⟩,
⟨some 24,none,.pick (.t 21) (.c (.bool true)) (.t 23)⟩]
@[go_sem] def j8t : List XO := [
⟨some 25,none,.build [(.int .i64 0), (.int .i64 0)] []⟩,
⟨none, none, .store 2 (.t 2) (.t 25)⟩,
⟨some 3,none,.mv (.c (.int .i64 3))⟩]
@[go_sem] def j8u : List XO := [
⟨some 26,none,.load true 2 (.t 5)⟩,
⟨none, none, .store 2 (.t 2) (.t 26)⟩,
⟨some 3,none,.mv (.c (.int .i64 0))⟩]
def x_faults_Truth : XFunc := { np := 1, res := [.cell 2 true 2, .t 3], body :=
  (.seq (.reg j8n) (.seq (.seq (.reg j8o) (.seq (.reg j8p) (.cond (.t 10) (.seq (.reg j8q) .ret) .skip))) (.seq (.reg j8r) (.seq (.seq (.reg j8s) (.cond (.t 24) (.seq (.reg j8t) .ret) .skip)) (.seq (.reg j8u) .ret))))) }
@[go_sem] def j8a : List XO := [
⟨some 2,none,.mv (.c (.slice none 0 0))⟩,
⟨some 3,none,.mv (.c (.int .i64 0))⟩]
@[go_sem] def j8b : List XO := [
⟨some 9,none,.mv (.t 0)⟩,
⟨some 10,none,.call "newel/faults.readings" [.t 9]⟩,
⟨some 4,none,.mv (.t 10)⟩]
@[go_sem] def j8f : List XO := [
⟨some 11,none,.mv (.t 4)⟩,
⟨some 12,none,.bin .neq .no (.t 11) (.c (.int .i64 0))⟩]
@[go_sem] def j8g : List XO := [
⟨some 13,none,.mv (.t 4)⟩,
⟨some 2,none,.mv (.c (.slice none 0 0))⟩,
⟨some 3,none,.mv (.t 13)⟩]
@[go_sem] def j8h : List XO := [
⟨some 14,none,.mv (.t 0)⟩,
⟨some 15,none,.len false (.t 14)⟩,
⟨some 16,none,.bin .shl .no (.c (.int .i64 1)) (.t 15)⟩,
⟨some 17,none,.bin .sub .no (.t 16) (.c (.int .i64 1))⟩,
⟨some 5,none,.mv (.t 17)⟩]
@[go_sem] def j8i : List XO := [
⟨some 18,none,.mv (.t 5)⟩,
⟨some 19,none,.mv (.c (.int .i64 0))⟩]
@[go_sem] def j8j : List XO := [
⟨some 20,none,.bin .lss .no (.t 19) (.t 18)⟩]
@[go_sem] def j8k : List XO := [
⟨some 21,none,.mv (.t 19)⟩,
⟨some 6,none,.mv (.t 21)⟩]
@[go_sem] def j8l : List XO := [
⟨some 23,none,.mv (.t 0)⟩,
⟨some 24,none,.mv (.t 6)⟩,
⟨some 25,none,.call "newel/faults.common" [.t 23, .t 24]⟩,
⟨some 22,none,.mv (.t 25)⟩,
⟨some 26,none,.ext (.t 22) 0⟩,
⟨some 27,none,.ext (.t 22) 1⟩,
⟨some 7,none,.alloc [(.int .i64 0), (.int .i64 0)]⟩,
⟨none, none, .store 2 (.t 7) (.t 26)⟩,
⟨some 8,none,.mv (.t 27)⟩]
@[go_sem] def j8m : List XO := [
⟨some 28,none,.mv (.t 8)⟩,
⟨some 29,none,.mv (.t 28)⟩,
⟨(some 30), (some (29, true)), .mv (.t 6)⟩,
⟨(some 31), (some (29, true)), .mv (.t 5)⟩,
⟨(some 32), (some (29, true)), .call "newel/faults.fewer" [.t 30, .t 31]⟩,
⟨some 33,none,.pick (.t 29) (.t 32) (.c (.bool false))⟩]
@[go_sem] def j8c : List XO := [
⟨some 34,none,.mv (.t 6)⟩,
⟨some 5,none,.mv (.t 34)⟩]
@[go_sem] def j8d : List XO := [
⟨some 35,none,.bin .add .no (.t 19) (.c (.int .i64 1))⟩,
⟨some 19,none,.mv (.t 35)⟩]
def d1x : XCode :=
  (.seq (.reg j8j) (.seq (.cond (.t 20) .skip (.exit 0)) (.seq (.block 1 (.seq (.reg j8k) (.seq (.reg j8l) (.seq (.reg j8m) (.cond (.t 33) (.reg j8c) .skip))))) (.reg j8d))))
@[go_sem] def j8e : List XO := [
⟨some 36,none,.mv (.t 5)⟩,
⟨some 37,none,.call "newel/faults.members" [.t 36]⟩,
⟨some 2,none,.mv (.t 37)⟩,
⟨some 3,none,.mv (.c (.int .i64 0))⟩]
def x_faults_Liars : XFunc := { np := 1, res := [.t 2, .t 3], body :=
  (.seq (.reg j8a) (.seq (.seq (.reg j8b) (.seq (.reg j8f) (.cond (.t 12) (.seq (.reg j8g) .ret) .skip))) (.seq (.reg j8h) (.seq (.seq (.reg j8i) (.block 0 (.loop d1x))) (.seq (.reg j8e) .ret))))) }
@[go_sem] def j6j : List XO := [
⟨some 5,none,.boxF (.t 0)⟩,
⟨some 6,none,.boxF (.t 1)⟩,
⟨some 9,none,.boxF (.t 4)⟩,
⟨some 10,none,.mv (.c (.slice none 0 0))⟩,
⟨some 11,none,.mv (.c (.int .i64 0))⟩]
@[go_sem] def j6k : List XO := [
⟨some 13,none,.load true 9 (.tf 5)⟩,
⟨some 14,none,.load true 2 (.tf 6)⟩,
⟨some 15,none,.mv (.t 2)⟩,
⟨some 16,none,.call "newel/energy.checkPlan" [.t 13, .t 14, .t 15]⟩,
⟨some 12,none,.mv (.t 16)⟩]
@[go_sem] def j6l : List XO := [
⟨some 17,none,.mv (.t 12)⟩,
⟨some 18,none,.bin .neq .no (.t 17) (.c (.int .i64 0))⟩]
@[go_sem] def j6m : List XO := [
⟨some 19,none,.mv (.t 12)⟩,
⟨some 10,none,.mv (.c (.slice none 0 0))⟩,
⟨some 11,none,.mv (.t 19)⟩]
@[go_sem] def j6n : List XO := [
⟨some 20,none,.mv (.t 3)⟩,
⟨some 21,none,.bin .lss .no (.t 20) (.c (.int .i64 0))⟩,
⟨some 22,none,.mv (.t 21)⟩,
⟨(some 23), (some (22, false)), .mv (.t 3)⟩,
⟨(some 24), (some (22, false)), .mv (.t 2)⟩,
⟨(some 25), (some (22, false)), .len false (.t 24)⟩,
⟨(some 26), (some (22, false)), .bin .geq .no (.t 23) (.t 25)⟩,
⟨some 27,none,.pick (.t 22) (.c (.bool true)) (.t 26)⟩,
⟨some 28,none,.mv (.t 27)⟩,
⟨(some 29), (some (28, false)), .fldA 0 (.tf 9)⟩,
⟨(some 30), (some (28, false)), .load false 1 (.tf 29)⟩,
⟨(some 31), (some (28, false)), .fldA 1 (.tf 9)⟩,
⟨(some 32), (some (28, false)), .load false 1 (.tf 31)⟩,
⟨(some 33), (some (28, false)), .bin .gtr .no (.t 30) (.t 32)⟩,
⟨some 34,none,.pick (.t 28) (.c (.bool true)) (.t 33)⟩]
@[go_sem] def j6o : List XO := [
⟨some 10,none,.mv (.c (.slice none 0 0))⟩,
⟨some 11,none,.mv (.c (.int .i64 1))⟩]
@[go_sem] def j6p : List XO := [
⟨some 35,none,.load true 9 (.tf 5)⟩,
⟨some 36,none,.fldA 0 (.tf 6)⟩,
⟨some 37,none,.load false 1 (.tf 36)⟩,
⟨some 38,none,.mv (.t 3)⟩,
⟨some 39,none,.ixA 4 (.t 37) (.t 38)⟩,
⟨some 40,none,.load true 4 (.t 39)⟩,
⟨some 41,none,.mv (.t 2)⟩,
⟨some 42,none,.mv (.t 3)⟩,
⟨some 43,none,.ixA 1 (.t 41) (.t 42)⟩,
⟨some 44,none,.load false 1 (.t 43)⟩,
⟨some 45,none,.load true 2 (.tf 9)⟩,
⟨some 46,none,.call "newel/energy.flows" [.t 35, .t 40, .t 44, .t 45]⟩,
⟨some 10,none,.mv (.t 46)⟩,
⟨some 11,none,.mv (.c (.int .i64 0))⟩]
def x_energy_Flows : XFunc := { np := 5, res := [.t 10, .t 11], body :=
  (.seq (.reg j6j) (.seq (.seq (.reg j6k) (.seq (.reg j6l) (.cond (.t 18) (.seq (.reg j6m) .ret) .skip))) (.seq (.seq (.reg j6n) (.cond (.t 34) (.seq (.reg j6o) .ret) .skip)) (.seq (.reg j6p) .ret)))) }
@[go_sem] def l1e : List XO := [
⟨some 4,none,.mv (.c (.bool false))⟩]
@[go_sem] def l1f : List XO := [
⟨some 5,none,.mv (.c (.int .i64 0))⟩]
@[go_sem] def l1g : List XO := [
⟨some 6,none,.mv (.t 5)⟩,
⟨some 7,none,.mv (.t 0)⟩,
⟨some 8,none,.len false (.t 7)⟩,
⟨some 9,none,.bin .lss .no (.t 6) (.t 8)⟩]
@[go_sem] def l1h : List XO := [
⟨some 12,none,.mv (.t 0)⟩,
⟨some 13,none,.mv (.t 5)⟩,
⟨some 14,none,.ixA 1 (.t 12) (.t 13)⟩,
⟨some 15,none,.load false 1 (.t 14)⟩,
⟨some 16,none,.mv (.t 1)⟩,
⟨some 17,none,.bin .eql .no (.t 15) (.t 16)⟩]
@[go_sem] def l1i : List XO := [
⟨some 4,none,.mv (.c (.bool true))⟩]
@[go_sem] def l1j : List XO := [
⟨some 10,none,.mv (.t 5)⟩,
⟨some 11,none,.bin .add .no (.t 10) (.c (.int .i64 1))⟩,
⟨some 5,none,.mv (.t 11)⟩]
def d12 : XCode :=
  (.seq (.seq (.reg l1g) (.cond (.t 9) .skip (.exit 0))) (.seq (.block 1 (.seq (.reg l1h) (.cond (.t 17) (.seq (.reg l1i) .ret) .skip))) (.reg l1j)))
@[go_sem] def l1k : List XO := [
⟨some 4,none,.mv (.c (.bool false))⟩]
def x_neweltop_names : XFunc := { np := 2, res := [.t 4], body :=
  (.seq (.reg l1e) (.seq (.seq (.reg l1f) (.block 0 (.loop d12))) (.seq (.reg l1k) .ret))) }
@[go_sem] def l1o : List XO := [
⟨some 2,none,.mv (.c (.int .i64 0))⟩]
@[go_sem] def l1p : List XO := [
⟨some 4,none,.mv (.t 0)⟩,
⟨some 5,none,.len false (.t 4)⟩,
⟨some 6,none,.bin .gtr .no (.t 5) (.c (.int .i64 12))⟩]
@[go_sem] def l1q : List XO := [
⟨some 2,none,.mv (.c (.int .i64 2))⟩]
@[go_sem] def l1r : List XO := [
⟨some 3,none,.mv (.c (.int .i64 0))⟩]
@[go_sem] def l1s : List XO := [
⟨some 7,none,.mv (.t 3)⟩,
⟨some 8,none,.mv (.t 0)⟩,
⟨some 9,none,.len false (.t 8)⟩,
⟨some 10,none,.bin .lss .no (.t 7) (.t 9)⟩]
@[go_sem] def l1t : List XO := [
⟨some 13,none,.mv (.t 0)⟩,
⟨some 14,none,.mv (.t 3)⟩,
⟨some 15,none,.ixA 4 (.t 13) (.t 14)⟩,
⟨some 16,none,.fldA 0 (.t 15)⟩,
⟨some 17,none,.load false 1 (.t 16)⟩,
⟨some 18,none,.call "newel/newelref10.from" [.t 17, (.c (.int .i64 (-100000))), (.c (.int .i64 100000))]⟩,
⟨some 19,none,.un .not (.t 18)⟩,
⟨some 20,none,.mv (.t 19)⟩,
⟨(some 21), (some (20, false)), .mv (.t 0)⟩,
⟨(some 22), (some (20, false)), .mv (.t 3)⟩,
⟨(some 23), (some (20, false)), .ixA 4 (.t 21) (.t 22)⟩,
⟨(some 24), (some (20, false)), .fldA 1 (.t 23)⟩,
⟨(some 25), (some (20, false)), .load false 1 (.t 24)⟩,
⟨(some 26), (some (20, false)), .call "newel/newelref10.from" [.t 25, (.c (.int .i64 0)), (.c (.int .i64 1000))]⟩,
⟨(some 27), (some (20, false)), .un .not (.t 26)⟩,
⟨some 28,none,.pick (.t 20) (.c (.bool true)) (.t 27)⟩,
⟨some 29,none,.mv (.t 28)⟩,
⟨(some 30), (some (29, false)), .mv (.t 0)⟩,
⟨(some 31), (some (29, false)), .mv (.t 3)⟩,
⟨(some 32), (some (29, false)), .ixA 4 (.t 30) (.t 31)⟩,
⟨(some 33), (some (29, false)), .fldA 2 (.t 32)⟩,
⟨(some 34), (some (29, false)), .load false 1 (.t 33)⟩,
⟨(some 35), (some (29, false)), .call "newel/newelref10.from" [.t 34, (.c (.int .i64 0)), (.c (.int .i64 1000))]⟩,
⟨(some 36), (some (29, false)), .un .not (.t 35)⟩,
⟨some 37,none,.pick (.t 29) (.c (.bool true)) (.t 36)⟩,
⟨some 38,none,.mv (.t 37)⟩,
⟨(some 39), (some (38, false)), .mv (.t 0)⟩,
⟨(some 40), (some (38, false)), .mv (.t 3)⟩,
⟨(some 41), (some (38, false)), .ixA 4 (.t 39) (.t 40)⟩,
⟨(some 42), (some (38, false)), .fldA 3 (.t 41)⟩,
⟨(some 43), (some (38, false)), .load false 1 (.t 42)⟩,
⟨(some 44), (some (38, false)), .call "newel/newelref10.from" [.t 43, (.c (.int .i64 0)), (.c (.int .i64 1000))]⟩,
⟨(some 45), (some (38, false)), .un .not (.t 44)⟩,
⟨some 46,none,.pick (.t 38) (.c (.bool true)) (.t 45)⟩]
@[go_sem] def l1u : List XO := [
⟨some 2,none,.mv (.c (.int .i64 100))⟩]
@[go_sem] def l1v : List XO := [
⟨some 11,none,.mv (.t 3)⟩,
⟨some 12,none,.bin .add .no (.t 11) (.c (.int .i64 1))⟩,
⟨some 3,none,.mv (.t 12)⟩]
def d13 : XCode :=
  (.seq (.seq (.reg l1s) (.cond (.t 10) .skip (.exit 0))) (.seq (.block 1 (.seq (.reg l1t) (.cond (.t 46) (.seq (.reg l1u) .ret) .skip))) (.reg l1v)))
@[go_sem] def l1w : List XO := [
⟨some 2,none,.mv (.c (.int .i64 0))⟩]
def x_r10_Check : XFunc := { np := 1, res := [.t 2], body :=
  (.seq (.reg l1o) (.seq (.seq (.reg l1p) (.cond (.t 6) (.seq (.reg l1q) .ret) .skip)) (.seq (.seq (.reg l1r) (.block 0 (.loop d13))) (.seq (.reg l1w) .ret)))) }
@[go_sem] def l2d : List XO := [
⟨some 2,none,.boxF (.t 0)⟩,
⟨some 3,none,.boxF (.t 1)⟩,
⟨some 4,none,.mv (.c (.int .i64 0))⟩]
@[go_sem] def l2e : List XO := [
⟨some 7,none,.load true 9 (.tf 2)⟩,
⟨some 8,none,.call "newel/newelref11.Check" [.t 7]⟩,
⟨some 9,none,.bin .neq .no (.t 8) (.c (.int .i64 0))⟩]
@[go_sem] def l2h : List XO := [
⟨some 4,none,.mv (.c (.int .i64 110))⟩]
@[go_sem] def l2i : List XO := [
⟨some 10,none,.fldA 0 (.tf 3)⟩,
⟨some 11,none,.load false 1 (.tf 10)⟩,
⟨some 12,none,.len false (.t 11)⟩,
⟨some 13,none,.call "newel/newelref11.within" [.t 12, (.c (.int .i64 1)), (.c (.int .i64 8))]⟩,
⟨some 14,none,.un .not (.t 13)⟩,
⟨some 15,none,.mv (.t 14)⟩,
⟨(some 16), (some (15, false)), .fldA 1 (.tf 3)⟩,
⟨(some 17), (some (15, false)), .load false 1 (.tf 16)⟩,
⟨(some 18), (some (15, false)), .call "newel/newelref11.within" [.t 17, (.c (.int .i64 0)), (.c (.int .i64 1000))]⟩,
⟨(some 19), (some (15, false)), .un .not (.t 18)⟩,
⟨some 20,none,.pick (.t 15) (.c (.bool true)) (.t 19)⟩]
@[go_sem] def l2j : List XO := [
⟨some 4,none,.mv (.c (.int .i64 111))⟩]
@[go_sem] def l2k : List XO := [
⟨some 5,none,.mv (.c (.int .i64 0))⟩]
@[go_sem] def l2l : List XO := [
⟨some 21,none,.mv (.t 5)⟩,
⟨some 22,none,.fldA 0 (.tf 3)⟩,
⟨some 23,none,.load false 1 (.tf 22)⟩,
⟨some 24,none,.len false (.t 23)⟩,
⟨some 25,none,.bin .lss .no (.t 21) (.t 24)⟩]
@[go_sem] def l2m : List XO := [
⟨some 28,none,.fldA 0 (.tf 3)⟩,
⟨some 29,none,.load false 1 (.tf 28)⟩,
⟨some 30,none,.mv (.t 5)⟩,
⟨some 31,none,.ixA 4 (.t 29) (.t 30)⟩,
⟨some 32,none,.load true 4 (.t 31)⟩,
⟨some 6,none,.alloc [(.int .i64 0), (.int .i64 0), (.int .i64 0), (.int .i64 0)]⟩,
⟨none, none, .store 4 (.t 6) (.t 32)⟩]
@[go_sem] def l2n : List XO := [
⟨some 33,none,.fldA 0 (.t 6)⟩,
⟨some 34,none,.load false 1 (.t 33)⟩,
⟨some 35,none,.call "newel/newelref11.within" [.t 34, (.c (.int .i64 1)), (.c (.int .i64 1000))]⟩,
⟨some 36,none,.un .not (.t 35)⟩,
⟨some 37,none,.mv (.t 36)⟩,
⟨(some 38), (some (37, false)), .fldA 1 (.t 6)⟩,
⟨(some 39), (some (37, false)), .load false 1 (.t 38)⟩,
⟨(some 40), (some (37, false)), .call "newel/newelref11.within" [.t 39, (.c (.int .i64 0)), (.c (.int .i64 100))]⟩,
⟨(some 41), (some (37, false)), .un .not (.t 40)⟩,
⟨some 42,none,.pick (.t 37) (.c (.bool true)) (.t 41)⟩,
⟨some 43,none,.mv (.t 42)⟩,
⟨(some 44), (some (43, false)), .fldA 2 (.t 6)⟩,
⟨(some 45), (some (43, false)), .fldA 0 (.t 44)⟩,
⟨(some 46), (some (43, false)), .load false 1 (.t 45)⟩,
⟨(some 47), (some (43, false)), .bin .lss .no (.t 46) (.c (.int .i64 0))⟩,
⟨some 48,none,.pick (.t 43) (.c (.bool true)) (.t 47)⟩,
⟨some 49,none,.mv (.t 48)⟩,
⟨(some 50), (some (49, false)), .fldA 2 (.t 6)⟩,
⟨(some 51), (some (49, false)), .fldA 1 (.t 50)⟩,
⟨(some 52), (some (49, false)), .load false 1 (.t 51)⟩,
⟨(some 53), (some (49, false)), .fldA 2 (.t 6)⟩,
⟨(some 54), (some (49, false)), .fldA 0 (.t 53)⟩,
⟨(some 55), (some (49, false)), .load false 1 (.t 54)⟩,
⟨(some 56), (some (49, false)), .bin .lss .no (.t 52) (.t 55)⟩,
⟨some 57,none,.pick (.t 49) (.c (.bool true)) (.t 56)⟩,
⟨some 58,none,.mv (.t 57)⟩,
⟨(some 59), (some (58, false)), .fldA 2 (.t 6)⟩,
⟨(some 60), (some (58, false)), .fldA 1 (.t 59)⟩,
⟨(some 61), (some (58, false)), .load false 1 (.t 60)⟩,
⟨(some 62), (some (58, false)), .bin .gtr .no (.t 61) (.c (.int .i64 100))⟩,
⟨some 63,none,.pick (.t 58) (.c (.bool true)) (.t 62)⟩]
@[go_sem] def l2o : List XO := [
⟨some 4,none,.mv (.c (.int .i64 111))⟩]
@[go_sem] def l2f : List XO := [
⟨some 26,none,.mv (.t 5)⟩,
⟨some 27,none,.bin .add .no (.t 26) (.c (.int .i64 1))⟩,
⟨some 5,none,.mv (.t 27)⟩]
def d15 : XCode :=
  (.seq (.seq (.reg l2l) (.cond (.t 25) .skip (.exit 0))) (.seq (.block 1 (.seq (.reg l2m) (.seq (.reg l2n) (.cond (.t 63) (.seq (.reg l2o) .ret) .skip)))) (.reg l2f)))
@[go_sem] def l2g : List XO := [
⟨some 4,none,.mv (.c (.int .i64 0))⟩]
def x_r11_CheckTimes : XFunc := { np := 2, res := [.t 4], body :=
  (.seq (.reg l2d) (.seq (.seq (.reg l2e) (.cond (.t 9) (.seq (.reg l2h) .ret) .skip)) (.seq (.seq (.reg l2i) (.cond (.t 20) (.seq (.reg l2j) .ret) .skip)) (.seq (.seq (.reg l2k) (.block 0 (.loop d15))) (.seq (.reg l2g) .ret))))) }
@[go_sem] def l22 : List XO := [
⟨some 2,none,.boxF (.t 0)⟩,
⟨some 4,none,.mv (.c (.bool false))⟩]
@[go_sem] def l23 : List XO := [
⟨some 5,none,.mv (.c (.int .i64 0))⟩]
@[go_sem] def l24 : List XO := [
⟨some 6,none,.mv (.t 5)⟩,
⟨some 7,none,.fldA 6 (.tf 2)⟩,
⟨some 8,none,.load false 1 (.tf 7)⟩,
⟨some 9,none,.len false (.t 8)⟩,
⟨some 10,none,.bin .lss .no (.t 6) (.t 9)⟩]
@[go_sem] def l25 : List XO := [
⟨some 13,none,.fldA 6 (.tf 2)⟩,
⟨some 14,none,.load false 1 (.tf 13)⟩,
⟨some 15,none,.mv (.t 5)⟩,
⟨some 16,none,.ixA 1 (.t 14) (.t 15)⟩,
⟨some 17,none,.load false 1 (.t 16)⟩,
⟨some 18,none,.mv (.t 1)⟩,
⟨some 19,none,.bin .eql .no (.t 17) (.t 18)⟩]
@[go_sem] def l26 : List XO := [
⟨some 4,none,.mv (.c (.bool true))⟩]
@[go_sem] def l27 : List XO := [
⟨some 11,none,.mv (.t 5)⟩,
⟨some 12,none,.bin .add .no (.t 11) (.c (.int .i64 1))⟩,
⟨some 5,none,.mv (.t 12)⟩]
def d17 : XCode :=
  (.seq (.seq (.reg l24) (.cond (.t 10) .skip (.exit 0))) (.seq (.block 1 (.seq (.reg l25) (.cond (.t 19) (.seq (.reg l26) .ret) .skip))) (.reg l27)))
@[go_sem] def l28 : List XO := [
⟨some 4,none,.mv (.c (.bool false))⟩]
def x_r11_Pace : XFunc := { np := 2, res := [.t 4], body :=
  (.seq (.reg l22) (.seq (.seq (.reg l23) (.block 0 (.loop d17))) (.seq (.reg l28) .ret))) }
@[go_sem] def j4z : List XO := [
⟨some 2,none,.boxF (.t 0)⟩,
⟨some 3,none,.boxF (.t 1)⟩,
⟨some 4,none,.alloc [(.int .i64 0), (.int .i64 0)]⟩,
⟨some 5,none,.alloc [(.int .i64 0), (.int .i64 0)]⟩,
⟨some 6,none,.mv (.c (.int .i64 0))⟩]
@[go_sem] def j40 : List XO := [
⟨some 9,none,.load true 6 (.tf 2)⟩,
⟨some 10,none,.load true 4 (.tf 3)⟩,
⟨some 11,none,.call "newel/drive.checkStop" [.t 9, .t 10]⟩,
⟨some 6,none,.mv (.t 11)⟩]
@[go_sem] def j41 : List XO := [
⟨some 12,none,.mv (.t 6)⟩,
⟨some 13,none,.bin .neq .no (.t 12) (.c (.int .i64 0))⟩]
@[go_sem] def j42 : List XO := [
⟨some 14,none,.load true 2 (.tf 4)⟩,
⟨some 15,none,.load true 2 (.tf 5)⟩,
⟨some 16,none,.mv (.t 6)⟩,
⟨none, none, .store 2 (.t 4) (.t 14)⟩,
⟨none, none, .store 2 (.t 5) (.t 15)⟩,
⟨some 6,none,.mv (.t 16)⟩]
@[go_sem] def j43 : List XO := [
⟨some 17,none,.load true 6 (.tf 2)⟩,
⟨some 18,none,.load true 4 (.tf 3)⟩,
⟨some 19,none,.call "newel/drive.run" [.t 17, .t 18, (.c (.bool true))]⟩,
⟨some 20,none,.load true 6 (.tf 2)⟩,
⟨some 21,none,.load true 4 (.tf 3)⟩,
⟨some 22,none,.call "newel/drive.run" [.t 20, .t 21, (.c (.bool false))]⟩,
⟨some 7,none,.alloc [(.int .i64 0), (.slice none 0 0), (.bool false)]⟩,
⟨some 8,none,.alloc [(.int .i64 0), (.slice none 0 0), (.bool false)]⟩,
⟨none, none, .store 3 (.t 7) (.t 19)⟩,
⟨none, none, .store 3 (.t 8) (.t 22)⟩]
@[go_sem] def j44 : List XO := [
⟨some 23,none,.fldA 2 (.t 7)⟩,
⟨some 24,none,.load false 1 (.t 23)⟩,
⟨some 25,none,.un .not (.t 24)⟩]
@[go_sem] def j45 : List XO := [
⟨some 26,none,.load true 2 (.tf 4)⟩,
⟨some 27,none,.load true 2 (.tf 5)⟩,
⟨none, none, .store 2 (.t 4) (.t 26)⟩,
⟨none, none, .store 2 (.t 5) (.t 27)⟩,
⟨some 6,none,.mv (.c (.int .i64 12))⟩]
@[go_sem] def j46 : List XO := [
⟨some 28,none,.fldA 0 (.tf 8)⟩,
⟨some 29,none,.load false 1 (.tf 28)⟩,
⟨some 30,none,.fldA 0 (.tf 7)⟩,
⟨some 31,none,.load false 1 (.tf 30)⟩,
⟨some 32,none,.build [(.int .i64 0), (.int .i64 0)] [(0, 1, (.t 29)), (1, 1, (.t 31))]⟩,
⟨some 33,none,.fldA 1 (.tf 8)⟩,
⟨some 34,none,.load false 1 (.tf 33)⟩,
⟨some 35,none,.len false (.t 34)⟩,
⟨some 36,none,.fldA 1 (.tf 7)⟩,
⟨some 37,none,.load false 1 (.tf 36)⟩,
⟨some 38,none,.len false (.t 37)⟩,
⟨some 39,none,.build [(.int .i64 0), (.int .i64 0)] [(0, 1, (.t 35)), (1, 1, (.t 38))]⟩,
⟨none, none, .store 2 (.t 4) (.t 32)⟩,
⟨none, none, .store 2 (.t 5) (.t 39)⟩,
⟨some 6,none,.mv (.c (.int .i64 0))⟩]
def x_drive_Distance : XFunc := { np := 2, res := [.cell 4 true 2, .cell 5 true 2, .t 6], body :=
  (.seq (.reg j4z) (.seq (.seq (.reg j40) (.seq (.reg j41) (.cond (.t 13) (.seq (.reg j42) .ret) .skip))) (.seq (.reg j43) (.seq (.seq (.reg j44) (.cond (.t 25) (.seq (.reg j45) .ret) .skip)) (.seq (.seq .ghost (.seq .ghost (.seq .ghost (.seq .ghost (.reg j46))))) .ret))))) }
@[go_sem] def j9s : List XO := [
⟨some 0,none,.alloc [(.bool false), (.int .i64 0), (.int .i64 0), (.int .i64 0), (.int .i64 0), (.slice none 0 0)]⟩]
@[go_sem] def j9t : List XO := [
⟨some 1,none,.build [(.int .i64 0), (.int .i64 0)] [(0, 1, (.c (.int .i64 12000))), (1, 1, (.c (.int .i64 1)))]⟩,
⟨some 2,none,.build [(.int .i64 0), (.int .i64 0)] [(0, 1, (.c (.int .i64 16000))), (1, 1, (.c (.int .i64 3)))]⟩,
⟨some 3,none,.bsl 2 [.t 1, .t 2]⟩,
⟨some 4,none,.build [(.bool false), (.int .i64 0), (.int .i64 0), (.int .i64 0), (.int .i64 0), (.slice none 0 0)] [(0, 1, (.c (.bool true))), (1, 1, (.c (.int .i64 1000))), (2, 1, (.c (.int .i64 20))), (3, 1, (.c (.int .i64 2000))), (4, 1, (.c (.int .i64 20000))), (5, 1, (.t 3))]⟩,
⟨none, none, .store 6 (.t 0) (.t 4)⟩]
def x_l01_Example : XFunc := { np := 0, res := [.cell 0 true 6], body :=
  (.seq (.reg j9s) (.seq (.reg j9t) .ret)) }
@[go_sem] def j9u : List XO := [
⟨some 0,none,.alloc [(.int .i64 0), (.slice none 0 0), (.slice none 0 0)]⟩,
⟨some 1,none,.mv (.c (.slice none 0 0))⟩]
@[go_sem] def j9v : List XO := [
⟨some 3,none,.bsl 1 [(.c (.int .i64 1)), (.c (.int .i64 1)), (.c (.int .i64 2)), (.c (.int .i64 2))]⟩,
⟨some 4,none,.bsl 1 [(.c (.int .i64 1)), (.c (.int .i64 2)), (.c (.int .i64 3)), (.c (.int .i64 4))]⟩,
⟨some 5,none,.build [(.int .i64 0), (.slice none 0 0)] [(0, 1, (.c (.int .i64 2))), (1, 1, (.t 4))]⟩,
⟨some 6,none,.bsl 1 [(.c (.int .i64 0))]⟩,
⟨some 7,none,.build [(.int .i64 0), (.slice none 0 0)] [(0, 1, (.c (.int .i64 1))), (1, 1, (.t 6))]⟩,
⟨some 8,none,.bsl 1 [(.c (.int .i64 1))]⟩,
⟨some 9,none,.build [(.int .i64 0), (.slice none 0 0)] [(0, 1, (.c (.int .i64 1))), (1, 1, (.t 8))]⟩,
⟨some 10,none,.bsl 1 [(.c (.int .i64 2))]⟩,
⟨some 11,none,.build [(.int .i64 0), (.slice none 0 0)] [(0, 1, (.c (.int .i64 1))), (1, 1, (.t 10))]⟩,
⟨some 12,none,.bsl 1 [(.c (.int .i64 3))]⟩,
⟨some 13,none,.build [(.int .i64 0), (.slice none 0 0)] [(0, 1, (.c (.int .i64 1))), (1, 1, (.t 12))]⟩,
⟨some 14,none,.bsl 2 [.t 5, .t 7, .t 9, .t 11, .t 13]⟩,
⟨some 15,none,.build [(.int .i64 0), (.slice none 0 0), (.slice none 0 0)] [(0, 1, (.c (.int .i64 2))), (1, 1, (.t 3)), (2, 1, (.t 14))]⟩,
⟨some 2,none,.alloc [(.int .i64 0), (.slice none 0 0), (.slice none 0 0)]⟩,
⟨none, none, .store 3 (.t 2) (.t 15)⟩]
@[go_sem] def j9w : List XO := [
⟨some 16,none,.load true 3 (.t 2)⟩,
⟨some 17,none,.build [(.int .i64 0), (.int .i64 0)] [(0, 1, (.c (.int .i64 1))), (1, 1, (.c (.int .i64 1)))]⟩,
⟨some 18,none,.build [(.int .i64 0), (.int .i64 0)] [(0, 1, (.c (.int .i64 1))), (1, 1, (.c (.int .i64 2)))]⟩,
⟨some 19,none,.build [(.int .i64 0), (.int .i64 0)] [(0, 1, (.c (.int .i64 2))), (1, 1, (.c (.int .i64 3)))]⟩,
⟨some 20,none,.build [(.int .i64 0), (.int .i64 0)] [(0, 1, (.c (.int .i64 2))), (1, 1, (.c (.int .i64 4)))]⟩,
⟨some 21,none,.bsl 2 [.t 17, .t 18, .t 19, .t 20]⟩,
⟨none, none, .store 3 (.t 0) (.t 16)⟩,
⟨some 1,none,.mv (.t 21)⟩]
def x_l03_Example : XFunc := { np := 0, res := [.cell 0 true 3, .t 1], body :=
  (.seq (.reg j9u) (.seq (.reg j9v) (.seq (.reg j9w) .ret))) }
@[go_sem] def j23 : List XO := [
⟨some 1,none,.boxF (.t 0)⟩,
⟨some 2,none,.mv (.c (.slice none 0 0))⟩,
⟨some 3,none,.mv (.c (.int .i64 0))⟩]
@[go_sem] def j24 : List XO := [
⟨some 10,none,.load true 3 (.tf 1)⟩,
⟨some 11,none,.call "newel/circuit.Critical" [.t 10]⟩,
⟨some 9,none,.mv (.t 11)⟩,
⟨some 12,none,.ext (.t 9) 0⟩,
⟨some 13,none,.ext (.t 9) 1⟩,
⟨some 4,none,.mv (.t 12)⟩,
⟨some 5,none,.mv (.t 13)⟩]
@[go_sem] def j3a : List XO := [
⟨some 14,none,.mv (.t 5)⟩,
⟨some 15,none,.bin .neq .no (.t 14) (.c (.int .i64 0))⟩]
@[go_sem] def j3b : List XO := [
⟨some 16,none,.mv (.t 5)⟩,
⟨some 2,none,.mv (.c (.slice none 0 0))⟩,
⟨some 3,none,.mv (.t 16)⟩]
@[go_sem] def j3c : List XO := [
⟨some 6,none,.mv (.c (.slice none 0 0))⟩]
@[go_sem] def j3d : List XO := [
⟨some 17,none,.fldA 1 (.tf 1)⟩,
⟨some 18,none,.load false 1 (.tf 17)⟩,
⟨some 19,none,.len false (.t 18)⟩,
⟨some 20,none,.mv (.c (.int .i64 0))⟩]
@[go_sem] def j3e : List XO := [
⟨some 21,none,.bin .lss .no (.t 20) (.t 19)⟩]
@[go_sem] def j3f : List XO := [
⟨some 22,none,.mv (.t 20)⟩,
⟨some 7,none,.mv (.t 22)⟩]
@[go_sem] def j3g : List XO := [
⟨some 23,none,.mv (.t 7)⟩,
⟨some 24,none,.bin .add .no (.t 23) (.c (.int .i64 1))⟩,
⟨some 8,none,.mv (.t 24)⟩]
@[go_sem] def j3h : List XO := [
⟨some 25,none,.mv (.t 8)⟩,
⟨some 26,none,.fldA 1 (.tf 1)⟩,
⟨some 27,none,.load false 1 (.tf 26)⟩,
⟨some 28,none,.len false (.t 27)⟩,
⟨some 29,none,.bin .lss .no (.t 25) (.t 28)⟩]
@[go_sem] def j25 : List XO := [
⟨some 32,none,.mv (.t 4)⟩,
⟨some 33,none,.mv (.t 7)⟩,
⟨some 34,none,.call "slices.Contains[[]int,int]" [.t 32, .t 33]⟩,
⟨some 35,none,.un .not (.t 34)⟩,
⟨some 36,none,.mv (.t 35)⟩,
⟨(some 37), (some (36, true)), .mv (.t 4)⟩,
⟨(some 38), (some (36, true)), .mv (.t 8)⟩,
⟨(some 39), (some (36, true)), .call "slices.Contains[[]int,int]" [.t 37, .t 38]⟩,
⟨(some 40), (some (36, true)), .un .not (.t 39)⟩,
⟨some 41,none,.pick (.t 36) (.t 40) (.c (.bool false))⟩,
⟨some 42,none,.mv (.t 41)⟩,
⟨(some 43), (some (42, true)), .load true 3 (.tf 1)⟩,
⟨(some 44), (some (42, true)), .mv (.t 7)⟩,
⟨(some 45), (some (42, true)), .bin .shl .no (.c (.int .i64 1)) (.t 44)⟩,
⟨(some 46), (some (42, true)), .mv (.t 8)⟩,
⟨(some 47), (some (42, true)), .bin .shl .no (.c (.int .i64 1)) (.t 46)⟩,
⟨(some 48), (some (42, true)), .bin .or .no (.t 45) (.t 47)⟩,
⟨(some 49), (some (42, true)), .call "newel/circuit.weak" [.t 43, .t 48]⟩,
⟨(some 50), (some (42, true)), .len false (.t 49)⟩,
⟨(some 51), (some (42, true)), .bin .gtr .no (.t 50) (.c (.int .i64 0))⟩,
⟨some 52,none,.pick (.t 42) (.t 51) (.c (.bool false))⟩]
@[go_sem] def j26 : List XO := [
⟨some 53,none,.mv (.t 6)⟩,
⟨some 54,none,.mv (.t 7)⟩,
⟨some 55,none,.mv (.t 8)⟩,
⟨some 56,none,.build [(.int .i64 0), (.int .i64 0)] [(0, 1, (.t 54)), (1, 1, (.t 55))]⟩,
⟨some 57,none,.bsl 2 [.t 56]⟩,
⟨some 58,none,.app 2 16 (.t 53) (.t 57)⟩,
⟨some 6,none,.mv (.t 58)⟩]
@[go_sem] def j27 : List XO := [
⟨some 30,none,.mv (.t 8)⟩,
⟨some 31,none,.bin .add .no (.t 30) (.c (.int .i64 1))⟩,
⟨some 8,none,.mv (.t 31)⟩]
def j3i : XCode :=
  (.seq (.seq (.reg j3h) (.cond (.t 29) .skip (.exit 2))) (.seq (.block 3 (.seq (.reg j25) (.cond (.t 52) (.reg j26) .skip))) (.reg j27)))
@[go_sem] def j28 : List XO := [
⟨some 59,none,.bin .add .no (.t 20) (.c (.int .i64 1))⟩,
⟨some 20,none,.mv (.t 59)⟩]
def j3j : XCode :=
  (.seq (.reg j3e) (.seq (.cond (.t 21) .skip (.exit 0)) (.seq (.block 1 (.seq (.reg j3f) (.seq (.reg j3g) (.block 2 (.loop j3i))))) (.reg j28))))
@[go_sem] def j29 : List XO := [
⟨some 60,none,.mv (.t 6)⟩,
⟨some 2,none,.mv (.t 60)⟩,
⟨some 3,none,.mv (.c (.int .i64 0))⟩]
def x_circuit_Pairs : XFunc := { np := 1, res := [.t 2, .t 3], body :=
  (.seq (.reg j23) (.seq (.reg j24) (.seq (.seq (.reg j3a) (.cond (.t 15) (.seq (.reg j3b) .ret) .skip)) (.seq (.reg j3c) (.seq (.seq (.reg j3d) (.block 0 (.loop j3j))) (.seq (.reg j29) .ret)))))) }
@[go_sem] def j7h : List XO := [
⟨some 3,none,.boxF (.t 0)⟩,
⟨some 6,none,.mv (.c (.int .i64 0))⟩]
@[go_sem] def j7i : List XO := [
⟨some 8,none,.load true 9 (.tf 3)⟩,
⟨some 9,none,.call "newel/energy.Check" [.t 8]⟩,
⟨some 7,none,.mv (.t 9)⟩]
@[go_sem] def j7j : List XO := [
⟨some 11,none,.mv (.t 7)⟩,
⟨some 12,none,.bin .neq .no (.t 11) (.c (.int .i64 0))⟩,
⟨some 10,none,.mv (.t 12)⟩]
@[go_sem] def j7k : List XO := [
⟨some 13,none,.mv (.t 7)⟩,
⟨some 6,none,.mv (.t 13)⟩]
@[go_sem] def j7l : List XO := [
⟨some 15,none,.fldA 6 (.tf 3)⟩,
⟨some 16,none,.load false 1 (.tf 15)⟩,
⟨some 17,none,.mv (.t 2)⟩,
⟨some 18,none,.call "slices.Contains[[]int,int]" [.t 16, .t 17]⟩,
⟨some 19,none,.un .not (.t 18)⟩,
⟨some 14,none,.mv (.t 19)⟩]
@[go_sem] def j7m : List XO := [
⟨some 6,none,.mv (.c (.int .i64 112))⟩]
@[go_sem] def j7n : List XO := [
⟨some 21,none,.mv (.t 1)⟩,
⟨some 22,none,.call "newel/energy.from0" [.t 21, (.c (.int .i64 100))]⟩,
⟨some 23,none,.un .not (.t 22)⟩,
⟨some 20,none,.mv (.t 23)⟩]
@[go_sem] def j7o : List XO := [
⟨some 6,none,.mv (.c (.int .i64 1))⟩]
@[go_sem] def j7p : List XO := [
⟨some 6,none,.mv (.c (.int .i64 0))⟩]
def x_energy_check : XFunc := { np := 3, res := [.t 6], body :=
  (.seq (.reg j7h) (.seq (.seq (.reg j7i) (.block 0 (.seq (.reg j7j) (.cond (.t 10) (.seq (.reg j7k) .ret) (.seq (.reg j7l) (.cond (.t 14) (.seq (.reg j7m) .ret) (.seq (.reg j7n) (.cond (.t 20) (.seq (.reg j7o) .ret) .skip)))))))) (.seq (.reg j7p) .ret))) }
@[go_sem] def j72 : List XO := [
⟨some 3,none,.boxF (.t 0)⟩,
⟨some 6,none,.mv (.c (.int .i64 0))⟩]
@[go_sem] def j73 : List XO := [
⟨some 9,none,.fldA 1 (.tf 3)⟩,
⟨some 10,none,.load false 1 (.tf 9)⟩,
⟨some 11,none,.load true 9 (.tf 3)⟩,
⟨some 12,none,.mv (.t 1)⟩,
⟨some 13,none,.mv (.t 2)⟩,
⟨some 14,none,.call "newel/energy.load" [.t 11, .t 12, .t 13]⟩,
⟨some 15,none,.bin .mul .no (.t 10) (.t 14)⟩,
⟨some 7,none,.mv (.t 15)⟩]
@[go_sem] def j74 : List XO := [
⟨some 16,none,.fldA 0 (.tf 3)⟩,
⟨some 17,none,.load false 1 (.tf 16)⟩]
@[go_sem] def j75 : List XO := [
⟨some 18,none,.mv (.t 7)⟩,
⟨some 19,none,.fldA 2 (.tf 3)⟩,
⟨some 20,none,.load false 1 (.tf 19)⟩,
⟨some 21,none,.bin .add .no (.t 18) (.t 20)⟩,
⟨some 22,none,.mv (.t 2)⟩,
⟨some 23,none,.bin .mul .no (.t 21) (.t 22)⟩,
⟨some 6,none,.mv (.t 23)⟩]
@[go_sem] def j76 : List XO := [
⟨some 24,none,.fldA 2 (.tf 3)⟩,
⟨some 25,none,.load false 1 (.tf 24)⟩,
⟨some 26,none,.mv (.t 7)⟩,
⟨some 27,none,.bin .sub .no (.t 25) (.t 26)⟩,
⟨some 8,none,.mv (.t 27)⟩]
@[go_sem] def j77 : List XO := [
⟨some 28,none,.mv (.t 8)⟩,
⟨some 29,none,.bin .geq .no (.t 28) (.c (.int .i64 0))⟩]
@[go_sem] def j78 : List XO := [
⟨some 30,none,.mv (.t 8)⟩,
⟨some 31,none,.mv (.t 2)⟩,
⟨some 32,none,.bin .mul .no (.t 30) (.t 31)⟩,
⟨some 6,none,.mv (.t 32)⟩]
@[go_sem] def j79 : List XO := [
⟨some 33,none,.mv (.t 7)⟩,
⟨some 34,none,.fldA 2 (.tf 3)⟩,
⟨some 35,none,.load false 1 (.tf 34)⟩,
⟨some 36,none,.bin .sub .no (.t 33) (.t 35)⟩,
⟨some 37,none,.mv (.t 2)⟩,
⟨some 38,none,.bin .mul .no (.t 36) (.t 37)⟩,
⟨some 39,none,.fldA 7 (.tf 3)⟩,
⟨some 40,none,.load false 1 (.tf 39)⟩,
⟨some 41,none,.bin .mul .no (.t 38) (.t 40)⟩,
⟨some 42,none,.fldA 8 (.tf 3)⟩,
⟨some 43,none,.load false 1 (.tf 42)⟩,
⟨some 44,none,.bin .quo .no (.t 41) (.t 43)⟩,
⟨some 45,none,.un .neg (.t 44)⟩,
⟨some 6,none,.mv (.t 45)⟩]
def x_energy_power : XFunc := { np := 3, res := [.t 6], body :=
  (.seq (.reg j72) (.seq (.reg j73) (.seq (.seq (.reg j74) (.cond (.t 17) (.seq (.reg j75) .ret) .skip)) (.seq (.seq (.reg j76) (.seq (.reg j77) (.cond (.t 29) (.seq (.reg j78) .ret) .skip))) (.seq (.reg j79) .ret))))) }
@[go_sem] def l1l : List XO := [
⟨some 1,none,.boxF (.t 0)⟩,
⟨some 2,none,.alloc [(.int .i64 0), (.int .i64 0)]⟩]
@[go_sem] def l1m : List XO := [
⟨some 4,none,.fldA 1 (.tf 1)⟩,
⟨some 5,none,.load false 1 (.tf 4)⟩,
⟨some 6,none,.fldA 2 (.tf 1)⟩,
⟨some 7,none,.load false 1 (.tf 6)⟩,
⟨some 8,none,.fldA 3 (.tf 1)⟩,
⟨some 9,none,.load false 1 (.tf 8)⟩,
⟨some 10,none,.bin .mul .no (.t 7) (.t 9)⟩,
⟨some 11,none,.bin .add .no (.t 5) (.t 10)⟩,
⟨some 3,none,.mv (.t 11)⟩]
@[go_sem] def l1n : List XO := [
⟨some 12,none,.fldA 0 (.tf 1)⟩,
⟨some 13,none,.load false 1 (.tf 12)⟩,
⟨some 14,none,.mv (.t 3)⟩,
⟨some 15,none,.bin .sub .no (.t 13) (.t 14)⟩,
⟨some 16,none,.fldA 0 (.tf 1)⟩,
⟨some 17,none,.load false 1 (.tf 16)⟩,
⟨some 18,none,.mv (.t 3)⟩,
⟨some 19,none,.bin .add .no (.t 17) (.t 18)⟩,
⟨some 20,none,.build [(.int .i64 0), (.int .i64 0)] [(0, 1, (.t 15)), (1, 1, (.t 19))]⟩,
⟨none, none, .store 2 (.t 2) (.t 20)⟩]
def x_r10_Allows : XFunc := { np := 1, res := [.cell 2 true 2], body :=
  (.seq (.reg l1l) (.seq (.reg l1m) (.seq (.reg l1n) .ret))) }
@[go_sem] def j9g : List XO := [
⟨some 2,none,.mv (.c (.int .i64 0))⟩]
@[go_sem] def j9h : List XO := [
⟨some 5,none,.mv (.t 0)⟩,
⟨some 6,none,.len false (.t 5)⟩,
⟨some 7,none,.bin .gtr .no (.t 6) (.c (.int .i64 12))⟩]
@[go_sem] def j9j : List XO := [
⟨some 2,none,.mv (.c (.int .i64 2))⟩]
@[go_sem] def j9k : List XO := [
⟨some 8,none,.mv (.t 0)⟩,
⟨some 9,none,.len false (.t 8)⟩,
⟨some 10,none,.mv (.c (.int .i64 0))⟩]
@[go_sem] def j9l : List XO := [
⟨some 11,none,.bin .lss .no (.t 10) (.t 9)⟩]
@[go_sem] def j9m : List XO := [
⟨some 12,none,.ixA 4 (.t 8) (.t 10)⟩,
⟨some 13,none,.load true 4 (.t 12)⟩,
⟨some 4,none,.alloc [(.int .i64 0), (.int .i64 0), (.int .i64 0), (.int .i64 0)]⟩,
⟨none, none, .store 4 (.t 4) (.t 13)⟩]
@[go_sem] def j9n : List XO := [
⟨some 14,none,.fldA 0 (.t 4)⟩,
⟨some 15,none,.load false 1 (.t 14)⟩,
⟨some 16,none,.call "newel/faults.within" [.t 15, (.c (.int .i64 (-100000))), (.c (.int .i64 100000))]⟩,
⟨some 17,none,.un .not (.t 16)⟩,
⟨some 18,none,.mv (.t 17)⟩,
⟨(some 19), (some (18, false)), .fldA 1 (.t 4)⟩,
⟨(some 20), (some (18, false)), .load false 1 (.t 19)⟩,
⟨(some 21), (some (18, false)), .call "newel/faults.within" [.t 20, (.c (.int .i64 0)), (.c (.int .i64 1000))]⟩,
⟨(some 22), (some (18, false)), .un .not (.t 21)⟩,
⟨some 23,none,.pick (.t 18) (.c (.bool true)) (.t 22)⟩,
⟨some 24,none,.mv (.t 23)⟩,
⟨(some 25), (some (24, false)), .fldA 2 (.t 4)⟩,
⟨(some 26), (some (24, false)), .load false 1 (.t 25)⟩,
⟨(some 27), (some (24, false)), .call "newel/faults.within" [.t 26, (.c (.int .i64 0)), (.c (.int .i64 1000))]⟩,
⟨(some 28), (some (24, false)), .un .not (.t 27)⟩,
⟨some 29,none,.pick (.t 24) (.c (.bool true)) (.t 28)⟩,
⟨some 30,none,.mv (.t 29)⟩,
⟨(some 31), (some (30, false)), .fldA 3 (.t 4)⟩,
⟨(some 32), (some (30, false)), .load false 1 (.t 31)⟩,
⟨(some 33), (some (30, false)), .call "newel/faults.within" [.t 32, (.c (.int .i64 0)), (.c (.int .i64 1000))]⟩,
⟨(some 34), (some (30, false)), .un .not (.t 33)⟩,
⟨some 35,none,.pick (.t 30) (.c (.bool true)) (.t 34)⟩]
@[go_sem] def j9o : List XO := [
⟨some 2,none,.mv (.c (.int .i64 100))⟩]
@[go_sem] def j9p : List XO := [
⟨some 36,none,.bin .add .no (.t 10) (.c (.int .i64 1))⟩,
⟨some 10,none,.mv (.t 36)⟩]
def d10 : XCode :=
  (.seq (.reg j9l) (.seq (.cond (.t 11) .skip (.exit 0)) (.seq (.block 1 (.seq (.reg j9m) (.seq (.reg j9n) (.cond (.t 35) (.seq (.reg j9o) .ret) .skip)))) (.reg j9p))))
@[go_sem] def j9i : List XO := [
⟨some 2,none,.mv (.c (.int .i64 0))⟩]
def x_faults_readings : XFunc := { np := 1, res := [.t 2], body :=
  (.seq (.reg j9g) (.seq (.seq (.reg j9h) (.cond (.t 7) (.seq (.reg j9j) .ret) .skip)) (.seq (.seq (.reg j9k) (.block 0 (.loop d10))) (.seq (.reg j9i) .ret)))) }
@[go_sem] def j8v : List XO := [
⟨some 4,none,.alloc [(.int .i64 0), (.int .i64 0)]⟩,
⟨some 5,none,.mv (.c (.bool false))⟩]
@[go_sem] def j8w : List XO := [
⟨some 10,none,.build [(.int .i64 0), (.int .i64 0)] [(0, 1, (.c (.int .i64 (-1099511627776)))), (1, 1, (.c (.int .i64 1099511627776)))]⟩,
⟨some 6,none,.alloc [(.int .i64 0), (.int .i64 0)]⟩,
⟨none, none, .store 2 (.t 6) (.t 10)⟩]
@[go_sem] def j8y : List XO := [
⟨some 11,none,.mv (.t 0)⟩,
⟨some 12,none,.len false (.t 11)⟩,
⟨some 13,none,.mv (.c (.int .i64 0))⟩]
@[go_sem] def j8z : List XO := [
⟨some 14,none,.bin .lss .no (.t 13) (.t 12)⟩]
@[go_sem] def j80 : List XO := [
⟨some 15,none,.mv (.t 13)⟩,
⟨some 16,none,.ixA 4 (.t 11) (.t 13)⟩,
⟨some 17,none,.load true 4 (.t 16)⟩,
⟨some 8,none,.alloc [(.int .i64 0), (.int .i64 0), (.int .i64 0), (.int .i64 0)]⟩,
⟨some 7,none,.mv (.t 15)⟩,
⟨none, none, .store 4 (.t 8) (.t 17)⟩]
@[go_sem] def j81 : List XO := [
⟨some 18,none,.mv (.t 1)⟩,
⟨some 19,none,.mv (.t 7)⟩,
⟨some 20,none,.bin .shr .no (.t 18) (.t 19)⟩,
⟨some 21,none,.bin .and .no (.t 20) (.c (.int .i64 1))⟩,
⟨some 22,none,.bin .eql .no (.t 21) (.c (.int .i64 0))⟩]
@[go_sem] def j82 : List XO := [
⟨some 23,none,.fldA 1 (.t 8)⟩,
⟨some 24,none,.load false 1 (.t 23)⟩,
⟨some 25,none,.fldA 2 (.t 8)⟩,
⟨some 26,none,.load false 1 (.t 25)⟩,
⟨some 27,none,.fldA 3 (.t 8)⟩,
⟨some 28,none,.load false 1 (.t 27)⟩,
⟨some 29,none,.bin .mul .no (.t 26) (.t 28)⟩,
⟨some 30,none,.bin .add .no (.t 24) (.t 29)⟩,
⟨some 9,none,.mv (.t 30)⟩]
@[go_sem] def j83 : List XO := [
⟨some 31,none,.fldA 0 (.t 6)⟩,
⟨some 32,none,.load false 1 (.t 31)⟩,
⟨some 33,none,.fldA 0 (.t 8)⟩,
⟨some 34,none,.load false 1 (.t 33)⟩,
⟨some 35,none,.mv (.t 9)⟩,
⟨some 36,none,.bin .sub .no (.t 34) (.t 35)⟩,
⟨some 37,none,.max [.t 32, .t 36]⟩,
⟨some 38,none,.fldA 1 (.t 6)⟩,
⟨some 39,none,.load false 1 (.t 38)⟩,
⟨some 40,none,.fldA 0 (.t 8)⟩,
⟨some 41,none,.load false 1 (.t 40)⟩,
⟨some 42,none,.mv (.t 9)⟩,
⟨some 43,none,.bin .add .no (.t 41) (.t 42)⟩,
⟨some 44,none,.min [.t 39, .t 43]⟩,
⟨some 45,none,.build [(.int .i64 0), (.int .i64 0)] [(0, 1, (.t 37)), (1, 1, (.t 44))]⟩,
⟨none, none, .store 2 (.t 6) (.t 45)⟩]
@[go_sem] def j84 : List XO := [
⟨some 46,none,.bin .add .no (.t 13) (.c (.int .i64 1))⟩,
⟨some 13,none,.mv (.t 46)⟩]
def d1y : XCode :=
  (.seq (.reg j8z) (.seq (.cond (.t 14) .skip (.exit 0)) (.seq (.block 1 (.seq (.reg j80) (.seq (.reg j81) (.cond (.t 22) (.seq (.reg j82) (.reg j83)) .skip)))) (.reg j84))))
@[go_sem] def j8x : List XO := [
⟨some 47,none,.load true 2 (.tf 6)⟩,
⟨some 48,none,.fldA 0 (.tf 6)⟩,
⟨some 49,none,.load false 1 (.tf 48)⟩,
⟨some 50,none,.fldA 1 (.tf 6)⟩,
⟨some 51,none,.load false 1 (.tf 50)⟩,
⟨some 52,none,.bin .leq .no (.t 49) (.t 51)⟩,
⟨none, none, .store 2 (.t 4) (.t 47)⟩,
⟨some 5,none,.mv (.t 52)⟩]
def x_faults_common : XFunc := { np := 2, res := [.cell 4 true 2, .t 5], body :=
  (.seq (.reg j8v) (.seq (.reg j8w) (.seq (.seq (.reg j8y) (.block 0 (.loop d1y))) (.seq (.seq .ghost (.reg j8x)) .ret)))) }
@[go_sem] def j85 : List XO := [
⟨some 4,none,.mv (.c (.bool false))⟩]
@[go_sem] def j86 : List XO := [
⟨some 7,none,.mv (.t 0)⟩,
⟨some 8,none,.cvtI .u64 (.t 7)⟩,
⟨some 9,none,.call "math/bits.OnesCount" [.t 8]⟩,
⟨some 10,none,.mv (.t 1)⟩,
⟨some 11,none,.cvtI .u64 (.t 10)⟩,
⟨some 12,none,.call "math/bits.OnesCount" [.t 11]⟩,
⟨some 5,none,.mv (.t 9)⟩,
⟨some 6,none,.mv (.t 12)⟩]
@[go_sem] def j87 : List XO := [
⟨some 13,none,.mv (.t 5)⟩,
⟨some 14,none,.mv (.t 6)⟩,
⟨some 15,none,.bin .neq .no (.t 13) (.t 14)⟩]
@[go_sem] def j88 : List XO := [
⟨some 16,none,.mv (.t 5)⟩,
⟨some 17,none,.mv (.t 6)⟩,
⟨some 18,none,.bin .lss .no (.t 16) (.t 17)⟩,
⟨some 4,none,.mv (.t 18)⟩]
@[go_sem] def j89 : List XO := [
⟨some 19,none,.mv (.t 0)⟩,
⟨some 20,none,.call "newel/faults.members" [.t 19]⟩,
⟨some 21,none,.mv (.t 1)⟩,
⟨some 22,none,.call "newel/faults.members" [.t 21]⟩,
⟨some 23,none,.call "slices.Compare[[]int,int]" [.t 20, .t 22]⟩,
⟨some 24,none,.bin .lss .no (.t 23) (.c (.int .i64 0))⟩,
⟨some 4,none,.mv (.t 24)⟩]
def x_faults_fewer : XFunc := { np := 2, res := [.t 4], body :=
  (.seq (.reg j85) (.seq (.seq (.reg j86) (.seq (.reg j87) (.cond (.t 15) (.seq (.reg j88) .ret) .skip))) (.seq (.reg j89) .ret))) }
@[go_sem] def j9a : List XO := [
⟨some 2,none,.mv (.c (.slice none 0 0))⟩]
@[go_sem] def j9b : List XO := [
⟨some 3,none,.mv (.c (.slice none 0 0))⟩]
@[go_sem] def j9c : List XO := [
⟨some 4,none,.mv (.t 0)⟩,
⟨some 5,none,.bin .neq .no (.t 4) (.c (.int .i64 0))⟩]
@[go_sem] def j9d : List XO := [
⟨some 10,none,.mv (.t 3)⟩,
⟨some 11,none,.mv (.t 0)⟩,
⟨some 12,none,.cvtI .u64 (.t 11)⟩,
⟨some 13,none,.call "math/bits.TrailingZeros" [.t 12]⟩,
⟨some 14,none,.bsl 1 [.t 13]⟩,
⟨some 15,none,.app 1 8 (.t 10) (.t 14)⟩,
⟨some 3,none,.mv (.t 15)⟩]
@[go_sem] def j9e : List XO := [
⟨some 6,none,.mv (.t 0)⟩,
⟨some 7,none,.mv (.t 0)⟩,
⟨some 8,none,.bin .sub .no (.t 7) (.c (.int .i64 1))⟩,
⟨some 9,none,.bin .and .no (.t 6) (.t 8)⟩,
⟨some 0,none,.mv (.t 9)⟩]
def d1z : XCode :=
  (.seq (.seq (.reg j9c) (.cond (.t 5) .skip (.exit 0))) (.seq (.block 1 (.reg j9d)) (.reg j9e)))
@[go_sem] def j9f : List XO := [
⟨some 16,none,.mv (.t 3)⟩,
⟨some 2,none,.mv (.t 16)⟩]
def x_faults_members : XFunc := { np := 1, res := [.t 2], body :=
  (.seq (.reg j9a) (.seq (.reg j9b) (.seq (.block 0 (.loop d1z)) (.seq (.reg j9f) .ret)))) }
@[go_sem] def j6x : List XO := [
⟨some 3,none,.boxF (.t 0)⟩,
⟨some 4,none,.boxF (.t 1)⟩,
⟨some 6,none,.mv (.c (.int .i64 0))⟩]
@[go_sem] def j6y : List XO := [
⟨some 8,none,.load true 9 (.tf 3)⟩,
⟨some 9,none,.load true 2 (.tf 4)⟩,
⟨some 10,none,.call "newel/energy.checkTimes" [.t 8, .t 9]⟩,
⟨some 7,none,.mv (.t 10)⟩]
@[go_sem] def j6z : List XO := [
⟨some 11,none,.mv (.t 7)⟩,
⟨some 12,none,.bin .neq .no (.t 11) (.c (.int .i64 0))⟩]
@[go_sem] def j60 : List XO := [
⟨some 13,none,.mv (.t 7)⟩,
⟨some 6,none,.mv (.t 13)⟩]
@[go_sem] def j61 : List XO := [
⟨some 14,none,.mv (.t 2)⟩,
⟨some 15,none,.len false (.t 14)⟩,
⟨some 16,none,.fldA 0 (.tf 4)⟩,
⟨some 17,none,.load false 1 (.tf 16)⟩,
⟨some 18,none,.len false (.t 17)⟩,
⟨some 19,none,.bin .neq .no (.t 15) (.t 18)⟩,
⟨some 20,none,.mv (.t 19)⟩,
⟨(some 21), (some (20, false)), .mv (.t 2)⟩,
⟨(some 22), (some (20, false)), .mkfn "newel/energy.checkPlan$1" [] [.t 3]⟩,
⟨(some 23), (some (20, false)), .call "slices.ContainsFunc[[]int,int]" [.t 21, .t 22]⟩,
⟨some 24,none,.pick (.t 20) (.c (.bool true)) (.t 23)⟩]
@[go_sem] def j62 : List XO := [
⟨some 6,none,.mv (.c (.int .i64 112))⟩]
@[go_sem] def j63 : List XO := [
⟨some 6,none,.mv (.c (.int .i64 0))⟩]
def x_energy_checkPlan : XFunc := { np := 3, res := [.t 6], body :=
  (.seq (.reg j6x) (.seq (.seq (.reg j6y) (.seq (.reg j6z) (.cond (.t 12) (.seq (.reg j60) .ret) .skip))) (.seq (.seq (.reg j61) (.cond (.t 24) (.seq (.reg j62) .ret) .skip)) (.seq (.reg j63) .ret)))) }
@[go_sem] def j7q : List XO := [
⟨some 4,none,.boxF (.t 0)⟩,
⟨some 5,none,.boxF (.t 1)⟩,
⟨some 7,none,.boxF (.t 3)⟩,
⟨some 8,none,.mv (.c (.slice none 0 0))⟩]
@[go_sem] def j7r : List XO := [
⟨some 11,none,.fldA 2 (.tf 5)⟩,
⟨some 12,none,.fldA 0 (.tf 11)⟩,
⟨some 13,none,.load false 1 (.tf 12)⟩,
⟨some 9,none,.mv (.t 13)⟩]
@[go_sem] def j7s : List XO := [
⟨some 14,none,.mv (.t 9)⟩,
⟨some 15,none,.fldA 2 (.tf 5)⟩,
⟨some 16,none,.fldA 1 (.tf 15)⟩,
⟨some 17,none,.load false 1 (.tf 16)⟩,
⟨some 18,none,.bin .leq .no (.t 14) (.t 17)⟩]
@[go_sem] def j7t : List XO := [
⟨some 21,none,.load true 9 (.tf 4)⟩,
⟨some 22,none,.mv (.t 9)⟩,
⟨some 23,none,.mv (.t 2)⟩,
⟨some 24,none,.call "newel/energy.power" [.t 21, .t 22, .t 23]⟩,
⟨some 25,none,.fldA 0 (.tf 5)⟩,
⟨some 26,none,.load false 1 (.tf 25)⟩,
⟨some 27,none,.bin .mul .no (.t 24) (.t 26)⟩,
⟨some 10,none,.mv (.t 27)⟩]
@[go_sem] def j7u : List XO := [
⟨some 28,none,.fldA 0 (.tf 7)⟩,
⟨some 29,none,.load false 1 (.tf 28)⟩,
⟨some 30,none,.mv (.t 10)⟩,
⟨some 31,none,.bin .leq .no (.t 29) (.t 30)⟩,
⟨some 32,none,.mv (.t 31)⟩,
⟨(some 33), (some (32, true)), .mv (.t 10)⟩,
⟨(some 34), (some (32, true)), .fldA 1 (.tf 7)⟩,
⟨(some 35), (some (32, true)), .load false 1 (.tf 34)⟩,
⟨(some 36), (some (32, true)), .bin .leq .no (.t 33) (.t 35)⟩,
⟨some 37,none,.pick (.t 32) (.t 36) (.c (.bool false))⟩]
@[go_sem] def j7v : List XO := [
⟨some 38,none,.mv (.t 8)⟩,
⟨some 39,none,.mv (.t 9)⟩,
⟨some 40,none,.bsl 1 [.t 39]⟩,
⟨some 41,none,.app 1 8 (.t 38) (.t 40)⟩,
⟨some 8,none,.mv (.t 41)⟩]
@[go_sem] def j7w : List XO := [
⟨some 19,none,.mv (.t 9)⟩,
⟨some 20,none,.bin .add .no (.t 19) (.c (.int .i64 1))⟩,
⟨some 9,none,.mv (.t 20)⟩]
def d1w : XCode :=
  (.seq (.seq (.reg j7s) (.cond (.t 18) .skip (.exit 0))) (.seq (.block 1 (.seq (.reg j7t) (.seq (.reg j7u) (.cond (.t 37) (.reg j7v) .skip)))) (.reg j7w)))
@[go_sem] def j7x : List XO := [
⟨some 42,none,.mv (.t 8)⟩,
⟨some 8,none,.mv (.t 42)⟩]
def x_energy_flows : XFunc := { np := 4, res := [.t 8], body :=
  (.seq (.reg j7q) (.seq (.seq (.reg j7r) (.block 0 (.loop d1w))) (.seq (.reg j7x) .ret))) }
@[go_sem] def l1x : List XO := [
⟨some 6,none,.mv (.c (.bool false))⟩]
@[go_sem] def l1y : List XO := [
⟨some 7,none,.mv (.t 0)⟩,
⟨some 8,none,.mv (.t 1)⟩,
⟨some 9,none,.bin .geq .no (.t 7) (.t 8)⟩,
⟨some 10,none,.mv (.t 9)⟩,
⟨(some 11), (some (10, true)), .mv (.t 0)⟩,
⟨(some 12), (some (10, true)), .mv (.t 2)⟩,
⟨(some 13), (some (10, true)), .bin .leq .no (.t 11) (.t 12)⟩,
⟨some 14,none,.pick (.t 10) (.t 13) (.c (.bool false))⟩,
⟨some 6,none,.mv (.t 14)⟩]
def x_r10_from : XFunc := { np := 3, res := [.t 6], body :=
  (.seq (.reg l1x) (.seq (.reg l1y) .ret)) }
@[go_sem] def l2p : List XO := [
⟨some 1,none,.boxF (.t 0)⟩,
⟨some 2,none,.mv (.c (.int .i64 0))⟩]
@[go_sem] def l2q : List XO := [
⟨some 5,none,.fldA 1 (.tf 1)⟩,
⟨some 6,none,.load false 1 (.tf 5)⟩,
⟨some 7,none,.call "newel/newelref11.within" [.t 6, (.c (.int .i64 0)), (.c (.int .i64 100))]⟩,
⟨some 8,none,.un .not (.t 7)⟩,
⟨some 9,none,.mv (.t 8)⟩,
⟨(some 10), (some (9, false)), .fldA 2 (.tf 1)⟩,
⟨(some 11), (some (9, false)), .load false 1 (.tf 10)⟩,
⟨(some 12), (some (9, false)), .call "newel/newelref11.within" [.t 11, (.c (.int .i64 0)), (.c (.int .i64 1000000))]⟩,
⟨(some 13), (some (9, false)), .un .not (.t 12)⟩,
⟨some 14,none,.pick (.t 9) (.c (.bool true)) (.t 13)⟩,
⟨some 15,none,.mv (.t 14)⟩,
⟨(some 16), (some (15, false)), .fldA 3 (.tf 1)⟩,
⟨(some 17), (some (15, false)), .load false 1 (.tf 16)⟩,
⟨(some 18), (some (15, false)), .call "newel/newelref11.within" [.t 17, (.c (.int .i64 0)), (.c (.int .i64 100))]⟩,
⟨(some 19), (some (15, false)), .un .not (.t 18)⟩,
⟨some 20,none,.pick (.t 15) (.c (.bool true)) (.t 19)⟩,
⟨some 21,none,.mv (.t 20)⟩,
⟨(some 22), (some (21, false)), .fldA 4 (.tf 1)⟩,
⟨(some 23), (some (21, false)), .load false 1 (.tf 22)⟩,
⟨(some 24), (some (21, false)), .call "newel/newelref11.within" [.t 23, (.c (.int .i64 1)), (.c (.int .i64 1000))]⟩,
⟨(some 25), (some (21, false)), .un .not (.t 24)⟩,
⟨some 26,none,.pick (.t 21) (.c (.bool true)) (.t 25)⟩,
⟨some 27,none,.mv (.t 26)⟩,
⟨(some 28), (some (27, false)), .fldA 5 (.tf 1)⟩,
⟨(some 29), (some (27, false)), .load false 1 (.tf 28)⟩,
⟨(some 30), (some (27, false)), .call "newel/newelref11.within" [.t 29, (.c (.int .i64 0)), (.c (.int .i64 100000000))]⟩,
⟨(some 31), (some (27, false)), .un .not (.t 30)⟩,
⟨some 32,none,.pick (.t 27) (.c (.bool true)) (.t 31)⟩]
@[go_sem] def l2u : List XO := [
⟨some 2,none,.mv (.c (.int .i64 110))⟩]
@[go_sem] def l2v : List XO := [
⟨some 33,none,.fldA 6 (.tf 1)⟩,
⟨some 34,none,.load false 1 (.tf 33)⟩,
⟨some 35,none,.len false (.t 34)⟩,
⟨some 36,none,.call "newel/newelref11.within" [.t 35, (.c (.int .i64 1)), (.c (.int .i64 3))]⟩,
⟨some 37,none,.un .not (.t 36)⟩,
⟨some 38,none,.mv (.t 37)⟩,
⟨(some 39), (some (38, false)), .fldA 8 (.tf 1)⟩,
⟨(some 40), (some (38, false)), .load false 1 (.tf 39)⟩,
⟨(some 41), (some (38, false)), .call "newel/newelref11.within" [.t 40, (.c (.int .i64 1)), (.c (.int .i64 100))]⟩,
⟨(some 42), (some (38, false)), .un .not (.t 41)⟩,
⟨some 43,none,.pick (.t 38) (.c (.bool true)) (.t 42)⟩,
⟨some 44,none,.mv (.t 43)⟩,
⟨(some 45), (some (44, false)), .fldA 7 (.tf 1)⟩,
⟨(some 46), (some (44, false)), .load false 1 (.tf 45)⟩,
⟨(some 47), (some (44, false)), .fldA 8 (.tf 1)⟩,
⟨(some 48), (some (44, false)), .load false 1 (.tf 47)⟩,
⟨(some 49), (some (44, false)), .call "newel/newelref11.within" [.t 46, (.c (.int .i64 0)), .t 48]⟩,
⟨(some 50), (some (44, false)), .un .not (.t 49)⟩,
⟨some 51,none,.pick (.t 44) (.c (.bool true)) (.t 50)⟩]
@[go_sem] def l2w : List XO := [
⟨some 2,none,.mv (.c (.int .i64 110))⟩]
@[go_sem] def l2x : List XO := [
⟨some 3,none,.mv (.c (.int .i64 0))⟩]
@[go_sem] def l2y : List XO := [
⟨some 4,none,.mv (.c (.int .i64 0))⟩]
@[go_sem] def l2z : List XO := [
⟨some 52,none,.mv (.t 4)⟩,
⟨some 53,none,.fldA 6 (.tf 1)⟩,
⟨some 54,none,.load false 1 (.tf 53)⟩,
⟨some 55,none,.len false (.t 54)⟩,
⟨some 56,none,.bin .lss .no (.t 52) (.t 55)⟩]
@[go_sem] def l20 : List XO := [
⟨some 59,none,.fldA 6 (.tf 1)⟩,
⟨some 60,none,.load false 1 (.tf 59)⟩,
⟨some 61,none,.mv (.t 4)⟩,
⟨some 62,none,.ixA 1 (.t 60) (.t 61)⟩,
⟨some 63,none,.load false 1 (.t 62)⟩,
⟨some 64,none,.mv (.t 3)⟩,
⟨some 65,none,.bin .add .no (.t 64) (.c (.int .i64 1))⟩,
⟨some 66,none,.call "newel/newelref11.within" [.t 63, .t 65, (.c (.int .i64 100))]⟩,
⟨some 67,none,.un .not (.t 66)⟩]
@[go_sem] def l21 : List XO := [
⟨some 2,none,.mv (.c (.int .i64 110))⟩]
@[go_sem] def l2r : List XO := [
⟨some 68,none,.fldA 6 (.tf 1)⟩,
⟨some 69,none,.load false 1 (.tf 68)⟩,
⟨some 70,none,.mv (.t 4)⟩,
⟨some 71,none,.ixA 1 (.t 69) (.t 70)⟩,
⟨some 72,none,.load false 1 (.t 71)⟩,
⟨some 3,none,.mv (.t 72)⟩]
@[go_sem] def l2s : List XO := [
⟨some 57,none,.mv (.t 4)⟩,
⟨some 58,none,.bin .add .no (.t 57) (.c (.int .i64 1))⟩,
⟨some 4,none,.mv (.t 58)⟩]
def d16 : XCode :=
  (.seq (.seq (.reg l2z) (.cond (.t 56) .skip (.exit 0))) (.seq (.block 1 (.seq (.seq (.reg l20) (.cond (.t 67) (.seq (.reg l21) .ret) .skip)) (.reg l2r))) (.reg l2s)))
@[go_sem] def l2t : List XO := [
⟨some 2,none,.mv (.c (.int .i64 0))⟩]
def x_r11_Check : XFunc := { np := 1, res := [.t 2], body :=
  (.seq (.reg l2p) (.seq (.seq (.reg l2q) (.cond (.t 32) (.seq (.reg l2u) .ret) .skip)) (.seq (.seq (.reg l2v) (.cond (.t 51) (.seq (.reg l2w) .ret) .skip)) (.seq (.reg l2x) (.seq (.seq (.reg l2y) (.block 0 (.loop d16))) (.seq (.reg l2t) .ret)))))) }
@[go_sem] def l29 : List XO := [
⟨some 6,none,.mv (.c (.bool false))⟩]
@[go_sem] def l3a : List XO := [
⟨some 7,none,.mv (.t 0)⟩,
⟨some 8,none,.mv (.t 1)⟩,
⟨some 9,none,.bin .geq .no (.t 7) (.t 8)⟩,
⟨some 10,none,.mv (.t 9)⟩,
⟨(some 11), (some (10, true)), .mv (.t 0)⟩,
⟨(some 12), (some (10, true)), .mv (.t 2)⟩,
⟨(some 13), (some (10, true)), .bin .leq .no (.t 11) (.t 12)⟩,
⟨some 14,none,.pick (.t 10) (.t 13) (.c (.bool false))⟩,
⟨some 6,none,.mv (.t 14)⟩]
def x_r11_within : XFunc := { np := 3, res := [.t 6], body :=
  (.seq (.reg l29) (.seq (.reg l3a) .ret)) }
@[go_sem] def j49 : List XO := [
⟨some 2,none,.boxF (.t 0)⟩,
⟨some 3,none,.boxF (.t 1)⟩,
⟨some 4,none,.mv (.c (.int .i64 0))⟩]
@[go_sem] def j5a : List XO := [
⟨some 6,none,.load true 6 (.tf 2)⟩,
⟨some 7,none,.call "newel/drive.Check" [.t 6]⟩,
⟨some 5,none,.mv (.t 7)⟩]
@[go_sem] def j5b : List XO := [
⟨some 8,none,.mv (.t 5)⟩,
⟨some 9,none,.bin .neq .no (.t 8) (.c (.int .i64 0))⟩]
@[go_sem] def j5c : List XO := [
⟨some 10,none,.mv (.t 5)⟩,
⟨some 4,none,.mv (.t 10)⟩]
@[go_sem] def j5d : List XO := [
⟨some 11,none,.fldA 0 (.tf 3)⟩,
⟨some 12,none,.load false 1 (.tf 11)⟩,
⟨some 13,none,.call "newel/drive.to" [(.c (.int .i64 1000))]⟩,
⟨some 14,none,.call "newel/drive.in" [.t 12, .t 13]⟩,
⟨some 15,none,.un .not (.t 14)⟩,
⟨some 16,none,.mv (.t 15)⟩,
⟨(some 17), (some (16, false)), .fldA 1 (.tf 3)⟩,
⟨(some 18), (some (16, false)), .fldA 0 (.tf 17)⟩,
⟨(some 19), (some (16, false)), .load false 1 (.tf 18)⟩,
⟨(some 20), (some (16, false)), .bin .lss .no (.t 19) (.c (.int .i64 0))⟩,
⟨some 21,none,.pick (.t 16) (.c (.bool true)) (.t 20)⟩,
⟨some 22,none,.mv (.t 21)⟩,
⟨(some 23), (some (22, false)), .fldA 1 (.tf 3)⟩,
⟨(some 24), (some (22, false)), .fldA 0 (.tf 23)⟩,
⟨(some 25), (some (22, false)), .load false 1 (.tf 24)⟩,
⟨(some 26), (some (22, false)), .fldA 1 (.tf 3)⟩,
⟨(some 27), (some (22, false)), .fldA 1 (.tf 26)⟩,
⟨(some 28), (some (22, false)), .load false 1 (.tf 27)⟩,
⟨(some 29), (some (22, false)), .bin .gtr .no (.t 25) (.t 28)⟩,
⟨some 30,none,.pick (.t 22) (.c (.bool true)) (.t 29)⟩,
⟨some 31,none,.mv (.t 30)⟩,
⟨(some 32), (some (31, false)), .fldA 1 (.tf 3)⟩,
⟨(some 33), (some (31, false)), .fldA 1 (.tf 32)⟩,
⟨(some 34), (some (31, false)), .load false 1 (.tf 33)⟩,
⟨(some 35), (some (31, false)), .bin .gtr .no (.t 34) (.c (.int .i64 100000))⟩,
⟨some 36,none,.pick (.t 31) (.c (.bool true)) (.t 35)⟩,
⟨some 37,none,.mv (.t 36)⟩,
⟨(some 38), (some (37, false)), .fldA 3 (.tf 3)⟩,
⟨(some 39), (some (37, false)), .load false 1 (.tf 38)⟩,
⟨(some 40), (some (37, false)), .bin .lss .no (.t 39) (.c (.int .i64 0))⟩,
⟨some 41,none,.pick (.t 37) (.c (.bool true)) (.t 40)⟩,
⟨some 42,none,.mv (.t 41)⟩,
⟨(some 43), (some (42, false)), .fldA 3 (.tf 3)⟩,
⟨(some 44), (some (42, false)), .load false 1 (.tf 43)⟩,
⟨(some 45), (some (42, false)), .fldA 5 (.tf 2)⟩,
⟨(some 46), (some (42, false)), .load false 1 (.tf 45)⟩,
⟨(some 47), (some (42, false)), .len false (.t 46)⟩,
⟨(some 48), (some (42, false)), .bin .shl .no (.c (.int .i64 1)) (.t 47)⟩,
⟨(some 49), (some (42, false)), .bin .geq .no (.t 44) (.t 48)⟩,
⟨some 50,none,.pick (.t 42) (.c (.bool true)) (.t 49)⟩]
@[go_sem] def j5e : List XO := [
⟨some 4,none,.mv (.c (.int .i64 11))⟩]
@[go_sem] def j5f : List XO := [
⟨some 4,none,.mv (.c (.int .i64 0))⟩]
def x_drive_checkStop : XFunc := { np := 2, res := [.t 4], body :=
  (.seq (.reg j49) (.seq (.seq (.reg j5a) (.seq (.reg j5b) (.cond (.t 9) (.seq (.reg j5c) .ret) .skip))) (.seq (.seq (.reg j5d) (.cond (.t 50) (.seq (.reg j5e) .ret) .skip)) (.seq (.reg j5f) .ret)))) }
@[go_sem] def j5n : List XO := [
⟨some 3,none,.boxF (.t 0)⟩,
⟨some 4,none,.boxF (.t 1)⟩,
⟨some 6,none,.alloc [(.int .i64 0), (.slice none 0 0), (.bool false)]⟩]
@[go_sem] def j5o : List XO := [
⟨some 9,none,.load true 6 (.tf 3)⟩,
⟨some 10,none,.load true 4 (.tf 4)⟩,
⟨some 11,none,.fldA 0 (.tf 4)⟩,
⟨some 12,none,.load false 1 (.tf 11)⟩,
⟨some 13,none,.build [(.bool false), (.int .i64 0), (.int .i64 0), (.int .i64 0), (.int .i64 0), (.slice none 0 0), (.int .i64 0), (.int .i64 0), (.int .i64 0), (.int .i64 0), (.int .i64 0), (.int .i64 0)] [(0, 6, (.t 9)), (6, 4, (.t 10)), (10, 1, (.t 12))]⟩,
⟨some 7,none,.alloc [(.bool false), (.int .i64 0), (.int .i64 0), (.int .i64 0), (.int .i64 0), (.slice none 0 0), (.int .i64 0), (.int .i64 0), (.int .i64 0), (.int .i64 0), (.int .i64 0), (.int .i64 0)]⟩,
⟨none, none, .store 12 (.t 7) (.t 13)⟩]
@[go_sem] def j5p : List XO := [
⟨some 14,none,.fldA 0 (.tf 4)⟩,
⟨some 15,none,.load false 1 (.tf 14)⟩,
⟨some 16,none,.bin .eql .no (.t 15) (.c (.int .i64 0))⟩,
⟨some 17,none,.build [(.int .i64 0), (.slice none 0 0), (.bool false)] [(2, 1, (.t 16))]⟩,
⟨some 8,none,.alloc [(.int .i64 0), (.slice none 0 0), (.bool false)]⟩,
⟨none, none, .store 3 (.t 8) (.t 17)⟩]
@[go_sem] def j5q : List XO := [
⟨some 18,none,.fldA 2 (.t 8)⟩,
⟨some 19,none,.load false 1 (.t 18)⟩,
⟨some 20,none,.un .not (.t 19)⟩,
⟨some 21,none,.mv (.t 20)⟩,
⟨(some 22), (some (21, true)), .fldA 11 (.t 7)⟩,
⟨(some 23), (some (21, true)), .load false 1 (.t 22)⟩,
⟨(some 24), (some (21, true)), .bin .lss .no (.t 23) (.c (.int .i64 100))⟩,
⟨some 25,none,.pick (.t 21) (.t 24) (.c (.bool false))⟩]
@[go_sem] def j5r : List XO := [
⟨some 26,none,.fldA 1 (.t 8)⟩,
⟨some 27,none,.load false 1 (.t 26)⟩,
⟨some 28,none,.mv (.t 2)⟩,
⟨some 29,none,.callw "(*newel/drive.motion).extreme" [.t 7, .t 28]⟩,
⟨some 30,none,.bsl 1 [.t 29]⟩,
⟨some 31,none,.app 1 8 (.t 27) (.t 30)⟩,
⟨some 32,none,.fldA 1 (.t 8)⟩,
⟨none, none, .store 1 (.t 32) (.t 31)⟩]
@[go_sem] def j5s : List XO := [
⟨some 33,none,.fldA 0 (.t 8)⟩,
⟨some 34,none,.load false 1 (.t 33)⟩,
⟨some 35,none,.fldA 10 (.t 7)⟩,
⟨some 36,none,.load false 1 (.t 35)⟩,
⟨some 37,none,.bin .add .no (.t 34) (.t 36)⟩,
⟨some 38,none,.fldA 0 (.t 8)⟩,
⟨none, none, .store 1 (.t 38) (.t 37)⟩]
@[go_sem] def j5t : List XO := [
⟨some 39,none,.fldA 10 (.t 7)⟩,
⟨some 40,none,.load false 1 (.t 39)⟩,
⟨some 41,none,.bin .eql .no (.t 40) (.c (.int .i64 0))⟩,
⟨some 42,none,.fldA 2 (.t 8)⟩,
⟨none, none, .store 1 (.t 42) (.t 41)⟩]
def j5v : XCode :=
  (.seq (.seq (.reg j5q) (.cond (.t 25) .skip (.exit 0))) (.block 1 (.seq (.regW j5r) (.seq (.reg j5s) (.reg j5t)))))
@[go_sem] def j5u : List XO := [
⟨some 43,none,.load true 3 (.t 8)⟩,
⟨none, none, .store 3 (.t 6) (.t 43)⟩]
def x_drive_run : XFunc := { np := 3, res := [.cell 6 true 3], body :=
  (.seq (.reg j5n) (.seq (.reg j5o) (.seq (.reg j5p) (.seq (.block 0 (.loop j5v)) (.seq (.reg j5u) .ret))))) }
@[go_sem] def j2q : List XO := [
⟨some 1,none,.boxF (.t 0)⟩,
⟨some 2,none,.mv (.c (.slice none 0 0))⟩,
⟨some 3,none,.mv (.c (.int .i64 0))⟩]
@[go_sem] def j2r : List XO := [
⟨some 7,none,.load true 3 (.tf 1)⟩,
⟨some 8,none,.call "newel/circuit.Check" [.t 7]⟩,
⟨some 4,none,.mv (.t 8)⟩]
@[go_sem] def j2u : List XO := [
⟨some 9,none,.mv (.t 4)⟩,
⟨some 10,none,.bin .neq .no (.t 9) (.c (.int .i64 0))⟩]
@[go_sem] def j2v : List XO := [
⟨some 11,none,.mv (.t 4)⟩,
⟨some 2,none,.mv (.c (.slice none 0 0))⟩,
⟨some 3,none,.mv (.t 11)⟩]
@[go_sem] def j2w : List XO := [
⟨some 5,none,.mv (.c (.slice none 0 0))⟩]
@[go_sem] def j2x : List XO := [
⟨some 12,none,.fldA 1 (.tf 1)⟩,
⟨some 13,none,.load false 1 (.tf 12)⟩,
⟨some 14,none,.len false (.t 13)⟩,
⟨some 15,none,.mv (.c (.int .i64 0))⟩]
@[go_sem] def j2y : List XO := [
⟨some 16,none,.bin .lss .no (.t 15) (.t 14)⟩]
@[go_sem] def j2z : List XO := [
⟨some 17,none,.mv (.t 15)⟩,
⟨some 6,none,.mv (.t 17)⟩]
@[go_sem] def j20 : List XO := [
⟨some 18,none,.load true 3 (.tf 1)⟩,
⟨some 19,none,.mv (.t 6)⟩,
⟨some 20,none,.bin .shl .no (.c (.int .i64 1)) (.t 19)⟩,
⟨some 21,none,.call "newel/circuit.weak" [.t 18, .t 20]⟩,
⟨some 22,none,.len false (.t 21)⟩,
⟨some 23,none,.bin .gtr .no (.t 22) (.c (.int .i64 0))⟩]
@[go_sem] def j21 : List XO := [
⟨some 24,none,.mv (.t 5)⟩,
⟨some 25,none,.mv (.t 6)⟩,
⟨some 26,none,.bsl 1 [.t 25]⟩,
⟨some 27,none,.app 1 8 (.t 24) (.t 26)⟩,
⟨some 5,none,.mv (.t 27)⟩]
@[go_sem] def j2s : List XO := [
⟨some 28,none,.bin .add .no (.t 15) (.c (.int .i64 1))⟩,
⟨some 15,none,.mv (.t 28)⟩]
def j22 : XCode :=
  (.seq (.reg j2y) (.seq (.cond (.t 16) .skip (.exit 0)) (.seq (.block 1 (.seq (.reg j2z) (.seq (.reg j20) (.cond (.t 23) (.reg j21) .skip)))) (.reg j2s))))
@[go_sem] def j2t : List XO := [
⟨some 29,none,.mv (.t 5)⟩,
⟨some 2,none,.mv (.t 29)⟩,
⟨some 3,none,.mv (.c (.int .i64 0))⟩]
def x_circuit_Critical : XFunc := { np := 1, res := [.t 2, .t 3], body :=
  (.seq (.reg j2q) (.seq (.seq (.reg j2r) (.seq (.reg j2u) (.cond (.t 10) (.seq (.reg j2v) .ret) .skip))) (.seq (.reg j2w) (.seq (.seq (.reg j2x) (.block 0 (.loop j22))) (.seq (.reg j2t) .ret))))) }
@[go_sem] def l3t : List XO := [
⟨some 4,none,.mv (.c (.bool false))⟩]
@[go_sem] def l3u : List XO := [
⟨some 5,none,.mv (.t 0)⟩,
⟨some 6,none,.mv (.t 1)⟩,
⟨some 7,none,.call "slices.Index[[]int,int]" [.t 5, .t 6]⟩,
⟨some 8,none,.bin .geq .no (.t 7) (.c (.int .i64 0))⟩,
⟨some 4,none,.mv (.t 8)⟩]
def x_slices_Contains___int_int_ : XFunc := { np := 2, res := [.t 4], body :=
  (.seq (.reg l3t) (.seq (.reg l3u) .ret)) }
@[go_sem] def j3w : List XO := [
⟨some 2,none,.boxF (.t 0)⟩,
⟨some 4,none,.mv (.c (.slice none 0 0))⟩]
@[go_sem] def j3x : List XO := [
⟨some 6,none,.fldA 0 (.tf 2)⟩,
⟨some 7,none,.load false 1 (.tf 6)⟩,
⟨some 8,none,.mv (.c (.int .i64 0))⟩]
@[go_sem] def j3y : List XO := [
⟨some 9,none,.bin .lss .no (.t 8) (.t 7)⟩]
@[go_sem] def j3z : List XO := [
⟨some 10,none,.mv (.t 8)⟩,
⟨some 5,none,.mv (.t 10)⟩]
@[go_sem] def j30 : List XO := [
⟨some 11,none,.load true 3 (.tf 2)⟩,
⟨some 12,none,.mv (.t 5)⟩,
⟨some 13,none,.bin .shl .no (.c (.int .i64 1)) (.t 12)⟩,
⟨some 14,none,.mv (.t 1)⟩,
⟨some 15,none,.build [(.int .i64 0), (.slice none 0 0), (.slice none 0 0), (.int .i64 0), (.int .i64 0), (.int .i64 0)] [(0, 3, (.t 11)), (3, 1, (.t 13)), (4, 1, (.t 14))]⟩,
⟨some 16,none,.call "(newel/circuit.state).wire" [.t 15, (.c (.int .i64 0))]⟩]
@[go_sem] def j31 : List XO := [
⟨some 17,none,.mv (.t 4)⟩,
⟨some 18,none,.mv (.t 5)⟩,
⟨some 19,none,.bsl 1 [.t 18]⟩,
⟨some 20,none,.app 1 8 (.t 17) (.t 19)⟩,
⟨some 4,none,.mv (.t 20)⟩]
@[go_sem] def j32 : List XO := [
⟨some 21,none,.bin .add .no (.t 8) (.c (.int .i64 1))⟩,
⟨some 8,none,.mv (.t 21)⟩]
def j34 : XCode :=
  (.seq (.reg j3y) (.seq (.cond (.t 9) .skip (.exit 0)) (.seq (.block 1 (.seq (.reg j3z) (.seq (.reg j30) (.cond (.t 16) (.reg j31) .skip)))) (.reg j32))))
@[go_sem] def j33 : List XO := [
⟨some 22,none,.mv (.t 4)⟩,
⟨some 4,none,.mv (.t 22)⟩]
def x_circuit_weak : XFunc := { np := 2, res := [.t 4], body :=
  (.seq (.reg j3w) (.seq (.seq (.reg j3x) (.block 0 (.loop j34))) (.seq (.reg j33) .ret))) }
@[go_sem] def j55 : List XO := [
⟨some 1,none,.boxF (.t 0)⟩,
⟨some 2,none,.mv (.c (.int .i64 0))⟩]
@[go_sem] def j56 : List XO := [
⟨some 6,none,.fldA 1 (.tf 1)⟩,
⟨some 7,none,.load false 1 (.tf 6)⟩,
⟨some 8,none,.call "newel/energy.from0" [.t 7, (.c (.int .i64 100))]⟩,
⟨some 9,none,.un .not (.t 8)⟩,
⟨some 10,none,.mv (.t 9)⟩,
⟨(some 11), (some (10, false)), .fldA 2 (.tf 1)⟩,
⟨(some 12), (some (10, false)), .load false 1 (.tf 11)⟩,
⟨(some 13), (some (10, false)), .call "newel/energy.from0" [.t 12, (.c (.int .i64 1000000))]⟩,
⟨(some 14), (some (10, false)), .un .not (.t 13)⟩,
⟨some 15,none,.pick (.t 10) (.c (.bool true)) (.t 14)⟩,
⟨some 16,none,.mv (.t 15)⟩,
⟨(some 17), (some (16, false)), .fldA 3 (.tf 1)⟩,
⟨(some 18), (some (16, false)), .load false 1 (.tf 17)⟩,
⟨(some 19), (some (16, false)), .call "newel/energy.from0" [.t 18, (.c (.int .i64 100))]⟩,
⟨(some 20), (some (16, false)), .un .not (.t 19)⟩,
⟨some 21,none,.pick (.t 16) (.c (.bool true)) (.t 20)⟩,
⟨some 22,none,.mv (.t 21)⟩,
⟨(some 23), (some (22, false)), .fldA 4 (.tf 1)⟩,
⟨(some 24), (some (22, false)), .load false 1 (.tf 23)⟩,
⟨(some 25), (some (22, false)), .bin .lss .no (.t 24) (.c (.int .i64 1))⟩,
⟨some 26,none,.pick (.t 22) (.c (.bool true)) (.t 25)⟩,
⟨some 27,none,.mv (.t 26)⟩,
⟨(some 28), (some (27, false)), .fldA 4 (.tf 1)⟩,
⟨(some 29), (some (27, false)), .load false 1 (.tf 28)⟩,
⟨(some 30), (some (27, false)), .bin .gtr .no (.t 29) (.c (.int .i64 1000))⟩,
⟨some 31,none,.pick (.t 27) (.c (.bool true)) (.t 30)⟩,
⟨some 32,none,.mv (.t 31)⟩,
⟨(some 33), (some (32, false)), .fldA 5 (.tf 1)⟩,
⟨(some 34), (some (32, false)), .load false 1 (.tf 33)⟩,
⟨(some 35), (some (32, false)), .call "newel/energy.from0" [.t 34, (.c (.int .i64 100000000))]⟩,
⟨(some 36), (some (32, false)), .un .not (.t 35)⟩,
⟨some 37,none,.pick (.t 32) (.c (.bool true)) (.t 36)⟩]
@[go_sem] def j6b : List XO := [
⟨some 2,none,.mv (.c (.int .i64 110))⟩]
@[go_sem] def j6c : List XO := [
⟨some 38,none,.fldA 8 (.tf 1)⟩,
⟨some 39,none,.load false 1 (.tf 38)⟩,
⟨some 40,none,.bin .lss .no (.t 39) (.c (.int .i64 1))⟩,
⟨some 41,none,.mv (.t 40)⟩,
⟨(some 42), (some (41, false)), .fldA 8 (.tf 1)⟩,
⟨(some 43), (some (41, false)), .load false 1 (.tf 42)⟩,
⟨(some 44), (some (41, false)), .bin .gtr .no (.t 43) (.c (.int .i64 100))⟩,
⟨some 45,none,.pick (.t 41) (.c (.bool true)) (.t 44)⟩,
⟨some 46,none,.mv (.t 45)⟩,
⟨(some 47), (some (46, false)), .fldA 7 (.tf 1)⟩,
⟨(some 48), (some (46, false)), .load false 1 (.tf 47)⟩,
⟨(some 49), (some (46, false)), .fldA 8 (.tf 1)⟩,
⟨(some 50), (some (46, false)), .load false 1 (.tf 49)⟩,
⟨(some 51), (some (46, false)), .call "newel/energy.from0" [.t 48, .t 50]⟩,
⟨(some 52), (some (46, false)), .un .not (.t 51)⟩,
⟨some 53,none,.pick (.t 46) (.c (.bool true)) (.t 52)⟩,
⟨some 54,none,.mv (.t 53)⟩,
⟨(some 55), (some (54, false)), .fldA 6 (.tf 1)⟩,
⟨(some 56), (some (54, false)), .load false 1 (.tf 55)⟩,
⟨(some 57), (some (54, false)), .len false (.t 56)⟩,
⟨(some 58), (some (54, false)), .bin .lss .no (.t 57) (.c (.int .i64 1))⟩,
⟨some 59,none,.pick (.t 54) (.c (.bool true)) (.t 58)⟩,
⟨some 60,none,.mv (.t 59)⟩,
⟨(some 61), (some (60, false)), .fldA 6 (.tf 1)⟩,
⟨(some 62), (some (60, false)), .load false 1 (.tf 61)⟩,
⟨(some 63), (some (60, false)), .len false (.t 62)⟩,
⟨(some 64), (some (60, false)), .bin .gtr .no (.t 63) (.c (.int .i64 3))⟩,
⟨some 65,none,.pick (.t 60) (.c (.bool true)) (.t 64)⟩]
@[go_sem] def j6d : List XO := [
⟨some 2,none,.mv (.c (.int .i64 110))⟩]
@[go_sem] def j6e : List XO := [
⟨some 3,none,.mv (.c (.int .i64 0))⟩]
@[go_sem] def j6f : List XO := [
⟨some 66,none,.fldA 6 (.tf 1)⟩,
⟨some 67,none,.load false 1 (.tf 66)⟩,
⟨some 68,none,.len false (.t 67)⟩,
⟨some 69,none,.mv (.c (.int .i64 0))⟩]
@[go_sem] def j6g : List XO := [
⟨some 70,none,.bin .lss .no (.t 69) (.t 68)⟩]
@[go_sem] def j6h : List XO := [
⟨some 71,none,.ixA 1 (.t 67) (.t 69)⟩,
⟨some 72,none,.load false 1 (.t 71)⟩,
⟨some 5,none,.mv (.t 72)⟩]
@[go_sem] def j6i : List XO := [
⟨some 73,none,.mv (.t 5)⟩,
⟨some 74,none,.mv (.t 3)⟩,
⟨some 75,none,.bin .leq .no (.t 73) (.t 74)⟩,
⟨some 76,none,.mv (.t 75)⟩,
⟨(some 77), (some (76, false)), .mv (.t 5)⟩,
⟨(some 78), (some (76, false)), .bin .gtr .no (.t 77) (.c (.int .i64 100))⟩,
⟨some 79,none,.pick (.t 76) (.c (.bool true)) (.t 78)⟩]
@[go_sem] def j57 : List XO := [
⟨some 2,none,.mv (.c (.int .i64 110))⟩]
@[go_sem] def j58 : List XO := [
⟨some 80,none,.mv (.t 5)⟩,
⟨some 3,none,.mv (.t 80)⟩]
@[go_sem] def j59 : List XO := [
⟨some 81,none,.bin .add .no (.t 69) (.c (.int .i64 1))⟩,
⟨some 69,none,.mv (.t 81)⟩]
def d1u : XCode :=
  (.seq (.reg j6g) (.seq (.cond (.t 70) .skip (.exit 0)) (.seq (.block 1 (.seq (.reg j6h) (.seq (.seq (.reg j6i) (.cond (.t 79) (.seq (.reg j57) .ret) .skip)) (.reg j58)))) (.reg j59))))
@[go_sem] def j6a : List XO := [
⟨some 2,none,.mv (.c (.int .i64 0))⟩]
def x_energy_Check : XFunc := { np := 1, res := [.t 2], body :=
  (.seq (.reg j55) (.seq (.seq (.reg j56) (.cond (.t 37) (.seq (.reg j6b) .ret) .skip)) (.seq (.seq (.reg j6c) (.cond (.t 65) (.seq (.reg j6d) .ret) .skip)) (.seq (.reg j6e) (.seq (.seq (.reg j6f) (.block 0 (.loop d1u))) (.seq (.reg j6a) .ret)))))) }
@[go_sem] def j7y : List XO := [
⟨some 4,none,.mv (.c (.bool false))⟩]
@[go_sem] def j7z : List XO := [
⟨some 5,none,.mv (.t 0)⟩,
⟨some 6,none,.bin .geq .no (.t 5) (.c (.int .i64 0))⟩,
⟨some 7,none,.mv (.t 6)⟩,
⟨(some 8), (some (7, true)), .mv (.t 0)⟩,
⟨(some 9), (some (7, true)), .mv (.t 1)⟩,
⟨(some 10), (some (7, true)), .bin .leq .no (.t 8) (.t 9)⟩,
⟨some 11,none,.pick (.t 7) (.t 10) (.c (.bool false))⟩,
⟨some 4,none,.mv (.t 11)⟩]
def x_energy_from0 : XFunc := { np := 2, res := [.t 4], body :=
  (.seq (.reg j7y) (.seq (.reg j7z) .ret)) }
@[go_sem] def j70 : List XO := [
⟨some 3,none,.boxF (.t 0)⟩,
⟨some 6,none,.mv (.c (.int .i64 0))⟩]
@[go_sem] def j71 : List XO := [
⟨some 7,none,.mv (.t 1)⟩,
⟨some 8,none,.fldA 4 (.tf 3)⟩,
⟨some 9,none,.load false 1 (.tf 8)⟩,
⟨some 10,none,.bin .mul .no (.t 7) (.t 9)⟩,
⟨some 11,none,.mv (.t 2)⟩,
⟨some 12,none,.bin .add .no (.t 10) (.t 11)⟩,
⟨some 13,none,.bin .sub .no (.t 12) (.c (.int .i64 1))⟩,
⟨some 14,none,.mv (.t 2)⟩,
⟨some 15,none,.bin .quo .no (.t 13) (.t 14)⟩,
⟨some 16,none,.fldA 3 (.tf 3)⟩,
⟨some 17,none,.load false 1 (.tf 16)⟩,
⟨some 18,none,.bin .mul .no (.t 15) (.t 17)⟩,
⟨some 6,none,.mv (.t 18)⟩]
def x_energy_load : XFunc := { np := 3, res := [.t 6], body :=
  (.seq (.reg j70) (.seq (.reg j71) .ret)) }
@[go_sem] def j9q : List XO := [
⟨some 6,none,.mv (.c (.bool false))⟩]
@[go_sem] def j9r : List XO := [
⟨some 7,none,.mv (.t 0)⟩,
⟨some 8,none,.mv (.t 1)⟩,
⟨some 9,none,.bin .geq .no (.t 7) (.t 8)⟩,
⟨some 10,none,.mv (.t 9)⟩,
⟨(some 11), (some (10, true)), .mv (.t 0)⟩,
⟨(some 12), (some (10, true)), .mv (.t 2)⟩,
⟨(some 13), (some (10, true)), .bin .leq .no (.t 11) (.t 12)⟩,
⟨some 14,none,.pick (.t 10) (.t 13) (.c (.bool false))⟩,
⟨some 6,none,.mv (.t 14)⟩]
def x_faults_within : XFunc := { np := 3, res := [.t 6], body :=
  (.seq (.reg j9q) (.seq (.reg j9r) .ret)) }
@[go_sem] def j99 : List XO := [
⟨some 2,none,.mv (.c (.int .i64 0))⟩]
@[go_sem] def l0a : List XO := [
⟨some 3,none,.mv (.t 0)⟩,
⟨some 4,none,.cvtI .u32 (.t 3)⟩,
⟨some 5,none,.call "math/bits.OnesCount32" [.t 4]⟩,
⟨some 2,none,.mv (.t 5)⟩]
@[go_sem] def l0b : List XO := [
⟨some 6,none,.mv (.t 0)⟩,
⟨some 7,none,.call "math/bits.OnesCount64" [.t 6]⟩,
⟨some 2,none,.mv (.t 7)⟩]
def x_math_bits_OnesCount : XFunc := { np := 1, res := [.t 2], body :=
  (.seq (.reg j99) (.seq (.cond (.c (.bool false)) (.seq (.reg l0a) .ret) .skip) (.seq (.reg l0b) .ret))) }
@[go_sem] def l3b : List XO := [
⟨some 4,none,.mv (.c (.int .i64 0))⟩]
@[go_sem] def l3c : List XO := [
⟨some 9,none,.mv (.t 0)⟩,
⟨some 10,none,.len false (.t 9)⟩,
⟨some 11,none,.mv (.c (.int .i64 0))⟩]
@[go_sem] def l3h : List XO := [
⟨some 12,none,.bin .lss .no (.t 11) (.t 10)⟩]
@[go_sem] def l3i : List XO := [
⟨some 13,none,.mv (.t 11)⟩,
⟨some 14,none,.ixA 1 (.t 9) (.t 11)⟩,
⟨some 15,none,.load false 1 (.t 14)⟩,
⟨some 5,none,.mv (.t 13)⟩,
⟨some 6,none,.mv (.t 15)⟩]
@[go_sem] def l3j : List XO := [
⟨some 16,none,.mv (.t 5)⟩,
⟨some 17,none,.mv (.t 1)⟩,
⟨some 18,none,.len false (.t 17)⟩,
⟨some 19,none,.bin .geq .no (.t 16) (.t 18)⟩]
@[go_sem] def l3k : List XO := [
⟨some 4,none,.mv (.c (.int .i64 1))⟩]
@[go_sem] def l3l : List XO := [
⟨some 20,none,.mv (.t 1)⟩,
⟨some 21,none,.mv (.t 5)⟩,
⟨some 22,none,.ixA 1 (.t 20) (.t 21)⟩,
⟨some 23,none,.load false 1 (.t 22)⟩,
⟨some 7,none,.mv (.t 23)⟩]
@[go_sem] def l3m : List XO := [
⟨some 24,none,.mv (.t 6)⟩,
⟨some 25,none,.mv (.t 7)⟩,
⟨some 26,none,.call "cmp.Compare[int]" [.t 24, .t 25]⟩,
⟨some 8,none,.mv (.t 26)⟩]
@[go_sem] def l3n : List XO := [
⟨some 27,none,.mv (.t 8)⟩,
⟨some 28,none,.bin .neq .no (.t 27) (.c (.int .i64 0))⟩]
@[go_sem] def l3o : List XO := [
⟨some 29,none,.mv (.t 8)⟩,
⟨some 4,none,.mv (.t 29)⟩]
@[go_sem] def l3d : List XO := [
⟨some 30,none,.bin .add .no (.t 11) (.c (.int .i64 1))⟩,
⟨some 11,none,.mv (.t 30)⟩]
def d18 : XCode :=
  (.seq (.reg l3h) (.seq (.cond (.t 12) .skip (.exit 0)) (.seq (.block 1 (.seq (.reg l3i) (.seq (.seq (.reg l3j) (.cond (.t 19) (.seq (.reg l3k) .ret) .skip)) (.seq (.reg l3l) (.seq (.reg l3m) (.seq (.reg l3n) (.cond (.t 28) (.seq (.reg l3o) .ret) .skip))))))) (.reg l3d))))
@[go_sem] def l3e : List XO := [
⟨some 31,none,.mv (.t 0)⟩,
⟨some 32,none,.len false (.t 31)⟩,
⟨some 33,none,.mv (.t 1)⟩,
⟨some 34,none,.len false (.t 33)⟩,
⟨some 35,none,.bin .lss .no (.t 32) (.t 34)⟩]
@[go_sem] def l3f : List XO := [
⟨some 4,none,.mv (.c (.int .i64 (-1)))⟩]
@[go_sem] def l3g : List XO := [
⟨some 4,none,.mv (.c (.int .i64 0))⟩]
def x_slices_Compare___int_int_ : XFunc := { np := 2, res := [.t 4], body :=
  (.seq (.reg l3b) (.seq (.seq (.reg l3c) (.block 0 (.loop d18))) (.seq (.seq (.reg l3e) (.cond (.t 35) (.seq (.reg l3f) .ret) .skip)) (.seq (.reg l3g) .ret)))) }
@[go_sem] def l0g : List XO := [
⟨some 2,none,.mv (.c (.int .i64 0))⟩]
@[go_sem] def l0h : List XO := [
⟨some 3,none,.mv (.t 0)⟩,
⟨some 4,none,.cvtI .u32 (.t 3)⟩,
⟨some 5,none,.call "math/bits.TrailingZeros32" [.t 4]⟩,
⟨some 2,none,.mv (.t 5)⟩]
@[go_sem] def l0i : List XO := [
⟨some 6,none,.mv (.t 0)⟩,
⟨some 7,none,.call "math/bits.TrailingZeros64" [.t 6]⟩,
⟨some 2,none,.mv (.t 7)⟩]
def x_math_bits_TrailingZeros : XFunc := { np := 1, res := [.t 2], body :=
  (.seq (.reg l0g) (.seq (.cond (.c (.bool false)) (.seq (.reg l0h) .ret) .skip) (.seq (.reg l0i) .ret))) }
@[go_sem] def j64 : List XO := [
⟨some 2,none,.boxF (.t 0)⟩,
⟨some 3,none,.boxF (.t 1)⟩,
⟨some 4,none,.mv (.c (.int .i64 0))⟩]
@[go_sem] def j65 : List XO := [
⟨some 8,none,.load true 9 (.tf 2)⟩,
⟨some 9,none,.call "newel/energy.Check" [.t 8]⟩,
⟨some 5,none,.mv (.t 9)⟩]
@[go_sem] def j69 : List XO := [
⟨some 10,none,.mv (.t 5)⟩,
⟨some 11,none,.bin .neq .no (.t 10) (.c (.int .i64 0))⟩]
@[go_sem] def j7a : List XO := [
⟨some 12,none,.mv (.t 5)⟩,
⟨some 4,none,.mv (.t 12)⟩]
@[go_sem] def j7b : List XO := [
⟨some 13,none,.fldA 0 (.tf 3)⟩,
⟨some 14,none,.load false 1 (.tf 13)⟩,
⟨some 15,none,.len false (.t 14)⟩,
⟨some 16,none,.bin .lss .no (.t 15) (.c (.int .i64 1))⟩,
⟨some 17,none,.mv (.t 16)⟩,
⟨(some 18), (some (17, false)), .fldA 0 (.tf 3)⟩,
⟨(some 19), (some (17, false)), .load false 1 (.tf 18)⟩,
⟨(some 20), (some (17, false)), .len false (.t 19)⟩,
⟨(some 21), (some (17, false)), .bin .gtr .no (.t 20) (.c (.int .i64 8))⟩,
⟨some 22,none,.pick (.t 17) (.c (.bool true)) (.t 21)⟩,
⟨some 23,none,.mv (.t 22)⟩,
⟨(some 24), (some (23, false)), .fldA 1 (.tf 3)⟩,
⟨(some 25), (some (23, false)), .load false 1 (.tf 24)⟩,
⟨(some 26), (some (23, false)), .call "newel/energy.from0" [.t 25, (.c (.int .i64 1000))]⟩,
⟨(some 27), (some (23, false)), .un .not (.t 26)⟩,
⟨some 28,none,.pick (.t 23) (.c (.bool true)) (.t 27)⟩]
@[go_sem] def j7c : List XO := [
⟨some 4,none,.mv (.c (.int .i64 111))⟩]
@[go_sem] def j7d : List XO := [
⟨some 29,none,.fldA 0 (.tf 3)⟩,
⟨some 30,none,.load false 1 (.tf 29)⟩,
⟨some 31,none,.len false (.t 30)⟩,
⟨some 32,none,.mv (.c (.int .i64 0))⟩]
@[go_sem] def j7e : List XO := [
⟨some 33,none,.bin .lss .no (.t 32) (.t 31)⟩]
@[go_sem] def j7f : List XO := [
⟨some 34,none,.ixA 4 (.t 30) (.t 32)⟩,
⟨some 35,none,.load true 4 (.t 34)⟩,
⟨some 7,none,.alloc [(.int .i64 0), (.int .i64 0), (.int .i64 0), (.int .i64 0)]⟩,
⟨none, none, .store 4 (.t 7) (.t 35)⟩]
@[go_sem] def j7g : List XO := [
⟨some 36,none,.fldA 0 (.t 7)⟩,
⟨some 37,none,.load false 1 (.t 36)⟩,
⟨some 38,none,.bin .lss .no (.t 37) (.c (.int .i64 1))⟩,
⟨some 39,none,.mv (.t 38)⟩,
⟨(some 40), (some (39, false)), .fldA 0 (.t 7)⟩,
⟨(some 41), (some (39, false)), .load false 1 (.t 40)⟩,
⟨(some 42), (some (39, false)), .bin .gtr .no (.t 41) (.c (.int .i64 1000))⟩,
⟨some 43,none,.pick (.t 39) (.c (.bool true)) (.t 42)⟩,
⟨some 44,none,.mv (.t 43)⟩,
⟨(some 45), (some (44, false)), .fldA 1 (.t 7)⟩,
⟨(some 46), (some (44, false)), .load false 1 (.t 45)⟩,
⟨(some 47), (some (44, false)), .call "newel/energy.from0" [.t 46, (.c (.int .i64 100))]⟩,
⟨(some 48), (some (44, false)), .un .not (.t 47)⟩,
⟨some 49,none,.pick (.t 44) (.c (.bool true)) (.t 48)⟩,
⟨some 50,none,.mv (.t 49)⟩,
⟨(some 51), (some (50, false)), .fldA 2 (.t 7)⟩,
⟨(some 52), (some (50, false)), .fldA 0 (.t 51)⟩,
⟨(some 53), (some (50, false)), .load false 1 (.t 52)⟩,
⟨(some 54), (some (50, false)), .fldA 2 (.t 7)⟩,
⟨(some 55), (some (50, false)), .fldA 1 (.t 54)⟩,
⟨(some 56), (some (50, false)), .load false 1 (.t 55)⟩,
⟨(some 57), (some (50, false)), .call "newel/energy.from0" [.t 53, .t 56]⟩,
⟨(some 58), (some (50, false)), .un .not (.t 57)⟩,
⟨some 59,none,.pick (.t 50) (.c (.bool true)) (.t 58)⟩,
⟨some 60,none,.mv (.t 59)⟩,
⟨(some 61), (some (60, false)), .fldA 2 (.t 7)⟩,
⟨(some 62), (some (60, false)), .fldA 1 (.t 61)⟩,
⟨(some 63), (some (60, false)), .load false 1 (.t 62)⟩,
⟨(some 64), (some (60, false)), .bin .gtr .no (.t 63) (.c (.int .i64 100))⟩,
⟨some 65,none,.pick (.t 60) (.c (.bool true)) (.t 64)⟩]
@[go_sem] def j66 : List XO := [
⟨some 4,none,.mv (.c (.int .i64 111))⟩]
@[go_sem] def j67 : List XO := [
⟨some 66,none,.bin .add .no (.t 32) (.c (.int .i64 1))⟩,
⟨some 32,none,.mv (.t 66)⟩]
def d1v : XCode :=
  (.seq (.reg j7e) (.seq (.cond (.t 33) .skip (.exit 0)) (.seq (.block 1 (.seq (.reg j7f) (.seq (.reg j7g) (.cond (.t 65) (.seq (.reg j66) .ret) .skip)))) (.reg j67))))
@[go_sem] def j68 : List XO := [
⟨some 4,none,.mv (.c (.int .i64 0))⟩]
def x_energy_checkTimes : XFunc := { np := 2, res := [.t 4], body :=
  (.seq (.reg j64) (.seq (.seq (.reg j65) (.seq (.reg j69) (.cond (.t 11) (.seq (.reg j7a) .ret) .skip))) (.seq (.seq (.reg j7b) (.cond (.t 28) (.seq (.reg j7c) .ret) .skip)) (.seq (.seq (.reg j7d) (.block 0 (.loop d1v))) (.seq (.reg j68) .ret))))) }
@[go_sem] def l3p : List XO := [
⟨some 4,none,.mv (.c (.bool false))⟩]
@[go_sem] def l3q : List XO := [
⟨some 5,none,.mv (.t 0)⟩,
⟨some 6,none,.mv (.t 1)⟩,
⟨some 7,none,.call "slices.IndexFunc[[]int,int]" [.t 5, .t 6]⟩,
⟨some 8,none,.bin .geq .no (.t 7) (.c (.int .i64 0))⟩,
⟨some 4,none,.mv (.t 8)⟩]
def x_slices_ContainsFunc___int_int_ : XFunc := { np := 2, res := [.t 4], body :=
  (.seq (.reg l3p) (.seq (.reg l3q) .ret)) }
@[go_sem] def j6v : List XO := [
⟨some 3,none,.mv (.c (.bool false))⟩]
@[go_sem] def j6w : List XO := [
⟨some 4,none,.fldA 6 (.t 1)⟩,
⟨some 5,none,.load false 1 (.t 4)⟩,
⟨some 6,none,.mv (.t 0)⟩,
⟨some 7,none,.call "slices.Contains[[]int,int]" [.t 5, .t 6]⟩,
⟨some 8,none,.un .not (.t 7)⟩,
⟨some 3,none,.mv (.t 8)⟩]
def x_energy_checkPlanD1 : XFunc := { np := 2, res := [.t 3], body :=
  (.seq (.reg j6v) (.seq (.reg j6w) .ret)) }
@[go_sem] def j4n : List XO := [
⟨some 1,none,.boxF (.t 0)⟩,
⟨some 2,none,.mv (.c (.int .i64 0))⟩]
@[go_sem] def j4o : List XO := [
⟨some 3,none,.mv (.f "newel/drive.Check$1")⟩]
@[go_sem] def j4q : List XO := [
⟨some 6,none,.fldA 1 (.tf 1)⟩,
⟨some 7,none,.load false 1 (.tf 6)⟩,
⟨some 8,none,.bin .lss .no (.t 7) (.c (.int .i64 1))⟩,
⟨some 9,none,.mv (.t 8)⟩,
⟨(some 10), (some (9, false)), .fldA 1 (.tf 1)⟩,
⟨(some 11), (some (9, false)), .load false 1 (.tf 10)⟩,
⟨(some 12), (some (9, false)), .bin .gtr .no (.t 11) (.c (.int .i64 100000))⟩,
⟨some 13,none,.pick (.t 9) (.c (.bool true)) (.t 12)⟩,
⟨some 14,none,.mv (.t 13)⟩,
⟨(some 15), (some (14, false)), .fldA 2 (.tf 1)⟩,
⟨(some 16), (some (14, false)), .load false 1 (.tf 15)⟩,
⟨(some 17), (some (14, false)), .call "newel/drive.to" [(.c (.int .i64 100))]⟩,
⟨(some 18), (some (14, false)), .call "newel/drive.in" [.t 16, .t 17]⟩,
⟨(some 19), (some (14, false)), .un .not (.t 18)⟩,
⟨some 20,none,.pick (.t 14) (.c (.bool true)) (.t 19)⟩,
⟨some 21,none,.mv (.t 20)⟩,
⟨(some 22), (some (21, false)), .fldA 3 (.tf 1)⟩,
⟨(some 23), (some (21, false)), .load false 1 (.tf 22)⟩,
⟨(some 24), (some (21, false)), .call "newel/drive.to" [(.c (.int .i64 10000000))]⟩,
⟨(some 25), (some (21, false)), .call "newel/drive.in" [.t 23, .t 24]⟩,
⟨(some 26), (some (21, false)), .un .not (.t 25)⟩,
⟨some 27,none,.pick (.t 21) (.c (.bool true)) (.t 26)⟩,
⟨some 28,none,.mv (.t 27)⟩,
⟨(some 29), (some (28, false)), .fldA 4 (.tf 1)⟩,
⟨(some 30), (some (28, false)), .load false 1 (.tf 29)⟩,
⟨(some 31), (some (28, false)), .call "newel/drive.to" [(.c (.int .i64 10000000))]⟩,
⟨(some 32), (some (28, false)), .call "newel/drive.in" [.t 30, .t 31]⟩,
⟨(some 33), (some (28, false)), .un .not (.t 32)⟩,
⟨some 34,none,.pick (.t 28) (.c (.bool true)) (.t 33)⟩,
⟨some 35,none,.mv (.t 34)⟩,
⟨(some 36), (some (35, false)), .fldA 5 (.tf 1)⟩,
⟨(some 37), (some (35, false)), .load false 1 (.tf 36)⟩,
⟨(some 38), (some (35, false)), .len false (.t 37)⟩,
⟨(some 39), (some (35, false)), .bin .gtr .no (.t 38) (.c (.int .i64 3))⟩,
⟨some 40,none,.pick (.t 35) (.c (.bool true)) (.t 39)⟩]
@[go_sem] def j4r : List XO := [
⟨some 2,none,.mv (.c (.int .i64 10))⟩]
@[go_sem] def j4s : List XO := [
⟨some 41,none,.fldA 5 (.tf 1)⟩,
⟨some 42,none,.load false 1 (.tf 41)⟩,
⟨some 43,none,.len false (.t 42)⟩,
⟨some 44,none,.mv (.c (.int .i64 0))⟩]
@[go_sem] def j4t : List XO := [
⟨some 45,none,.bin .lss .no (.t 44) (.t 43)⟩]
@[go_sem] def j4u : List XO := [
⟨some 46,none,.ixA 2 (.t 42) (.t 44)⟩,
⟨some 47,none,.load true 2 (.t 46)⟩,
⟨some 5,none,.alloc [(.int .i64 0), (.int .i64 0)]⟩,
⟨none, none, .store 2 (.t 5) (.t 47)⟩]
@[go_sem] def j4v : List XO := [
⟨some 48,none,.mv (.t 3)⟩,
⟨some 49,none,.load true 2 (.t 5)⟩,
⟨some 50,none,.callv (.t 48) [.t 49]⟩,
⟨some 51,none,.un .not (.t 50)⟩]
@[go_sem] def j4w : List XO := [
⟨some 2,none,.mv (.c (.int .i64 10))⟩]
@[go_sem] def j4x : List XO := [
⟨some 52,none,.bin .add .no (.t 44) (.c (.int .i64 1))⟩,
⟨some 44,none,.mv (.t 52)⟩]
def j4y : XCode :=
  (.seq (.reg j4t) (.seq (.cond (.t 45) .skip (.exit 0)) (.seq (.block 1 (.seq (.reg j4u) (.seq (.reg j4v) (.cond (.t 51) (.seq (.reg j4w) .ret) .skip)))) (.reg j4x))))
@[go_sem] def j4p : List XO := [
⟨some 2,none,.mv (.c (.int .i64 0))⟩]
def x_drive_Check : XFunc := { np := 1, res := [.t 2], body :=
  (.seq (.reg j4n) (.seq (.reg j4o) (.seq (.seq (.reg j4q) (.cond (.t 40) (.seq (.reg j4r) .ret) .skip)) (.seq (.seq (.reg j4s) (.block 0 (.loop j4y))) (.seq (.reg j4p) .ret))))) }
@[go_sem] def j5l : List XO := [
⟨some 3,none,.boxF (.t 1)⟩,
⟨some 4,none,.mv (.c (.bool false))⟩]
@[go_sem] def j5m : List XO := [
⟨some 5,none,.fldA 0 (.tf 3)⟩,
⟨some 6,none,.load false 1 (.tf 5)⟩,
⟨some 7,none,.mv (.t 0)⟩,
⟨some 8,none,.bin .leq .no (.t 6) (.t 7)⟩,
⟨some 9,none,.mv (.t 8)⟩,
⟨(some 10), (some (9, true)), .mv (.t 0)⟩,
⟨(some 11), (some (9, true)), .fldA 1 (.tf 3)⟩,
⟨(some 12), (some (9, true)), .load false 1 (.tf 11)⟩,
⟨(some 13), (some (9, true)), .bin .leq .no (.t 10) (.t 12)⟩,
⟨some 14,none,.pick (.t 9) (.t 13) (.c (.bool false))⟩,
⟨some 4,none,.mv (.t 14)⟩]
def x_drive_in : XFunc := { np := 2, res := [.t 4], body :=
  (.seq (.reg j5l) (.seq (.reg j5m) .ret)) }
@[go_sem] def j53 : List XO := [
⟨some 2,none,.alloc [(.int .i64 0), (.int .i64 0)]⟩]
@[go_sem] def j54 : List XO := [
⟨some 3,none,.mv (.t 0)⟩,
⟨some 4,none,.build [(.int .i64 0), (.int .i64 0)] [(1, 1, (.t 3))]⟩,
⟨none, none, .store 2 (.t 2) (.t 4)⟩]
def x_drive_to : XFunc := { np := 1, res := [.cell 2 true 2], body :=
  (.seq (.reg j53) (.seq (.reg j54) .ret)) }
@[go_sem] def j0x : List XO := [
⟨some 4,none,.mv (.c (.int .i64 0))⟩]
@[go_sem] def j0y : List XO := [
⟨some 9,none,.mv (.t 0)⟩,
⟨some 10,none,.nilck (.t 9)⟩,
⟨some 11,none,.load true 12 (.t 10)⟩,
⟨some 12,none,.mv (.t 0)⟩,
⟨some 13,none,.nilck (.t 12)⟩,
⟨some 14,none,.load true 12 (.t 13)⟩,
⟨some 5,none,.alloc [(.bool false), (.int .i64 0), (.int .i64 0), (.int .i64 0), (.int .i64 0), (.slice none 0 0), (.int .i64 0), (.int .i64 0), (.int .i64 0), (.int .i64 0), (.int .i64 0), (.int .i64 0)]⟩,
⟨some 6,none,.alloc [(.bool false), (.int .i64 0), (.int .i64 0), (.int .i64 0), (.int .i64 0), (.slice none 0 0), (.int .i64 0), (.int .i64 0), (.int .i64 0), (.int .i64 0), (.int .i64 0), (.int .i64 0)]⟩,
⟨none, none, .store 12 (.t 5) (.t 11)⟩,
⟨none, none, .store 12 (.t 6) (.t 14)⟩]
@[go_sem] def j0z : List XO := [
⟨some 15,none,.mv (.t 0)⟩,
⟨some 16,none,.nilck (.t 15)⟩,
⟨some 17,none,.fldA 6 (.t 16)⟩,
⟨some 18,none,.fldA 1 (.t 17)⟩,
⟨some 19,none,.fldA 0 (.t 18)⟩,
⟨some 20,none,.load false 1 (.t 19)⟩,
⟨some 21,none,.callw "(*newel/drive.motion).with" [.t 5, .t 20]⟩,
⟨some 22,none,.mv (.t 0)⟩,
⟨some 23,none,.nilck (.t 22)⟩,
⟨some 24,none,.fldA 6 (.t 23)⟩,
⟨some 25,none,.fldA 1 (.t 24)⟩,
⟨some 26,none,.fldA 1 (.t 25)⟩,
⟨some 27,none,.load false 1 (.t 26)⟩,
⟨some 28,none,.callw "(*newel/drive.motion).with" [.t 6, .t 27]⟩,
⟨some 7,none,.mv (.t 21)⟩,
⟨some 8,none,.mv (.t 28)⟩]
@[go_sem] def j00 : List XO := [
⟨some 29,none,.mv (.t 1)⟩,
⟨some 30,none,.mv (.t 29)⟩,
⟨(some 31), (some (30, true)), .mv (.t 8)⟩,
⟨(some 32), (some (30, true)), .mv (.t 7)⟩,
⟨(some 33), (some (30, true)), .bin .gtr .no (.t 31) (.t 32)⟩,
⟨some 34,none,.pick (.t 30) (.t 33) (.c (.bool false))⟩,
⟨some 35,none,.mv (.t 34)⟩,
⟨(some 36), (some (35, false)), .mv (.t 1)⟩,
⟨(some 37), (some (35, false)), .un .not (.t 36)⟩,
⟨(some 38), (some (35, false)), .mv (.t 37)⟩,
⟨(some 39), (some (38, true)), .mv (.t 8)⟩,
⟨(some 40), (some (38, true)), .mv (.t 7)⟩,
⟨(some 41), (some (38, true)), .bin .lss .no (.t 39) (.t 40)⟩,
⟨(some 42), (some (35, false)), .pick (.t 38) (.t 41) (.c (.bool false))⟩,
⟨some 43,none,.pick (.t 35) (.c (.bool true)) (.t 42)⟩]
@[go_sem] def j01 : List XO := [
⟨some 44,none,.mv (.t 0)⟩,
⟨some 45,none,.load true 12 (.t 6)⟩,
⟨some 46,none,.nilck (.t 44)⟩,
⟨none, none, .store 12 (.t 46) (.t 45)⟩]
@[go_sem] def j02 : List XO := [
⟨some 47,none,.mv (.t 0)⟩,
⟨some 48,none,.nilck (.t 47)⟩,
⟨some 49,none,.fldA 6 (.t 48)⟩,
⟨some 50,none,.fldA 1 (.t 49)⟩,
⟨some 51,none,.fldA 1 (.t 50)⟩,
⟨some 52,none,.load false 1 (.t 51)⟩,
⟨some 4,none,.mv (.t 52)⟩]
@[go_sem] def j03 : List XO := [
⟨some 53,none,.mv (.t 0)⟩,
⟨some 54,none,.load true 12 (.t 5)⟩,
⟨some 55,none,.nilck (.t 53)⟩,
⟨none, none, .store 12 (.t 55) (.t 54)⟩]
@[go_sem] def j04 : List XO := [
⟨some 56,none,.mv (.t 0)⟩,
⟨some 57,none,.nilck (.t 56)⟩,
⟨some 58,none,.fldA 6 (.t 57)⟩,
⟨some 59,none,.fldA 1 (.t 58)⟩,
⟨some 60,none,.fldA 0 (.t 59)⟩,
⟨some 61,none,.load false 1 (.t 60)⟩,
⟨some 4,none,.mv (.t 61)⟩]
def x___drive_motion__extreme : XFunc := { np := 2, res := [.t 4], body :=
  (.seq (.reg j0x) (.seq (.reg j0y) (.seq (.regW j0z) (.seq (.seq (.reg j00) (.cond (.t 43) (.seq (.reg j01) (.seq (.reg j02) .ret)) .skip)) (.seq (.reg j03) (.seq (.reg j04) .ret)))))) }
@[go_sem] def j1y : List XO := [
⟨some 1,none,.boxF (.t 0)⟩,
⟨some 2,none,.mv (.c (.int .i64 0))⟩]
@[go_sem] def j1z : List XO := [
⟨some 9,none,.fldA 0 (.tf 1)⟩,
⟨some 10,none,.load false 1 (.tf 9)⟩,
⟨some 11,none,.bin .geq .no (.t 10) (.c (.int .i64 1))⟩,
⟨some 12,none,.mv (.t 11)⟩,
⟨(some 13), (some (12, true)), .fldA 0 (.tf 1)⟩,
⟨(some 14), (some (12, true)), .load false 1 (.tf 13)⟩,
⟨(some 15), (some (12, true)), .bin .leq .no (.t 14) (.c (.int .i64 8))⟩,
⟨some 16,none,.pick (.t 12) (.t 15) (.c (.bool false))⟩,
⟨some 17,none,.fldA 1 (.tf 1)⟩,
⟨some 18,none,.load false 1 (.tf 17)⟩,
⟨some 19,none,.len false (.t 18)⟩,
⟨some 20,none,.bin .geq .no (.t 19) (.c (.int .i64 1))⟩,
⟨some 21,none,.mv (.t 20)⟩,
⟨(some 22), (some (21, true)), .fldA 1 (.tf 1)⟩,
⟨(some 23), (some (21, true)), .load false 1 (.tf 22)⟩,
⟨(some 24), (some (21, true)), .len false (.t 23)⟩,
⟨(some 25), (some (21, true)), .bin .leq .no (.t 24) (.c (.int .i64 12))⟩,
⟨some 26,none,.pick (.t 21) (.t 25) (.c (.bool false))⟩,
⟨some 27,none,.fldA 2 (.tf 1)⟩,
⟨some 28,none,.load false 1 (.tf 27)⟩,
⟨some 29,none,.len false (.t 28)⟩,
⟨some 30,none,.bin .geq .no (.t 29) (.c (.int .i64 1))⟩,
⟨some 31,none,.mv (.t 30)⟩,
⟨(some 32), (some (31, true)), .fldA 2 (.tf 1)⟩,
⟨(some 33), (some (31, true)), .load false 1 (.tf 32)⟩,
⟨(some 34), (some (31, true)), .len false (.t 33)⟩,
⟨(some 35), (some (31, true)), .bin .leq .no (.t 34) (.c (.int .i64 24))⟩,
⟨some 36,none,.pick (.t 31) (.t 35) (.c (.bool false))⟩,
⟨some 37,none,.bsl 1 [.t 16, .t 26, .t 36]⟩,
⟨some 3,none,.mv (.t 37)⟩]
@[go_sem] def j2a : List XO := [
⟨some 38,none,.mv (.t 3)⟩,
⟨some 39,none,.call "slices.Contains[[]bool,bool]" [.t 38, (.c (.bool false))]⟩,
⟨some 40,none,.mv (.t 39)⟩,
⟨(some 41), (some (40, false)), .fldA 1 (.tf 1)⟩,
⟨(some 42), (some (40, false)), .load false 1 (.tf 41)⟩,
⟨(some 43), (some (40, false)), .mkfn "newel/circuit.Check$1" [] [.t 1]⟩,
⟨(some 44), (some (40, false)), .call "slices.ContainsFunc[[]int,int]" [.t 42, .t 43]⟩,
⟨some 45,none,.pick (.t 40) (.c (.bool true)) (.t 44)⟩]
@[go_sem] def j2h : List XO := [
⟨some 2,none,.mv (.c (.int .i64 30))⟩]
@[go_sem] def j2i : List XO := [
⟨some 46,none,.fldA 2 (.tf 1)⟩,
⟨some 47,none,.load false 1 (.tf 46)⟩,
⟨some 48,none,.len false (.t 47)⟩,
⟨some 49,none,.mksl 1 [(.int .i64 0)] 8 (.t 48) (.t 48)⟩,
⟨some 4,none,.mv (.t 49)⟩]
@[go_sem] def j2j : List XO := [
⟨some 50,none,.fldA 2 (.tf 1)⟩,
⟨some 51,none,.load false 1 (.tf 50)⟩,
⟨some 52,none,.len false (.t 51)⟩,
⟨some 53,none,.mv (.c (.int .i64 0))⟩]
@[go_sem] def j2k : List XO := [
⟨some 54,none,.bin .lss .no (.t 53) (.t 52)⟩]
@[go_sem] def j2l : List XO := [
⟨some 55,none,.mv (.t 53)⟩,
⟨some 56,none,.ixA 2 (.t 51) (.t 53)⟩,
⟨some 57,none,.load true 2 (.t 56)⟩,
⟨some 6,none,.alloc [(.int .i64 0), (.slice none 0 0)]⟩,
⟨some 5,none,.mv (.t 55)⟩,
⟨none, none, .store 2 (.t 6) (.t 57)⟩]
@[go_sem] def j2m : List XO := [
⟨some 58,none,.fldA 0 (.t 6)⟩,
⟨some 59,none,.load false 1 (.t 58)⟩]
@[go_sem] def j2n : List XO := [
⟨some 61,none,.bin .eql .no (.t 59) (.c (.int .i64 1))⟩,
⟨some 60,none,.mv (.t 61)⟩]
@[go_sem] def j10 : List XO := [
⟨some 62,none,.fldA 1 (.t 6)⟩,
⟨some 63,none,.load false 1 (.t 62)⟩,
⟨some 64,none,.len false (.t 63)⟩,
⟨some 65,none,.bin .neq .no (.t 64) (.c (.int .i64 1))⟩,
⟨some 66,none,.mv (.t 65)⟩,
⟨(some 67), (some (66, false)), .fldA 1 (.t 6)⟩,
⟨(some 68), (some (66, false)), .load false 1 (.t 67)⟩,
⟨(some 69), (some (66, false)), .fldA 1 (.tf 1)⟩,
⟨(some 70), (some (66, false)), .load false 1 (.tf 69)⟩,
⟨(some 71), (some (66, false)), .len false (.t 70)⟩,
⟨(some 72), (some (66, false)), .call "newel/circuit.ascending" [.t 68, (.c (.int .i64 0)), .t 71]⟩,
⟨(some 73), (some (66, false)), .un .not (.t 72)⟩,
⟨some 74,none,.pick (.t 66) (.c (.bool true)) (.t 73)⟩]
@[go_sem] def j11 : List XO := [
⟨some 2,none,.mv (.c (.int .i64 30))⟩]
@[go_sem] def j12 : List XO := [
⟨some 76,none,.bin .eql .no (.t 59) (.c (.int .i64 2))⟩,
⟨some 75,none,.mv (.t 76)⟩]
@[go_sem] def j13 : List XO := [
⟨some 77,none,.bin .eql .no (.t 59) (.c (.int .i64 3))⟩,
⟨some 75,none,.mv (.t 77)⟩]
@[go_sem] def j14 : List XO := [
⟨some 78,none,.fldA 1 (.t 6)⟩,
⟨some 79,none,.load false 1 (.t 78)⟩,
⟨some 80,none,.len false (.t 79)⟩,
⟨some 81,none,.bin .lss .no (.t 80) (.c (.int .i64 1))⟩,
⟨some 82,none,.mv (.t 81)⟩,
⟨(some 83), (some (82, false)), .fldA 1 (.t 6)⟩,
⟨(some 84), (some (82, false)), .load false 1 (.t 83)⟩,
⟨(some 85), (some (82, false)), .len false (.t 84)⟩,
⟨(some 86), (some (82, false)), .bin .gtr .no (.t 85) (.c (.int .i64 8))⟩,
⟨some 87,none,.pick (.t 82) (.c (.bool true)) (.t 86)⟩,
⟨some 88,none,.mv (.t 87)⟩,
⟨(some 89), (some (88, false)), .fldA 1 (.t 6)⟩,
⟨(some 90), (some (88, false)), .load false 1 (.t 89)⟩,
⟨(some 91), (some (88, false)), .mv (.t 5)⟩,
⟨(some 92), (some (88, false)), .bin .add .no (.t 91) (.c (.int .i64 1))⟩,
⟨(some 93), (some (88, false)), .fldA 2 (.tf 1)⟩,
⟨(some 94), (some (88, false)), .load false 1 (.tf 93)⟩,
⟨(some 95), (some (88, false)), .len false (.t 94)⟩,
⟨(some 96), (some (88, false)), .call "newel/circuit.ascending" [.t 90, .t 92, .t 95]⟩,
⟨(some 97), (some (88, false)), .un .not (.t 96)⟩,
⟨some 98,none,.pick (.t 88) (.c (.bool true)) (.t 97)⟩]
@[go_sem] def j15 : List XO := [
⟨some 2,none,.mv (.c (.int .i64 30))⟩]
@[go_sem] def j16 : List XO := [
⟨some 99,none,.fldA 1 (.t 6)⟩,
⟨some 100,none,.load false 1 (.t 99)⟩,
⟨some 101,none,.len false (.t 100)⟩,
⟨some 102,none,.mv (.c (.int .i64 0))⟩]
@[go_sem] def j17 : List XO := [
⟨some 103,none,.bin .lss .no (.t 102) (.t 101)⟩]
@[go_sem] def j18 : List XO := [
⟨some 104,none,.ixA 1 (.t 100) (.t 102)⟩,
⟨some 105,none,.load false 1 (.t 104)⟩,
⟨some 8,none,.mv (.t 105)⟩]
@[go_sem] def j19 : List XO := [
⟨some 106,none,.mv (.t 4)⟩,
⟨some 107,none,.mv (.t 8)⟩,
⟨some 108,none,.ixA 1 (.t 106) (.t 107)⟩,
⟨some 109,none,.load false 1 (.t 108)⟩,
⟨some 110,none,.bin .add .no (.t 109) (.c (.int .i64 1))⟩,
⟨some 111,none,.ixA 1 (.t 106) (.t 107)⟩,
⟨none, none, .store 1 (.t 111) (.t 110)⟩]
@[go_sem] def j2b : List XO := [
⟨some 112,none,.bin .add .no (.t 102) (.c (.int .i64 1))⟩,
⟨some 102,none,.mv (.t 112)⟩]
def j2o : XCode :=
  (.seq (.reg j17) (.seq (.cond (.t 103) .skip (.exit 3)) (.seq (.block 4 (.seq (.reg j18) (.reg j19))) (.reg j2b))))
@[go_sem] def j2c : List XO := [
⟨some 2,none,.mv (.c (.int .i64 30))⟩]
@[go_sem] def j2d : List XO := [
⟨some 113,none,.bin .add .no (.t 53) (.c (.int .i64 1))⟩,
⟨some 53,none,.mv (.t 113)⟩]
def j2p : XCode :=
  (.seq (.reg j2k) (.seq (.cond (.t 54) .skip (.exit 0)) (.seq (.block 1 (.seq (.reg j2l) (.seq (.reg j2m) (.block 2 (.seq (.reg j2n) (.cond (.t 60) (.seq (.reg j10) (.cond (.t 74) (.seq (.reg j11) .ret) .skip)) (.seq (.seq (.reg j12) (.cond (.t 75) .skip (.reg j13))) (.cond (.t 75) (.seq (.seq (.reg j14) (.cond (.t 98) (.seq (.reg j15) .ret) .skip)) (.seq (.reg j16) (.block 3 (.loop j2o)))) (.seq (.reg j2c) .ret))))))))) (.reg j2d))))
@[go_sem] def j2e : List XO := [
⟨some 114,none,.mv (.t 4)⟩,
⟨some 115,none,.ixA 1 (.t 114) (.c (.int .i64 0))⟩,
⟨some 116,none,.load false 1 (.t 115)⟩,
⟨some 117,none,.bin .neq .no (.t 116) (.c (.int .i64 0))⟩,
⟨some 118,none,.mv (.t 117)⟩,
⟨(some 119), (some (118, false)), .mv (.t 4)⟩,
⟨(some 120), (some (118, false)), .slc 1 (.t 119) (some (.c (.int .i64 1))) none⟩,
⟨(some 121), (some (118, false)), .call "slices.ContainsFunc[[]int,int]" [.t 120, (.f "newel/circuit.Check$2")]⟩,
⟨some 122,none,.pick (.t 118) (.c (.bool true)) (.t 121)⟩]
@[go_sem] def j2f : List XO := [
⟨some 2,none,.mv (.c (.int .i64 30))⟩]
@[go_sem] def j2g : List XO := [
⟨some 2,none,.mv (.c (.int .i64 0))⟩]
def x_circuit_Check : XFunc := { np := 1, res := [.t 2], body :=
  (.seq (.reg j1y) (.seq (.reg j1z) (.seq (.seq (.reg j2a) (.cond (.t 45) (.seq (.reg j2h) .ret) .skip)) (.seq (.reg j2i) (.seq (.seq (.reg j2j) (.block 0 (.loop j2p))) (.seq (.seq (.reg j2e) (.cond (.t 122) (.seq (.reg j2f) .ret) .skip)) (.seq (.reg j2g) .ret))))))) }
@[go_sem] def l4c : List XO := [
⟨some 4,none,.mv (.c (.int .i64 0))⟩]
@[go_sem] def l4d : List XO := [
⟨some 6,none,.mv (.t 0)⟩,
⟨some 7,none,.len false (.t 6)⟩,
⟨some 8,none,.mv (.c (.int .i64 0))⟩]
@[go_sem] def l4e : List XO := [
⟨some 9,none,.bin .lss .no (.t 8) (.t 7)⟩]
@[go_sem] def l4f : List XO := [
⟨some 10,none,.mv (.t 8)⟩,
⟨some 5,none,.mv (.t 10)⟩]
@[go_sem] def l4g : List XO := [
⟨some 11,none,.mv (.t 1)⟩,
⟨some 12,none,.mv (.t 0)⟩,
⟨some 13,none,.mv (.t 5)⟩,
⟨some 14,none,.ixA 1 (.t 12) (.t 13)⟩,
⟨some 15,none,.load false 1 (.t 14)⟩,
⟨some 16,none,.bin .eql .no (.t 11) (.t 15)⟩]
@[go_sem] def l4h : List XO := [
⟨some 17,none,.mv (.t 5)⟩,
⟨some 4,none,.mv (.t 17)⟩]
@[go_sem] def l4i : List XO := [
⟨some 18,none,.bin .add .no (.t 8) (.c (.int .i64 1))⟩,
⟨some 8,none,.mv (.t 18)⟩]
def d2a : XCode :=
  (.seq (.reg l4e) (.seq (.cond (.t 9) .skip (.exit 0)) (.seq (.block 1 (.seq (.reg l4f) (.seq (.reg l4g) (.cond (.t 16) (.seq (.reg l4h) .ret) .skip)))) (.reg l4i))))
@[go_sem] def l4j : List XO := [
⟨some 4,none,.mv (.c (.int .i64 (-1)))⟩]
def x_slices_Index___int_int_ : XFunc := { np := 2, res := [.t 4], body :=
  (.seq (.reg l4c) (.seq (.seq (.reg l4d) (.block 0 (.loop d2a))) (.seq (.reg l4j) .ret))) }
@[go_sem] def j1m : List XO := [
⟨some 2,none,.boxF (.t 0)⟩,
⟨some 4,none,.mv (.c (.bool false))⟩]
@[go_sem] def j1n : List XO := [
⟨some 6,none,.fldA 0 (.tf 2)⟩,
⟨some 7,none,.fldA 2 (.tf 6)⟩,
⟨some 8,none,.load false 1 (.tf 7)⟩,
⟨some 9,none,.mv (.t 1)⟩,
⟨some 10,none,.ixA 2 (.t 8) (.t 9)⟩,
⟨some 11,none,.load true 2 (.t 10)⟩,
⟨some 5,none,.alloc [(.int .i64 0), (.slice none 0 0)]⟩,
⟨none, none, .store 2 (.t 5) (.t 11)⟩]
@[go_sem] def j1o : List XO := [
⟨some 12,none,.fldA 0 (.t 5)⟩,
⟨some 13,none,.load false 1 (.t 12)⟩]
@[go_sem] def j1p : List XO := [
⟨some 15,none,.bin .eql .no (.t 13) (.c (.int .i64 1))⟩,
⟨some 14,none,.mv (.t 15)⟩]
@[go_sem] def j1q : List XO := [
⟨some 16,none,.load true 6 (.tf 2)⟩,
⟨some 17,none,.fldA 1 (.t 5)⟩,
⟨some 18,none,.load false 1 (.t 17)⟩,
⟨some 19,none,.ixA 1 (.t 18) (.c (.int .i64 0))⟩,
⟨some 20,none,.load false 1 (.t 19)⟩,
⟨some 21,none,.call "(newel/circuit.state).conducts" [.t 16, .t 20]⟩,
⟨some 4,none,.mv (.t 21)⟩]
@[go_sem] def j1r : List XO := [
⟨some 23,none,.bin .eql .no (.t 13) (.c (.int .i64 3))⟩,
⟨some 22,none,.mv (.t 23)⟩]
@[go_sem] def j1s : List XO := [
⟨some 24,none,.fldA 1 (.t 5)⟩,
⟨some 25,none,.load false 1 (.t 24)⟩,
⟨some 26,none,.load true 6 (.tf 2)⟩,
⟨some 27,none,.mkfn "(newel/circuit.state).wire" [.t 26] []⟩,
⟨some 28,none,.call "slices.ContainsFunc[[]int,int]" [.t 25, .t 27]⟩,
⟨some 4,none,.mv (.t 28)⟩]
@[go_sem] def j1t : List XO := [
⟨some 29,none,.fldA 1 (.t 5)⟩,
⟨some 30,none,.load false 1 (.t 29)⟩,
⟨some 31,none,.mkfn "(newel/circuit.state).wire$1" [] [.t 2]⟩,
⟨some 32,none,.call "slices.ContainsFunc[[]int,int]" [.t 30, .t 31]⟩,
⟨some 33,none,.un .not (.t 32)⟩,
⟨some 4,none,.mv (.t 33)⟩]
def x__circuit_state__wire : XFunc := { np := 2, res := [.t 4], body :=
  (.seq (.reg j1m) (.seq (.reg j1n) (.seq (.seq (.reg j1o) (.block 0 (.seq (.reg j1p) (.cond (.t 14) (.seq (.reg j1q) .ret) (.seq (.reg j1r) (.cond (.t 22) (.seq (.reg j1s) .ret) .skip)))))) (.seq (.reg j1t) .ret)))) }
@[go_sem] def j91 : List XO := [
⟨some 2,none,.mv (.c (.int .i64 0))⟩]
@[go_sem] def j92 : List XO := [
⟨some 3,none,.mv (.t 0)⟩,
⟨some 4,none,.bin .shr .no (.t 3) (.c (.int .u64 1))⟩,
⟨some 5,none,.bin .and .no (.t 4) (.c (.int .u64 6148914691236517205))⟩,
⟨some 6,none,.mv (.t 0)⟩,
⟨some 7,none,.bin .and .no (.t 6) (.c (.int .u64 6148914691236517205))⟩,
⟨some 8,none,.bin .add .no (.t 5) (.t 7)⟩,
⟨some 0,none,.mv (.t 8)⟩]
@[go_sem] def j93 : List XO := [
⟨some 9,none,.mv (.t 0)⟩,
⟨some 10,none,.bin .shr .no (.t 9) (.c (.int .u64 2))⟩,
⟨some 11,none,.bin .and .no (.t 10) (.c (.int .u64 3689348814741910323))⟩,
⟨some 12,none,.mv (.t 0)⟩,
⟨some 13,none,.bin .and .no (.t 12) (.c (.int .u64 3689348814741910323))⟩,
⟨some 14,none,.bin .add .no (.t 11) (.t 13)⟩,
⟨some 0,none,.mv (.t 14)⟩]
@[go_sem] def j94 : List XO := [
⟨some 15,none,.mv (.t 0)⟩,
⟨some 16,none,.bin .shr .no (.t 15) (.c (.int .u64 4))⟩,
⟨some 17,none,.mv (.t 0)⟩,
⟨some 18,none,.bin .add .no (.t 16) (.t 17)⟩,
⟨some 19,none,.bin .and .no (.t 18) (.c (.int .u64 1085102592571150095))⟩,
⟨some 0,none,.mv (.t 19)⟩]
@[go_sem] def j95 : List XO := [
⟨some 20,none,.mv (.t 0)⟩,
⟨some 21,none,.mv (.t 0)⟩,
⟨some 22,none,.bin .shr .no (.t 21) (.c (.int .u64 8))⟩,
⟨some 23,none,.bin .add .no (.t 20) (.t 22)⟩,
⟨some 0,none,.mv (.t 23)⟩]
@[go_sem] def j96 : List XO := [
⟨some 24,none,.mv (.t 0)⟩,
⟨some 25,none,.mv (.t 0)⟩,
⟨some 26,none,.bin .shr .no (.t 25) (.c (.int .u64 16))⟩,
⟨some 27,none,.bin .add .no (.t 24) (.t 26)⟩,
⟨some 0,none,.mv (.t 27)⟩]
@[go_sem] def j97 : List XO := [
⟨some 28,none,.mv (.t 0)⟩,
⟨some 29,none,.mv (.t 0)⟩,
⟨some 30,none,.bin .shr .no (.t 29) (.c (.int .u64 32))⟩,
⟨some 31,none,.bin .add .no (.t 28) (.t 30)⟩,
⟨some 0,none,.mv (.t 31)⟩]
@[go_sem] def j98 : List XO := [
⟨some 32,none,.mv (.t 0)⟩,
⟨some 33,none,.cvtI .i64 (.t 32)⟩,
⟨some 34,none,.bin .and .no (.t 33) (.c (.int .i64 127))⟩,
⟨some 2,none,.mv (.t 34)⟩]
def x_math_bits_OnesCount64 : XFunc := { np := 1, res := [.t 2], body :=
  (.seq (.reg j91) (.seq (.reg j92) (.seq (.reg j93) (.seq (.reg j94) (.seq (.reg j95) (.seq (.reg j96) (.seq (.reg j97) (.seq (.reg j98) .ret)))))))) }
@[go_sem] def j35 : List XO := [
⟨some 4,none,.mv (.c (.int .i64 0))⟩]
@[go_sem] def j36 : List XO := [
⟨some 7,none,.mv (.t 0)⟩,
⟨some 8,none,.call "cmp.isNaN[int]" [.t 7]⟩,
⟨some 5,none,.mv (.t 8)⟩]
@[go_sem] def j4b : List XO := [
⟨some 9,none,.mv (.t 1)⟩,
⟨some 10,none,.call "cmp.isNaN[int]" [.t 9]⟩,
⟨some 6,none,.mv (.t 10)⟩]
@[go_sem] def j4c : List XO := [
⟨some 11,none,.mv (.t 5)⟩]
@[go_sem] def j4d : List XO := [
⟨some 12,none,.mv (.t 6)⟩]
@[go_sem] def j4e : List XO := [
⟨some 4,none,.mv (.c (.int .i64 0))⟩]
@[go_sem] def j4f : List XO := [
⟨some 4,none,.mv (.c (.int .i64 (-1)))⟩]
@[go_sem] def j4g : List XO := [
⟨some 13,none,.mv (.t 6)⟩]
@[go_sem] def j4h : List XO := [
⟨some 4,none,.mv (.c (.int .i64 1))⟩]
@[go_sem] def j4i : List XO := [
⟨some 14,none,.mv (.t 0)⟩,
⟨some 15,none,.mv (.t 1)⟩,
⟨some 16,none,.bin .lss .no (.t 14) (.t 15)⟩]
@[go_sem] def j37 : List XO := [
⟨some 4,none,.mv (.c (.int .i64 (-1)))⟩]
@[go_sem] def j38 : List XO := [
⟨some 17,none,.mv (.t 0)⟩,
⟨some 18,none,.mv (.t 1)⟩,
⟨some 19,none,.bin .gtr .no (.t 17) (.t 18)⟩]
@[go_sem] def j39 : List XO := [
⟨some 4,none,.mv (.c (.int .i64 1))⟩]
@[go_sem] def j4a : List XO := [
⟨some 4,none,.mv (.c (.int .i64 0))⟩]
def x_cmp_Compare_int_ : XFunc := { np := 2, res := [.t 4], body :=
  (.seq (.reg j35) (.seq (.reg j36) (.seq (.reg j4b) (.seq (.seq (.reg j4c) (.cond (.t 11) (.seq (.seq (.reg j4d) (.cond (.t 12) (.seq (.reg j4e) .ret) .skip)) (.seq (.reg j4f) .ret)) .skip)) (.seq (.seq (.reg j4g) (.cond (.t 13) (.seq (.reg j4h) .ret) .skip)) (.seq (.seq (.reg j4i) (.cond (.t 16) (.seq (.reg j37) .ret) .skip)) (.seq (.seq (.reg j38) (.cond (.t 19) (.seq (.reg j39) .ret) .skip)) (.seq (.reg j4a) .ret)))))))) }
@[go_sem] def l0c : List XO := [
⟨some 2,none,.mv (.c (.int .i64 0))⟩]
@[go_sem] def l0d : List XO := [
⟨some 3,none,.mv (.t 0)⟩,
⟨some 4,none,.bin .eql .no (.t 3) (.c (.int .u64 0))⟩]
@[go_sem] def l0e : List XO := [
⟨some 2,none,.mv (.c (.int .i64 64))⟩]
@[go_sem] def l0f : List XO := [
⟨some 5,none,.mv (.t 0)⟩,
⟨some 6,none,.mv (.t 0)⟩,
⟨some 7,none,.un .neg (.t 6)⟩,
⟨some 8,none,.bin .and .no (.t 5) (.t 7)⟩,
⟨some 9,none,.bin .mul .no (.t 8) (.c (.int .u64 285870213051353865))⟩,
⟨some 10,none,.bin .shr .no (.t 9) (.c (.int .u64 58))⟩,
⟨some 11,none,.ixP 1 64 (.g 1 gt_1) (.t 10)⟩,
⟨some 12,none,.load false 1 (.t 11)⟩,
⟨some 13,none,.cvtI .i64 (.t 12)⟩,
⟨some 2,none,.mv (.t 13)⟩]
def x_math_bits_TrailingZeros64 : XFunc := { np := 1, res := [.t 2], body :=
  (.seq (.reg l0c) (.seq (.seq (.reg l0d) (.cond (.t 4) (.seq (.reg l0e) .ret) .skip)) (.seq (.reg l0f) .ret))) }
@[go_sem] def l3v : List XO := [
⟨some 4,none,.mv (.c (.int .i64 0))⟩]
@[go_sem] def l3w : List XO := [
⟨some 6,none,.mv (.t 0)⟩,
⟨some 7,none,.len false (.t 6)⟩,
⟨some 8,none,.mv (.c (.int .i64 0))⟩]
@[go_sem] def l3x : List XO := [
⟨some 9,none,.bin .lss .no (.t 8) (.t 7)⟩]
@[go_sem] def l3y : List XO := [
⟨some 10,none,.mv (.t 8)⟩,
⟨some 5,none,.mv (.t 10)⟩]
@[go_sem] def l3z : List XO := [
⟨some 11,none,.mv (.t 1)⟩,
⟨some 12,none,.mv (.t 0)⟩,
⟨some 13,none,.mv (.t 5)⟩,
⟨some 14,none,.ixA 1 (.t 12) (.t 13)⟩,
⟨some 15,none,.load false 1 (.t 14)⟩,
⟨some 16,none,.callv (.t 11) [.t 15]⟩]
@[go_sem] def l30 : List XO := [
⟨some 17,none,.mv (.t 5)⟩,
⟨some 4,none,.mv (.t 17)⟩]
@[go_sem] def l31 : List XO := [
⟨some 18,none,.bin .add .no (.t 8) (.c (.int .i64 1))⟩,
⟨some 8,none,.mv (.t 18)⟩]
def d19 : XCode :=
  (.seq (.reg l3x) (.seq (.cond (.t 9) .skip (.exit 0)) (.seq (.block 1 (.seq (.reg l3y) (.seq (.reg l3z) (.cond (.t 16) (.seq (.reg l30) .ret) .skip)))) (.reg l31))))
@[go_sem] def l32 : List XO := [
⟨some 4,none,.mv (.c (.int .i64 (-1)))⟩]
def x_slices_IndexFunc___int_int_ : XFunc := { np := 2, res := [.t 4], body :=
  (.seq (.reg l3v) (.seq (.seq (.reg l3w) (.block 0 (.loop d19))) (.seq (.reg l32) .ret))) }
@[go_sem] def j4l : List XO := [
⟨some 1,none,.boxF (.t 0)⟩,
⟨some 2,none,.mv (.c (.bool false))⟩]
@[go_sem] def j4m : List XO := [
⟨some 3,none,.fldA 0 (.tf 1)⟩,
⟨some 4,none,.load false 1 (.tf 3)⟩,
⟨some 5,none,.call "newel/drive.to" [(.c (.int .i64 10000000))]⟩,
⟨some 6,none,.call "newel/drive.in" [.t 4, .t 5]⟩,
⟨some 7,none,.mv (.t 6)⟩,
⟨(some 8), (some (7, true)), .fldA 1 (.tf 1)⟩,
⟨(some 9), (some (7, true)), .load false 1 (.tf 8)⟩,
⟨(some 10), (some (7, true)), .call "newel/drive.to" [(.c (.int .i64 20))]⟩,
⟨(some 11), (some (7, true)), .call "newel/drive.in" [.t 9, .t 10]⟩,
⟨some 12,none,.pick (.t 7) (.t 11) (.c (.bool false))⟩,
⟨some 2,none,.mv (.t 12)⟩]
def x_drive_CheckD1 : XFunc := { np := 1, res := [.t 2], body :=
  (.seq (.reg j4l) (.seq (.reg j4m) .ret)) }
@[go_sem] def j1e : List XO := [
⟨some 4,none,.mv (.c (.int .i64 0))⟩]
@[go_sem] def j1f : List XO := [
⟨some 5,none,.mv (.t 0)⟩,
⟨some 6,none,.mv (.t 0)⟩,
⟨some 7,none,.nilck (.t 6)⟩,
⟨some 8,none,.fldA 0 (.t 7)⟩,
⟨some 9,none,.load true 6 (.t 8)⟩,
⟨some 10,none,.mv (.t 0)⟩,
⟨some 11,none,.nilck (.t 10)⟩,
⟨some 12,none,.fldA 10 (.t 11)⟩,
⟨some 13,none,.load false 1 (.t 12)⟩,
⟨some 14,none,.mv (.t 1)⟩,
⟨some 15,none,.mv (.t 0)⟩,
⟨some 16,none,.call "(*newel/drive.motion).grip" [.t 15]⟩,
⟨some 17,none,.call "newel/drive.tick" [.t 9, .t 13, .t 14, .t 16]⟩,
⟨some 18,none,.nilck (.t 5)⟩,
⟨some 19,none,.fldA 10 (.t 18)⟩,
⟨none, none, .store 1 (.t 19) (.t 17)⟩]
@[go_sem] def j1g : List XO := [
⟨some 20,none,.mv (.t 0)⟩,
⟨some 21,none,.nilck (.t 20)⟩,
⟨some 22,none,.fldA 11 (.t 21)⟩,
⟨some 23,none,.load false 1 (.t 22)⟩,
⟨some 24,none,.bin .add .no (.t 23) (.c (.int .i64 1))⟩,
⟨some 25,none,.nilck (.t 20)⟩,
⟨some 26,none,.fldA 11 (.t 25)⟩,
⟨none, none, .store 1 (.t 26) (.t 24)⟩]
@[go_sem] def j1h : List XO := [
⟨some 27,none,.mv (.t 0)⟩,
⟨some 28,none,.nilck (.t 27)⟩,
⟨some 29,none,.fldA 10 (.t 28)⟩,
⟨some 30,none,.load false 1 (.t 29)⟩,
⟨some 4,none,.mv (.t 30)⟩]
def x___drive_motion__with : XFunc := { np := 2, res := [.t 4], body :=
  (.seq (.reg j1e) (.seq (.reg j1f) (.seq (.reg j1g) (.seq (.reg j1h) .ret)))) }
@[go_sem] def l3r : List XO := [
⟨some 4,none,.mv (.c (.bool false))⟩]
@[go_sem] def l3s : List XO := [
⟨some 5,none,.mv (.t 0)⟩,
⟨some 6,none,.mv (.t 1)⟩,
⟨some 7,none,.call "slices.Index[[]bool,bool]" [.t 5, .t 6]⟩,
⟨some 8,none,.bin .geq .no (.t 7) (.c (.int .i64 0))⟩,
⟨some 4,none,.mv (.t 8)⟩]
def x_slices_Contains___bool_bool_ : XFunc := { np := 2, res := [.t 4], body :=
  (.seq (.reg l3r) (.seq (.reg l3s) .ret)) }
@[go_sem] def j1u : List XO := [
⟨some 3,none,.mv (.c (.bool false))⟩]
@[go_sem] def j1v : List XO := [
⟨some 4,none,.mv (.t 0)⟩,
⟨some 5,none,.fldA 0 (.t 1)⟩,
⟨some 6,none,.load false 1 (.t 5)⟩,
⟨some 7,none,.call "newel/circuit.isSet" [.t 4, .t 6]⟩,
⟨some 8,none,.un .not (.t 7)⟩,
⟨some 3,none,.mv (.t 8)⟩]
def x_circuit_CheckD1 : XFunc := { np := 2, res := [.t 3], body :=
  (.seq (.reg j1u) (.seq (.reg j1v) .ret)) }
@[go_sem] def j3u : List XO := [
⟨some 4,none,.mv (.c (.bool false))⟩]
@[go_sem] def j3v : List XO := [
⟨some 5,none,.mv (.t 0)⟩,
⟨some 6,none,.bin .geq .no (.t 5) (.c (.int .i64 0))⟩,
⟨some 7,none,.mv (.t 6)⟩,
⟨(some 8), (some (7, true)), .mv (.t 0)⟩,
⟨(some 9), (some (7, true)), .mv (.t 1)⟩,
⟨(some 10), (some (7, true)), .bin .shl .no (.c (.int .i64 1)) (.t 9)⟩,
⟨(some 11), (some (7, true)), .bin .lss .no (.t 8) (.t 10)⟩,
⟨some 12,none,.pick (.t 7) (.t 11) (.c (.bool false))⟩,
⟨some 4,none,.mv (.t 12)⟩]
def x_circuit_isSet : XFunc := { np := 2, res := [.t 4], body :=
  (.seq (.reg j3u) (.seq (.reg j3v) .ret)) }
@[go_sem] def j3k : List XO := [
⟨some 6,none,.mv (.c (.bool false))⟩]
@[go_sem] def j3l : List XO := [
⟨some 9,none,.mv (.t 0)⟩,
⟨some 10,none,.len false (.t 9)⟩,
⟨some 11,none,.mv (.c (.int .i64 0))⟩]
@[go_sem] def j3m : List XO := [
⟨some 12,none,.bin .lss .no (.t 11) (.t 10)⟩]
@[go_sem] def j3n : List XO := [
⟨some 13,none,.ixA 1 (.t 9) (.t 11)⟩,
⟨some 14,none,.load false 1 (.t 13)⟩,
⟨some 8,none,.mv (.t 14)⟩]
@[go_sem] def j3o : List XO := [
⟨some 15,none,.mv (.t 8)⟩,
⟨some 16,none,.mv (.t 1)⟩,
⟨some 17,none,.bin .lss .no (.t 15) (.t 16)⟩,
⟨some 18,none,.mv (.t 17)⟩,
⟨(some 19), (some (18, false)), .mv (.t 8)⟩,
⟨(some 20), (some (18, false)), .mv (.t 2)⟩,
⟨(some 21), (some (18, false)), .bin .geq .no (.t 19) (.t 20)⟩,
⟨some 22,none,.pick (.t 18) (.c (.bool true)) (.t 21)⟩]
@[go_sem] def j3p : List XO := [
⟨some 6,none,.mv (.c (.bool false))⟩]
@[go_sem] def j3q : List XO := [
⟨some 23,none,.mv (.t 8)⟩,
⟨some 24,none,.bin .add .no (.t 23) (.c (.int .i64 1))⟩,
⟨some 1,none,.mv (.t 24)⟩]
@[go_sem] def j3r : List XO := [
⟨some 25,none,.bin .add .no (.t 11) (.c (.int .i64 1))⟩,
⟨some 11,none,.mv (.t 25)⟩]
def j3t : XCode :=
  (.seq (.reg j3m) (.seq (.cond (.t 12) .skip (.exit 0)) (.seq (.block 1 (.seq (.reg j3n) (.seq (.seq (.reg j3o) (.cond (.t 22) (.seq (.reg j3p) .ret) .skip)) (.reg j3q)))) (.reg j3r))))
@[go_sem] def j3s : List XO := [
⟨some 6,none,.mv (.c (.bool true))⟩]
def x_circuit_ascending : XFunc := { np := 3, res := [.t 6], body :=
  (.seq (.reg j3k) (.seq (.seq (.reg j3l) (.block 0 (.loop j3t))) (.seq (.reg j3s) .ret))) }
@[go_sem] def j1w : List XO := [
⟨some 2,none,.mv (.c (.bool false))⟩]
@[go_sem] def j1x : List XO := [
⟨some 3,none,.mv (.t 0)⟩,
⟨some 4,none,.bin .neq .no (.t 3) (.c (.int .i64 1))⟩,
⟨some 2,none,.mv (.t 4)⟩]
def x_circuit_CheckD2 : XFunc := { np := 1, res := [.t 2], body :=
  (.seq (.reg j1w) (.seq (.reg j1x) .ret)) }
@[go_sem] def j1i : List XO := [
⟨some 2,none,.boxF (.t 0)⟩,
⟨some 4,none,.mv (.c (.bool false))⟩]
@[go_sem] def j1j : List XO := [
⟨some 5,none,.fldA 5 (.tf 2)⟩,
⟨some 6,none,.load false 1 (.tf 5)⟩,
⟨some 7,none,.mv (.t 1)⟩,
⟨some 8,none,.bin .shr .no (.t 6) (.t 7)⟩,
⟨some 9,none,.bin .and .no (.t 8) (.c (.int .i64 1))⟩,
⟨some 10,none,.bin .eql .no (.t 9) (.c (.int .i64 0))⟩,
⟨some 11,none,.mv (.t 10)⟩,
⟨(some 12), (some (11, true)), .fldA 4 (.tf 2)⟩,
⟨(some 13), (some (11, true)), .load false 1 (.tf 12)⟩,
⟨(some 14), (some (11, true)), .mv (.t 1)⟩,
⟨(some 15), (some (11, true)), .bin .shr .no (.t 13) (.t 14)⟩,
⟨(some 16), (some (11, true)), .bin .and .no (.t 15) (.c (.int .i64 1))⟩,
⟨(some 17), (some (11, true)), .bin .eql .no (.t 16) (.c (.int .i64 1))⟩,
⟨(some 18), (some (11, true)), .mv (.t 17)⟩,
⟨(some 19), (some (18, false)), .fldA 0 (.tf 2)⟩,
⟨(some 20), (some (18, false)), .fldA 1 (.tf 19)⟩,
⟨(some 21), (some (18, false)), .load false 1 (.tf 20)⟩,
⟨(some 22), (some (18, false)), .mv (.t 1)⟩,
⟨(some 23), (some (18, false)), .ixA 1 (.t 21) (.t 22)⟩,
⟨(some 24), (some (18, false)), .load false 1 (.t 23)⟩,
⟨(some 25), (some (18, false)), .fldA 3 (.tf 2)⟩,
⟨(some 26), (some (18, false)), .load false 1 (.tf 25)⟩,
⟨(some 27), (some (18, false)), .bin .and .no (.t 24) (.t 26)⟩,
⟨(some 28), (some (18, false)), .bin .eql .no (.t 27) (.c (.int .i64 0))⟩,
⟨(some 29), (some (11, true)), .pick (.t 18) (.c (.bool true)) (.t 28)⟩,
⟨some 30,none,.pick (.t 11) (.t 29) (.c (.bool false))⟩,
⟨some 4,none,.mv (.t 30)⟩]
def x__circuit_state__conducts : XFunc := { np := 2, res := [.t 4], body :=
  (.seq (.reg j1i) (.seq (.reg j1j) .ret)) }
@[go_sem] def j1k : List XO := [
⟨some 3,none,.mv (.c (.bool false))⟩]
@[go_sem] def j1l : List XO := [
⟨some 4,none,.load true 6 (.t 1)⟩,
⟨some 5,none,.mv (.t 0)⟩,
⟨some 6,none,.call "(newel/circuit.state).wire" [.t 4, .t 5]⟩,
⟨some 7,none,.un .not (.t 6)⟩,
⟨some 3,none,.mv (.t 7)⟩]
def x__circuit_state__wireD1 : XFunc := { np := 2, res := [.t 3], body :=
  (.seq (.reg j1k) (.seq (.reg j1l) .ret)) }
@[go_sem] def j4j : List XO := [
⟨some 2,none,.mv (.c (.bool false))⟩]
@[go_sem] def j4k : List XO := [
⟨some 3,none,.mv (.t 0)⟩,
⟨some 4,none,.mv (.t 0)⟩,
⟨some 5,none,.bin .neq .no (.t 3) (.t 4)⟩,
⟨some 2,none,.mv (.t 5)⟩]
def x_cmp_isNaN_int_ : XFunc := { np := 1, res := [.t 2], body :=
  (.seq (.reg j4j) (.seq (.reg j4k) .ret)) }
@[go_sem] def j5w : List XO := [
⟨some 4,none,.boxF (.t 0)⟩,
⟨some 8,none,.mv (.c (.int .i64 0))⟩]
@[go_sem] def j5x : List XO := [
⟨some 12,none,.fldA 2 (.tf 4)⟩,
⟨some 13,none,.load false 1 (.tf 12)⟩,
⟨some 14,none,.mv (.t 2)⟩,
⟨some 15,none,.bin .mul .no (.t 13) (.t 14)⟩,
⟨some 16,none,.fldA 3 (.tf 4)⟩,
⟨some 17,none,.load false 1 (.tf 16)⟩,
⟨some 18,none,.mv (.t 3)⟩,
⟨some 19,none,.bin .add .no (.t 17) (.t 18)⟩,
⟨some 20,none,.fldA 1 (.tf 4)⟩,
⟨some 21,none,.load false 1 (.tf 20)⟩,
⟨some 22,none,.mv (.t 2)⟩,
⟨some 23,none,.bin .add .no (.t 21) (.t 22)⟩,
⟨some 9,none,.mv (.t 15)⟩,
⟨some 10,none,.mv (.t 19)⟩,
⟨some 11,none,.mv (.t 23)⟩]
@[go_sem] def j5y : List XO := [
⟨some 24,none,.fldA 0 (.tf 4)⟩,
⟨some 25,none,.load false 1 (.tf 24)⟩]
@[go_sem] def j5z : List XO := [
⟨some 26,none,.mv (.t 9)⟩,
⟨some 27,none,.un .neg (.t 26)⟩,
⟨some 9,none,.mv (.t 27)⟩]
@[go_sem] def j50 : List XO := [
⟨some 28,none,.mv (.t 1)⟩,
⟨some 29,none,.bin .lss .no (.t 28) (.c (.int .i64 0))⟩,
⟨some 30,none,.mv (.t 29)⟩,
⟨(some 31), (some (30, false)), .mv (.t 1)⟩,
⟨(some 32), (some (30, false)), .bin .eql .no (.t 31) (.c (.int .i64 0))⟩,
⟨(some 33), (some (30, false)), .mv (.t 32)⟩,
⟨(some 34), (some (33, true)), .mv (.t 9)⟩,
⟨(some 35), (some (33, true)), .bin .lss .no (.t 34) (.c (.int .i64 0))⟩,
⟨(some 36), (some (30, false)), .pick (.t 33) (.t 35) (.c (.bool false))⟩,
⟨some 37,none,.pick (.t 30) (.c (.bool true)) (.t 36)⟩]
@[go_sem] def j51 : List XO := [
⟨some 38,none,.mv (.t 1)⟩,
⟨some 39,none,.un .neg (.t 38)⟩,
⟨some 40,none,.mv (.t 9)⟩,
⟨some 41,none,.un .neg (.t 40)⟩,
⟨some 42,none,.mv (.t 10)⟩,
⟨some 43,none,.mv (.t 11)⟩,
⟨some 44,none,.call "newel/drive.ahead" [.t 39, .t 41, .t 42, .t 43]⟩,
⟨some 45,none,.un .neg (.t 44)⟩,
⟨some 8,none,.mv (.t 45)⟩]
@[go_sem] def j52 : List XO := [
⟨some 46,none,.mv (.t 1)⟩,
⟨some 47,none,.mv (.t 9)⟩,
⟨some 48,none,.mv (.t 10)⟩,
⟨some 49,none,.mv (.t 11)⟩,
⟨some 50,none,.call "newel/drive.ahead" [.t 46, .t 47, .t 48, .t 49]⟩,
⟨some 8,none,.mv (.t 50)⟩]
def x_drive_tick : XFunc := { np := 4, res := [.t 8], body :=
  (.seq (.reg j5w) (.seq (.reg j5x) (.seq (.seq (.reg j5y) (.cond (.t 25) (.reg j5z) .skip)) (.seq (.seq (.reg j50) (.cond (.t 37) (.seq (.reg j51) .ret) .skip)) (.seq (.reg j52) .ret))))) }
@[go_sem] def j05 : List XO := [
⟨some 2,none,.mv (.c (.int .i64 0))⟩]
@[go_sem] def j06 : List XO := [
⟨some 5,none,.mv (.t 0)⟩,
⟨some 6,none,.nilck (.t 5)⟩,
⟨some 7,none,.fldA 0 (.t 6)⟩,
⟨some 8,none,.fldA 5 (.t 7)⟩,
⟨some 9,none,.load false 1 (.t 8)⟩,
⟨some 10,none,.len false (.t 9)⟩,
⟨some 11,none,.mv (.c (.int .i64 0))⟩]
@[go_sem] def j07 : List XO := [
⟨some 12,none,.bin .lss .no (.t 11) (.t 10)⟩]
@[go_sem] def j08 : List XO := [
⟨some 13,none,.mv (.t 11)⟩,
⟨some 14,none,.ixA 2 (.t 9) (.t 11)⟩,
⟨some 15,none,.load true 2 (.t 14)⟩,
⟨some 4,none,.alloc [(.int .i64 0), (.int .i64 0)]⟩,
⟨some 3,none,.mv (.t 13)⟩,
⟨none, none, .store 2 (.t 4) (.t 15)⟩]
@[go_sem] def j09 : List XO := [
⟨some 16,none,.mv (.t 0)⟩,
⟨some 17,none,.nilck (.t 16)⟩,
⟨some 18,none,.fldA 6 (.t 17)⟩,
⟨some 19,none,.fldA 3 (.t 18)⟩,
⟨some 20,none,.load false 1 (.t 19)⟩,
⟨some 21,none,.mv (.t 3)⟩,
⟨some 22,none,.bin .shr .no (.t 20) (.t 21)⟩,
⟨some 23,none,.bin .and .no (.t 22) (.c (.int .i64 1))⟩,
⟨some 24,none,.bin .eql .no (.t 23) (.c (.int .i64 0))⟩,
⟨some 25,none,.mv (.t 24)⟩,
⟨(some 26), (some (25, true)), .fldA 1 (.t 4)⟩,
⟨(some 27), (some (25, true)), .load false 1 (.t 26)⟩,
⟨(some 28), (some (25, true)), .mv (.t 0)⟩,
⟨(some 29), (some (25, true)), .nilck (.t 28)⟩,
⟨(some 30), (some (25, true)), .fldA 11 (.t 29)⟩,
⟨(some 31), (some (25, true)), .load false 1 (.t 30)⟩,
⟨(some 32), (some (25, true)), .bin .leq .no (.t 27) (.t 31)⟩,
⟨some 33,none,.pick (.t 25) (.t 32) (.c (.bool false))⟩]
@[go_sem] def j1a : List XO := [
⟨some 34,none,.mv (.t 2)⟩,
⟨some 35,none,.fldA 0 (.t 4)⟩,
⟨some 36,none,.load false 1 (.t 35)⟩,
⟨some 37,none,.bin .add .no (.t 34) (.t 36)⟩,
⟨some 2,none,.mv (.t 37)⟩]
@[go_sem] def j1b : List XO := [
⟨some 38,none,.bin .add .no (.t 11) (.c (.int .i64 1))⟩,
⟨some 11,none,.mv (.t 38)⟩]
def j1d : XCode :=
  (.seq (.reg j07) (.seq (.cond (.t 12) .skip (.exit 0)) (.seq (.block 1 (.seq (.reg j08) (.seq (.reg j09) (.cond (.t 33) (.reg j1a) .skip)))) (.reg j1b))))
@[go_sem] def j1c : List XO := [
⟨some 39,none,.mv (.t 2)⟩,
⟨some 2,none,.mv (.t 39)⟩]
def x___drive_motion__grip : XFunc := { np := 1, res := [.t 2], body :=
  (.seq (.reg j05) (.seq (.seq (.reg j06) (.block 0 (.loop j1d))) (.seq (.reg j1c) .ret))) }
@[go_sem] def l33 : List XO := [
⟨some 4,none,.mv (.c (.int .i64 0))⟩]
@[go_sem] def l34 : List XO := [
⟨some 6,none,.mv (.t 0)⟩,
⟨some 7,none,.len false (.t 6)⟩,
⟨some 8,none,.mv (.c (.int .i64 0))⟩]
@[go_sem] def l35 : List XO := [
⟨some 9,none,.bin .lss .no (.t 8) (.t 7)⟩]
@[go_sem] def l36 : List XO := [
⟨some 10,none,.mv (.t 8)⟩,
⟨some 5,none,.mv (.t 10)⟩]
@[go_sem] def l37 : List XO := [
⟨some 11,none,.mv (.t 1)⟩,
⟨some 12,none,.mv (.t 0)⟩,
⟨some 13,none,.mv (.t 5)⟩,
⟨some 14,none,.ixA 1 (.t 12) (.t 13)⟩,
⟨some 15,none,.load false 1 (.t 14)⟩,
⟨some 16,none,.bin .eql .bool (.t 11) (.t 15)⟩]
@[go_sem] def l38 : List XO := [
⟨some 17,none,.mv (.t 5)⟩,
⟨some 4,none,.mv (.t 17)⟩]
@[go_sem] def l39 : List XO := [
⟨some 18,none,.bin .add .no (.t 8) (.c (.int .i64 1))⟩,
⟨some 8,none,.mv (.t 18)⟩]
def l4b : XCode :=
  (.seq (.reg l35) (.seq (.cond (.t 9) .skip (.exit 0)) (.seq (.block 1 (.seq (.reg l36) (.seq (.reg l37) (.cond (.t 16) (.seq (.reg l38) .ret) .skip)))) (.reg l39))))
@[go_sem] def l4a : List XO := [
⟨some 4,none,.mv (.c (.int .i64 (-1)))⟩]
def x_slices_Index___bool_bool_ : XFunc := { np := 2, res := [.t 4], body :=
  (.seq (.reg l33) (.seq (.seq (.reg l34) (.block 0 (.loop l4b))) (.seq (.reg l4a) .ret))) }
@[go_sem] def j47 : List XO := [
⟨some 8,none,.mv (.c (.int .i64 0))⟩]
@[go_sem] def j48 : List XO := [
⟨some 9,none,.mv (.t 0)⟩,
⟨some 10,none,.mv (.t 1)⟩,
⟨some 11,none,.mv (.t 2)⟩,
⟨some 12,none,.bin .sub .no (.t 10) (.t 11)⟩,
⟨some 13,none,.mv (.t 3)⟩,
⟨some 14,none,.call "newel/drive.floor" [.t 12, .t 13]⟩,
⟨some 15,none,.bin .add .no (.t 9) (.t 14)⟩,
⟨some 16,none,.max [(.c (.int .i64 0)), .t 15]⟩,
⟨some 8,none,.mv (.t 16)⟩]
def x_drive_ahead : XFunc := { np := 4, res := [.t 8], body :=
  (.seq (.reg j47) (.seq (.reg j48) .ret)) }
@[go_sem] def j5g : List XO := [
⟨some 4,none,.mv (.c (.int .i64 0))⟩]
@[go_sem] def j5h : List XO := [
⟨some 7,none,.mv (.t 0)⟩,
⟨some 8,none,.mv (.t 1)⟩,
⟨some 9,none,.bin .quo .no (.t 7) (.t 8)⟩,
⟨some 10,none,.mv (.t 0)⟩,
⟨some 11,none,.mv (.t 1)⟩,
⟨some 12,none,.bin .rem .no (.t 10) (.t 11)⟩,
⟨some 5,none,.mv (.t 9)⟩,
⟨some 6,none,.mv (.t 12)⟩]
@[go_sem] def j5i : List XO := [
⟨some 13,none,.mv (.t 6)⟩,
⟨some 14,none,.bin .lss .no (.t 13) (.c (.int .i64 0))⟩]
@[go_sem] def j5j : List XO := [
⟨some 15,none,.mv (.t 5)⟩,
⟨some 16,none,.bin .sub .no (.t 15) (.c (.int .i64 1))⟩,
⟨some 5,none,.mv (.t 16)⟩]
@[go_sem] def j5k : List XO := [
⟨some 17,none,.mv (.t 5)⟩,
⟨some 4,none,.mv (.t 17)⟩]
def x_drive_floor : XFunc := { np := 2, res := [.t 4], body :=
  (.seq (.reg j5g) (.seq (.reg j5h) (.seq (.seq (.reg j5i) (.cond (.t 14) (.reg j5j) .skip)) (.seq (.reg j5k) .ret)))) }
end Go.Nw.Top
