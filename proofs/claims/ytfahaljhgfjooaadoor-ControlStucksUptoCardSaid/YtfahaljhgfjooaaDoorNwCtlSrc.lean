/- The functions of a seat, as the abstract machine has them. -/
import Derived.Test.YtfahaljhgfjooaaDoorNwI
set_option linter.all false
namespace Go.Nw.Ctl
def b5u : List (List UInt8) := [[97, 110, 121], [116, 111], [122, 101, 114, 111], [109, 111, 114, 101], [108, 101, 115, 115], [105, 102], [121, 101, 115], [110, 111]]
def b55 : List GC := [.sl 1 (b5u.map fun s => [.string ⟨s.toArray⟩])]
@[go_sem] def m00 : List XO := [
 ⟨some 2,none,.boxF (.t 0)⟩,
 ⟨some 3,none,.boxF (.t 1)⟩,
 ⟨some 4,none,.mv (.c (.bool false))⟩]
@[go_sem] def m01 : List XO := [
 ⟨some 15,none,.load true 5 (.tf 2)⟩,
 ⟨some 16,none,.call "newel/newellaw04.Wide" [.t 15]⟩]
@[go_sem] def m02 : List XO := [
 ⟨some 17,none,.call "newel/newellaw04.works" []⟩,
 ⟨some 4,none,.mv (.t 17)⟩]
@[go_sem] def m03 : List XO := [
 ⟨some 19,none,.load true 5 (.tf 2)⟩,
 ⟨some 20,none,.call "newel/newelref04.Copy" [.t 19]⟩,
 ⟨some 21,none,.fldA 0 (.tf 3)⟩,
 ⟨some 22,none,.load false 1 (.tf 21)⟩,
 ⟨some 23,none,.call "newel/newelref04.CopyCond" [.t 22]⟩,
 ⟨some 24,none,.fldA 1 (.tf 3)⟩,
 ⟨some 25,none,.load false 1 (.tf 24)⟩,
 ⟨some 26,none,.call "newel/newelref04.CopyCond" [.t 25]⟩,
 ⟨some 27,none,.call "newel/control.Stuck" [.t 20, .t 23, .t 26]⟩,
 ⟨some 18,none,.mv (.t 27)⟩,
 ⟨some 28,none,.ext (.t 18) 0⟩,
 ⟨some 29,none,.ext (.t 18) 1⟩,
 ⟨some 30,none,.ext (.t 18) 2⟩,
 ⟨some 31,none,.ext (.t 18) 3⟩,
 ⟨some 32,none,.ext (.t 18) 4⟩,
 ⟨some 5,none,.mv (.t 28)⟩,
 ⟨some 6,none,.mv (.t 29)⟩,
 ⟨some 7,none,.mv (.t 30)⟩,
 ⟨some 8,none,.mv (.t 31)⟩,
 ⟨some 9,none,.mv (.t 32)⟩]
@[go_sem] def m04 : List XO := [
 ⟨some 34,none,.load true 5 (.tf 2)⟩,
 ⟨some 35,none,.fldA 0 (.tf 3)⟩,
 ⟨some 36,none,.load false 1 (.tf 35)⟩,
 ⟨some 37,none,.fldA 1 (.tf 3)⟩,
 ⟨some 38,none,.load false 1 (.tf 37)⟩,
 ⟨some 39,none,.call "newel/newelref04.Stuck" [.t 34, .t 36, .t 38]⟩,
 ⟨some 33,none,.mv (.t 39)⟩,
 ⟨some 40,none,.ext (.t 33) 0⟩,
 ⟨some 41,none,.ext (.t 33) 1⟩,
 ⟨some 42,none,.ext (.t 33) 2⟩,
 ⟨some 43,none,.ext (.t 33) 3⟩,
 ⟨some 44,none,.ext (.t 33) 4⟩,
 ⟨some 10,none,.mv (.t 40)⟩,
 ⟨some 11,none,.mv (.t 41)⟩,
 ⟨some 12,none,.mv (.t 42)⟩,
 ⟨some 13,none,.mv (.t 43)⟩,
 ⟨some 14,none,.mv (.t 44)⟩]
@[go_sem] def m05 : List XO := [
 ⟨some 45,none,.mv (.t 5)⟩,
 ⟨some 46,none,.mv (.t 10)⟩,
 ⟨some 47,none,.bin .eql .no (.t 45) (.t 46)⟩,
 ⟨some 48,none,.mv (.t 47)⟩,
 ⟨(some 49), (some (48, true)), .mv (.t 6)⟩,
 ⟨(some 50), (some (48, true)), .mv (.t 11)⟩,
 ⟨(some 51), (some (48, true)), .bin .eql .no (.t 49) (.t 50)⟩,
 ⟨some 52,none,.pick (.t 48) (.t 51) (.c (.bool false))⟩,
 ⟨some 53,none,.mv (.t 52)⟩,
 ⟨(some 54), (some (53, true)), .mv (.t 7)⟩,
 ⟨(some 55), (some (53, true)), .mv (.t 12)⟩,
 ⟨(some 56), (some (53, true)), .call "newel/newellaw04.sameInts" [.t 54, .t 55]⟩,
 ⟨some 57,none,.pick (.t 53) (.t 56) (.c (.bool false))⟩,
 ⟨some 58,none,.mv (.t 57)⟩,
 ⟨(some 59), (some (58, true)), .mv (.t 8)⟩,
 ⟨(some 60), (some (58, true)), .mv (.t 13)⟩,
 ⟨(some 61), (some (58, true)), .bin .eql .bool (.t 59) (.t 60)⟩,
 ⟨some 62,none,.pick (.t 58) (.t 61) (.c (.bool false))⟩,
 ⟨some 63,none,.mv (.t 62)⟩,
 ⟨(some 64), (some (63, true)), .mv (.t 9)⟩,
 ⟨(some 65), (some (63, true)), .mv (.t 14)⟩,
 ⟨(some 66), (some (63, true)), .bin .eql .no (.t 64) (.t 65)⟩,
 ⟨some 67,none,.pick (.t 63) (.t 66) (.c (.bool false))⟩,
 ⟨some 68,none,.mv (.t 67)⟩,
 ⟨(some 69), (some (68, true)), .call "newel/newellaw04.works" []⟩,
 ⟨some 70,none,.pick (.t 68) (.t 69) (.c (.bool false))⟩,
 ⟨some 4,none,.mv (.t 70)⟩]
def x_l04_ControlStucks : XFunc := { np := 2, res := [.t 4], body :=
 (.seq (.reg m00) (.seq (.seq (.reg m01) (.cond (.t 16) (.seq (.reg m02) .ret) .skip)) (.seq (.reg m03) (.seq (.reg m04) (.seq (.reg m05) .ret))))) }
@[go_sem] def m1f : List XO := [
 ⟨some 1,none,.boxF (.t 0)⟩,
 ⟨some 2,none,.mv (.c (.bool false))⟩]
@[go_sem] def m1g : List XO := [
 ⟨some 5,none,.load true 5 (.tf 1)⟩,
 ⟨some 6,none,.call "newel/newelref04.Check" [.t 5]⟩,
 ⟨some 7,none,.bin .neq .no (.t 6) (.c (.int .i64 0))⟩]
@[go_sem] def m1h : List XO := [
 ⟨some 2,none,.mv (.c (.bool false))⟩]
@[go_sem] def m1i : List XO := [
 ⟨some 8,none,.fldA 3 (.tf 1)⟩,
 ⟨some 9,none,.load false 1 (.tf 8)⟩,
 ⟨some 10,none,.len false (.t 9)⟩,
 ⟨some 3,none,.mv (.t 10)⟩]
@[go_sem] def m1j : List XO := [
 ⟨some 4,none,.mv (.c (.int .i64 0))⟩]
@[go_sem] def m1k : List XO := [
 ⟨some 11,none,.mv (.t 4)⟩,
 ⟨some 12,none,.fldA 2 (.tf 1)⟩,
 ⟨some 13,none,.load false 1 (.tf 12)⟩,
 ⟨some 14,none,.len false (.t 13)⟩,
 ⟨some 15,none,.bin .lss .no (.t 11) (.t 14)⟩]
@[go_sem] def m1l : List XO := [
 ⟨some 18,none,.mv (.t 3)⟩,
 ⟨some 19,none,.fldA 2 (.tf 1)⟩,
 ⟨some 20,none,.load false 1 (.tf 19)⟩,
 ⟨some 21,none,.mv (.t 4)⟩,
 ⟨some 22,none,.ixA 2 (.t 20) (.t 21)⟩,
 ⟨some 23,none,.fldA 1 (.t 22)⟩,
 ⟨some 24,none,.load false 1 (.t 23)⟩,
 ⟨some 25,none,.bin .add .no (.t 24) (.c (.int .i64 1))⟩,
 ⟨some 26,none,.bin .mul .no (.t 18) (.t 25)⟩,
 ⟨some 3,none,.mv (.t 26)⟩]
@[go_sem] def m1m : List XO := [
 ⟨some 16,none,.mv (.t 4)⟩,
 ⟨some 17,none,.bin .add .no (.t 16) (.c (.int .i64 1))⟩,
 ⟨some 4,none,.mv (.t 17)⟩]
def g16 : XCode :=
 (.seq (.seq (.reg m1k) (.cond (.t 15) .skip (.exit 0))) (.seq (.block 1 (.reg m1l)) (.reg m1m)))
@[go_sem] def m1n : List XO := [
 ⟨some 27,none,.fldA 0 (.tf 1)⟩,
 ⟨some 28,none,.load false 1 (.tf 27)⟩,
 ⟨some 29,none,.len false (.t 28)⟩,
 ⟨some 30,none,.bin .gtr .no (.t 29) (.c (.int .i64 3))⟩,
 ⟨some 31,none,.mv (.t 30)⟩,
 ⟨(some 32), (some (31, false)), .mv (.t 3)⟩,
 ⟨(some 33), (some (31, false)), .bin .gtr .no (.t 32) (.c (.int .i64 80))⟩,
 ⟨some 34,none,.pick (.t 31) (.c (.bool true)) (.t 33)⟩,
 ⟨some 2,none,.mv (.t 34)⟩]
def x_l04_Wide : XFunc := { np := 1, res := [.t 2], body :=
 (.seq (.reg m1f) (.seq (.seq (.reg m1g) (.cond (.t 7) (.seq (.reg m1h) .ret) .skip)) (.seq (.reg m1i) (.seq (.seq (.reg m1j) (.block 0 (.loop g16))) (.seq (.reg m1n) .ret))))) }
@[go_sem] def m1x : List XO := [
 ⟨some 0,none,.mv (.c (.bool false))⟩]
@[go_sem] def m1y : List XO := [
 ⟨some 7,none,.call "newel/newellaw04.Example" []⟩,
 ⟨some 1,none,.alloc [(.slice none 0 0), (.slice none 0 0), (.slice none 0 0), (.slice none 0 0), (.slice none 0 0)]⟩,
 ⟨none, none, .store 5 (.t 1) (.t 7)⟩]
@[go_sem] def m1z : List XO := [
 ⟨some 9,none,.load true 5 (.t 1)⟩,
 ⟨some 10,none,.build [(.int .i64 0), (.int .i64 0), (.int .i64 0), (.bool false)] [(0, 1, (.c (.int .i64 4)))]⟩,
 ⟨some 11,none,.build [(.int .i64 0), (.int .i64 0), (.int .i64 0), (.bool false)] [(0, 1, (.c (.int .i64 2))), (2, 1, (.c (.int .i64 2)))]⟩,
 ⟨some 12,none,.bsl 4 [.t 10, .t 11]⟩,
 ⟨some 13,none,.bsl 1 [.t 12]⟩,
 ⟨some 14,none,.call "newel/control.Breach" [.t 9, (.c (.slice none 0 0)), .t 13]⟩,
 ⟨some 8,none,.mv (.t 14)⟩,
 ⟨some 15,none,.ext (.t 8) 0⟩,
 ⟨some 16,none,.ext (.t 8) 1⟩,
 ⟨some 17,none,.ext (.t 8) 2⟩,
 ⟨some 2,none,.mv (.t 15)⟩,
 ⟨some 3,none,.mv (.t 16)⟩,
 ⟨some 4,none,.mv (.t 17)⟩]
@[go_sem] def m10 : List XO := [
 ⟨some 19,none,.load true 5 (.t 1)⟩,
 ⟨some 20,none,.call "newel/control.Classes" [.t 19]⟩,
 ⟨some 18,none,.mv (.t 20)⟩,
 ⟨some 21,none,.ext (.t 18) 0⟩,
 ⟨some 22,none,.ext (.t 18) 1⟩,
 ⟨some 5,none,.mv (.t 21)⟩,
 ⟨some 6,none,.mv (.t 22)⟩]
@[go_sem] def m11 : List XO := [
 ⟨some 23,none,.mv (.t 4)⟩,
 ⟨some 24,none,.bin .eql .no (.t 23) (.c (.int .i64 0))⟩,
 ⟨some 25,none,.mv (.t 24)⟩,
 ⟨(some 26), (some (25, true)), .mv (.t 6)⟩,
 ⟨(some 27), (some (25, true)), .bin .eql .no (.t 26) (.c (.int .i64 0))⟩,
 ⟨some 28,none,.pick (.t 25) (.t 27) (.c (.bool false))⟩,
 ⟨some 29,none,.mv (.t 28)⟩,
 ⟨(some 30), (some (29, true)), .mv (.t 3)⟩,
 ⟨some 31,none,.pick (.t 29) (.t 30) (.c (.bool false))⟩,
 ⟨some 32,none,.mv (.t 31)⟩,
 ⟨(some 33), (some (32, true)), .mv (.t 2)⟩,
 ⟨(some 34), (some (32, true)), .bsl 1 [(.c (.int .i64 1)), (.c (.int .i64 0)), (.c (.int .i64 0))]⟩,
 ⟨(some 35), (some (32, true)), .call "newel/newellaw04.sameInts" [.t 33, .t 34]⟩,
 ⟨some 36,none,.pick (.t 32) (.t 35) (.c (.bool false))⟩,
 ⟨some 37,none,.mv (.t 36)⟩,
 ⟨(some 38), (some (37, true)), .mv (.t 5)⟩,
 ⟨(some 39), (some (37, true)), .bsl 1 [(.c (.int .i64 0)), (.c (.int .i64 1)), (.c (.int .i64 2)), (.c (.int .i64 3)), (.c (.int .i64 0)), (.c (.int .i64 0))]⟩,
 ⟨(some 40), (some (37, true)), .call "newel/newellaw04.sameInts" [.t 38, .t 39]⟩,
 ⟨some 41,none,.pick (.t 37) (.t 40) (.c (.bool false))⟩,
 ⟨some 0,none,.mv (.t 41)⟩]
def x_l04_works : XFunc := { np := 0, res := [.t 0], body :=
 (.seq (.reg m1x) (.seq (.reg m1y) (.seq (.reg m1z) (.seq (.reg m10) (.seq (.reg m11) .ret))))) }
@[go_sem] def m3l : List XO := [
 ⟨some 1,none,.boxF (.t 0)⟩,
 ⟨some 2,none,.alloc [(.slice none 0 0), (.slice none 0 0), (.slice none 0 0), (.slice none 0 0), (.slice none 0 0)]⟩]
@[go_sem] def m3m : List XO := [
 ⟨some 6,none,.bsl 1 []⟩,
 ⟨some 7,none,.fldA 0 (.tf 1)⟩,
 ⟨some 8,none,.load false 1 (.tf 7)⟩,
 ⟨some 9,none,.app 1 16 (.t 6) (.t 8)⟩,
 ⟨some 10,none,.bsl 1 []⟩,
 ⟨some 11,none,.fldA 1 (.tf 1)⟩,
 ⟨some 12,none,.load false 1 (.tf 11)⟩,
 ⟨some 13,none,.app 1 16 (.t 10) (.t 12)⟩,
 ⟨some 14,none,.bsl 2 []⟩,
 ⟨some 15,none,.fldA 2 (.tf 1)⟩,
 ⟨some 16,none,.load false 1 (.tf 15)⟩,
 ⟨some 17,none,.app 2 24 (.t 14) (.t 16)⟩,
 ⟨some 18,none,.bsl 2 []⟩,
 ⟨some 19,none,.fldA 3 (.tf 1)⟩,
 ⟨some 20,none,.load false 1 (.tf 19)⟩,
 ⟨some 21,none,.app 2 24 (.t 18) (.t 20)⟩,
 ⟨some 22,none,.build [(.slice none 0 0), (.slice none 0 0), (.slice none 0 0), (.slice none 0 0), (.slice none 0 0)] [(0, 1, (.t 9)), (1, 1, (.t 13)), (2, 1, (.t 17)), (3, 1, (.t 21))]⟩,
 ⟨some 3,none,.alloc [(.slice none 0 0), (.slice none 0 0), (.slice none 0 0), (.slice none 0 0), (.slice none 0 0)]⟩,
 ⟨none, none, .store 5 (.t 3) (.t 22)⟩]
@[go_sem] def m3o : List XO := [
 ⟨some 4,none,.mv (.c (.int .i64 0))⟩]
@[go_sem] def m3p : List XO := [
 ⟨some 23,none,.mv (.t 4)⟩,
 ⟨some 24,none,.fldA 4 (.tf 1)⟩,
 ⟨some 25,none,.load false 1 (.tf 24)⟩,
 ⟨some 26,none,.len false (.t 25)⟩,
 ⟨some 27,none,.bin .lss .no (.t 23) (.t 26)⟩]
@[go_sem] def m3q : List XO := [
 ⟨some 30,none,.fldA 4 (.tf 1)⟩,
 ⟨some 31,none,.load false 1 (.tf 30)⟩,
 ⟨some 32,none,.mv (.t 4)⟩,
 ⟨some 33,none,.ixA 4 (.t 31) (.t 32)⟩,
 ⟨some 34,none,.load true 4 (.t 33)⟩,
 ⟨some 5,none,.alloc [(.int .i64 0), (.int .i64 0), (.slice none 0 0), (.slice none 0 0)]⟩,
 ⟨none, none, .store 4 (.t 5) (.t 34)⟩]
@[go_sem] def m3r : List XO := [
 ⟨some 35,none,.fldA 2 (.t 5)⟩,
 ⟨some 36,none,.load false 1 (.t 35)⟩,
 ⟨some 37,none,.call "newel/newelref04.CopyCond" [.t 36]⟩,
 ⟨some 38,none,.fldA 2 (.t 5)⟩,
 ⟨none, none, .store 1 (.t 38) (.t 37)⟩]
@[go_sem] def m3s : List XO := [
 ⟨some 39,none,.bsl 2 []⟩,
 ⟨some 40,none,.fldA 3 (.t 5)⟩,
 ⟨some 41,none,.load false 1 (.t 40)⟩,
 ⟨some 42,none,.app 2 16 (.t 39) (.t 41)⟩,
 ⟨some 43,none,.fldA 3 (.t 5)⟩,
 ⟨none, none, .store 1 (.t 43) (.t 42)⟩]
@[go_sem] def m3t : List XO := [
 ⟨some 44,none,.fldA 4 (.t 3)⟩,
 ⟨some 45,none,.load false 1 (.t 44)⟩,
 ⟨some 46,none,.load true 4 (.t 5)⟩,
 ⟨some 47,none,.bsl 4 [.t 46]⟩,
 ⟨some 48,none,.app 4 64 (.t 45) (.t 47)⟩,
 ⟨some 49,none,.fldA 4 (.t 3)⟩,
 ⟨none, none, .store 1 (.t 49) (.t 48)⟩]
@[go_sem] def m3u : List XO := [
 ⟨some 28,none,.mv (.t 4)⟩,
 ⟨some 29,none,.bin .add .no (.t 28) (.c (.int .i64 1))⟩,
 ⟨some 4,none,.mv (.t 29)⟩]
def g2g : XCode :=
 (.seq (.seq (.reg m3p) (.cond (.t 27) .skip (.exit 0))) (.seq (.block 1 (.seq (.reg m3q) (.seq (.reg m3r) (.seq (.reg m3s) (.seq .ghost (.reg m3t)))))) (.reg m3u)))
@[go_sem] def m3n : List XO := [
 ⟨some 50,none,.load true 5 (.t 3)⟩,
 ⟨none, none, .store 5 (.t 2) (.t 50)⟩]
def x_r04_Copy : XFunc := { np := 1, res := [.cell 2 true 5], body :=
 (.seq (.reg m3l) (.seq (.reg m3m) (.seq (.seq (.reg m3o) (.block 0 (.loop g2g))) (.seq (.reg m3n) .ret)))) }
@[go_sem] def m3e : List XO := [
 ⟨some 2,none,.mv (.c (.slice none 0 0))⟩]
@[go_sem] def m3f : List XO := [
 ⟨some 3,none,.mv (.c (.slice none 0 0))⟩]
@[go_sem] def m3g : List XO := [
 ⟨some 4,none,.mv (.c (.int .i64 0))⟩]
@[go_sem] def m3h : List XO := [
 ⟨some 5,none,.mv (.t 4)⟩,
 ⟨some 6,none,.mv (.t 0)⟩,
 ⟨some 7,none,.len false (.t 6)⟩,
 ⟨some 8,none,.bin .lss .no (.t 5) (.t 7)⟩]
@[go_sem] def m3i : List XO := [
 ⟨some 11,none,.mv (.t 3)⟩,
 ⟨some 12,none,.bsl 4 []⟩,
 ⟨some 13,none,.mv (.t 0)⟩,
 ⟨some 14,none,.mv (.t 4)⟩,
 ⟨some 15,none,.ixA 1 (.t 13) (.t 14)⟩,
 ⟨some 16,none,.load false 1 (.t 15)⟩,
 ⟨some 17,none,.app 4 32 (.t 12) (.t 16)⟩,
 ⟨some 18,none,.bsl 1 [.t 17]⟩,
 ⟨some 19,none,.app 1 24 (.t 11) (.t 18)⟩,
 ⟨some 3,none,.mv (.t 19)⟩]
@[go_sem] def m3j : List XO := [
 ⟨some 9,none,.mv (.t 4)⟩,
 ⟨some 10,none,.bin .add .no (.t 9) (.c (.int .i64 1))⟩,
 ⟨some 4,none,.mv (.t 10)⟩]
def g2f : XCode :=
 (.seq (.seq (.reg m3h) (.cond (.t 8) .skip (.exit 0))) (.seq (.block 1 (.seq (.reg m3i) .ghost)) (.reg m3j)))
@[go_sem] def m3k : List XO := [
 ⟨some 20,none,.mv (.t 3)⟩,
 ⟨some 2,none,.mv (.t 20)⟩]
def x_r04_CopyCond : XFunc := { np := 1, res := [.t 2], body :=
 (.seq (.reg m3e) (.seq (.reg m3f) (.seq (.seq (.reg m3g) (.block 0 (.loop g2f))) (.seq (.reg m3k) .ret)))) }
@[go_sem] def l95 : List XO := [
 ⟨some 3,none,.boxF (.t 0)⟩,
 ⟨some 6,none,.mv (.c (.int .i64 0))⟩,
 ⟨some 7,none,.mv (.c (.int .i64 0))⟩,
 ⟨some 8,none,.mv (.c (.slice none 0 0))⟩,
 ⟨some 9,none,.mv (.c (.bool false))⟩,
 ⟨some 10,none,.mv (.c (.int .i64 0))⟩]
@[go_sem] def l96 : List XO := [
 ⟨some 13,none,.load true 5 (.tf 3)⟩,
 ⟨some 14,none,.mv (.t 1)⟩,
 ⟨some 15,none,.mv (.t 2)⟩,
 ⟨some 16,none,.bsl 1 [.t 14, .t 15]⟩,
 ⟨some 17,none,.call "newel/control.check" [.t 13, .t 16]⟩,
 ⟨some 10,none,.mv (.t 17)⟩]
@[go_sem] def m0d : List XO := [
 ⟨some 18,none,.mv (.t 10)⟩,
 ⟨some 19,none,.bin .neq .no (.t 18) (.c (.int .i64 0))⟩]
@[go_sem] def m0e : List XO := [
 ⟨some 20,none,.mv (.t 10)⟩,
 ⟨some 6,none,.mv (.c (.int .i64 0))⟩,
 ⟨some 7,none,.mv (.c (.int .i64 0))⟩,
 ⟨some 8,none,.mv (.c (.slice none 0 0))⟩,
 ⟨some 9,none,.mv (.c (.bool false))⟩,
 ⟨some 10,none,.mv (.t 20)⟩]
@[go_sem] def m0f : List XO := [
 ⟨some 21,none,.fldA 0 (.tf 3)⟩,
 ⟨some 22,none,.load false 1 (.tf 21)⟩,
 ⟨some 23,none,.len false (.t 22)⟩,
 ⟨some 24,none,.mv (.c (.int .i64 0))⟩]
@[go_sem] def m0g : List XO := [
 ⟨some 25,none,.bin .lss .no (.t 24) (.t 23)⟩]
@[go_sem] def m0h : List XO := [
 ⟨some 26,none,.mv (.t 24)⟩,
 ⟨some 11,none,.alloc [(.int .i64 0)]⟩,
 ⟨none, none, .store 1 (.t 11) (.t 26)⟩]
@[go_sem] def m0i : List XO := [
 ⟨some 27,none,.mv (.c (.int .i64 0))⟩]
@[go_sem] def m0j : List XO := [
 ⟨some 28,none,.bin .lss .no (.t 27) (.c (.int .i64 2))⟩]
@[go_sem] def m0k : List XO := [
 ⟨some 29,none,.mv (.t 27)⟩,
 ⟨some 12,none,.alloc [(.int .i64 0)]⟩,
 ⟨none, none, .store 1 (.t 12) (.t 29)⟩]
@[go_sem] def l97 : List XO := [
 ⟨some 31,none,.load true 5 (.tf 3)⟩,
 ⟨some 32,none,.call "newel/control.of" [.t 31]⟩,
 ⟨some 33,none,.mv (.t 1)⟩,
 ⟨some 34,none,.mv (.t 2)⟩,
 ⟨some 35,none,.mkfn "newel/control.Stuck$1" [] [.t 11, .t 12]⟩,
 ⟨some 36,none,.call "(newel/control.plant).breach" [.t 32, .t 33, .t 34, .t 35]⟩,
 ⟨some 30,none,.mv (.t 36)⟩,
 ⟨some 37,none,.ext (.t 30) 0⟩,
 ⟨some 38,none,.ext (.t 30) 1⟩,
 ⟨some 8,none,.mv (.t 37)⟩,
 ⟨some 9,none,.mv (.t 38)⟩]
@[go_sem] def l98 : List XO := [
 ⟨some 39,none,.mv (.t 9)⟩]
@[go_sem] def l99 : List XO := [
 ⟨some 40,none,.load false 1 (.t 11)⟩,
 ⟨some 41,none,.load false 1 (.t 12)⟩,
 ⟨some 42,none,.mv (.t 8)⟩,
 ⟨some 6,none,.mv (.t 40)⟩,
 ⟨some 7,none,.mv (.t 41)⟩,
 ⟨some 8,none,.mv (.t 42)⟩,
 ⟨some 9,none,.mv (.c (.bool true))⟩,
 ⟨some 10,none,.mv (.c (.int .i64 0))⟩]
@[go_sem] def m0a : List XO := [
 ⟨some 43,none,.bin .add .no (.t 27) (.c (.int .i64 1))⟩,
 ⟨some 27,none,.mv (.t 43)⟩]
def g13 : XCode :=
 (.seq (.reg m0j) (.seq (.cond (.t 28) .skip (.exit 2)) (.seq (.block 3 (.seq (.seq (.reg m0k) .ghost) (.seq (.reg l97) (.seq (.reg l98) (.cond (.t 39) (.seq (.reg l99) .ret) .skip))))) (.reg m0a))))
@[go_sem] def m0b : List XO := [
 ⟨some 44,none,.bin .add .no (.t 24) (.c (.int .i64 1))⟩,
 ⟨some 24,none,.mv (.t 44)⟩]
def g14 : XCode :=
 (.seq (.reg m0g) (.seq (.cond (.t 25) .skip (.exit 0)) (.seq (.block 1 (.seq (.seq (.reg m0h) .ghost) (.seq (.reg m0i) (.block 2 (.loop g13))))) (.reg m0b))))
@[go_sem] def m0c : List XO := [
 ⟨some 6,none,.mv (.c (.int .i64 0))⟩,
 ⟨some 7,none,.mv (.c (.int .i64 0))⟩,
 ⟨some 8,none,.mv (.c (.slice none 0 0))⟩,
 ⟨some 9,none,.mv (.c (.bool false))⟩,
 ⟨some 10,none,.mv (.c (.int .i64 0))⟩]
def x_control_Stuck : XFunc := { np := 3, res := [.t 6, .t 7, .t 8, .t 9, .t 10], body :=
 (.seq (.reg l95) (.seq (.seq (.reg l96) (.seq (.reg m0d) (.cond (.t 19) (.seq (.reg m0e) .ret) .skip))) (.seq (.seq (.reg m0f) (.block 0 (.loop g14))) (.seq (.reg m0c) .ret)))) }
@[go_sem] def m4z : List XO := [
 ⟨some 3,none,.boxF (.t 0)⟩,
 ⟨some 6,none,.mv (.c (.int .i64 0))⟩,
 ⟨some 7,none,.mv (.c (.int .i64 0))⟩,
 ⟨some 8,none,.mv (.c (.slice none 0 0))⟩,
 ⟨some 9,none,.mv (.c (.bool false))⟩,
 ⟨some 10,none,.mv (.c (.int .i64 0))⟩]
@[go_sem] def m40 : List XO := [
 ⟨some 17,none,.load true 5 (.tf 3)⟩,
 ⟨some 18,none,.mv (.t 1)⟩,
 ⟨some 19,none,.mv (.t 2)⟩,
 ⟨some 20,none,.bsl 1 [.t 18, .t 19]⟩,
 ⟨some 21,none,.call "newel/newelref04.CheckConds" [.t 17, .t 20]⟩,
 ⟨some 11,none,.mv (.t 21)⟩]
@[go_sem] def m46 : List XO := [
 ⟨some 22,none,.mv (.t 11)⟩,
 ⟨some 23,none,.bin .neq .no (.t 22) (.c (.int .i64 0))⟩]
@[go_sem] def m47 : List XO := [
 ⟨some 24,none,.mv (.t 11)⟩,
 ⟨some 6,none,.mv (.c (.int .i64 0))⟩,
 ⟨some 7,none,.mv (.c (.int .i64 0))⟩,
 ⟨some 8,none,.mv (.c (.slice none 0 0))⟩,
 ⟨some 9,none,.mv (.c (.bool false))⟩,
 ⟨some 10,none,.mv (.t 24)⟩]
@[go_sem] def m48 : List XO := [
 ⟨some 12,none,.mv (.c (.int .i64 0))⟩]
@[go_sem] def m49 : List XO := [
 ⟨some 25,none,.mv (.t 12)⟩,
 ⟨some 26,none,.fldA 0 (.tf 3)⟩,
 ⟨some 27,none,.load false 1 (.tf 26)⟩,
 ⟨some 28,none,.len false (.t 27)⟩,
 ⟨some 29,none,.bin .lss .no (.t 25) (.t 28)⟩]
@[go_sem] def m5a : List XO := [
 ⟨some 13,none,.mv (.c (.int .i64 0))⟩]
@[go_sem] def m5b : List XO := [
 ⟨some 32,none,.mv (.t 13)⟩,
 ⟨some 33,none,.bin .lss .no (.t 32) (.c (.int .i64 2))⟩]
@[go_sem] def m5c : List XO := [
 ⟨some 36,none,.load true 5 (.tf 3)⟩,
 ⟨some 37,none,.mv (.t 1)⟩,
 ⟨some 38,none,.mv (.t 12)⟩,
 ⟨some 39,none,.mv (.t 13)⟩,
 ⟨some 40,none,.call "newel/newelref04.explore" [.t 36, .t 37, .t 38, .t 39]⟩,
 ⟨some 14,none,.alloc [(.slice none 0 0), (.slice none 0 0), (.slice none 0 0)]⟩,
 ⟨none, none, .store 3 (.t 14) (.t 40)⟩]
@[go_sem] def m5d : List XO := [
 ⟨some 42,none,.load true 3 (.t 14)⟩,
 ⟨some 43,none,.load true 5 (.tf 3)⟩,
 ⟨some 44,none,.mv (.t 2)⟩,
 ⟨some 45,none,.call "(newel/newelref04.graph).breach" [.t 42, .t 43, .t 44]⟩,
 ⟨some 41,none,.mv (.t 45)⟩,
 ⟨some 46,none,.ext (.t 41) 0⟩,
 ⟨some 47,none,.ext (.t 41) 1⟩,
 ⟨some 15,none,.mv (.t 46)⟩,
 ⟨some 16,none,.mv (.t 47)⟩]
@[go_sem] def m41 : List XO := [
 ⟨some 48,none,.mv (.t 16)⟩]
@[go_sem] def m42 : List XO := [
 ⟨some 49,none,.mv (.t 12)⟩,
 ⟨some 50,none,.mv (.t 13)⟩,
 ⟨some 51,none,.mv (.t 15)⟩,
 ⟨some 6,none,.mv (.t 49)⟩,
 ⟨some 7,none,.mv (.t 50)⟩,
 ⟨some 8,none,.mv (.t 51)⟩,
 ⟨some 9,none,.mv (.c (.bool true))⟩,
 ⟨some 10,none,.mv (.c (.int .i64 0))⟩]
@[go_sem] def m43 : List XO := [
 ⟨some 34,none,.mv (.t 13)⟩,
 ⟨some 35,none,.bin .add .no (.t 34) (.c (.int .i64 1))⟩,
 ⟨some 13,none,.mv (.t 35)⟩]
def g2l : XCode :=
 (.seq (.seq (.reg m5b) (.cond (.t 33) .skip (.exit 2))) (.seq (.block 3 (.seq (.reg m5c) (.seq (.reg m5d) (.seq (.reg m41) (.cond (.t 48) (.seq (.reg m42) .ret) .skip))))) (.reg m43)))
@[go_sem] def m44 : List XO := [
 ⟨some 30,none,.mv (.t 12)⟩,
 ⟨some 31,none,.bin .add .no (.t 30) (.c (.int .i64 1))⟩,
 ⟨some 12,none,.mv (.t 31)⟩]
def g2m : XCode :=
 (.seq (.seq (.reg m49) (.cond (.t 29) .skip (.exit 0))) (.seq (.block 1 (.seq (.reg m5a) (.block 2 (.loop g2l)))) (.reg m44)))
@[go_sem] def m45 : List XO := [
 ⟨some 6,none,.mv (.c (.int .i64 0))⟩,
 ⟨some 7,none,.mv (.c (.int .i64 0))⟩,
 ⟨some 8,none,.mv (.c (.slice none 0 0))⟩,
 ⟨some 9,none,.mv (.c (.bool false))⟩,
 ⟨some 10,none,.mv (.c (.int .i64 0))⟩]
def x_r04_Stuck : XFunc := { np := 3, res := [.t 6, .t 7, .t 8, .t 9, .t 10], body :=
 (.seq (.reg m4z) (.seq (.reg m40) (.seq (.seq (.reg m46) (.cond (.t 23) (.seq (.reg m47) .ret) .skip)) (.seq (.seq (.reg m48) (.block 0 (.loop g2m))) (.seq (.reg m45) .ret))))) }
@[go_sem] def m1o : List XO := [
 ⟨some 4,none,.mv (.c (.bool false))⟩]
@[go_sem] def m1p : List XO := [
 ⟨some 6,none,.mv (.t 0)⟩,
 ⟨some 7,none,.len false (.t 6)⟩,
 ⟨some 8,none,.mv (.t 1)⟩,
 ⟨some 9,none,.len false (.t 8)⟩,
 ⟨some 10,none,.bin .neq .no (.t 7) (.t 9)⟩]
@[go_sem] def m1q : List XO := [
 ⟨some 4,none,.mv (.c (.bool false))⟩]
@[go_sem] def m1r : List XO := [
 ⟨some 5,none,.mv (.c (.int .i64 0))⟩]
@[go_sem] def m1s : List XO := [
 ⟨some 11,none,.mv (.t 5)⟩,
 ⟨some 12,none,.mv (.t 0)⟩,
 ⟨some 13,none,.len false (.t 12)⟩,
 ⟨some 14,none,.bin .lss .no (.t 11) (.t 13)⟩]
@[go_sem] def m1t : List XO := [
 ⟨some 17,none,.mv (.t 0)⟩,
 ⟨some 18,none,.mv (.t 5)⟩,
 ⟨some 19,none,.ixA 1 (.t 17) (.t 18)⟩,
 ⟨some 20,none,.load false 1 (.t 19)⟩,
 ⟨some 21,none,.mv (.t 1)⟩,
 ⟨some 22,none,.mv (.t 5)⟩,
 ⟨some 23,none,.ixA 1 (.t 21) (.t 22)⟩,
 ⟨some 24,none,.load false 1 (.t 23)⟩,
 ⟨some 25,none,.bin .neq .no (.t 20) (.t 24)⟩]
@[go_sem] def m1u : List XO := [
 ⟨some 4,none,.mv (.c (.bool false))⟩]
@[go_sem] def m1v : List XO := [
 ⟨some 15,none,.mv (.t 5)⟩,
 ⟨some 16,none,.bin .add .no (.t 15) (.c (.int .i64 1))⟩,
 ⟨some 5,none,.mv (.t 16)⟩]
def g17 : XCode :=
 (.seq (.seq (.reg m1s) (.cond (.t 14) .skip (.exit 0))) (.seq (.block 1 (.seq (.reg m1t) (.cond (.t 25) (.seq (.reg m1u) .ret) .skip))) (.reg m1v)))
@[go_sem] def m1w : List XO := [
 ⟨some 4,none,.mv (.c (.bool true))⟩]
def x_l04_sameInts : XFunc := { np := 2, res := [.t 4], body :=
 (.seq (.reg m1o) (.seq (.seq (.reg m1p) (.cond (.t 10) (.seq (.reg m1q) .ret) .skip)) (.seq (.seq (.reg m1r) (.block 0 (.loop g17))) (.seq (.reg m1w) .ret)))) }
@[go_sem] def l8l : List XO := [
 ⟨some 3,none,.boxF (.t 0)⟩,
 ⟨some 6,none,.mv (.c (.slice none 0 0))⟩,
 ⟨some 7,none,.mv (.c (.bool false))⟩,
 ⟨some 8,none,.mv (.c (.int .i64 0))⟩]
@[go_sem] def l8m : List XO := [
 ⟨some 9,none,.load true 5 (.tf 3)⟩,
 ⟨some 10,none,.mv (.t 1)⟩,
 ⟨some 11,none,.mv (.t 2)⟩,
 ⟨some 12,none,.bsl 1 [.t 10, .t 11]⟩,
 ⟨some 13,none,.call "newel/control.check" [.t 9, .t 12]⟩,
 ⟨some 8,none,.mv (.t 13)⟩]
@[go_sem] def l8n : List XO := [
 ⟨some 14,none,.mv (.t 8)⟩,
 ⟨some 15,none,.bin .neq .no (.t 14) (.c (.int .i64 0))⟩]
@[go_sem] def l8o : List XO := [
 ⟨some 16,none,.mv (.t 8)⟩,
 ⟨some 6,none,.mv (.c (.slice none 0 0))⟩,
 ⟨some 7,none,.mv (.c (.bool false))⟩,
 ⟨some 8,none,.mv (.t 16)⟩]
@[go_sem] def l8p : List XO := [
 ⟨some 18,none,.load true 5 (.tf 3)⟩,
 ⟨some 19,none,.call "newel/control.of" [.t 18]⟩,
 ⟨some 20,none,.mv (.t 1)⟩,
 ⟨some 21,none,.mv (.t 2)⟩,
 ⟨some 22,none,.call "(newel/control.plant).breach" [.t 19, .t 20, .t 21, (.f "newel/control.same")]⟩,
 ⟨some 17,none,.mv (.t 22)⟩,
 ⟨some 23,none,.ext (.t 17) 0⟩,
 ⟨some 24,none,.ext (.t 17) 1⟩,
 ⟨some 6,none,.mv (.t 23)⟩,
 ⟨some 7,none,.mv (.t 24)⟩]
@[go_sem] def l8q : List XO := [
 ⟨some 25,none,.mv (.t 6)⟩,
 ⟨some 26,none,.mv (.t 7)⟩,
 ⟨some 6,none,.mv (.t 25)⟩,
 ⟨some 7,none,.mv (.t 26)⟩,
 ⟨some 8,none,.mv (.c (.int .i64 0))⟩]
def x_control_Breach : XFunc := { np := 3, res := [.t 6, .t 7, .t 8], body :=
 (.seq (.reg l8l) (.seq (.seq (.reg l8m) (.seq (.reg l8n) (.cond (.t 15) (.seq (.reg l8o) .ret) .skip))) (.seq (.reg l8p) (.seq (.reg l8q) .ret)))) }
@[go_sem] def m14 : List XO := [
 ⟨some 2,none,.boxF (.t 0)⟩,
 ⟨some 4,none,.mv (.c (.int .i64 0))⟩]
@[go_sem] def m15 : List XO := [
 ⟨some 7,none,.load true 5 (.tf 2)⟩,
 ⟨some 8,none,.call "newel/newelref04.Check" [.t 7]⟩,
 ⟨some 5,none,.mv (.t 8)⟩]
@[go_sem] def m17 : List XO := [
 ⟨some 9,none,.mv (.t 5)⟩,
 ⟨some 10,none,.bin .neq .no (.t 9) (.c (.int .i64 0))⟩]
@[go_sem] def m18 : List XO := [
 ⟨some 11,none,.mv (.t 5)⟩,
 ⟨some 4,none,.mv (.t 11)⟩]
@[go_sem] def m19 : List XO := [
 ⟨some 6,none,.mv (.c (.int .i64 0))⟩]
@[go_sem] def m2a : List XO := [
 ⟨some 12,none,.mv (.t 6)⟩,
 ⟨some 13,none,.mv (.t 1)⟩,
 ⟨some 14,none,.len false (.t 13)⟩,
 ⟨some 15,none,.bin .lss .no (.t 12) (.t 14)⟩]
@[go_sem] def m2b : List XO := [
 ⟨some 18,none,.load true 5 (.tf 2)⟩,
 ⟨some 19,none,.mv (.t 1)⟩,
 ⟨some 20,none,.mv (.t 6)⟩,
 ⟨some 21,none,.ixA 1 (.t 19) (.t 20)⟩,
 ⟨some 22,none,.load false 1 (.t 21)⟩,
 ⟨some 23,none,.call "newel/newelref04.condition" [.t 18, .t 22, (.c (.bool true))]⟩,
 ⟨some 24,none,.un .not (.t 23)⟩]
@[go_sem] def m2c : List XO := [
 ⟨some 4,none,.mv (.c (.int .i64 42))⟩]
@[go_sem] def m2d : List XO := [
 ⟨some 16,none,.mv (.t 6)⟩,
 ⟨some 17,none,.bin .add .no (.t 16) (.c (.int .i64 1))⟩,
 ⟨some 6,none,.mv (.t 17)⟩]
def g18 : XCode :=
 (.seq (.seq (.reg m2a) (.cond (.t 15) .skip (.exit 0))) (.seq (.block 1 (.seq (.reg m2b) (.cond (.t 24) (.seq (.reg m2c) .ret) .skip))) (.reg m2d)))
@[go_sem] def m16 : List XO := [
 ⟨some 4,none,.mv (.c (.int .i64 0))⟩]
def x_r04_CheckConds : XFunc := { np := 2, res := [.t 4], body :=
 (.seq (.reg m14) (.seq (.reg m15) (.seq (.seq (.reg m17) (.cond (.t 10) (.seq (.reg m18) .ret) .skip)) (.seq (.seq (.reg m19) (.block 0 (.loop g18))) (.seq (.reg m16) .ret))))) }
@[go_sem] def m12 : List XO := [
 ⟨some 4,none,.boxF (.t 0)⟩,
 ⟨some 5,none,.boxF (.t 1)⟩,
 ⟨some 8,none,.mv (.c (.bool false))⟩]
@[go_sem] def m13 : List XO := [
 ⟨some 9,none,.mv (.t 3)⟩,
 ⟨some 10,none,.len false (.t 9)⟩,
 ⟨some 11,none,.bin .eql .no (.t 10) (.c (.int .i64 0))⟩,
 ⟨some 12,none,.mv (.t 11)⟩,
 ⟨(some 13), (some (12, false)), .load true 5 (.tf 4)⟩,
 ⟨(some 14), (some (12, false)), .load true 3 (.tf 5)⟩,
 ⟨(some 15), (some (12, false)), .mv (.t 2)⟩,
 ⟨(some 16), (some (12, false)), .mv (.t 3)⟩,
 ⟨(some 17), (some (12, false)), .call "newel/newelref04.Holds" [.t 13, .t 14, .t 15, .t 16]⟩,
 ⟨some 18,none,.pick (.t 12) (.c (.bool true)) (.t 17)⟩,
 ⟨some 8,none,.mv (.t 18)⟩]
def x_r04_Allows : XFunc := { np := 4, res := [.t 8], body :=
 (.seq (.reg m12) (.seq (.reg m13) .ret)) }
@[go_sem] def m2e : List XO := [
 ⟨some 1,none,.boxF (.t 0)⟩,
 ⟨some 2,none,.mv (.c (.int .i64 0))⟩]
@[go_sem] def m2f : List XO := [
 ⟨some 11,none,.fldA 0 (.tf 1)⟩,
 ⟨some 12,none,.load false 1 (.tf 11)⟩,
 ⟨some 13,none,.len false (.t 12)⟩,
 ⟨some 14,none,.bin .gtr .no (.t 13) (.c (.int .i64 4))⟩,
 ⟨some 15,none,.mv (.t 14)⟩,
 ⟨(some 16), (some (15, false)), .fldA 1 (.tf 1)⟩,
 ⟨(some 17), (some (15, false)), .load false 1 (.tf 16)⟩,
 ⟨(some 18), (some (15, false)), .len false (.t 17)⟩,
 ⟨(some 19), (some (15, false)), .bin .gtr .no (.t 18) (.c (.int .i64 6))⟩,
 ⟨some 20,none,.pick (.t 15) (.c (.bool true)) (.t 19)⟩,
 ⟨some 21,none,.mv (.t 20)⟩,
 ⟨(some 22), (some (21, false)), .fldA 2 (.tf 1)⟩,
 ⟨(some 23), (some (21, false)), .load false 1 (.tf 22)⟩,
 ⟨(some 24), (some (21, false)), .len false (.t 23)⟩,
 ⟨(some 25), (some (21, false)), .bin .gtr .no (.t 24) (.c (.int .i64 2))⟩,
 ⟨some 26,none,.pick (.t 21) (.c (.bool true)) (.t 25)⟩,
 ⟨some 27,none,.mv (.t 26)⟩,
 ⟨(some 28), (some (27, false)), .fldA 3 (.tf 1)⟩,
 ⟨(some 29), (some (27, false)), .load false 1 (.tf 28)⟩,
 ⟨(some 30), (some (27, false)), .len false (.t 29)⟩,
 ⟨(some 31), (some (27, false)), .call "newel/newelref04.from" [.t 30, (.c (.int .i64 1)), (.c (.int .i64 12))]⟩,
 ⟨(some 32), (some (27, false)), .un .not (.t 31)⟩,
 ⟨some 33,none,.pick (.t 27) (.c (.bool true)) (.t 32)⟩,
 ⟨some 34,none,.mv (.t 33)⟩,
 ⟨(some 35), (some (34, false)), .fldA 4 (.tf 1)⟩,
 ⟨(some 36), (some (34, false)), .load false 1 (.tf 35)⟩,
 ⟨(some 37), (some (34, false)), .len false (.t 36)⟩,
 ⟨(some 38), (some (34, false)), .bin .gtr .no (.t 37) (.c (.int .i64 40))⟩,
 ⟨some 39,none,.pick (.t 34) (.c (.bool true)) (.t 38)⟩]
@[go_sem] def m2o : List XO := [
 ⟨some 2,none,.mv (.c (.int .i64 41))⟩]
@[go_sem] def m2x : List XO := [
 ⟨some 40,none,.load true 5 (.tf 1)⟩,
 ⟨some 41,none,.call "newel/newelref04.names" [.t 40]⟩,
 ⟨some 3,none,.mv (.t 41)⟩]
@[go_sem] def m27 : List XO := [
 ⟨some 4,none,.mv (.c (.int .i64 0))⟩]
@[go_sem] def m29 : List XO := [
 ⟨some 42,none,.mv (.t 4)⟩,
 ⟨some 43,none,.mv (.t 3)⟩,
 ⟨some 44,none,.len false (.t 43)⟩,
 ⟨some 45,none,.bin .lss .no (.t 42) (.t 44)⟩]
@[go_sem] def m3a : List XO := [
 ⟨some 48,none,.mv (.t 3)⟩,
 ⟨some 49,none,.mv (.t 4)⟩,
 ⟨some 50,none,.ixA 1 (.t 48) (.t 49)⟩,
 ⟨some 51,none,.load false 1 (.t 50)⟩,
 ⟨some 52,none,.len true (.t 51)⟩,
 ⟨some 53,none,.bin .gtr .no (.t 52) (.c (.int .i64 8))⟩,
 ⟨some 54,none,.mv (.t 53)⟩,
 ⟨(some 55), (some (54, false)), .mv (.t 3)⟩,
 ⟨(some 56), (some (54, false)), .mv (.t 4)⟩,
 ⟨(some 57), (some (54, false)), .ixA 1 (.t 55) (.t 56)⟩,
 ⟨(some 58), (some (54, false)), .load false 1 (.t 57)⟩,
 ⟨(some 59), (some (54, false)), .call "newel/newelref04.Word" [.t 58]⟩,
 ⟨(some 60), (some (54, false)), .un .not (.t 59)⟩,
 ⟨some 61,none,.pick (.t 54) (.c (.bool true)) (.t 60)⟩]
@[go_sem] def m3b : List XO := [
 ⟨some 2,none,.mv (.c (.int .i64 41))⟩]
@[go_sem] def m3c : List XO := [
 ⟨some 5,none,.mv (.c (.int .i64 0))⟩]
@[go_sem] def m3d : List XO := [
 ⟨some 62,none,.mv (.t 5)⟩,
 ⟨some 63,none,.mv (.t 4)⟩,
 ⟨some 64,none,.bin .lss .no (.t 62) (.t 63)⟩]
@[go_sem] def m2g : List XO := [
 ⟨some 67,none,.mv (.t 3)⟩,
 ⟨some 68,none,.mv (.t 5)⟩,
 ⟨some 69,none,.ixA 1 (.t 67) (.t 68)⟩,
 ⟨some 70,none,.load false 1 (.t 69)⟩,
 ⟨some 71,none,.mv (.t 3)⟩,
 ⟨some 72,none,.mv (.t 4)⟩,
 ⟨some 73,none,.ixA 1 (.t 71) (.t 72)⟩,
 ⟨some 74,none,.load false 1 (.t 73)⟩,
 ⟨some 75,none,.bin .eql .no (.t 70) (.t 74)⟩]
@[go_sem] def m2h : List XO := [
 ⟨some 2,none,.mv (.c (.int .i64 41))⟩]
@[go_sem] def m2i : List XO := [
 ⟨some 65,none,.mv (.t 5)⟩,
 ⟨some 66,none,.bin .add .no (.t 65) (.c (.int .i64 1))⟩,
 ⟨some 5,none,.mv (.t 66)⟩]
def g19 : XCode :=
 (.seq (.seq (.reg m3d) (.cond (.t 64) .skip (.exit 2))) (.seq (.block 3 (.seq (.reg m2g) (.cond (.t 75) (.seq (.reg m2h) .ret) .skip))) (.reg m2i)))
@[go_sem] def m2j : List XO := [
 ⟨some 46,none,.mv (.t 4)⟩,
 ⟨some 47,none,.bin .add .no (.t 46) (.c (.int .i64 1))⟩,
 ⟨some 4,none,.mv (.t 47)⟩]
def g2a : XCode :=
 (.seq (.seq (.reg m29) (.cond (.t 45) .skip (.exit 0))) (.seq (.block 1 (.seq (.seq (.reg m3a) (.cond (.t 61) (.seq (.reg m3b) .ret) .skip)) (.seq (.reg m3c) (.block 2 (.loop g19))))) (.reg m2j)))
@[go_sem] def m2k : List XO := [
 ⟨some 6,none,.mv (.c (.int .i64 0))⟩]
@[go_sem] def m2l : List XO := [
 ⟨some 76,none,.mv (.t 6)⟩,
 ⟨some 77,none,.fldA 2 (.tf 1)⟩,
 ⟨some 78,none,.load false 1 (.tf 77)⟩,
 ⟨some 79,none,.len false (.t 78)⟩,
 ⟨some 80,none,.bin .lss .no (.t 76) (.t 79)⟩]
@[go_sem] def m2m : List XO := [
 ⟨some 83,none,.fldA 2 (.tf 1)⟩,
 ⟨some 84,none,.load false 1 (.tf 83)⟩,
 ⟨some 85,none,.mv (.t 6)⟩,
 ⟨some 86,none,.ixA 2 (.t 84) (.t 85)⟩,
 ⟨some 87,none,.fldA 1 (.t 86)⟩,
 ⟨some 88,none,.load false 1 (.t 87)⟩,
 ⟨some 89,none,.call "newel/newelref04.from" [.t 88, (.c (.int .i64 1)), (.c (.int .i64 7))]⟩,
 ⟨some 90,none,.un .not (.t 89)⟩]
@[go_sem] def m2n : List XO := [
 ⟨some 2,none,.mv (.c (.int .i64 41))⟩]
@[go_sem] def m2p : List XO := [
 ⟨some 81,none,.mv (.t 6)⟩,
 ⟨some 82,none,.bin .add .no (.t 81) (.c (.int .i64 1))⟩,
 ⟨some 6,none,.mv (.t 82)⟩]
def g2b : XCode :=
 (.seq (.seq (.reg m2l) (.cond (.t 80) .skip (.exit 4))) (.seq (.block 5 (.seq (.reg m2m) (.cond (.t 90) (.seq (.reg m2n) .ret) .skip))) (.reg m2p)))
@[go_sem] def m2q : List XO := [
 ⟨some 7,none,.mv (.c (.int .i64 0))⟩]
@[go_sem] def m2r : List XO := [
 ⟨some 91,none,.mv (.t 7)⟩,
 ⟨some 92,none,.fldA 3 (.tf 1)⟩,
 ⟨some 93,none,.load false 1 (.tf 92)⟩,
 ⟨some 94,none,.len false (.t 93)⟩,
 ⟨some 95,none,.bin .lss .no (.t 91) (.t 94)⟩]
@[go_sem] def m2s : List XO := [
 ⟨some 98,none,.fldA 3 (.tf 1)⟩,
 ⟨some 99,none,.load false 1 (.tf 98)⟩,
 ⟨some 100,none,.mv (.t 7)⟩,
 ⟨some 101,none,.ixA 2 (.t 99) (.t 100)⟩,
 ⟨some 102,none,.fldA 1 (.t 101)⟩,
 ⟨some 103,none,.load false 1 (.t 102)⟩,
 ⟨some 104,none,.fldA 1 (.tf 1)⟩,
 ⟨some 105,none,.load false 1 (.tf 104)⟩,
 ⟨some 106,none,.len false (.t 105)⟩,
 ⟨some 107,none,.cvtI .u64 (.t 106)⟩,
 ⟨some 108,none,.bin .shl .no (.c (.int .i64 1)) (.t 107)⟩,
 ⟨some 109,none,.bin .sub .no (.t 108) (.c (.int .i64 1))⟩,
 ⟨some 110,none,.call "newel/newelref04.from" [.t 103, (.c (.int .i64 0)), .t 109]⟩,
 ⟨some 111,none,.un .not (.t 110)⟩]
@[go_sem] def m2t : List XO := [
 ⟨some 2,none,.mv (.c (.int .i64 41))⟩]
@[go_sem] def m2u : List XO := [
 ⟨some 96,none,.mv (.t 7)⟩,
 ⟨some 97,none,.bin .add .no (.t 96) (.c (.int .i64 1))⟩,
 ⟨some 7,none,.mv (.t 97)⟩]
def g2c : XCode :=
 (.seq (.seq (.reg m2r) (.cond (.t 95) .skip (.exit 6))) (.seq (.block 7 (.seq (.reg m2s) (.cond (.t 111) (.seq (.reg m2t) .ret) .skip))) (.reg m2u)))
@[go_sem] def m2v : List XO := [
 ⟨some 8,none,.mv (.c (.int .i64 0))⟩]
@[go_sem] def m2w : List XO := [
 ⟨some 112,none,.mv (.t 8)⟩,
 ⟨some 113,none,.fldA 4 (.tf 1)⟩,
 ⟨some 114,none,.load false 1 (.tf 113)⟩,
 ⟨some 115,none,.len false (.t 114)⟩,
 ⟨some 116,none,.bin .lss .no (.t 112) (.t 115)⟩]
@[go_sem] def m2y : List XO := [
 ⟨some 119,none,.fldA 4 (.tf 1)⟩,
 ⟨some 120,none,.load false 1 (.tf 119)⟩,
 ⟨some 121,none,.mv (.t 8)⟩,
 ⟨some 122,none,.ixA 4 (.t 120) (.t 121)⟩,
 ⟨some 123,none,.load true 4 (.t 122)⟩,
 ⟨some 9,none,.alloc [(.int .i64 0), (.int .i64 0), (.slice none 0 0), (.slice none 0 0)]⟩,
 ⟨none, none, .store 4 (.t 9) (.t 123)⟩]
@[go_sem] def m2z : List XO := [
 ⟨some 124,none,.fldA 0 (.t 9)⟩,
 ⟨some 125,none,.load false 1 (.t 124)⟩,
 ⟨some 126,none,.fldA 3 (.tf 1)⟩,
 ⟨some 127,none,.load false 1 (.tf 126)⟩,
 ⟨some 128,none,.len false (.t 127)⟩,
 ⟨some 129,none,.bin .sub .no (.t 128) (.c (.int .i64 1))⟩,
 ⟨some 130,none,.call "newel/newelref04.from" [.t 125, (.c (.int .i64 (-1))), .t 129]⟩,
 ⟨some 131,none,.un .not (.t 130)⟩,
 ⟨some 132,none,.mv (.t 131)⟩,
 ⟨(some 133), (some (132, false)), .fldA 1 (.t 9)⟩,
 ⟨(some 134), (some (132, false)), .load false 1 (.t 133)⟩,
 ⟨(some 135), (some (132, false)), .fldA 3 (.tf 1)⟩,
 ⟨(some 136), (some (132, false)), .load false 1 (.tf 135)⟩,
 ⟨(some 137), (some (132, false)), .len false (.t 136)⟩,
 ⟨(some 138), (some (132, false)), .bin .sub .no (.t 137) (.c (.int .i64 1))⟩,
 ⟨(some 139), (some (132, false)), .call "newel/newelref04.from" [.t 134, (.c (.int .i64 0)), .t 138]⟩,
 ⟨(some 140), (some (132, false)), .un .not (.t 139)⟩,
 ⟨some 141,none,.pick (.t 132) (.c (.bool true)) (.t 140)⟩,
 ⟨some 142,none,.mv (.t 141)⟩,
 ⟨(some 143), (some (142, false)), .load true 5 (.tf 1)⟩,
 ⟨(some 144), (some (142, false)), .fldA 2 (.t 9)⟩,
 ⟨(some 145), (some (142, false)), .load false 1 (.t 144)⟩,
 ⟨(some 146), (some (142, false)), .call "newel/newelref04.condition" [.t 143, .t 145, (.c (.bool false))]⟩,
 ⟨(some 147), (some (142, false)), .un .not (.t 146)⟩,
 ⟨some 148,none,.pick (.t 142) (.c (.bool true)) (.t 147)⟩,
 ⟨some 149,none,.mv (.t 148)⟩,
 ⟨(some 150), (some (149, false)), .fldA 3 (.t 9)⟩,
 ⟨(some 151), (some (149, false)), .load false 1 (.t 150)⟩,
 ⟨(some 152), (some (149, false)), .len false (.t 151)⟩,
 ⟨(some 153), (some (149, false)), .bin .gtr .no (.t 152) (.c (.int .i64 4))⟩,
 ⟨some 154,none,.pick (.t 149) (.c (.bool true)) (.t 153)⟩]
@[go_sem] def m20 : List XO := [
 ⟨some 2,none,.mv (.c (.int .i64 41))⟩]
@[go_sem] def m21 : List XO := [
 ⟨some 10,none,.mv (.c (.int .i64 0))⟩]
@[go_sem] def m22 : List XO := [
 ⟨some 155,none,.mv (.t 10)⟩,
 ⟨some 156,none,.fldA 3 (.t 9)⟩,
 ⟨some 157,none,.load false 1 (.t 156)⟩,
 ⟨some 158,none,.len false (.t 157)⟩,
 ⟨some 159,none,.bin .lss .no (.t 155) (.t 158)⟩]
@[go_sem] def m23 : List XO := [
 ⟨some 162,none,.fldA 3 (.t 9)⟩,
 ⟨some 163,none,.load false 1 (.t 162)⟩,
 ⟨some 164,none,.mv (.t 10)⟩,
 ⟨some 165,none,.ixA 2 (.t 163) (.t 164)⟩,
 ⟨some 166,none,.fldA 0 (.t 165)⟩,
 ⟨some 167,none,.load false 1 (.t 166)⟩,
 ⟨some 168,none,.call "newel/newelref04.from" [.t 167, (.c (.int .i64 1)), (.c (.int .i64 3))]⟩,
 ⟨some 169,none,.un .not (.t 168)⟩,
 ⟨some 170,none,.mv (.t 169)⟩,
 ⟨(some 171), (some (170, false)), .fldA 3 (.t 9)⟩,
 ⟨(some 172), (some (170, false)), .load false 1 (.t 171)⟩,
 ⟨(some 173), (some (170, false)), .mv (.t 10)⟩,
 ⟨(some 174), (some (170, false)), .ixA 2 (.t 172) (.t 173)⟩,
 ⟨(some 175), (some (170, false)), .fldA 1 (.t 174)⟩,
 ⟨(some 176), (some (170, false)), .load false 1 (.t 175)⟩,
 ⟨(some 177), (some (170, false)), .fldA 2 (.tf 1)⟩,
 ⟨(some 178), (some (170, false)), .load false 1 (.tf 177)⟩,
 ⟨(some 179), (some (170, false)), .len false (.t 178)⟩,
 ⟨(some 180), (some (170, false)), .bin .sub .no (.t 179) (.c (.int .i64 1))⟩,
 ⟨(some 181), (some (170, false)), .call "newel/newelref04.from" [.t 176, (.c (.int .i64 0)), .t 180]⟩,
 ⟨(some 182), (some (170, false)), .un .not (.t 181)⟩,
 ⟨some 183,none,.pick (.t 170) (.c (.bool true)) (.t 182)⟩]
@[go_sem] def m24 : List XO := [
 ⟨some 2,none,.mv (.c (.int .i64 41))⟩]
@[go_sem] def m25 : List XO := [
 ⟨some 160,none,.mv (.t 10)⟩,
 ⟨some 161,none,.bin .add .no (.t 160) (.c (.int .i64 1))⟩,
 ⟨some 10,none,.mv (.t 161)⟩]
def g2d : XCode :=
 (.seq (.seq (.reg m22) (.cond (.t 159) .skip (.exit 10))) (.seq (.block 11 (.seq (.reg m23) (.cond (.t 183) (.seq (.reg m24) .ret) .skip))) (.reg m25)))
@[go_sem] def m26 : List XO := [
 ⟨some 117,none,.mv (.t 8)⟩,
 ⟨some 118,none,.bin .add .no (.t 117) (.c (.int .i64 1))⟩,
 ⟨some 8,none,.mv (.t 118)⟩]
def g2e : XCode :=
 (.seq (.seq (.reg m2w) (.cond (.t 116) .skip (.exit 8))) (.seq (.block 9 (.seq (.reg m2y) (.seq (.seq (.reg m2z) (.cond (.t 154) (.seq (.reg m20) .ret) .skip)) (.seq (.reg m21) (.block 10 (.loop g2d)))))) (.reg m26)))
@[go_sem] def m28 : List XO := [
 ⟨some 2,none,.mv (.c (.int .i64 0))⟩]
def x_r04_Check : XFunc := { np := 1, res := [.t 2], body :=
 (.seq (.reg m2e) (.seq (.seq (.reg m2f) (.cond (.t 39) (.seq (.reg m2o) .ret) .skip)) (.seq (.reg m2x) (.seq (.seq (.reg m27) (.block 0 (.loop g2a))) (.seq (.seq (.reg m2k) (.block 4 (.loop g2b))) (.seq (.seq (.reg m2q) (.block 6 (.loop g2c))) (.seq (.seq (.reg m2v) (.block 8 (.loop g2e))) (.seq (.reg m28) .ret)))))))) }
@[go_sem] def l8v : List XO := [
 ⟨some 1,none,.boxF (.t 0)⟩,
 ⟨some 2,none,.mv (.c (.slice none 0 0))⟩,
 ⟨some 3,none,.mv (.c (.int .i64 0))⟩]
@[go_sem] def l8w : List XO := [
 ⟨some 20,none,.load true 5 (.tf 1)⟩,
 ⟨some 21,none,.call "newel/control.Check" [.t 20]⟩,
 ⟨some 4,none,.mv (.t 21)⟩]
@[go_sem] def l86 : List XO := [
 ⟨some 22,none,.mv (.t 4)⟩,
 ⟨some 23,none,.bin .neq .no (.t 22) (.c (.int .i64 0))⟩]
@[go_sem] def l9f : List XO := [
 ⟨some 24,none,.mv (.t 4)⟩,
 ⟨some 2,none,.mv (.c (.slice none 0 0))⟩,
 ⟨some 3,none,.mv (.t 24)⟩]
@[go_sem] def l9p : List XO := [
 ⟨some 25,none,.load true 5 (.tf 1)⟩,
 ⟨some 26,none,.call "newel/control.of" [.t 25]⟩,
 ⟨some 5,none,.alloc [(.slice none 0 0), (.slice none 0 0), (.slice none 0 0), (.slice none 0 0), (.slice none 0 0)]⟩,
 ⟨none, none, .store 5 (.t 5) (.t 26)⟩]
@[go_sem] def l9t : List XO := [
 ⟨some 27,none,.load true 5 (.t 5)⟩,
 ⟨some 28,none,.call "(newel/control.plant).explore" [.t 27, (.c (.slice none 0 0)), (.f "newel/control.same")]⟩,
 ⟨some 6,none,.mv (.t 28)⟩]
@[go_sem] def l9u : List XO := [
 ⟨some 29,none,.mv (.t 6)⟩,
 ⟨some 30,none,.nilck (.t 29)⟩,
 ⟨some 31,none,.fldA 0 (.t 30)⟩,
 ⟨some 32,none,.load false 1 (.t 31)⟩,
 ⟨some 33,none,.len false (.t 32)⟩,
 ⟨some 34,none,.mksl 1 [(.int .i64 0)] 8 (.t 33) (.t 33)⟩,
 ⟨some 7,none,.mv (.t 34)⟩]
@[go_sem] def l9v : List XO := [
 ⟨some 35,none,.mv (.t 6)⟩,
 ⟨some 36,none,.nilck (.t 35)⟩,
 ⟨some 37,none,.fldA 0 (.t 36)⟩,
 ⟨some 38,none,.load false 1 (.t 37)⟩,
 ⟨some 39,none,.len false (.t 38)⟩,
 ⟨some 40,none,.mv (.c (.int .i64 0))⟩]
@[go_sem] def l9w : List XO := [
 ⟨some 41,none,.bin .lss .no (.t 40) (.t 39)⟩]
@[go_sem] def l9x : List XO := [
 ⟨some 42,none,.mv (.t 40)⟩,
 ⟨some 43,none,.ixA 3 (.t 38) (.t 40)⟩,
 ⟨some 44,none,.load true 3 (.t 43)⟩,
 ⟨some 9,none,.alloc [(.int .i64 0), (.int .i64 0), (.int .i64 0)]⟩,
 ⟨some 8,none,.mv (.t 42)⟩,
 ⟨none, none, .store 3 (.t 9) (.t 44)⟩]
@[go_sem] def l8x : List XO := [
 ⟨some 45,none,.mv (.t 7)⟩,
 ⟨some 46,none,.mv (.t 8)⟩,
 ⟨some 47,none,.fldA 3 (.tf 1)⟩,
 ⟨some 48,none,.load false 1 (.tf 47)⟩,
 ⟨some 49,none,.fldA 0 (.t 9)⟩,
 ⟨some 50,none,.load false 1 (.t 49)⟩,
 ⟨some 51,none,.ixA 2 (.t 48) (.t 50)⟩,
 ⟨some 52,none,.fldA 1 (.t 51)⟩,
 ⟨some 53,none,.load false 1 (.t 52)⟩,
 ⟨some 54,none,.ixA 1 (.t 45) (.t 46)⟩,
 ⟨none, none, .store 1 (.t 54) (.t 53)⟩]
@[go_sem] def l8y : List XO := [
 ⟨some 55,none,.bin .add .no (.t 40) (.c (.int .i64 1))⟩,
 ⟨some 40,none,.mv (.t 55)⟩]
def l9y : XCode :=
 (.seq (.reg l9w) (.seq (.cond (.t 41) .skip (.exit 0)) (.seq (.block 1 (.seq (.reg l9x) (.reg l8x))) (.reg l8y))))
@[go_sem] def l8z : List XO := [
 ⟨some 10,none,.mv (.c (.int .i64 0))⟩]
@[go_sem] def l80 : List XO := [
 ⟨some 56,none,.mv (.t 7)⟩,
 ⟨some 57,none,.len false (.t 56)⟩,
 ⟨some 58,none,.mksl 1 [(.slice none 0 0)] 24 (.t 57) (.t 57)⟩,
 ⟨some 11,none,.alloc [(.slice none 0 0)]⟩,
 ⟨none, none, .store 1 (.t 11) (.t 58)⟩]
@[go_sem] def l81 : List XO := [
 ⟨some 59,none,.mv (.t 6)⟩,
 ⟨some 60,none,.nilck (.t 59)⟩,
 ⟨some 61,none,.fldA 3 (.t 60)⟩,
 ⟨some 62,none,.load false 1 (.t 61)⟩,
 ⟨some 63,none,.len false (.t 62)⟩,
 ⟨some 64,none,.mv (.c (.int .i64 0))⟩]
@[go_sem] def l82 : List XO := [
 ⟨some 65,none,.bin .lss .no (.t 64) (.t 63)⟩]
@[go_sem] def l83 : List XO := [
 ⟨some 66,none,.mv (.t 64)⟩,
 ⟨some 67,none,.ixA 1 (.t 62) (.t 64)⟩,
 ⟨some 68,none,.load false 1 (.t 67)⟩,
 ⟨some 12,none,.mv (.t 66)⟩,
 ⟨some 13,none,.mv (.t 68)⟩]
@[go_sem] def l84 : List XO := [
 ⟨some 69,none,.load false 1 (.t 11)⟩,
 ⟨some 70,none,.mv (.t 12)⟩,
 ⟨some 71,none,.mv (.t 7)⟩,
 ⟨some 72,none,.mv (.t 12)⟩,
 ⟨some 73,none,.ixA 1 (.t 71) (.t 72)⟩,
 ⟨some 74,none,.load false 1 (.t 73)⟩,
 ⟨some 75,none,.bsl 1 [.t 74]⟩,
 ⟨some 76,none,.ixA 1 (.t 69) (.t 70)⟩,
 ⟨none, none, .store 1 (.t 76) (.t 75)⟩]
@[go_sem] def l85 : List XO := [
 ⟨some 77,none,.mv (.t 13)⟩,
 ⟨some 78,none,.len false (.t 77)⟩,
 ⟨some 79,none,.mv (.c (.int .i64 0))⟩]
@[go_sem] def l87 : List XO := [
 ⟨some 80,none,.bin .lss .no (.t 79) (.t 78)⟩]
@[go_sem] def l88 : List XO := [
 ⟨some 81,none,.ixA 1 (.t 77) (.t 79)⟩,
 ⟨some 82,none,.load false 1 (.t 81)⟩,
 ⟨some 15,none,.mv (.t 82)⟩]
@[go_sem] def l89 : List XO := [
 ⟨some 83,none,.load false 1 (.t 11)⟩,
 ⟨some 84,none,.mv (.t 12)⟩,
 ⟨some 85,none,.load false 1 (.t 11)⟩,
 ⟨some 86,none,.mv (.t 12)⟩,
 ⟨some 87,none,.ixA 1 (.t 85) (.t 86)⟩,
 ⟨some 88,none,.load false 1 (.t 87)⟩,
 ⟨some 89,none,.mv (.t 7)⟩,
 ⟨some 90,none,.mv (.t 15)⟩,
 ⟨some 91,none,.ixA 1 (.t 89) (.t 90)⟩,
 ⟨some 92,none,.load false 1 (.t 91)⟩,
 ⟨some 93,none,.bsl 1 [.t 92]⟩,
 ⟨some 94,none,.app 1 8 (.t 88) (.t 93)⟩,
 ⟨some 95,none,.ixA 1 (.t 83) (.t 84)⟩,
 ⟨none, none, .store 1 (.t 95) (.t 94)⟩]
@[go_sem] def l9a : List XO := [
 ⟨some 96,none,.bin .add .no (.t 79) (.c (.int .i64 1))⟩,
 ⟨some 79,none,.mv (.t 96)⟩]
def l9z : XCode :=
 (.seq (.reg l87) (.seq (.cond (.t 80) .skip (.exit 6)) (.seq (.block 7 (.seq (.reg l88) (.regW l89 [(0, 11)]))) (.reg l9a))))
@[go_sem] def l9b : List XO := [
 ⟨some 97,none,.bin .add .no (.t 64) (.c (.int .i64 1))⟩,
 ⟨some 64,none,.mv (.t 97)⟩]
def l90 : XCode :=
 (.seq (.reg l82) (.seq (.cond (.t 65) .skip (.exit 4)) (.seq (.block 5 (.seq (.reg l83) (.seq (.reg l84) (.seq (.reg l85) (.block 6 (.loop l9z)))))) (.reg l9b))))
@[go_sem] def l9c : List XO := [
 ⟨some 16,none,.mv (.c (.slice none 0 0))⟩]
@[go_sem] def l9d : List XO := [
 ⟨some 98,none,.mv (.t 7)⟩,
 ⟨some 99,none,.len false (.t 98)⟩,
 ⟨some 100,none,.mksl 1 [(.int .i64 0)] 8 (.t 99) (.t 99)⟩,
 ⟨some 17,none,.mv (.t 100)⟩]
@[go_sem] def l9e : List XO := [
 ⟨some 101,none,.load false 1 (.t 11)⟩,
 ⟨some 102,none,.len false (.t 101)⟩,
 ⟨some 103,none,.mv (.c (.int .i64 0))⟩]
@[go_sem] def l9g : List XO := [
 ⟨some 104,none,.bin .lss .no (.t 103) (.t 102)⟩]
@[go_sem] def l9h : List XO := [
 ⟨some 105,none,.mv (.t 103)⟩,
 ⟨some 18,none,.alloc [(.int .i64 0)]⟩,
 ⟨none, none, .store 1 (.t 18) (.t 105)⟩]
@[go_sem] def l9i : List XO := [
 ⟨some 106,none,.mv (.t 16)⟩,
 ⟨some 107,none,.mkfn "newel/control.Classes$1" [] [.t 11, .t 18]⟩,
 ⟨some 108,none,.call "slices.IndexFunc[[]int,int]" [.t 106, .t 107]⟩,
 ⟨some 19,none,.mv (.t 108)⟩]
@[go_sem] def l9j : List XO := [
 ⟨some 109,none,.mv (.t 19)⟩,
 ⟨some 110,none,.bin .lss .no (.t 109) (.c (.int .i64 0))⟩]
@[go_sem] def l9k : List XO := [
 ⟨some 111,none,.mv (.t 16)⟩,
 ⟨some 112,none,.len false (.t 111)⟩,
 ⟨some 19,none,.mv (.t 112)⟩]
@[go_sem] def l9l : List XO := [
 ⟨some 113,none,.mv (.t 16)⟩,
 ⟨some 114,none,.load false 1 (.t 18)⟩,
 ⟨some 115,none,.bsl 1 [.t 114]⟩,
 ⟨some 116,none,.app 1 8 (.t 113) (.t 115)⟩,
 ⟨some 16,none,.mv (.t 116)⟩]
@[go_sem] def l9m : List XO := [
 ⟨some 117,none,.mv (.t 17)⟩,
 ⟨some 118,none,.load false 1 (.t 18)⟩,
 ⟨some 119,none,.mv (.t 19)⟩,
 ⟨some 120,none,.ixA 1 (.t 117) (.t 118)⟩,
 ⟨none, none, .store 1 (.t 120) (.t 119)⟩]
@[go_sem] def l9n : List XO := [
 ⟨some 121,none,.bin .add .no (.t 103) (.c (.int .i64 1))⟩,
 ⟨some 103,none,.mv (.t 121)⟩]
def l91 : XCode :=
 (.seq (.reg l9g) (.seq (.cond (.t 104) .skip (.exit 8)) (.seq (.block 9 (.seq (.reg l9h) (.seq (.reg l9i) (.seq (.seq (.reg l9j) (.cond (.t 110) (.seq (.reg l9k) (.reg l9l)) .skip)) (.reg l9m))))) (.reg l9n))))
@[go_sem] def l9o : List XO := [
 ⟨some 122,none,.mv (.t 17)⟩,
 ⟨some 7,none,.mv (.t 122)⟩]
@[go_sem] def l9q : List XO := [
 ⟨some 123,none,.mv (.t 16)⟩,
 ⟨some 124,none,.len false (.t 123)⟩,
 ⟨some 125,none,.mv (.t 10)⟩,
 ⟨some 126,none,.bin .eql .no (.t 124) (.t 125)⟩]
@[go_sem] def l9r : List XO := [
 ⟨some 127,none,.mv (.t 7)⟩,
 ⟨some 2,none,.mv (.t 127)⟩,
 ⟨some 3,none,.mv (.c (.int .i64 0))⟩]
@[go_sem] def l9s : List XO := [
 ⟨some 128,none,.mv (.t 16)⟩,
 ⟨some 129,none,.len false (.t 128)⟩,
 ⟨some 10,none,.mv (.t 129)⟩]
def l92 : XCode :=
 (.block 3 (.seq (.reg l80) (.seq (.seq (.reg l81) (.block 4 (.loop l90))) (.seq (.reg l9c) (.seq (.reg l9d) (.seq (.seq (.reg l9e) (.block 8 (.loop l91))) (.seq (.reg l9o) (.seq (.seq (.reg l9q) (.cond (.t 126) (.seq (.reg l9r) .ret) .skip)) (.reg l9s)))))))))
def x_control_Classes : XFunc := { np := 1, res := [.t 2, .t 3], body :=
 (.seq (.reg l8v) (.seq (.seq (.reg l8w) (.seq (.reg l86) (.cond (.t 23) (.seq (.reg l9f) .ret) .skip))) (.seq (.reg l9p) (.seq (.reg l9t) (.seq (.reg l9u) (.seq (.seq (.reg l9v) (.block 0 (.loop l9y))) (.seq (.reg l8z) (.block 2 (.loop l92))))))))) }
@[go_sem] def m32 : List XO := [
 ⟨some 4,none,.boxF (.t 0)⟩,
 ⟨some 5,none,.boxF (.t 1)⟩,
 ⟨some 8,none,.mv (.c (.bool false))⟩]
@[go_sem] def m33 : List XO := [
 ⟨some 9,none,.mv (.c (.int .i64 0))⟩]
@[go_sem] def m37 : List XO := [
 ⟨some 12,none,.mv (.t 9)⟩,
 ⟨some 13,none,.mv (.t 3)⟩,
 ⟨some 14,none,.len false (.t 13)⟩,
 ⟨some 15,none,.bin .lss .no (.t 12) (.t 14)⟩]
@[go_sem] def m38 : List XO := [
 ⟨some 10,none,.mv (.c (.bool true))⟩]
@[go_sem] def m39 : List XO := [
 ⟨some 11,none,.mv (.c (.int .i64 0))⟩]
@[go_sem] def m4a : List XO := [
 ⟨some 18,none,.mv (.t 11)⟩,
 ⟨some 19,none,.mv (.t 3)⟩,
 ⟨some 20,none,.mv (.t 9)⟩,
 ⟨some 21,none,.ixA 1 (.t 19) (.t 20)⟩,
 ⟨some 22,none,.load false 1 (.t 21)⟩,
 ⟨some 23,none,.len false (.t 22)⟩,
 ⟨some 24,none,.bin .lss .no (.t 18) (.t 23)⟩]
@[go_sem] def m4b : List XO := [
 ⟨some 27,none,.mv (.t 10)⟩,
 ⟨some 28,none,.mv (.t 27)⟩,
 ⟨(some 29), (some (28, true)), .load true 5 (.tf 4)⟩,
 ⟨(some 30), (some (28, true)), .load true 3 (.tf 5)⟩,
 ⟨(some 31), (some (28, true)), .mv (.t 2)⟩,
 ⟨(some 32), (some (28, true)), .mv (.t 3)⟩,
 ⟨(some 33), (some (28, true)), .mv (.t 9)⟩,
 ⟨(some 34), (some (28, true)), .ixA 1 (.t 32) (.t 33)⟩,
 ⟨(some 35), (some (28, true)), .load false 1 (.t 34)⟩,
 ⟨(some 36), (some (28, true)), .mv (.t 11)⟩,
 ⟨(some 37), (some (28, true)), .ixA 4 (.t 35) (.t 36)⟩,
 ⟨(some 38), (some (28, true)), .load true 4 (.t 37)⟩,
 ⟨(some 39), (some (28, true)), .call "newel/newelref04.literal" [.t 29, .t 30, .t 31, .t 38]⟩,
 ⟨some 40,none,.pick (.t 28) (.t 39) (.c (.bool false))⟩,
 ⟨some 10,none,.mv (.t 40)⟩]
@[go_sem] def m4c : List XO := [
 ⟨some 25,none,.mv (.t 11)⟩,
 ⟨some 26,none,.bin .add .no (.t 25) (.c (.int .i64 1))⟩,
 ⟨some 11,none,.mv (.t 26)⟩]
def g2i : XCode :=
 (.seq (.seq (.reg m4a) (.cond (.t 24) .skip (.exit 2))) (.seq (.block 3 (.reg m4b)) (.reg m4c)))
@[go_sem] def m4d : List XO := [
 ⟨some 41,none,.mv (.t 10)⟩]
@[go_sem] def m34 : List XO := [
 ⟨some 8,none,.mv (.c (.bool true))⟩]
@[go_sem] def m35 : List XO := [
 ⟨some 16,none,.mv (.t 9)⟩,
 ⟨some 17,none,.bin .add .no (.t 16) (.c (.int .i64 1))⟩,
 ⟨some 9,none,.mv (.t 17)⟩]
def g2h : XCode :=
 (.seq (.seq (.reg m37) (.cond (.t 15) .skip (.exit 0))) (.seq (.block 1 (.seq (.reg m38) (.seq (.seq (.reg m39) (.block 2 (.loop g2i))) (.seq (.reg m4d) (.cond (.t 41) (.seq (.reg m34) .ret) .skip))))) (.reg m35)))
@[go_sem] def m36 : List XO := [
 ⟨some 8,none,.mv (.c (.bool false))⟩]
def x_r04_Holds : XFunc := { np := 4, res := [.t 8], body :=
 (.seq (.reg m32) (.seq (.seq (.reg m33) (.block 0 (.loop g2h))) (.seq (.reg m36) .ret))) }
@[go_sem] def m06 : List XO := [
 ⟨some 0,none,.alloc [(.slice none 0 0), (.slice none 0 0), (.slice none 0 0), (.slice none 0 0), (.slice none 0 0)]⟩]
@[go_sem] def m07 : List XO := [
 ⟨some 7,none,.build [(.int .i64 0), (.int .i64 0), (.int .i64 0), (.bool false)] [(0, 1, (.c (.int .i64 1)))]⟩,
 ⟨some 1,none,.alloc [(.int .i64 0), (.int .i64 0), (.int .i64 0), (.bool false)]⟩,
 ⟨none, none, .store 4 (.t 1) (.t 7)⟩]
@[go_sem] def m08 : List XO := [
 ⟨some 8,none,.build [(.int .i64 0), (.int .i64 0), (.int .i64 0), (.bool false)] [(0, 1, (.c (.int .i64 1))), (1, 1, (.c (.int .i64 1)))]⟩,
 ⟨some 2,none,.alloc [(.int .i64 0), (.int .i64 0), (.int .i64 0), (.bool false)]⟩,
 ⟨none, none, .store 4 (.t 2) (.t 8)⟩]
@[go_sem] def m09 : List XO := [
 ⟨some 9,none,.build [(.int .i64 0), (.int .i64 0), (.int .i64 0), (.bool false)] [(0, 1, (.c (.int .i64 2))), (2, 1, (.c (.int .i64 2)))]⟩,
 ⟨some 3,none,.alloc [(.int .i64 0), (.int .i64 0), (.int .i64 0), (.bool false)]⟩,
 ⟨none, none, .store 4 (.t 3) (.t 9)⟩]
@[go_sem] def m1a : List XO := [
 ⟨some 10,none,.load true 4 (.t 3)⟩,
 ⟨some 11,none,.load true 4 (.t 2)⟩,
 ⟨some 12,none,.load true 4 (.t 1)⟩,
 ⟨some 4,none,.alloc [(.int .i64 0), (.int .i64 0), (.int .i64 0), (.bool false)]⟩,
 ⟨some 5,none,.alloc [(.int .i64 0), (.int .i64 0), (.int .i64 0), (.bool false)]⟩,
 ⟨some 6,none,.alloc [(.int .i64 0), (.int .i64 0), (.int .i64 0), (.bool false)]⟩,
 ⟨none, none, .store 4 (.t 4) (.t 10)⟩,
 ⟨none, none, .store 4 (.t 5) (.t 11)⟩,
 ⟨none, none, .store 4 (.t 6) (.t 12)⟩]
@[go_sem] def m1b : List XO := [
 ⟨some 13,none,.fldA 3 (.t 4)⟩,
 ⟨none, none, .store 1 (.t 13) (.c (.bool true))⟩]
@[go_sem] def m1c : List XO := [
 ⟨some 14,none,.fldA 3 (.t 5)⟩,
 ⟨none, none, .store 1 (.t 14) (.c (.bool true))⟩]
@[go_sem] def m1d : List XO := [
 ⟨some 15,none,.fldA 3 (.t 6)⟩,
 ⟨none, none, .store 1 (.t 15) (.c (.bool true))⟩]
@[go_sem] def m1e : List XO := [
 ⟨some 16,none,.bsl 1 [(.c (.string (ByteArray.mk #[99, 97, 108, 108]))), (.c (.string (ByteArray.mk #[100, 111, 111, 114])))]⟩,
 ⟨some 17,none,.bsl 1 [(.c (.string (ByteArray.mk #[114, 117, 110]))), (.c (.string (ByteArray.mk #[108, 105, 103, 104, 116])))]⟩,
 ⟨some 18,none,.build [(.string (ByteArray.mk #[])), (.int .i64 0)] [(0, 1, (.c (.string (ByteArray.mk #[110])))), (1, 1, (.c (.int .i64 2)))]⟩,
 ⟨some 19,none,.bsl 2 [.t 18]⟩,
 ⟨some 20,none,.build [(.string (ByteArray.mk #[])), (.int .i64 0)] [(0, 1, (.c (.string (ByteArray.mk #[105, 100, 108, 101])))), (1, 1, (.c (.int .i64 2)))]⟩,
 ⟨some 21,none,.build [(.string (ByteArray.mk #[])), (.int .i64 0)] [(0, 1, (.c (.string (ByteArray.mk #[103, 111])))), (1, 1, (.c (.int .i64 1)))]⟩,
 ⟨some 22,none,.bsl 2 [.t 20, .t 21]⟩,
 ⟨some 23,none,.load true 4 (.t 1)⟩,
 ⟨some 24,none,.load true 4 (.t 5)⟩,
 ⟨some 25,none,.bsl 4 [.t 23, .t 24]⟩,
 ⟨some 26,none,.bsl 1 [.t 25]⟩,
 ⟨some 27,none,.build [(.int .i64 0), (.int .i64 0)] [(0, 1, (.c (.int .i64 1)))]⟩,
 ⟨some 28,none,.bsl 2 [.t 27]⟩,
 ⟨some 29,none,.build [(.int .i64 0), (.int .i64 0), (.slice none 0 0), (.slice none 0 0)] [(0, 1, (.c (.int .i64 0))), (1, 1, (.c (.int .i64 1))), (2, 1, (.t 26)), (3, 1, (.t 28))]⟩,
 ⟨some 30,none,.load true 4 (.t 2)⟩,
 ⟨some 31,none,.bsl 4 [.t 30]⟩,
 ⟨some 32,none,.bsl 1 [.t 31]⟩,
 ⟨some 33,none,.build [(.int .i64 0), (.int .i64 0), (.slice none 0 0), (.slice none 0 0)] [(0, 1, (.c (.int .i64 1))), (1, 1, (.c (.int .i64 0))), (2, 1, (.t 32))]⟩,
 ⟨some 34,none,.load true 4 (.t 4)⟩,
 ⟨some 35,none,.bsl 4 [.t 34]⟩,
 ⟨some 36,none,.bsl 1 [.t 35]⟩,
 ⟨some 37,none,.build [(.int .i64 0), (.int .i64 0)] [(0, 1, (.c (.int .i64 2)))]⟩,
 ⟨some 38,none,.bsl 2 [.t 37]⟩,
 ⟨some 39,none,.build [(.int .i64 0), (.int .i64 0), (.slice none 0 0), (.slice none 0 0)] [(0, 1, (.c (.int .i64 1))), (1, 1, (.c (.int .i64 1))), (2, 1, (.t 36)), (3, 1, (.t 38))]⟩,
 ⟨some 40,none,.load true 4 (.t 3)⟩,
 ⟨some 41,none,.load true 4 (.t 6)⟩,
 ⟨some 42,none,.bsl 4 [.t 40, .t 41]⟩,
 ⟨some 43,none,.bsl 1 [.t 42]⟩,
 ⟨some 44,none,.build [(.int .i64 0), (.int .i64 0), (.slice none 0 0), (.slice none 0 0)] [(0, 1, (.c (.int .i64 1))), (1, 1, (.c (.int .i64 0))), (2, 1, (.t 43))]⟩,
 ⟨some 45,none,.bsl 4 [.t 29, .t 33, .t 39, .t 44]⟩,
 ⟨some 46,none,.build [(.slice none 0 0), (.slice none 0 0), (.slice none 0 0), (.slice none 0 0), (.slice none 0 0)] [(0, 1, (.t 16)), (1, 1, (.t 17)), (2, 1, (.t 19)), (3, 1, (.t 22)), (4, 1, (.t 45))]⟩,
 ⟨none, none, .store 5 (.t 0) (.t 46)⟩]
def x_l04_Example : XFunc := { np := 0, res := [.cell 0 true 5], body :=
 (.seq (.reg m06) (.seq (.reg m07) (.seq (.reg m08) (.seq (.reg m09) (.seq (.regW m1a [(2, 6), (1, 6), (2, 7)]) (.seq (.reg m1b) (.seq (.reg m1c) (.seq (.reg m1d) (.seq (.reg m1e) .ret))))))))) }
@[go_sem] def m0l : List XO := [
 ⟨some 2,none,.boxF (.t 0)⟩,
 ⟨some 4,none,.mv (.c (.int .i64 0))⟩]
@[go_sem] def m0m : List XO := [
 ⟨some 8,none,.load true 5 (.tf 2)⟩,
 ⟨some 9,none,.call "newel/control.Check" [.t 8]⟩,
 ⟨some 5,none,.mv (.t 9)⟩]
@[go_sem] def m0o : List XO := [
 ⟨some 10,none,.mv (.t 5)⟩,
 ⟨some 11,none,.bin .neq .no (.t 10) (.c (.int .i64 0))⟩]
@[go_sem] def m0p : List XO := [
 ⟨some 12,none,.mv (.t 5)⟩,
 ⟨some 4,none,.mv (.t 12)⟩]
@[go_sem] def m0q : List XO := [
 ⟨some 13,none,.mv (.t 1)⟩,
 ⟨some 14,none,.len false (.t 13)⟩,
 ⟨some 15,none,.mv (.c (.int .i64 0))⟩]
@[go_sem] def m0r : List XO := [
 ⟨some 16,none,.bin .lss .no (.t 15) (.t 14)⟩]
@[go_sem] def m0s : List XO := [
 ⟨some 17,none,.ixA 1 (.t 13) (.t 15)⟩,
 ⟨some 18,none,.load false 1 (.t 17)⟩,
 ⟨some 7,none,.mv (.t 18)⟩]
@[go_sem] def m0t : List XO := [
 ⟨some 19,none,.load true 5 (.tf 2)⟩,
 ⟨some 20,none,.mv (.t 7)⟩,
 ⟨some 21,none,.call "newel/situation.Asked" [.t 19, .t 20]⟩,
 ⟨some 22,none,.un .not (.t 21)⟩]
@[go_sem] def m0u : List XO := [
 ⟨some 4,none,.mv (.c (.int .i64 42))⟩]
@[go_sem] def m0v : List XO := [
 ⟨some 23,none,.bin .add .no (.t 15) (.c (.int .i64 1))⟩,
 ⟨some 15,none,.mv (.t 23)⟩]
def g15 : XCode :=
 (.seq (.reg m0r) (.seq (.cond (.t 16) .skip (.exit 0)) (.seq (.block 1 (.seq (.reg m0s) (.seq (.reg m0t) (.cond (.t 22) (.seq (.reg m0u) .ret) .skip)))) (.reg m0v))))
@[go_sem] def m0n : List XO := [
 ⟨some 4,none,.mv (.c (.int .i64 0))⟩]
def x_control_check : XFunc := { np := 2, res := [.t 4], body :=
 (.seq (.reg m0l) (.seq (.seq (.reg m0m) (.seq (.reg m0o) (.cond (.t 11) (.seq (.reg m0p) .ret) .skip))) (.seq (.seq (.reg m0q) (.block 0 (.loop g15))) (.seq (.reg m0n) .ret)))) }
@[go_sem] def m0w : List XO := [
 ⟨some 1,none,.boxF (.t 0)⟩,
 ⟨some 2,none,.alloc [(.slice none 0 0), (.slice none 0 0), (.slice none 0 0), (.slice none 0 0), (.slice none 0 0)]⟩]
@[go_sem] def m0x : List XO := [
 ⟨some 3,none,.load true 5 (.tf 1)⟩,
 ⟨some 4,none,.build [(.slice none 0 0), (.slice none 0 0), (.slice none 0 0), (.slice none 0 0), (.slice none 0 0)] [(0, 5, (.t 3))]⟩,
 ⟨some 5,none,.build [(.slice none 0 0), (.slice none 0 0), (.slice none 0 0), (.slice none 0 0), (.slice none 0 0)] [(0, 5, (.t 4))]⟩,
 ⟨none, none, .store 5 (.t 2) (.t 5)⟩]
def x_control_of : XFunc := { np := 1, res := [.cell 2 true 5], body :=
 (.seq (.reg m0w) (.seq (.reg m0x) .ret)) }
@[go_sem] def l6d : List XO := [
 ⟨some 3,none,.boxF (.t 0)⟩,
 ⟨some 6,none,.mv (.c (.pointer none))⟩]
@[go_sem] def l6e : List XO := [
 ⟨some 16,none,.build [(.int .i64 0), (.int .i64 0), (.int .i64 0)] []⟩,
 ⟨some 17,none,.bsl 3 [.t 16]⟩,
 ⟨some 18,none,.bsl 1 [(.c (.int .i64 (-1)))]⟩,
 ⟨some 19,none,.bsl 1 [(.c (.int .i64 0))]⟩,
 ⟨some 20,none,.build [(.slice none 0 0), (.slice none 0 0), (.slice none 0 0), (.slice none 0 0)] [(0, 1, (.t 17)), (1, 1, (.t 18)), (2, 1, (.t 19))]⟩,
 ⟨some 21,none,.box (.t 20)⟩,
 ⟨some 7,none,.mv (.t 21)⟩]
@[go_sem] def l6p : List XO := [
 ⟨some 22,none,.callw "#mk" []⟩,
 ⟨some 23,none,.build [(.int .i64 0), (.int .i64 0), (.int .i64 0)] []⟩,
 ⟨none, none, .callw "#pi" [.t 22, .t 23, (.c (.int .i64 0)), (.c (.int .i64 3))]⟩,
 ⟨some 24,none,.mv (.t 22)⟩,
 ⟨some 8,none,.mv (.t 24)⟩]
@[go_sem] def l6t : List XO := [
 ⟨some 9,none,.mv (.c (.int .i64 0))⟩]
@[go_sem] def l6u : List XO := [
 ⟨some 25,none,.mv (.t 9)⟩,
 ⟨some 26,none,.mv (.t 7)⟩,
 ⟨some 27,none,.nilck (.t 26)⟩,
 ⟨some 28,none,.fldA 0 (.t 27)⟩,
 ⟨some 29,none,.load false 1 (.t 28)⟩,
 ⟨some 30,none,.len false (.t 29)⟩,
 ⟨some 31,none,.bin .lss .no (.t 25) (.t 30)⟩]
@[go_sem] def l6v : List XO := [
 ⟨some 34,none,.mv (.t 7)⟩,
 ⟨some 35,none,.nilck (.t 34)⟩,
 ⟨some 36,none,.fldA 0 (.t 35)⟩,
 ⟨some 37,none,.load false 1 (.t 36)⟩,
 ⟨some 38,none,.mv (.t 9)⟩,
 ⟨some 39,none,.ixA 3 (.t 37) (.t 38)⟩,
 ⟨some 40,none,.load true 3 (.t 39)⟩,
 ⟨some 10,none,.alloc [(.int .i64 0), (.int .i64 0), (.int .i64 0)]⟩,
 ⟨none, none, .store 3 (.t 10) (.t 40)⟩]
@[go_sem] def l6w : List XO := [
 ⟨some 41,none,.fldA 0 (.tf 3)⟩,
 ⟨some 42,none,.load true 5 (.tf 41)⟩,
 ⟨some 43,none,.call "(newel/situation.Plant).All" [.t 42]⟩,
 ⟨some 44,none,.mksl 1 [(.int .i64 0)] 8 (.t 43) (.t 43)⟩,
 ⟨some 11,none,.mv (.t 44)⟩]
@[go_sem] def l6x : List XO := [
 ⟨some 45,none,.mv (.t 11)⟩,
 ⟨some 46,none,.len false (.t 45)⟩,
 ⟨some 47,none,.mv (.c (.int .i64 0))⟩]
@[go_sem] def l6y : List XO := [
 ⟨some 48,none,.bin .lss .no (.t 47) (.t 46)⟩]
@[go_sem] def l6z : List XO := [
 ⟨some 49,none,.mv (.t 47)⟩,
 ⟨some 12,none,.mv (.t 49)⟩]
@[go_sem] def l6f : List XO := [
 ⟨some 50,none,.mv (.t 11)⟩,
 ⟨some 51,none,.mv (.t 12)⟩,
 ⟨some 52,none,.ixA 1 (.t 50) (.t 51)⟩,
 ⟨none, none, .store 1 (.t 52) (.c (.int .i64 (-1)))⟩]
@[go_sem] def l6g : List XO := [
 ⟨some 53,none,.fldA 0 (.tf 3)⟩,
 ⟨some 54,none,.load true 5 (.tf 53)⟩,
 ⟨some 55,none,.mv (.t 1)⟩,
 ⟨some 56,none,.load true 3 (.t 10)⟩,
 ⟨some 57,none,.mv (.t 12)⟩,
 ⟨some 58,none,.call "(newel/situation.Plant).Allowed" [.t 54, .t 55, .t 56, .t 57]⟩,
 ⟨some 59,none,.un .not (.t 58)⟩]
@[go_sem] def l6h : List XO := [
 ⟨some 60,none,.fldA 0 (.tf 3)⟩,
 ⟨some 61,none,.load true 5 (.tf 60)⟩,
 ⟨some 62,none,.load true 3 (.t 10)⟩,
 ⟨some 63,none,.mv (.t 2)⟩,
 ⟨some 64,none,.mv (.t 12)⟩,
 ⟨some 65,none,.callv (.t 63) [.t 64]⟩,
 ⟨some 66,none,.call "(newel/situation.Plant).Step" [.t 61, .t 62, .t 65]⟩,
 ⟨some 13,none,.alloc [(.int .i64 0), (.int .i64 0), (.int .i64 0)]⟩,
 ⟨none, none, .store 3 (.t 13) (.t 66)⟩]
@[go_sem] def l6i : List XO := [
 ⟨some 68,none,.mv (.t 8)⟩,
 ⟨some 69,none,.load true 3 (.t 13)⟩,
 ⟨some 70,none,.callw "#lj" [.t 68, .t 69, (.c (.int .i64 0)), (.c (.int .i64 3))]⟩,
 ⟨some 67,none,.mv (.t 70)⟩,
 ⟨some 71,none,.ext (.t 67) 0⟩,
 ⟨some 72,none,.ext (.t 67) 1⟩,
 ⟨some 14,none,.mv (.t 71)⟩,
 ⟨some 15,none,.mv (.t 72)⟩]
@[go_sem] def l6j : List XO := [
 ⟨some 73,none,.mv (.t 15)⟩,
 ⟨some 74,none,.un .not (.t 73)⟩]
@[go_sem] def l6k : List XO := [
 ⟨some 75,none,.mv (.t 7)⟩,
 ⟨some 76,none,.nilck (.t 75)⟩,
 ⟨some 77,none,.fldA 0 (.t 76)⟩,
 ⟨some 78,none,.load false 1 (.t 77)⟩,
 ⟨some 79,none,.len false (.t 78)⟩,
 ⟨some 14,none,.mv (.t 79)⟩]
@[go_sem] def l6l : List XO := [
 ⟨some 80,none,.mv (.t 8)⟩,
 ⟨some 81,none,.load true 3 (.t 13)⟩,
 ⟨some 82,none,.mv (.t 14)⟩,
 ⟨none, none, .callw "#pi" [.t 80, .t 81, .t 82, (.c (.int .i64 3))]⟩]
@[go_sem] def l6m : List XO := [
 ⟨some 83,none,.mv (.t 7)⟩,
 ⟨some 84,none,.mv (.t 7)⟩,
 ⟨some 85,none,.mv (.t 7)⟩,
 ⟨some 86,none,.mv (.t 7)⟩,
 ⟨some 87,none,.nilck (.t 86)⟩,
 ⟨some 88,none,.fldA 0 (.t 87)⟩,
 ⟨some 89,none,.load false 1 (.t 88)⟩,
 ⟨some 90,none,.load true 3 (.t 13)⟩,
 ⟨some 91,none,.bsl 3 [.t 90]⟩,
 ⟨some 92,none,.app 3 24 (.t 89) (.t 91)⟩,
 ⟨some 93,none,.mv (.t 7)⟩,
 ⟨some 94,none,.nilck (.t 93)⟩,
 ⟨some 95,none,.fldA 1 (.t 94)⟩,
 ⟨some 96,none,.load false 1 (.t 95)⟩,
 ⟨some 97,none,.mv (.t 9)⟩,
 ⟨some 98,none,.bsl 1 [.t 97]⟩,
 ⟨some 99,none,.app 1 8 (.t 96) (.t 98)⟩,
 ⟨some 100,none,.mv (.t 7)⟩,
 ⟨some 101,none,.nilck (.t 100)⟩,
 ⟨some 102,none,.fldA 2 (.t 101)⟩,
 ⟨some 103,none,.load false 1 (.t 102)⟩,
 ⟨some 104,none,.mv (.t 12)⟩,
 ⟨some 105,none,.bsl 1 [.t 104]⟩,
 ⟨some 106,none,.app 1 8 (.t 103) (.t 105)⟩,
 ⟨some 107,none,.nilck (.t 83)⟩,
 ⟨some 108,none,.fldA 0 (.t 107)⟩,
 ⟨none, none, .store 1 (.t 108) (.t 92)⟩,
 ⟨some 109,none,.nilck (.t 84)⟩,
 ⟨some 110,none,.fldA 1 (.t 109)⟩,
 ⟨none, none, .store 1 (.t 110) (.t 99)⟩,
 ⟨some 111,none,.nilck (.t 85)⟩,
 ⟨some 112,none,.fldA 2 (.t 111)⟩,
 ⟨none, none, .store 1 (.t 112) (.t 106)⟩]
@[go_sem] def l6n : List XO := [
 ⟨some 113,none,.mv (.t 11)⟩,
 ⟨some 114,none,.mv (.t 12)⟩,
 ⟨some 115,none,.mv (.t 14)⟩,
 ⟨some 116,none,.ixA 1 (.t 113) (.t 114)⟩,
 ⟨none, none, .store 1 (.t 116) (.t 115)⟩]
@[go_sem] def l6o : List XO := [
 ⟨some 117,none,.bin .add .no (.t 47) (.c (.int .i64 1))⟩,
 ⟨some 47,none,.mv (.t 117)⟩]
def g1x : XCode :=
 (.seq (.reg l6y) (.seq (.cond (.t 48) .skip (.exit 2)) (.seq (.block 3 (.seq (.reg l6z) (.seq (.reg l6f) (.seq (.seq (.reg l6g) (.cond (.t 59) (.exit 3) .skip)) (.seq (.reg l6h) (.seq (.reg l6i) (.seq (.seq (.reg l6j) (.cond (.t 74) (.seq (.reg l6k) (.seq (.reg l6l) (.reg l6m))) .skip)) (.reg l6n)))))))) (.reg l6o))))
@[go_sem] def l6q : List XO := [
 ⟨some 118,none,.mv (.t 7)⟩,
 ⟨some 119,none,.mv (.t 7)⟩,
 ⟨some 120,none,.nilck (.t 119)⟩,
 ⟨some 121,none,.fldA 3 (.t 120)⟩,
 ⟨some 122,none,.load false 1 (.t 121)⟩,
 ⟨some 123,none,.mv (.t 11)⟩,
 ⟨some 124,none,.bsl 1 [.t 123]⟩,
 ⟨some 125,none,.app 1 24 (.t 122) (.t 124)⟩,
 ⟨some 126,none,.nilck (.t 118)⟩,
 ⟨some 127,none,.fldA 3 (.t 126)⟩,
 ⟨none, none, .store 1 (.t 127) (.t 125)⟩]
@[go_sem] def l6r : List XO := [
 ⟨some 32,none,.mv (.t 9)⟩,
 ⟨some 33,none,.bin .add .no (.t 32) (.c (.int .i64 1))⟩,
 ⟨some 9,none,.mv (.t 33)⟩]
def g1y : XCode :=
 (.seq (.seq (.reg l6u) (.cond (.t 31) .skip (.exit 0))) (.seq (.block 1 (.seq (.reg l6v) (.seq (.reg l6w) (.seq (.seq (.reg l6x) (.block 2 (.loop g1x))) (.seq .ghost (.reg l6q)))))) (.reg l6r)))
@[go_sem] def l6s : List XO := [
 ⟨some 128,none,.mv (.t 7)⟩,
 ⟨some 6,none,.mv (.t 128)⟩]
def x__control_plant__explore : XFunc := { np := 3, res := [.t 6], body :=
 (.seq (.reg l6d) (.seq (.reg l6e) (.seq (.reg l6p) (.seq (.seq (.reg l6t) (.block 0 (.loop g1y))) (.seq (.reg l6s) .ret))))) }
@[go_sem] def m0y : List XO := [
 ⟨some 2,none,.mv (.c (.int .i64 0))⟩]
@[go_sem] def m0z : List XO := [
 ⟨some 3,none,.mv (.t 0)⟩,
 ⟨some 2,none,.mv (.t 3)⟩]
def x_control_same : XFunc := { np := 1, res := [.t 2], body :=
 (.seq (.reg m0y) (.seq (.reg m0z) .ret)) }
@[go_sem] def m6h : List XO := [
 ⟨some 4,none,.boxF (.t 0)⟩,
 ⟨some 8,none,.alloc [(.slice none 0 0), (.slice none 0 0), (.slice none 0 0)]⟩]
@[go_sem] def m6i : List XO := [
 ⟨some 13,none,.build [(.int .i64 0), (.int .i64 0), (.int .i64 0)] []⟩,
 ⟨some 14,none,.bsl 3 [.t 13]⟩,
 ⟨some 15,none,.bsl 1 [(.c (.int .i64 (-1)))]⟩,
 ⟨some 16,none,.bsl 1 [(.c (.int .i64 0))]⟩,
 ⟨some 17,none,.build [(.slice none 0 0), (.slice none 0 0), (.slice none 0 0)] [(0, 1, (.t 14)), (1, 1, (.t 15)), (2, 1, (.t 16))]⟩,
 ⟨some 9,none,.alloc [(.slice none 0 0), (.slice none 0 0), (.slice none 0 0)]⟩,
 ⟨none, none, .store 3 (.t 9) (.t 17)⟩]
@[go_sem] def m6o : List XO := [
 ⟨some 10,none,.mv (.c (.int .i64 0))⟩]
@[go_sem] def m6p : List XO := [
 ⟨some 18,none,.mv (.t 10)⟩,
 ⟨some 19,none,.fldA 0 (.t 9)⟩,
 ⟨some 20,none,.load false 1 (.t 19)⟩,
 ⟨some 21,none,.len false (.t 20)⟩,
 ⟨some 22,none,.bin .lss .no (.t 18) (.t 21)⟩]
@[go_sem] def m6q : List XO := [
 ⟨some 11,none,.mv (.c (.int .i64 0))⟩]
@[go_sem] def m6r : List XO := [
 ⟨some 25,none,.mv (.t 11)⟩,
 ⟨some 26,none,.load true 5 (.tf 4)⟩,
 ⟨some 27,none,.call "newel/newelref04.all" [.t 26]⟩,
 ⟨some 28,none,.bin .lss .no (.t 25) (.t 27)⟩]
@[go_sem] def m6s : List XO := [
 ⟨some 31,none,.load true 5 (.tf 4)⟩,
 ⟨some 32,none,.fldA 0 (.t 9)⟩,
 ⟨some 33,none,.load false 1 (.t 32)⟩,
 ⟨some 34,none,.mv (.t 10)⟩,
 ⟨some 35,none,.ixA 3 (.t 33) (.t 34)⟩,
 ⟨some 36,none,.load true 3 (.t 35)⟩,
 ⟨some 37,none,.mv (.t 11)⟩,
 ⟨some 38,none,.mv (.t 1)⟩,
 ⟨some 39,none,.call "newel/newelref04.Allows" [.t 31, .t 36, .t 37, .t 38]⟩,
 ⟨some 40,none,.un .not (.t 39)⟩]
@[go_sem] def m6t : List XO := [
 ⟨some 41,none,.load true 5 (.tf 4)⟩,
 ⟨some 42,none,.fldA 0 (.t 9)⟩,
 ⟨some 43,none,.load false 1 (.t 42)⟩,
 ⟨some 44,none,.mv (.t 10)⟩,
 ⟨some 45,none,.ixA 3 (.t 43) (.t 44)⟩,
 ⟨some 46,none,.load true 3 (.t 45)⟩,
 ⟨some 47,none,.mv (.t 11)⟩,
 ⟨some 48,none,.mv (.t 2)⟩,
 ⟨some 49,none,.mv (.t 3)⟩,
 ⟨some 50,none,.call "newel/newelref04.Heard" [.t 47, .t 48, .t 49]⟩,
 ⟨some 51,none,.call "newel/newelref04.Next" [.t 41, .t 46, .t 50]⟩,
 ⟨some 12,none,.alloc [(.int .i64 0), (.int .i64 0), (.int .i64 0)]⟩,
 ⟨none, none, .store 3 (.t 12) (.t 51)⟩]
@[go_sem] def m6u : List XO := [
 ⟨some 52,none,.fldA 0 (.t 9)⟩,
 ⟨some 53,none,.load false 1 (.t 52)⟩,
 ⟨some 54,none,.load true 3 (.t 12)⟩,
 ⟨some 55,none,.call "newel/newelref04.index" [.t 53, .t 54]⟩,
 ⟨some 56,none,.bin .lss .no (.t 55) (.c (.int .i64 0))⟩]
@[go_sem] def m6v : List XO := [
 ⟨some 57,none,.fldA 0 (.t 9)⟩,
 ⟨some 58,none,.load false 1 (.t 57)⟩,
 ⟨some 59,none,.load true 3 (.t 12)⟩,
 ⟨some 60,none,.bsl 3 [.t 59]⟩,
 ⟨some 61,none,.app 3 24 (.t 58) (.t 60)⟩,
 ⟨some 62,none,.fldA 0 (.t 9)⟩,
 ⟨none, none, .store 1 (.t 62) (.t 61)⟩]
@[go_sem] def m6j : List XO := [
 ⟨some 63,none,.fldA 1 (.t 9)⟩,
 ⟨some 64,none,.load false 1 (.t 63)⟩,
 ⟨some 65,none,.mv (.t 10)⟩,
 ⟨some 66,none,.bsl 1 [.t 65]⟩,
 ⟨some 67,none,.app 1 8 (.t 64) (.t 66)⟩,
 ⟨some 68,none,.fldA 1 (.t 9)⟩,
 ⟨none, none, .store 1 (.t 68) (.t 67)⟩]
@[go_sem] def m6k : List XO := [
 ⟨some 69,none,.fldA 2 (.t 9)⟩,
 ⟨some 70,none,.load false 1 (.t 69)⟩,
 ⟨some 71,none,.mv (.t 11)⟩,
 ⟨some 72,none,.bsl 1 [.t 71]⟩,
 ⟨some 73,none,.app 1 8 (.t 70) (.t 72)⟩,
 ⟨some 74,none,.fldA 2 (.t 9)⟩,
 ⟨none, none, .store 1 (.t 74) (.t 73)⟩]
@[go_sem] def m6l : List XO := [
 ⟨some 29,none,.mv (.t 11)⟩,
 ⟨some 30,none,.bin .add .no (.t 29) (.c (.int .i64 1))⟩,
 ⟨some 11,none,.mv (.t 30)⟩]
def g2r : XCode :=
 (.seq (.seq (.reg m6r) (.cond (.t 28) .skip (.exit 2))) (.seq (.block 3 (.seq (.seq (.reg m6s) (.cond (.t 40) (.exit 3) .skip)) (.seq (.reg m6t) (.seq (.reg m6u) (.cond (.t 56) (.seq (.reg m6v) (.seq (.reg m6j) (.reg m6k))) .skip))))) (.reg m6l)))
@[go_sem] def m6m : List XO := [
 ⟨some 23,none,.mv (.t 10)⟩,
 ⟨some 24,none,.bin .add .no (.t 23) (.c (.int .i64 1))⟩,
 ⟨some 10,none,.mv (.t 24)⟩]
def g2s : XCode :=
 (.seq (.seq (.reg m6p) (.cond (.t 22) .skip (.exit 0))) (.seq (.block 1 (.seq (.reg m6q) (.block 2 (.loop g2r)))) (.reg m6m)))
@[go_sem] def m6n : List XO := [
 ⟨some 75,none,.load true 3 (.t 9)⟩,
 ⟨none, none, .store 3 (.t 8) (.t 75)⟩]
def x_r04_explore : XFunc := { np := 4, res := [.cell 8 true 3], body :=
 (.seq (.reg m6h) (.seq (.reg m6i) (.seq (.seq (.reg m6o) (.block 0 (.loop g2s))) (.seq (.reg m6n) .ret)))) }
@[go_sem] def l6a : List XO := [
 ⟨some 4,none,.boxF (.t 0)⟩,
 ⟨some 6,none,.boxF (.t 2)⟩,
 ⟨some 8,none,.mv (.c (.slice none 0 0))⟩,
 ⟨some 9,none,.mv (.c (.bool false))⟩]
@[go_sem] def l6b : List XO := [
 ⟨some 11,none,.load true 5 (.tf 4)⟩,
 ⟨some 12,none,.mv (.t 1)⟩,
 ⟨some 13,none,.mv (.t 3)⟩,
 ⟨some 14,none,.call "(newel/control.plant).explore" [.t 11, .t 12, .t 13]⟩,
 ⟨some 10,none,.alloc [(.pointer none)]⟩,
 ⟨none, none, .store 1 (.t 10) (.t 14)⟩]
@[go_sem] def l6c : List XO := [
 ⟨some 15,none,.load false 1 (.t 10)⟩,
 ⟨some 16,none,.mkfn "(newel/control.plant).breach$1" [] [.t 4, .t 6, .t 10]⟩,
 ⟨some 17,none,.call "(*newel/control.walk).first" [.t 15, .t 16]⟩,
 ⟨some 18,none,.ext (.t 17) 0⟩,
 ⟨some 19,none,.ext (.t 17) 1⟩,
 ⟨some 8,none,.mv (.t 18)⟩,
 ⟨some 9,none,.mv (.t 19)⟩]
def x__control_plant__breach : XFunc := { np := 4, res := [.t 8, .t 9], body :=
 (.seq (.reg l6a) (.seq (.reg l6b) (.seq (.seq .ghost (.reg l6c)) .ret))) }
@[go_sem] def l93 : List XO := [
 ⟨some 4,none,.mv (.c (.int .i64 0))⟩]
@[go_sem] def l94 : List XO := [
 ⟨some 5,none,.mv (.t 0)⟩,
 ⟨some 6,none,.load false 1 (.t 1)⟩,
 ⟨some 7,none,.bin .shl .no (.c (.int .i64 1)) (.t 6)⟩,
 ⟨some 8,none,.bin .andNot .no (.t 5) (.t 7)⟩,
 ⟨some 9,none,.load false 1 (.t 2)⟩,
 ⟨some 10,none,.load false 1 (.t 1)⟩,
 ⟨some 11,none,.bin .shl .no (.t 9) (.t 10)⟩,
 ⟨some 12,none,.bin .or .no (.t 8) (.t 11)⟩,
 ⟨some 4,none,.mv (.t 12)⟩]
def x_control_StuckD1 : XFunc := { np := 3, res := [.t 4], body :=
 (.seq (.reg l93) (.seq (.reg l94) .ret)) }
@[go_sem] def l60 : List XO := [
 ⟨some 3,none,.boxF (.t 0)⟩,
 ⟨some 4,none,.boxF (.t 1)⟩,
 ⟨some 6,none,.mv (.c (.slice none 0 0))⟩,
 ⟨some 7,none,.mv (.c (.bool false))⟩]
@[go_sem] def l61 : List XO := [
 ⟨some 8,none,.mv (.c (.int .i64 0))⟩]
@[go_sem] def l62 : List XO := [
 ⟨some 9,none,.mv (.t 8)⟩,
 ⟨some 10,none,.fldA 0 (.tf 3)⟩,
 ⟨some 11,none,.load false 1 (.tf 10)⟩,
 ⟨some 12,none,.len false (.t 11)⟩,
 ⟨some 13,none,.bin .lss .no (.t 9) (.t 12)⟩]
@[go_sem] def l63 : List XO := [
 ⟨some 16,none,.load true 5 (.tf 4)⟩,
 ⟨some 17,none,.fldA 0 (.tf 3)⟩,
 ⟨some 18,none,.load false 1 (.tf 17)⟩,
 ⟨some 19,none,.mv (.t 8)⟩,
 ⟨some 20,none,.ixA 3 (.t 18) (.t 19)⟩,
 ⟨some 21,none,.load true 3 (.t 20)⟩,
 ⟨some 22,none,.mv (.t 2)⟩,
 ⟨some 23,none,.call "newel/newelref04.Holds" [.t 16, .t 21, (.c (.int .i64 0)), .t 22]⟩]
@[go_sem] def l64 : List XO := [
 ⟨some 24,none,.load true 3 (.tf 3)⟩,
 ⟨some 25,none,.mv (.t 8)⟩,
 ⟨some 26,none,.call "(newel/newelref04.graph).run" [.t 24, .t 25]⟩,
 ⟨some 6,none,.mv (.t 26)⟩,
 ⟨some 7,none,.mv (.c (.bool true))⟩]
@[go_sem] def l65 : List XO := [
 ⟨some 14,none,.mv (.t 8)⟩,
 ⟨some 15,none,.bin .add .no (.t 14) (.c (.int .i64 1))⟩,
 ⟨some 8,none,.mv (.t 15)⟩]
def g1z : XCode :=
 (.seq (.seq (.reg l62) (.cond (.t 13) .skip (.exit 0))) (.seq (.block 1 (.seq (.reg l63) (.cond (.t 23) (.seq (.reg l64) .ret) .skip))) (.reg l65)))
@[go_sem] def l66 : List XO := [
 ⟨some 6,none,.mv (.c (.slice none 0 0))⟩,
 ⟨some 7,none,.mv (.c (.bool false))⟩]
def x__r04_graph__breach : XFunc := { np := 3, res := [.t 6, .t 7], body :=
 (.seq (.reg l60) (.seq (.seq (.reg l61) (.block 0 (.loop g1z))) (.seq (.reg l66) .ret))) }
@[go_sem] def l7l : List XO := [
 ⟨some 4,none,.boxF (.t 0)⟩,
 ⟨some 6,none,.boxF (.t 2)⟩,
 ⟨some 7,none,.boxF (.t 3)⟩,
 ⟨some 8,none,.mv (.c (.bool false))⟩]
@[go_sem] def l7m : List XO := [
 ⟨some 9,none,.mv (.t 1)⟩,
 ⟨some 10,none,.mkfn "(newel/situation.Plant).Holds$1" [] [.t 4, .t 6, .t 7]⟩,
 ⟨some 11,none,.call "slices.ContainsFunc[newel/api.Cond,newel/api.Term]" [.t 9, .t 10]⟩,
 ⟨some 8,none,.mv (.t 11)⟩]
def x__situation_Plant__Holds : XFunc := { np := 4, res := [.t 8], body :=
 (.seq (.reg l7l) (.seq (.reg l7m) .ret)) }
@[go_sem] def l5t : List XO := [
 ⟨some 4,none,.mv (.c (.slice none 0 0))⟩,
 ⟨some 5,none,.mv (.c (.bool false))⟩]
@[go_sem] def l5u : List XO := [
 ⟨some 7,none,.mv (.t 0)⟩,
 ⟨some 8,none,.nilck (.t 7)⟩,
 ⟨some 9,none,.fldA 0 (.t 8)⟩,
 ⟨some 10,none,.load false 1 (.t 9)⟩,
 ⟨some 11,none,.len false (.t 10)⟩,
 ⟨some 12,none,.mv (.c (.int .i64 0))⟩]
@[go_sem] def l5v : List XO := [
 ⟨some 13,none,.bin .lss .no (.t 12) (.t 11)⟩]
@[go_sem] def l5w : List XO := [
 ⟨some 14,none,.mv (.t 12)⟩,
 ⟨some 6,none,.mv (.t 14)⟩]
@[go_sem] def l5x : List XO := [
 ⟨some 15,none,.mv (.t 1)⟩,
 ⟨some 16,none,.mv (.t 6)⟩,
 ⟨some 17,none,.callv (.t 15) [.t 16]⟩]
@[go_sem] def l5y : List XO := [
 ⟨some 18,none,.mv (.t 0)⟩,
 ⟨some 19,none,.mv (.t 6)⟩,
 ⟨some 20,none,.call "(*newel/control.walk).run" [.t 18, .t 19]⟩,
 ⟨some 4,none,.mv (.t 20)⟩,
 ⟨some 5,none,.mv (.c (.bool true))⟩]
@[go_sem] def l5z : List XO := [
 ⟨some 21,none,.bin .add .no (.t 12) (.c (.int .i64 1))⟩,
 ⟨some 12,none,.mv (.t 21)⟩]
def g1v : XCode :=
 (.seq (.reg l5v) (.seq (.cond (.t 13) .skip (.exit 0)) (.seq (.block 1 (.seq (.reg l5w) (.seq (.reg l5x) (.cond (.t 17) (.seq (.reg l5y) .ret) .skip)))) (.reg l5z))))
@[go_sem] def l50 : List XO := [
 ⟨some 4,none,.mv (.c (.slice none 0 0))⟩,
 ⟨some 5,none,.mv (.c (.bool false))⟩]
def x___control_walk__first : XFunc := { np := 2, res := [.t 4, .t 5], body :=
 (.seq (.reg l5t) (.seq (.seq (.reg l5u) (.block 0 (.loop g1v))) (.seq (.reg l50) .ret))) }
@[go_sem] def m5q : List XO := [
 ⟨some 1,none,.boxF (.t 0)⟩,
 ⟨some 2,none,.mv (.c (.int .i64 0))⟩]
@[go_sem] def m5r : List XO := [
 ⟨some 3,none,.fldA 0 (.tf 1)⟩,
 ⟨some 4,none,.load false 1 (.tf 3)⟩,
 ⟨some 5,none,.len false (.t 4)⟩,
 ⟨some 6,none,.cvtI .u64 (.t 5)⟩,
 ⟨some 7,none,.bin .shl .no (.c (.int .i64 1)) (.t 6)⟩,
 ⟨some 2,none,.mv (.t 7)⟩]
def x_r04_all : XFunc := { np := 1, res := [.t 2], body :=
 (.seq (.reg m5q) (.seq (.reg m5r) .ret)) }
@[go_sem] def m6y : List XO := [
 ⟨some 3,none,.boxF (.t 1)⟩,
 ⟨some 4,none,.mv (.c (.int .i64 0))⟩]
@[go_sem] def m6z : List XO := [
 ⟨some 5,none,.mv (.c (.int .i64 0))⟩]
@[go_sem] def m60 : List XO := [
 ⟨some 6,none,.mv (.t 5)⟩,
 ⟨some 7,none,.mv (.t 0)⟩,
 ⟨some 8,none,.len false (.t 7)⟩,
 ⟨some 9,none,.bin .lss .no (.t 6) (.t 8)⟩]
@[go_sem] def m61 : List XO := [
 ⟨some 12,none,.mv (.t 0)⟩,
 ⟨some 13,none,.mv (.t 5)⟩,
 ⟨some 14,none,.ixA 3 (.t 12) (.t 13)⟩,
 ⟨some 15,none,.load true 3 (.t 14)⟩,
 ⟨some 16,none,.load true 3 (.tf 3)⟩,
 ⟨some 17,none,.bin .eql (.flat [.i, .i, .i]) (.t 15) (.t 16)⟩]
@[go_sem] def m62 : List XO := [
 ⟨some 18,none,.mv (.t 5)⟩,
 ⟨some 4,none,.mv (.t 18)⟩]
@[go_sem] def m63 : List XO := [
 ⟨some 10,none,.mv (.t 5)⟩,
 ⟨some 11,none,.bin .add .no (.t 10) (.c (.int .i64 1))⟩,
 ⟨some 5,none,.mv (.t 11)⟩]
def g2t : XCode :=
 (.seq (.seq (.reg m60) (.cond (.t 9) .skip (.exit 0))) (.seq (.block 1 (.seq (.reg m61) (.cond (.t 17) (.seq (.reg m62) .ret) .skip))) (.reg m63)))
@[go_sem] def m64 : List XO := [
 ⟨some 4,none,.mv (.c (.int .i64 (-1)))⟩]
def x_r04_index : XFunc := { np := 2, res := [.t 4], body :=
 (.seq (.reg m6y) (.seq (.seq (.reg m6z) (.block 0 (.loop g2t))) (.seq (.reg m64) .ret))) }
@[go_sem] def m4e : List XO := [
 ⟨some 3,none,.boxF (.t 0)⟩,
 ⟨some 4,none,.boxF (.t 1)⟩,
 ⟨some 6,none,.alloc [(.int .i64 0), (.int .i64 0), (.int .i64 0)]⟩]
@[go_sem] def m4f : List XO := [
 ⟨some 7,none,.mv (.c (.int .i64 0))⟩]
@[go_sem] def m4p : List XO := [
 ⟨some 12,none,.mv (.t 7)⟩,
 ⟨some 13,none,.fldA 4 (.tf 3)⟩,
 ⟨some 14,none,.load false 1 (.tf 13)⟩,
 ⟨some 15,none,.len false (.t 14)⟩,
 ⟨some 16,none,.bin .lss .no (.t 12) (.t 15)⟩]
@[go_sem] def m4s : List XO := [
 ⟨some 19,none,.fldA 4 (.tf 3)⟩,
 ⟨some 20,none,.load false 1 (.tf 19)⟩,
 ⟨some 21,none,.mv (.t 7)⟩,
 ⟨some 22,none,.ixA 4 (.t 20) (.t 21)⟩,
 ⟨some 23,none,.load true 4 (.t 22)⟩,
 ⟨some 8,none,.alloc [(.int .i64 0), (.int .i64 0), (.slice none 0 0), (.slice none 0 0)]⟩,
 ⟨none, none, .store 4 (.t 8) (.t 23)⟩]
@[go_sem] def m4t : List XO := [
 ⟨some 24,none,.fldA 0 (.t 8)⟩,
 ⟨some 25,none,.load false 1 (.t 24)⟩,
 ⟨some 26,none,.bin .geq .no (.t 25) (.c (.int .i64 0))⟩,
 ⟨some 27,none,.mv (.t 26)⟩,
 ⟨(some 28), (some (27, true)), .fldA 0 (.t 8)⟩,
 ⟨(some 29), (some (27, true)), .load false 1 (.t 28)⟩,
 ⟨(some 30), (some (27, true)), .fldA 0 (.tf 4)⟩,
 ⟨(some 31), (some (27, true)), .load false 1 (.tf 30)⟩,
 ⟨(some 32), (some (27, true)), .bin .neq .no (.t 29) (.t 31)⟩,
 ⟨some 33,none,.pick (.t 27) (.t 32) (.c (.bool false))⟩,
 ⟨some 34,none,.mv (.t 33)⟩,
 ⟨(some 35), (some (34, false)), .load true 5 (.tf 3)⟩,
 ⟨(some 36), (some (34, false)), .load true 3 (.tf 4)⟩,
 ⟨(some 37), (some (34, false)), .mv (.t 2)⟩,
 ⟨(some 38), (some (34, false)), .fldA 2 (.t 8)⟩,
 ⟨(some 39), (some (34, false)), .load false 1 (.t 38)⟩,
 ⟨(some 40), (some (34, false)), .call "newel/newelref04.Holds" [.t 35, .t 36, .t 37, .t 39]⟩,
 ⟨(some 41), (some (34, false)), .un .not (.t 40)⟩,
 ⟨some 42,none,.pick (.t 34) (.c (.bool true)) (.t 41)⟩]
@[go_sem] def m4u : List XO := [
 ⟨some 43,none,.load true 3 (.tf 4)⟩,
 ⟨some 9,none,.alloc [(.int .i64 0), (.int .i64 0), (.int .i64 0)]⟩,
 ⟨none, none, .store 3 (.t 9) (.t 43)⟩]
@[go_sem] def m4v : List XO := [
 ⟨some 10,none,.mv (.c (.int .i64 0))⟩]
@[go_sem] def m4w : List XO := [
 ⟨some 44,none,.mv (.t 10)⟩,
 ⟨some 45,none,.fldA 3 (.t 8)⟩,
 ⟨some 46,none,.load false 1 (.t 45)⟩,
 ⟨some 47,none,.len false (.t 46)⟩,
 ⟨some 48,none,.bin .lss .no (.t 44) (.t 47)⟩]
@[go_sem] def m4x : List XO := [
 ⟨some 51,none,.fldA 3 (.t 8)⟩,
 ⟨some 52,none,.load false 1 (.t 51)⟩,
 ⟨some 53,none,.mv (.t 10)⟩,
 ⟨some 54,none,.ixA 2 (.t 52) (.t 53)⟩,
 ⟨some 55,none,.fldA 1 (.t 54)⟩,
 ⟨some 56,none,.load false 1 (.t 55)⟩,
 ⟨some 11,none,.mv (.t 56)⟩]
@[go_sem] def m4y : List XO := [
 ⟨some 57,none,.fldA 3 (.t 8)⟩,
 ⟨some 58,none,.load false 1 (.t 57)⟩,
 ⟨some 59,none,.mv (.t 10)⟩,
 ⟨some 60,none,.ixA 2 (.t 58) (.t 59)⟩,
 ⟨some 61,none,.fldA 0 (.t 60)⟩,
 ⟨some 62,none,.load false 1 (.t 61)⟩]
@[go_sem] def m4g : List XO := [
 ⟨some 64,none,.bin .eql .no (.t 62) (.c (.int .i64 1))⟩,
 ⟨some 63,none,.mv (.t 64)⟩]
@[go_sem] def m4h : List XO := [
 ⟨some 65,none,.mv (.t 11)⟩,
 ⟨some 66,none,.fldA 1 (.t 9)⟩,
 ⟨some 67,none,.ixP 1 2 (.t 66) (.t 65)⟩,
 ⟨none, none, .store 1 (.t 67) (.c (.int .i64 0))⟩]
@[go_sem] def m4i : List XO := [
 ⟨some 69,none,.bin .eql .no (.t 62) (.c (.int .i64 2))⟩,
 ⟨some 68,none,.mv (.t 69)⟩]
@[go_sem] def m4j : List XO := [
 ⟨some 70,none,.mv (.t 11)⟩,
 ⟨some 71,none,.mv (.t 11)⟩,
 ⟨some 72,none,.fldA 1 (.t 9)⟩,
 ⟨some 73,none,.ixP 1 2 (.t 72) (.t 71)⟩,
 ⟨some 74,none,.load false 1 (.t 73)⟩,
 ⟨some 75,none,.bin .add .no (.t 74) (.c (.int .i64 1))⟩,
 ⟨some 76,none,.fldA 2 (.tf 3)⟩,
 ⟨some 77,none,.load false 1 (.tf 76)⟩,
 ⟨some 78,none,.mv (.t 11)⟩,
 ⟨some 79,none,.ixA 2 (.t 77) (.t 78)⟩,
 ⟨some 80,none,.fldA 1 (.t 79)⟩,
 ⟨some 81,none,.load false 1 (.t 80)⟩,
 ⟨some 82,none,.min [.t 75, .t 81]⟩,
 ⟨some 83,none,.fldA 1 (.t 9)⟩,
 ⟨some 84,none,.ixP 1 2 (.t 83) (.t 70)⟩,
 ⟨none, none, .store 1 (.t 84) (.t 82)⟩]
@[go_sem] def m4k : List XO := [
 ⟨some 86,none,.bin .eql .no (.t 62) (.c (.int .i64 3))⟩,
 ⟨some 85,none,.mv (.t 86)⟩]
@[go_sem] def m4l : List XO := [
 ⟨some 87,none,.mv (.t 11)⟩,
 ⟨some 88,none,.mv (.t 11)⟩,
 ⟨some 89,none,.fldA 1 (.t 9)⟩,
 ⟨some 90,none,.ixP 1 2 (.t 89) (.t 88)⟩,
 ⟨some 91,none,.load false 1 (.t 90)⟩,
 ⟨some 92,none,.bin .sub .no (.t 91) (.c (.int .i64 1))⟩,
 ⟨some 93,none,.max [.t 92, (.c (.int .i64 0))]⟩,
 ⟨some 94,none,.fldA 1 (.t 9)⟩,
 ⟨some 95,none,.ixP 1 2 (.t 94) (.t 87)⟩,
 ⟨none, none, .store 1 (.t 95) (.t 93)⟩]
@[go_sem] def m4m : List XO := [
 ⟨some 49,none,.mv (.t 10)⟩,
 ⟨some 50,none,.bin .add .no (.t 49) (.c (.int .i64 1))⟩,
 ⟨some 10,none,.mv (.t 50)⟩]
def g2j : XCode :=
 (.seq (.seq (.reg m4w) (.cond (.t 48) .skip (.exit 2))) (.seq (.block 3 (.seq (.reg m4x) (.seq (.reg m4y) (.block 4 (.seq (.reg m4g) (.cond (.t 63) (.reg m4h) (.seq (.reg m4i) (.cond (.t 68) (.reg m4j) (.seq (.reg m4k) (.cond (.t 85) (.reg m4l) .skip)))))))))) (.reg m4m)))
@[go_sem] def m4n : List XO := [
 ⟨some 96,none,.fldA 1 (.t 8)⟩,
 ⟨some 97,none,.load false 1 (.t 96)⟩,
 ⟨some 98,none,.fldA 0 (.t 9)⟩,
 ⟨none, none, .store 1 (.t 98) (.t 97)⟩]
@[go_sem] def m4o : List XO := [
 ⟨some 99,none,.load true 3 (.t 9)⟩,
 ⟨none, none, .store 3 (.t 6) (.t 99)⟩]
@[go_sem] def m4q : List XO := [
 ⟨some 17,none,.mv (.t 7)⟩,
 ⟨some 18,none,.bin .add .no (.t 17) (.c (.int .i64 1))⟩,
 ⟨some 7,none,.mv (.t 18)⟩]
def g2k : XCode :=
 (.seq (.seq (.reg m4p) (.cond (.t 16) .skip (.exit 0))) (.seq (.block 1 (.seq (.reg m4s) (.seq (.seq (.reg m4t) (.cond (.t 42) (.exit 1) .skip)) (.seq (.reg m4u) (.seq (.seq (.reg m4v) (.block 2 (.loop g2j))) (.seq (.reg m4n) (.seq (.reg m4o) .ret))))))) (.reg m4q)))
@[go_sem] def m4r : List XO := [
 ⟨some 100,none,.load true 3 (.tf 4)⟩,
 ⟨none, none, .store 3 (.t 6) (.t 100)⟩]
def x_r04_Next : XFunc := { np := 3, res := [.cell 6 true 3], body :=
 (.seq (.reg m4e) (.seq (.seq (.reg m4f) (.block 0 (.loop g2k))) (.seq (.reg m4r) .ret))) }
@[go_sem] def l67 : List XO := [
 ⟨some 2,none,.boxF (.t 0)⟩,
 ⟨some 4,none,.mv (.c (.slice none 0 0))⟩]
@[go_sem] def l68 : List XO := [
 ⟨some 5,none,.mv (.c (.slice none 0 0))⟩]
@[go_sem] def l69 : List XO := [
 ⟨some 6,none,.mv (.t 1)⟩,
 ⟨some 7,none,.bin .gtr .no (.t 6) (.c (.int .i64 0))⟩]
@[go_sem] def l7a : List XO := [
 ⟨some 13,none,.fldA 2 (.tf 2)⟩,
 ⟨some 14,none,.load false 1 (.tf 13)⟩,
 ⟨some 15,none,.mv (.t 1)⟩,
 ⟨some 16,none,.ixA 1 (.t 14) (.t 15)⟩,
 ⟨some 17,none,.load false 1 (.t 16)⟩,
 ⟨some 18,none,.bsl 1 [.t 17]⟩,
 ⟨some 19,none,.mv (.t 5)⟩,
 ⟨some 20,none,.app 1 8 (.t 18) (.t 19)⟩,
 ⟨some 5,none,.mv (.t 20)⟩]
@[go_sem] def l7b : List XO := [
 ⟨some 8,none,.fldA 1 (.tf 2)⟩,
 ⟨some 9,none,.load false 1 (.tf 8)⟩,
 ⟨some 10,none,.mv (.t 1)⟩,
 ⟨some 11,none,.ixA 1 (.t 9) (.t 10)⟩,
 ⟨some 12,none,.load false 1 (.t 11)⟩,
 ⟨some 1,none,.mv (.t 12)⟩]
def g10 : XCode :=
 (.seq (.seq (.reg l69) (.cond (.t 7) .skip (.exit 0))) (.seq (.block 1 (.reg l7a)) (.reg l7b)))
@[go_sem] def l7c : List XO := [
 ⟨some 21,none,.mv (.t 5)⟩,
 ⟨some 4,none,.mv (.t 21)⟩]
def x__r04_graph__run : XFunc := { np := 2, res := [.t 4], body :=
 (.seq (.reg l67) (.seq (.reg l68) (.seq (.block 0 (.loop g10)) (.seq (.reg l7c) .ret)))) }
@[go_sem] def m5s : List XO := [
 ⟨some 3,none,.boxF (.t 0)⟩,
 ⟨some 6,none,.mv (.c (.bool false))⟩]
@[go_sem] def m5t : List XO := [
 ⟨some 11,none,.mv (.t 1)⟩,
 ⟨some 12,none,.len false (.t 11)⟩,
 ⟨some 13,none,.bin .gtr .no (.t 12) (.c (.int .i64 6))⟩]
@[go_sem] def m54 : List XO := [
 ⟨some 6,none,.mv (.c (.bool false))⟩]
@[go_sem] def m6a : List XO := [
 ⟨some 7,none,.mv (.c (.int .i64 0))⟩]
@[go_sem] def m6b : List XO := [
 ⟨some 14,none,.mv (.t 7)⟩,
 ⟨some 15,none,.mv (.t 1)⟩,
 ⟨some 16,none,.len false (.t 15)⟩,
 ⟨some 17,none,.bin .lss .no (.t 14) (.t 16)⟩]
@[go_sem] def m6c : List XO := [
 ⟨some 20,none,.mv (.t 1)⟩,
 ⟨some 21,none,.mv (.t 7)⟩,
 ⟨some 22,none,.ixA 1 (.t 20) (.t 21)⟩,
 ⟨some 23,none,.load false 1 (.t 22)⟩,
 ⟨some 24,none,.len false (.t 23)⟩,
 ⟨some 25,none,.bin .gtr .no (.t 24) (.c (.int .i64 6))⟩]
@[go_sem] def m6d : List XO := [
 ⟨some 6,none,.mv (.c (.bool false))⟩]
@[go_sem] def m6e : List XO := [
 ⟨some 8,none,.mv (.c (.int .i64 0))⟩]
@[go_sem] def m6f : List XO := [
 ⟨some 26,none,.mv (.t 8)⟩,
 ⟨some 27,none,.mv (.t 1)⟩,
 ⟨some 28,none,.mv (.t 7)⟩,
 ⟨some 29,none,.ixA 1 (.t 27) (.t 28)⟩,
 ⟨some 30,none,.load false 1 (.t 29)⟩,
 ⟨some 31,none,.len false (.t 30)⟩,
 ⟨some 32,none,.bin .lss .no (.t 26) (.t 31)⟩]
@[go_sem] def m6g : List XO := [
 ⟨some 35,none,.mv (.t 1)⟩,
 ⟨some 36,none,.mv (.t 7)⟩,
 ⟨some 37,none,.ixA 1 (.t 35) (.t 36)⟩,
 ⟨some 38,none,.load false 1 (.t 37)⟩,
 ⟨some 39,none,.mv (.t 8)⟩,
 ⟨some 40,none,.ixA 4 (.t 38) (.t 39)⟩,
 ⟨some 41,none,.load true 4 (.t 40)⟩,
 ⟨some 9,none,.alloc [(.int .i64 0), (.int .i64 0), (.int .i64 0), (.bool false)]⟩,
 ⟨none, none, .store 4 (.t 9) (.t 41)⟩]
@[go_sem] def m5u : List XO := [
 ⟨some 10,none,.mv (.c (.bool false))⟩]
@[go_sem] def m5v : List XO := [
 ⟨some 42,none,.fldA 0 (.t 9)⟩,
 ⟨some 43,none,.load false 1 (.t 42)⟩]
@[go_sem] def m5w : List XO := [
 ⟨some 45,none,.bin .eql .no (.t 43) (.c (.int .i64 1))⟩,
 ⟨some 44,none,.mv (.t 45)⟩]
@[go_sem] def m5x : List XO := [
 ⟨some 46,none,.fldA 1 (.t 9)⟩,
 ⟨some 47,none,.load false 1 (.t 46)⟩,
 ⟨some 48,none,.fldA 0 (.tf 3)⟩,
 ⟨some 49,none,.load false 1 (.tf 48)⟩,
 ⟨some 50,none,.len false (.t 49)⟩,
 ⟨some 51,none,.bin .sub .no (.t 50) (.c (.int .i64 1))⟩,
 ⟨some 52,none,.call "newel/newelref04.from" [.t 47, (.c (.int .i64 0)), .t 51]⟩,
 ⟨some 53,none,.mv (.t 52)⟩,
 ⟨(some 54), (some (53, true)), .fldA 2 (.t 9)⟩,
 ⟨(some 55), (some (53, true)), .load false 1 (.t 54)⟩,
 ⟨(some 56), (some (53, true)), .bin .eql .no (.t 55) (.c (.int .i64 0))⟩,
 ⟨some 57,none,.pick (.t 53) (.t 56) (.c (.bool false))⟩,
 ⟨some 10,none,.mv (.t 57)⟩]
@[go_sem] def m5y : List XO := [
 ⟨some 59,none,.bin .eql .no (.t 43) (.c (.int .i64 2))⟩,
 ⟨some 58,none,.mv (.t 59)⟩]
@[go_sem] def m5z : List XO := [
 ⟨some 60,none,.fldA 1 (.t 9)⟩,
 ⟨some 61,none,.load false 1 (.t 60)⟩,
 ⟨some 62,none,.fldA 2 (.tf 3)⟩,
 ⟨some 63,none,.load false 1 (.tf 62)⟩,
 ⟨some 64,none,.len false (.t 63)⟩,
 ⟨some 65,none,.bin .sub .no (.t 64) (.c (.int .i64 1))⟩,
 ⟨some 66,none,.call "newel/newelref04.from" [.t 61, (.c (.int .i64 0)), .t 65]⟩,
 ⟨some 67,none,.mv (.t 66)⟩,
 ⟨(some 68), (some (67, true)), .fldA 2 (.t 9)⟩,
 ⟨(some 69), (some (67, true)), .load false 1 (.t 68)⟩,
 ⟨(some 70), (some (67, true)), .fldA 2 (.tf 3)⟩,
 ⟨(some 71), (some (67, true)), .load false 1 (.tf 70)⟩,
 ⟨(some 72), (some (67, true)), .fldA 1 (.t 9)⟩,
 ⟨(some 73), (some (67, true)), .load false 1 (.t 72)⟩,
 ⟨(some 74), (some (67, true)), .ixA 2 (.t 71) (.t 73)⟩,
 ⟨(some 75), (some (67, true)), .fldA 1 (.t 74)⟩,
 ⟨(some 76), (some (67, true)), .load false 1 (.t 75)⟩,
 ⟨(some 77), (some (67, true)), .call "newel/newelref04.from" [.t 69, (.c (.int .i64 0)), .t 76]⟩,
 ⟨some 78,none,.pick (.t 67) (.t 77) (.c (.bool false))⟩,
 ⟨some 10,none,.mv (.t 78)⟩]
@[go_sem] def m50 : List XO := [
 ⟨some 80,none,.bin .eql .no (.t 43) (.c (.int .i64 3))⟩,
 ⟨some 79,none,.mv (.t 80)⟩]
@[go_sem] def m51 : List XO := [
 ⟨some 81,none,.mv (.t 2)⟩,
 ⟨some 82,none,.mv (.t 81)⟩,
 ⟨(some 83), (some (82, true)), .fldA 1 (.t 9)⟩,
 ⟨(some 84), (some (82, true)), .load false 1 (.t 83)⟩,
 ⟨(some 85), (some (82, true)), .fldA 3 (.tf 3)⟩,
 ⟨(some 86), (some (82, true)), .load false 1 (.tf 85)⟩,
 ⟨(some 87), (some (82, true)), .len false (.t 86)⟩,
 ⟨(some 88), (some (82, true)), .bin .sub .no (.t 87) (.c (.int .i64 1))⟩,
 ⟨(some 89), (some (82, true)), .call "newel/newelref04.from" [.t 84, (.c (.int .i64 0)), .t 88]⟩,
 ⟨some 90,none,.pick (.t 82) (.t 89) (.c (.bool false))⟩,
 ⟨some 91,none,.mv (.t 90)⟩,
 ⟨(some 92), (some (91, true)), .fldA 2 (.t 9)⟩,
 ⟨(some 93), (some (91, true)), .load false 1 (.t 92)⟩,
 ⟨(some 94), (some (91, true)), .bin .eql .no (.t 93) (.c (.int .i64 0))⟩,
 ⟨some 95,none,.pick (.t 91) (.t 94) (.c (.bool false))⟩,
 ⟨some 10,none,.mv (.t 95)⟩]
@[go_sem] def m52 : List XO := [
 ⟨some 97,none,.bin .eql .no (.t 43) (.c (.int .i64 4))⟩,
 ⟨some 96,none,.mv (.t 97)⟩]
@[go_sem] def m53 : List XO := [
 ⟨some 98,none,.fldA 1 (.t 9)⟩,
 ⟨some 99,none,.load false 1 (.t 98)⟩,
 ⟨some 100,none,.fldA 1 (.tf 3)⟩,
 ⟨some 101,none,.load false 1 (.tf 100)⟩,
 ⟨some 102,none,.len false (.t 101)⟩,
 ⟨some 103,none,.bin .sub .no (.t 102) (.c (.int .i64 1))⟩,
 ⟨some 104,none,.call "newel/newelref04.from" [.t 99, (.c (.int .i64 0)), .t 103]⟩,
 ⟨some 105,none,.mv (.t 104)⟩,
 ⟨(some 106), (some (105, true)), .fldA 2 (.t 9)⟩,
 ⟨(some 107), (some (105, true)), .load false 1 (.t 106)⟩,
 ⟨(some 108), (some (105, true)), .bin .eql .no (.t 107) (.c (.int .i64 0))⟩,
 ⟨some 109,none,.pick (.t 105) (.t 108) (.c (.bool false))⟩,
 ⟨some 10,none,.mv (.t 109)⟩]
@[go_sem] def m55 : List XO := [
 ⟨some 110,none,.mv (.t 10)⟩,
 ⟨some 111,none,.un .not (.t 110)⟩]
@[go_sem] def m56 : List XO := [
 ⟨some 6,none,.mv (.c (.bool false))⟩]
@[go_sem] def m57 : List XO := [
 ⟨some 33,none,.mv (.t 8)⟩,
 ⟨some 34,none,.bin .add .no (.t 33) (.c (.int .i64 1))⟩,
 ⟨some 8,none,.mv (.t 34)⟩]
def g2p : XCode :=
 (.seq (.seq (.reg m6f) (.cond (.t 32) .skip (.exit 2))) (.seq (.block 3 (.seq (.reg m6g) (.seq (.reg m5u) (.seq (.seq (.reg m5v) (.block 4 (.seq (.reg m5w) (.cond (.t 44) (.reg m5x) (.seq (.reg m5y) (.cond (.t 58) (.reg m5z) (.seq (.reg m50) (.cond (.t 79) (.reg m51) (.seq (.reg m52) (.cond (.t 96) (.reg m53) .skip)))))))))) (.seq (.reg m55) (.cond (.t 111) (.seq (.reg m56) .ret) .skip)))))) (.reg m57)))
@[go_sem] def m58 : List XO := [
 ⟨some 18,none,.mv (.t 7)⟩,
 ⟨some 19,none,.bin .add .no (.t 18) (.c (.int .i64 1))⟩,
 ⟨some 7,none,.mv (.t 19)⟩]
def g2q : XCode :=
 (.seq (.seq (.reg m6b) (.cond (.t 17) .skip (.exit 0))) (.seq (.block 1 (.seq (.seq (.reg m6c) (.cond (.t 25) (.seq (.reg m6d) .ret) .skip)) (.seq (.reg m6e) (.block 2 (.loop g2p))))) (.reg m58)))
@[go_sem] def m59 : List XO := [
 ⟨some 6,none,.mv (.c (.bool true))⟩]
def x_r04_condition : XFunc := { np := 3, res := [.t 6], body :=
 (.seq (.reg m5s) (.seq (.seq (.reg m5t) (.cond (.t 13) (.seq (.reg m54) .ret) .skip)) (.seq (.seq (.reg m6a) (.block 0 (.loop g2q))) (.seq (.reg m59) .ret)))) }
@[go_sem] def l8r : List XO := [
 ⟨some 1,none,.boxF (.t 0)⟩,
 ⟨some 2,none,.mv (.c (.int .i64 0))⟩]
@[go_sem] def l8s : List XO := [
 ⟨some 3,none,.load true 5 (.tf 1)⟩,
 ⟨some 4,none,.call "newel/situation.Check" [.t 3]⟩,
 ⟨some 2,none,.mv (.t 4)⟩]
def x_control_Check : XFunc := { np := 1, res := [.t 2], body :=
 (.seq (.reg l8r) (.seq (.reg l8s) .ret)) }
@[go_sem] def l7n : List XO := [
 ⟨some 3,none,.boxF (.t 0)⟩,
 ⟨some 4,none,.box (.t 1)⟩,
 ⟨some 6,none,.alloc [(.int .i64 0), (.int .i64 0), (.int .i64 0)]⟩]
@[go_sem] def l7o : List XO := [
 ⟨some 11,none,.fldA 0 (.tf 3)⟩,
 ⟨some 12,none,.fldA 4 (.tf 11)⟩,
 ⟨some 13,none,.load false 1 (.tf 12)⟩,
 ⟨some 14,none,.len false (.t 13)⟩,
 ⟨some 15,none,.mv (.c (.int .i64 0))⟩]
@[go_sem] def l7s : List XO := [
 ⟨some 16,none,.bin .lss .no (.t 15) (.t 14)⟩]
@[go_sem] def l7t : List XO := [
 ⟨some 17,none,.ixA 4 (.t 13) (.t 15)⟩,
 ⟨some 18,none,.load true 4 (.t 17)⟩,
 ⟨some 8,none,.alloc [(.int .i64 0), (.int .i64 0), (.slice none 0 0), (.slice none 0 0)]⟩,
 ⟨none, none, .store 4 (.t 8) (.t 18)⟩]
@[go_sem] def l7u : List XO := [
 ⟨some 19,none,.fldA 0 (.t 8)⟩,
 ⟨some 20,none,.load false 1 (.t 19)⟩,
 ⟨some 21,none,.bin .neq .no (.t 20) (.c (.int .i64 (-1)))⟩,
 ⟨some 22,none,.mv (.t 21)⟩,
 ⟨(some 23), (some (22, true)), .fldA 0 (.t 8)⟩,
 ⟨(some 24), (some (22, true)), .load false 1 (.t 23)⟩,
 ⟨(some 25), (some (22, true)), .fldA 0 (.t 4)⟩,
 ⟨(some 26), (some (22, true)), .load false 1 (.t 25)⟩,
 ⟨(some 27), (some (22, true)), .bin .neq .no (.t 24) (.t 26)⟩,
 ⟨some 28,none,.pick (.t 22) (.t 27) (.c (.bool false))⟩,
 ⟨some 29,none,.mv (.t 28)⟩,
 ⟨(some 30), (some (29, false)), .load true 5 (.tf 3)⟩,
 ⟨(some 31), (some (29, false)), .fldA 2 (.t 8)⟩,
 ⟨(some 32), (some (29, false)), .load false 1 (.t 31)⟩,
 ⟨(some 33), (some (29, false)), .load true 3 (.t 4)⟩,
 ⟨(some 34), (some (29, false)), .mv (.t 2)⟩,
 ⟨(some 35), (some (29, false)), .call "(newel/situation.Plant).Holds" [.t 30, .t 32, .t 33, .t 34]⟩,
 ⟨(some 36), (some (29, false)), .un .not (.t 35)⟩,
 ⟨some 37,none,.pick (.t 29) (.c (.bool true)) (.t 36)⟩]
@[go_sem] def l7v : List XO := [
 ⟨some 38,none,.fldA 3 (.t 8)⟩,
 ⟨some 39,none,.load false 1 (.t 38)⟩,
 ⟨some 40,none,.len false (.t 39)⟩,
 ⟨some 41,none,.mv (.c (.int .i64 0))⟩]
@[go_sem] def l7w : List XO := [
 ⟨some 42,none,.bin .lss .no (.t 41) (.t 40)⟩]
@[go_sem] def l7x : List XO := [
 ⟨some 43,none,.ixA 2 (.t 39) (.t 41)⟩,
 ⟨some 44,none,.load true 2 (.t 43)⟩,
 ⟨some 10,none,.alloc [(.int .i64 0), (.int .i64 0)]⟩,
 ⟨none, none, .store 2 (.t 10) (.t 44)⟩]
@[go_sem] def l7y : List XO := [
 ⟨some 45,none,.load true 5 (.tf 3)⟩,
 ⟨some 46,none,.load true 2 (.t 10)⟩,
 ⟨some 47,none,.callw "(newel/situation.Plant).set" [.t 45, .t 46, .t 4]⟩]
@[go_sem] def l7z : List XO := [
 ⟨some 48,none,.bin .add .no (.t 41) (.c (.int .i64 1))⟩,
 ⟨some 41,none,.mv (.t 48)⟩]
def g11 : XCode :=
 (.seq (.reg l7w) (.seq (.cond (.t 42) .skip (.exit 2)) (.seq (.block 3 (.seq (.reg l7x) (.reg l7y))) (.reg l7z))))
@[go_sem] def l7p : List XO := [
 ⟨some 49,none,.fldA 1 (.t 8)⟩,
 ⟨some 50,none,.load false 1 (.t 49)⟩,
 ⟨some 51,none,.fldA 0 (.t 4)⟩,
 ⟨none, none, .store 1 (.t 51) (.t 50)⟩]
@[go_sem] def l7q : List XO := [
 ⟨some 52,none,.bin .add .no (.t 15) (.c (.int .i64 1))⟩,
 ⟨some 15,none,.mv (.t 52)⟩]
def g12 : XCode :=
 (.seq (.reg l7s) (.seq (.cond (.t 16) .skip (.exit 0)) (.seq (.block 1 (.seq (.reg l7t) (.seq (.seq (.reg l7u) (.cond (.t 37) (.exit 1) .skip)) (.seq (.seq (.reg l7v) (.block 2 (.loop g11))) (.seq (.reg l7p) (.exit 0)))))) (.reg l7q))))
@[go_sem] def l7r : List XO := [
 ⟨some 53,none,.load true 3 (.t 4)⟩,
 ⟨none, none, .store 3 (.t 6) (.t 53)⟩]
def x__situation_Plant__Step : XFunc := { np := 3, res := [.cell 6 true 3], body :=
 (.seq (.reg l7n) (.seq (.seq (.reg l7o) (.block 0 (.loop g12))) (.seq (.reg l7r) .ret))) }
@[go_sem] def m3v : List XO := [
 ⟨some 6,none,.mv (.c (.int .i64 0))⟩]
@[go_sem] def m3w : List XO := [
 ⟨some 8,none,.mv (.t 1)⟩,
 ⟨some 9,none,.bin .lss .no (.t 8) (.c (.int .i64 0))⟩]
@[go_sem] def m3x : List XO := [
 ⟨some 10,none,.mv (.t 0)⟩,
 ⟨some 6,none,.mv (.t 10)⟩]
@[go_sem] def m3y : List XO := [
 ⟨some 11,none,.mv (.t 1)⟩,
 ⟨some 12,none,.cvtI .u64 (.t 11)⟩,
 ⟨some 13,none,.bin .shl .no (.c (.int .i64 1)) (.t 12)⟩,
 ⟨some 7,none,.mv (.t 13)⟩]
@[go_sem] def m3z : List XO := [
 ⟨some 14,none,.mv (.t 2)⟩,
 ⟨some 15,none,.bin .eql .no (.t 14) (.c (.int .i64 1))⟩]
@[go_sem] def m30 : List XO := [
 ⟨some 16,none,.mv (.t 0)⟩,
 ⟨some 17,none,.mv (.t 7)⟩,
 ⟨some 18,none,.bin .or .no (.t 16) (.t 17)⟩,
 ⟨some 6,none,.mv (.t 18)⟩]
@[go_sem] def m31 : List XO := [
 ⟨some 19,none,.mv (.t 0)⟩,
 ⟨some 20,none,.mv (.t 7)⟩,
 ⟨some 21,none,.bin .andNot .no (.t 19) (.t 20)⟩,
 ⟨some 6,none,.mv (.t 21)⟩]
def x_r04_Heard : XFunc := { np := 3, res := [.t 6], body :=
 (.seq (.reg m3v) (.seq (.seq (.reg m3w) (.cond (.t 9) (.seq (.reg m3x) .ret) .skip)) (.seq (.reg m3y) (.seq (.seq (.reg m3z) (.cond (.t 15) (.seq (.reg m30) .ret) .skip)) (.seq (.reg m31) .ret))))) }
@[go_sem] def m6w : List XO := [
 ⟨some 6,none,.mv (.c (.bool false))⟩]
@[go_sem] def m6x : List XO := [
 ⟨some 7,none,.mv (.t 0)⟩,
 ⟨some 8,none,.mv (.t 1)⟩,
 ⟨some 9,none,.bin .geq .no (.t 7) (.t 8)⟩,
 ⟨some 10,none,.mv (.t 9)⟩,
 ⟨(some 11), (some (10, true)), .mv (.t 0)⟩,
 ⟨(some 12), (some (10, true)), .mv (.t 2)⟩,
 ⟨(some 13), (some (10, true)), .bin .leq .no (.t 11) (.t 12)⟩,
 ⟨some 14,none,.pick (.t 10) (.t 13) (.c (.bool false))⟩,
 ⟨some 6,none,.mv (.t 14)⟩]
def x_r04_from : XFunc := { np := 3, res := [.t 6], body :=
 (.seq (.reg m6w) (.seq (.reg m6x) .ret)) }
@[go_sem] def m7h : List XO := [
 ⟨some 1,none,.boxF (.t 0)⟩,
 ⟨some 2,none,.mv (.c (.slice none 0 0))⟩]
@[go_sem] def m7i : List XO := [
 ⟨some 6,none,.bsl 1 []⟩,
 ⟨some 7,none,.fldA 0 (.tf 1)⟩,
 ⟨some 8,none,.load false 1 (.tf 7)⟩,
 ⟨some 9,none,.app 1 16 (.t 6) (.t 8)⟩,
 ⟨some 10,none,.fldA 1 (.tf 1)⟩,
 ⟨some 11,none,.load false 1 (.tf 10)⟩,
 ⟨some 12,none,.app 1 16 (.t 9) (.t 11)⟩,
 ⟨some 3,none,.mv (.t 12)⟩]
@[go_sem] def m7l : List XO := [
 ⟨some 4,none,.mv (.c (.int .i64 0))⟩]
@[go_sem] def m7m : List XO := [
 ⟨some 13,none,.mv (.t 4)⟩,
 ⟨some 14,none,.fldA 2 (.tf 1)⟩,
 ⟨some 15,none,.load false 1 (.tf 14)⟩,
 ⟨some 16,none,.len false (.t 15)⟩,
 ⟨some 17,none,.bin .lss .no (.t 13) (.t 16)⟩]
@[go_sem] def m7n : List XO := [
 ⟨some 20,none,.mv (.t 3)⟩,
 ⟨some 21,none,.fldA 2 (.tf 1)⟩,
 ⟨some 22,none,.load false 1 (.tf 21)⟩,
 ⟨some 23,none,.mv (.t 4)⟩,
 ⟨some 24,none,.ixA 2 (.t 22) (.t 23)⟩,
 ⟨some 25,none,.fldA 0 (.t 24)⟩,
 ⟨some 26,none,.load false 1 (.t 25)⟩,
 ⟨some 27,none,.bsl 1 [.t 26]⟩,
 ⟨some 28,none,.app 1 16 (.t 20) (.t 27)⟩,
 ⟨some 3,none,.mv (.t 28)⟩]
@[go_sem] def m7o : List XO := [
 ⟨some 18,none,.mv (.t 4)⟩,
 ⟨some 19,none,.bin .add .no (.t 18) (.c (.int .i64 1))⟩,
 ⟨some 4,none,.mv (.t 19)⟩]
def g2v : XCode :=
 (.seq (.seq (.reg m7m) (.cond (.t 17) .skip (.exit 0))) (.seq (.block 1 (.reg m7n)) (.reg m7o)))
@[go_sem] def m7p : List XO := [
 ⟨some 5,none,.mv (.c (.int .i64 0))⟩]
@[go_sem] def m7q : List XO := [
 ⟨some 29,none,.mv (.t 5)⟩,
 ⟨some 30,none,.fldA 3 (.tf 1)⟩,
 ⟨some 31,none,.load false 1 (.tf 30)⟩,
 ⟨some 32,none,.len false (.t 31)⟩,
 ⟨some 33,none,.bin .lss .no (.t 29) (.t 32)⟩]
@[go_sem] def m7r : List XO := [
 ⟨some 36,none,.mv (.t 3)⟩,
 ⟨some 37,none,.fldA 3 (.tf 1)⟩,
 ⟨some 38,none,.load false 1 (.tf 37)⟩,
 ⟨some 39,none,.mv (.t 5)⟩,
 ⟨some 40,none,.ixA 2 (.t 38) (.t 39)⟩,
 ⟨some 41,none,.fldA 0 (.t 40)⟩,
 ⟨some 42,none,.load false 1 (.t 41)⟩,
 ⟨some 43,none,.bsl 1 [.t 42]⟩,
 ⟨some 44,none,.app 1 16 (.t 36) (.t 43)⟩,
 ⟨some 3,none,.mv (.t 44)⟩]
@[go_sem] def m7j : List XO := [
 ⟨some 34,none,.mv (.t 5)⟩,
 ⟨some 35,none,.bin .add .no (.t 34) (.c (.int .i64 1))⟩,
 ⟨some 5,none,.mv (.t 35)⟩]
def g2u : XCode :=
 (.seq (.seq (.reg m7q) (.cond (.t 33) .skip (.exit 2))) (.seq (.block 3 (.reg m7r)) (.reg m7j)))
@[go_sem] def m7k : List XO := [
 ⟨some 45,none,.mv (.t 3)⟩,
 ⟨some 2,none,.mv (.t 45)⟩]
def x_r04_names : XFunc := { np := 1, res := [.t 2], body :=
 (.seq (.reg m7h) (.seq (.reg m7i) (.seq (.seq (.reg m7l) (.block 0 (.loop g2v))) (.seq (.seq (.reg m7p) (.block 2 (.loop g2u))) (.seq (.reg m7k) .ret))))) }
@[go_sem] def m5e : List XO := [
 ⟨some 2,none,.mv (.c (.bool false))⟩]
@[go_sem] def m5f : List XO := [
 ⟨some 3,none,.mv (.c (.int .i64 0))⟩]
@[go_sem] def m5j : List XO := [
 ⟨some 5,none,.mv (.t 3)⟩,
 ⟨some 6,none,.load false 1 (.g 0 b55)⟩,
 ⟨some 7,none,.len false (.t 6)⟩,
 ⟨some 8,none,.bin .lss .no (.t 5) (.t 7)⟩]
@[go_sem] def m5k : List XO := [
 ⟨some 11,none,.mv (.t 0)⟩,
 ⟨some 12,none,.load false 1 (.g 0 b55)⟩,
 ⟨some 13,none,.mv (.t 3)⟩,
 ⟨some 14,none,.ixA 1 (.t 12) (.t 13)⟩,
 ⟨some 15,none,.load false 1 (.t 14)⟩,
 ⟨some 16,none,.bin .eql .no (.t 11) (.t 15)⟩]
@[go_sem] def m5l : List XO := [
 ⟨some 2,none,.mv (.c (.bool false))⟩]
@[go_sem] def m5m : List XO := [
 ⟨some 9,none,.mv (.t 3)⟩,
 ⟨some 10,none,.bin .add .no (.t 9) (.c (.int .i64 1))⟩,
 ⟨some 3,none,.mv (.t 10)⟩]
def g2o : XCode :=
 (.seq (.seq (.reg m5j) (.cond (.t 8) .skip (.exit 0))) (.seq (.block 1 (.seq (.reg m5k) (.cond (.t 16) (.seq (.reg m5l) .ret) .skip))) (.reg m5m)))
@[go_sem] def m5n : List XO := [
 ⟨some 4,none,.mv (.c (.int .i64 0))⟩]
@[go_sem] def m5o : List XO := [
 ⟨some 17,none,.mv (.t 4)⟩,
 ⟨some 18,none,.mv (.t 0)⟩,
 ⟨some 19,none,.len true (.t 18)⟩,
 ⟨some 20,none,.bin .lss .no (.t 17) (.t 19)⟩]
@[go_sem] def m5p : List XO := [
 ⟨some 23,none,.mv (.t 0)⟩,
 ⟨some 24,none,.mv (.t 4)⟩,
 ⟨some 25,none,.ixS (.t 23) (.t 24)⟩,
 ⟨some 26,none,.bin .lss .no (.t 25) (.c (.int .u8 97))⟩,
 ⟨some 27,none,.mv (.t 26)⟩,
 ⟨(some 28), (some (27, false)), .mv (.t 0)⟩,
 ⟨(some 29), (some (27, false)), .mv (.t 4)⟩,
 ⟨(some 30), (some (27, false)), .ixS (.t 28) (.t 29)⟩,
 ⟨(some 31), (some (27, false)), .bin .gtr .no (.t 30) (.c (.int .u8 122))⟩,
 ⟨some 32,none,.pick (.t 27) (.c (.bool true)) (.t 31)⟩]
@[go_sem] def m5g : List XO := [
 ⟨some 2,none,.mv (.c (.bool false))⟩]
@[go_sem] def m5h : List XO := [
 ⟨some 21,none,.mv (.t 4)⟩,
 ⟨some 22,none,.bin .add .no (.t 21) (.c (.int .i64 1))⟩,
 ⟨some 4,none,.mv (.t 22)⟩]
def g2n : XCode :=
 (.seq (.seq (.reg m5o) (.cond (.t 20) .skip (.exit 2))) (.seq (.block 3 (.seq (.reg m5p) (.cond (.t 32) (.seq (.reg m5g) .ret) .skip))) (.reg m5h)))
@[go_sem] def m5i : List XO := [
 ⟨some 33,none,.mv (.t 0)⟩,
 ⟨some 34,none,.len true (.t 33)⟩,
 ⟨some 35,none,.bin .gtr .no (.t 34) (.c (.int .i64 0))⟩,
 ⟨some 2,none,.mv (.t 35)⟩]
def x_r04_Word : XFunc := { np := 1, res := [.t 2], body :=
 (.seq (.reg m5e) (.seq (.seq (.reg m5f) (.block 0 (.loop g2o))) (.seq (.seq (.reg m5n) (.block 2 (.loop g2n))) (.seq (.reg m5i) .ret)))) }
@[go_sem] def o1q : List XO := [
 ⟨some 4,none,.mv (.c (.int .i64 0))⟩]
@[go_sem] def o1r : List XO := [
 ⟨some 6,none,.mv (.t 0)⟩,
 ⟨some 7,none,.len false (.t 6)⟩,
 ⟨some 8,none,.mv (.c (.int .i64 0))⟩]
@[go_sem] def o1s : List XO := [
 ⟨some 9,none,.bin .lss .no (.t 8) (.t 7)⟩]
@[go_sem] def o1t : List XO := [
 ⟨some 10,none,.mv (.t 8)⟩,
 ⟨some 5,none,.mv (.t 10)⟩]
@[go_sem] def o1u : List XO := [
 ⟨some 11,none,.mv (.t 1)⟩,
 ⟨some 12,none,.mv (.t 0)⟩,
 ⟨some 13,none,.mv (.t 5)⟩,
 ⟨some 14,none,.ixA 1 (.t 12) (.t 13)⟩,
 ⟨some 15,none,.load false 1 (.t 14)⟩,
 ⟨some 16,none,.callv (.t 11) [.t 15]⟩]
@[go_sem] def o1v : List XO := [
 ⟨some 17,none,.mv (.t 5)⟩,
 ⟨some 4,none,.mv (.t 17)⟩]
@[go_sem] def o1w : List XO := [
 ⟨some 18,none,.bin .add .no (.t 8) (.c (.int .i64 1))⟩,
 ⟨some 8,none,.mv (.t 18)⟩]
def o1y : XCode :=
 (.seq (.reg o1s) (.seq (.cond (.t 9) .skip (.exit 0)) (.seq (.block 1 (.seq (.reg o1t) (.seq (.reg o1u) (.cond (.t 16) (.seq (.reg o1v) .ret) .skip)))) (.reg o1w))))
@[go_sem] def o1x : List XO := [
 ⟨some 4,none,.mv (.c (.int .i64 (-1)))⟩]
def x_slices_IndexFunc___int_int_ : XFunc := { np := 2, res := [.t 4], body :=
 (.seq (.reg o1q) (.seq (.seq (.reg o1r) (.block 0 (.loop o1y))) (.seq (.reg o1x) .ret))) }
@[go_sem] def l8t : List XO := [
 ⟨some 4,none,.mv (.c (.bool false))⟩]
@[go_sem] def l8u : List XO := [
 ⟨some 5,none,.load false 1 (.t 1)⟩,
 ⟨some 6,none,.mv (.t 0)⟩,
 ⟨some 7,none,.ixA 1 (.t 5) (.t 6)⟩,
 ⟨some 8,none,.load false 1 (.t 7)⟩,
 ⟨some 9,none,.load false 1 (.t 1)⟩,
 ⟨some 10,none,.load false 1 (.t 2)⟩,
 ⟨some 11,none,.ixA 1 (.t 9) (.t 10)⟩,
 ⟨some 12,none,.load false 1 (.t 11)⟩,
 ⟨some 13,none,.call "slices.Equal[[]int,int]" [.t 8, .t 12]⟩,
 ⟨some 4,none,.mv (.t 13)⟩]
def x_control_ClassesD1 : XFunc := { np := 3, res := [.t 4], body :=
 (.seq (.reg l8t) (.seq (.reg l8u) .ret)) }
@[go_sem] def o08 : List XO := [
 ⟨some 4,none,.mv (.c (.bool false))⟩]
@[go_sem] def o09 : List XO := [
 ⟨some 6,none,.mv (.t 0)⟩,
 ⟨some 7,none,.len false (.t 6)⟩,
 ⟨some 8,none,.mv (.t 1)⟩,
 ⟨some 9,none,.len false (.t 8)⟩,
 ⟨some 10,none,.bin .neq .no (.t 7) (.t 9)⟩]
@[go_sem] def o1b : List XO := [
 ⟨some 4,none,.mv (.c (.bool false))⟩]
@[go_sem] def o1c : List XO := [
 ⟨some 11,none,.mv (.t 0)⟩,
 ⟨some 12,none,.len false (.t 11)⟩,
 ⟨some 13,none,.mv (.c (.int .i64 0))⟩]
@[go_sem] def o1d : List XO := [
 ⟨some 14,none,.bin .lss .no (.t 13) (.t 12)⟩]
@[go_sem] def o1e : List XO := [
 ⟨some 15,none,.mv (.t 13)⟩,
 ⟨some 5,none,.mv (.t 15)⟩]
@[go_sem] def o1f : List XO := [
 ⟨some 16,none,.mv (.t 0)⟩,
 ⟨some 17,none,.mv (.t 5)⟩,
 ⟨some 18,none,.ixA 1 (.t 16) (.t 17)⟩,
 ⟨some 19,none,.load false 1 (.t 18)⟩,
 ⟨some 20,none,.mv (.t 1)⟩,
 ⟨some 21,none,.mv (.t 5)⟩,
 ⟨some 22,none,.ixA 1 (.t 20) (.t 21)⟩,
 ⟨some 23,none,.load false 1 (.t 22)⟩,
 ⟨some 24,none,.bin .neq .no (.t 19) (.t 23)⟩]
@[go_sem] def o1g : List XO := [
 ⟨some 4,none,.mv (.c (.bool false))⟩]
@[go_sem] def o1h : List XO := [
 ⟨some 25,none,.bin .add .no (.t 13) (.c (.int .i64 1))⟩,
 ⟨some 13,none,.mv (.t 25)⟩]
def o1i : XCode :=
 (.seq (.reg o1d) (.seq (.cond (.t 14) .skip (.exit 0)) (.seq (.block 1 (.seq (.reg o1e) (.seq (.reg o1f) (.cond (.t 24) (.seq (.reg o1g) .ret) .skip)))) (.reg o1h))))
@[go_sem] def o1a : List XO := [
 ⟨some 4,none,.mv (.c (.bool true))⟩]
def x_slices_Equal___int_int_ : XFunc := { np := 2, res := [.t 4], body :=
 (.seq (.reg o08) (.seq (.seq (.reg o09) (.cond (.t 10) (.seq (.reg o1b) .ret) .skip)) (.seq (.seq (.reg o1c) (.block 0 (.loop o1i))) (.seq (.reg o1a) .ret)))) }
@[go_sem] def m65 : List XO := [
 ⟨some 4,none,.boxF (.t 0)⟩,
 ⟨some 5,none,.boxF (.t 1)⟩,
 ⟨some 7,none,.boxF (.t 3)⟩,
 ⟨some 8,none,.mv (.c (.bool false))⟩]
@[go_sem] def m66 : List XO := [
 ⟨some 9,none,.mv (.c (.bool false))⟩]
@[go_sem] def m69 : List XO := [
 ⟨some 10,none,.fldA 0 (.tf 7)⟩,
 ⟨some 11,none,.load false 1 (.tf 10)⟩]
@[go_sem] def m7a : List XO := [
 ⟨some 13,none,.bin .eql .no (.t 11) (.c (.int .i64 1))⟩,
 ⟨some 12,none,.mv (.t 13)⟩]
@[go_sem] def m7b : List XO := [
 ⟨some 14,none,.mv (.t 2)⟩,
 ⟨some 15,none,.fldA 1 (.tf 7)⟩,
 ⟨some 16,none,.load false 1 (.tf 15)⟩,
 ⟨some 17,none,.cvtI .u64 (.t 16)⟩,
 ⟨some 18,none,.bin .shr .no (.t 14) (.t 17)⟩,
 ⟨some 19,none,.bin .and .no (.t 18) (.c (.int .i64 1))⟩,
 ⟨some 20,none,.bin .eql .no (.t 19) (.c (.int .i64 1))⟩,
 ⟨some 9,none,.mv (.t 20)⟩]
@[go_sem] def m7c : List XO := [
 ⟨some 22,none,.bin .eql .no (.t 11) (.c (.int .i64 2))⟩,
 ⟨some 21,none,.mv (.t 22)⟩]
@[go_sem] def m7d : List XO := [
 ⟨some 23,none,.fldA 1 (.tf 7)⟩,
 ⟨some 24,none,.load false 1 (.tf 23)⟩,
 ⟨some 25,none,.fldA 1 (.tf 5)⟩,
 ⟨some 26,none,.ixP 1 2 (.t 25) (.t 24)⟩,
 ⟨some 27,none,.load false 1 (.tf 26)⟩,
 ⟨some 28,none,.fldA 2 (.tf 7)⟩,
 ⟨some 29,none,.load false 1 (.tf 28)⟩,
 ⟨some 30,none,.bin .geq .no (.t 27) (.t 29)⟩,
 ⟨some 9,none,.mv (.t 30)⟩]
@[go_sem] def m7e : List XO := [
 ⟨some 32,none,.bin .eql .no (.t 11) (.c (.int .i64 3))⟩,
 ⟨some 31,none,.mv (.t 32)⟩]
@[go_sem] def m7f : List XO := [
 ⟨some 33,none,.fldA 0 (.tf 5)⟩,
 ⟨some 34,none,.load false 1 (.tf 33)⟩,
 ⟨some 35,none,.fldA 1 (.tf 7)⟩,
 ⟨some 36,none,.load false 1 (.tf 35)⟩,
 ⟨some 37,none,.bin .eql .no (.t 34) (.t 36)⟩,
 ⟨some 9,none,.mv (.t 37)⟩]
@[go_sem] def m7g : List XO := [
 ⟨some 39,none,.bin .eql .no (.t 11) (.c (.int .i64 4))⟩,
 ⟨some 38,none,.mv (.t 39)⟩]
@[go_sem] def m67 : List XO := [
 ⟨some 40,none,.fldA 3 (.tf 4)⟩,
 ⟨some 41,none,.load false 1 (.tf 40)⟩,
 ⟨some 42,none,.fldA 0 (.tf 5)⟩,
 ⟨some 43,none,.load false 1 (.tf 42)⟩,
 ⟨some 44,none,.ixA 2 (.t 41) (.t 43)⟩,
 ⟨some 45,none,.fldA 1 (.t 44)⟩,
 ⟨some 46,none,.load false 1 (.t 45)⟩,
 ⟨some 47,none,.fldA 1 (.tf 7)⟩,
 ⟨some 48,none,.load false 1 (.tf 47)⟩,
 ⟨some 49,none,.cvtI .u64 (.t 48)⟩,
 ⟨some 50,none,.bin .shr .no (.t 46) (.t 49)⟩,
 ⟨some 51,none,.bin .and .no (.t 50) (.c (.int .i64 1))⟩,
 ⟨some 52,none,.bin .eql .no (.t 51) (.c (.int .i64 1))⟩,
 ⟨some 9,none,.mv (.t 52)⟩]
@[go_sem] def m68 : List XO := [
 ⟨some 53,none,.mv (.t 9)⟩,
 ⟨some 54,none,.fldA 3 (.tf 7)⟩,
 ⟨some 55,none,.load false 1 (.tf 54)⟩,
 ⟨some 56,none,.bin .neq .bool (.t 53) (.t 55)⟩,
 ⟨some 8,none,.mv (.t 56)⟩]
def x_r04_literal : XFunc := { np := 4, res := [.t 8], body :=
 (.seq (.reg m65) (.seq (.reg m66) (.seq (.seq (.reg m69) (.block 0 (.seq (.reg m7a) (.cond (.t 12) (.reg m7b) (.seq (.reg m7c) (.cond (.t 21) (.reg m7d) (.seq (.reg m7e) (.cond (.t 31) (.reg m7f) (.seq (.reg m7g) (.cond (.t 38) (.reg m67) .skip)))))))))) (.seq (.reg m68) .ret)))) }
@[go_sem] def l7d : List XO := [
 ⟨some 1,none,.boxF (.t 0)⟩,
 ⟨some 2,none,.mv (.c (.int .i64 0))⟩]
@[go_sem] def l7e : List XO := [
 ⟨some 3,none,.fldA 0 (.tf 1)⟩,
 ⟨some 4,none,.fldA 0 (.tf 3)⟩,
 ⟨some 5,none,.load false 1 (.tf 4)⟩,
 ⟨some 6,none,.len false (.t 5)⟩,
 ⟨some 7,none,.bin .shl .no (.c (.int .i64 1)) (.t 6)⟩,
 ⟨some 2,none,.mv (.t 7)⟩]
def x__situation_Plant__All : XFunc := { np := 1, res := [.t 2], body :=
 (.seq (.reg l7d) (.seq (.reg l7e) .ret)) }
@[go_sem] def l7f : List XO := [
 ⟨some 4,none,.boxF (.t 0)⟩,
 ⟨some 6,none,.boxF (.t 2)⟩,
 ⟨some 8,none,.mv (.c (.bool false))⟩]
@[go_sem] def l7g : List XO := [
 ⟨some 9,none,.mv (.t 1)⟩,
 ⟨some 10,none,.len false (.t 9)⟩,
 ⟨some 11,none,.bin .eql .no (.t 10) (.c (.int .i64 0))⟩,
 ⟨some 12,none,.mv (.t 11)⟩,
 ⟨(some 13), (some (12, false)), .load true 5 (.tf 4)⟩,
 ⟨(some 14), (some (12, false)), .mv (.t 1)⟩,
 ⟨(some 15), (some (12, false)), .load true 3 (.tf 6)⟩,
 ⟨(some 16), (some (12, false)), .mv (.t 3)⟩,
 ⟨(some 17), (some (12, false)), .call "(newel/situation.Plant).Holds" [.t 13, .t 14, .t 15, .t 16]⟩,
 ⟨some 18,none,.pick (.t 12) (.c (.bool true)) (.t 17)⟩,
 ⟨some 8,none,.mv (.t 18)⟩]
def x__situation_Plant__Allowed : XFunc := { np := 4, res := [.t 8], body :=
 (.seq (.reg l7f) (.seq (.reg l7g) .ret)) }
@[go_sem] def m7u : List XO := [
 ⟨some 2,none,.boxF (.t 0)⟩,
 ⟨some 4,none,.mv (.c (.bool false))⟩]
@[go_sem] def m7v : List XO := [
 ⟨some 7,none,.mv (.t 1)⟩,
 ⟨some 8,none,.len false (.t 7)⟩,
 ⟨some 9,none,.bin .gtr .no (.t 8) (.c (.int .i64 6))⟩]
@[go_sem] def m7x : List XO := [
 ⟨some 4,none,.mv (.c (.bool false))⟩]
@[go_sem] def m7y : List XO := [
 ⟨some 10,none,.mv (.t 1)⟩,
 ⟨some 11,none,.len false (.t 10)⟩,
 ⟨some 12,none,.mv (.c (.int .i64 0))⟩]
@[go_sem] def m7z : List XO := [
 ⟨some 13,none,.bin .lss .no (.t 12) (.t 11)⟩]
@[go_sem] def m70 : List XO := [
 ⟨some 14,none,.ixA 1 (.t 10) (.t 12)⟩,
 ⟨some 15,none,.load false 1 (.t 14)⟩,
 ⟨some 6,none,.mv (.t 15)⟩]
@[go_sem] def m71 : List XO := [
 ⟨some 16,none,.mv (.t 6)⟩,
 ⟨some 17,none,.len false (.t 16)⟩,
 ⟨some 18,none,.bin .gtr .no (.t 17) (.c (.int .i64 6))⟩,
 ⟨some 19,none,.mv (.t 18)⟩,
 ⟨(some 20), (some (19, false)), .mv (.t 6)⟩,
 ⟨(some 21), (some (19, false)), .mkfn "newel/situation.Asked$1" [] [.t 2]⟩,
 ⟨(some 22), (some (19, false)), .call "slices.ContainsFunc[newel/api.Term,newel/api.Literal]" [.t 20, .t 21]⟩,
 ⟨some 23,none,.pick (.t 19) (.c (.bool true)) (.t 22)⟩]
@[go_sem] def m72 : List XO := [
 ⟨some 4,none,.mv (.c (.bool false))⟩]
@[go_sem] def m73 : List XO := [
 ⟨some 24,none,.bin .add .no (.t 12) (.c (.int .i64 1))⟩,
 ⟨some 12,none,.mv (.t 24)⟩]
def g2w : XCode :=
 (.seq (.reg m7z) (.seq (.cond (.t 13) .skip (.exit 0)) (.seq (.block 1 (.seq (.reg m70) (.seq (.reg m71) (.cond (.t 23) (.seq (.reg m72) .ret) .skip)))) (.reg m73))))
@[go_sem] def m7w : List XO := [
 ⟨some 4,none,.mv (.c (.bool true))⟩]
def x_situation_Asked : XFunc := { np := 2, res := [.t 4], body :=
 (.seq (.reg m7u) (.seq (.seq (.reg m7v) (.cond (.t 9) (.seq (.reg m7x) .ret) .skip)) (.seq (.seq (.reg m7y) (.block 0 (.loop g2w))) (.seq (.reg m7w) .ret)))) }
@[go_sem] def l58 : List XO := [
 ⟨some 5,none,.mv (.c (.bool false))⟩]
@[go_sem] def l59 : List XO := [
 ⟨some 6,none,.fldA 0 (.t 1)⟩,
 ⟨some 7,none,.load true 5 (.t 6)⟩,
 ⟨some 8,none,.load false 1 (.t 2)⟩,
 ⟨some 9,none,.load false 1 (.t 3)⟩,
 ⟨some 10,none,.nilck (.t 9)⟩,
 ⟨some 11,none,.fldA 0 (.t 10)⟩,
 ⟨some 12,none,.load false 1 (.t 11)⟩,
 ⟨some 13,none,.mv (.t 0)⟩,
 ⟨some 14,none,.ixA 3 (.t 12) (.t 13)⟩,
 ⟨some 15,none,.load true 3 (.t 14)⟩,
 ⟨some 16,none,.call "(newel/situation.Plant).Holds" [.t 7, .t 8, .t 15, (.c (.int .i64 0))]⟩,
 ⟨some 5,none,.mv (.t 16)⟩]
def x__control_plant__breachD1 : XFunc := { np := 4, res := [.t 5], body :=
 (.seq (.reg l58) (.seq (.reg l59) .ret)) }
@[go_sem] def o04 : List XO := [
 ⟨some 4,none,.mv (.c (.bool false))⟩]
@[go_sem] def o05 : List XO := [
 ⟨some 5,none,.mv (.t 0)⟩,
 ⟨some 6,none,.mv (.t 1)⟩,
 ⟨some 7,none,.call "slices.IndexFunc[newel/api.Cond,newel/api.Term]" [.t 5, .t 6]⟩,
 ⟨some 8,none,.bin .geq .no (.t 7) (.c (.int .i64 0))⟩,
 ⟨some 4,none,.mv (.t 8)⟩]
def x_slices_ContainsFunc_api_Cond_api_Term_ : XFunc := { np := 2, res := [.t 4], body :=
 (.seq (.reg o04) (.seq (.reg o05) .ret)) }
@[go_sem] def l7j : List XO := [
 ⟨some 5,none,.mv (.c (.bool false))⟩]
@[go_sem] def l7k : List XO := [
 ⟨some 6,none,.mv (.t 0)⟩,
 ⟨some 7,none,.mkfn "(newel/situation.Plant).Holds$1$1" [] [.t 1, .t 2, .t 3]⟩,
 ⟨some 8,none,.call "slices.ContainsFunc[newel/api.Term,newel/api.Literal]" [.t 6, .t 7]⟩,
 ⟨some 9,none,.un .not (.t 8)⟩,
 ⟨some 5,none,.mv (.t 9)⟩]
def x__situation_Plant__HoldsD1 : XFunc := { np := 4, res := [.t 5], body :=
 (.seq (.reg l7j) (.seq (.reg l7k) .ret)) }
@[go_sem] def o06 : List XO := [
 ⟨some 4,none,.mv (.c (.bool false))⟩]
@[go_sem] def o07 : List XO := [
 ⟨some 5,none,.mv (.t 0)⟩,
 ⟨some 6,none,.mv (.t 1)⟩,
 ⟨some 7,none,.call "slices.IndexFunc[newel/api.Term,newel/api.Literal]" [.t 5, .t 6]⟩,
 ⟨some 8,none,.bin .geq .no (.t 7) (.c (.int .i64 0))⟩,
 ⟨some 4,none,.mv (.t 8)⟩]
def x_slices_ContainsFunc_api_Term_api_Literal_ : XFunc := { np := 2, res := [.t 4], body :=
 (.seq (.reg o06) (.seq (.reg o07) .ret)) }
@[go_sem] def l7h : List XO := [
 ⟨some 4,none,.boxF (.t 0)⟩,
 ⟨some 5,none,.mv (.c (.bool false))⟩]
@[go_sem] def l7i : List XO := [
 ⟨some 6,none,.load true 5 (.t 1)⟩,
 ⟨some 7,none,.load true 4 (.tf 4)⟩,
 ⟨some 8,none,.load true 3 (.t 2)⟩,
 ⟨some 9,none,.load false 1 (.t 3)⟩,
 ⟨some 10,none,.call "(newel/situation.Plant).literal" [.t 6, .t 7, .t 8, .t 9]⟩,
 ⟨some 11,none,.un .not (.t 10)⟩,
 ⟨some 5,none,.mv (.t 11)⟩]
def x__situation_Plant__HoldsD1D1 : XFunc := { np := 4, res := [.t 5], body :=
 (.seq (.reg l7h) (.seq (.reg l7i) .ret)) }
@[go_sem] def l70 : List XO := [
 ⟨some 4,none,.boxF (.t 0)⟩,
 ⟨some 5,none,.boxF (.t 1)⟩,
 ⟨some 6,none,.boxF (.t 2)⟩,
 ⟨some 8,none,.mv (.c (.bool false))⟩]
@[go_sem] def l71 : List XO := [
 ⟨some 9,none,.mv (.c (.bool false))⟩]
@[go_sem] def l74 : List XO := [
 ⟨some 10,none,.fldA 0 (.tf 5)⟩,
 ⟨some 11,none,.load false 1 (.tf 10)⟩]
@[go_sem] def l75 : List XO := [
 ⟨some 13,none,.bin .eql .no (.t 11) (.c (.int .i64 1))⟩,
 ⟨some 12,none,.mv (.t 13)⟩]
@[go_sem] def l76 : List XO := [
 ⟨some 14,none,.mv (.t 3)⟩,
 ⟨some 15,none,.fldA 1 (.tf 5)⟩,
 ⟨some 16,none,.load false 1 (.tf 15)⟩,
 ⟨some 17,none,.bin .shr .no (.t 14) (.t 16)⟩,
 ⟨some 18,none,.bin .and .no (.t 17) (.c (.int .i64 1))⟩,
 ⟨some 19,none,.bin .eql .no (.t 18) (.c (.int .i64 1))⟩,
 ⟨some 9,none,.mv (.t 19)⟩]
@[go_sem] def l77 : List XO := [
 ⟨some 21,none,.bin .eql .no (.t 11) (.c (.int .i64 2))⟩,
 ⟨some 20,none,.mv (.t 21)⟩]
@[go_sem] def l78 : List XO := [
 ⟨some 22,none,.fldA 1 (.tf 5)⟩,
 ⟨some 23,none,.load false 1 (.tf 22)⟩,
 ⟨some 24,none,.fldA 1 (.tf 6)⟩,
 ⟨some 25,none,.ixP 1 2 (.t 24) (.t 23)⟩,
 ⟨some 26,none,.load false 1 (.tf 25)⟩,
 ⟨some 27,none,.fldA 2 (.tf 5)⟩,
 ⟨some 28,none,.load false 1 (.tf 27)⟩,
 ⟨some 29,none,.bin .geq .no (.t 26) (.t 28)⟩,
 ⟨some 9,none,.mv (.t 29)⟩]
@[go_sem] def l79 : List XO := [
 ⟨some 31,none,.bin .eql .no (.t 11) (.c (.int .i64 3))⟩,
 ⟨some 30,none,.mv (.t 31)⟩]
@[go_sem] def l8a : List XO := [
 ⟨some 32,none,.fldA 0 (.tf 6)⟩,
 ⟨some 33,none,.load false 1 (.tf 32)⟩,
 ⟨some 34,none,.fldA 1 (.tf 5)⟩,
 ⟨some 35,none,.load false 1 (.tf 34)⟩,
 ⟨some 36,none,.bin .eql .no (.t 33) (.t 35)⟩,
 ⟨some 9,none,.mv (.t 36)⟩]
@[go_sem] def l8b : List XO := [
 ⟨some 38,none,.bin .eql .no (.t 11) (.c (.int .i64 4))⟩,
 ⟨some 37,none,.mv (.t 38)⟩]
@[go_sem] def l72 : List XO := [
 ⟨some 39,none,.fldA 0 (.tf 4)⟩,
 ⟨some 40,none,.fldA 3 (.tf 39)⟩,
 ⟨some 41,none,.load false 1 (.tf 40)⟩,
 ⟨some 42,none,.fldA 0 (.tf 6)⟩,
 ⟨some 43,none,.load false 1 (.tf 42)⟩,
 ⟨some 44,none,.ixA 2 (.t 41) (.t 43)⟩,
 ⟨some 45,none,.fldA 1 (.t 44)⟩,
 ⟨some 46,none,.load false 1 (.t 45)⟩,
 ⟨some 47,none,.fldA 1 (.tf 5)⟩,
 ⟨some 48,none,.load false 1 (.tf 47)⟩,
 ⟨some 49,none,.bin .shr .no (.t 46) (.t 48)⟩,
 ⟨some 50,none,.bin .and .no (.t 49) (.c (.int .i64 1))⟩,
 ⟨some 51,none,.bin .eql .no (.t 50) (.c (.int .i64 1))⟩,
 ⟨some 9,none,.mv (.t 51)⟩]
@[go_sem] def l73 : List XO := [
 ⟨some 52,none,.mv (.t 9)⟩,
 ⟨some 53,none,.fldA 3 (.tf 5)⟩,
 ⟨some 54,none,.load false 1 (.tf 53)⟩,
 ⟨some 55,none,.bin .neq .bool (.t 52) (.t 54)⟩,
 ⟨some 8,none,.mv (.t 55)⟩]
def x__situation_Plant__literal : XFunc := { np := 4, res := [.t 8], body :=
 (.seq (.reg l70) (.seq (.reg l71) (.seq (.seq (.reg l74) (.block 0 (.seq (.reg l75) (.cond (.t 12) (.reg l76) (.seq (.reg l77) (.cond (.t 20) (.reg l78) (.seq (.reg l79) (.cond (.t 30) (.reg l8a) (.seq (.reg l8b) (.cond (.t 37) (.reg l72) .skip)))))))))) (.seq (.reg l73) .ret)))) }
@[go_sem] def l51 : List XO := [
 ⟨some 4,none,.mv (.c (.slice none 0 0))⟩]
@[go_sem] def l52 : List XO := [
 ⟨some 5,none,.mv (.c (.slice none 0 0))⟩]
@[go_sem] def l53 : List XO := [
 ⟨some 6,none,.mv (.t 0)⟩,
 ⟨some 7,none,.nilck (.t 6)⟩,
 ⟨some 8,none,.fldA 1 (.t 7)⟩,
 ⟨some 9,none,.load false 1 (.t 8)⟩,
 ⟨some 10,none,.mv (.t 1)⟩,
 ⟨some 11,none,.ixA 1 (.t 9) (.t 10)⟩,
 ⟨some 12,none,.load false 1 (.t 11)⟩,
 ⟨some 13,none,.bin .geq .no (.t 12) (.c (.int .i64 0))⟩]
@[go_sem] def l54 : List XO := [
 ⟨some 21,none,.mv (.t 5)⟩,
 ⟨some 22,none,.mv (.t 0)⟩,
 ⟨some 23,none,.nilck (.t 22)⟩,
 ⟨some 24,none,.fldA 2 (.t 23)⟩,
 ⟨some 25,none,.load false 1 (.t 24)⟩,
 ⟨some 26,none,.mv (.t 1)⟩,
 ⟨some 27,none,.ixA 1 (.t 25) (.t 26)⟩,
 ⟨some 28,none,.load false 1 (.t 27)⟩,
 ⟨some 29,none,.bsl 1 [.t 28]⟩,
 ⟨some 30,none,.app 1 8 (.t 21) (.t 29)⟩,
 ⟨some 5,none,.mv (.t 30)⟩]
@[go_sem] def l55 : List XO := [
 ⟨some 14,none,.mv (.t 0)⟩,
 ⟨some 15,none,.nilck (.t 14)⟩,
 ⟨some 16,none,.fldA 1 (.t 15)⟩,
 ⟨some 17,none,.load false 1 (.t 16)⟩,
 ⟨some 18,none,.mv (.t 1)⟩,
 ⟨some 19,none,.ixA 1 (.t 17) (.t 18)⟩,
 ⟨some 20,none,.load false 1 (.t 19)⟩,
 ⟨some 1,none,.mv (.t 20)⟩]
def g1w : XCode :=
 (.seq (.seq (.reg l53) (.cond (.t 13) .skip (.exit 0))) (.seq (.block 1 (.reg l54)) (.reg l55)))
@[go_sem] def l56 : List XO := [
 ⟨some 31,none,.mv (.t 5)⟩,
 ⟨some 32,none,.callw "slices.Reverse[[]int,int]" [.t 31]⟩]
@[go_sem] def l57 : List XO := [
 ⟨some 33,none,.mv (.t 5)⟩,
 ⟨some 4,none,.mv (.t 33)⟩]
def x___control_walk__run : XFunc := { np := 2, res := [.t 4], body :=
 (.seq (.reg l51) (.seq (.reg l52) (.seq (.block 0 (.loop g1w)) (.seq (.reg l56) (.seq (.reg l57) .ret))))) }
@[go_sem] def m76 : List XO := [
 ⟨some 1,none,.boxF (.t 0)⟩,
 ⟨some 2,none,.mv (.c (.int .i64 0))⟩]
@[go_sem] def m77 : List XO := [
 ⟨some 13,none,.fldA 0 (.tf 1)⟩,
 ⟨some 14,none,.load false 1 (.tf 13)⟩,
 ⟨some 15,none,.len false (.t 14)⟩,
 ⟨some 16,none,.bin .gtr .no (.t 15) (.c (.int .i64 4))⟩,
 ⟨some 17,none,.mv (.t 16)⟩,
 ⟨(some 18), (some (17, false)), .fldA 1 (.tf 1)⟩,
 ⟨(some 19), (some (17, false)), .load false 1 (.tf 18)⟩,
 ⟨(some 20), (some (17, false)), .len false (.t 19)⟩,
 ⟨(some 21), (some (17, false)), .bin .gtr .no (.t 20) (.c (.int .i64 6))⟩,
 ⟨some 22,none,.pick (.t 17) (.c (.bool true)) (.t 21)⟩,
 ⟨some 23,none,.mv (.t 22)⟩,
 ⟨(some 24), (some (23, false)), .fldA 2 (.tf 1)⟩,
 ⟨(some 25), (some (23, false)), .load false 1 (.tf 24)⟩,
 ⟨(some 26), (some (23, false)), .len false (.t 25)⟩,
 ⟨(some 27), (some (23, false)), .bin .gtr .no (.t 26) (.c (.int .i64 2))⟩,
 ⟨some 28,none,.pick (.t 23) (.c (.bool true)) (.t 27)⟩,
 ⟨some 29,none,.mv (.t 28)⟩,
 ⟨(some 30), (some (29, false)), .fldA 3 (.tf 1)⟩,
 ⟨(some 31), (some (29, false)), .load false 1 (.tf 30)⟩,
 ⟨(some 32), (some (29, false)), .len false (.t 31)⟩,
 ⟨(some 33), (some (29, false)), .call "newel/situation.within" [.t 32, (.c (.int .i64 1)), (.c (.int .i64 12))]⟩,
 ⟨(some 34), (some (29, false)), .un .not (.t 33)⟩,
 ⟨some 35,none,.pick (.t 29) (.c (.bool true)) (.t 34)⟩,
 ⟨some 36,none,.mv (.t 35)⟩,
 ⟨(some 37), (some (36, false)), .fldA 4 (.tf 1)⟩,
 ⟨(some 38), (some (36, false)), .load false 1 (.tf 37)⟩,
 ⟨(some 39), (some (36, false)), .len false (.t 38)⟩,
 ⟨(some 40), (some (36, false)), .bin .gtr .no (.t 39) (.c (.int .i64 40))⟩,
 ⟨some 41,none,.pick (.t 36) (.c (.bool true)) (.t 40)⟩,
 ⟨some 42,none,.mv (.t 41)⟩,
 ⟨(some 43), (some (42, false)), .load true 5 (.tf 1)⟩,
 ⟨(some 44), (some (42, false)), .call "newel/situation.named" [.t 43]⟩,
 ⟨(some 45), (some (42, false)), .un .not (.t 44)⟩,
 ⟨some 46,none,.pick (.t 42) (.c (.bool true)) (.t 45)⟩]
@[go_sem] def m8h : List XO := [
 ⟨some 2,none,.mv (.c (.int .i64 41))⟩]
@[go_sem] def m8r : List XO := [
 ⟨some 47,none,.fldA 2 (.tf 1)⟩,
 ⟨some 48,none,.load false 1 (.tf 47)⟩,
 ⟨some 49,none,.len false (.t 48)⟩,
 ⟨some 50,none,.mv (.c (.int .i64 0))⟩]
@[go_sem] def m8z : List XO := [
 ⟨some 51,none,.bin .lss .no (.t 50) (.t 49)⟩]
@[go_sem] def m80 : List XO := [
 ⟨some 52,none,.ixA 2 (.t 48) (.t 50)⟩,
 ⟨some 53,none,.load true 2 (.t 52)⟩,
 ⟨some 4,none,.alloc [(.string (ByteArray.mk #[])), (.int .i64 0)]⟩,
 ⟨none, none, .store 2 (.t 4) (.t 53)⟩]
@[go_sem] def m81 : List XO := [
 ⟨some 54,none,.fldA 1 (.t 4)⟩,
 ⟨some 55,none,.load false 1 (.t 54)⟩,
 ⟨some 56,none,.call "newel/situation.within" [.t 55, (.c (.int .i64 1)), (.c (.int .i64 7))]⟩,
 ⟨some 57,none,.un .not (.t 56)⟩]
@[go_sem] def m82 : List XO := [
 ⟨some 2,none,.mv (.c (.int .i64 41))⟩]
@[go_sem] def m83 : List XO := [
 ⟨some 58,none,.bin .add .no (.t 50) (.c (.int .i64 1))⟩,
 ⟨some 50,none,.mv (.t 58)⟩]
def g21 : XCode :=
 (.seq (.reg m8z) (.seq (.cond (.t 51) .skip (.exit 0)) (.seq (.block 1 (.seq (.reg m80) (.seq (.reg m81) (.cond (.t 57) (.seq (.reg m82) .ret) .skip)))) (.reg m83))))
@[go_sem] def m78 : List XO := [
 ⟨some 59,none,.fldA 3 (.tf 1)⟩,
 ⟨some 60,none,.load false 1 (.tf 59)⟩,
 ⟨some 61,none,.len false (.t 60)⟩,
 ⟨some 62,none,.mv (.c (.int .i64 0))⟩]
@[go_sem] def m79 : List XO := [
 ⟨some 63,none,.bin .lss .no (.t 62) (.t 61)⟩]
@[go_sem] def m8a : List XO := [
 ⟨some 64,none,.ixA 2 (.t 60) (.t 62)⟩,
 ⟨some 65,none,.load true 2 (.t 64)⟩,
 ⟨some 6,none,.alloc [(.string (ByteArray.mk #[])), (.int .i64 0)]⟩,
 ⟨none, none, .store 2 (.t 6) (.t 65)⟩]
@[go_sem] def m8b : List XO := [
 ⟨some 66,none,.fldA 1 (.t 6)⟩,
 ⟨some 67,none,.load false 1 (.t 66)⟩,
 ⟨some 68,none,.fldA 1 (.tf 1)⟩,
 ⟨some 69,none,.load false 1 (.tf 68)⟩,
 ⟨some 70,none,.len false (.t 69)⟩,
 ⟨some 71,none,.bin .shl .no (.c (.int .i64 1)) (.t 70)⟩,
 ⟨some 72,none,.bin .sub .no (.t 71) (.c (.int .i64 1))⟩,
 ⟨some 73,none,.call "newel/situation.within" [.t 67, (.c (.int .i64 0)), .t 72]⟩,
 ⟨some 74,none,.un .not (.t 73)⟩]
@[go_sem] def m8c : List XO := [
 ⟨some 2,none,.mv (.c (.int .i64 41))⟩]
@[go_sem] def m8d : List XO := [
 ⟨some 75,none,.bin .add .no (.t 62) (.c (.int .i64 1))⟩,
 ⟨some 62,none,.mv (.t 75)⟩]
def g2x : XCode :=
 (.seq (.reg m79) (.seq (.cond (.t 63) .skip (.exit 2)) (.seq (.block 3 (.seq (.reg m8a) (.seq (.reg m8b) (.cond (.t 74) (.seq (.reg m8c) .ret) .skip)))) (.reg m8d))))
@[go_sem] def m8e : List XO := [
 ⟨some 76,none,.fldA 4 (.tf 1)⟩,
 ⟨some 77,none,.load false 1 (.tf 76)⟩,
 ⟨some 78,none,.len false (.t 77)⟩,
 ⟨some 79,none,.mv (.c (.int .i64 0))⟩]
@[go_sem] def m8f : List XO := [
 ⟨some 80,none,.bin .lss .no (.t 79) (.t 78)⟩]
@[go_sem] def m8g : List XO := [
 ⟨some 81,none,.ixA 4 (.t 77) (.t 79)⟩,
 ⟨some 82,none,.load true 4 (.t 81)⟩,
 ⟨some 8,none,.alloc [(.int .i64 0), (.int .i64 0), (.slice none 0 0), (.slice none 0 0)]⟩,
 ⟨none, none, .store 4 (.t 8) (.t 82)⟩]
@[go_sem] def m8i : List XO := [
 ⟨some 83,none,.fldA 0 (.t 8)⟩,
 ⟨some 84,none,.load false 1 (.t 83)⟩,
 ⟨some 85,none,.fldA 3 (.tf 1)⟩,
 ⟨some 86,none,.load false 1 (.tf 85)⟩,
 ⟨some 87,none,.len false (.t 86)⟩,
 ⟨some 88,none,.bin .sub .no (.t 87) (.c (.int .i64 1))⟩,
 ⟨some 89,none,.call "newel/situation.within" [.t 84, (.c (.int .i64 (-1))), .t 88]⟩,
 ⟨some 90,none,.un .not (.t 89)⟩,
 ⟨some 91,none,.mv (.t 90)⟩,
 ⟨(some 92), (some (91, false)), .fldA 1 (.t 8)⟩,
 ⟨(some 93), (some (91, false)), .load false 1 (.t 92)⟩,
 ⟨(some 94), (some (91, false)), .fldA 3 (.tf 1)⟩,
 ⟨(some 95), (some (91, false)), .load false 1 (.tf 94)⟩,
 ⟨(some 96), (some (91, false)), .len false (.t 95)⟩,
 ⟨(some 97), (some (91, false)), .bin .sub .no (.t 96) (.c (.int .i64 1))⟩,
 ⟨(some 98), (some (91, false)), .call "newel/situation.within" [.t 93, (.c (.int .i64 0)), .t 97]⟩,
 ⟨(some 99), (some (91, false)), .un .not (.t 98)⟩,
 ⟨some 100,none,.pick (.t 91) (.c (.bool true)) (.t 99)⟩,
 ⟨some 101,none,.mv (.t 100)⟩,
 ⟨(some 102), (some (101, false)), .load true 5 (.tf 1)⟩,
 ⟨(some 103), (some (101, false)), .fldA 2 (.t 8)⟩,
 ⟨(some 104), (some (101, false)), .load false 1 (.t 103)⟩,
 ⟨(some 105), (some (101, false)), .call "newel/situation.Asked" [.t 102, .t 104]⟩,
 ⟨(some 106), (some (101, false)), .un .not (.t 105)⟩,
 ⟨some 107,none,.pick (.t 101) (.c (.bool true)) (.t 106)⟩,
 ⟨some 108,none,.mv (.t 107)⟩,
 ⟨(some 109), (some (108, false)), .fldA 3 (.t 8)⟩,
 ⟨(some 110), (some (108, false)), .load false 1 (.t 109)⟩,
 ⟨(some 111), (some (108, false)), .len false (.t 110)⟩,
 ⟨(some 112), (some (108, false)), .bin .gtr .no (.t 111) (.c (.int .i64 4))⟩,
 ⟨some 113,none,.pick (.t 108) (.c (.bool true)) (.t 112)⟩]
@[go_sem] def m8j : List XO := [
 ⟨some 2,none,.mv (.c (.int .i64 41))⟩]
@[go_sem] def m8k : List XO := [
 ⟨some 114,none,.fldA 2 (.t 8)⟩,
 ⟨some 115,none,.load false 1 (.t 114)⟩,
 ⟨some 116,none,.len false (.t 115)⟩,
 ⟨some 117,none,.mv (.c (.int .i64 0))⟩]
@[go_sem] def m8l : List XO := [
 ⟨some 118,none,.bin .lss .no (.t 117) (.t 116)⟩]
@[go_sem] def m8m : List XO := [
 ⟨some 119,none,.ixA 1 (.t 115) (.t 117)⟩,
 ⟨some 120,none,.load false 1 (.t 119)⟩,
 ⟨some 10,none,.mv (.t 120)⟩]
@[go_sem] def m8n : List XO := [
 ⟨some 121,none,.mv (.t 10)⟩,
 ⟨some 122,none,.call "slices.ContainsFunc[newel/api.Term,newel/api.Literal]" [.t 121, (.f "newel/situation.Check$1")]⟩]
@[go_sem] def m8o : List XO := [
 ⟨some 2,none,.mv (.c (.int .i64 41))⟩]
@[go_sem] def m8p : List XO := [
 ⟨some 123,none,.bin .add .no (.t 117) (.c (.int .i64 1))⟩,
 ⟨some 117,none,.mv (.t 123)⟩]
def g2y : XCode :=
 (.seq (.reg m8l) (.seq (.cond (.t 118) .skip (.exit 6)) (.seq (.block 7 (.seq (.reg m8m) (.seq (.reg m8n) (.cond (.t 122) (.seq (.reg m8o) .ret) .skip)))) (.reg m8p))))
@[go_sem] def m8q : List XO := [
 ⟨some 124,none,.fldA 3 (.t 8)⟩,
 ⟨some 125,none,.load false 1 (.t 124)⟩,
 ⟨some 126,none,.len false (.t 125)⟩,
 ⟨some 127,none,.mv (.c (.int .i64 0))⟩]
@[go_sem] def m8s : List XO := [
 ⟨some 128,none,.bin .lss .no (.t 127) (.t 126)⟩]
@[go_sem] def m8t : List XO := [
 ⟨some 129,none,.ixA 2 (.t 125) (.t 127)⟩,
 ⟨some 130,none,.load true 2 (.t 129)⟩,
 ⟨some 12,none,.alloc [(.int .i64 0), (.int .i64 0)]⟩,
 ⟨none, none, .store 2 (.t 12) (.t 130)⟩]
@[go_sem] def m8u : List XO := [
 ⟨some 131,none,.fldA 0 (.t 12)⟩,
 ⟨some 132,none,.load false 1 (.t 131)⟩,
 ⟨some 133,none,.call "newel/situation.within" [.t 132, (.c (.int .i64 1)), (.c (.int .i64 3))]⟩,
 ⟨some 134,none,.un .not (.t 133)⟩,
 ⟨some 135,none,.mv (.t 134)⟩,
 ⟨(some 136), (some (135, false)), .fldA 1 (.t 12)⟩,
 ⟨(some 137), (some (135, false)), .load false 1 (.t 136)⟩,
 ⟨(some 138), (some (135, false)), .fldA 2 (.tf 1)⟩,
 ⟨(some 139), (some (135, false)), .load false 1 (.tf 138)⟩,
 ⟨(some 140), (some (135, false)), .len false (.t 139)⟩,
 ⟨(some 141), (some (135, false)), .bin .sub .no (.t 140) (.c (.int .i64 1))⟩,
 ⟨(some 142), (some (135, false)), .call "newel/situation.within" [.t 137, (.c (.int .i64 0)), .t 141]⟩,
 ⟨(some 143), (some (135, false)), .un .not (.t 142)⟩,
 ⟨some 144,none,.pick (.t 135) (.c (.bool true)) (.t 143)⟩]
@[go_sem] def m8v : List XO := [
 ⟨some 2,none,.mv (.c (.int .i64 41))⟩]
@[go_sem] def m8w : List XO := [
 ⟨some 145,none,.bin .add .no (.t 127) (.c (.int .i64 1))⟩,
 ⟨some 127,none,.mv (.t 145)⟩]
def g2z : XCode :=
 (.seq (.reg m8s) (.seq (.cond (.t 128) .skip (.exit 8)) (.seq (.block 9 (.seq (.reg m8t) (.seq (.reg m8u) (.cond (.t 144) (.seq (.reg m8v) .ret) .skip)))) (.reg m8w))))
@[go_sem] def m8x : List XO := [
 ⟨some 146,none,.bin .add .no (.t 79) (.c (.int .i64 1))⟩,
 ⟨some 79,none,.mv (.t 146)⟩]
def g20 : XCode :=
 (.seq (.reg m8f) (.seq (.cond (.t 80) .skip (.exit 4)) (.seq (.block 5 (.seq (.reg m8g) (.seq (.seq (.reg m8i) (.cond (.t 113) (.seq (.reg m8j) .ret) .skip)) (.seq (.seq (.reg m8k) (.block 6 (.loop g2y))) (.seq (.reg m8q) (.block 8 (.loop g2z))))))) (.reg m8x))))
@[go_sem] def m8y : List XO := [
 ⟨some 2,none,.mv (.c (.int .i64 0))⟩]
def x_situation_Check : XFunc := { np := 1, res := [.t 2], body :=
 (.seq (.reg m76) (.seq (.seq (.reg m77) (.cond (.t 46) (.seq (.reg m8h) .ret) .skip)) (.seq (.seq (.reg m8r) (.block 0 (.loop g21))) (.seq (.seq (.reg m78) (.block 2 (.loop g2x))) (.seq (.seq (.reg m8e) (.block 4 (.loop g20))) (.seq (.reg m8y) .ret)))))) }
@[go_sem] def o0m : List XO := [
 ⟨some 6,none,.mv (.c (.bool false))⟩]
@[go_sem] def o0n : List XO := [
 ⟨some 7,none,.mv (.t 0)⟩,
 ⟨some 8,none,.mv (.t 1)⟩,
 ⟨some 9,none,.bin .geq .no (.t 7) (.t 8)⟩,
 ⟨some 10,none,.mv (.t 9)⟩,
 ⟨(some 11), (some (10, true)), .mv (.t 0)⟩,
 ⟨(some 12), (some (10, true)), .mv (.t 2)⟩,
 ⟨(some 13), (some (10, true)), .bin .leq .no (.t 11) (.t 12)⟩,
 ⟨some 14,none,.pick (.t 10) (.t 13) (.c (.bool false))⟩,
 ⟨some 6,none,.mv (.t 14)⟩]
def x_situation_within : XFunc := { np := 3, res := [.t 6], body :=
 (.seq (.reg o0m) (.seq (.reg o0n) .ret)) }
@[go_sem] def l8c : List XO := [
 ⟨some 3,none,.boxF (.t 0)⟩,
 ⟨some 4,none,.boxF (.t 1)⟩]
@[go_sem] def l8d : List XO := [
 ⟨some 7,none,.mv (.t 2)⟩,
 ⟨some 8,none,.fldA 1 (.tf 4)⟩,
 ⟨some 9,none,.load false 1 (.tf 8)⟩,
 ⟨some 10,none,.nilck (.t 7)⟩,
 ⟨some 11,none,.fldA 1 (.t 10)⟩,
 ⟨some 12,none,.ixP 1 2 (.t 11) (.t 9)⟩,
 ⟨some 6,none,.mv (.t 12)⟩]
@[go_sem] def l8e : List XO := [
 ⟨some 13,none,.fldA 0 (.tf 4)⟩,
 ⟨some 14,none,.load false 1 (.tf 13)⟩]
@[go_sem] def l8f : List XO := [
 ⟨some 16,none,.bin .eql .no (.t 14) (.c (.int .i64 1))⟩,
 ⟨some 15,none,.mv (.t 16)⟩]
@[go_sem] def l8g : List XO := [
 ⟨some 17,none,.mv (.t 6)⟩,
 ⟨some 18,none,.nilck (.t 17)⟩,
 ⟨none, none, .store 1 (.t 18) (.c (.int .i64 0))⟩]
@[go_sem] def l8h : List XO := [
 ⟨some 20,none,.bin .eql .no (.t 14) (.c (.int .i64 2))⟩,
 ⟨some 19,none,.mv (.t 20)⟩]
@[go_sem] def l8i : List XO := [
 ⟨some 21,none,.mv (.t 6)⟩,
 ⟨some 22,none,.mv (.t 6)⟩,
 ⟨some 23,none,.nilck (.t 22)⟩,
 ⟨some 24,none,.load false 1 (.t 23)⟩,
 ⟨some 25,none,.bin .add .no (.t 24) (.c (.int .i64 1))⟩,
 ⟨some 26,none,.fldA 0 (.tf 3)⟩,
 ⟨some 27,none,.fldA 2 (.tf 26)⟩,
 ⟨some 28,none,.load false 1 (.tf 27)⟩,
 ⟨some 29,none,.fldA 1 (.tf 4)⟩,
 ⟨some 30,none,.load false 1 (.tf 29)⟩,
 ⟨some 31,none,.ixA 2 (.t 28) (.t 30)⟩,
 ⟨some 32,none,.fldA 1 (.t 31)⟩,
 ⟨some 33,none,.load false 1 (.t 32)⟩,
 ⟨some 34,none,.min [.t 25, .t 33]⟩,
 ⟨some 35,none,.nilck (.t 21)⟩,
 ⟨none, none, .store 1 (.t 35) (.t 34)⟩]
@[go_sem] def l8j : List XO := [
 ⟨some 37,none,.bin .eql .no (.t 14) (.c (.int .i64 3))⟩,
 ⟨some 36,none,.mv (.t 37)⟩]
@[go_sem] def l8k : List XO := [
 ⟨some 38,none,.mv (.t 6)⟩,
 ⟨some 39,none,.mv (.t 6)⟩,
 ⟨some 40,none,.nilck (.t 39)⟩,
 ⟨some 41,none,.load false 1 (.t 40)⟩,
 ⟨some 42,none,.bin .sub .no (.t 41) (.c (.int .i64 1))⟩,
 ⟨some 43,none,.max [.t 42, (.c (.int .i64 0))]⟩,
 ⟨some 44,none,.nilck (.t 38)⟩,
 ⟨none, none, .store 1 (.t 44) (.t 43)⟩]
def x__situation_Plant__set : XFunc := { np := 3, res := [], body :=
 (.seq (.reg l8c) (.seq (.reg l8d) (.seq (.reg l8e) (.block 0 (.seq (.reg l8f) (.cond (.t 15) (.reg l8g) (.seq (.reg l8h) (.cond (.t 19) (.reg l8i) (.seq (.reg l8j) (.cond (.t 36) (.reg l8k) .skip)))))))))) }
@[go_sem] def m7s : List XO := [
 ⟨some 2,none,.boxF (.t 0)⟩,
 ⟨some 3,none,.mv (.c (.bool false))⟩]
@[go_sem] def m7t : List XO := [
 ⟨some 4,none,.load true 5 (.t 1)⟩,
 ⟨some 5,none,.load true 4 (.tf 2)⟩,
 ⟨some 6,none,.call "newel/situation.asks" [.t 4, .t 5]⟩,
 ⟨some 7,none,.un .not (.t 6)⟩,
 ⟨some 3,none,.mv (.t 7)⟩]
def x_situation_AskedD1 : XFunc := { np := 2, res := [.t 3], body :=
 (.seq (.reg m7s) (.seq (.reg m7t) .ret)) }
@[go_sem] def m9o : List XO := [
 ⟨some 2,none,.boxF (.t 0)⟩,
 ⟨some 3,none,.boxF (.t 1)⟩,
 ⟨some 4,none,.mv (.c (.bool false))⟩]
@[go_sem] def m9p : List XO := [
 ⟨some 5,none,.fldA 0 (.tf 3)⟩,
 ⟨some 6,none,.load false 1 (.tf 5)⟩]
@[go_sem] def m9r : List XO := [
 ⟨some 8,none,.bin .eql .no (.t 6) (.c (.int .i64 1))⟩,
 ⟨some 7,none,.mv (.t 8)⟩]
@[go_sem] def m9s : List XO := [
 ⟨some 9,none,.fldA 1 (.tf 3)⟩,
 ⟨some 10,none,.load false 1 (.tf 9)⟩,
 ⟨some 11,none,.fldA 0 (.tf 2)⟩,
 ⟨some 12,none,.load false 1 (.tf 11)⟩,
 ⟨some 13,none,.len false (.t 12)⟩,
 ⟨some 14,none,.bin .sub .no (.t 13) (.c (.int .i64 1))⟩,
 ⟨some 15,none,.call "newel/situation.within" [.t 10, (.c (.int .i64 0)), .t 14]⟩,
 ⟨some 16,none,.mv (.t 15)⟩,
 ⟨(some 17), (some (16, true)), .fldA 2 (.tf 3)⟩,
 ⟨(some 18), (some (16, true)), .load false 1 (.tf 17)⟩,
 ⟨(some 19), (some (16, true)), .bin .eql .no (.t 18) (.c (.int .i64 0))⟩,
 ⟨some 20,none,.pick (.t 16) (.t 19) (.c (.bool false))⟩,
 ⟨some 4,none,.mv (.t 20)⟩]
@[go_sem] def m9t : List XO := [
 ⟨some 22,none,.bin .eql .no (.t 6) (.c (.int .i64 2))⟩,
 ⟨some 21,none,.mv (.t 22)⟩]
@[go_sem] def m9u : List XO := [
 ⟨some 23,none,.fldA 1 (.tf 3)⟩,
 ⟨some 24,none,.load false 1 (.tf 23)⟩,
 ⟨some 25,none,.fldA 2 (.tf 2)⟩,
 ⟨some 26,none,.load false 1 (.tf 25)⟩,
 ⟨some 27,none,.len false (.t 26)⟩,
 ⟨some 28,none,.bin .sub .no (.t 27) (.c (.int .i64 1))⟩,
 ⟨some 29,none,.call "newel/situation.within" [.t 24, (.c (.int .i64 0)), .t 28]⟩,
 ⟨some 30,none,.mv (.t 29)⟩,
 ⟨(some 31), (some (30, true)), .fldA 2 (.tf 3)⟩,
 ⟨(some 32), (some (30, true)), .load false 1 (.tf 31)⟩,
 ⟨(some 33), (some (30, true)), .fldA 2 (.tf 2)⟩,
 ⟨(some 34), (some (30, true)), .load false 1 (.tf 33)⟩,
 ⟨(some 35), (some (30, true)), .fldA 1 (.tf 3)⟩,
 ⟨(some 36), (some (30, true)), .load false 1 (.tf 35)⟩,
 ⟨(some 37), (some (30, true)), .ixA 2 (.t 34) (.t 36)⟩,
 ⟨(some 38), (some (30, true)), .fldA 1 (.t 37)⟩,
 ⟨(some 39), (some (30, true)), .load false 1 (.t 38)⟩,
 ⟨(some 40), (some (30, true)), .call "newel/situation.within" [.t 32, (.c (.int .i64 0)), .t 39]⟩,
 ⟨some 41,none,.pick (.t 30) (.t 40) (.c (.bool false))⟩,
 ⟨some 4,none,.mv (.t 41)⟩]
@[go_sem] def m9v : List XO := [
 ⟨some 43,none,.bin .eql .no (.t 6) (.c (.int .i64 3))⟩,
 ⟨some 42,none,.mv (.t 43)⟩]
@[go_sem] def m9w : List XO := [
 ⟨some 44,none,.fldA 1 (.tf 3)⟩,
 ⟨some 45,none,.load false 1 (.tf 44)⟩,
 ⟨some 46,none,.fldA 3 (.tf 2)⟩,
 ⟨some 47,none,.load false 1 (.tf 46)⟩,
 ⟨some 48,none,.len false (.t 47)⟩,
 ⟨some 49,none,.bin .sub .no (.t 48) (.c (.int .i64 1))⟩,
 ⟨some 50,none,.call "newel/situation.within" [.t 45, (.c (.int .i64 0)), .t 49]⟩,
 ⟨some 51,none,.mv (.t 50)⟩,
 ⟨(some 52), (some (51, true)), .fldA 2 (.tf 3)⟩,
 ⟨(some 53), (some (51, true)), .load false 1 (.tf 52)⟩,
 ⟨(some 54), (some (51, true)), .bin .eql .no (.t 53) (.c (.int .i64 0))⟩,
 ⟨some 55,none,.pick (.t 51) (.t 54) (.c (.bool false))⟩,
 ⟨some 4,none,.mv (.t 55)⟩]
@[go_sem] def m9x : List XO := [
 ⟨some 57,none,.bin .eql .no (.t 6) (.c (.int .i64 4))⟩,
 ⟨some 56,none,.mv (.t 57)⟩]
@[go_sem] def m9y : List XO := [
 ⟨some 58,none,.fldA 1 (.tf 3)⟩,
 ⟨some 59,none,.load false 1 (.tf 58)⟩,
 ⟨some 60,none,.fldA 1 (.tf 2)⟩,
 ⟨some 61,none,.load false 1 (.tf 60)⟩,
 ⟨some 62,none,.len false (.t 61)⟩,
 ⟨some 63,none,.bin .sub .no (.t 62) (.c (.int .i64 1))⟩,
 ⟨some 64,none,.call "newel/situation.within" [.t 59, (.c (.int .i64 0)), .t 63]⟩,
 ⟨some 65,none,.mv (.t 64)⟩,
 ⟨(some 66), (some (65, true)), .fldA 2 (.tf 3)⟩,
 ⟨(some 67), (some (65, true)), .load false 1 (.tf 66)⟩,
 ⟨(some 68), (some (65, true)), .bin .eql .no (.t 67) (.c (.int .i64 0))⟩,
 ⟨some 69,none,.pick (.t 65) (.t 68) (.c (.bool false))⟩,
 ⟨some 4,none,.mv (.t 69)⟩]
@[go_sem] def m9q : List XO := [
 ⟨some 4,none,.mv (.c (.bool false))⟩]
def x_situation_asks : XFunc := { np := 2, res := [.t 4], body :=
 (.seq (.reg m9o) (.seq (.seq (.reg m9p) (.block 0 (.seq (.reg m9r) (.cond (.t 7) (.seq (.reg m9s) .ret) (.seq (.reg m9t) (.cond (.t 21) (.seq (.reg m9u) .ret) (.seq (.reg m9v) (.cond (.t 42) (.seq (.reg m9w) .ret) (.seq (.reg m9x) (.cond (.t 56) (.seq (.reg m9y) .ret) .skip)))))))))) (.seq (.reg m9q) .ret))) }
@[go_sem] def o1z : List XO := [
 ⟨some 4,none,.mv (.c (.int .i64 0))⟩]
@[go_sem] def o10 : List XO := [
 ⟨some 6,none,.mv (.t 0)⟩,
 ⟨some 7,none,.len false (.t 6)⟩,
 ⟨some 8,none,.mv (.c (.int .i64 0))⟩]
@[go_sem] def o11 : List XO := [
 ⟨some 9,none,.bin .lss .no (.t 8) (.t 7)⟩]
@[go_sem] def o12 : List XO := [
 ⟨some 10,none,.mv (.t 8)⟩,
 ⟨some 5,none,.mv (.t 10)⟩]
@[go_sem] def o13 : List XO := [
 ⟨some 11,none,.mv (.t 1)⟩,
 ⟨some 12,none,.mv (.t 0)⟩,
 ⟨some 13,none,.mv (.t 5)⟩,
 ⟨some 14,none,.ixA 1 (.t 12) (.t 13)⟩,
 ⟨some 15,none,.load false 1 (.t 14)⟩,
 ⟨some 16,none,.callv (.t 11) [.t 15]⟩]
@[go_sem] def o14 : List XO := [
 ⟨some 17,none,.mv (.t 5)⟩,
 ⟨some 4,none,.mv (.t 17)⟩]
@[go_sem] def o15 : List XO := [
 ⟨some 18,none,.bin .add .no (.t 8) (.c (.int .i64 1))⟩,
 ⟨some 8,none,.mv (.t 18)⟩]
def g24 : XCode :=
 (.seq (.reg o11) (.seq (.cond (.t 9) .skip (.exit 0)) (.seq (.block 1 (.seq (.reg o12) (.seq (.reg o13) (.cond (.t 16) (.seq (.reg o14) .ret) .skip)))) (.reg o15))))
@[go_sem] def o16 : List XO := [
 ⟨some 4,none,.mv (.c (.int .i64 (-1)))⟩]
def x_slices_IndexFunc_api_Cond_api_Term_ : XFunc := { np := 2, res := [.t 4], body :=
 (.seq (.reg o1z) (.seq (.seq (.reg o10) (.block 0 (.loop g24))) (.seq (.reg o16) .ret))) }
@[go_sem] def o17 : List XO := [
 ⟨some 4,none,.mv (.c (.int .i64 0))⟩]
@[go_sem] def o18 : List XO := [
 ⟨some 6,none,.mv (.t 0)⟩,
 ⟨some 7,none,.len false (.t 6)⟩,
 ⟨some 8,none,.mv (.c (.int .i64 0))⟩]
@[go_sem] def o19 : List XO := [
 ⟨some 9,none,.bin .lss .no (.t 8) (.t 7)⟩]
@[go_sem] def o2a : List XO := [
 ⟨some 10,none,.mv (.t 8)⟩,
 ⟨some 5,none,.mv (.t 10)⟩]
@[go_sem] def o2b : List XO := [
 ⟨some 11,none,.mv (.t 1)⟩,
 ⟨some 12,none,.mv (.t 0)⟩,
 ⟨some 13,none,.mv (.t 5)⟩,
 ⟨some 14,none,.ixA 4 (.t 12) (.t 13)⟩,
 ⟨some 15,none,.load true 4 (.t 14)⟩,
 ⟨some 16,none,.callv (.t 11) [.t 15]⟩]
@[go_sem] def o2c : List XO := [
 ⟨some 17,none,.mv (.t 5)⟩,
 ⟨some 4,none,.mv (.t 17)⟩]
@[go_sem] def o2d : List XO := [
 ⟨some 18,none,.bin .add .no (.t 8) (.c (.int .i64 1))⟩,
 ⟨some 8,none,.mv (.t 18)⟩]
def g25 : XCode :=
 (.seq (.reg o19) (.seq (.cond (.t 9) .skip (.exit 0)) (.seq (.block 1 (.seq (.reg o2a) (.seq (.reg o2b) (.cond (.t 16) (.seq (.reg o2c) .ret) .skip)))) (.reg o2d))))
@[go_sem] def o2e : List XO := [
 ⟨some 4,none,.mv (.c (.int .i64 (-1)))⟩]
def x_slices_IndexFunc_api_Term_api_Literal_ : XFunc := { np := 2, res := [.t 4], body :=
 (.seq (.reg o17) (.seq (.seq (.reg o18) (.block 0 (.loop g25))) (.seq (.reg o2e) .ret))) }
@[go_sem] def o2f : List XO := [
 ⟨some 4,none,.mv (.t 0)⟩,
 ⟨some 5,none,.len false (.t 4)⟩,
 ⟨some 6,none,.bin .sub .no (.t 5) (.c (.int .i64 1))⟩,
 ⟨some 2,none,.mv (.c (.int .i64 0))⟩,
 ⟨some 3,none,.mv (.t 6)⟩]
@[go_sem] def o2g : List XO := [
 ⟨some 7,none,.mv (.t 2)⟩,
 ⟨some 8,none,.mv (.t 3)⟩,
 ⟨some 9,none,.bin .lss .no (.t 7) (.t 8)⟩]
@[go_sem] def o2h : List XO := [
 ⟨some 14,none,.mv (.t 0)⟩,
 ⟨some 15,none,.mv (.t 2)⟩,
 ⟨some 16,none,.mv (.t 0)⟩,
 ⟨some 17,none,.mv (.t 3)⟩,
 ⟨some 18,none,.mv (.t 0)⟩,
 ⟨some 19,none,.mv (.t 3)⟩,
 ⟨some 20,none,.ixA 1 (.t 18) (.t 19)⟩,
 ⟨some 21,none,.load false 1 (.t 20)⟩,
 ⟨some 22,none,.mv (.t 0)⟩,
 ⟨some 23,none,.mv (.t 2)⟩,
 ⟨some 24,none,.ixA 1 (.t 22) (.t 23)⟩,
 ⟨some 25,none,.load false 1 (.t 24)⟩,
 ⟨some 26,none,.ixA 1 (.t 14) (.t 15)⟩,
 ⟨none, none, .store 1 (.t 26) (.t 21)⟩,
 ⟨some 27,none,.ixA 1 (.t 16) (.t 17)⟩,
 ⟨none, none, .store 1 (.t 27) (.t 25)⟩]
@[go_sem] def o2i : List XO := [
 ⟨some 10,none,.mv (.t 2)⟩,
 ⟨some 11,none,.bin .add .no (.t 10) (.c (.int .i64 1))⟩,
 ⟨some 12,none,.mv (.t 3)⟩,
 ⟨some 13,none,.bin .sub .no (.t 12) (.c (.int .i64 1))⟩,
 ⟨some 2,none,.mv (.t 11)⟩,
 ⟨some 3,none,.mv (.t 13)⟩]
def g26 : XCode :=
 (.seq (.seq (.reg o2g) (.cond (.t 9) .skip (.exit 0))) (.seq (.block 1 (.reg o2h)) (.reg o2i)))
def x_slices_Reverse___int_int_ : XFunc := { np := 1, res := [], body :=
 (.seq (.reg o2f) (.block 0 (.loop g26))) }
@[go_sem] def m9z : List XO := [
 ⟨some 1,none,.boxF (.t 0)⟩,
 ⟨some 2,none,.mv (.c (.bool false))⟩]
@[go_sem] def m90 : List XO := [
 ⟨some 6,none,.callw "#mk" []⟩,
 ⟨some 3,none,.mv (.t 6)⟩]
@[go_sem] def m92 : List XO := [
 ⟨some 7,none,.load true 5 (.tf 1)⟩,
 ⟨some 8,none,.call "newel/situation.names" [.t 7]⟩,
 ⟨some 9,none,.len false (.t 8)⟩,
 ⟨some 10,none,.mv (.c (.int .i64 0))⟩]
@[go_sem] def m93 : List XO := [
 ⟨some 11,none,.bin .lss .no (.t 10) (.t 9)⟩]
@[go_sem] def m94 : List XO := [
 ⟨some 12,none,.ixA 1 (.t 8) (.t 10)⟩,
 ⟨some 13,none,.load false 1 (.t 12)⟩,
 ⟨some 5,none,.mv (.t 13)⟩]
@[go_sem] def m95 : List XO := [
 ⟨some 14,none,.mv (.t 3)⟩,
 ⟨some 15,none,.mv (.t 5)⟩,
 ⟨some 16,none,.callw "#ls" [.t 14, .t 15, (.c (.int .i64 0)), (.c (.int .i64 0))]⟩,
 ⟨some 17,none,.bin .add .no (.t 16) (.c (.int .i64 1))⟩,
 ⟨none, none, .callw "#ps" [.t 14, .t 15, .t 17, (.c (.int .i64 0))]⟩]
@[go_sem] def m96 : List XO := [
 ⟨some 18,none,.mv (.t 5)⟩,
 ⟨some 19,none,.call "newel/situation.Plain" [.t 18]⟩,
 ⟨some 20,none,.un .not (.t 19)⟩,
 ⟨some 21,none,.mv (.t 20)⟩,
 ⟨(some 22), (some (21, false)), .mv (.t 5)⟩,
 ⟨(some 23), (some (21, false)), .len true (.t 22)⟩,
 ⟨(some 24), (some (21, false)), .bin .gtr .no (.t 23) (.c (.int .i64 8))⟩,
 ⟨some 25,none,.pick (.t 21) (.c (.bool true)) (.t 24)⟩,
 ⟨some 26,none,.mv (.t 25)⟩,
 ⟨(some 27), (some (26, false)), .mv (.t 5)⟩,
 ⟨(some 28), (some (26, false)), .call "newel/situation.Reserved" [.t 27]⟩,
 ⟨some 29,none,.pick (.t 26) (.c (.bool true)) (.t 28)⟩,
 ⟨some 30,none,.mv (.t 29)⟩,
 ⟨(some 31), (some (30, false)), .mv (.t 3)⟩,
 ⟨(some 32), (some (30, false)), .mv (.t 5)⟩,
 ⟨(some 33), (some (30, false)), .callw "#ls" [.t 31, .t 32, (.c (.int .i64 0)), (.c (.int .i64 0))]⟩,
 ⟨(some 34), (some (30, false)), .bin .gtr .no (.t 33) (.c (.int .i64 1))⟩,
 ⟨some 35,none,.pick (.t 30) (.c (.bool true)) (.t 34)⟩]
@[go_sem] def m97 : List XO := [
 ⟨some 2,none,.mv (.c (.bool false))⟩]
@[go_sem] def m98 : List XO := [
 ⟨some 36,none,.bin .add .no (.t 10) (.c (.int .i64 1))⟩,
 ⟨some 10,none,.mv (.t 36)⟩]
def g23 : XCode :=
 (.seq (.reg m93) (.seq (.cond (.t 11) .skip (.exit 0)) (.seq (.block 1 (.seq (.reg m94) (.seq (.reg m95) (.seq (.reg m96) (.cond (.t 35) (.seq (.reg m97) .ret) .skip))))) (.reg m98))))
@[go_sem] def m91 : List XO := [
 ⟨some 2,none,.mv (.c (.bool true))⟩]
def x_situation_named : XFunc := { np := 1, res := [.t 2], body :=
 (.seq (.reg m9z) (.seq (.reg m90) (.seq (.seq (.reg m92) (.block 0 (.loop g23))) (.seq (.reg m91) .ret)))) }
@[go_sem] def m74 : List XO := [
 ⟨some 1,none,.boxF (.t 0)⟩,
 ⟨some 2,none,.mv (.c (.bool false))⟩]
@[go_sem] def m75 : List XO := [
 ⟨some 3,none,.fldA 0 (.tf 1)⟩,
 ⟨some 4,none,.load false 1 (.tf 3)⟩,
 ⟨some 5,none,.bin .eql .no (.t 4) (.c (.int .i64 3))⟩,
 ⟨some 2,none,.mv (.t 5)⟩]
def x_situation_CheckD1 : XFunc := { np := 1, res := [.t 2], body :=
 (.seq (.reg m74) (.seq (.reg m75) .ret)) }
@[go_sem] def m99 : List XO := [
 ⟨some 1,none,.boxF (.t 0)⟩,
 ⟨some 2,none,.mv (.c (.slice none 0 0))⟩]
@[go_sem] def o0a : List XO := [
 ⟨some 8,none,.fldA 0 (.tf 1)⟩,
 ⟨some 9,none,.load false 1 (.tf 8)⟩,
 ⟨some 10,none,.fldA 1 (.tf 1)⟩,
 ⟨some 11,none,.load false 1 (.tf 10)⟩,
 ⟨some 12,none,.bsl 1 [.t 9, .t 11]⟩,
 ⟨some 13,none,.call "slices.Concat[[]string,string]" [.t 12]⟩,
 ⟨some 3,none,.mv (.t 13)⟩]
@[go_sem] def o0f : List XO := [
 ⟨some 14,none,.fldA 2 (.tf 1)⟩,
 ⟨some 15,none,.load false 1 (.tf 14)⟩,
 ⟨some 16,none,.len false (.t 15)⟩,
 ⟨some 17,none,.mv (.c (.int .i64 0))⟩]
@[go_sem] def o0g : List XO := [
 ⟨some 18,none,.bin .lss .no (.t 17) (.t 16)⟩]
@[go_sem] def o0h : List XO := [
 ⟨some 19,none,.ixA 2 (.t 15) (.t 17)⟩,
 ⟨some 20,none,.load true 2 (.t 19)⟩,
 ⟨some 5,none,.alloc [(.string (ByteArray.mk #[])), (.int .i64 0)]⟩,
 ⟨none, none, .store 2 (.t 5) (.t 20)⟩]
@[go_sem] def o0i : List XO := [
 ⟨some 21,none,.mv (.t 3)⟩,
 ⟨some 22,none,.fldA 0 (.t 5)⟩,
 ⟨some 23,none,.load false 1 (.t 22)⟩,
 ⟨some 24,none,.bsl 1 [.t 23]⟩,
 ⟨some 25,none,.app 1 16 (.t 21) (.t 24)⟩,
 ⟨some 3,none,.mv (.t 25)⟩]
@[go_sem] def o0j : List XO := [
 ⟨some 26,none,.bin .add .no (.t 17) (.c (.int .i64 1))⟩,
 ⟨some 17,none,.mv (.t 26)⟩]
def d36 : XCode :=
 (.seq (.reg o0g) (.seq (.cond (.t 18) .skip (.exit 0)) (.seq (.block 1 (.seq (.reg o0h) (.reg o0i))) (.reg o0j))))
@[go_sem] def o0k : List XO := [
 ⟨some 27,none,.fldA 3 (.tf 1)⟩,
 ⟨some 28,none,.load false 1 (.tf 27)⟩,
 ⟨some 29,none,.len false (.t 28)⟩,
 ⟨some 30,none,.mv (.c (.int .i64 0))⟩]
@[go_sem] def o0l : List XO := [
 ⟨some 31,none,.bin .lss .no (.t 30) (.t 29)⟩]
@[go_sem] def o0b : List XO := [
 ⟨some 32,none,.ixA 2 (.t 28) (.t 30)⟩,
 ⟨some 33,none,.load true 2 (.t 32)⟩,
 ⟨some 7,none,.alloc [(.string (ByteArray.mk #[])), (.int .i64 0)]⟩,
 ⟨none, none, .store 2 (.t 7) (.t 33)⟩]
@[go_sem] def o0c : List XO := [
 ⟨some 34,none,.mv (.t 3)⟩,
 ⟨some 35,none,.fldA 0 (.t 7)⟩,
 ⟨some 36,none,.load false 1 (.t 35)⟩,
 ⟨some 37,none,.bsl 1 [.t 36]⟩,
 ⟨some 38,none,.app 1 16 (.t 34) (.t 37)⟩,
 ⟨some 3,none,.mv (.t 38)⟩]
@[go_sem] def o0d : List XO := [
 ⟨some 39,none,.bin .add .no (.t 30) (.c (.int .i64 1))⟩,
 ⟨some 30,none,.mv (.t 39)⟩]
def d35 : XCode :=
 (.seq (.reg o0l) (.seq (.cond (.t 31) .skip (.exit 2)) (.seq (.block 3 (.seq (.reg o0b) (.reg o0c))) (.reg o0d))))
@[go_sem] def o0e : List XO := [
 ⟨some 40,none,.mv (.t 3)⟩,
 ⟨some 2,none,.mv (.t 40)⟩]
def x_situation_names : XFunc := { np := 1, res := [.t 2], body :=
 (.seq (.reg m99) (.seq (.reg o0a) (.seq (.seq (.reg o0f) (.block 0 (.loop d36))) (.seq (.seq (.reg o0k) (.block 2 (.loop d35))) (.seq (.reg o0e) .ret))))) }
@[go_sem] def m84 : List XO := [
 ⟨some 2,none,.mv (.c (.bool false))⟩]
@[go_sem] def m85 : List XO := [
 ⟨some 5,none,.mv (.t 0)⟩,
 ⟨some 6,none,.callw "#sb" [.t 5]⟩,
 ⟨some 7,none,.len false (.t 6)⟩,
 ⟨some 8,none,.mv (.c (.int .i64 0))⟩]
@[go_sem] def m86 : List XO := [
 ⟨some 9,none,.bin .lss .no (.t 8) (.t 7)⟩]
@[go_sem] def m87 : List XO := [
 ⟨some 10,none,.ixA 1 (.t 6) (.t 8)⟩,
 ⟨some 11,none,.load false 1 (.t 10)⟩,
 ⟨some 4,none,.mv (.t 11)⟩]
@[go_sem] def m88 : List XO := [
 ⟨some 12,none,.mv (.t 4)⟩,
 ⟨some 13,none,.bin .lss .no (.t 12) (.c (.int .u8 97))⟩,
 ⟨some 14,none,.mv (.t 13)⟩,
 ⟨(some 15), (some (14, false)), .mv (.t 4)⟩,
 ⟨(some 16), (some (14, false)), .bin .gtr .no (.t 15) (.c (.int .u8 122))⟩,
 ⟨some 17,none,.pick (.t 14) (.c (.bool true)) (.t 16)⟩]
@[go_sem] def m89 : List XO := [
 ⟨some 2,none,.mv (.c (.bool false))⟩]
@[go_sem] def m9a : List XO := [
 ⟨some 18,none,.bin .add .no (.t 8) (.c (.int .i64 1))⟩,
 ⟨some 8,none,.mv (.t 18)⟩]
def g22 : XCode :=
 (.seq (.reg m86) (.seq (.cond (.t 9) .skip (.exit 0)) (.seq (.block 1 (.seq (.reg m87) (.seq (.reg m88) (.cond (.t 17) (.seq (.reg m89) .ret) .skip)))) (.reg m9a))))
@[go_sem] def m9b : List XO := [
 ⟨some 19,none,.mv (.t 0)⟩,
 ⟨some 20,none,.bin .neq .no (.t 19) (.c (.string (ByteArray.mk #[])))⟩,
 ⟨some 2,none,.mv (.t 20)⟩]
def x_situation_Plain : XFunc := { np := 1, res := [.t 2], body :=
 (.seq (.reg m84) (.seq (.seq (.reg m85) (.block 0 (.loop g22))) (.seq (.reg m9b) .ret))) }
@[go_sem] def m9c : List XO := [
 ⟨some 2,none,.mv (.c (.bool false))⟩]
@[go_sem] def m9d : List XO := [
 ⟨some 3,none,.mv (.t 0)⟩]
@[go_sem] def m9g : List XO := [
 ⟨some 5,none,.bin .eql .no (.t 3) (.c (.string (ByteArray.mk #[97, 110, 121])))⟩,
 ⟨some 4,none,.mv (.t 5)⟩]
@[go_sem] def m9h : List XO := [
 ⟨some 6,none,.bin .eql .no (.t 3) (.c (.string (ByteArray.mk #[116, 111])))⟩,
 ⟨some 4,none,.mv (.t 6)⟩]
@[go_sem] def m9i : List XO := [
 ⟨some 7,none,.bin .eql .no (.t 3) (.c (.string (ByteArray.mk #[122, 101, 114, 111])))⟩,
 ⟨some 4,none,.mv (.t 7)⟩]
@[go_sem] def m9j : List XO := [
 ⟨some 8,none,.bin .eql .no (.t 3) (.c (.string (ByteArray.mk #[109, 111, 114, 101])))⟩,
 ⟨some 4,none,.mv (.t 8)⟩]
@[go_sem] def m9k : List XO := [
 ⟨some 9,none,.bin .eql .no (.t 3) (.c (.string (ByteArray.mk #[108, 101, 115, 115])))⟩,
 ⟨some 4,none,.mv (.t 9)⟩]
@[go_sem] def m9l : List XO := [
 ⟨some 10,none,.bin .eql .no (.t 3) (.c (.string (ByteArray.mk #[105, 102])))⟩,
 ⟨some 4,none,.mv (.t 10)⟩]
@[go_sem] def m9m : List XO := [
 ⟨some 11,none,.bin .eql .no (.t 3) (.c (.string (ByteArray.mk #[121, 101, 115])))⟩,
 ⟨some 4,none,.mv (.t 11)⟩]
@[go_sem] def m9n : List XO := [
 ⟨some 12,none,.bin .eql .no (.t 3) (.c (.string (ByteArray.mk #[110, 111])))⟩,
 ⟨some 4,none,.mv (.t 12)⟩]
@[go_sem] def m9e : List XO := [
 ⟨some 2,none,.mv (.c (.bool true))⟩]
@[go_sem] def m9f : List XO := [
 ⟨some 2,none,.mv (.c (.bool false))⟩]
def x_situation_Reserved : XFunc := { np := 1, res := [.t 2], body :=
 (.seq (.reg m9c) (.seq (.seq (.reg m9d) (.block 0 (.seq (.seq (.reg m9g) (.cond (.t 4) .skip (.seq (.reg m9h) (.cond (.t 4) .skip (.seq (.reg m9i) (.cond (.t 4) .skip (.seq (.reg m9j) (.cond (.t 4) .skip (.seq (.reg m9k) (.cond (.t 4) .skip (.seq (.reg m9l) (.cond (.t 4) .skip (.seq (.reg m9m) (.cond (.t 4) .skip (.reg m9n))))))))))))))) (.cond (.t 4) (.seq (.reg m9e) .ret) .skip)))) (.seq (.reg m9f) .ret))) }
@[go_sem] def o0o : List XO := [
 ⟨some 2,none,.mv (.c (.slice none 0 0))⟩]
@[go_sem] def o0p : List XO := [
 ⟨some 3,none,.mv (.c (.int .i64 0))⟩]
@[go_sem] def o0x : List XO := [
 ⟨some 9,none,.mv (.t 0)⟩,
 ⟨some 10,none,.len false (.t 9)⟩,
 ⟨some 11,none,.mv (.c (.int .i64 0))⟩]
@[go_sem] def o0y : List XO := [
 ⟨some 12,none,.bin .lss .no (.t 11) (.t 10)⟩]
@[go_sem] def o0z : List XO := [
 ⟨some 13,none,.ixA 1 (.t 9) (.t 11)⟩,
 ⟨some 14,none,.load false 1 (.t 13)⟩,
 ⟨some 5,none,.mv (.t 14)⟩]
@[go_sem] def o00 : List XO := [
 ⟨some 15,none,.mv (.t 3)⟩,
 ⟨some 16,none,.mv (.t 5)⟩,
 ⟨some 17,none,.len false (.t 16)⟩,
 ⟨some 18,none,.bin .add .no (.t 15) (.t 17)⟩,
 ⟨some 3,none,.mv (.t 18)⟩]
@[go_sem] def o01 : List XO := [
 ⟨some 19,none,.mv (.t 3)⟩,
 ⟨some 20,none,.bin .lss .no (.t 19) (.c (.int .i64 0))⟩]
@[go_sem] def o02 : List XO := [
 ⟨some 21,none,.callw "#no" []⟩,
 ⟨none, none, .callw "#no" []⟩]
@[go_sem] def o03 : List XO := [
 ⟨some 22,none,.bin .add .no (.t 11) (.c (.int .i64 1))⟩,
 ⟨some 11,none,.mv (.t 22)⟩]
def d38 : XCode :=
 (.seq (.reg o0y) (.seq (.cond (.t 12) .skip (.exit 0)) (.seq (.block 1 (.seq (.reg o0z) (.seq (.reg o00) (.seq (.reg o01) (.cond (.t 20) (.reg o02) .skip))))) (.reg o03))))
@[go_sem] def o0q : List XO := [
 ⟨some 23,none,.mv (.t 3)⟩,
 ⟨some 24,none,.call "slices.Grow[[]string,string]" [(.c (.slice none 0 0)), .t 23]⟩,
 ⟨some 6,none,.mv (.t 24)⟩]
@[go_sem] def o0r : List XO := [
 ⟨some 25,none,.mv (.t 0)⟩,
 ⟨some 26,none,.len false (.t 25)⟩,
 ⟨some 27,none,.mv (.c (.int .i64 0))⟩]
@[go_sem] def o0s : List XO := [
 ⟨some 28,none,.bin .lss .no (.t 27) (.t 26)⟩]
@[go_sem] def o0t : List XO := [
 ⟨some 29,none,.ixA 1 (.t 25) (.t 27)⟩,
 ⟨some 30,none,.load false 1 (.t 29)⟩,
 ⟨some 8,none,.mv (.t 30)⟩]
@[go_sem] def o0u : List XO := [
 ⟨some 31,none,.mv (.t 6)⟩,
 ⟨some 32,none,.mv (.t 8)⟩,
 ⟨some 33,none,.app 1 16 (.t 31) (.t 32)⟩,
 ⟨some 6,none,.mv (.t 33)⟩]
@[go_sem] def o0v : List XO := [
 ⟨some 34,none,.bin .add .no (.t 27) (.c (.int .i64 1))⟩,
 ⟨some 27,none,.mv (.t 34)⟩]
def d37 : XCode :=
 (.seq (.reg o0s) (.seq (.cond (.t 28) .skip (.exit 2)) (.seq (.block 3 (.seq (.reg o0t) (.reg o0u))) (.reg o0v))))
@[go_sem] def o0w : List XO := [
 ⟨some 35,none,.mv (.t 6)⟩,
 ⟨some 2,none,.mv (.t 35)⟩]
def x_slices_Concat___string_string_ : XFunc := { np := 1, res := [.t 2], body :=
 (.seq (.reg o0o) (.seq (.reg o0p) (.seq (.seq (.reg o0x) (.block 0 (.loop d38))) (.seq (.reg o0q) (.seq (.seq (.reg o0r) (.block 2 (.loop d37))) (.seq (.reg o0w) .ret)))))) }
@[go_sem] def o1j : List XO := [
 ⟨some 4,none,.mv (.c (.slice none 0 0))⟩]
@[go_sem] def o1k : List XO := [
 ⟨some 5,none,.mv (.t 1)⟩,
 ⟨some 6,none,.bin .lss .no (.t 5) (.c (.int .i64 0))⟩]
@[go_sem] def o1l : List XO := [
 ⟨some 7,none,.callw "#no" []⟩,
 ⟨none, none, .callw "#no" []⟩]
@[go_sem] def o1m : List XO := [
 ⟨some 8,none,.mv (.t 1)⟩,
 ⟨some 9,none,.mv (.t 0)⟩,
 ⟨some 10,none,.callw "#cap" [.t 9]⟩,
 ⟨some 11,none,.mv (.t 0)⟩,
 ⟨some 12,none,.len false (.t 11)⟩,
 ⟨some 13,none,.bin .sub .no (.t 10) (.t 12)⟩,
 ⟨some 14,none,.bin .sub .no (.t 8) (.t 13)⟩,
 ⟨some 1,none,.mv (.t 14)⟩]
@[go_sem] def o1n : List XO := [
 ⟨some 15,none,.mv (.t 1)⟩,
 ⟨some 16,none,.bin .gtr .no (.t 15) (.c (.int .i64 0))⟩]
@[go_sem] def o1o : List XO := [
 ⟨some 17,none,.mv (.t 0)⟩,
 ⟨some 18,none,.mv (.t 0)⟩,
 ⟨some 19,none,.callw "#cap" [.t 18]⟩,
 ⟨some 20,none,.slc 1 (.t 17) none (some (.t 19))⟩,
 ⟨some 21,none,.mv (.t 1)⟩,
 ⟨some 22,none,.callw "#ax" [.t 20, .t 21, (.c (.string (ByteArray.mk #[])))]⟩,
 ⟨some 23,none,.mv (.t 0)⟩,
 ⟨some 24,none,.len false (.t 23)⟩,
 ⟨some 25,none,.slc 1 (.t 22) none (some (.t 24))⟩,
 ⟨some 0,none,.mv (.t 25)⟩]
@[go_sem] def o1p : List XO := [
 ⟨some 26,none,.mv (.t 0)⟩,
 ⟨some 4,none,.mv (.t 26)⟩]
def x_slices_Grow___string_string_ : XFunc := { np := 2, res := [.t 4], body :=
 (.seq (.reg o1j) (.seq (.seq (.reg o1k) (.cond (.t 6) (.reg o1l) .skip)) (.seq (.seq (.reg o1m) (.seq (.reg o1n) (.cond (.t 16) (.reg o1o) .skip))) (.seq (.reg o1p) .ret)))) }
end Go.Nw.Ctl
