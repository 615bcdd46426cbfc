/- The functions of a seat, as the abstract machine has them. -/
import Derived.Test.YteoedeeljnboeaaNwI
set_option linter.all false
set_option linter.unusedVariables false
set_option linter.unusedSimpArgs false
set_option linter.unusedSectionVars false
namespace Go.Nw.Halls
@[go_sem] def l4h : List XO := [
  ⟨(some 3), none, .boxF (.t 0)⟩,
  ⟨(some 4), none, .boxF (.t 1)⟩,
  ⟨(some 6), none, .mv (.c (.bool false))⟩]
@[go_sem] def l4i : List XO := [
  ⟨(some 15), none, .load true 4 (.tf 3)⟩,
  ⟨(some 16), none, .call "newel/newellaw06.Far" [(.t 15)]⟩,
  ⟨(some 17), none, .mv (.t 16)⟩,
  ⟨(some 18), (some (17, false)), .load true 3 (.tf 4)⟩,
  ⟨(some 19), (some (17, false)), .call "newel/newellaw06.farDay" [(.t 18)]⟩,
  ⟨(some 20), none, .pick (.t 17) (.c (.bool true)) (.t 19)⟩]
@[go_sem] def l4j : List XO := [
  ⟨(some 21), none, .call "newel/newellaw06.works" []⟩,
  ⟨(some 6), none, .mv (.t 21)⟩]
@[go_sem] def l4k : List XO := [
  ⟨(some 23), none, .load true 4 (.tf 3)⟩,
  ⟨(some 24), none, .mv (.t 2)⟩,
  ⟨(some 25), none, .call "newel/halls.Rates" [(.t 23), (.t 24)]⟩,
  ⟨(some 22), none, .mv (.t 25)⟩,
  ⟨(some 26), none, .ext (.t 22) 0⟩,
  ⟨(some 27), none, .ext (.t 22) 1⟩,
  ⟨(some 7), none, .mv (.t 26)⟩,
  ⟨(some 8), none, .mv (.t 27)⟩]
@[go_sem] def l4l : List XO := [
  ⟨(some 29), none, .load true 4 (.tf 3)⟩,
  ⟨(some 30), none, .mv (.t 2)⟩,
  ⟨(some 31), none, .call "newel/newelref06.Rates" [(.t 29), (.t 30)]⟩,
  ⟨(some 28), none, .mv (.t 31)⟩,
  ⟨(some 32), none, .ext (.t 28) 0⟩,
  ⟨(some 33), none, .ext (.t 28) 1⟩,
  ⟨(some 9), none, .mv (.t 32)⟩,
  ⟨(some 10), none, .mv (.t 33)⟩]
@[go_sem] def l4m : List XO := [
  ⟨(some 35), none, .load true 4 (.tf 3)⟩,
  ⟨(some 36), none, .load true 3 (.tf 4)⟩,
  ⟨(some 37), none, .call "newel/halls.Play" [(.t 35), (.t 36)]⟩,
  ⟨(some 34), none, .mv (.t 37)⟩,
  ⟨(some 38), none, .ext (.t 34) 0⟩,
  ⟨(some 39), none, .ext (.t 34) 1⟩,
  ⟨(some 11), none, .mv (.t 38)⟩,
  ⟨(some 12), none, .mv (.t 39)⟩]
@[go_sem] def l4n : List XO := [
  ⟨(some 41), none, .load true 4 (.tf 3)⟩,
  ⟨(some 42), none, .load true 3 (.tf 4)⟩,
  ⟨(some 43), none, .call "newel/newelref06.Play" [(.t 41), (.t 42)]⟩,
  ⟨(some 40), none, .mv (.t 43)⟩,
  ⟨(some 44), none, .ext (.t 40) 0⟩,
  ⟨(some 45), none, .ext (.t 40) 1⟩,
  ⟨(some 13), none, .mv (.t 44)⟩,
  ⟨(some 14), none, .mv (.t 45)⟩]
@[go_sem] def l4o : List XO := [
  ⟨(some 46), none, .load true 4 (.tf 3)⟩,
  ⟨(some 47), none, .call "newel/halls.Check" [(.t 46)]⟩,
  ⟨(some 48), none, .load true 4 (.tf 3)⟩,
  ⟨(some 49), none, .call "newel/newelref06.Check" [(.t 48)]⟩,
  ⟨(some 50), none, .bin .eql .no (.t 47) (.t 49)⟩,
  ⟨(some 51), none, .mv (.t 50)⟩,
  ⟨(some 52), (some (51, true)), .mv (.t 8)⟩,
  ⟨(some 53), (some (51, true)), .mv (.t 10)⟩,
  ⟨(some 54), (some (51, true)), .bin .eql .no (.t 52) (.t 53)⟩,
  ⟨(some 55), none, .pick (.t 51) (.t 54) (.c (.bool false))⟩,
  ⟨(some 56), none, .mv (.t 55)⟩,
  ⟨(some 57), (some (56, true)), .mv (.t 7)⟩,
  ⟨(some 58), (some (56, true)), .mv (.t 9)⟩,
  ⟨(some 59), (some (56, true)), .call "newel/newelref06.Same" [(.t 57), (.t 58)]⟩,
  ⟨(some 60), none, .pick (.t 56) (.t 59) (.c (.bool false))⟩,
  ⟨(some 61), none, .mv (.t 60)⟩,
  ⟨(some 62), (some (61, true)), .mv (.t 12)⟩,
  ⟨(some 63), (some (61, true)), .mv (.t 14)⟩,
  ⟨(some 64), (some (61, true)), .bin .eql .no (.t 62) (.t 63)⟩,
  ⟨(some 65), none, .pick (.t 61) (.t 64) (.c (.bool false))⟩,
  ⟨(some 66), none, .mv (.t 65)⟩,
  ⟨(some 67), (some (66, true)), .mv (.t 11)⟩,
  ⟨(some 68), (some (66, true)), .mv (.t 13)⟩,
  ⟨(some 69), (some (66, true)), .call "newel/newellaw06.sameRows" [(.t 67), (.t 68)]⟩,
  ⟨(some 70), none, .pick (.t 66) (.t 69) (.c (.bool false))⟩,
  ⟨(some 71), none, .mv (.t 70)⟩,
  ⟨(some 72), (some (71, true)), .call "newel/newellaw06.works" []⟩,
  ⟨(some 73), none, .pick (.t 71) (.t 72) (.c (.bool false))⟩,
  ⟨(some 6), none, .mv (.t 73)⟩]
def x_l06_HallsPlays : XFunc := { np := 3, res := [.t 6], body :=
  (.seq (.reg l4h) (.seq (.seq (.reg l4i) (.cond (.t 20) (.seq (.reg l4j) .ret) .skip)) (.seq (.reg l4k) (.seq (.reg l4l) (.seq (.reg l4m) (.seq (.reg l4n) (.seq (.reg l4o) .ret))))))) }
@[go_sem] def l38 : List XO := [
  ⟨(some 1), none, .boxF (.t 0)⟩,
  ⟨(some 2), none, .mv (.c (.bool false))⟩]
@[go_sem] def l39 : List XO := [
  ⟨(some 4), none, .fldA 0 (.tf 1)⟩,
  ⟨(some 5), none, .load false 1 (.tf 4)⟩,
  ⟨(some 6), none, .len false (.t 5)⟩,
  ⟨(some 7), none, .bin .gtr .no (.t 6) (.c (.int .i64 12))⟩,
  ⟨(some 8), none, .mv (.t 7)⟩,
  ⟨(some 9), (some (8, false)), .fldA 1 (.tf 1)⟩,
  ⟨(some 10), (some (8, false)), .load false 1 (.tf 9)⟩,
  ⟨(some 11), (some (8, false)), .len false (.t 10)⟩,
  ⟨(some 12), (some (8, false)), .bin .gtr .no (.t 11) (.c (.int .i64 20))⟩,
  ⟨(some 13), none, .pick (.t 8) (.c (.bool true)) (.t 12)⟩,
  ⟨(some 14), none, .mv (.t 13)⟩,
  ⟨(some 15), (some (14, false)), .fldA 2 (.tf 1)⟩,
  ⟨(some 16), (some (14, false)), .load false 1 (.tf 15)⟩,
  ⟨(some 17), (some (14, false)), .len false (.t 16)⟩,
  ⟨(some 18), (some (14, false)), .bin .gtr .no (.t 17) (.c (.int .i64 40))⟩,
  ⟨(some 19), none, .pick (.t 14) (.c (.bool true)) (.t 18)⟩,
  ⟨(some 20), none, .mv (.t 19)⟩,
  ⟨(some 21), (some (20, false)), .fldA 3 (.tf 1)⟩,
  ⟨(some 22), (some (20, false)), .load false 1 (.tf 21)⟩,
  ⟨(some 23), (some (20, false)), .bin .gtr .no (.t 22) (.c (.int .i64 40))⟩,
  ⟨(some 24), (some (20, false)), .mv (.t 23)⟩,
  ⟨(some 25), (some (24, true)), .fldA 3 (.tf 1)⟩,
  ⟨(some 26), (some (24, true)), .load false 1 (.tf 25)⟩,
  ⟨(some 27), (some (24, true)), .bin .leq .no (.t 26) (.c (.int .i64 100))⟩,
  ⟨(some 28), (some (20, false)), .pick (.t 24) (.t 27) (.c (.bool false))⟩,
  ⟨(some 29), none, .pick (.t 20) (.c (.bool true)) (.t 28)⟩]
@[go_sem] def l4a : List XO := [
  ⟨(some 2), none, .mv (.c (.bool true))⟩]
@[go_sem] def l4b : List XO := [
  ⟨(some 3), none, .mv (.c (.int .i64 0))⟩]
@[go_sem] def l4c : List XO := [
  ⟨(some 30), none, .mv (.t 3)⟩,
  ⟨(some 31), none, .fldA 1 (.tf 1)⟩,
  ⟨(some 32), none, .load false 1 (.tf 31)⟩,
  ⟨(some 33), none, .len false (.t 32)⟩,
  ⟨(some 34), none, .bin .lss .no (.t 30) (.t 33)⟩]
@[go_sem] def l4d : List XO := [
  ⟨(some 37), none, .fldA 1 (.tf 1)⟩,
  ⟨(some 38), none, .load false 1 (.tf 37)⟩,
  ⟨(some 39), none, .mv (.t 3)⟩,
  ⟨(some 40), none, .ixA 3 (.t 38) (.t 39)⟩,
  ⟨(some 41), none, .fldA 2 (.t 40)⟩,
  ⟨(some 42), none, .load false 1 (.t 41)⟩,
  ⟨(some 43), none, .len false (.t 42)⟩,
  ⟨(some 44), none, .bin .gtr .no (.t 43) (.c (.int .i64 10))⟩]
@[go_sem] def l4e : List XO := [
  ⟨(some 2), none, .mv (.c (.bool true))⟩]
@[go_sem] def l4f : List XO := [
  ⟨(some 35), none, .mv (.t 3)⟩,
  ⟨(some 36), none, .bin .add .no (.t 35) (.c (.int .i64 1))⟩,
  ⟨(some 3), none, .mv (.t 36)⟩]
def g0f : XCode :=
  (.seq (.seq (.reg l4c) (.cond (.t 34) .skip (.exit 0))) (.seq (.block 1 (.seq (.reg l4d) (.cond (.t 44) (.seq (.reg l4e) .ret) .skip))) (.reg l4f)))
@[go_sem] def l4g : List XO := [
  ⟨(some 2), none, .mv (.c (.bool false))⟩]
def x_l06_Far : XFunc := { np := 1, res := [.t 2], body :=
  (.seq (.reg l38) (.seq (.seq (.reg l39) (.cond (.t 29) (.seq (.reg l4a) .ret) .skip)) (.seq (.seq (.reg l4b) (.block 0 (.loop g0f))) (.seq (.reg l4g) .ret)))) }
@[go_sem] def l5g : List XO := [
  ⟨(some 1), none, .boxF (.t 0)⟩,
  ⟨(some 2), none, .mv (.c (.int .i64 0))⟩]
@[go_sem] def l5h : List XO := [
  ⟨(some 12), none, .fldA 3 (.tf 1)⟩,
  ⟨(some 13), none, .load false 1 (.tf 12)⟩,
  ⟨(some 14), none, .call "newel/newelref06.within" [(.t 13), (.c (.int .i64 1)), (.c (.int .i64 100))]⟩,
  ⟨(some 15), none, .un .not (.t 14)⟩,
  ⟨(some 16), none, .mv (.t 15)⟩,
  ⟨(some 17), (some (16, false)), .fldA 0 (.tf 1)⟩,
  ⟨(some 18), (some (16, false)), .load false 1 (.tf 17)⟩,
  ⟨(some 19), (some (16, false)), .len false (.t 18)⟩,
  ⟨(some 20), (some (16, false)), .call "newel/newelref06.within" [(.t 19), (.c (.int .i64 1)), (.c (.int .i64 8))]⟩,
  ⟨(some 21), (some (16, false)), .un .not (.t 20)⟩,
  ⟨(some 22), none, .pick (.t 16) (.c (.bool true)) (.t 21)⟩,
  ⟨(some 23), none, .mv (.t 22)⟩,
  ⟨(some 24), (some (23, false)), .fldA 1 (.tf 1)⟩,
  ⟨(some 25), (some (23, false)), .load false 1 (.tf 24)⟩,
  ⟨(some 26), (some (23, false)), .len false (.t 25)⟩,
  ⟨(some 27), (some (23, false)), .bin .gtr .no (.t 26) (.c (.int .i64 12))⟩,
  ⟨(some 28), none, .pick (.t 23) (.c (.bool true)) (.t 27)⟩,
  ⟨(some 29), none, .mv (.t 28)⟩,
  ⟨(some 30), (some (29, false)), .fldA 2 (.tf 1)⟩,
  ⟨(some 31), (some (29, false)), .load false 1 (.tf 30)⟩,
  ⟨(some 32), (some (29, false)), .len false (.t 31)⟩,
  ⟨(some 33), (some (29, false)), .bin .gtr .no (.t 32) (.c (.int .i64 20))⟩,
  ⟨(some 34), none, .pick (.t 29) (.c (.bool true)) (.t 33)⟩]
@[go_sem] def l5r : List XO := [
  ⟨(some 2), none, .mv (.c (.int .i64 60))⟩]
@[go_sem] def l50 : List XO := [
  ⟨(some 35), none, .fldA 0 (.tf 1)⟩,
  ⟨(some 36), none, .load false 1 (.tf 35)⟩,
  ⟨(some 37), none, .len false (.t 36)⟩,
  ⟨(some 3), none, .mv (.t 37)⟩]
@[go_sem] def l55 : List XO := [
  ⟨(some 4), none, .mv (.c (.int .i64 0))⟩]
@[go_sem] def l56 : List XO := [
  ⟨(some 38), none, .mv (.t 4)⟩,
  ⟨(some 39), none, .mv (.t 3)⟩,
  ⟨(some 40), none, .bin .lss .no (.t 38) (.t 39)⟩]
@[go_sem] def l58 : List XO := [
  ⟨(some 43), none, .fldA 0 (.tf 1)⟩,
  ⟨(some 44), none, .load false 1 (.tf 43)⟩,
  ⟨(some 45), none, .mv (.t 4)⟩,
  ⟨(some 46), none, .ixA 5 (.t 44) (.t 45)⟩,
  ⟨(some 47), none, .load true 5 (.t 46)⟩,
  ⟨(some 5), none, .alloc [(.int .i64 0), (.int .i64 0), (.int .i64 0), (.int .i64 0), (.int .i64 0)]⟩,
  ⟨none, none, .store 5 (.t 5) (.t 47)⟩]
@[go_sem] def l59 : List XO := [
  ⟨(some 48), none, .fldA 0 (.t 5)⟩,
  ⟨(some 49), none, .load false 1 (.t 48)⟩,
  ⟨(some 50), none, .call "newel/newelref06.within" [(.t 49), (.c (.int .i64 0)), (.c (.int .i64 1000))]⟩,
  ⟨(some 51), none, .un .not (.t 50)⟩,
  ⟨(some 52), none, .mv (.t 51)⟩,
  ⟨(some 53), (some (52, false)), .fldA 1 (.t 5)⟩,
  ⟨(some 54), (some (52, false)), .load false 1 (.t 53)⟩,
  ⟨(some 55), (some (52, false)), .call "newel/newelref06.within" [(.t 54), (.c (.int .i64 0)), (.c (.int .i64 100000))]⟩,
  ⟨(some 56), (some (52, false)), .un .not (.t 55)⟩,
  ⟨(some 57), none, .pick (.t 52) (.c (.bool true)) (.t 56)⟩,
  ⟨(some 58), none, .mv (.t 57)⟩,
  ⟨(some 59), (some (58, false)), .fldA 2 (.t 5)⟩,
  ⟨(some 60), (some (58, false)), .load false 1 (.t 59)⟩,
  ⟨(some 61), (some (58, false)), .bin .neq .no (.t 60) (.c (.int .i64 (-1)))⟩,
  ⟨(some 62), (some (58, false)), .mv (.t 61)⟩,
  ⟨(some 63), (some (62, true)), .fldA 2 (.t 5)⟩,
  ⟨(some 64), (some (62, true)), .load false 1 (.t 63)⟩,
  ⟨(some 65), (some (62, true)), .mv (.t 4)⟩,
  ⟨(some 66), (some (62, true)), .bin .add .no (.t 65) (.c (.int .i64 1))⟩,
  ⟨(some 67), (some (62, true)), .mv (.t 3)⟩,
  ⟨(some 68), (some (62, true)), .bin .sub .no (.t 67) (.c (.int .i64 1))⟩,
  ⟨(some 69), (some (62, true)), .call "newel/newelref06.within" [(.t 64), (.t 66), (.t 68)]⟩,
  ⟨(some 70), (some (62, true)), .un .not (.t 69)⟩,
  ⟨(some 71), (some (58, false)), .pick (.t 62) (.t 70) (.c (.bool false))⟩,
  ⟨(some 72), none, .pick (.t 58) (.c (.bool true)) (.t 71)⟩,
  ⟨(some 73), none, .mv (.t 72)⟩,
  ⟨(some 74), (some (73, false)), .fldA 3 (.t 5)⟩,
  ⟨(some 75), (some (73, false)), .load true 2 (.t 74)⟩,
  ⟨(some 76), (some (73, false)), .call "newel/newelref06.spanned" [(.t 75), (.c (.int .i64 1)), (.c (.int .i64 20))]⟩,
  ⟨(some 77), (some (73, false)), .un .not (.t 76)⟩,
  ⟨(some 78), none, .pick (.t 73) (.c (.bool true)) (.t 77)⟩]
@[go_sem] def l6a : List XO := [
  ⟨(some 2), none, .mv (.c (.int .i64 60))⟩]
@[go_sem] def l6b : List XO := [
  ⟨(some 41), none, .mv (.t 4)⟩,
  ⟨(some 42), none, .bin .add .no (.t 41) (.c (.int .i64 1))⟩,
  ⟨(some 4), none, .mv (.t 42)⟩]
def g0j : XCode :=
  (.seq (.seq (.reg l56) (.cond (.t 40) .skip (.exit 0))) (.seq (.block 1 (.seq (.reg l58) (.seq (.reg l59) (.cond (.t 78) (.seq (.reg l6a) .ret) .skip)))) (.reg l6b)))
@[go_sem] def l5i : List XO := [
  ⟨(some 6), none, .mv (.c (.int .i64 0))⟩]
@[go_sem] def l5j : List XO := [
  ⟨(some 79), none, .mv (.t 6)⟩,
  ⟨(some 80), none, .fldA 1 (.tf 1)⟩,
  ⟨(some 81), none, .load false 1 (.tf 80)⟩,
  ⟨(some 82), none, .len false (.t 81)⟩,
  ⟨(some 83), none, .bin .lss .no (.t 79) (.t 82)⟩]
@[go_sem] def l5k : List XO := [
  ⟨(some 86), none, .fldA 1 (.tf 1)⟩,
  ⟨(some 87), none, .load false 1 (.tf 86)⟩,
  ⟨(some 88), none, .mv (.t 6)⟩,
  ⟨(some 89), none, .ixA 3 (.t 87) (.t 88)⟩,
  ⟨(some 90), none, .load true 3 (.t 89)⟩,
  ⟨(some 7), none, .alloc [(.int .i64 0), (.int .i64 0), (.slice none 0 0)]⟩,
  ⟨none, none, .store 3 (.t 7) (.t 90)⟩]
@[go_sem] def l5l : List XO := [
  ⟨(some 91), none, .fldA 0 (.t 7)⟩,
  ⟨(some 92), none, .load true 2 (.t 91)⟩,
  ⟨(some 93), none, .fldA 3 (.tf 1)⟩,
  ⟨(some 94), none, .load false 1 (.tf 93)⟩,
  ⟨(some 95), none, .bin .sub .no (.t 94) (.c (.int .i64 1))⟩,
  ⟨(some 96), none, .call "newel/newelref06.spanned" [(.t 92), (.c (.int .i64 0)), (.t 95)]⟩,
  ⟨(some 97), none, .un .not (.t 96)⟩,
  ⟨(some 98), none, .mv (.t 97)⟩,
  ⟨(some 99), (some (98, false)), .fldA 2 (.t 7)⟩,
  ⟨(some 100), (some (98, false)), .load false 1 (.t 99)⟩,
  ⟨(some 101), (some (98, false)), .len false (.t 100)⟩,
  ⟨(some 102), (some (98, false)), .bin .gtr .no (.t 101) (.c (.int .i64 4))⟩,
  ⟨(some 103), none, .pick (.t 98) (.c (.bool true)) (.t 102)⟩]
@[go_sem] def l5m : List XO := [
  ⟨(some 2), none, .mv (.c (.int .i64 60))⟩]
@[go_sem] def l5n : List XO := [
  ⟨(some 8), none, .mv (.c (.int .i64 (-1)))⟩]
@[go_sem] def l5o : List XO := [
  ⟨(some 9), none, .mv (.c (.int .i64 0))⟩]
@[go_sem] def l5p : List XO := [
  ⟨(some 104), none, .mv (.t 9)⟩,
  ⟨(some 105), none, .fldA 2 (.t 7)⟩,
  ⟨(some 106), none, .load false 1 (.t 105)⟩,
  ⟨(some 107), none, .len false (.t 106)⟩,
  ⟨(some 108), none, .bin .lss .no (.t 104) (.t 107)⟩]
@[go_sem] def l5q : List XO := [
  ⟨(some 111), none, .fldA 2 (.t 7)⟩,
  ⟨(some 112), none, .load false 1 (.t 111)⟩,
  ⟨(some 113), none, .mv (.t 9)⟩,
  ⟨(some 114), none, .ixA 3 (.t 112) (.t 113)⟩,
  ⟨(some 115), none, .fldA 0 (.t 114)⟩,
  ⟨(some 116), none, .load false 1 (.t 115)⟩,
  ⟨(some 117), none, .mv (.t 8)⟩,
  ⟨(some 118), none, .bin .add .no (.t 117) (.c (.int .i64 1))⟩,
  ⟨(some 119), none, .mv (.t 3)⟩,
  ⟨(some 120), none, .bin .sub .no (.t 119) (.c (.int .i64 1))⟩,
  ⟨(some 121), none, .call "newel/newelref06.within" [(.t 116), (.t 118), (.t 120)]⟩,
  ⟨(some 122), none, .un .not (.t 121)⟩,
  ⟨(some 123), none, .mv (.t 122)⟩,
  ⟨(some 124), (some (123, false)), .fldA 2 (.t 7)⟩,
  ⟨(some 125), (some (123, false)), .load false 1 (.t 124)⟩,
  ⟨(some 126), (some (123, false)), .mv (.t 9)⟩,
  ⟨(some 127), (some (123, false)), .ixA 3 (.t 125) (.t 126)⟩,
  ⟨(some 128), (some (123, false)), .fldA 1 (.t 127)⟩,
  ⟨(some 129), (some (123, false)), .load true 2 (.t 128)⟩,
  ⟨(some 130), (some (123, false)), .call "newel/newelref06.spanned" [(.t 129), (.c (.int .i64 0)), (.c (.int .i64 1000))]⟩,
  ⟨(some 131), (some (123, false)), .un .not (.t 130)⟩,
  ⟨(some 132), none, .pick (.t 123) (.c (.bool true)) (.t 131)⟩]
@[go_sem] def l5s : List XO := [
  ⟨(some 2), none, .mv (.c (.int .i64 60))⟩]
@[go_sem] def l5t : List XO := [
  ⟨(some 133), none, .fldA 2 (.t 7)⟩,
  ⟨(some 134), none, .load false 1 (.t 133)⟩,
  ⟨(some 135), none, .mv (.t 9)⟩,
  ⟨(some 136), none, .ixA 3 (.t 134) (.t 135)⟩,
  ⟨(some 137), none, .fldA 0 (.t 136)⟩,
  ⟨(some 138), none, .load false 1 (.t 137)⟩,
  ⟨(some 8), none, .mv (.t 138)⟩]
@[go_sem] def l5u : List XO := [
  ⟨(some 109), none, .mv (.t 9)⟩,
  ⟨(some 110), none, .bin .add .no (.t 109) (.c (.int .i64 1))⟩,
  ⟨(some 9), none, .mv (.t 110)⟩]
def g0k : XCode :=
  (.seq (.seq (.reg l5p) (.cond (.t 108) .skip (.exit 4))) (.seq (.block 5 (.seq (.seq (.reg l5q) (.cond (.t 132) (.seq (.reg l5s) .ret) .skip)) (.reg l5t))) (.reg l5u)))
@[go_sem] def l5v : List XO := [
  ⟨(some 84), none, .mv (.t 6)⟩,
  ⟨(some 85), none, .bin .add .no (.t 84) (.c (.int .i64 1))⟩,
  ⟨(some 6), none, .mv (.t 85)⟩]
def g0l : XCode :=
  (.seq (.seq (.reg l5j) (.cond (.t 83) .skip (.exit 2))) (.seq (.block 3 (.seq (.reg l5k) (.seq (.seq (.reg l5l) (.cond (.t 103) (.seq (.reg l5m) .ret) .skip)) (.seq (.reg l5n) (.seq (.reg l5o) (.block 4 (.loop g0k))))))) (.reg l5v)))
@[go_sem] def l5w : List XO := [
  ⟨(some 10), none, .mv (.c (.int .i64 0))⟩]
@[go_sem] def l5x : List XO := [
  ⟨(some 139), none, .mv (.t 10)⟩,
  ⟨(some 140), none, .fldA 2 (.tf 1)⟩,
  ⟨(some 141), none, .load false 1 (.tf 140)⟩,
  ⟨(some 142), none, .len false (.t 141)⟩,
  ⟨(some 143), none, .bin .lss .no (.t 139) (.t 142)⟩]
@[go_sem] def l5y : List XO := [
  ⟨(some 146), none, .fldA 2 (.tf 1)⟩,
  ⟨(some 147), none, .load false 1 (.tf 146)⟩,
  ⟨(some 148), none, .mv (.t 10)⟩,
  ⟨(some 149), none, .ixA 3 (.t 147) (.t 148)⟩,
  ⟨(some 150), none, .load true 3 (.t 149)⟩,
  ⟨(some 11), none, .alloc [(.int .i64 0), (.int .i64 0), (.int .i64 0)]⟩,
  ⟨none, none, .store 3 (.t 11) (.t 150)⟩]
@[go_sem] def l5z : List XO := [
  ⟨(some 151), none, .fldA 0 (.t 11)⟩,
  ⟨(some 152), none, .load false 1 (.t 151)⟩,
  ⟨(some 153), none, .fldA 3 (.tf 1)⟩,
  ⟨(some 154), none, .load false 1 (.tf 153)⟩,
  ⟨(some 155), none, .bin .sub .no (.t 154) (.c (.int .i64 1))⟩,
  ⟨(some 156), none, .call "newel/newelref06.within" [(.t 152), (.c (.int .i64 0)), (.t 155)]⟩,
  ⟨(some 157), none, .un .not (.t 156)⟩,
  ⟨(some 158), none, .mv (.t 157)⟩,
  ⟨(some 159), (some (158, false)), .fldA 1 (.t 11)⟩,
  ⟨(some 160), (some (158, false)), .load false 1 (.t 159)⟩,
  ⟨(some 161), (some (158, false)), .mv (.t 3)⟩,
  ⟨(some 162), (some (158, false)), .bin .sub .no (.t 161) (.c (.int .i64 1))⟩,
  ⟨(some 163), (some (158, false)), .call "newel/newelref06.within" [(.t 160), (.c (.int .i64 0)), (.t 162)]⟩,
  ⟨(some 164), (some (158, false)), .un .not (.t 163)⟩,
  ⟨(some 165), none, .pick (.t 158) (.c (.bool true)) (.t 164)⟩,
  ⟨(some 166), none, .mv (.t 165)⟩,
  ⟨(some 167), (some (166, false)), .fldA 2 (.t 11)⟩,
  ⟨(some 168), (some (166, false)), .load false 1 (.t 167)⟩,
  ⟨(some 169), (some (166, false)), .call "newel/newelref06.within" [(.t 168), (.c (.int .i64 0)), (.c (.int .i64 1000))]⟩,
  ⟨(some 170), (some (166, false)), .un .not (.t 169)⟩,
  ⟨(some 171), none, .pick (.t 166) (.c (.bool true)) (.t 170)⟩,
  ⟨(some 172), none, .mv (.t 171)⟩,
  ⟨(some 173), (some (172, false)), .mv (.t 10)⟩,
  ⟨(some 174), (some (172, false)), .bin .gtr .no (.t 173) (.c (.int .i64 0))⟩,
  ⟨(some 175), (some (172, false)), .mv (.t 174)⟩,
  ⟨(some 176), (some (175, true)), .fldA 0 (.t 11)⟩,
  ⟨(some 177), (some (175, true)), .load false 1 (.t 176)⟩,
  ⟨(some 178), (some (175, true)), .fldA 2 (.tf 1)⟩,
  ⟨(some 179), (some (175, true)), .load false 1 (.tf 178)⟩,
  ⟨(some 180), (some (175, true)), .mv (.t 10)⟩,
  ⟨(some 181), (some (175, true)), .bin .sub .no (.t 180) (.c (.int .i64 1))⟩,
  ⟨(some 182), (some (175, true)), .ixA 3 (.t 179) (.t 181)⟩,
  ⟨(some 183), (some (175, true)), .fldA 0 (.t 182)⟩,
  ⟨(some 184), (some (175, true)), .load false 1 (.t 183)⟩,
  ⟨(some 185), (some (175, true)), .bin .lss .no (.t 177) (.t 184)⟩,
  ⟨(some 186), (some (172, false)), .pick (.t 175) (.t 185) (.c (.bool false))⟩,
  ⟨(some 187), none, .pick (.t 172) (.c (.bool true)) (.t 186)⟩]
@[go_sem] def l51 : List XO := [
  ⟨(some 2), none, .mv (.c (.int .i64 60))⟩]
@[go_sem] def l52 : List XO := [
  ⟨(some 144), none, .mv (.t 10)⟩,
  ⟨(some 145), none, .bin .add .no (.t 144) (.c (.int .i64 1))⟩,
  ⟨(some 10), none, .mv (.t 145)⟩]
def g0m : XCode :=
  (.seq (.seq (.reg l5x) (.cond (.t 143) .skip (.exit 6))) (.seq (.block 7 (.seq (.reg l5y) (.seq (.reg l5z) (.cond (.t 187) (.seq (.reg l51) .ret) .skip)))) (.reg l52)))
@[go_sem] def l54 : List XO := [
  ⟨(some 2), none, .mv (.c (.int .i64 0))⟩]
def x_r06_Check : XFunc := { np := 1, res := [.t 2], body :=
  (.seq (.reg l5g) (.seq (.seq (.reg l5h) (.cond (.t 34) (.seq (.reg l5r) .ret) .skip)) (.seq (.reg l50) (.seq (.seq (.reg l55) (.block 0 (.loop g0j))) (.seq (.seq (.reg l5i) (.block 2 (.loop g0l))) (.seq (.seq (.reg l5w) (.block 6 (.loop g0m))) (.seq (.reg l54) .ret))))))) }
@[go_sem] def l5c : List XO := [
  ⟨(some 0), none, .mv (.c (.bool false))⟩]
@[go_sem] def l5d : List XO := [
  ⟨(some 6), none, .call "newel/newellaw06.Example" []⟩,
  ⟨(some 7), none, .call "newel/halls.Guard" [(.t 6), (.c (.int .i64 0)), (.c (.int .i64 5))]⟩,
  ⟨(some 5), none, .mv (.t 7)⟩,
  ⟨(some 8), none, .ext (.t 5) 0⟩,
  ⟨(some 9), none, .ext (.t 5) 1⟩,
  ⟨(some 1), none, .mv (.t 8)⟩,
  ⟨(some 2), none, .mv (.t 9)⟩]
@[go_sem] def l5e : List XO := [
  ⟨(some 11), none, .call "newel/newellaw06.Example" []⟩,
  ⟨(some 12), none, .call "newel/halls.Over" [(.t 11)]⟩,
  ⟨(some 10), none, .mv (.t 12)⟩,
  ⟨(some 13), none, .ext (.t 10) 0⟩,
  ⟨(some 14), none, .ext (.t 10) 1⟩,
  ⟨(some 3), none, .mv (.t 13)⟩,
  ⟨(some 4), none, .mv (.t 14)⟩]
@[go_sem] def l5f : List XO := [
  ⟨(some 15), none, .mv (.t 2)⟩,
  ⟨(some 16), none, .bin .eql .no (.t 15) (.c (.int .i64 0))⟩,
  ⟨(some 17), none, .mv (.t 16)⟩,
  ⟨(some 18), (some (17, true)), .mv (.t 4)⟩,
  ⟨(some 19), (some (17, true)), .bin .eql .no (.t 18) (.c (.int .i64 0))⟩,
  ⟨(some 20), none, .pick (.t 17) (.t 19) (.c (.bool false))⟩,
  ⟨(some 21), none, .mv (.t 20)⟩,
  ⟨(some 22), (some (21, true)), .mv (.t 1)⟩,
  ⟨(some 23), (some (21, true)), .bin .eql .no (.t 22) (.c (.int .i64 1))⟩,
  ⟨(some 24), none, .pick (.t 21) (.t 23) (.c (.bool false))⟩,
  ⟨(some 25), none, .mv (.t 24)⟩,
  ⟨(some 26), (some (25, true)), .mv (.t 3)⟩,
  ⟨(some 27), (some (25, true)), .len false (.t 26)⟩,
  ⟨(some 28), (some (25, true)), .bin .eql .no (.t 27) (.c (.int .i64 1))⟩,
  ⟨(some 29), none, .pick (.t 25) (.t 28) (.c (.bool false))⟩,
  ⟨(some 30), none, .mv (.t 29)⟩,
  ⟨(some 31), (some (30, true)), .mv (.t 3)⟩,
  ⟨(some 32), (some (30, true)), .ixA 2 (.t 31) (.c (.int .i64 0))⟩,
  ⟨(some 33), (some (30, true)), .load true 2 (.t 32)⟩,
  ⟨(some 34), (some (30, true)), .build [(.int .i64 0), (.int .i64 0)] [(0, 1, (.c (.int .i64 1))), (1, 1, (.c (.int .i64 7)))]⟩,
  ⟨(some 35), (some (30, true)), .bin .eql (.flat [.i, .i]) (.t 33) (.t 34)⟩,
  ⟨(some 36), none, .pick (.t 30) (.t 35) (.c (.bool false))⟩,
  ⟨(some 0), none, .mv (.t 36)⟩]
def x_l06_works : XFunc := { np := 0, res := [.t 0], body :=
  (.seq (.reg l5c) (.seq (.reg l5d) (.seq (.reg l5e) (.seq (.reg l5f) .ret)))) }
@[go_sem] def j8j : List XO := [
  ⟨(some 3), none, .boxF (.t 0)⟩,
  ⟨(some 6), none, .mv (.c (.int .i64 0))⟩,
  ⟨(some 7), none, .mv (.c (.int .i64 0))⟩]
@[go_sem] def j8k : List XO := [
  ⟨(some 11), none, .load true 4 (.tf 3)⟩,
  ⟨(some 12), none, .mv (.t 1)⟩,
  ⟨(some 13), none, .mv (.t 2)⟩,
  ⟨(some 14), none, .bsl 1 [(.t 13)]⟩,
  ⟨(some 15), none, .call "newel/halls.check" [(.t 11), (.t 12), (.t 14)]⟩,
  ⟨(some 8), none, .mv (.t 15)⟩]
@[go_sem] def j8n : List XO := [
  ⟨(some 16), none, .mv (.t 8)⟩,
  ⟨(some 17), none, .bin .neq .no (.t 16) (.c (.int .i64 0))⟩]
@[go_sem] def j8o : List XO := [
  ⟨(some 18), none, .mv (.t 8)⟩,
  ⟨(some 6), none, .mv (.c (.int .i64 0))⟩,
  ⟨(some 7), none, .mv (.t 18)⟩]
@[go_sem] def j8p : List XO := [
  ⟨(some 19), none, .load true 4 (.tf 3)⟩,
  ⟨(some 20), none, .callw "newel/halls.open" [(.t 19)]⟩,
  ⟨(some 9), none, .mv (.t 20)⟩]
@[go_sem] def j8q : List XO := [
  ⟨(some 10), none, .mv (.c (.int .i64 0))⟩]
@[go_sem] def j8r : List XO := [
  ⟨(some 23), none, .load true 4 (.tf 3)⟩,
  ⟨(some 24), none, .load true 4 (.tf 3)⟩,
  ⟨(some 25), none, .mv (.t 9)⟩,
  ⟨(some 26), none, .callw "newel/halls.bounds" [(.t 24), (.t 25)]⟩,
  ⟨(some 27), none, .call "newel/halls.over" [(.t 23), (.t 26)]⟩,
  ⟨(some 28), none, .len false (.t 27)⟩,
  ⟨(some 29), none, .bin .eql .no (.t 28) (.c (.int .i64 0))⟩]
@[go_sem] def j8s : List XO := [
  ⟨(some 30), none, .mv (.t 10)⟩,
  ⟨(some 6), none, .mv (.t 30)⟩,
  ⟨(some 7), none, .mv (.c (.int .i64 0))⟩]
@[go_sem] def j8t : List XO := [
  ⟨(some 31), none, .mv (.t 2)⟩,
  ⟨(some 32), none, .mv (.t 10)⟩,
  ⟨(some 33), none, .bin .add .no (.t 31) (.t 32)⟩,
  ⟨(some 34), none, .fldA 3 (.tf 3)⟩,
  ⟨(some 35), none, .load false 1 (.tf 34)⟩,
  ⟨(some 36), none, .bin .eql .no (.t 33) (.t 35)⟩]
@[go_sem] def j8u : List XO := [
  ⟨(some 6), none, .mv (.c (.int .i64 0))⟩,
  ⟨(some 7), none, .mv (.c (.int .i64 3))⟩]
@[go_sem] def j8l : List XO := [
  ⟨(some 37), none, .mv (.t 9)⟩,
  ⟨(some 38), none, .mv (.t 1)⟩,
  ⟨(some 39), none, .ixA 1 (.t 37) (.t 38)⟩,
  ⟨(some 40), none, .load false 1 (.t 39)⟩,
  ⟨(some 41), none, .mv (.t 2)⟩,
  ⟨(some 42), none, .mv (.t 10)⟩,
  ⟨(some 43), none, .bin .add .no (.t 41) (.t 42)⟩,
  ⟨(some 44), none, .ixA 1 (.t 40) (.t 43)⟩,
  ⟨none, none, .store 1 (.t 44) (.c (.int .i64 0))⟩]
@[go_sem] def j8m : List XO := [
  ⟨(some 21), none, .mv (.t 10)⟩,
  ⟨(some 22), none, .bin .add .no (.t 21) (.c (.int .i64 1))⟩,
  ⟨(some 10), none, .mv (.t 22)⟩]
def d9z : XCode :=
  (.seq (.block 1 (.seq (.seq (.reg j8r) (.cond (.t 29) (.seq (.reg j8s) .ret) .skip)) (.seq (.seq (.reg j8t) (.cond (.t 36) (.seq (.reg j8u) .ret) .skip)) (.reg j8l)))) (.reg j8m))
def x_halls_Guard : XFunc := { np := 3, res := [.t 6, .t 7], body :=
  (.seq (.reg j8j) (.seq (.seq (.reg j8k) (.seq (.reg j8n) (.cond (.t 17) (.seq (.reg j8o) .ret) .skip))) (.seq (.reg j8p) (.seq (.reg j8q) (.block 0 (.loop d9z)))))) }
@[go_sem] def j8v : List XO := [
  ⟨(some 1), none, .boxF (.t 0)⟩,
  ⟨(some 2), none, .mv (.c (.slice none 0 0))⟩,
  ⟨(some 3), none, .mv (.c (.int .i64 0))⟩]
@[go_sem] def j8w : List XO := [
  ⟨(some 5), none, .load true 4 (.tf 1)⟩,
  ⟨(some 6), none, .call "newel/halls.Check" [(.t 5)]⟩,
  ⟨(some 4), none, .mv (.t 6)⟩]
@[go_sem] def j8x : List XO := [
  ⟨(some 7), none, .mv (.t 4)⟩,
  ⟨(some 8), none, .bin .neq .no (.t 7) (.c (.int .i64 0))⟩]
@[go_sem] def j8y : List XO := [
  ⟨(some 9), none, .mv (.t 4)⟩,
  ⟨(some 2), none, .mv (.c (.slice none 0 0))⟩,
  ⟨(some 3), none, .mv (.t 9)⟩]
@[go_sem] def j8z : List XO := [
  ⟨(some 10), none, .load true 4 (.tf 1)⟩,
  ⟨(some 11), none, .load true 4 (.tf 1)⟩,
  ⟨(some 12), none, .load true 4 (.tf 1)⟩,
  ⟨(some 13), none, .call "newel/halls.open" [(.t 12)]⟩,
  ⟨(some 14), none, .call "newel/halls.bounds" [(.t 11), (.t 13)]⟩,
  ⟨(some 15), none, .call "newel/halls.over" [(.t 10), (.t 14)]⟩,
  ⟨(some 2), none, .mv (.t 15)⟩,
  ⟨(some 3), none, .mv (.c (.int .i64 0))⟩]
def x_halls_Over : XFunc := { np := 1, res := [.t 2, .t 3], body :=
  (.seq (.reg j8v) (.seq (.seq (.reg j8w) (.seq (.reg j8x) (.cond (.t 8) (.seq (.reg j8y) .ret) .skip))) (.seq (.reg j8z) .ret))) }
@[go_sem] def l8a : List XO := [
  ⟨(some 4), none, .mv (.c (.bool false))⟩]
@[go_sem] def l8b : List XO := [
  ⟨(some 6), none, .mv (.t 0)⟩,
  ⟨(some 7), none, .len false (.t 6)⟩,
  ⟨(some 8), none, .mv (.t 1)⟩,
  ⟨(some 9), none, .len false (.t 8)⟩,
  ⟨(some 10), none, .bin .neq .no (.t 7) (.t 9)⟩]
@[go_sem] def l8c : List XO := [
  ⟨(some 4), none, .mv (.c (.bool false))⟩]
@[go_sem] def l8d : List XO := [
  ⟨(some 5), none, .mv (.c (.int .i64 0))⟩]
@[go_sem] def l8e : List XO := [
  ⟨(some 11), none, .mv (.t 5)⟩,
  ⟨(some 12), none, .mv (.t 0)⟩,
  ⟨(some 13), none, .len false (.t 12)⟩,
  ⟨(some 14), none, .bin .lss .no (.t 11) (.t 13)⟩]
@[go_sem] def l8f : List XO := [
  ⟨(some 17), none, .mv (.t 0)⟩,
  ⟨(some 18), none, .mv (.t 5)⟩,
  ⟨(some 19), none, .ixA 1 (.t 17) (.t 18)⟩,
  ⟨(some 20), none, .load false 1 (.t 19)⟩,
  ⟨(some 21), none, .mv (.t 1)⟩,
  ⟨(some 22), none, .mv (.t 5)⟩,
  ⟨(some 23), none, .ixA 1 (.t 21) (.t 22)⟩,
  ⟨(some 24), none, .load false 1 (.t 23)⟩,
  ⟨(some 25), none, .bin .neq .no (.t 20) (.t 24)⟩]
@[go_sem] def l8g : List XO := [
  ⟨(some 4), none, .mv (.c (.bool false))⟩]
@[go_sem] def l8h : List XO := [
  ⟨(some 15), none, .mv (.t 5)⟩,
  ⟨(some 16), none, .bin .add .no (.t 15) (.c (.int .i64 1))⟩,
  ⟨(some 5), none, .mv (.t 16)⟩]
def g0w : XCode :=
  (.seq (.seq (.reg l8e) (.cond (.t 14) .skip (.exit 0))) (.seq (.block 1 (.seq (.reg l8f) (.cond (.t 25) (.seq (.reg l8g) .ret) .skip))) (.reg l8h)))
@[go_sem] def l8i : List XO := [
  ⟨(some 4), none, .mv (.c (.bool true))⟩]
def x_r06_Same : XFunc := { np := 2, res := [.t 4], body :=
  (.seq (.reg l8a) (.seq (.seq (.reg l8b) (.cond (.t 10) (.seq (.reg l8c) .ret) .skip)) (.seq (.seq (.reg l8d) (.block 0 (.loop g0w))) (.seq (.reg l8i) .ret)))) }
@[go_sem] def l4p : List XO := [
  ⟨(some 1), none, .boxF (.t 0)⟩,
  ⟨(some 2), none, .mv (.c (.bool false))⟩]
@[go_sem] def l4q : List XO := [
  ⟨(some 5), none, .fldA 0 (.tf 1)⟩,
  ⟨(some 6), none, .load false 1 (.tf 5)⟩,
  ⟨(some 7), none, .len false (.t 6)⟩,
  ⟨(some 8), none, .bin .gtr .no (.t 7) (.c (.int .i64 20))⟩,
  ⟨(some 9), none, .mv (.t 8)⟩,
  ⟨(some 10), (some (9, false)), .fldA 1 (.tf 1)⟩,
  ⟨(some 11), (some (9, false)), .load false 1 (.tf 10)⟩,
  ⟨(some 12), (some (9, false)), .len false (.t 11)⟩,
  ⟨(some 13), (some (9, false)), .bin .gtr .no (.t 12) (.c (.int .i64 20))⟩,
  ⟨(some 14), none, .pick (.t 9) (.c (.bool true)) (.t 13)⟩,
  ⟨(some 15), none, .mv (.t 14)⟩,
  ⟨(some 16), (some (15, false)), .fldA 2 (.tf 1)⟩,
  ⟨(some 17), (some (15, false)), .load false 1 (.tf 16)⟩,
  ⟨(some 18), (some (15, false)), .len false (.t 17)⟩,
  ⟨(some 19), (some (15, false)), .bin .gtr .no (.t 18) (.c (.int .i64 20))⟩,
  ⟨(some 20), none, .pick (.t 15) (.c (.bool true)) (.t 19)⟩]
@[go_sem] def l4w : List XO := [
  ⟨(some 2), none, .mv (.c (.bool true))⟩]
@[go_sem] def l4x : List XO := [
  ⟨(some 3), none, .mv (.c (.int .i64 0))⟩]
@[go_sem] def l4y : List XO := [
  ⟨(some 21), none, .mv (.t 3)⟩,
  ⟨(some 22), none, .fldA 1 (.tf 1)⟩,
  ⟨(some 23), none, .load false 1 (.tf 22)⟩,
  ⟨(some 24), none, .len false (.t 23)⟩,
  ⟨(some 25), none, .bin .lss .no (.t 21) (.t 24)⟩]
@[go_sem] def l4z : List XO := [
  ⟨(some 28), none, .fldA 1 (.tf 1)⟩,
  ⟨(some 29), none, .load false 1 (.tf 28)⟩,
  ⟨(some 30), none, .mv (.t 3)⟩,
  ⟨(some 31), none, .ixA 1 (.t 29) (.t 30)⟩,
  ⟨(some 32), none, .load false 1 (.t 31)⟩,
  ⟨(some 33), none, .len false (.t 32)⟩,
  ⟨(some 34), none, .bin .gtr .no (.t 33) (.c (.int .i64 10))⟩]
@[go_sem] def l40 : List XO := [
  ⟨(some 2), none, .mv (.c (.bool true))⟩]
@[go_sem] def l41 : List XO := [
  ⟨(some 26), none, .mv (.t 3)⟩,
  ⟨(some 27), none, .bin .add .no (.t 26) (.c (.int .i64 1))⟩,
  ⟨(some 3), none, .mv (.t 27)⟩]
def g0h : XCode :=
  (.seq (.seq (.reg l4y) (.cond (.t 25) .skip (.exit 0))) (.seq (.block 1 (.seq (.reg l4z) (.cond (.t 34) (.seq (.reg l40) .ret) .skip))) (.reg l41)))
@[go_sem] def l42 : List XO := [
  ⟨(some 4), none, .mv (.c (.int .i64 0))⟩]
@[go_sem] def l4r : List XO := [
  ⟨(some 35), none, .mv (.t 4)⟩,
  ⟨(some 36), none, .fldA 2 (.tf 1)⟩,
  ⟨(some 37), none, .load false 1 (.tf 36)⟩,
  ⟨(some 38), none, .len false (.t 37)⟩,
  ⟨(some 39), none, .bin .lss .no (.t 35) (.t 38)⟩]
@[go_sem] def l4s : List XO := [
  ⟨(some 42), none, .fldA 2 (.tf 1)⟩,
  ⟨(some 43), none, .load false 1 (.tf 42)⟩,
  ⟨(some 44), none, .mv (.t 4)⟩,
  ⟨(some 45), none, .ixA 1 (.t 43) (.t 44)⟩,
  ⟨(some 46), none, .load false 1 (.t 45)⟩,
  ⟨(some 47), none, .len false (.t 46)⟩,
  ⟨(some 48), none, .bin .gtr .no (.t 47) (.c (.int .i64 30))⟩]
@[go_sem] def l4t : List XO := [
  ⟨(some 2), none, .mv (.c (.bool true))⟩]
@[go_sem] def l4u : List XO := [
  ⟨(some 40), none, .mv (.t 4)⟩,
  ⟨(some 41), none, .bin .add .no (.t 40) (.c (.int .i64 1))⟩,
  ⟨(some 4), none, .mv (.t 41)⟩]
def g0g : XCode :=
  (.seq (.seq (.reg l4r) (.cond (.t 39) .skip (.exit 2))) (.seq (.block 3 (.seq (.reg l4s) (.cond (.t 48) (.seq (.reg l4t) .ret) .skip))) (.reg l4u)))
@[go_sem] def l4v : List XO := [
  ⟨(some 2), none, .mv (.c (.bool false))⟩]
def x_l06_farDay : XFunc := { np := 1, res := [.t 2], body :=
  (.seq (.reg l4p) (.seq (.seq (.reg l4q) (.cond (.t 20) (.seq (.reg l4w) .ret) .skip)) (.seq (.seq (.reg l4x) (.block 0 (.loop g0h))) (.seq (.seq (.reg l42) (.block 2 (.loop g0g))) (.seq (.reg l4v) .ret))))) }
@[go_sem] def j96 : List XO := [
  ⟨(some 2), none, .boxF (.t 0)⟩,
  ⟨(some 4), none, .mv (.c (.slice none 0 0))⟩,
  ⟨(some 5), none, .mv (.c (.int .i64 0))⟩]
@[go_sem] def j97 : List XO := [
  ⟨(some 7), none, .load true 4 (.tf 2)⟩,
  ⟨(some 8), none, .mv (.t 1)⟩,
  ⟨(some 9), none, .call "newel/halls.check" [(.t 7), (.t 8), (.c (.slice none 0 0))]⟩,
  ⟨(some 6), none, .mv (.t 9)⟩]
@[go_sem] def j98 : List XO := [
  ⟨(some 10), none, .mv (.t 6)⟩,
  ⟨(some 11), none, .bin .neq .no (.t 10) (.c (.int .i64 0))⟩]
@[go_sem] def j99 : List XO := [
  ⟨(some 12), none, .mv (.t 6)⟩,
  ⟨(some 4), none, .mv (.c (.slice none 0 0))⟩,
  ⟨(some 5), none, .mv (.t 12)⟩]
@[go_sem] def l0a : List XO := [
  ⟨(some 13), none, .load true 4 (.tf 2)⟩,
  ⟨(some 14), none, .mv (.t 1)⟩,
  ⟨(some 15), none, .call "newel/halls.rates" [(.t 13), (.t 14)]⟩,
  ⟨(some 4), none, .mv (.t 15)⟩,
  ⟨(some 5), none, .mv (.c (.int .i64 0))⟩]
def x_halls_Rates : XFunc := { np := 2, res := [.t 4, .t 5], body :=
  (.seq (.reg j96) (.seq (.seq (.reg j97) (.seq (.reg j98) (.cond (.t 11) (.seq (.reg j99) .ret) .skip))) (.seq (.reg l0a) .ret))) }
@[go_sem] def l69 : List XO := [
  ⟨(some 2), none, .boxF (.t 0)⟩,
  ⟨(some 4), none, .mv (.c (.slice none 0 0))⟩,
  ⟨(some 5), none, .mv (.c (.int .i64 0))⟩]
@[go_sem] def l7a : List XO := [
  ⟨(some 6), none, .load true 4 (.tf 2)⟩,
  ⟨(some 7), none, .call "newel/newelref06.Check" [(.t 6)]⟩,
  ⟨(some 8), none, .bin .neq .no (.t 7) (.c (.int .i64 0))⟩]
@[go_sem] def l7b : List XO := [
  ⟨(some 4), none, .mv (.c (.slice none 0 0))⟩,
  ⟨(some 5), none, .mv (.c (.int .i64 60))⟩]
@[go_sem] def l7c : List XO := [
  ⟨(some 9), none, .load true 4 (.tf 2)⟩,
  ⟨(some 10), none, .mv (.t 1)⟩,
  ⟨(some 11), none, .call "newel/newelref06.comb" [(.t 9), (.t 10)]⟩,
  ⟨(some 12), none, .un .not (.t 11)⟩]
@[go_sem] def l7d : List XO := [
  ⟨(some 4), none, .mv (.c (.slice none 0 0))⟩,
  ⟨(some 5), none, .mv (.c (.int .i64 1))⟩]
@[go_sem] def l7e : List XO := [
  ⟨(some 13), none, .load true 4 (.tf 2)⟩,
  ⟨(some 14), none, .mv (.t 1)⟩,
  ⟨(some 15), none, .call "newel/newelref06.rates" [(.t 13), (.t 14)]⟩,
  ⟨(some 4), none, .mv (.t 15)⟩,
  ⟨(some 5), none, .mv (.c (.int .i64 0))⟩]
def x_r06_Rates : XFunc := { np := 2, res := [.t 4, .t 5], body :=
  (.seq (.reg l69) (.seq (.seq (.reg l7a) (.cond (.t 8) (.seq (.reg l7b) .ret) .skip)) (.seq (.seq (.reg l7c) (.cond (.t 12) (.seq (.reg l7d) .ret) .skip)) (.seq (.reg l7e) .ret)))) }
@[go_sem] def j80 : List XO := [
  ⟨(some 2), none, .boxF (.t 0)⟩,
  ⟨(some 3), none, .boxF (.t 1)⟩,
  ⟨(some 4), none, .mv (.c (.slice none 0 0))⟩,
  ⟨(some 5), none, .mv (.c (.int .i64 0))⟩]
@[go_sem] def j81 : List XO := [
  ⟨(some 21), none, .load true 4 (.tf 2)⟩,
  ⟨(some 22), none, .call "newel/halls.Check" [(.t 21)]⟩,
  ⟨(some 6), none, .mv (.t 22)⟩]
@[go_sem] def j9b : List XO := [
  ⟨(some 23), none, .mv (.t 6)⟩,
  ⟨(some 24), none, .bin .neq .no (.t 23) (.c (.int .i64 0))⟩]
@[go_sem] def j9j : List XO := [
  ⟨(some 25), none, .mv (.t 6)⟩,
  ⟨(some 4), none, .mv (.c (.slice none 0 0))⟩,
  ⟨(some 5), none, .mv (.t 25)⟩]
@[go_sem] def j9u : List XO := [
  ⟨(some 26), none, .load true 4 (.tf 2)⟩,
  ⟨(some 27), none, .load true 3 (.tf 3)⟩,
  ⟨(some 28), none, .call "newel/halls.isDay" [(.t 26), (.t 27)]⟩,
  ⟨(some 29), none, .un .not (.t 28)⟩]
@[go_sem] def j91 : List XO := [
  ⟨(some 4), none, .mv (.c (.slice none 0 0))⟩,
  ⟨(some 5), none, .mv (.c (.int .i64 61))⟩]
@[go_sem] def j92 : List XO := [
  ⟨(some 7), none, .mv (.c (.slice none 0 0))⟩]
@[go_sem] def j93 : List XO := [
  ⟨(some 30), none, .fldA 3 (.tf 2)⟩,
  ⟨(some 31), none, .load false 1 (.tf 30)⟩,
  ⟨(some 32), none, .mv (.c (.int .i64 0))⟩]
@[go_sem] def j94 : List XO := [
  ⟨(some 33), none, .bin .lss .no (.t 32) (.t 31)⟩]
@[go_sem] def j95 : List XO := [
  ⟨(some 34), none, .mv (.t 7)⟩,
  ⟨(some 35), none, .fldA 0 (.tf 2)⟩,
  ⟨(some 36), none, .load false 1 (.tf 35)⟩,
  ⟨(some 37), none, .len false (.t 36)⟩,
  ⟨(some 38), none, .mksl 1 [(.int .i64 0)] 8 (.t 37) (.t 37)⟩,
  ⟨(some 39), none, .bsl 1 [(.t 38)]⟩,
  ⟨(some 40), none, .app 1 24 (.t 34) (.t 39)⟩,
  ⟨(some 7), none, .mv (.t 40)⟩]
@[go_sem] def j82 : List XO := [
  ⟨(some 41), none, .bin .add .no (.t 32) (.c (.int .i64 1))⟩,
  ⟨(some 32), none, .mv (.t 41)⟩]
def d90 : XCode :=
  (.seq (.reg j94) (.seq (.cond (.t 33) .skip (.exit 0)) (.seq (.block 1 (.reg j95)) (.reg j82))))
@[go_sem] def j83 : List XO := [
  ⟨(some 42), none, .fldA 1 (.tf 2)⟩,
  ⟨(some 43), none, .load false 1 (.tf 42)⟩,
  ⟨(some 44), none, .len false (.t 43)⟩,
  ⟨(some 45), none, .mv (.c (.int .i64 0))⟩]
@[go_sem] def j84 : List XO := [
  ⟨(some 46), none, .bin .lss .no (.t 45) (.t 44)⟩]
@[go_sem] def j85 : List XO := [
  ⟨(some 47), none, .mv (.t 45)⟩,
  ⟨(some 48), none, .ixA 3 (.t 43) (.t 45)⟩,
  ⟨(some 49), none, .load true 3 (.t 48)⟩,
  ⟨(some 9), none, .alloc [(.int .i64 0), (.int .i64 0), (.slice none 0 0)]⟩,
  ⟨(some 8), none, .mv (.t 47)⟩,
  ⟨none, none, .store 3 (.t 9) (.t 49)⟩]
@[go_sem] def j86 : List XO := [
  ⟨(some 50), none, .fldA 2 (.t 9)⟩,
  ⟨(some 51), none, .load false 1 (.t 50)⟩,
  ⟨(some 52), none, .len false (.t 51)⟩,
  ⟨(some 53), none, .mv (.c (.int .i64 0))⟩]
@[go_sem] def j87 : List XO := [
  ⟨(some 54), none, .bin .lss .no (.t 53) (.t 52)⟩]
@[go_sem] def j88 : List XO := [
  ⟨(some 55), none, .mv (.t 53)⟩,
  ⟨(some 56), none, .ixA 3 (.t 51) (.t 53)⟩,
  ⟨(some 57), none, .load true 3 (.t 56)⟩,
  ⟨(some 11), none, .alloc [(.int .i64 0), (.int .i64 0), (.int .i64 0)]⟩,
  ⟨(some 10), none, .mv (.t 55)⟩,
  ⟨none, none, .store 3 (.t 11) (.t 57)⟩]
@[go_sem] def j89 : List XO := [
  ⟨(some 58), none, .mv (.t 7)⟩,
  ⟨(some 59), none, .fldA 0 (.tf 3)⟩,
  ⟨(some 60), none, .load false 1 (.tf 59)⟩,
  ⟨(some 61), none, .mv (.t 8)⟩,
  ⟨(some 62), none, .ixA 1 (.t 60) (.t 61)⟩,
  ⟨(some 63), none, .load false 1 (.t 62)⟩,
  ⟨(some 64), none, .ixA 1 (.t 58) (.t 63)⟩,
  ⟨(some 65), none, .load false 1 (.t 64)⟩,
  ⟨(some 66), none, .fldA 0 (.t 11)⟩,
  ⟨(some 67), none, .load false 1 (.t 66)⟩,
  ⟨(some 68), none, .ixA 1 (.t 65) (.t 67)⟩,
  ⟨(some 69), none, .load false 1 (.t 68)⟩,
  ⟨(some 70), none, .fldA 1 (.tf 3)⟩,
  ⟨(some 71), none, .load false 1 (.tf 70)⟩,
  ⟨(some 72), none, .mv (.t 8)⟩,
  ⟨(some 73), none, .ixA 1 (.t 71) (.t 72)⟩,
  ⟨(some 74), none, .load false 1 (.t 73)⟩,
  ⟨(some 75), none, .mv (.t 10)⟩,
  ⟨(some 76), none, .ixA 1 (.t 74) (.t 75)⟩,
  ⟨(some 77), none, .load false 1 (.t 76)⟩,
  ⟨(some 78), none, .bin .add .no (.t 69) (.t 77)⟩,
  ⟨(some 79), none, .ixA 1 (.t 65) (.t 67)⟩,
  ⟨none, none, .store 1 (.t 79) (.t 78)⟩]
@[go_sem] def j9a : List XO := [
  ⟨(some 80), none, .bin .add .no (.t 53) (.c (.int .i64 1))⟩,
  ⟨(some 53), none, .mv (.t 80)⟩]
def d91 : XCode :=
  (.seq (.reg j87) (.seq (.cond (.t 54) .skip (.exit 4)) (.seq (.block 5 (.seq (.reg j88) (.reg j89))) (.reg j9a))))
@[go_sem] def j9c : List XO := [
  ⟨(some 81), none, .bin .add .no (.t 45) (.c (.int .i64 1))⟩,
  ⟨(some 45), none, .mv (.t 81)⟩]
def d92 : XCode :=
  (.seq (.reg j84) (.seq (.cond (.t 46) .skip (.exit 2)) (.seq (.block 3 (.seq (.reg j85) (.seq (.reg j86) (.block 4 (.loop d91))))) (.reg j9c))))
@[go_sem] def j9d : List XO := [
  ⟨(some 82), none, .fldA 0 (.tf 2)⟩,
  ⟨(some 83), none, .load false 1 (.tf 82)⟩,
  ⟨(some 84), none, .len false (.t 83)⟩,
  ⟨(some 85), none, .mksl 1 [(.slice none 0 0)] 24 (.t 84) (.t 84)⟩,
  ⟨(some 12), none, .mv (.t 85)⟩]
@[go_sem] def j9e : List XO := [
  ⟨(some 86), none, .fldA 0 (.tf 2)⟩,
  ⟨(some 87), none, .load false 1 (.tf 86)⟩,
  ⟨(some 88), none, .len false (.t 87)⟩,
  ⟨(some 89), none, .mv (.c (.int .i64 0))⟩]
@[go_sem] def j9f : List XO := [
  ⟨(some 90), none, .bin .lss .no (.t 89) (.t 88)⟩]
@[go_sem] def j9g : List XO := [
  ⟨(some 91), none, .mv (.t 89)⟩,
  ⟨(some 13), none, .mv (.t 91)⟩]
@[go_sem] def j9h : List XO := [
  ⟨(some 92), none, .mv (.t 12)⟩,
  ⟨(some 93), none, .mv (.t 13)⟩,
  ⟨(some 94), none, .load true 4 (.tf 2)⟩,
  ⟨(some 95), none, .mv (.t 13)⟩,
  ⟨(some 96), none, .call "newel/halls.rates" [(.t 94), (.t 95)]⟩,
  ⟨(some 97), none, .ixA 1 (.t 92) (.t 93)⟩,
  ⟨none, none, .store 1 (.t 97) (.t 96)⟩]
@[go_sem] def j9i : List XO := [
  ⟨(some 98), none, .bin .add .no (.t 89) (.c (.int .i64 1))⟩,
  ⟨(some 89), none, .mv (.t 98)⟩]
def d93 : XCode :=
  (.seq (.reg j9f) (.seq (.cond (.t 90) .skip (.exit 6)) (.seq (.block 7 (.seq (.reg j9g) (.reg j9h))) (.reg j9i))))
@[go_sem] def j9k : List XO := [
  ⟨(some 99), none, .mv (.t 7)⟩,
  ⟨(some 100), none, .len false (.t 99)⟩,
  ⟨(some 101), none, .mv (.c (.int .i64 0))⟩]
@[go_sem] def j9l : List XO := [
  ⟨(some 102), none, .bin .lss .no (.t 101) (.t 100)⟩]
@[go_sem] def j9m : List XO := [
  ⟨(some 103), none, .mv (.t 101)⟩,
  ⟨(some 104), none, .ixA 1 (.t 99) (.t 101)⟩,
  ⟨(some 105), none, .load false 1 (.t 104)⟩,
  ⟨(some 14), none, .mv (.t 103)⟩,
  ⟨(some 15), none, .mv (.t 105)⟩]
@[go_sem] def j9n : List XO := [
  ⟨(some 106), none, .mv (.t 15)⟩,
  ⟨(some 107), none, .len false (.t 106)⟩,
  ⟨(some 108), none, .mv (.c (.int .i64 0))⟩]
@[go_sem] def j9o : List XO := [
  ⟨(some 109), none, .bin .lss .no (.t 108) (.t 107)⟩]
@[go_sem] def j9p : List XO := [
  ⟨(some 110), none, .mv (.t 108)⟩,
  ⟨(some 111), none, .ixA 1 (.t 106) (.t 108)⟩,
  ⟨(some 112), none, .load false 1 (.t 111)⟩,
  ⟨(some 16), none, .mv (.t 110)⟩,
  ⟨(some 17), none, .mv (.t 112)⟩]
@[go_sem] def j9q : List XO := [
  ⟨(some 113), none, .mv (.t 17)⟩,
  ⟨(some 114), none, .mv (.t 12)⟩,
  ⟨(some 115), none, .mv (.t 16)⟩,
  ⟨(some 116), none, .ixA 1 (.t 114) (.t 115)⟩,
  ⟨(some 117), none, .load false 1 (.t 116)⟩,
  ⟨(some 118), none, .mv (.t 14)⟩,
  ⟨(some 119), none, .ixA 1 (.t 117) (.t 118)⟩,
  ⟨(some 120), none, .load false 1 (.t 119)⟩,
  ⟨(some 121), none, .min [(.t 113), (.t 120)]⟩,
  ⟨(some 18), none, .mv (.t 121)⟩]
@[go_sem] def j9r : List XO := [
  ⟨(some 122), none, .mv (.t 14)⟩,
  ⟨(some 123), none, .bin .add .no (.t 122) (.c (.int .i64 1))⟩,
  ⟨(some 124), none, .fldA 3 (.tf 2)⟩,
  ⟨(some 125), none, .load false 1 (.tf 124)⟩,
  ⟨(some 126), none, .bin .lss .no (.t 123) (.t 125)⟩]
@[go_sem] def j9s : List XO := [
  ⟨(some 127), none, .mv (.t 7)⟩,
  ⟨(some 128), none, .mv (.t 14)⟩,
  ⟨(some 129), none, .bin .add .no (.t 128) (.c (.int .i64 1))⟩,
  ⟨(some 130), none, .ixA 1 (.t 127) (.t 129)⟩,
  ⟨(some 131), none, .load false 1 (.t 130)⟩,
  ⟨(some 132), none, .mv (.t 16)⟩,
  ⟨(some 133), none, .ixA 1 (.t 131) (.t 132)⟩,
  ⟨(some 134), none, .load false 1 (.t 133)⟩,
  ⟨(some 135), none, .mv (.t 17)⟩,
  ⟨(some 136), none, .mv (.t 18)⟩,
  ⟨(some 137), none, .bin .sub .no (.t 135) (.t 136)⟩,
  ⟨(some 138), none, .bin .add .no (.t 134) (.t 137)⟩,
  ⟨(some 139), none, .ixA 1 (.t 131) (.t 132)⟩,
  ⟨none, none, .store 1 (.t 139) (.t 138)⟩]
@[go_sem] def j9t : List XO := [
  ⟨(some 140), none, .fldA 2 (.tf 3)⟩,
  ⟨(some 141), none, .load false 1 (.tf 140)⟩,
  ⟨(some 142), none, .mv (.t 16)⟩,
  ⟨(some 143), none, .ixA 1 (.t 141) (.t 142)⟩,
  ⟨(some 144), none, .load false 1 (.t 143)⟩,
  ⟨(some 145), none, .mv (.t 14)⟩,
  ⟨(some 146), none, .fldA 2 (.tf 3)⟩,
  ⟨(some 147), none, .load false 1 (.tf 146)⟩,
  ⟨(some 148), none, .mv (.t 16)⟩,
  ⟨(some 149), none, .ixA 1 (.t 147) (.t 148)⟩,
  ⟨(some 150), none, .load false 1 (.t 149)⟩,
  ⟨(some 151), none, .len false (.t 150)⟩,
  ⟨(some 152), none, .bin .rem .no (.t 145) (.t 151)⟩,
  ⟨(some 153), none, .ixA 1 (.t 144) (.t 152)⟩,
  ⟨(some 154), none, .load false 1 (.t 153)⟩,
  ⟨(some 19), none, .mv (.t 154)⟩]
@[go_sem] def j9v : List XO := [
  ⟨(some 155), none, .fldA 0 (.tf 2)⟩,
  ⟨(some 156), none, .load false 1 (.tf 155)⟩,
  ⟨(some 157), none, .mv (.t 16)⟩,
  ⟨(some 158), none, .ixA 5 (.t 156) (.t 157)⟩,
  ⟨(some 159), none, .fldA 2 (.t 158)⟩,
  ⟨(some 160), none, .load false 1 (.t 159)⟩,
  ⟨(some 20), none, .mv (.t 160)⟩]
@[go_sem] def j9w : List XO := [
  ⟨(some 161), none, .mv (.t 20)⟩,
  ⟨(some 162), none, .bin .geq .no (.t 161) (.c (.int .i64 0))⟩,
  ⟨(some 163), none, .mv (.t 162)⟩,
  ⟨(some 164), (some (163, true)), .mv (.t 14)⟩,
  ⟨(some 165), (some (163, true)), .mv (.t 19)⟩,
  ⟨(some 166), (some (163, true)), .bin .add .no (.t 164) (.t 165)⟩,
  ⟨(some 167), (some (163, true)), .fldA 3 (.tf 2)⟩,
  ⟨(some 168), (some (163, true)), .load false 1 (.tf 167)⟩,
  ⟨(some 169), (some (163, true)), .bin .lss .no (.t 166) (.t 168)⟩,
  ⟨(some 170), none, .pick (.t 163) (.t 169) (.c (.bool false))⟩]
@[go_sem] def j9x : List XO := [
  ⟨(some 171), none, .mv (.t 7)⟩,
  ⟨(some 172), none, .mv (.t 14)⟩,
  ⟨(some 173), none, .mv (.t 19)⟩,
  ⟨(some 174), none, .bin .add .no (.t 172) (.t 173)⟩,
  ⟨(some 175), none, .ixA 1 (.t 171) (.t 174)⟩,
  ⟨(some 176), none, .load false 1 (.t 175)⟩,
  ⟨(some 177), none, .mv (.t 20)⟩,
  ⟨(some 178), none, .ixA 1 (.t 176) (.t 177)⟩,
  ⟨(some 179), none, .load false 1 (.t 178)⟩,
  ⟨(some 180), none, .mv (.t 18)⟩,
  ⟨(some 181), none, .bin .add .no (.t 179) (.t 180)⟩,
  ⟨(some 182), none, .ixA 1 (.t 176) (.t 177)⟩,
  ⟨none, none, .store 1 (.t 182) (.t 181)⟩]
@[go_sem] def j9y : List XO := [
  ⟨(some 183), none, .bin .add .no (.t 108) (.c (.int .i64 1))⟩,
  ⟨(some 108), none, .mv (.t 183)⟩]
def d94 : XCode :=
  (.seq (.reg j9o) (.seq (.cond (.t 109) .skip (.exit 10)) (.seq (.block 11 (.seq (.reg j9p) (.seq (.reg j9q) (.seq (.seq (.reg j9r) (.cond (.t 126) (.reg j9s) .skip)) (.seq (.reg j9t) (.seq (.reg j9v) (.seq (.reg j9w) (.cond (.t 170) (.reg j9x) .skip)))))))) (.reg j9y))))
@[go_sem] def j9z : List XO := [
  ⟨(some 184), none, .bin .add .no (.t 101) (.c (.int .i64 1))⟩,
  ⟨(some 101), none, .mv (.t 184)⟩]
def d95 : XCode :=
  (.seq (.reg j9l) (.seq (.cond (.t 102) .skip (.exit 8)) (.seq (.block 9 (.seq (.reg j9m) (.seq (.reg j9n) (.block 10 (.loop d94))))) (.reg j9z))))
@[go_sem] def j90 : List XO := [
  ⟨(some 185), none, .mv (.t 7)⟩,
  ⟨(some 4), none, .mv (.t 185)⟩,
  ⟨(some 5), none, .mv (.c (.int .i64 0))⟩]
def x_halls_Play : XFunc := { np := 2, res := [.t 4, .t 5], body :=
  (.seq (.reg j80) (.seq (.seq (.reg j81) (.seq (.reg j9b) (.cond (.t 24) (.seq (.reg j9j) .ret) .skip))) (.seq (.seq (.reg j9u) (.cond (.t 29) (.seq (.reg j91) .ret) .skip)) (.seq (.reg j92) (.seq (.seq (.reg j93) (.block 0 (.loop d90))) (.seq (.seq (.reg j83) (.block 2 (.loop d92))) (.seq (.reg j9d) (.seq (.seq (.reg j9e) (.block 6 (.loop d93))) (.seq (.seq (.reg j9k) (.block 8 (.loop d95))) (.seq (.reg j90) .ret)))))))))) }
@[go_sem] def l61 : List XO := [
  ⟨(some 2), none, .boxF (.t 0)⟩,
  ⟨(some 3), none, .boxF (.t 1)⟩,
  ⟨(some 4), none, .mv (.c (.slice none 0 0))⟩,
  ⟨(some 5), none, .mv (.c (.int .i64 0))⟩]
@[go_sem] def l62 : List XO := [
  ⟨(some 9), none, .load true 4 (.tf 2)⟩,
  ⟨(some 10), none, .call "newel/newelref06.Check" [(.t 9)]⟩,
  ⟨(some 11), none, .bin .neq .no (.t 10) (.c (.int .i64 0))⟩]
@[go_sem] def l63 : List XO := [
  ⟨(some 4), none, .mv (.c (.slice none 0 0))⟩,
  ⟨(some 5), none, .mv (.c (.int .i64 60))⟩]
@[go_sem] def l64 : List XO := [
  ⟨(some 12), none, .load true 4 (.tf 2)⟩,
  ⟨(some 13), none, .load true 3 (.tf 3)⟩,
  ⟨(some 14), none, .call "newel/newelref06.Fits" [(.t 12), (.t 13)]⟩,
  ⟨(some 15), none, .un .not (.t 14)⟩]
@[go_sem] def l66 : List XO := [
  ⟨(some 4), none, .mv (.c (.slice none 0 0))⟩,
  ⟨(some 5), none, .mv (.c (.int .i64 61))⟩]
@[go_sem] def l67 : List XO := [
  ⟨(some 17), none, .load true 4 (.tf 2)⟩,
  ⟨(some 18), none, .load true 3 (.tf 3)⟩,
  ⟨(some 19), none, .call "newel/newelref06.Run" [(.t 17), (.t 18)]⟩,
  ⟨(some 16), none, .mv (.t 19)⟩,
  ⟨(some 20), none, .ext (.t 16) 0⟩,
  ⟨(some 21), none, .ext (.t 16) 1⟩,
  ⟨(some 22), none, .ext (.t 16) 2⟩,
  ⟨(some 6), none, .mv (.t 20)⟩,
  ⟨(some 7), none, .mv (.t 21)⟩,
  ⟨(some 8), none, .mv (.t 22)⟩]
@[go_sem] def l68 : List XO := [
  ⟨(some 23), none, .mv (.t 7)⟩,
  ⟨(some 4), none, .mv (.t 23)⟩,
  ⟨(some 5), none, .mv (.c (.int .i64 0))⟩]
def x_r06_Play : XFunc := { np := 2, res := [.t 4, .t 5], body :=
  (.seq (.reg l61) (.seq (.seq (.reg l62) (.cond (.t 11) (.seq (.reg l63) .ret) .skip)) (.seq (.seq (.reg l64) (.cond (.t 15) (.seq (.reg l66) .ret) .skip)) (.seq (.reg l67) (.seq (.reg l68) .ret))))) }
@[go_sem] def j71 : List XO := [
  ⟨(some 1), none, .boxF (.t 0)⟩,
  ⟨(some 2), none, .mv (.c (.int .i64 0))⟩]
@[go_sem] def j72 : List XO := [
  ⟨(some 6), none, .fldA 3 (.tf 1)⟩,
  ⟨(some 7), none, .load false 1 (.tf 6)⟩,
  ⟨(some 8), none, .bin .lss .no (.t 7) (.c (.int .i64 1))⟩,
  ⟨(some 9), none, .mv (.t 8)⟩,
  ⟨(some 10), (some (9, false)), .fldA 3 (.tf 1)⟩,
  ⟨(some 11), (some (9, false)), .load false 1 (.tf 10)⟩,
  ⟨(some 12), (some (9, false)), .bin .gtr .no (.t 11) (.c (.int .i64 100))⟩,
  ⟨(some 13), none, .pick (.t 9) (.c (.bool true)) (.t 12)⟩,
  ⟨(some 14), none, .mv (.t 13)⟩,
  ⟨(some 15), (some (14, false)), .fldA 0 (.tf 1)⟩,
  ⟨(some 16), (some (14, false)), .load false 1 (.tf 15)⟩,
  ⟨(some 17), (some (14, false)), .len false (.t 16)⟩,
  ⟨(some 18), (some (14, false)), .bin .lss .no (.t 17) (.c (.int .i64 1))⟩,
  ⟨(some 19), none, .pick (.t 14) (.c (.bool true)) (.t 18)⟩,
  ⟨(some 20), none, .mv (.t 19)⟩,
  ⟨(some 21), (some (20, false)), .fldA 0 (.tf 1)⟩,
  ⟨(some 22), (some (20, false)), .load false 1 (.tf 21)⟩,
  ⟨(some 23), (some (20, false)), .len false (.t 22)⟩,
  ⟨(some 24), (some (20, false)), .bin .gtr .no (.t 23) (.c (.int .i64 8))⟩,
  ⟨(some 25), none, .pick (.t 20) (.c (.bool true)) (.t 24)⟩,
  ⟨(some 26), none, .mv (.t 25)⟩,
  ⟨(some 27), (some (26, false)), .fldA 1 (.tf 1)⟩,
  ⟨(some 28), (some (26, false)), .load false 1 (.tf 27)⟩,
  ⟨(some 29), (some (26, false)), .len false (.t 28)⟩,
  ⟨(some 30), (some (26, false)), .bin .gtr .no (.t 29) (.c (.int .i64 12))⟩,
  ⟨(some 31), none, .pick (.t 26) (.c (.bool true)) (.t 30)⟩,
  ⟨(some 32), none, .mv (.t 31)⟩,
  ⟨(some 33), (some (32, false)), .fldA 2 (.tf 1)⟩,
  ⟨(some 34), (some (32, false)), .load false 1 (.tf 33)⟩,
  ⟨(some 35), (some (32, false)), .len false (.t 34)⟩,
  ⟨(some 36), (some (32, false)), .bin .gtr .no (.t 35) (.c (.int .i64 20))⟩,
  ⟨(some 37), none, .pick (.t 32) (.c (.bool true)) (.t 36)⟩]
@[go_sem] def j8c : List XO := [
  ⟨(some 2), none, .mv (.c (.int .i64 60))⟩]
@[go_sem] def j8d : List XO := [
  ⟨(some 38), none, .fldA 0 (.tf 1)⟩,
  ⟨(some 39), none, .load false 1 (.tf 38)⟩,
  ⟨(some 40), none, .len false (.t 39)⟩,
  ⟨(some 41), none, .mv (.c (.int .i64 0))⟩]
@[go_sem] def j8e : List XO := [
  ⟨(some 42), none, .bin .lss .no (.t 41) (.t 40)⟩]
@[go_sem] def j8f : List XO := [
  ⟨(some 43), none, .mv (.t 41)⟩,
  ⟨(some 3), none, .mv (.t 43)⟩]
@[go_sem] def j8g : List XO := [
  ⟨(some 44), none, .load true 4 (.tf 1)⟩,
  ⟨(some 45), none, .mv (.t 3)⟩,
  ⟨(some 46), none, .call "newel/halls.isComb" [(.t 44), (.t 45)]⟩,
  ⟨(some 47), none, .un .not (.t 46)⟩]
@[go_sem] def j8h : List XO := [
  ⟨(some 2), none, .mv (.c (.int .i64 60))⟩]
@[go_sem] def j8i : List XO := [
  ⟨(some 48), none, .bin .add .no (.t 41) (.c (.int .i64 1))⟩,
  ⟨(some 41), none, .mv (.t 48)⟩]
def d9y : XCode :=
  (.seq (.reg j8e) (.seq (.cond (.t 42) .skip (.exit 0)) (.seq (.block 1 (.seq (.reg j8f) (.seq (.reg j8g) (.cond (.t 47) (.seq (.reg j8h) .ret) .skip)))) (.reg j8i))))
@[go_sem] def j73 : List XO := [
  ⟨(some 49), none, .fldA 1 (.tf 1)⟩,
  ⟨(some 50), none, .load false 1 (.tf 49)⟩,
  ⟨(some 51), none, .mkfn "newel/halls.Check$1" [] [(.t 1)]⟩,
  ⟨(some 52), none, .call "slices.ContainsFunc[[]newel/api.Train,newel/api.Train]" [(.t 50), (.t 51)]⟩]
@[go_sem] def j74 : List XO := [
  ⟨(some 2), none, .mv (.c (.int .i64 60))⟩]
@[go_sem] def j75 : List XO := [
  ⟨(some 53), none, .fldA 2 (.tf 1)⟩,
  ⟨(some 54), none, .load false 1 (.tf 53)⟩,
  ⟨(some 55), none, .len false (.t 54)⟩,
  ⟨(some 56), none, .mv (.c (.int .i64 0))⟩]
@[go_sem] def j76 : List XO := [
  ⟨(some 57), none, .bin .lss .no (.t 56) (.t 55)⟩]
@[go_sem] def j77 : List XO := [
  ⟨(some 58), none, .mv (.t 56)⟩,
  ⟨(some 59), none, .ixA 3 (.t 54) (.t 56)⟩,
  ⟨(some 60), none, .load true 3 (.t 59)⟩,
  ⟨(some 5), none, .alloc [(.int .i64 0), (.int .i64 0), (.int .i64 0)]⟩,
  ⟨(some 4), none, .mv (.t 58)⟩,
  ⟨none, none, .store 3 (.t 5) (.t 60)⟩]
@[go_sem] def j78 : List XO := [
  ⟨(some 61), none, .fldA 0 (.t 5)⟩,
  ⟨(some 62), none, .load false 1 (.t 61)⟩,
  ⟨(some 63), none, .bin .lss .no (.t 62) (.c (.int .i64 0))⟩,
  ⟨(some 64), none, .mv (.t 63)⟩,
  ⟨(some 65), (some (64, false)), .fldA 0 (.t 5)⟩,
  ⟨(some 66), (some (64, false)), .load false 1 (.t 65)⟩,
  ⟨(some 67), (some (64, false)), .fldA 3 (.tf 1)⟩,
  ⟨(some 68), (some (64, false)), .load false 1 (.tf 67)⟩,
  ⟨(some 69), (some (64, false)), .bin .geq .no (.t 66) (.t 68)⟩,
  ⟨(some 70), none, .pick (.t 64) (.c (.bool true)) (.t 69)⟩,
  ⟨(some 71), none, .mv (.t 70)⟩,
  ⟨(some 72), (some (71, false)), .mv (.t 4)⟩,
  ⟨(some 73), (some (71, false)), .bin .gtr .no (.t 72) (.c (.int .i64 0))⟩,
  ⟨(some 74), (some (71, false)), .mv (.t 73)⟩,
  ⟨(some 75), (some (74, true)), .fldA 0 (.t 5)⟩,
  ⟨(some 76), (some (74, true)), .load false 1 (.t 75)⟩,
  ⟨(some 77), (some (74, true)), .fldA 2 (.tf 1)⟩,
  ⟨(some 78), (some (74, true)), .load false 1 (.tf 77)⟩,
  ⟨(some 79), (some (74, true)), .mv (.t 4)⟩,
  ⟨(some 80), (some (74, true)), .bin .sub .no (.t 79) (.c (.int .i64 1))⟩,
  ⟨(some 81), (some (74, true)), .ixA 3 (.t 78) (.t 80)⟩,
  ⟨(some 82), (some (74, true)), .fldA 0 (.t 81)⟩,
  ⟨(some 83), (some (74, true)), .load false 1 (.t 82)⟩,
  ⟨(some 84), (some (74, true)), .bin .lss .no (.t 76) (.t 83)⟩,
  ⟨(some 85), (some (71, false)), .pick (.t 74) (.t 84) (.c (.bool false))⟩,
  ⟨(some 86), none, .pick (.t 71) (.c (.bool true)) (.t 85)⟩,
  ⟨(some 87), none, .mv (.t 86)⟩,
  ⟨(some 88), (some (87, false)), .fldA 1 (.t 5)⟩,
  ⟨(some 89), (some (87, false)), .load false 1 (.t 88)⟩,
  ⟨(some 90), (some (87, false)), .bin .lss .no (.t 89) (.c (.int .i64 0))⟩,
  ⟨(some 91), none, .pick (.t 87) (.c (.bool true)) (.t 90)⟩,
  ⟨(some 92), none, .mv (.t 91)⟩,
  ⟨(some 93), (some (92, false)), .fldA 1 (.t 5)⟩,
  ⟨(some 94), (some (92, false)), .load false 1 (.t 93)⟩,
  ⟨(some 95), (some (92, false)), .fldA 0 (.tf 1)⟩,
  ⟨(some 96), (some (92, false)), .load false 1 (.tf 95)⟩,
  ⟨(some 97), (some (92, false)), .len false (.t 96)⟩,
  ⟨(some 98), (some (92, false)), .bin .geq .no (.t 94) (.t 97)⟩,
  ⟨(some 99), none, .pick (.t 92) (.c (.bool true)) (.t 98)⟩,
  ⟨(some 100), none, .mv (.t 99)⟩,
  ⟨(some 101), (some (100, false)), .fldA 2 (.t 5)⟩,
  ⟨(some 102), (some (100, false)), .load false 1 (.t 101)⟩,
  ⟨(some 103), (some (100, false)), .build [(.int .i64 0), (.int .i64 0)] [(1, 1, (.c (.int .i64 1000)))]⟩,
  ⟨(some 104), (some (100, false)), .call "newel/halls.in" [(.t 102), (.t 103)]⟩,
  ⟨(some 105), (some (100, false)), .un .not (.t 104)⟩,
  ⟨(some 106), none, .pick (.t 100) (.c (.bool true)) (.t 105)⟩]
@[go_sem] def j79 : List XO := [
  ⟨(some 2), none, .mv (.c (.int .i64 60))⟩]
@[go_sem] def j8a : List XO := [
  ⟨(some 107), none, .bin .add .no (.t 56) (.c (.int .i64 1))⟩,
  ⟨(some 56), none, .mv (.t 107)⟩]
def d9x : XCode :=
  (.seq (.reg j76) (.seq (.cond (.t 57) .skip (.exit 2)) (.seq (.block 3 (.seq (.reg j77) (.seq (.reg j78) (.cond (.t 106) (.seq (.reg j79) .ret) .skip)))) (.reg j8a))))
@[go_sem] def j8b : List XO := [
  ⟨(some 2), none, .mv (.c (.int .i64 0))⟩]
def x_halls_Check : XFunc := { np := 1, res := [.t 2], body :=
  (.seq (.reg j71) (.seq (.seq (.reg j72) (.cond (.t 37) (.seq (.reg j8c) .ret) .skip)) (.seq (.seq (.reg j8d) (.block 0 (.loop d9y))) (.seq (.seq (.reg j73) (.cond (.t 52) (.seq (.reg j74) .ret) .skip)) (.seq (.seq (.reg j75) (.block 2 (.loop d9x))) (.seq (.reg j8b) .ret)))))) }
@[go_sem] def l43 : List XO := [
  ⟨(some 4), none, .mv (.c (.bool false))⟩]
@[go_sem] def l44 : List XO := [
  ⟨(some 6), none, .mv (.t 0)⟩,
  ⟨(some 7), none, .len false (.t 6)⟩,
  ⟨(some 8), none, .mv (.t 1)⟩,
  ⟨(some 9), none, .len false (.t 8)⟩,
  ⟨(some 10), none, .bin .neq .no (.t 7) (.t 9)⟩]
@[go_sem] def l45 : List XO := [
  ⟨(some 4), none, .mv (.c (.bool false))⟩]
@[go_sem] def l46 : List XO := [
  ⟨(some 5), none, .mv (.c (.int .i64 0))⟩]
@[go_sem] def l47 : List XO := [
  ⟨(some 11), none, .mv (.t 5)⟩,
  ⟨(some 12), none, .mv (.t 0)⟩,
  ⟨(some 13), none, .len false (.t 12)⟩,
  ⟨(some 14), none, .bin .lss .no (.t 11) (.t 13)⟩]
@[go_sem] def l48 : List XO := [
  ⟨(some 17), none, .mv (.t 0)⟩,
  ⟨(some 18), none, .mv (.t 5)⟩,
  ⟨(some 19), none, .ixA 1 (.t 17) (.t 18)⟩,
  ⟨(some 20), none, .load false 1 (.t 19)⟩,
  ⟨(some 21), none, .mv (.t 1)⟩,
  ⟨(some 22), none, .mv (.t 5)⟩,
  ⟨(some 23), none, .ixA 1 (.t 21) (.t 22)⟩,
  ⟨(some 24), none, .load false 1 (.t 23)⟩,
  ⟨(some 25), none, .call "newel/newelref06.Same" [(.t 20), (.t 24)]⟩,
  ⟨(some 26), none, .un .not (.t 25)⟩]
@[go_sem] def l49 : List XO := [
  ⟨(some 4), none, .mv (.c (.bool false))⟩]
@[go_sem] def l5a : List XO := [
  ⟨(some 15), none, .mv (.t 5)⟩,
  ⟨(some 16), none, .bin .add .no (.t 15) (.c (.int .i64 1))⟩,
  ⟨(some 5), none, .mv (.t 16)⟩]
def g0i : XCode :=
  (.seq (.seq (.reg l47) (.cond (.t 14) .skip (.exit 0))) (.seq (.block 1 (.seq (.reg l48) (.cond (.t 26) (.seq (.reg l49) .ret) .skip))) (.reg l5a)))
@[go_sem] def l5b : List XO := [
  ⟨(some 4), none, .mv (.c (.bool true))⟩]
def x_l06_sameRows : XFunc := { np := 2, res := [.t 4], body :=
  (.seq (.reg l43) (.seq (.seq (.reg l44) (.cond (.t 10) (.seq (.reg l45) .ret) .skip)) (.seq (.seq (.reg l46) (.block 0 (.loop g0i))) (.seq (.reg l5b) .ret)))) }
@[go_sem] def l6c : List XO := [
  ⟨(some 2), none, .boxF (.t 0)⟩,
  ⟨(some 3), none, .boxF (.t 1)⟩,
  ⟨(some 4), none, .mv (.c (.bool false))⟩]
@[go_sem] def l6d : List XO := [
  ⟨(some 10), none, .fldA 0 (.tf 3)⟩,
  ⟨(some 11), none, .load false 1 (.tf 10)⟩,
  ⟨(some 12), none, .len false (.t 11)⟩,
  ⟨(some 13), none, .fldA 1 (.tf 2)⟩,
  ⟨(some 14), none, .load false 1 (.tf 13)⟩,
  ⟨(some 15), none, .len false (.t 14)⟩,
  ⟨(some 16), none, .bin .neq .no (.t 12) (.t 15)⟩,
  ⟨(some 17), none, .mv (.t 16)⟩,
  ⟨(some 18), (some (17, false)), .fldA 1 (.tf 3)⟩,
  ⟨(some 19), (some (17, false)), .load false 1 (.tf 18)⟩,
  ⟨(some 20), (some (17, false)), .len false (.t 19)⟩,
  ⟨(some 21), (some (17, false)), .fldA 1 (.tf 2)⟩,
  ⟨(some 22), (some (17, false)), .load false 1 (.tf 21)⟩,
  ⟨(some 23), (some (17, false)), .len false (.t 22)⟩,
  ⟨(some 24), (some (17, false)), .bin .neq .no (.t 20) (.t 23)⟩,
  ⟨(some 25), none, .pick (.t 17) (.c (.bool true)) (.t 24)⟩,
  ⟨(some 26), none, .mv (.t 25)⟩,
  ⟨(some 27), (some (26, false)), .fldA 2 (.tf 3)⟩,
  ⟨(some 28), (some (26, false)), .load false 1 (.tf 27)⟩,
  ⟨(some 29), (some (26, false)), .len false (.t 28)⟩,
  ⟨(some 30), (some (26, false)), .fldA 0 (.tf 2)⟩,
  ⟨(some 31), (some (26, false)), .load false 1 (.tf 30)⟩,
  ⟨(some 32), (some (26, false)), .len false (.t 31)⟩,
  ⟨(some 33), (some (26, false)), .bin .neq .no (.t 29) (.t 32)⟩,
  ⟨(some 34), none, .pick (.t 26) (.c (.bool true)) (.t 33)⟩]
@[go_sem] def l6m : List XO := [
  ⟨(some 4), none, .mv (.c (.bool false))⟩]
@[go_sem] def l6u : List XO := [
  ⟨(some 5), none, .mv (.c (.int .i64 0))⟩]
@[go_sem] def l6v : List XO := [
  ⟨(some 35), none, .mv (.t 5)⟩,
  ⟨(some 36), none, .fldA 1 (.tf 2)⟩,
  ⟨(some 37), none, .load false 1 (.tf 36)⟩,
  ⟨(some 38), none, .len false (.t 37)⟩,
  ⟨(some 39), none, .bin .lss .no (.t 35) (.t 38)⟩]
@[go_sem] def l6w : List XO := [
  ⟨(some 42), none, .fldA 1 (.tf 2)⟩,
  ⟨(some 43), none, .load false 1 (.tf 42)⟩,
  ⟨(some 44), none, .mv (.t 5)⟩,
  ⟨(some 45), none, .ixA 3 (.t 43) (.t 44)⟩,
  ⟨(some 46), none, .load true 3 (.t 45)⟩,
  ⟨(some 6), none, .alloc [(.int .i64 0), (.int .i64 0), (.slice none 0 0)]⟩,
  ⟨none, none, .store 3 (.t 6) (.t 46)⟩]
@[go_sem] def l6x : List XO := [
  ⟨(some 47), none, .fldA 0 (.tf 3)⟩,
  ⟨(some 48), none, .load false 1 (.tf 47)⟩,
  ⟨(some 49), none, .mv (.t 5)⟩,
  ⟨(some 50), none, .ixA 1 (.t 48) (.t 49)⟩,
  ⟨(some 51), none, .load false 1 (.t 50)⟩,
  ⟨(some 52), none, .fldA 0 (.t 6)⟩,
  ⟨(some 53), none, .fldA 0 (.t 52)⟩,
  ⟨(some 54), none, .load false 1 (.t 53)⟩,
  ⟨(some 55), none, .fldA 0 (.t 6)⟩,
  ⟨(some 56), none, .fldA 1 (.t 55)⟩,
  ⟨(some 57), none, .load false 1 (.t 56)⟩,
  ⟨(some 58), none, .call "newel/newelref06.within" [(.t 51), (.t 54), (.t 57)]⟩,
  ⟨(some 59), none, .un .not (.t 58)⟩,
  ⟨(some 60), none, .mv (.t 59)⟩,
  ⟨(some 61), (some (60, false)), .fldA 1 (.tf 3)⟩,
  ⟨(some 62), (some (60, false)), .load false 1 (.tf 61)⟩,
  ⟨(some 63), (some (60, false)), .mv (.t 5)⟩,
  ⟨(some 64), (some (60, false)), .ixA 1 (.t 62) (.t 63)⟩,
  ⟨(some 65), (some (60, false)), .load false 1 (.t 64)⟩,
  ⟨(some 66), (some (60, false)), .len false (.t 65)⟩,
  ⟨(some 67), (some (60, false)), .fldA 2 (.t 6)⟩,
  ⟨(some 68), (some (60, false)), .load false 1 (.t 67)⟩,
  ⟨(some 69), (some (60, false)), .len false (.t 68)⟩,
  ⟨(some 70), (some (60, false)), .bin .neq .no (.t 66) (.t 69)⟩,
  ⟨(some 71), none, .pick (.t 60) (.c (.bool true)) (.t 70)⟩]
@[go_sem] def l6y : List XO := [
  ⟨(some 4), none, .mv (.c (.bool false))⟩]
@[go_sem] def l6z : List XO := [
  ⟨(some 7), none, .mv (.c (.int .i64 0))⟩]
@[go_sem] def l60 : List XO := [
  ⟨(some 72), none, .mv (.t 7)⟩,
  ⟨(some 73), none, .fldA 2 (.t 6)⟩,
  ⟨(some 74), none, .load false 1 (.t 73)⟩,
  ⟨(some 75), none, .len false (.t 74)⟩,
  ⟨(some 76), none, .bin .lss .no (.t 72) (.t 75)⟩]
@[go_sem] def l6e : List XO := [
  ⟨(some 79), none, .fldA 1 (.tf 3)⟩,
  ⟨(some 80), none, .load false 1 (.tf 79)⟩,
  ⟨(some 81), none, .mv (.t 5)⟩,
  ⟨(some 82), none, .ixA 1 (.t 80) (.t 81)⟩,
  ⟨(some 83), none, .load false 1 (.t 82)⟩,
  ⟨(some 84), none, .mv (.t 7)⟩,
  ⟨(some 85), none, .ixA 1 (.t 83) (.t 84)⟩,
  ⟨(some 86), none, .load false 1 (.t 85)⟩,
  ⟨(some 87), none, .fldA 2 (.t 6)⟩,
  ⟨(some 88), none, .load false 1 (.t 87)⟩,
  ⟨(some 89), none, .mv (.t 7)⟩,
  ⟨(some 90), none, .ixA 3 (.t 88) (.t 89)⟩,
  ⟨(some 91), none, .fldA 1 (.t 90)⟩,
  ⟨(some 92), none, .fldA 0 (.t 91)⟩,
  ⟨(some 93), none, .load false 1 (.t 92)⟩,
  ⟨(some 94), none, .fldA 2 (.t 6)⟩,
  ⟨(some 95), none, .load false 1 (.t 94)⟩,
  ⟨(some 96), none, .mv (.t 7)⟩,
  ⟨(some 97), none, .ixA 3 (.t 95) (.t 96)⟩,
  ⟨(some 98), none, .fldA 1 (.t 97)⟩,
  ⟨(some 99), none, .fldA 1 (.t 98)⟩,
  ⟨(some 100), none, .load false 1 (.t 99)⟩,
  ⟨(some 101), none, .call "newel/newelref06.within" [(.t 86), (.t 93), (.t 100)]⟩,
  ⟨(some 102), none, .un .not (.t 101)⟩]
@[go_sem] def l6f : List XO := [
  ⟨(some 4), none, .mv (.c (.bool false))⟩]
@[go_sem] def l6g : List XO := [
  ⟨(some 77), none, .mv (.t 7)⟩,
  ⟨(some 78), none, .bin .add .no (.t 77) (.c (.int .i64 1))⟩,
  ⟨(some 7), none, .mv (.t 78)⟩]
def g0n : XCode :=
  (.seq (.seq (.reg l60) (.cond (.t 76) .skip (.exit 2))) (.seq (.block 3 (.seq (.reg l6e) (.cond (.t 102) (.seq (.reg l6f) .ret) .skip))) (.reg l6g)))
@[go_sem] def l6h : List XO := [
  ⟨(some 40), none, .mv (.t 5)⟩,
  ⟨(some 41), none, .bin .add .no (.t 40) (.c (.int .i64 1))⟩,
  ⟨(some 5), none, .mv (.t 41)⟩]
def g0o : XCode :=
  (.seq (.seq (.reg l6v) (.cond (.t 39) .skip (.exit 0))) (.seq (.block 1 (.seq (.reg l6w) (.seq (.seq (.reg l6x) (.cond (.t 71) (.seq (.reg l6y) .ret) .skip)) (.seq (.reg l6z) (.block 2 (.loop g0n)))))) (.reg l6h)))
@[go_sem] def l6i : List XO := [
  ⟨(some 8), none, .mv (.c (.int .i64 0))⟩]
@[go_sem] def l6j : List XO := [
  ⟨(some 103), none, .mv (.t 8)⟩,
  ⟨(some 104), none, .fldA 0 (.tf 2)⟩,
  ⟨(some 105), none, .load false 1 (.tf 104)⟩,
  ⟨(some 106), none, .len false (.t 105)⟩,
  ⟨(some 107), none, .bin .lss .no (.t 103) (.t 106)⟩]
@[go_sem] def l6k : List XO := [
  ⟨(some 110), none, .fldA 2 (.tf 3)⟩,
  ⟨(some 111), none, .load false 1 (.tf 110)⟩,
  ⟨(some 112), none, .mv (.t 8)⟩,
  ⟨(some 113), none, .ixA 1 (.t 111) (.t 112)⟩,
  ⟨(some 114), none, .load false 1 (.t 113)⟩,
  ⟨(some 115), none, .len false (.t 114)⟩,
  ⟨(some 116), none, .call "newel/newelref06.within" [(.t 115), (.c (.int .i64 1)), (.c (.int .i64 20))]⟩,
  ⟨(some 117), none, .un .not (.t 116)⟩]
@[go_sem] def l6l : List XO := [
  ⟨(some 4), none, .mv (.c (.bool false))⟩]
@[go_sem] def l6n : List XO := [
  ⟨(some 9), none, .mv (.c (.int .i64 0))⟩]
@[go_sem] def l6o : List XO := [
  ⟨(some 118), none, .mv (.t 9)⟩,
  ⟨(some 119), none, .fldA 2 (.tf 3)⟩,
  ⟨(some 120), none, .load false 1 (.tf 119)⟩,
  ⟨(some 121), none, .mv (.t 8)⟩,
  ⟨(some 122), none, .ixA 1 (.t 120) (.t 121)⟩,
  ⟨(some 123), none, .load false 1 (.t 122)⟩,
  ⟨(some 124), none, .len false (.t 123)⟩,
  ⟨(some 125), none, .bin .lss .no (.t 118) (.t 124)⟩]
@[go_sem] def l6p : List XO := [
  ⟨(some 128), none, .fldA 2 (.tf 3)⟩,
  ⟨(some 129), none, .load false 1 (.tf 128)⟩,
  ⟨(some 130), none, .mv (.t 8)⟩,
  ⟨(some 131), none, .ixA 1 (.t 129) (.t 130)⟩,
  ⟨(some 132), none, .load false 1 (.t 131)⟩,
  ⟨(some 133), none, .mv (.t 9)⟩,
  ⟨(some 134), none, .ixA 1 (.t 132) (.t 133)⟩,
  ⟨(some 135), none, .load false 1 (.t 134)⟩,
  ⟨(some 136), none, .fldA 0 (.tf 2)⟩,
  ⟨(some 137), none, .load false 1 (.tf 136)⟩,
  ⟨(some 138), none, .mv (.t 8)⟩,
  ⟨(some 139), none, .ixA 5 (.t 137) (.t 138)⟩,
  ⟨(some 140), none, .fldA 3 (.t 139)⟩,
  ⟨(some 141), none, .fldA 0 (.t 140)⟩,
  ⟨(some 142), none, .load false 1 (.t 141)⟩,
  ⟨(some 143), none, .fldA 0 (.tf 2)⟩,
  ⟨(some 144), none, .load false 1 (.tf 143)⟩,
  ⟨(some 145), none, .mv (.t 8)⟩,
  ⟨(some 146), none, .ixA 5 (.t 144) (.t 145)⟩,
  ⟨(some 147), none, .fldA 3 (.t 146)⟩,
  ⟨(some 148), none, .fldA 1 (.t 147)⟩,
  ⟨(some 149), none, .load false 1 (.t 148)⟩,
  ⟨(some 150), none, .call "newel/newelref06.within" [(.t 135), (.t 142), (.t 149)]⟩,
  ⟨(some 151), none, .un .not (.t 150)⟩]
@[go_sem] def l6q : List XO := [
  ⟨(some 4), none, .mv (.c (.bool false))⟩]
@[go_sem] def l6r : List XO := [
  ⟨(some 126), none, .mv (.t 9)⟩,
  ⟨(some 127), none, .bin .add .no (.t 126) (.c (.int .i64 1))⟩,
  ⟨(some 9), none, .mv (.t 127)⟩]
def g0p : XCode :=
  (.seq (.seq (.reg l6o) (.cond (.t 125) .skip (.exit 6))) (.seq (.block 7 (.seq (.reg l6p) (.cond (.t 151) (.seq (.reg l6q) .ret) .skip))) (.reg l6r)))
@[go_sem] def l6s : List XO := [
  ⟨(some 108), none, .mv (.t 8)⟩,
  ⟨(some 109), none, .bin .add .no (.t 108) (.c (.int .i64 1))⟩,
  ⟨(some 8), none, .mv (.t 109)⟩]
def g0q : XCode :=
  (.seq (.seq (.reg l6j) (.cond (.t 107) .skip (.exit 4))) (.seq (.block 5 (.seq (.seq (.reg l6k) (.cond (.t 117) (.seq (.reg l6l) .ret) .skip)) (.seq (.reg l6n) (.block 6 (.loop g0p))))) (.reg l6s)))
@[go_sem] def l6t : List XO := [
  ⟨(some 4), none, .mv (.c (.bool true))⟩]
def x_r06_Fits : XFunc := { np := 2, res := [.t 4], body :=
  (.seq (.reg l6c) (.seq (.seq (.reg l6d) (.cond (.t 34) (.seq (.reg l6m) .ret) .skip)) (.seq (.seq (.reg l6u) (.block 0 (.loop g0o))) (.seq (.seq (.reg l6i) (.block 4 (.loop g0q))) (.seq (.reg l6t) .ret))))) }
@[go_sem] def l8z : List XO := [
  ⟨(some 6), none, .mv (.c (.bool false))⟩]
@[go_sem] def l80 : List XO := [
  ⟨(some 7), none, .mv (.t 0)⟩,
  ⟨(some 8), none, .mv (.t 1)⟩,
  ⟨(some 9), none, .bin .geq .no (.t 7) (.t 8)⟩,
  ⟨(some 10), none, .mv (.t 9)⟩,
  ⟨(some 11), (some (10, true)), .mv (.t 0)⟩,
  ⟨(some 12), (some (10, true)), .mv (.t 2)⟩,
  ⟨(some 13), (some (10, true)), .bin .leq .no (.t 11) (.t 12)⟩,
  ⟨(some 14), none, .pick (.t 10) (.t 13) (.c (.bool false))⟩,
  ⟨(some 6), none, .mv (.t 14)⟩]
def x_r06_within : XFunc := { np := 3, res := [.t 6], body :=
  (.seq (.reg l8z) (.seq (.reg l80) .ret)) }
@[go_sem] def l8x : List XO := [
  ⟨(some 3), none, .boxF (.t 0)⟩,
  ⟨(some 6), none, .mv (.c (.bool false))⟩]
@[go_sem] def l8y : List XO := [
  ⟨(some 7), none, .fldA 0 (.tf 3)⟩,
  ⟨(some 8), none, .load false 1 (.tf 7)⟩,
  ⟨(some 9), none, .mv (.t 1)⟩,
  ⟨(some 10), none, .bin .geq .no (.t 8) (.t 9)⟩,
  ⟨(some 11), none, .mv (.t 10)⟩,
  ⟨(some 12), (some (11, true)), .fldA 0 (.tf 3)⟩,
  ⟨(some 13), (some (11, true)), .load false 1 (.tf 12)⟩,
  ⟨(some 14), (some (11, true)), .fldA 1 (.tf 3)⟩,
  ⟨(some 15), (some (11, true)), .load false 1 (.tf 14)⟩,
  ⟨(some 16), (some (11, true)), .bin .leq .no (.t 13) (.t 15)⟩,
  ⟨(some 17), none, .pick (.t 11) (.t 16) (.c (.bool false))⟩,
  ⟨(some 18), none, .mv (.t 17)⟩,
  ⟨(some 19), (some (18, true)), .fldA 1 (.tf 3)⟩,
  ⟨(some 20), (some (18, true)), .load false 1 (.tf 19)⟩,
  ⟨(some 21), (some (18, true)), .mv (.t 2)⟩,
  ⟨(some 22), (some (18, true)), .bin .leq .no (.t 20) (.t 21)⟩,
  ⟨(some 23), none, .pick (.t 18) (.t 22) (.c (.bool false))⟩,
  ⟨(some 6), none, .mv (.t 23)⟩]
def x_r06_spanned : XFunc := { np := 3, res := [.t 6], body :=
  (.seq (.reg l8x) (.seq (.reg l8y) .ret)) }
@[go_sem] def l36 : List XO := [
  ⟨(some 0), none, .alloc [(.slice none 0 0), (.slice none 0 0), (.slice none 0 0), (.int .i64 0)]⟩]
@[go_sem] def l37 : List XO := [
  ⟨(some 1), none, .build [(.int .i64 0), (.int .i64 0)] [(0, 1, (.c (.int .i64 2))), (1, 1, (.c (.int .i64 3)))]⟩,
  ⟨(some 2), none, .build [(.int .i64 0), (.int .i64 0), (.int .i64 0), (.int .i64 0), (.int .i64 0)] [(0, 1, (.c (.int .i64 3))), (1, 1, (.c (.int .i64 12))), (2, 1, (.c (.int .i64 1))), (3, 2, (.t 1))]⟩,
  ⟨(some 3), none, .build [(.int .i64 0), (.int .i64 0)] [(0, 1, (.c (.int .i64 1))), (1, 1, (.c (.int .i64 1)))]⟩,
  ⟨(some 4), none, .build [(.int .i64 0), (.int .i64 0), (.int .i64 0), (.int .i64 0), (.int .i64 0)] [(0, 1, (.c (.int .i64 2))), (1, 1, (.c (.int .i64 10))), (2, 1, (.c (.int .i64 (-1)))), (3, 2, (.t 3))]⟩,
  ⟨(some 5), none, .bsl 5 [(.t 2), (.t 4)]⟩,
  ⟨(some 6), none, .build [(.int .i64 0), (.int .i64 0)] [(0, 1, (.c (.int .i64 2))), (1, 1, (.c (.int .i64 4)))]⟩,
  ⟨(some 7), none, .build [(.int .i64 0), (.int .i64 0)] [(0, 1, (.c (.int .i64 6))), (1, 1, (.c (.int .i64 10)))]⟩,
  ⟨(some 8), none, .build [(.int .i64 0), (.int .i64 0), (.int .i64 0)] [(1, 2, (.t 7))]⟩,
  ⟨(some 9), none, .bsl 3 [(.t 8)]⟩,
  ⟨(some 10), none, .build [(.int .i64 0), (.int .i64 0), (.slice none 0 0)] [(0, 2, (.t 6)), (2, 1, (.t 9))]⟩,
  ⟨(some 11), none, .build [(.int .i64 0), (.int .i64 0)] [(0, 1, (.c (.int .i64 5))), (1, 1, (.c (.int .i64 5)))]⟩,
  ⟨(some 12), none, .build [(.int .i64 0), (.int .i64 0)] [(1, 1, (.c (.int .i64 4)))]⟩,
  ⟨(some 13), none, .build [(.int .i64 0), (.int .i64 0), (.int .i64 0)] [(1, 2, (.t 12))]⟩,
  ⟨(some 14), none, .build [(.int .i64 0), (.int .i64 0)] [(0, 1, (.c (.int .i64 3))), (1, 1, (.c (.int .i64 3)))]⟩,
  ⟨(some 15), none, .build [(.int .i64 0), (.int .i64 0), (.int .i64 0)] [(0, 1, (.c (.int .i64 1))), (1, 2, (.t 14))]⟩,
  ⟨(some 16), none, .bsl 3 [(.t 13), (.t 15)]⟩,
  ⟨(some 17), none, .build [(.int .i64 0), (.int .i64 0), (.slice none 0 0)] [(0, 2, (.t 11)), (2, 1, (.t 16))]⟩,
  ⟨(some 18), none, .bsl 3 [(.t 10), (.t 17)]⟩,
  ⟨(some 19), none, .build [(.slice none 0 0), (.slice none 0 0), (.slice none 0 0), (.int .i64 0)] [(0, 1, (.t 5)), (1, 1, (.t 18)), (3, 1, (.c (.int .i64 20)))]⟩,
  ⟨none, none, .store 4 (.t 0) (.t 19)⟩]
def x_l06_Example : XFunc := { np := 0, res := [.cell 0 true 4], body :=
  (.seq (.reg l36) (.seq (.reg l37) .ret)) }
@[go_sem] def l1s : List XO := [
  ⟨(some 3), none, .boxF (.t 0)⟩,
  ⟨(some 6), none, .mv (.c (.int .i64 0))⟩]
@[go_sem] def l1t : List XO := [
  ⟨(some 8), none, .load true 4 (.tf 3)⟩,
  ⟨(some 9), none, .call "newel/halls.Check" [(.t 8)]⟩,
  ⟨(some 7), none, .mv (.t 9)⟩]
@[go_sem] def l1u : List XO := [
  ⟨(some 10), none, .mv (.t 7)⟩,
  ⟨(some 11), none, .bin .neq .no (.t 10) (.c (.int .i64 0))⟩]
@[go_sem] def l1v : List XO := [
  ⟨(some 12), none, .mv (.t 7)⟩,
  ⟨(some 6), none, .mv (.t 12)⟩]
@[go_sem] def l1w : List XO := [
  ⟨(some 13), none, .mv (.t 1)⟩,
  ⟨(some 14), none, .bin .lss .no (.t 13) (.c (.int .i64 0))⟩,
  ⟨(some 15), none, .mv (.t 14)⟩,
  ⟨(some 16), (some (15, false)), .mv (.t 1)⟩,
  ⟨(some 17), (some (15, false)), .fldA 0 (.tf 3)⟩,
  ⟨(some 18), (some (15, false)), .load false 1 (.tf 17)⟩,
  ⟨(some 19), (some (15, false)), .len false (.t 18)⟩,
  ⟨(some 20), (some (15, false)), .bin .geq .no (.t 16) (.t 19)⟩,
  ⟨(some 21), none, .pick (.t 15) (.c (.bool true)) (.t 20)⟩,
  ⟨(some 22), none, .mv (.t 21)⟩,
  ⟨(some 23), (some (22, false)), .mv (.t 2)⟩,
  ⟨(some 24), (some (22, false)), .mkfn "newel/halls.check$1" [] [(.t 3)]⟩,
  ⟨(some 25), (some (22, false)), .call "slices.ContainsFunc[[]int,int]" [(.t 23), (.t 24)]⟩,
  ⟨(some 26), none, .pick (.t 22) (.c (.bool true)) (.t 25)⟩]
@[go_sem] def l1x : List XO := [
  ⟨(some 6), none, .mv (.c (.int .i64 1))⟩]
@[go_sem] def l1y : List XO := [
  ⟨(some 6), none, .mv (.c (.int .i64 0))⟩]
def x_halls_check : XFunc := { np := 3, res := [.t 6], body :=
  (.seq (.reg l1s) (.seq (.seq (.reg l1t) (.seq (.reg l1u) (.cond (.t 11) (.seq (.reg l1v) .ret) .skip))) (.seq (.seq (.reg l1w) (.cond (.t 26) (.seq (.reg l1x) .ret) .skip)) (.seq (.reg l1y) .ret)))) }
@[go_sem] def l28 : List XO := [
  ⟨(some 1), none, .boxF (.t 0)⟩,
  ⟨(some 2), none, .mv (.c (.slice none 0 0))⟩]
@[go_sem] def l29 : List XO := [
  ⟨(some 4), none, .fldA 0 (.tf 1)⟩,
  ⟨(some 5), none, .load false 1 (.tf 4)⟩,
  ⟨(some 6), none, .len false (.t 5)⟩,
  ⟨(some 7), none, .mv (.c (.int .i64 0))⟩]
@[go_sem] def l3a : List XO := [
  ⟨(some 8), none, .bin .lss .no (.t 7) (.t 6)⟩]
@[go_sem] def l3b : List XO := [
  ⟨(some 9), none, .mv (.t 7)⟩,
  ⟨(some 3), none, .mv (.t 9)⟩]
@[go_sem] def l3c : List XO := [
  ⟨(some 10), none, .mv (.t 2)⟩,
  ⟨(some 11), none, .load true 4 (.tf 1)⟩,
  ⟨(some 12), none, .mv (.t 3)⟩,
  ⟨(some 13), none, .call "newel/halls.rates" [(.t 11), (.t 12)]⟩,
  ⟨(some 14), none, .bsl 1 [(.t 13)]⟩,
  ⟨(some 15), none, .app 1 24 (.t 10) (.t 14)⟩,
  ⟨(some 2), none, .mv (.t 15)⟩]
@[go_sem] def l3d : List XO := [
  ⟨(some 16), none, .bin .add .no (.t 7) (.c (.int .i64 1))⟩,
  ⟨(some 7), none, .mv (.t 16)⟩]
def d18 : XCode :=
  (.seq (.reg l3a) (.seq (.cond (.t 8) .skip (.exit 0)) (.seq (.block 1 (.seq (.reg l3b) (.seq (.reg l3c) .ghost))) (.reg l3d))))
@[go_sem] def l3e : List XO := [
  ⟨(some 17), none, .mv (.t 2)⟩,
  ⟨(some 2), none, .mv (.t 17)⟩]
def x_halls_open : XFunc := { np := 1, res := [.t 2], body :=
  (.seq (.reg l28) (.seq (.seq (.reg l29) (.block 0 (.loop d18))) (.seq (.reg l3e) .ret))) }
@[go_sem] def l3h : List XO := [
  ⟨(some 2), none, .boxF (.t 0)⟩,
  ⟨(some 4), none, .mv (.c (.slice none 0 0))⟩]
@[go_sem] def l3i : List XO := [
  ⟨(some 8), none, .mv (.t 1)⟩,
  ⟨(some 9), none, .len false (.t 8)⟩,
  ⟨(some 10), none, .mv (.c (.int .i64 0))⟩]
@[go_sem] def l3j : List XO := [
  ⟨(some 11), none, .bin .lss .no (.t 10) (.t 9)⟩]
@[go_sem] def l3k : List XO := [
  ⟨(some 12), none, .mv (.t 10)⟩,
  ⟨(some 13), none, .ixA 1 (.t 8) (.t 10)⟩,
  ⟨(some 14), none, .load false 1 (.t 13)⟩,
  ⟨(some 5), none, .alloc [(.int .i64 0)]⟩,
  ⟨none, none, .store 1 (.t 5) (.t 12)⟩,
  ⟨(some 6), none, .mv (.t 14)⟩]
@[go_sem] def l3l : List XO := [
  ⟨(some 15), none, .mv (.t 6)⟩,
  ⟨(some 16), none, .nilck (.t 15)⟩,
  ⟨(some 17), none, .fldA 2 (.t 16)⟩,
  ⟨(some 18), none, .load false 1 (.t 17)⟩,
  ⟨(some 19), none, .mkfn "newel/halls.over$1" [] [(.t 2), (.t 5)]⟩,
  ⟨(some 20), none, .call "slices.IndexFunc[[]int,int]" [(.t 18), (.t 19)]⟩,
  ⟨(some 7), none, .mv (.t 20)⟩]
@[go_sem] def l3m : List XO := [
  ⟨(some 21), none, .mv (.t 7)⟩,
  ⟨(some 22), none, .bin .geq .no (.t 21) (.c (.int .i64 0))⟩]
@[go_sem] def l3n : List XO := [
  ⟨(some 23), none, .mv (.t 4)⟩,
  ⟨(some 24), none, .load false 1 (.t 5)⟩,
  ⟨(some 25), none, .mv (.t 7)⟩,
  ⟨(some 26), none, .build [(.int .i64 0), (.int .i64 0)] [(0, 1, (.t 24)), (1, 1, (.t 25))]⟩,
  ⟨(some 27), none, .bsl 2 [(.t 26)]⟩,
  ⟨(some 28), none, .app 2 16 (.t 23) (.t 27)⟩,
  ⟨(some 4), none, .mv (.t 28)⟩]
@[go_sem] def l3o : List XO := [
  ⟨(some 29), none, .bin .add .no (.t 10) (.c (.int .i64 1))⟩,
  ⟨(some 10), none, .mv (.t 29)⟩]
def g0c : XCode :=
  (.seq (.reg l3j) (.seq (.cond (.t 11) .skip (.exit 0)) (.seq (.block 1 (.seq (.reg l3k) (.seq (.reg l3l) (.seq (.reg l3m) (.cond (.t 22) (.reg l3n) .skip))))) (.reg l3o))))
@[go_sem] def l3p : List XO := [
  ⟨(some 30), none, .mv (.t 4)⟩,
  ⟨(some 4), none, .mv (.t 30)⟩]
def x_halls_over : XFunc := { np := 2, res := [.t 4], body :=
  (.seq (.reg l3h) (.seq (.seq (.reg l3i) (.block 0 (.loop g0c))) (.seq (.reg l3p) .ret))) }
@[go_sem] def l0b : List XO := [
  ⟨(some 2), none, .boxF (.t 0)⟩,
  ⟨(some 4), none, .mv (.c (.slice none 0 0))⟩]
@[go_sem] def l0c : List XO := [
  ⟨(some 5), none, .mv (.c (.slice none 0 0))⟩]
@[go_sem] def l0m : List XO := [
  ⟨(some 16), none, .fldA 0 (.tf 2)⟩,
  ⟨(some 17), none, .load false 1 (.tf 16)⟩,
  ⟨(some 18), none, .len false (.t 17)⟩,
  ⟨(some 19), none, .mv (.c (.int .i64 0))⟩]
@[go_sem] def l0v : List XO := [
  ⟨(some 20), none, .bin .lss .no (.t 19) (.t 18)⟩]
@[go_sem] def l04 : List XO := [
  ⟨(some 21), none, .mv (.t 19)⟩,
  ⟨(some 6), none, .mv (.t 21)⟩]
@[go_sem] def l08 : List XO := [
  ⟨(some 22), none, .bsl 1 [(.c (.int .i64 0))]⟩,
  ⟨(some 23), none, .bsl 1 [(.c (.int .i64 0))]⟩,
  ⟨(some 24), none, .build [(.slice none 0 0), (.slice none 0 0), (.slice none 0 0), (.slice none 0 0)] [(0, 1, (.t 22)), (1, 1, (.t 23))]⟩,
  ⟨(some 25), none, .box (.t 24)⟩,
  ⟨(some 7), none, .mv (.t 25)⟩]
@[go_sem] def l09 : List XO := [
  ⟨(some 26), none, .fldA 3 (.tf 2)⟩,
  ⟨(some 27), none, .load false 1 (.tf 26)⟩,
  ⟨(some 28), none, .mv (.c (.int .i64 0))⟩]
@[go_sem] def l1a : List XO := [
  ⟨(some 29), none, .bin .lss .no (.t 28) (.t 27)⟩]
@[go_sem] def l1b : List XO := [
  ⟨(some 30), none, .mv (.t 28)⟩,
  ⟨(some 8), none, .mv (.t 30)⟩]
@[go_sem] def l1c : List XO := [
  ⟨(some 31), none, .fldA 3 (.tf 2)⟩,
  ⟨(some 32), none, .load false 1 (.tf 31)⟩,
  ⟨(some 33), none, .mksl 1 [(.int .i64 0)] 8 (.t 32) (.t 32)⟩,
  ⟨(some 9), none, .mv (.t 33)⟩]
@[go_sem] def l0d : List XO := [
  ⟨(some 34), none, .mv (.t 8)⟩,
  ⟨(some 10), none, .mv (.t 34)⟩]
@[go_sem] def l0e : List XO := [
  ⟨(some 35), none, .mv (.t 10)⟩,
  ⟨(some 36), none, .fldA 3 (.tf 2)⟩,
  ⟨(some 37), none, .load false 1 (.tf 36)⟩,
  ⟨(some 38), none, .bin .lss .no (.t 35) (.t 37)⟩]
@[go_sem] def l0f : List XO := [
  ⟨(some 41), none, .mv (.t 9)⟩,
  ⟨(some 42), none, .mv (.t 10)⟩,
  ⟨(some 43), none, .load true 4 (.tf 2)⟩,
  ⟨(some 44), none, .mv (.t 6)⟩,
  ⟨(some 45), none, .mv (.t 8)⟩,
  ⟨(some 46), none, .mv (.t 10)⟩,
  ⟨(some 47), none, .call "newel/halls.brought" [(.t 43), (.t 44), (.t 45), (.t 46)]⟩,
  ⟨(some 48), none, .ixA 1 (.t 41) (.t 42)⟩,
  ⟨none, none, .store 1 (.t 48) (.t 47)⟩]
@[go_sem] def l0g : List XO := [
  ⟨(some 49), none, .fldA 0 (.tf 2)⟩,
  ⟨(some 50), none, .load false 1 (.tf 49)⟩,
  ⟨(some 51), none, .mv (.t 6)⟩,
  ⟨(some 52), none, .slc 5 (.t 50) none (some (.t 51))⟩,
  ⟨(some 53), none, .len false (.t 52)⟩,
  ⟨(some 54), none, .mv (.c (.int .i64 0))⟩]
@[go_sem] def l0h : List XO := [
  ⟨(some 55), none, .bin .lss .no (.t 54) (.t 53)⟩]
@[go_sem] def l0i : List XO := [
  ⟨(some 56), none, .mv (.t 54)⟩,
  ⟨(some 57), none, .ixA 5 (.t 52) (.t 54)⟩,
  ⟨(some 58), none, .load true 5 (.t 57)⟩,
  ⟨(some 12), none, .alloc [(.int .i64 0), (.int .i64 0), (.int .i64 0), (.int .i64 0), (.int .i64 0)]⟩,
  ⟨(some 11), none, .mv (.t 56)⟩,
  ⟨none, none, .store 5 (.t 12) (.t 58)⟩]
@[go_sem] def l0j : List XO := [
  ⟨(some 59), none, .fldA 2 (.t 12)⟩,
  ⟨(some 60), none, .load false 1 (.t 59)⟩,
  ⟨(some 61), none, .mv (.t 6)⟩,
  ⟨(some 62), none, .bin .eql .no (.t 60) (.t 61)⟩]
@[go_sem] def l0k : List XO := [
  ⟨(some 63), none, .mv (.t 9)⟩,
  ⟨(some 64), none, .mv (.t 10)⟩,
  ⟨(some 65), none, .ixA 1 (.t 63) (.t 64)⟩,
  ⟨(some 66), none, .load false 1 (.t 65)⟩,
  ⟨(some 67), none, .mv (.t 5)⟩,
  ⟨(some 68), none, .mv (.t 11)⟩,
  ⟨(some 69), none, .ixA 1 (.t 67) (.t 68)⟩,
  ⟨(some 70), none, .load false 1 (.t 69)⟩,
  ⟨(some 71), none, .mv (.t 8)⟩,
  ⟨(some 72), none, .fldA 3 (.t 12)⟩,
  ⟨(some 73), none, .fldA 1 (.t 72)⟩,
  ⟨(some 74), none, .load false 1 (.t 73)⟩,
  ⟨(some 75), none, .bin .sub .no (.t 71) (.t 74)⟩,
  ⟨(some 76), none, .mv (.t 10)⟩,
  ⟨(some 77), none, .fldA 3 (.t 12)⟩,
  ⟨(some 78), none, .fldA 0 (.t 77)⟩,
  ⟨(some 79), none, .load false 1 (.t 78)⟩,
  ⟨(some 80), none, .bin .sub .no (.t 76) (.t 79)⟩,
  ⟨(some 81), none, .call "(*newel/halls.bound).passes" [(.t 70), (.t 75), (.t 80)]⟩,
  ⟨(some 82), none, .bin .add .no (.t 66) (.t 81)⟩,
  ⟨(some 83), none, .ixA 1 (.t 63) (.t 64)⟩,
  ⟨none, none, .store 1 (.t 83) (.t 82)⟩]
@[go_sem] def l0l : List XO := [
  ⟨(some 84), none, .bin .add .no (.t 54) (.c (.int .i64 1))⟩,
  ⟨(some 54), none, .mv (.t 84)⟩]
def d12 : XCode :=
  (.seq (.reg l0h) (.seq (.cond (.t 55) .skip (.exit 6)) (.seq (.block 7 (.seq (.reg l0i) (.seq (.reg l0j) (.cond (.t 62) (.reg l0k) .skip)))) (.reg l0l))))
@[go_sem] def l0n : List XO := [
  ⟨(some 39), none, .mv (.t 10)⟩,
  ⟨(some 40), none, .bin .add .no (.t 39) (.c (.int .i64 1))⟩,
  ⟨(some 10), none, .mv (.t 40)⟩]
def d13 : XCode :=
  (.seq (.seq (.reg l0e) (.cond (.t 38) .skip (.exit 4))) (.seq (.block 5 (.seq (.reg l0f) (.seq (.reg l0g) (.block 6 (.loop d12))))) (.reg l0n)))
@[go_sem] def l0o : List XO := [
  ⟨(some 85), none, .mv (.t 7)⟩,
  ⟨(some 86), none, .mv (.t 7)⟩,
  ⟨(some 87), none, .nilck (.t 86)⟩,
  ⟨(some 88), none, .fldA 3 (.t 87)⟩,
  ⟨(some 89), none, .load false 1 (.t 88)⟩,
  ⟨(some 90), none, .mv (.t 9)⟩,
  ⟨(some 91), none, .bsl 1 [(.t 90)]⟩,
  ⟨(some 92), none, .app 1 24 (.t 89) (.t 91)⟩,
  ⟨(some 93), none, .nilck (.t 85)⟩,
  ⟨(some 94), none, .fldA 3 (.t 93)⟩,
  ⟨none, none, .store 1 (.t 94) (.t 92)⟩]
@[go_sem] def l0p : List XO := [
  ⟨(some 95), none, .mv (.t 7)⟩,
  ⟨(some 96), none, .mv (.t 7)⟩,
  ⟨(some 97), none, .nilck (.t 96)⟩,
  ⟨(some 98), none, .fldA 0 (.t 97)⟩,
  ⟨(some 99), none, .load false 1 (.t 98)⟩,
  ⟨(some 100), none, .mv (.t 7)⟩,
  ⟨(some 101), none, .nilck (.t 100)⟩,
  ⟨(some 102), none, .fldA 0 (.t 101)⟩,
  ⟨(some 103), none, .load false 1 (.t 102)⟩,
  ⟨(some 104), none, .mv (.t 8)⟩,
  ⟨(some 105), none, .ixA 1 (.t 103) (.t 104)⟩,
  ⟨(some 106), none, .load false 1 (.t 105)⟩,
  ⟨(some 107), none, .mv (.t 1)⟩,
  ⟨(some 108), none, .mv (.t 6)⟩,
  ⟨(some 109), none, .ixA 1 (.t 107) (.t 108)⟩,
  ⟨(some 110), none, .load false 1 (.t 109)⟩,
  ⟨(some 111), none, .mv (.t 8)⟩,
  ⟨(some 112), none, .ixA 1 (.t 110) (.t 111)⟩,
  ⟨(some 113), none, .load false 1 (.t 112)⟩,
  ⟨(some 114), none, .bin .add .no (.t 106) (.t 113)⟩,
  ⟨(some 115), none, .bsl 1 [(.t 114)]⟩,
  ⟨(some 116), none, .app 1 8 (.t 99) (.t 115)⟩,
  ⟨(some 117), none, .nilck (.t 95)⟩,
  ⟨(some 118), none, .fldA 0 (.t 117)⟩,
  ⟨none, none, .store 1 (.t 118) (.t 116)⟩]
@[go_sem] def l0q : List XO := [
  ⟨(some 119), none, .bin .add .no (.t 28) (.c (.int .i64 1))⟩,
  ⟨(some 28), none, .mv (.t 119)⟩]
def d14 : XCode :=
  (.seq (.reg l1a) (.seq (.cond (.t 29) .skip (.exit 2)) (.seq (.block 3 (.seq (.reg l1b) (.seq (.reg l1c) (.seq (.seq (.reg l0d) (.block 4 (.loop d13))) (.seq (.seq .ghost (.reg l0o)) (.reg l0p)))))) (.reg l0q))))
@[go_sem] def l0r : List XO := [
  ⟨(some 120), none, .fldA 3 (.tf 2)⟩,
  ⟨(some 121), none, .load false 1 (.tf 120)⟩,
  ⟨(some 122), none, .mv (.c (.int .i64 0))⟩]
@[go_sem] def l0s : List XO := [
  ⟨(some 123), none, .bin .lss .no (.t 122) (.t 121)⟩]
@[go_sem] def l0t : List XO := [
  ⟨(some 124), none, .mv (.t 122)⟩,
  ⟨(some 13), none, .mv (.t 124)⟩]
@[go_sem] def l0u : List XO := [
  ⟨(some 14), none, .mv (.c (.int .i64 0))⟩]
@[go_sem] def l0w : List XO := [
  ⟨(some 125), none, .mv (.t 13)⟩,
  ⟨(some 126), none, .bin .add .no (.t 125) (.c (.int .i64 1))⟩,
  ⟨(some 127), none, .mv (.c (.int .i64 0))⟩]
@[go_sem] def l0x : List XO := [
  ⟨(some 128), none, .bin .lss .no (.t 127) (.t 126)⟩]
@[go_sem] def l0y : List XO := [
  ⟨(some 129), none, .mv (.t 127)⟩,
  ⟨(some 15), none, .mv (.t 129)⟩]
@[go_sem] def l0z : List XO := [
  ⟨(some 130), none, .mv (.t 14)⟩,
  ⟨(some 131), none, .mv (.t 7)⟩,
  ⟨(some 132), none, .nilck (.t 131)⟩,
  ⟨(some 133), none, .fldA 3 (.t 132)⟩,
  ⟨(some 134), none, .load false 1 (.t 133)⟩,
  ⟨(some 135), none, .mv (.t 15)⟩,
  ⟨(some 136), none, .ixA 1 (.t 134) (.t 135)⟩,
  ⟨(some 137), none, .load false 1 (.t 136)⟩,
  ⟨(some 138), none, .mv (.t 13)⟩,
  ⟨(some 139), none, .ixA 1 (.t 137) (.t 138)⟩,
  ⟨(some 140), none, .load false 1 (.t 139)⟩,
  ⟨(some 141), none, .mv (.t 7)⟩,
  ⟨(some 142), none, .nilck (.t 141)⟩,
  ⟨(some 143), none, .fldA 0 (.t 142)⟩,
  ⟨(some 144), none, .load false 1 (.t 143)⟩,
  ⟨(some 145), none, .mv (.t 13)⟩,
  ⟨(some 146), none, .ixA 1 (.t 144) (.t 145)⟩,
  ⟨(some 147), none, .load false 1 (.t 146)⟩,
  ⟨(some 148), none, .mv (.t 7)⟩,
  ⟨(some 149), none, .nilck (.t 148)⟩,
  ⟨(some 150), none, .fldA 0 (.t 149)⟩,
  ⟨(some 151), none, .load false 1 (.t 150)⟩,
  ⟨(some 152), none, .mv (.t 15)⟩,
  ⟨(some 153), none, .ixA 1 (.t 151) (.t 152)⟩,
  ⟨(some 154), none, .load false 1 (.t 153)⟩,
  ⟨(some 155), none, .bin .sub .no (.t 147) (.t 154)⟩,
  ⟨(some 156), none, .bin .sub .no (.t 140) (.t 155)⟩,
  ⟨(some 157), none, .max [(.t 130), (.t 156)]⟩,
  ⟨(some 14), none, .mv (.t 157)⟩]
@[go_sem] def l00 : List XO := [
  ⟨(some 158), none, .bin .add .no (.t 127) (.c (.int .i64 1))⟩,
  ⟨(some 127), none, .mv (.t 158)⟩]
def d15 : XCode :=
  (.seq (.reg l0x) (.seq (.cond (.t 128) .skip (.exit 10)) (.seq (.block 11 (.seq (.reg l0y) (.reg l0z))) (.reg l00))))
@[go_sem] def l01 : List XO := [
  ⟨(some 159), none, .mv (.t 7)⟩,
  ⟨(some 160), none, .mv (.t 7)⟩,
  ⟨(some 161), none, .nilck (.t 160)⟩,
  ⟨(some 162), none, .fldA 2 (.t 161)⟩,
  ⟨(some 163), none, .load false 1 (.t 162)⟩,
  ⟨(some 164), none, .mv (.t 14)⟩,
  ⟨(some 165), none, .bsl 1 [(.t 164)]⟩,
  ⟨(some 166), none, .app 1 8 (.t 163) (.t 165)⟩,
  ⟨(some 167), none, .nilck (.t 159)⟩,
  ⟨(some 168), none, .fldA 2 (.t 167)⟩,
  ⟨none, none, .store 1 (.t 168) (.t 166)⟩]
@[go_sem] def l02 : List XO := [
  ⟨(some 169), none, .mv (.t 7)⟩,
  ⟨(some 170), none, .mv (.t 7)⟩,
  ⟨(some 171), none, .nilck (.t 170)⟩,
  ⟨(some 172), none, .fldA 1 (.t 171)⟩,
  ⟨(some 173), none, .load false 1 (.t 172)⟩,
  ⟨(some 174), none, .mv (.t 7)⟩,
  ⟨(some 175), none, .nilck (.t 174)⟩,
  ⟨(some 176), none, .fldA 1 (.t 175)⟩,
  ⟨(some 177), none, .load false 1 (.t 176)⟩,
  ⟨(some 178), none, .mv (.t 13)⟩,
  ⟨(some 179), none, .ixA 1 (.t 177) (.t 178)⟩,
  ⟨(some 180), none, .load false 1 (.t 179)⟩,
  ⟨(some 181), none, .mv (.t 14)⟩,
  ⟨(some 182), none, .mv (.t 1)⟩,
  ⟨(some 183), none, .mv (.t 6)⟩,
  ⟨(some 184), none, .ixA 1 (.t 182) (.t 183)⟩,
  ⟨(some 185), none, .load false 1 (.t 184)⟩,
  ⟨(some 186), none, .mv (.t 13)⟩,
  ⟨(some 187), none, .ixA 1 (.t 185) (.t 186)⟩,
  ⟨(some 188), none, .load false 1 (.t 187)⟩,
  ⟨(some 189), none, .min [(.t 181), (.t 188)]⟩,
  ⟨(some 190), none, .bin .add .no (.t 180) (.t 189)⟩,
  ⟨(some 191), none, .bsl 1 [(.t 190)]⟩,
  ⟨(some 192), none, .app 1 8 (.t 173) (.t 191)⟩,
  ⟨(some 193), none, .nilck (.t 169)⟩,
  ⟨(some 194), none, .fldA 1 (.t 193)⟩,
  ⟨none, none, .store 1 (.t 194) (.t 192)⟩]
@[go_sem] def l03 : List XO := [
  ⟨(some 195), none, .bin .add .no (.t 122) (.c (.int .i64 1))⟩,
  ⟨(some 122), none, .mv (.t 195)⟩]
def d16 : XCode :=
  (.seq (.reg l0s) (.seq (.cond (.t 123) .skip (.exit 8)) (.seq (.block 9 (.seq (.reg l0t) (.seq (.reg l0u) (.seq (.seq (.reg l0w) (.block 10 (.loop d15))) (.seq (.reg l01) (.reg l02)))))) (.reg l03))))
@[go_sem] def l05 : List XO := [
  ⟨(some 196), none, .mv (.t 5)⟩,
  ⟨(some 197), none, .mv (.t 7)⟩,
  ⟨(some 198), none, .bsl 1 [(.t 197)]⟩,
  ⟨(some 199), none, .app 1 8 (.t 196) (.t 198)⟩,
  ⟨(some 5), none, .mv (.t 199)⟩]
@[go_sem] def l06 : List XO := [
  ⟨(some 200), none, .bin .add .no (.t 19) (.c (.int .i64 1))⟩,
  ⟨(some 19), none, .mv (.t 200)⟩]
def d17 : XCode :=
  (.seq (.reg l0v) (.seq (.cond (.t 20) .skip (.exit 0)) (.seq (.block 1 (.seq (.reg l04) (.seq (.reg l08) (.seq (.seq (.reg l09) (.block 2 (.loop d14))) (.seq (.seq (.reg l0r) (.block 8 (.loop d16))) (.seq .ghost (.reg l05))))))) (.reg l06))))
@[go_sem] def l07 : List XO := [
  ⟨(some 201), none, .mv (.t 5)⟩,
  ⟨(some 4), none, .mv (.t 201)⟩]
def x_halls_bounds : XFunc := { np := 2, res := [.t 4], body :=
  (.seq (.reg l0b) (.seq (.reg l0c) (.seq (.seq (.reg l0m) (.block 0 (.loop d17))) (.seq (.seq .ghost (.reg l07)) .ret)))) }
@[go_sem] def l8l : List XO := [
  ⟨(some 2), none, .boxF (.t 0)⟩,
  ⟨(some 4), none, .mv (.c (.slice none 0 0))⟩]
@[go_sem] def l8m : List XO := [
  ⟨(some 8), none, .fldA 3 (.tf 2)⟩,
  ⟨(some 9), none, .load false 1 (.tf 8)⟩,
  ⟨(some 10), none, .mksl 1 [(.int .i64 0)] 8 (.t 9) (.t 9)⟩,
  ⟨(some 5), none, .mv (.t 10)⟩]
@[go_sem] def l8p : List XO := [
  ⟨(some 6), none, .mv (.c (.int .i64 0))⟩]
@[go_sem] def l8q : List XO := [
  ⟨(some 11), none, .mv (.t 6)⟩,
  ⟨(some 12), none, .fldA 3 (.tf 2)⟩,
  ⟨(some 13), none, .load false 1 (.tf 12)⟩,
  ⟨(some 14), none, .bin .lss .no (.t 11) (.t 13)⟩]
@[go_sem] def l8r : List XO := [
  ⟨(some 17), none, .mv (.t 5)⟩,
  ⟨(some 18), none, .mv (.t 6)⟩,
  ⟨(some 19), none, .fldA 0 (.tf 2)⟩,
  ⟨(some 20), none, .load false 1 (.tf 19)⟩,
  ⟨(some 21), none, .mv (.t 1)⟩,
  ⟨(some 22), none, .ixA 5 (.t 20) (.t 21)⟩,
  ⟨(some 23), none, .fldA 0 (.t 22)⟩,
  ⟨(some 24), none, .load false 1 (.t 23)⟩,
  ⟨(some 25), none, .ixA 1 (.t 17) (.t 18)⟩,
  ⟨none, none, .store 1 (.t 25) (.t 24)⟩]
@[go_sem] def l8s : List XO := [
  ⟨(some 7), none, .mv (.c (.int .i64 0))⟩]
@[go_sem] def l8t : List XO := [
  ⟨(some 26), none, .mv (.t 7)⟩,
  ⟨(some 27), none, .fldA 2 (.tf 2)⟩,
  ⟨(some 28), none, .load false 1 (.tf 27)⟩,
  ⟨(some 29), none, .len false (.t 28)⟩,
  ⟨(some 30), none, .bin .lss .no (.t 26) (.t 29)⟩]
@[go_sem] def l8u : List XO := [
  ⟨(some 33), none, .fldA 2 (.tf 2)⟩,
  ⟨(some 34), none, .load false 1 (.tf 33)⟩,
  ⟨(some 35), none, .mv (.t 7)⟩,
  ⟨(some 36), none, .ixA 3 (.t 34) (.t 35)⟩,
  ⟨(some 37), none, .fldA 1 (.t 36)⟩,
  ⟨(some 38), none, .load false 1 (.t 37)⟩,
  ⟨(some 39), none, .mv (.t 1)⟩,
  ⟨(some 40), none, .bin .eql .no (.t 38) (.t 39)⟩,
  ⟨(some 41), none, .mv (.t 40)⟩,
  ⟨(some 42), (some (41, true)), .fldA 2 (.tf 2)⟩,
  ⟨(some 43), (some (41, true)), .load false 1 (.tf 42)⟩,
  ⟨(some 44), (some (41, true)), .mv (.t 7)⟩,
  ⟨(some 45), (some (41, true)), .ixA 3 (.t 43) (.t 44)⟩,
  ⟨(some 46), (some (41, true)), .fldA 0 (.t 45)⟩,
  ⟨(some 47), (some (41, true)), .load false 1 (.t 46)⟩,
  ⟨(some 48), (some (41, true)), .mv (.t 6)⟩,
  ⟨(some 49), (some (41, true)), .bin .leq .no (.t 47) (.t 48)⟩,
  ⟨(some 50), none, .pick (.t 41) (.t 49) (.c (.bool false))⟩]
@[go_sem] def l8v : List XO := [
  ⟨(some 51), none, .mv (.t 5)⟩,
  ⟨(some 52), none, .mv (.t 6)⟩,
  ⟨(some 53), none, .fldA 2 (.tf 2)⟩,
  ⟨(some 54), none, .load false 1 (.tf 53)⟩,
  ⟨(some 55), none, .mv (.t 7)⟩,
  ⟨(some 56), none, .ixA 3 (.t 54) (.t 55)⟩,
  ⟨(some 57), none, .fldA 2 (.t 56)⟩,
  ⟨(some 58), none, .load false 1 (.t 57)⟩,
  ⟨(some 59), none, .ixA 1 (.t 51) (.t 52)⟩,
  ⟨none, none, .store 1 (.t 59) (.t 58)⟩]
@[go_sem] def l8w : List XO := [
  ⟨(some 31), none, .mv (.t 7)⟩,
  ⟨(some 32), none, .bin .add .no (.t 31) (.c (.int .i64 1))⟩,
  ⟨(some 7), none, .mv (.t 32)⟩]
def g0x : XCode :=
  (.seq (.seq (.reg l8t) (.cond (.t 30) .skip (.exit 2))) (.seq (.block 3 (.seq (.reg l8u) (.cond (.t 50) (.reg l8v) .skip))) (.reg l8w)))
@[go_sem] def l8n : List XO := [
  ⟨(some 15), none, .mv (.t 6)⟩,
  ⟨(some 16), none, .bin .add .no (.t 15) (.c (.int .i64 1))⟩,
  ⟨(some 6), none, .mv (.t 16)⟩]
def g0y : XCode :=
  (.seq (.seq (.reg l8q) (.cond (.t 14) .skip (.exit 0))) (.seq (.block 1 (.seq (.reg l8r) (.seq (.reg l8s) (.block 2 (.loop g0x))))) (.reg l8n)))
@[go_sem] def l8o : List XO := [
  ⟨(some 60), none, .mv (.t 5)⟩,
  ⟨(some 4), none, .mv (.t 60)⟩]
def x_r06_rates : XFunc := { np := 2, res := [.t 4], body :=
  (.seq (.reg l8l) (.seq (.reg l8m) (.seq (.seq (.reg l8p) (.block 0 (.loop g0y))) (.seq (.reg l8o) .ret)))) }
@[go_sem] def l8j : List XO := [
  ⟨(some 2), none, .boxF (.t 0)⟩,
  ⟨(some 4), none, .mv (.c (.bool false))⟩]
@[go_sem] def l8k : List XO := [
  ⟨(some 5), none, .mv (.t 1)⟩,
  ⟨(some 6), none, .fldA 0 (.tf 2)⟩,
  ⟨(some 7), none, .load false 1 (.tf 6)⟩,
  ⟨(some 8), none, .len false (.t 7)⟩,
  ⟨(some 9), none, .bin .sub .no (.t 8) (.c (.int .i64 1))⟩,
  ⟨(some 10), none, .call "newel/newelref06.within" [(.t 5), (.c (.int .i64 0)), (.t 9)]⟩,
  ⟨(some 4), none, .mv (.t 10)⟩]
def x_r06_comb : XFunc := { np := 2, res := [.t 4], body :=
  (.seq (.reg l8j) (.seq (.reg l8k) .ret)) }
@[go_sem] def l3q : List XO := [
  ⟨(some 2), none, .boxF (.t 0)⟩,
  ⟨(some 4), none, .mv (.c (.slice none 0 0))⟩]
@[go_sem] def l3r : List XO := [
  ⟨(some 9), none, .fldA 3 (.tf 2)⟩,
  ⟨(some 10), none, .load false 1 (.tf 9)⟩,
  ⟨(some 11), none, .mksl 1 [(.int .i64 0)] 8 (.t 10) (.t 10)⟩,
  ⟨(some 5), none, .mv (.t 11)⟩]
@[go_sem] def l3v : List XO := [
  ⟨(some 12), none, .fldA 0 (.tf 2)⟩,
  ⟨(some 13), none, .load false 1 (.tf 12)⟩,
  ⟨(some 14), none, .mv (.t 1)⟩,
  ⟨(some 15), none, .ixA 5 (.t 13) (.t 14)⟩,
  ⟨(some 16), none, .fldA 0 (.t 15)⟩,
  ⟨(some 17), none, .load false 1 (.t 16)⟩,
  ⟨(some 6), none, .mv (.t 17)⟩,
  ⟨(some 7), none, .mv (.c (.int .i64 0))⟩]
@[go_sem] def l3w : List XO := [
  ⟨(some 18), none, .mv (.t 5)⟩,
  ⟨(some 19), none, .len false (.t 18)⟩,
  ⟨(some 20), none, .mv (.c (.int .i64 0))⟩]
@[go_sem] def l3x : List XO := [
  ⟨(some 21), none, .bin .lss .no (.t 20) (.t 19)⟩]
@[go_sem] def l3y : List XO := [
  ⟨(some 22), none, .mv (.t 20)⟩,
  ⟨(some 8), none, .mv (.t 22)⟩]
@[go_sem] def l3z : List XO := [
  ⟨(some 23), none, .mv (.t 7)⟩,
  ⟨(some 24), none, .fldA 2 (.tf 2)⟩,
  ⟨(some 25), none, .load false 1 (.tf 24)⟩,
  ⟨(some 26), none, .len false (.t 25)⟩,
  ⟨(some 27), none, .bin .lss .no (.t 23) (.t 26)⟩,
  ⟨(some 28), none, .mv (.t 27)⟩,
  ⟨(some 29), (some (28, true)), .fldA 2 (.tf 2)⟩,
  ⟨(some 30), (some (28, true)), .load false 1 (.tf 29)⟩,
  ⟨(some 31), (some (28, true)), .mv (.t 7)⟩,
  ⟨(some 32), (some (28, true)), .ixA 3 (.t 30) (.t 31)⟩,
  ⟨(some 33), (some (28, true)), .fldA 0 (.t 32)⟩,
  ⟨(some 34), (some (28, true)), .load false 1 (.t 33)⟩,
  ⟨(some 35), (some (28, true)), .mv (.t 8)⟩,
  ⟨(some 36), (some (28, true)), .bin .leq .no (.t 34) (.t 35)⟩,
  ⟨(some 37), none, .pick (.t 28) (.t 36) (.c (.bool false))⟩]
@[go_sem] def l31 : List XO := [
  ⟨(some 40), none, .fldA 2 (.tf 2)⟩,
  ⟨(some 41), none, .load false 1 (.tf 40)⟩,
  ⟨(some 42), none, .mv (.t 7)⟩,
  ⟨(some 43), none, .ixA 3 (.t 41) (.t 42)⟩,
  ⟨(some 44), none, .fldA 1 (.t 43)⟩,
  ⟨(some 45), none, .load false 1 (.t 44)⟩,
  ⟨(some 46), none, .mv (.t 1)⟩,
  ⟨(some 47), none, .bin .eql .no (.t 45) (.t 46)⟩]
@[go_sem] def l32 : List XO := [
  ⟨(some 48), none, .fldA 2 (.tf 2)⟩,
  ⟨(some 49), none, .load false 1 (.tf 48)⟩,
  ⟨(some 50), none, .mv (.t 7)⟩,
  ⟨(some 51), none, .ixA 3 (.t 49) (.t 50)⟩,
  ⟨(some 52), none, .fldA 2 (.t 51)⟩,
  ⟨(some 53), none, .load false 1 (.t 52)⟩,
  ⟨(some 6), none, .mv (.t 53)⟩]
@[go_sem] def l33 : List XO := [
  ⟨(some 38), none, .mv (.t 7)⟩,
  ⟨(some 39), none, .bin .add .no (.t 38) (.c (.int .i64 1))⟩,
  ⟨(some 7), none, .mv (.t 39)⟩]
def g0d : XCode :=
  (.seq (.seq (.reg l3z) (.cond (.t 37) .skip (.exit 2))) (.seq (.block 3 (.seq (.reg l31) (.cond (.t 47) (.reg l32) .skip))) (.reg l33)))
@[go_sem] def l3s : List XO := [
  ⟨(some 54), none, .mv (.t 5)⟩,
  ⟨(some 55), none, .mv (.t 8)⟩,
  ⟨(some 56), none, .mv (.t 6)⟩,
  ⟨(some 57), none, .ixA 1 (.t 54) (.t 55)⟩,
  ⟨none, none, .store 1 (.t 57) (.t 56)⟩]
@[go_sem] def l3t : List XO := [
  ⟨(some 58), none, .bin .add .no (.t 20) (.c (.int .i64 1))⟩,
  ⟨(some 20), none, .mv (.t 58)⟩]
def g0e : XCode :=
  (.seq (.reg l3x) (.seq (.cond (.t 21) .skip (.exit 0)) (.seq (.block 1 (.seq (.reg l3y) (.seq (.block 2 (.loop g0d)) (.reg l3s)))) (.reg l3t))))
@[go_sem] def l3u : List XO := [
  ⟨(some 59), none, .mv (.t 5)⟩,
  ⟨(some 4), none, .mv (.t 59)⟩]
def x_halls_rates : XFunc := { np := 2, res := [.t 4], body :=
  (.seq (.reg l3q) (.seq (.reg l3r) (.seq (.reg l3v) (.seq (.seq (.reg l3w) (.block 0 (.loop g0e))) (.seq (.reg l3u) .ret))))) }
@[go_sem] def l2a : List XO := [
  ⟨(some 2), none, .boxF (.t 0)⟩,
  ⟨(some 3), none, .boxF (.t 1)⟩,
  ⟨(some 4), none, .mv (.c (.bool false))⟩]
@[go_sem] def l2b : List XO := [
  ⟨(some 12), none, .fldA 0 (.tf 3)⟩,
  ⟨(some 13), none, .load false 1 (.tf 12)⟩,
  ⟨(some 14), none, .len false (.t 13)⟩,
  ⟨(some 15), none, .fldA 1 (.tf 2)⟩,
  ⟨(some 16), none, .load false 1 (.tf 15)⟩,
  ⟨(some 17), none, .len false (.t 16)⟩,
  ⟨(some 18), none, .bin .neq .no (.t 14) (.t 17)⟩,
  ⟨(some 19), none, .mv (.t 18)⟩,
  ⟨(some 20), (some (19, false)), .fldA 1 (.tf 3)⟩,
  ⟨(some 21), (some (19, false)), .load false 1 (.tf 20)⟩,
  ⟨(some 22), (some (19, false)), .len false (.t 21)⟩,
  ⟨(some 23), (some (19, false)), .fldA 1 (.tf 2)⟩,
  ⟨(some 24), (some (19, false)), .load false 1 (.tf 23)⟩,
  ⟨(some 25), (some (19, false)), .len false (.t 24)⟩,
  ⟨(some 26), (some (19, false)), .bin .neq .no (.t 22) (.t 25)⟩,
  ⟨(some 27), none, .pick (.t 19) (.c (.bool true)) (.t 26)⟩,
  ⟨(some 28), none, .mv (.t 27)⟩,
  ⟨(some 29), (some (28, false)), .fldA 2 (.tf 3)⟩,
  ⟨(some 30), (some (28, false)), .load false 1 (.tf 29)⟩,
  ⟨(some 31), (some (28, false)), .len false (.t 30)⟩,
  ⟨(some 32), (some (28, false)), .fldA 0 (.tf 2)⟩,
  ⟨(some 33), (some (28, false)), .load false 1 (.tf 32)⟩,
  ⟨(some 34), (some (28, false)), .len false (.t 33)⟩,
  ⟨(some 35), (some (28, false)), .bin .neq .no (.t 31) (.t 34)⟩,
  ⟨(some 36), none, .pick (.t 28) (.c (.bool true)) (.t 35)⟩]
@[go_sem] def l2k : List XO := [
  ⟨(some 4), none, .mv (.c (.bool false))⟩]
@[go_sem] def l2q : List XO := [
  ⟨(some 37), none, .fldA 1 (.tf 2)⟩,
  ⟨(some 38), none, .load false 1 (.tf 37)⟩,
  ⟨(some 39), none, .len false (.t 38)⟩,
  ⟨(some 40), none, .mv (.c (.int .i64 0))⟩]
@[go_sem] def l2r : List XO := [
  ⟨(some 41), none, .bin .lss .no (.t 40) (.t 39)⟩]
@[go_sem] def l2s : List XO := [
  ⟨(some 42), none, .mv (.t 40)⟩,
  ⟨(some 43), none, .ixA 3 (.t 38) (.t 40)⟩,
  ⟨(some 44), none, .load true 3 (.t 43)⟩,
  ⟨(some 6), none, .alloc [(.int .i64 0), (.int .i64 0), (.slice none 0 0)]⟩,
  ⟨(some 5), none, .mv (.t 42)⟩,
  ⟨none, none, .store 3 (.t 6) (.t 44)⟩]
@[go_sem] def l2t : List XO := [
  ⟨(some 45), none, .fldA 0 (.tf 3)⟩,
  ⟨(some 46), none, .load false 1 (.tf 45)⟩,
  ⟨(some 47), none, .mv (.t 5)⟩,
  ⟨(some 48), none, .ixA 1 (.t 46) (.t 47)⟩,
  ⟨(some 49), none, .load false 1 (.t 48)⟩,
  ⟨(some 50), none, .fldA 0 (.t 6)⟩,
  ⟨(some 51), none, .load true 2 (.t 50)⟩,
  ⟨(some 52), none, .call "newel/halls.in" [(.t 49), (.t 51)]⟩,
  ⟨(some 53), none, .un .not (.t 52)⟩,
  ⟨(some 54), none, .mv (.t 53)⟩,
  ⟨(some 55), (some (54, false)), .fldA 1 (.tf 3)⟩,
  ⟨(some 56), (some (54, false)), .load false 1 (.tf 55)⟩,
  ⟨(some 57), (some (54, false)), .mv (.t 5)⟩,
  ⟨(some 58), (some (54, false)), .ixA 1 (.t 56) (.t 57)⟩,
  ⟨(some 59), (some (54, false)), .load false 1 (.t 58)⟩,
  ⟨(some 60), (some (54, false)), .len false (.t 59)⟩,
  ⟨(some 61), (some (54, false)), .fldA 2 (.t 6)⟩,
  ⟨(some 62), (some (54, false)), .load false 1 (.t 61)⟩,
  ⟨(some 63), (some (54, false)), .len false (.t 62)⟩,
  ⟨(some 64), (some (54, false)), .bin .neq .no (.t 60) (.t 63)⟩,
  ⟨(some 65), none, .pick (.t 54) (.c (.bool true)) (.t 64)⟩]
@[go_sem] def l2u : List XO := [
  ⟨(some 4), none, .mv (.c (.bool false))⟩]
@[go_sem] def l2v : List XO := [
  ⟨(some 66), none, .fldA 2 (.t 6)⟩,
  ⟨(some 67), none, .load false 1 (.t 66)⟩,
  ⟨(some 68), none, .len false (.t 67)⟩,
  ⟨(some 69), none, .mv (.c (.int .i64 0))⟩]
@[go_sem] def l2w : List XO := [
  ⟨(some 70), none, .bin .lss .no (.t 69) (.t 68)⟩]
@[go_sem] def l2c : List XO := [
  ⟨(some 71), none, .mv (.t 69)⟩,
  ⟨(some 72), none, .ixA 3 (.t 67) (.t 69)⟩,
  ⟨(some 73), none, .load true 3 (.t 72)⟩,
  ⟨(some 8), none, .alloc [(.int .i64 0), (.int .i64 0), (.int .i64 0)]⟩,
  ⟨(some 7), none, .mv (.t 71)⟩,
  ⟨none, none, .store 3 (.t 8) (.t 73)⟩]
@[go_sem] def l2d : List XO := [
  ⟨(some 74), none, .fldA 1 (.tf 3)⟩,
  ⟨(some 75), none, .load false 1 (.tf 74)⟩,
  ⟨(some 76), none, .mv (.t 5)⟩,
  ⟨(some 77), none, .ixA 1 (.t 75) (.t 76)⟩,
  ⟨(some 78), none, .load false 1 (.t 77)⟩,
  ⟨(some 79), none, .mv (.t 7)⟩,
  ⟨(some 80), none, .ixA 1 (.t 78) (.t 79)⟩,
  ⟨(some 81), none, .load false 1 (.t 80)⟩,
  ⟨(some 82), none, .fldA 1 (.t 8)⟩,
  ⟨(some 83), none, .load true 2 (.t 82)⟩,
  ⟨(some 84), none, .call "newel/halls.in" [(.t 81), (.t 83)]⟩,
  ⟨(some 85), none, .un .not (.t 84)⟩]
@[go_sem] def l2e : List XO := [
  ⟨(some 4), none, .mv (.c (.bool false))⟩]
@[go_sem] def l2f : List XO := [
  ⟨(some 86), none, .bin .add .no (.t 69) (.c (.int .i64 1))⟩,
  ⟨(some 69), none, .mv (.t 86)⟩]
def d98 : XCode :=
  (.seq (.reg l2w) (.seq (.cond (.t 70) .skip (.exit 2)) (.seq (.block 3 (.seq (.reg l2c) (.seq (.reg l2d) (.cond (.t 85) (.seq (.reg l2e) .ret) .skip)))) (.reg l2f))))
@[go_sem] def l2g : List XO := [
  ⟨(some 87), none, .bin .add .no (.t 40) (.c (.int .i64 1))⟩,
  ⟨(some 40), none, .mv (.t 87)⟩]
def d99 : XCode :=
  (.seq (.reg l2r) (.seq (.cond (.t 41) .skip (.exit 0)) (.seq (.block 1 (.seq (.reg l2s) (.seq (.seq (.reg l2t) (.cond (.t 65) (.seq (.reg l2u) .ret) .skip)) (.seq (.reg l2v) (.block 2 (.loop d98)))))) (.reg l2g))))
@[go_sem] def l2h : List XO := [
  ⟨(some 88), none, .fldA 0 (.tf 2)⟩,
  ⟨(some 89), none, .load false 1 (.tf 88)⟩,
  ⟨(some 90), none, .len false (.t 89)⟩,
  ⟨(some 91), none, .mv (.c (.int .i64 0))⟩]
@[go_sem] def l2i : List XO := [
  ⟨(some 92), none, .bin .lss .no (.t 91) (.t 90)⟩]
@[go_sem] def l2j : List XO := [
  ⟨(some 93), none, .mv (.t 91)⟩,
  ⟨(some 94), none, .ixA 5 (.t 89) (.t 91)⟩,
  ⟨(some 95), none, .load true 5 (.t 94)⟩,
  ⟨(some 10), none, .alloc [(.int .i64 0), (.int .i64 0), (.int .i64 0), (.int .i64 0), (.int .i64 0)]⟩,
  ⟨(some 9), none, .mv (.t 93)⟩,
  ⟨none, none, .store 5 (.t 10) (.t 95)⟩]
@[go_sem] def l2l : List XO := [
  ⟨(some 96), none, .mkfn "newel/halls.isDay$1" [] [(.t 10)]⟩,
  ⟨(some 11), none, .mv (.t 96)⟩]
@[go_sem] def l2m : List XO := [
  ⟨(some 97), none, .fldA 2 (.tf 3)⟩,
  ⟨(some 98), none, .load false 1 (.tf 97)⟩,
  ⟨(some 99), none, .mv (.t 9)⟩,
  ⟨(some 100), none, .ixA 1 (.t 98) (.t 99)⟩,
  ⟨(some 101), none, .load false 1 (.t 100)⟩,
  ⟨(some 102), none, .len false (.t 101)⟩,
  ⟨(some 103), none, .bin .lss .no (.t 102) (.c (.int .i64 1))⟩,
  ⟨(some 104), none, .mv (.t 103)⟩,
  ⟨(some 105), (some (104, false)), .fldA 2 (.tf 3)⟩,
  ⟨(some 106), (some (104, false)), .load false 1 (.tf 105)⟩,
  ⟨(some 107), (some (104, false)), .mv (.t 9)⟩,
  ⟨(some 108), (some (104, false)), .ixA 1 (.t 106) (.t 107)⟩,
  ⟨(some 109), (some (104, false)), .load false 1 (.t 108)⟩,
  ⟨(some 110), (some (104, false)), .len false (.t 109)⟩,
  ⟨(some 111), (some (104, false)), .bin .gtr .no (.t 110) (.c (.int .i64 20))⟩,
  ⟨(some 112), none, .pick (.t 104) (.c (.bool true)) (.t 111)⟩,
  ⟨(some 113), none, .mv (.t 112)⟩,
  ⟨(some 114), (some (113, false)), .fldA 2 (.tf 3)⟩,
  ⟨(some 115), (some (113, false)), .load false 1 (.tf 114)⟩,
  ⟨(some 116), (some (113, false)), .mv (.t 9)⟩,
  ⟨(some 117), (some (113, false)), .ixA 1 (.t 115) (.t 116)⟩,
  ⟨(some 118), (some (113, false)), .load false 1 (.t 117)⟩,
  ⟨(some 119), (some (113, false)), .mv (.t 11)⟩,
  ⟨(some 120), (some (113, false)), .call "slices.ContainsFunc[[]int,int]" [(.t 118), (.t 119)]⟩,
  ⟨(some 121), none, .pick (.t 113) (.c (.bool true)) (.t 120)⟩]
@[go_sem] def l2n : List XO := [
  ⟨(some 4), none, .mv (.c (.bool false))⟩]
@[go_sem] def l2o : List XO := [
  ⟨(some 122), none, .bin .add .no (.t 91) (.c (.int .i64 1))⟩,
  ⟨(some 91), none, .mv (.t 122)⟩]
def g0a : XCode :=
  (.seq (.reg l2i) (.seq (.cond (.t 92) .skip (.exit 4)) (.seq (.block 5 (.seq (.reg l2j) (.seq (.reg l2l) (.seq (.reg l2m) (.cond (.t 121) (.seq (.reg l2n) .ret) .skip))))) (.reg l2o))))
@[go_sem] def l2p : List XO := [
  ⟨(some 4), none, .mv (.c (.bool true))⟩]
def x_halls_isDay : XFunc := { np := 2, res := [.t 4], body :=
  (.seq (.reg l2a) (.seq (.seq (.reg l2b) (.cond (.t 36) (.seq (.reg l2k) .ret) .skip)) (.seq (.seq (.reg l2q) (.block 0 (.loop d99))) (.seq (.seq (.reg l2h) (.block 4 (.loop g0a))) (.seq (.reg l2p) .ret))))) }
@[go_sem] def l7f : List XO := [
  ⟨(some 2), none, .boxF (.t 0)⟩,
  ⟨(some 3), none, .boxF (.t 1)⟩,
  ⟨(some 4), none, .mv (.c (.slice none 0 0))⟩,
  ⟨(some 5), none, .mv (.c (.slice none 0 0))⟩,
  ⟨(some 6), none, .mv (.c (.slice none 0 0))⟩]
@[go_sem] def l7g : List XO := [
  ⟨(some 16), none, .fldA 0 (.tf 2)⟩,
  ⟨(some 17), none, .load false 1 (.tf 16)⟩,
  ⟨(some 18), none, .len false (.t 17)⟩,
  ⟨(some 7), none, .mv (.t 18)⟩]
@[go_sem] def l7p : List XO := [
  ⟨(some 8), none, .mv (.c (.int .i64 0))⟩]
@[go_sem] def l70 : List XO := [
  ⟨(some 19), none, .mv (.t 8)⟩,
  ⟨(some 20), none, .fldA 3 (.tf 2)⟩,
  ⟨(some 21), none, .load false 1 (.tf 20)⟩,
  ⟨(some 22), none, .bin .lss .no (.t 19) (.t 21)⟩]
@[go_sem] def l74 : List XO := [
  ⟨(some 25), none, .mv (.t 4)⟩,
  ⟨(some 26), none, .mv (.t 7)⟩,
  ⟨(some 27), none, .mksl 1 [(.int .i64 0)] 8 (.t 26) (.t 26)⟩,
  ⟨(some 28), none, .bsl 1 [(.t 27)]⟩,
  ⟨(some 29), none, .app 1 24 (.t 25) (.t 28)⟩,
  ⟨(some 4), none, .mv (.t 29)⟩]
@[go_sem] def l75 : List XO := [
  ⟨(some 30), none, .mv (.t 5)⟩,
  ⟨(some 31), none, .mv (.t 7)⟩,
  ⟨(some 32), none, .mksl 1 [(.int .i64 0)] 8 (.t 31) (.t 31)⟩,
  ⟨(some 33), none, .bsl 1 [(.t 32)]⟩,
  ⟨(some 34), none, .app 1 24 (.t 30) (.t 33)⟩,
  ⟨(some 5), none, .mv (.t 34)⟩]
@[go_sem] def l77 : List XO := [
  ⟨(some 35), none, .mv (.t 6)⟩,
  ⟨(some 36), none, .mv (.t 7)⟩,
  ⟨(some 37), none, .mksl 1 [(.int .i64 0)] 8 (.t 36) (.t 36)⟩,
  ⟨(some 38), none, .bsl 1 [(.t 37)]⟩,
  ⟨(some 39), none, .app 1 24 (.t 35) (.t 38)⟩,
  ⟨(some 6), none, .mv (.t 39)⟩]
@[go_sem] def l78 : List XO := [
  ⟨(some 23), none, .mv (.t 8)⟩,
  ⟨(some 24), none, .bin .add .no (.t 23) (.c (.int .i64 1))⟩,
  ⟨(some 8), none, .mv (.t 24)⟩]
def g0v : XCode :=
  (.seq (.seq (.reg l70) (.cond (.t 22) .skip (.exit 0))) (.seq (.block 1 (.seq (.reg l74) (.seq (.reg l75) (.reg l77)))) (.reg l78)))
@[go_sem] def l79 : List XO := [
  ⟨(some 9), none, .mv (.c (.int .i64 0))⟩]
@[go_sem] def l7h : List XO := [
  ⟨(some 40), none, .mv (.t 9)⟩,
  ⟨(some 41), none, .fldA 1 (.tf 2)⟩,
  ⟨(some 42), none, .load false 1 (.tf 41)⟩,
  ⟨(some 43), none, .len false (.t 42)⟩,
  ⟨(some 44), none, .bin .lss .no (.t 40) (.t 43)⟩]
@[go_sem] def l7i : List XO := [
  ⟨(some 10), none, .mv (.c (.int .i64 0))⟩]
@[go_sem] def l7j : List XO := [
  ⟨(some 47), none, .mv (.t 10)⟩,
  ⟨(some 48), none, .fldA 1 (.tf 2)⟩,
  ⟨(some 49), none, .load false 1 (.tf 48)⟩,
  ⟨(some 50), none, .mv (.t 9)⟩,
  ⟨(some 51), none, .ixA 3 (.t 49) (.t 50)⟩,
  ⟨(some 52), none, .fldA 2 (.t 51)⟩,
  ⟨(some 53), none, .load false 1 (.t 52)⟩,
  ⟨(some 54), none, .len false (.t 53)⟩,
  ⟨(some 55), none, .bin .lss .no (.t 47) (.t 54)⟩]
@[go_sem] def l7k : List XO := [
  ⟨(some 58), none, .mv (.t 4)⟩,
  ⟨(some 59), none, .fldA 0 (.tf 3)⟩,
  ⟨(some 60), none, .load false 1 (.tf 59)⟩,
  ⟨(some 61), none, .mv (.t 9)⟩,
  ⟨(some 62), none, .ixA 1 (.t 60) (.t 61)⟩,
  ⟨(some 63), none, .load false 1 (.t 62)⟩,
  ⟨(some 64), none, .ixA 1 (.t 58) (.t 63)⟩,
  ⟨(some 65), none, .load false 1 (.t 64)⟩,
  ⟨(some 66), none, .fldA 1 (.tf 2)⟩,
  ⟨(some 67), none, .load false 1 (.tf 66)⟩,
  ⟨(some 68), none, .mv (.t 9)⟩,
  ⟨(some 69), none, .ixA 3 (.t 67) (.t 68)⟩,
  ⟨(some 70), none, .fldA 2 (.t 69)⟩,
  ⟨(some 71), none, .load false 1 (.t 70)⟩,
  ⟨(some 72), none, .mv (.t 10)⟩,
  ⟨(some 73), none, .ixA 3 (.t 71) (.t 72)⟩,
  ⟨(some 74), none, .fldA 0 (.t 73)⟩,
  ⟨(some 75), none, .load false 1 (.t 74)⟩,
  ⟨(some 76), none, .ixA 1 (.t 65) (.t 75)⟩,
  ⟨(some 77), none, .load false 1 (.t 76)⟩,
  ⟨(some 78), none, .fldA 1 (.tf 3)⟩,
  ⟨(some 79), none, .load false 1 (.tf 78)⟩,
  ⟨(some 80), none, .mv (.t 9)⟩,
  ⟨(some 81), none, .ixA 1 (.t 79) (.t 80)⟩,
  ⟨(some 82), none, .load false 1 (.t 81)⟩,
  ⟨(some 83), none, .mv (.t 10)⟩,
  ⟨(some 84), none, .ixA 1 (.t 82) (.t 83)⟩,
  ⟨(some 85), none, .load false 1 (.t 84)⟩,
  ⟨(some 86), none, .bin .add .no (.t 77) (.t 85)⟩,
  ⟨(some 87), none, .ixA 1 (.t 65) (.t 75)⟩,
  ⟨none, none, .store 1 (.t 87) (.t 86)⟩]
@[go_sem] def l7l : List XO := [
  ⟨(some 56), none, .mv (.t 10)⟩,
  ⟨(some 57), none, .bin .add .no (.t 56) (.c (.int .i64 1))⟩,
  ⟨(some 10), none, .mv (.t 57)⟩]
def g0r : XCode :=
  (.seq (.seq (.reg l7j) (.cond (.t 55) .skip (.exit 4))) (.seq (.block 5 (.reg l7k)) (.reg l7l)))
@[go_sem] def l7m : List XO := [
  ⟨(some 45), none, .mv (.t 9)⟩,
  ⟨(some 46), none, .bin .add .no (.t 45) (.c (.int .i64 1))⟩,
  ⟨(some 9), none, .mv (.t 46)⟩]
def g0s : XCode :=
  (.seq (.seq (.reg l7h) (.cond (.t 44) .skip (.exit 2))) (.seq (.block 3 (.seq (.reg l7i) (.block 4 (.loop g0r)))) (.reg l7m)))
@[go_sem] def l7n : List XO := [
  ⟨(some 11), none, .mv (.c (.int .i64 0))⟩]
@[go_sem] def l7o : List XO := [
  ⟨(some 88), none, .mv (.t 11)⟩,
  ⟨(some 89), none, .mv (.t 7)⟩,
  ⟨(some 90), none, .bin .lss .no (.t 88) (.t 89)⟩]
@[go_sem] def l7q : List XO := [
  ⟨(some 93), none, .load true 4 (.tf 2)⟩,
  ⟨(some 94), none, .mv (.t 11)⟩,
  ⟨(some 95), none, .call "newel/newelref06.rates" [(.t 93), (.t 94)]⟩,
  ⟨(some 12), none, .mv (.t 95)⟩]
@[go_sem] def l7r : List XO := [
  ⟨(some 13), none, .mv (.c (.int .i64 0))⟩]
@[go_sem] def l7s : List XO := [
  ⟨(some 14), none, .mv (.c (.int .i64 0))⟩]
@[go_sem] def l7t : List XO := [
  ⟨(some 96), none, .mv (.t 14)⟩,
  ⟨(some 97), none, .fldA 3 (.tf 2)⟩,
  ⟨(some 98), none, .load false 1 (.tf 97)⟩,
  ⟨(some 99), none, .bin .lss .no (.t 96) (.t 98)⟩]
@[go_sem] def l7u : List XO := [
  ⟨(some 102), none, .mv (.t 5)⟩,
  ⟨(some 103), none, .mv (.t 14)⟩,
  ⟨(some 104), none, .ixA 1 (.t 102) (.t 103)⟩,
  ⟨(some 105), none, .load false 1 (.t 104)⟩,
  ⟨(some 106), none, .mv (.t 11)⟩,
  ⟨(some 107), none, .mv (.t 13)⟩,
  ⟨(some 108), none, .mv (.t 4)⟩,
  ⟨(some 109), none, .mv (.t 14)⟩,
  ⟨(some 110), none, .ixA 1 (.t 108) (.t 109)⟩,
  ⟨(some 111), none, .load false 1 (.t 110)⟩,
  ⟨(some 112), none, .mv (.t 11)⟩,
  ⟨(some 113), none, .ixA 1 (.t 111) (.t 112)⟩,
  ⟨(some 114), none, .load false 1 (.t 113)⟩,
  ⟨(some 115), none, .bin .add .no (.t 107) (.t 114)⟩,
  ⟨(some 116), none, .ixA 1 (.t 105) (.t 106)⟩,
  ⟨none, none, .store 1 (.t 116) (.t 115)⟩]
@[go_sem] def l7v : List XO := [
  ⟨(some 117), none, .mv (.t 6)⟩,
  ⟨(some 118), none, .mv (.t 14)⟩,
  ⟨(some 119), none, .ixA 1 (.t 117) (.t 118)⟩,
  ⟨(some 120), none, .load false 1 (.t 119)⟩,
  ⟨(some 121), none, .mv (.t 11)⟩,
  ⟨(some 122), none, .mv (.t 5)⟩,
  ⟨(some 123), none, .mv (.t 14)⟩,
  ⟨(some 124), none, .ixA 1 (.t 122) (.t 123)⟩,
  ⟨(some 125), none, .load false 1 (.t 124)⟩,
  ⟨(some 126), none, .mv (.t 11)⟩,
  ⟨(some 127), none, .ixA 1 (.t 125) (.t 126)⟩,
  ⟨(some 128), none, .load false 1 (.t 127)⟩,
  ⟨(some 129), none, .mv (.t 12)⟩,
  ⟨(some 130), none, .mv (.t 14)⟩,
  ⟨(some 131), none, .ixA 1 (.t 129) (.t 130)⟩,
  ⟨(some 132), none, .load false 1 (.t 131)⟩,
  ⟨(some 133), none, .min [(.t 128), (.t 132)]⟩,
  ⟨(some 134), none, .ixA 1 (.t 120) (.t 121)⟩,
  ⟨none, none, .store 1 (.t 134) (.t 133)⟩]
@[go_sem] def l7w : List XO := [
  ⟨(some 135), none, .mv (.t 5)⟩,
  ⟨(some 136), none, .mv (.t 14)⟩,
  ⟨(some 137), none, .ixA 1 (.t 135) (.t 136)⟩,
  ⟨(some 138), none, .load false 1 (.t 137)⟩,
  ⟨(some 139), none, .mv (.t 11)⟩,
  ⟨(some 140), none, .ixA 1 (.t 138) (.t 139)⟩,
  ⟨(some 141), none, .load false 1 (.t 140)⟩,
  ⟨(some 142), none, .mv (.t 6)⟩,
  ⟨(some 143), none, .mv (.t 14)⟩,
  ⟨(some 144), none, .ixA 1 (.t 142) (.t 143)⟩,
  ⟨(some 145), none, .load false 1 (.t 144)⟩,
  ⟨(some 146), none, .mv (.t 11)⟩,
  ⟨(some 147), none, .ixA 1 (.t 145) (.t 146)⟩,
  ⟨(some 148), none, .load false 1 (.t 147)⟩,
  ⟨(some 149), none, .bin .sub .no (.t 141) (.t 148)⟩,
  ⟨(some 13), none, .mv (.t 149)⟩]
@[go_sem] def l7x : List XO := [
  ⟨(some 150), none, .mv (.t 14)⟩,
  ⟨(some 151), none, .fldA 2 (.tf 3)⟩,
  ⟨(some 152), none, .load false 1 (.tf 151)⟩,
  ⟨(some 153), none, .mv (.t 11)⟩,
  ⟨(some 154), none, .ixA 1 (.t 152) (.t 153)⟩,
  ⟨(some 155), none, .load false 1 (.t 154)⟩,
  ⟨(some 156), none, .mv (.t 14)⟩,
  ⟨(some 157), none, .fldA 2 (.tf 3)⟩,
  ⟨(some 158), none, .load false 1 (.tf 157)⟩,
  ⟨(some 159), none, .mv (.t 11)⟩,
  ⟨(some 160), none, .ixA 1 (.t 158) (.t 159)⟩,
  ⟨(some 161), none, .load false 1 (.t 160)⟩,
  ⟨(some 162), none, .len false (.t 161)⟩,
  ⟨(some 163), none, .bin .rem .no (.t 156) (.t 162)⟩,
  ⟨(some 164), none, .ixA 1 (.t 155) (.t 163)⟩,
  ⟨(some 165), none, .load false 1 (.t 164)⟩,
  ⟨(some 166), none, .bin .add .no (.t 150) (.t 165)⟩,
  ⟨(some 15), none, .mv (.t 166)⟩]
@[go_sem] def l7y : List XO := [
  ⟨(some 167), none, .fldA 0 (.tf 2)⟩,
  ⟨(some 168), none, .load false 1 (.tf 167)⟩,
  ⟨(some 169), none, .mv (.t 11)⟩,
  ⟨(some 170), none, .ixA 5 (.t 168) (.t 169)⟩,
  ⟨(some 171), none, .fldA 2 (.t 170)⟩,
  ⟨(some 172), none, .load false 1 (.t 171)⟩,
  ⟨(some 173), none, .bin .geq .no (.t 172) (.c (.int .i64 0))⟩,
  ⟨(some 174), none, .mv (.t 173)⟩,
  ⟨(some 175), (some (174, true)), .mv (.t 15)⟩,
  ⟨(some 176), (some (174, true)), .fldA 3 (.tf 2)⟩,
  ⟨(some 177), (some (174, true)), .load false 1 (.tf 176)⟩,
  ⟨(some 178), (some (174, true)), .bin .lss .no (.t 175) (.t 177)⟩,
  ⟨(some 179), none, .pick (.t 174) (.t 178) (.c (.bool false))⟩]
@[go_sem] def l7z : List XO := [
  ⟨(some 180), none, .mv (.t 4)⟩,
  ⟨(some 181), none, .mv (.t 15)⟩,
  ⟨(some 182), none, .ixA 1 (.t 180) (.t 181)⟩,
  ⟨(some 183), none, .load false 1 (.t 182)⟩,
  ⟨(some 184), none, .fldA 0 (.tf 2)⟩,
  ⟨(some 185), none, .load false 1 (.tf 184)⟩,
  ⟨(some 186), none, .mv (.t 11)⟩,
  ⟨(some 187), none, .ixA 5 (.t 185) (.t 186)⟩,
  ⟨(some 188), none, .fldA 2 (.t 187)⟩,
  ⟨(some 189), none, .load false 1 (.t 188)⟩,
  ⟨(some 190), none, .ixA 1 (.t 183) (.t 189)⟩,
  ⟨(some 191), none, .load false 1 (.t 190)⟩,
  ⟨(some 192), none, .mv (.t 6)⟩,
  ⟨(some 193), none, .mv (.t 14)⟩,
  ⟨(some 194), none, .ixA 1 (.t 192) (.t 193)⟩,
  ⟨(some 195), none, .load false 1 (.t 194)⟩,
  ⟨(some 196), none, .mv (.t 11)⟩,
  ⟨(some 197), none, .ixA 1 (.t 195) (.t 196)⟩,
  ⟨(some 198), none, .load false 1 (.t 197)⟩,
  ⟨(some 199), none, .bin .add .no (.t 191) (.t 198)⟩,
  ⟨(some 200), none, .ixA 1 (.t 183) (.t 189)⟩,
  ⟨none, none, .store 1 (.t 200) (.t 199)⟩]
@[go_sem] def l71 : List XO := [
  ⟨(some 100), none, .mv (.t 14)⟩,
  ⟨(some 101), none, .bin .add .no (.t 100) (.c (.int .i64 1))⟩,
  ⟨(some 14), none, .mv (.t 101)⟩]
def g0t : XCode :=
  (.seq (.seq (.reg l7t) (.cond (.t 99) .skip (.exit 8))) (.seq (.block 9 (.seq (.reg l7u) (.seq (.reg l7v) (.seq (.reg l7w) (.seq (.reg l7x) (.seq (.reg l7y) (.cond (.t 179) (.reg l7z) .skip))))))) (.reg l71)))
@[go_sem] def l72 : List XO := [
  ⟨(some 91), none, .mv (.t 11)⟩,
  ⟨(some 92), none, .bin .add .no (.t 91) (.c (.int .i64 1))⟩,
  ⟨(some 11), none, .mv (.t 92)⟩]
def g0u : XCode :=
  (.seq (.seq (.reg l7o) (.cond (.t 90) .skip (.exit 6))) (.seq (.block 7 (.seq (.reg l7q) (.seq (.reg l7r) (.seq (.reg l7s) (.block 8 (.loop g0t)))))) (.reg l72)))
@[go_sem] def l73 : List XO := [
  ⟨(some 201), none, .mv (.t 4)⟩,
  ⟨(some 202), none, .mv (.t 5)⟩,
  ⟨(some 203), none, .mv (.t 6)⟩,
  ⟨(some 4), none, .mv (.t 201)⟩,
  ⟨(some 5), none, .mv (.t 202)⟩,
  ⟨(some 6), none, .mv (.t 203)⟩]
def x_r06_Run : XFunc := { np := 2, res := [.t 4, .t 5, .t 6], body :=
  (.seq (.reg l7f) (.seq (.reg l7g) (.seq (.seq (.reg l7p) (.block 0 (.loop g0v))) (.seq (.seq (.reg l79) (.block 2 (.loop g0s))) (.seq (.seq (.reg l7n) (.block 6 (.loop g0u))) (.seq (.reg l73) .ret)))))) }
@[go_sem] def l12 : List XO := [
  ⟨(some 2), none, .boxF (.t 0)⟩,
  ⟨(some 4), none, .mv (.c (.bool false))⟩]
@[go_sem] def l15 : List XO := [
  ⟨(some 6), none, .fldA 0 (.tf 2)⟩,
  ⟨(some 7), none, .load false 1 (.tf 6)⟩,
  ⟨(some 8), none, .mv (.t 1)⟩,
  ⟨(some 9), none, .ixA 5 (.t 7) (.t 8)⟩,
  ⟨(some 10), none, .load true 5 (.t 9)⟩,
  ⟨(some 5), none, .alloc [(.int .i64 0), (.int .i64 0), (.int .i64 0), (.int .i64 0), (.int .i64 0)]⟩,
  ⟨none, none, .store 5 (.t 5) (.t 10)⟩]
@[go_sem] def l17 : List XO := [
  ⟨(some 11), none, .fldA 0 (.t 5)⟩,
  ⟨(some 12), none, .load false 1 (.t 11)⟩,
  ⟨(some 13), none, .build [(.int .i64 0), (.int .i64 0)] [(1, 1, (.c (.int .i64 1000)))]⟩,
  ⟨(some 14), none, .call "newel/halls.in" [(.t 12), (.t 13)]⟩,
  ⟨(some 15), none, .mv (.t 14)⟩,
  ⟨(some 16), (some (15, true)), .fldA 1 (.t 5)⟩,
  ⟨(some 17), (some (15, true)), .load false 1 (.t 16)⟩,
  ⟨(some 18), (some (15, true)), .build [(.int .i64 0), (.int .i64 0)] [(1, 1, (.c (.int .i64 100000)))]⟩,
  ⟨(some 19), (some (15, true)), .call "newel/halls.in" [(.t 17), (.t 18)]⟩,
  ⟨(some 20), none, .pick (.t 15) (.t 19) (.c (.bool false))⟩,
  ⟨(some 21), none, .mv (.t 20)⟩,
  ⟨(some 22), (some (21, true)), .fldA 2 (.t 5)⟩,
  ⟨(some 23), (some (21, true)), .load false 1 (.t 22)⟩,
  ⟨(some 24), (some (21, true)), .bin .eql .no (.t 23) (.c (.int .i64 (-1)))⟩,
  ⟨(some 25), (some (21, true)), .mv (.t 24)⟩,
  ⟨(some 26), (some (25, false)), .fldA 2 (.t 5)⟩,
  ⟨(some 27), (some (25, false)), .load false 1 (.t 26)⟩,
  ⟨(some 28), (some (25, false)), .mv (.t 1)⟩,
  ⟨(some 29), (some (25, false)), .bin .gtr .no (.t 27) (.t 28)⟩,
  ⟨(some 30), (some (25, false)), .mv (.t 29)⟩,
  ⟨(some 31), (some (30, true)), .fldA 2 (.t 5)⟩,
  ⟨(some 32), (some (30, true)), .load false 1 (.t 31)⟩,
  ⟨(some 33), (some (30, true)), .fldA 0 (.tf 2)⟩,
  ⟨(some 34), (some (30, true)), .load false 1 (.tf 33)⟩,
  ⟨(some 35), (some (30, true)), .len false (.t 34)⟩,
  ⟨(some 36), (some (30, true)), .bin .lss .no (.t 32) (.t 35)⟩,
  ⟨(some 37), (some (25, false)), .pick (.t 30) (.t 36) (.c (.bool false))⟩,
  ⟨(some 38), (some (21, true)), .pick (.t 25) (.c (.bool true)) (.t 37)⟩,
  ⟨(some 39), none, .pick (.t 21) (.t 38) (.c (.bool false))⟩,
  ⟨(some 40), none, .mv (.t 39)⟩,
  ⟨(some 41), (some (40, true)), .fldA 3 (.t 5)⟩,
  ⟨(some 42), (some (40, true)), .load true 2 (.t 41)⟩,
  ⟨(some 43), (some (40, true)), .call "newel/halls.span" [(.t 42), (.c (.int .i64 1)), (.c (.int .i64 20))]⟩,
  ⟨(some 44), none, .pick (.t 40) (.t 43) (.c (.bool false))⟩,
  ⟨(some 4), none, .mv (.t 44)⟩]
def x_halls_isComb : XFunc := { np := 2, res := [.t 4], body :=
  (.seq (.reg l12) (.seq (.reg l15) (.seq (.reg l17) .ret))) }
@[go_sem] def l81 : List XO := [
  ⟨(some 4), none, .mv (.c (.bool false))⟩]
@[go_sem] def l82 : List XO := [
  ⟨(some 5), none, .mv (.t 0)⟩,
  ⟨(some 6), none, .mv (.t 1)⟩,
  ⟨(some 7), none, .call "slices.IndexFunc[[]newel/api.Train,newel/api.Train]" [(.t 5), (.t 6)]⟩,
  ⟨(some 8), none, .bin .geq .no (.t 7) (.c (.int .i64 0))⟩,
  ⟨(some 4), none, .mv (.t 8)⟩]
def x_slices_ContainsFunc___api_Train_api_Train_ : XFunc := { np := 2, res := [.t 4], body :=
  (.seq (.reg l81) (.seq (.reg l82) .ret)) }
@[go_sem] def j7z : List XO := [
  ⟨(some 2), none, .boxF (.t 0)⟩,
  ⟨(some 3), none, .mv (.c (.bool false))⟩]
@[go_sem] def j70 : List XO := [
  ⟨(some 4), none, .load true 4 (.t 1)⟩,
  ⟨(some 5), none, .load true 3 (.tf 2)⟩,
  ⟨(some 6), none, .call "newel/halls.isTrain" [(.t 4), (.t 5)]⟩,
  ⟨(some 7), none, .un .not (.t 6)⟩,
  ⟨(some 3), none, .mv (.t 7)⟩]
def x_halls_CheckD1 : XFunc := { np := 2, res := [.t 3], body :=
  (.seq (.reg j7z) (.seq (.reg j70) .ret)) }
@[go_sem] def l2x : List XO := [
  ⟨(some 2), none, .boxF (.t 0)⟩,
  ⟨(some 3), none, .boxF (.t 1)⟩,
  ⟨(some 4), none, .mv (.c (.bool false))⟩]
@[go_sem] def l2y : List XO := [
  ⟨(some 5), none, .mv (.c (.int .i64 (-1)))⟩]
@[go_sem] def l20 : List XO := [
  ⟨(some 8), none, .fldA 2 (.tf 3)⟩,
  ⟨(some 9), none, .load false 1 (.tf 8)⟩,
  ⟨(some 10), none, .len false (.t 9)⟩,
  ⟨(some 11), none, .mv (.c (.int .i64 0))⟩]
@[go_sem] def l21 : List XO := [
  ⟨(some 12), none, .bin .lss .no (.t 11) (.t 10)⟩]
@[go_sem] def l23 : List XO := [
  ⟨(some 13), none, .ixA 3 (.t 9) (.t 11)⟩,
  ⟨(some 14), none, .load true 3 (.t 13)⟩,
  ⟨(some 7), none, .alloc [(.int .i64 0), (.int .i64 0), (.int .i64 0)]⟩,
  ⟨none, none, .store 3 (.t 7) (.t 14)⟩]
@[go_sem] def l24 : List XO := [
  ⟨(some 15), none, .fldA 0 (.t 7)⟩,
  ⟨(some 16), none, .load false 1 (.t 15)⟩,
  ⟨(some 17), none, .mv (.t 5)⟩,
  ⟨(some 18), none, .bin .leq .no (.t 16) (.t 17)⟩,
  ⟨(some 19), none, .mv (.t 18)⟩,
  ⟨(some 20), (some (19, false)), .fldA 0 (.t 7)⟩,
  ⟨(some 21), (some (19, false)), .load false 1 (.t 20)⟩,
  ⟨(some 22), (some (19, false)), .fldA 0 (.tf 2)⟩,
  ⟨(some 23), (some (19, false)), .load false 1 (.tf 22)⟩,
  ⟨(some 24), (some (19, false)), .len false (.t 23)⟩,
  ⟨(some 25), (some (19, false)), .bin .geq .no (.t 21) (.t 24)⟩,
  ⟨(some 26), none, .pick (.t 19) (.c (.bool true)) (.t 25)⟩,
  ⟨(some 27), none, .mv (.t 26)⟩,
  ⟨(some 28), (some (27, false)), .fldA 1 (.t 7)⟩,
  ⟨(some 29), (some (27, false)), .load true 2 (.t 28)⟩,
  ⟨(some 30), (some (27, false)), .call "newel/halls.span" [(.t 29), (.c (.int .i64 0)), (.c (.int .i64 1000))]⟩,
  ⟨(some 31), (some (27, false)), .un .not (.t 30)⟩,
  ⟨(some 32), none, .pick (.t 27) (.c (.bool true)) (.t 31)⟩]
@[go_sem] def l25 : List XO := [
  ⟨(some 4), none, .mv (.c (.bool false))⟩]
@[go_sem] def l26 : List XO := [
  ⟨(some 33), none, .fldA 0 (.t 7)⟩,
  ⟨(some 34), none, .load false 1 (.t 33)⟩,
  ⟨(some 5), none, .mv (.t 34)⟩]
@[go_sem] def l27 : List XO := [
  ⟨(some 35), none, .bin .add .no (.t 11) (.c (.int .i64 1))⟩,
  ⟨(some 11), none, .mv (.t 35)⟩]
def g0b : XCode :=
  (.seq (.reg l21) (.seq (.cond (.t 12) .skip (.exit 0)) (.seq (.block 1 (.seq (.reg l23) (.seq (.seq (.reg l24) (.cond (.t 32) (.seq (.reg l25) .ret) .skip)) (.reg l26)))) (.reg l27))))
@[go_sem] def l2z : List XO := [
  ⟨(some 36), none, .fldA 0 (.tf 3)⟩,
  ⟨(some 37), none, .load true 2 (.tf 36)⟩,
  ⟨(some 38), none, .fldA 3 (.tf 2)⟩,
  ⟨(some 39), none, .load false 1 (.tf 38)⟩,
  ⟨(some 40), none, .bin .sub .no (.t 39) (.c (.int .i64 1))⟩,
  ⟨(some 41), none, .call "newel/halls.span" [(.t 37), (.c (.int .i64 0)), (.t 40)]⟩,
  ⟨(some 42), none, .mv (.t 41)⟩,
  ⟨(some 43), (some (42, true)), .fldA 2 (.tf 3)⟩,
  ⟨(some 44), (some (42, true)), .load false 1 (.tf 43)⟩,
  ⟨(some 45), (some (42, true)), .len false (.t 44)⟩,
  ⟨(some 46), (some (42, true)), .bin .leq .no (.t 45) (.c (.int .i64 4))⟩,
  ⟨(some 47), none, .pick (.t 42) (.t 46) (.c (.bool false))⟩,
  ⟨(some 4), none, .mv (.t 47)⟩]
def x_halls_isTrain : XFunc := { np := 2, res := [.t 4], body :=
  (.seq (.reg l2x) (.seq (.reg l2y) (.seq (.seq (.reg l20) (.block 0 (.loop g0b))) (.seq (.reg l2z) .ret)))) }
@[go_sem] def l1z : List XO := [
  ⟨(some 3), none, .boxF (.t 1)⟩,
  ⟨(some 4), none, .mv (.c (.bool false))⟩]
@[go_sem] def l11 : List XO := [
  ⟨(some 5), none, .fldA 0 (.tf 3)⟩,
  ⟨(some 6), none, .load false 1 (.tf 5)⟩,
  ⟨(some 7), none, .mv (.t 0)⟩,
  ⟨(some 8), none, .bin .leq .no (.t 6) (.t 7)⟩,
  ⟨(some 9), none, .mv (.t 8)⟩,
  ⟨(some 10), (some (9, true)), .mv (.t 0)⟩,
  ⟨(some 11), (some (9, true)), .fldA 1 (.tf 3)⟩,
  ⟨(some 12), (some (9, true)), .load false 1 (.tf 11)⟩,
  ⟨(some 13), (some (9, true)), .bin .leq .no (.t 10) (.t 12)⟩,
  ⟨(some 14), none, .pick (.t 9) (.t 13) (.c (.bool false))⟩,
  ⟨(some 4), none, .mv (.t 14)⟩]
def x_halls_in : XFunc := { np := 2, res := [.t 4], body :=
  (.seq (.reg l1z) (.seq (.reg l11) .ret)) }
@[go_sem] def l83 : List XO := [
  ⟨(some 4), none, .mv (.c (.bool false))⟩]
@[go_sem] def l84 : List XO := [
  ⟨(some 5), none, .mv (.t 0)⟩,
  ⟨(some 6), none, .mv (.t 1)⟩,
  ⟨(some 7), none, .call "slices.IndexFunc[[]int,int]" [(.t 5), (.t 6)]⟩,
  ⟨(some 8), none, .bin .geq .no (.t 7) (.c (.int .i64 0))⟩,
  ⟨(some 4), none, .mv (.t 8)⟩]
def x_slices_ContainsFunc___int_int_ : XFunc := { np := 2, res := [.t 4], body :=
  (.seq (.reg l83) (.seq (.reg l84) .ret)) }
@[go_sem] def l1q : List XO := [
  ⟨(some 3), none, .mv (.c (.bool false))⟩]
@[go_sem] def l1r : List XO := [
  ⟨(some 4), none, .mv (.t 0)⟩,
  ⟨(some 5), none, .bin .lss .no (.t 4) (.c (.int .i64 0))⟩,
  ⟨(some 6), none, .mv (.t 5)⟩,
  ⟨(some 7), (some (6, false)), .mv (.t 0)⟩,
  ⟨(some 8), (some (6, false)), .fldA 3 (.t 1)⟩,
  ⟨(some 9), (some (6, false)), .load false 1 (.t 8)⟩,
  ⟨(some 10), (some (6, false)), .bin .geq .no (.t 7) (.t 9)⟩,
  ⟨(some 11), none, .pick (.t 6) (.c (.bool true)) (.t 10)⟩,
  ⟨(some 3), none, .mv (.t 11)⟩]
def x_halls_checkD1 : XFunc := { np := 2, res := [.t 3], body :=
  (.seq (.reg l1q) (.seq (.reg l1r) .ret)) }
@[go_sem] def l9f : List XO := [
  ⟨(some 4), none, .mv (.c (.int .i64 0))⟩]
@[go_sem] def l9g : List XO := [
  ⟨(some 6), none, .mv (.t 0)⟩,
  ⟨(some 7), none, .len false (.t 6)⟩,
  ⟨(some 8), none, .mv (.c (.int .i64 0))⟩]
@[go_sem] def l9h : List XO := [
  ⟨(some 9), none, .bin .lss .no (.t 8) (.t 7)⟩]
@[go_sem] def l9i : List XO := [
  ⟨(some 10), none, .mv (.t 8)⟩,
  ⟨(some 5), none, .mv (.t 10)⟩]
@[go_sem] def l9j : List XO := [
  ⟨(some 11), none, .mv (.t 1)⟩,
  ⟨(some 12), none, .mv (.t 0)⟩,
  ⟨(some 13), none, .mv (.t 5)⟩,
  ⟨(some 14), none, .ixA 1 (.t 12) (.t 13)⟩,
  ⟨(some 15), none, .load false 1 (.t 14)⟩,
  ⟨(some 16), none, .callv (.t 11) [(.t 15)]⟩]
@[go_sem] def l9k : List XO := [
  ⟨(some 17), none, .mv (.t 5)⟩,
  ⟨(some 4), none, .mv (.t 17)⟩]
@[go_sem] def l9l : List XO := [
  ⟨(some 18), none, .bin .add .no (.t 8) (.c (.int .i64 1))⟩,
  ⟨(some 8), none, .mv (.t 18)⟩]
def g00 : XCode :=
  (.seq (.reg l9h) (.seq (.cond (.t 9) .skip (.exit 0)) (.seq (.block 1 (.seq (.reg l9i) (.seq (.reg l9j) (.cond (.t 16) (.seq (.reg l9k) .ret) .skip)))) (.reg l9l))))
@[go_sem] def l9m : List XO := [
  ⟨(some 4), none, .mv (.c (.int .i64 (-1)))⟩]
def x_slices_IndexFunc___int_int_ : XFunc := { np := 2, res := [.t 4], body :=
  (.seq (.reg l9f) (.seq (.seq (.reg l9g) (.block 0 (.loop g00))) (.seq (.reg l9m) .ret))) }
@[go_sem] def l3f : List XO := [
  ⟨(some 4), none, .mv (.c (.bool false))⟩]
@[go_sem] def l3g : List XO := [
  ⟨(some 5), none, .mv (.t 0)⟩,
  ⟨(some 6), none, .fldA 0 (.t 1)⟩,
  ⟨(some 7), none, .load false 1 (.t 6)⟩,
  ⟨(some 8), none, .load false 1 (.t 2)⟩,
  ⟨(some 9), none, .ixA 5 (.t 7) (.t 8)⟩,
  ⟨(some 10), none, .fldA 1 (.t 9)⟩,
  ⟨(some 11), none, .load false 1 (.t 10)⟩,
  ⟨(some 12), none, .bin .gtr .no (.t 5) (.t 11)⟩,
  ⟨(some 4), none, .mv (.t 12)⟩]
def x_halls_overD1 : XFunc := { np := 3, res := [.t 4], body :=
  (.seq (.reg l3f) (.seq (.reg l3g) .ret)) }
@[go_sem] def l1d : List XO := [
  ⟨(some 4), none, .boxF (.t 0)⟩,
  ⟨(some 8), none, .mv (.c (.int .i64 0))⟩]
@[go_sem] def l1e : List XO := [
  ⟨(some 13), none, .fldA 1 (.tf 4)⟩,
  ⟨(some 14), none, .load false 1 (.tf 13)⟩,
  ⟨(some 15), none, .len false (.t 14)⟩,
  ⟨(some 16), none, .mv (.c (.int .i64 0))⟩]
@[go_sem] def l1i : List XO := [
  ⟨(some 17), none, .bin .lss .no (.t 16) (.t 15)⟩]
@[go_sem] def l1j : List XO := [
  ⟨(some 18), none, .ixA 3 (.t 14) (.t 16)⟩,
  ⟨(some 19), none, .load true 3 (.t 18)⟩,
  ⟨(some 10), none, .alloc [(.int .i64 0), (.int .i64 0), (.slice none 0 0)]⟩,
  ⟨none, none, .store 3 (.t 10) (.t 19)⟩]
@[go_sem] def l1k : List XO := [
  ⟨(some 20), none, .fldA 0 (.t 10)⟩,
  ⟨(some 21), none, .fldA 1 (.t 20)⟩,
  ⟨(some 22), none, .load false 1 (.t 21)⟩,
  ⟨(some 23), none, .mv (.t 2)⟩,
  ⟨(some 24), none, .bin .lss .no (.t 22) (.t 23)⟩,
  ⟨(some 25), none, .mv (.t 24)⟩,
  ⟨(some 26), (some (25, false)), .fldA 0 (.t 10)⟩,
  ⟨(some 27), (some (25, false)), .fldA 0 (.t 26)⟩,
  ⟨(some 28), (some (25, false)), .load false 1 (.t 27)⟩,
  ⟨(some 29), (some (25, false)), .mv (.t 3)⟩,
  ⟨(some 30), (some (25, false)), .bin .gtr .no (.t 28) (.t 29)⟩,
  ⟨(some 31), none, .pick (.t 25) (.c (.bool true)) (.t 30)⟩]
@[go_sem] def l1l : List XO := [
  ⟨(some 32), none, .fldA 2 (.t 10)⟩,
  ⟨(some 33), none, .load false 1 (.t 32)⟩,
  ⟨(some 34), none, .len false (.t 33)⟩,
  ⟨(some 35), none, .mv (.c (.int .i64 0))⟩]
@[go_sem] def l1m : List XO := [
  ⟨(some 36), none, .bin .lss .no (.t 35) (.t 34)⟩]
@[go_sem] def l1n : List XO := [
  ⟨(some 37), none, .ixA 3 (.t 33) (.t 35)⟩,
  ⟨(some 38), none, .load true 3 (.t 37)⟩,
  ⟨(some 12), none, .alloc [(.int .i64 0), (.int .i64 0), (.int .i64 0)]⟩,
  ⟨none, none, .store 3 (.t 12) (.t 38)⟩]
@[go_sem] def l1o : List XO := [
  ⟨(some 39), none, .fldA 0 (.t 12)⟩,
  ⟨(some 40), none, .load false 1 (.t 39)⟩,
  ⟨(some 41), none, .mv (.t 1)⟩,
  ⟨(some 42), none, .bin .eql .no (.t 40) (.t 41)⟩]
@[go_sem] def l1p : List XO := [
  ⟨(some 43), none, .mv (.t 8)⟩,
  ⟨(some 44), none, .fldA 1 (.t 12)⟩,
  ⟨(some 45), none, .fldA 1 (.t 44)⟩,
  ⟨(some 46), none, .load false 1 (.t 45)⟩,
  ⟨(some 47), none, .bin .add .no (.t 43) (.t 46)⟩,
  ⟨(some 8), none, .mv (.t 47)⟩]
@[go_sem] def l1f : List XO := [
  ⟨(some 48), none, .bin .add .no (.t 35) (.c (.int .i64 1))⟩,
  ⟨(some 35), none, .mv (.t 48)⟩]
def d96 : XCode :=
  (.seq (.reg l1m) (.seq (.cond (.t 36) .skip (.exit 2)) (.seq (.block 3 (.seq (.reg l1n) (.seq (.reg l1o) (.cond (.t 42) (.reg l1p) .skip)))) (.reg l1f))))
@[go_sem] def l1g : List XO := [
  ⟨(some 49), none, .bin .add .no (.t 16) (.c (.int .i64 1))⟩,
  ⟨(some 16), none, .mv (.t 49)⟩]
def d97 : XCode :=
  (.seq (.reg l1i) (.seq (.cond (.t 17) .skip (.exit 0)) (.seq (.block 1 (.seq (.reg l1j) (.seq (.seq (.reg l1k) (.cond (.t 31) (.exit 1) .skip)) (.seq (.reg l1l) (.block 2 (.loop d96)))))) (.reg l1g))))
@[go_sem] def l1h : List XO := [
  ⟨(some 50), none, .mv (.t 8)⟩,
  ⟨(some 8), none, .mv (.t 50)⟩]
def x_halls_brought : XFunc := { np := 4, res := [.t 8], body :=
  (.seq (.reg l1d) (.seq (.seq (.reg l1e) (.block 0 (.loop d97))) (.seq (.reg l1h) .ret))) }
@[go_sem] def j7m : List XO := [
  ⟨(some 6), none, .mv (.c (.int .i64 0))⟩]
@[go_sem] def j7n : List XO := [
  ⟨(some 10), none, .mv (.t 2)⟩,
  ⟨(some 11), none, .mv (.t 1)⟩,
  ⟨(some 12), none, .bin .lss .no (.t 10) (.t 11)⟩,
  ⟨(some 13), none, .mv (.t 12)⟩,
  ⟨(some 14), (some (13, false)), .mv (.t 2)⟩,
  ⟨(some 15), (some (13, false)), .bin .lss .no (.t 14) (.c (.int .i64 0))⟩,
  ⟨(some 16), none, .pick (.t 13) (.c (.bool true)) (.t 15)⟩]
@[go_sem] def j7r : List XO := [
  ⟨(some 6), none, .mv (.c (.int .i64 0))⟩]
@[go_sem] def j7s : List XO := [
  ⟨(some 17), none, .mv (.t 1)⟩,
  ⟨(some 18), none, .max [(.t 17), (.c (.int .i64 0))]⟩,
  ⟨(some 1), none, .mv (.t 18)⟩]
@[go_sem] def j7t : List XO := [
  ⟨(some 19), none, .mv (.t 0)⟩,
  ⟨(some 20), none, .nilck (.t 19)⟩,
  ⟨(some 21), none, .fldA 3 (.t 20)⟩,
  ⟨(some 22), none, .load false 1 (.t 21)⟩,
  ⟨(some 23), none, .ixA 1 (.t 22) (.c (.int .i64 0))⟩,
  ⟨(some 24), none, .load false 1 (.t 23)⟩,
  ⟨(some 25), none, .mv (.t 2)⟩,
  ⟨(some 26), none, .ixA 1 (.t 24) (.t 25)⟩,
  ⟨(some 27), none, .load false 1 (.t 26)⟩,
  ⟨(some 28), none, .mv (.t 0)⟩,
  ⟨(some 29), none, .nilck (.t 28)⟩,
  ⟨(some 30), none, .fldA 1 (.t 29)⟩,
  ⟨(some 31), none, .load false 1 (.t 30)⟩,
  ⟨(some 32), none, .mv (.t 2)⟩,
  ⟨(some 33), none, .bin .add .no (.t 32) (.c (.int .i64 1))⟩,
  ⟨(some 34), none, .ixA 1 (.t 31) (.t 33)⟩,
  ⟨(some 35), none, .load false 1 (.t 34)⟩,
  ⟨(some 36), none, .mv (.t 0)⟩,
  ⟨(some 37), none, .nilck (.t 36)⟩,
  ⟨(some 38), none, .fldA 1 (.t 37)⟩,
  ⟨(some 39), none, .load false 1 (.t 38)⟩,
  ⟨(some 40), none, .mv (.t 1)⟩,
  ⟨(some 41), none, .ixA 1 (.t 39) (.t 40)⟩,
  ⟨(some 42), none, .load false 1 (.t 41)⟩,
  ⟨(some 43), none, .bin .sub .no (.t 35) (.t 42)⟩,
  ⟨(some 44), none, .min [(.t 27), (.t 43)]⟩,
  ⟨(some 7), none, .mv (.t 44)⟩]
@[go_sem] def j7u : List XO := [
  ⟨(some 45), none, .mv (.t 1)⟩,
  ⟨(some 8), none, .mv (.t 45)⟩]
@[go_sem] def j7v : List XO := [
  ⟨(some 46), none, .mv (.t 8)⟩,
  ⟨(some 47), none, .mv (.t 2)⟩,
  ⟨(some 48), none, .bin .leq .no (.t 46) (.t 47)⟩]
@[go_sem] def j7w : List XO := [
  ⟨(some 9), none, .mv (.c (.int .i64 0))⟩]
@[go_sem] def j7x : List XO := [
  ⟨(some 51), none, .mv (.t 8)⟩,
  ⟨(some 52), none, .mv (.t 2)⟩,
  ⟨(some 53), none, .bin .lss .no (.t 51) (.t 52)⟩]
@[go_sem] def j7y : List XO := [
  ⟨(some 54), none, .mv (.t 0)⟩,
  ⟨(some 55), none, .nilck (.t 54)⟩,
  ⟨(some 56), none, .fldA 3 (.t 55)⟩,
  ⟨(some 57), none, .load false 1 (.t 56)⟩,
  ⟨(some 58), none, .mv (.t 8)⟩,
  ⟨(some 59), none, .bin .add .no (.t 58) (.c (.int .i64 1))⟩,
  ⟨(some 60), none, .ixA 1 (.t 57) (.t 59)⟩,
  ⟨(some 61), none, .load false 1 (.t 60)⟩,
  ⟨(some 62), none, .mv (.t 2)⟩,
  ⟨(some 63), none, .ixA 1 (.t 61) (.t 62)⟩,
  ⟨(some 64), none, .load false 1 (.t 63)⟩,
  ⟨(some 9), none, .mv (.t 64)⟩]
@[go_sem] def j7o : List XO := [
  ⟨(some 65), none, .mv (.t 7)⟩,
  ⟨(some 66), none, .mv (.t 0)⟩,
  ⟨(some 67), none, .nilck (.t 66)⟩,
  ⟨(some 68), none, .fldA 1 (.t 67)⟩,
  ⟨(some 69), none, .load false 1 (.t 68)⟩,
  ⟨(some 70), none, .mv (.t 8)⟩,
  ⟨(some 71), none, .ixA 1 (.t 69) (.t 70)⟩,
  ⟨(some 72), none, .load false 1 (.t 71)⟩,
  ⟨(some 73), none, .mv (.t 0)⟩,
  ⟨(some 74), none, .nilck (.t 73)⟩,
  ⟨(some 75), none, .fldA 1 (.t 74)⟩,
  ⟨(some 76), none, .load false 1 (.t 75)⟩,
  ⟨(some 77), none, .mv (.t 1)⟩,
  ⟨(some 78), none, .ixA 1 (.t 76) (.t 77)⟩,
  ⟨(some 79), none, .load false 1 (.t 78)⟩,
  ⟨(some 80), none, .bin .sub .no (.t 72) (.t 79)⟩,
  ⟨(some 81), none, .mv (.t 0)⟩,
  ⟨(some 82), none, .nilck (.t 81)⟩,
  ⟨(some 83), none, .fldA 2 (.t 82)⟩,
  ⟨(some 84), none, .load false 1 (.t 83)⟩,
  ⟨(some 85), none, .mv (.t 8)⟩,
  ⟨(some 86), none, .ixA 1 (.t 84) (.t 85)⟩,
  ⟨(some 87), none, .load false 1 (.t 86)⟩,
  ⟨(some 88), none, .bin .add .no (.t 80) (.t 87)⟩,
  ⟨(some 89), none, .mv (.t 9)⟩,
  ⟨(some 90), none, .bin .add .no (.t 88) (.t 89)⟩,
  ⟨(some 91), none, .min [(.t 65), (.t 90)]⟩,
  ⟨(some 7), none, .mv (.t 91)⟩]
@[go_sem] def j7p : List XO := [
  ⟨(some 49), none, .mv (.t 8)⟩,
  ⟨(some 50), none, .bin .add .no (.t 49) (.c (.int .i64 1))⟩,
  ⟨(some 8), none, .mv (.t 50)⟩]
def d9w : XCode :=
  (.seq (.seq (.reg j7v) (.cond (.t 48) .skip (.exit 0))) (.seq (.block 1 (.seq (.reg j7w) (.seq (.seq (.reg j7x) (.cond (.t 53) (.reg j7y) .skip)) (.reg j7o)))) (.reg j7p)))
@[go_sem] def j7q : List XO := [
  ⟨(some 92), none, .mv (.t 7)⟩,
  ⟨(some 6), none, .mv (.t 92)⟩]
def x___halls_bound__passes : XFunc := { np := 3, res := [.t 6], body :=
  (.seq (.reg j7m) (.seq (.seq (.reg j7n) (.cond (.t 16) (.seq (.reg j7r) .ret) .skip)) (.seq (.reg j7s) (.seq (.reg j7t) (.seq (.seq (.reg j7u) (.block 0 (.loop d9w))) (.seq (.reg j7q) .ret)))))) }
@[go_sem] def l18 : List XO := [
  ⟨(some 3), none, .mv (.c (.bool false))⟩]
@[go_sem] def l19 : List XO := [
  ⟨(some 4), none, .mv (.t 0)⟩,
  ⟨(some 5), none, .fldA 3 (.t 1)⟩,
  ⟨(some 6), none, .load true 2 (.t 5)⟩,
  ⟨(some 7), none, .call "newel/halls.in" [(.t 4), (.t 6)]⟩,
  ⟨(some 8), none, .un .not (.t 7)⟩,
  ⟨(some 3), none, .mv (.t 8)⟩]
def x_halls_isDayD1 : XFunc := { np := 2, res := [.t 3], body :=
  (.seq (.reg l18) (.seq (.reg l19) .ret)) }
@[go_sem] def l34 : List XO := [
  ⟨(some 3), none, .boxF (.t 0)⟩,
  ⟨(some 6), none, .mv (.c (.bool false))⟩]
@[go_sem] def l35 : List XO := [
  ⟨(some 7), none, .mv (.t 1)⟩,
  ⟨(some 8), none, .fldA 0 (.tf 3)⟩,
  ⟨(some 9), none, .load false 1 (.tf 8)⟩,
  ⟨(some 10), none, .bin .leq .no (.t 7) (.t 9)⟩,
  ⟨(some 11), none, .mv (.t 10)⟩,
  ⟨(some 12), (some (11, true)), .fldA 0 (.tf 3)⟩,
  ⟨(some 13), (some (11, true)), .load false 1 (.tf 12)⟩,
  ⟨(some 14), (some (11, true)), .fldA 1 (.tf 3)⟩,
  ⟨(some 15), (some (11, true)), .load false 1 (.tf 14)⟩,
  ⟨(some 16), (some (11, true)), .bin .leq .no (.t 13) (.t 15)⟩,
  ⟨(some 17), none, .pick (.t 11) (.t 16) (.c (.bool false))⟩,
  ⟨(some 18), none, .mv (.t 17)⟩,
  ⟨(some 19), (some (18, true)), .fldA 1 (.tf 3)⟩,
  ⟨(some 20), (some (18, true)), .load false 1 (.tf 19)⟩,
  ⟨(some 21), (some (18, true)), .mv (.t 2)⟩,
  ⟨(some 22), (some (18, true)), .bin .leq .no (.t 20) (.t 21)⟩,
  ⟨(some 23), none, .pick (.t 18) (.t 22) (.c (.bool false))⟩,
  ⟨(some 6), none, .mv (.t 23)⟩]
def x_halls_span : XFunc := { np := 3, res := [.t 6], body :=
  (.seq (.reg l34) (.seq (.reg l35) .ret)) }
@[go_sem] def l85 : List XO := [
  ⟨(some 4), none, .mv (.c (.int .i64 0))⟩]
@[go_sem] def l86 : List XO := [
  ⟨(some 6), none, .mv (.t 0)⟩,
  ⟨(some 7), none, .len false (.t 6)⟩,
  ⟨(some 8), none, .mv (.c (.int .i64 0))⟩]
@[go_sem] def l87 : List XO := [
  ⟨(some 9), none, .bin .lss .no (.t 8) (.t 7)⟩]
@[go_sem] def l9a : List XO := [
  ⟨(some 10), none, .mv (.t 8)⟩,
  ⟨(some 5), none, .mv (.t 10)⟩]
@[go_sem] def l9b : List XO := [
  ⟨(some 11), none, .mv (.t 1)⟩,
  ⟨(some 12), none, .mv (.t 0)⟩,
  ⟨(some 13), none, .mv (.t 5)⟩,
  ⟨(some 14), none, .ixA 3 (.t 12) (.t 13)⟩,
  ⟨(some 15), none, .load true 3 (.t 14)⟩,
  ⟨(some 16), none, .callv (.t 11) [(.t 15)]⟩]
@[go_sem] def l9c : List XO := [
  ⟨(some 17), none, .mv (.t 5)⟩,
  ⟨(some 4), none, .mv (.t 17)⟩]
@[go_sem] def l9d : List XO := [
  ⟨(some 18), none, .bin .add .no (.t 8) (.c (.int .i64 1))⟩,
  ⟨(some 8), none, .mv (.t 18)⟩]
def g0z : XCode :=
  (.seq (.reg l87) (.seq (.cond (.t 9) .skip (.exit 0)) (.seq (.block 1 (.seq (.reg l9a) (.seq (.reg l9b) (.cond (.t 16) (.seq (.reg l9c) .ret) .skip)))) (.reg l9d))))
@[go_sem] def l9e : List XO := [
  ⟨(some 4), none, .mv (.c (.int .i64 (-1)))⟩]
def x_slices_IndexFunc___api_Train_api_Train_ : XFunc := { np := 2, res := [.t 4], body :=
  (.seq (.reg l85) (.seq (.seq (.reg l86) (.block 0 (.loop g0z))) (.seq (.reg l9e) .ret))) }
end Go.Nw.Halls
