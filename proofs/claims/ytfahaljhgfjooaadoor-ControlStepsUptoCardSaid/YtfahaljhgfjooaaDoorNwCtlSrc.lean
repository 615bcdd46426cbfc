/- The functions of a seat, as the abstract machine has them. -/
import Derived.Test.YtfahaljhgfjooaaDoorNwI
set_option linter.all false
namespace Go.Nw.Ctl
@[go_sem] def O1 (d : Nat) (x : XOp) : XO := ⟨some d,none,x⟩
@[go_sem] def O2 (x : XOp) : XO := ⟨none,none,x⟩
def b5b : List (List UInt8) := [[97, 110, 121], [116, 111], [122, 101, 114, 111], [109, 111, 114, 101], [108, 101, 115, 115], [105, 102], [121, 101, 115], [110, 111]]
def b5h : List GC := [.sl 1 (b5b.map fun s => [.string ⟨s.toArray⟩])]
def l5y : List XO := [
O1 3 (.boxF (.t 0)),
O1 4 (.boxF (.t 1)),
O1 6 (.mv (.c (.bool false)))]
def l5z : List XO := [
O1 15 (.load true 5 (.tf 3)),
O1 16 (.call "newel/newelref04.Copy" [.t 15]),
O1 7 (.alloc [(.slice none 0 0), (.slice none 0 0), (.slice none 0 0), (.slice none 0 0), (.slice none 0 0)]),
O2 (.store 5 (.t 7) (.t 16))]
def l52 : List XO := [
O1 8 (.mv (.c (.int .i64 0)))]
def l53 : List XO := [
O1 17 (.mv (.t 2)),
O1 18 (.len false (.t 17)),
O1 19 (.bin .gtr .no (.t 18) (.c (.int .i64 0)))]
def l54 : List XO := [
O1 20 (.mv (.t 2)),
O1 21 (.ixA 1 (.t 20) (.c (.int .i64 0))),
O1 22 (.load false 1 (.t 21)),
O1 8 (.mv (.t 22))]
def l55 : List XO := [
O1 24 (.load true 5 (.t 7)),
O1 25 (.load true 3 (.tf 4)),
O1 26 (.mv (.t 8)),
O1 27 (.call "newel/control.Step" [.t 24, .t 25, .t 26]),
O1 23 (.mv (.t 27)),
O1 28 (.ext (.t 23) 0),
O1 29 (.ext (.t 23) 1),
O1 9 (.alloc [(.int .i64 0), (.int .i64 0), (.int .i64 0)]),
O2 (.store 3 (.t 9) (.t 28)),
O1 10 (.mv (.t 29))]
def l56 : List XO := [
O1 31 (.load true 5 (.tf 3)),
O1 32 (.load true 3 (.tf 4)),
O1 33 (.mv (.t 8)),
O1 34 (.call "newel/newelref04.Step" [.t 31, .t 32, .t 33]),
O1 30 (.mv (.t 34)),
O1 35 (.ext (.t 30) 0),
O1 36 (.ext (.t 30) 1),
O1 11 (.alloc [(.int .i64 0), (.int .i64 0), (.int .i64 0)]),
O2 (.store 3 (.t 11) (.t 35)),
O1 12 (.mv (.t 36))]
def l57 : List XO := [
O1 37 (.load true 3 (.t 9)),
O1 38 (.load true 3 (.t 11)),
O1 39 (.bin .neq (.flat [.i, .i, .i]) (.t 37) (.t 38)),
O1 40 (.mv (.t 39)),
 ⟨(some 41), (some (40, false)), .mv (.t 10)⟩,
 ⟨(some 42), (some (40, false)), .mv (.t 12)⟩,
 ⟨(some 43), (some (40, false)), .bin .neq .no (.t 41) (.t 42)⟩,
O1 44 (.pick (.t 40) (.c (.bool true)) (.t 43))]
def l58 : List XO := [
O1 6 (.mv (.c (.bool false)))]
def l59 : List XO := [
O1 46 (.load true 5 (.t 7)),
O1 47 (.mv (.t 2)),
O1 48 (.call "newel/control.Run" [.t 46, .t 47]),
O1 45 (.mv (.t 48)),
O1 49 (.ext (.t 45) 0),
O1 50 (.ext (.t 45) 1),
O1 13 (.mv (.t 49)),
O1 10 (.mv (.t 50))]
def l50 : List XO := [
O1 52 (.load true 5 (.tf 3)),
O1 53 (.mv (.t 2)),
O1 54 (.call "newel/newelref04.Run" [.t 52, .t 53]),
O1 51 (.mv (.t 54)),
O1 55 (.ext (.t 51) 0),
O1 56 (.ext (.t 51) 1),
O1 14 (.mv (.t 55)),
O1 12 (.mv (.t 56))]
def l51 : List XO := [
O1 57 (.mv (.t 13)),
O1 58 (.mv (.t 14)),
O1 59 (.call "newel/newellaw04.samePlaces" [.t 57, .t 58]),
O1 60 (.mv (.t 59)),
 ⟨(some 61), (some (60, true)), .mv (.t 10)⟩,
 ⟨(some 62), (some (60, true)), .mv (.t 12)⟩,
 ⟨(some 63), (some (60, true)), .bin .eql .no (.t 61) (.t 62)⟩,
O1 64 (.pick (.t 60) (.t 63) (.c (.bool false))),
O1 65 (.mv (.t 64)),
 ⟨(some 66), (some (65, true)), .call "newel/newellaw04.works" []⟩,
O1 67 (.pick (.t 65) (.t 66) (.c (.bool false))),
O1 6 (.mv (.t 67))]
def x_l04_ControlSteps : XFunc := { np := 3, res := [.t 6], body :=
 (.seq (.reg l5y) (.seq (.reg l5z) (.seq (.reg l52) (.seq (.seq (.reg l53) (.cond (.t 19) (.reg l54) .skip)) (.seq (.reg l55) (.seq (.reg l56) (.seq (.seq (.reg l57) (.cond (.t 44) (.seq (.reg l58) .ret) .skip)) (.seq (.reg l59) (.seq (.reg l50) (.seq (.reg l51) .ret)))))))))) }
def l62 : List XO := [
O1 0 (.mv (.c (.bool false)))]
def l63 : List XO := [
O1 7 (.call "newel/newellaw04.Example" []),
O1 1 (.alloc [(.slice none 0 0), (.slice none 0 0), (.slice none 0 0), (.slice none 0 0), (.slice none 0 0)]),
O2 (.store 5 (.t 1) (.t 7))]
def l64 : List XO := [
O1 9 (.load true 5 (.t 1)),
O1 10 (.build [(.int .i64 0), (.int .i64 0), (.int .i64 0), (.bool false)] [(0, 1, (.c (.int .i64 4)))]),
O1 11 (.build [(.int .i64 0), (.int .i64 0), (.int .i64 0), (.bool false)] [(0, 1, (.c (.int .i64 2))), (2, 1, (.c (.int .i64 2)))]),
O1 12 (.bsl 4 [.t 10, .t 11]),
O1 13 (.bsl 1 [.t 12]),
O1 14 (.call "newel/control.Breach" [.t 9, (.c (.slice none 0 0)), .t 13]),
O1 8 (.mv (.t 14)),
O1 15 (.ext (.t 8) 0),
O1 16 (.ext (.t 8) 1),
O1 17 (.ext (.t 8) 2),
O1 2 (.mv (.t 15)),
O1 3 (.mv (.t 16)),
O1 4 (.mv (.t 17))]
def l65 : List XO := [
O1 19 (.load true 5 (.t 1)),
O1 20 (.call "newel/control.Classes" [.t 19]),
O1 18 (.mv (.t 20)),
O1 21 (.ext (.t 18) 0),
O1 22 (.ext (.t 18) 1),
O1 5 (.mv (.t 21)),
O1 6 (.mv (.t 22))]
def l66 : List XO := [
O1 23 (.mv (.t 4)),
O1 24 (.bin .eql .no (.t 23) (.c (.int .i64 0))),
O1 25 (.mv (.t 24)),
 ⟨(some 26), (some (25, true)), .mv (.t 6)⟩,
 ⟨(some 27), (some (25, true)), .bin .eql .no (.t 26) (.c (.int .i64 0))⟩,
O1 28 (.pick (.t 25) (.t 27) (.c (.bool false))),
O1 29 (.mv (.t 28)),
 ⟨(some 30), (some (29, true)), .mv (.t 3)⟩,
O1 31 (.pick (.t 29) (.t 30) (.c (.bool false))),
O1 32 (.mv (.t 31)),
 ⟨(some 33), (some (32, true)), .mv (.t 2)⟩,
 ⟨(some 34), (some (32, true)), .bsl 1 [(.c (.int .i64 1)), (.c (.int .i64 0)), (.c (.int .i64 0))]⟩,
 ⟨(some 35), (some (32, true)), .call "newel/newellaw04.sameInts" [.t 33, .t 34]⟩,
O1 36 (.pick (.t 32) (.t 35) (.c (.bool false))),
O1 37 (.mv (.t 36)),
 ⟨(some 38), (some (37, true)), .mv (.t 5)⟩,
 ⟨(some 39), (some (37, true)), .bsl 1 [(.c (.int .i64 0)), (.c (.int .i64 1)), (.c (.int .i64 2)), (.c (.int .i64 3)), (.c (.int .i64 0)), (.c (.int .i64 0))]⟩,
 ⟨(some 40), (some (37, true)), .call "newel/newellaw04.sameInts" [.t 38, .t 39]⟩,
O1 41 (.pick (.t 37) (.t 40) (.c (.bool false))),
O1 0 (.mv (.t 41))]
def x_l04_works : XFunc := { np := 0, res := [.t 0], body :=
 (.seq (.reg l62) (.seq (.reg l63) (.seq (.reg l64) (.seq (.reg l65) (.seq (.reg l66) .ret))))) }
def l8e : List XO := [
O1 1 (.boxF (.t 0)),
O1 2 (.alloc [(.slice none 0 0), (.slice none 0 0), (.slice none 0 0), (.slice none 0 0), (.slice none 0 0)])]
def l8f : List XO := [
O1 6 (.bsl 1 []),
O1 7 (.fldA 0 (.tf 1)),
O1 8 (.load false 1 (.tf 7)),
O1 9 (.app 1 16 (.t 6) (.t 8)),
O1 10 (.bsl 1 []),
O1 11 (.fldA 1 (.tf 1)),
O1 12 (.load false 1 (.tf 11)),
O1 13 (.app 1 16 (.t 10) (.t 12)),
O1 14 (.bsl 2 []),
O1 15 (.fldA 2 (.tf 1)),
O1 16 (.load false 1 (.tf 15)),
O1 17 (.app 2 24 (.t 14) (.t 16)),
O1 18 (.bsl 2 []),
O1 19 (.fldA 3 (.tf 1)),
O1 20 (.load false 1 (.tf 19)),
O1 21 (.app 2 24 (.t 18) (.t 20)),
O1 22 (.build [(.slice none 0 0), (.slice none 0 0), (.slice none 0 0), (.slice none 0 0), (.slice none 0 0)] [(0, 1, (.t 9)), (1, 1, (.t 13)), (2, 1, (.t 17)), (3, 1, (.t 21))]),
O1 3 (.alloc [(.slice none 0 0), (.slice none 0 0), (.slice none 0 0), (.slice none 0 0), (.slice none 0 0)]),
O2 (.store 5 (.t 3) (.t 22))]
def l8h : List XO := [
O1 4 (.mv (.c (.int .i64 0)))]
def l8i : List XO := [
O1 23 (.mv (.t 4)),
O1 24 (.fldA 4 (.tf 1)),
O1 25 (.load false 1 (.tf 24)),
O1 26 (.len false (.t 25)),
O1 27 (.bin .lss .no (.t 23) (.t 26))]
def l8j : List XO := [
O1 30 (.fldA 4 (.tf 1)),
O1 31 (.load false 1 (.tf 30)),
O1 32 (.mv (.t 4)),
O1 33 (.ixA 4 (.t 31) (.t 32)),
O1 34 (.load true 4 (.t 33)),
O1 5 (.alloc [(.int .i64 0), (.int .i64 0), (.slice none 0 0), (.slice none 0 0)]),
O2 (.store 4 (.t 5) (.t 34))]
def l8k : List XO := [
O1 35 (.fldA 2 (.t 5)),
O1 36 (.load false 1 (.t 35)),
O1 37 (.call "newel/newelref04.CopyCond" [.t 36]),
O1 38 (.fldA 2 (.t 5)),
O2 (.store 1 (.t 38) (.t 37))]
def l8l : List XO := [
O1 39 (.bsl 2 []),
O1 40 (.fldA 3 (.t 5)),
O1 41 (.load false 1 (.t 40)),
O1 42 (.app 2 16 (.t 39) (.t 41)),
O1 43 (.fldA 3 (.t 5)),
O2 (.store 1 (.t 43) (.t 42))]
def l8m : List XO := [
O1 44 (.fldA 4 (.t 3)),
O1 45 (.load false 1 (.t 44)),
O1 46 (.load true 4 (.t 5)),
O1 47 (.bsl 4 [.t 46]),
O1 48 (.app 4 64 (.t 45) (.t 47)),
O1 49 (.fldA 4 (.t 3)),
O2 (.store 1 (.t 49) (.t 48))]
def l8n : List XO := [
O1 28 (.mv (.t 4)),
O1 29 (.bin .add .no (.t 28) (.c (.int .i64 1))),
O1 4 (.mv (.t 29))]
def d8x : XCode :=
 (.seq (.seq (.reg l8i) (.cond (.t 27) .skip (.exit 0))) (.seq (.block 1 (.seq (.reg l8j) (.seq (.reg l8k) (.seq (.reg l8l) (.seq .ghost (.reg l8m)))))) (.reg l8n)))
def l8g : List XO := [
O1 50 (.load true 5 (.t 3)),
O2 (.store 5 (.t 2) (.t 50))]
def x_r04_Copy : XFunc := { np := 1, res := [.cell 2 true 5], body :=
 (.seq (.reg l8e) (.seq (.reg l8f) (.seq (.seq (.reg l8h) (.block 0 (.loop d8x))) (.seq (.reg l8g) .ret)))) }
def l77 : List XO := [
O1 2 (.mv (.c (.slice none 0 0)))]
def l78 : List XO := [
O1 3 (.mv (.c (.slice none 0 0)))]
def l79 : List XO := [
O1 4 (.mv (.c (.int .i64 0)))]
def l8a : List XO := [
O1 5 (.mv (.t 4)),
O1 6 (.mv (.t 0)),
O1 7 (.len false (.t 6)),
O1 8 (.bin .lss .no (.t 5) (.t 7))]
def l8b : List XO := [
O1 11 (.mv (.t 3)),
O1 12 (.bsl 4 []),
O1 13 (.mv (.t 0)),
O1 14 (.mv (.t 4)),
O1 15 (.ixA 1 (.t 13) (.t 14)),
O1 16 (.load false 1 (.t 15)),
O1 17 (.app 4 32 (.t 12) (.t 16)),
O1 18 (.bsl 1 [.t 17]),
O1 19 (.app 1 24 (.t 11) (.t 18)),
O1 3 (.mv (.t 19))]
def l8c : List XO := [
O1 9 (.mv (.t 4)),
O1 10 (.bin .add .no (.t 9) (.c (.int .i64 1))),
O1 4 (.mv (.t 10))]
def d8w : XCode :=
 (.seq (.seq (.reg l8a) (.cond (.t 8) .skip (.exit 0))) (.seq (.block 1 (.seq (.reg l8b) .ghost)) (.reg l8c)))
def l8d : List XO := [
O1 20 (.mv (.t 3)),
O1 2 (.mv (.t 20))]
def x_r04_CopyCond : XFunc := { np := 1, res := [.t 2], body :=
 (.seq (.reg l77) (.seq (.reg l78) (.seq (.seq (.reg l79) (.block 0 (.loop d8w))) (.seq (.reg l8d) .ret)))) }
def l6t : List XO := [
O1 4 (.mv (.c (.bool false)))]
def l6u : List XO := [
O1 6 (.mv (.t 0)),
O1 7 (.len false (.t 6)),
O1 8 (.mv (.t 1)),
O1 9 (.len false (.t 8)),
O1 10 (.bin .neq .no (.t 7) (.t 9))]
def l6v : List XO := [
O1 4 (.mv (.c (.bool false)))]
def l6w : List XO := [
O1 5 (.mv (.c (.int .i64 0)))]
def l6x : List XO := [
O1 11 (.mv (.t 5)),
O1 12 (.mv (.t 0)),
O1 13 (.len false (.t 12)),
O1 14 (.bin .lss .no (.t 11) (.t 13))]
def l6y : List XO := [
O1 17 (.mv (.t 0)),
O1 18 (.mv (.t 5)),
O1 19 (.ixA 3 (.t 17) (.t 18)),
O1 20 (.load true 3 (.t 19)),
O1 21 (.mv (.t 1)),
O1 22 (.mv (.t 5)),
O1 23 (.ixA 3 (.t 21) (.t 22)),
O1 24 (.load true 3 (.t 23)),
O1 25 (.bin .neq (.flat [.i, .i, .i]) (.t 20) (.t 24))]
def l6z : List XO := [
O1 4 (.mv (.c (.bool false)))]
def l60 : List XO := [
O1 15 (.mv (.t 5)),
O1 16 (.bin .add .no (.t 15) (.c (.int .i64 1))),
O1 5 (.mv (.t 16))]
def d8p : XCode :=
 (.seq (.seq (.reg l6x) (.cond (.t 14) .skip (.exit 0))) (.seq (.block 1 (.seq (.reg l6y) (.cond (.t 25) (.seq (.reg l6z) .ret) .skip))) (.reg l60)))
def l61 : List XO := [
O1 4 (.mv (.c (.bool true)))]
def x_l04_samePlaces : XFunc := { np := 2, res := [.t 4], body :=
 (.seq (.reg l6t) (.seq (.seq (.reg l6u) (.cond (.t 10) (.seq (.reg l6v) .ret) .skip)) (.seq (.seq (.reg l6w) (.block 0 (.loop d8p))) (.seq (.reg l61) .ret)))) }
def l6j : List XO := [
O1 4 (.mv (.c (.bool false)))]
def l6k : List XO := [
O1 6 (.mv (.t 0)),
O1 7 (.len false (.t 6)),
O1 8 (.mv (.t 1)),
O1 9 (.len false (.t 8)),
O1 10 (.bin .neq .no (.t 7) (.t 9))]
def l6l : List XO := [
O1 4 (.mv (.c (.bool false)))]
def l6m : List XO := [
O1 5 (.mv (.c (.int .i64 0)))]
def l6n : List XO := [
O1 11 (.mv (.t 5)),
O1 12 (.mv (.t 0)),
O1 13 (.len false (.t 12)),
O1 14 (.bin .lss .no (.t 11) (.t 13))]
def l6o : List XO := [
O1 17 (.mv (.t 0)),
O1 18 (.mv (.t 5)),
O1 19 (.ixA 1 (.t 17) (.t 18)),
O1 20 (.load false 1 (.t 19)),
O1 21 (.mv (.t 1)),
O1 22 (.mv (.t 5)),
O1 23 (.ixA 1 (.t 21) (.t 22)),
O1 24 (.load false 1 (.t 23)),
O1 25 (.bin .neq .no (.t 20) (.t 24))]
def l6p : List XO := [
O1 4 (.mv (.c (.bool false)))]
def l6q : List XO := [
O1 15 (.mv (.t 5)),
O1 16 (.bin .add .no (.t 15) (.c (.int .i64 1))),
O1 5 (.mv (.t 16))]
def l6s : XCode :=
 (.seq (.seq (.reg l6n) (.cond (.t 14) .skip (.exit 0))) (.seq (.block 1 (.seq (.reg l6o) (.cond (.t 25) (.seq (.reg l6p) .ret) .skip))) (.reg l6q)))
def l6r : List XO := [
O1 4 (.mv (.c (.bool true)))]
def x_l04_sameInts : XFunc := { np := 2, res := [.t 4], body :=
 (.seq (.reg l6j) (.seq (.seq (.reg l6k) (.cond (.t 10) (.seq (.reg l6l) .ret) .skip)) (.seq (.seq (.reg l6m) (.block 0 (.loop l6s))) (.seq (.reg l6r) .ret)))) }
def l3a : List XO := [
O1 3 (.boxF (.t 0)),
O1 6 (.mv (.c (.slice none 0 0))),
O1 7 (.mv (.c (.bool false))),
O1 8 (.mv (.c (.int .i64 0)))]
def l3b : List XO := [
O1 9 (.load true 5 (.tf 3)),
O1 10 (.mv (.t 1)),
O1 11 (.mv (.t 2)),
O1 12 (.bsl 1 [.t 10, .t 11]),
O1 13 (.call "newel/control.check" [.t 9, .t 12]),
O1 8 (.mv (.t 13))]
def l3c : List XO := [
O1 14 (.mv (.t 8)),
O1 15 (.bin .neq .no (.t 14) (.c (.int .i64 0)))]
def l3d : List XO := [
O1 16 (.mv (.t 8)),
O1 6 (.mv (.c (.slice none 0 0))),
O1 7 (.mv (.c (.bool false))),
O1 8 (.mv (.t 16))]
def l3e : List XO := [
O1 18 (.load true 5 (.tf 3)),
O1 19 (.call "newel/control.of" [.t 18]),
O1 20 (.mv (.t 1)),
O1 21 (.mv (.t 2)),
O1 22 (.call "(newel/control.plant).breach" [.t 19, .t 20, .t 21, (.f "newel/control.same")]),
O1 17 (.mv (.t 22)),
O1 23 (.ext (.t 17) 0),
O1 24 (.ext (.t 17) 1),
O1 6 (.mv (.t 23)),
O1 7 (.mv (.t 24))]
def l3f : List XO := [
O1 25 (.mv (.t 6)),
O1 26 (.mv (.t 7)),
O1 6 (.mv (.t 25)),
O1 7 (.mv (.t 26)),
O1 8 (.mv (.c (.int .i64 0)))]
def x_control_Breach : XFunc := { np := 3, res := [.t 6, .t 7, .t 8], body :=
 (.seq (.reg l3a) (.seq (.seq (.reg l3b) (.seq (.reg l3c) (.cond (.t 15) (.seq (.reg l3d) .ret) .skip))) (.seq (.reg l3e) (.seq (.reg l3f) .ret)))) }
def l5a : List XO := [
O1 3 (.boxF (.t 0)),
O1 4 (.boxF (.t 1)),
O1 6 (.alloc [(.int .i64 0), (.int .i64 0), (.int .i64 0)]),
O1 7 (.mv (.c (.int .i64 0)))]
def l5b : List XO := [
O1 10 (.load true 5 (.tf 3)),
O1 11 (.call "newel/control.Check" [.t 10]),
O1 8 (.mv (.t 11))]
def l5c : List XO := [
O1 12 (.mv (.t 8)),
O1 13 (.bin .neq .no (.t 12) (.c (.int .i64 0)))]
def l5d : List XO := [
O1 14 (.build [(.int .i64 0), (.int .i64 0), (.int .i64 0)] []),
O1 15 (.mv (.t 8)),
O2 (.store 3 (.t 6) (.t 14)),
O1 7 (.mv (.t 15))]
def l5e : List XO := [
O1 16 (.load true 5 (.tf 3)),
O1 17 (.call "newel/control.of" [.t 16]),
O1 9 (.alloc [(.slice none 0 0), (.slice none 0 0), (.slice none 0 0), (.slice none 0 0), (.slice none 0 0)]),
O2 (.store 5 (.t 9) (.t 17))]
def l5f : List XO := [
O1 18 (.fldA 0 (.t 9)),
O1 19 (.load true 5 (.t 18)),
O1 20 (.load true 3 (.tf 4)),
O1 21 (.call "(newel/situation.Plant).Place" [.t 19, .t 20]),
O1 22 (.un .not (.t 21)),
O1 23 (.mv (.t 22)),
 ⟨(some 24), (some (23, false)), .fldA 0 (.t 9)⟩,
 ⟨(some 25), (some (23, false)), .load true 5 (.t 24)⟩,
 ⟨(some 26), (some (23, false)), .mv (.t 2)⟩,
 ⟨(some 27), (some (23, false)), .call "(newel/situation.Plant).Input" [.t 25, .t 26]⟩,
 ⟨(some 28), (some (23, false)), .un .not (.t 27)⟩,
O1 29 (.pick (.t 23) (.c (.bool true)) (.t 28))]
def l5g : List XO := [
O1 30 (.build [(.int .i64 0), (.int .i64 0), (.int .i64 0)] []),
O2 (.store 3 (.t 6) (.t 30)),
O1 7 (.mv (.c (.int .i64 1)))]
def l5h : List XO := [
O1 31 (.fldA 0 (.t 9)),
O1 32 (.load true 5 (.t 31)),
O1 33 (.load true 3 (.tf 4)),
O1 34 (.mv (.t 2)),
O1 35 (.call "(newel/situation.Plant).Step" [.t 32, .t 33, .t 34]),
O2 (.store 3 (.t 6) (.t 35)),
O1 7 (.mv (.c (.int .i64 0)))]
def x_control_Step : XFunc := { np := 3, res := [.cell 6 true 3, .t 7], body :=
 (.seq (.reg l5a) (.seq (.seq (.reg l5b) (.seq (.reg l5c) (.cond (.t 13) (.seq (.reg l5d) .ret) .skip))) (.seq (.reg l5e) (.seq (.seq (.reg l5f) (.cond (.t 29) (.seq (.reg l5g) .ret) .skip)) (.seq (.reg l5h) .ret))))) }
def l67 : List XO := [
O1 1 (.boxF (.t 0)),
O1 2 (.mv (.c (.int .i64 0)))]
def l68 : List XO := [
O1 11 (.fldA 0 (.tf 1)),
O1 12 (.load false 1 (.tf 11)),
O1 13 (.len false (.t 12)),
O1 14 (.bin .gtr .no (.t 13) (.c (.int .i64 4))),
O1 15 (.mv (.t 14)),
 ⟨(some 16), (some (15, false)), .fldA 1 (.tf 1)⟩,
 ⟨(some 17), (some (15, false)), .load false 1 (.tf 16)⟩,
 ⟨(some 18), (some (15, false)), .len false (.t 17)⟩,
 ⟨(some 19), (some (15, false)), .bin .gtr .no (.t 18) (.c (.int .i64 6))⟩,
O1 20 (.pick (.t 15) (.c (.bool true)) (.t 19)),
O1 21 (.mv (.t 20)),
 ⟨(some 22), (some (21, false)), .fldA 2 (.tf 1)⟩,
 ⟨(some 23), (some (21, false)), .load false 1 (.tf 22)⟩,
 ⟨(some 24), (some (21, false)), .len false (.t 23)⟩,
 ⟨(some 25), (some (21, false)), .bin .gtr .no (.t 24) (.c (.int .i64 2))⟩,
O1 26 (.pick (.t 21) (.c (.bool true)) (.t 25)),
O1 27 (.mv (.t 26)),
 ⟨(some 28), (some (27, false)), .fldA 3 (.tf 1)⟩,
 ⟨(some 29), (some (27, false)), .load false 1 (.tf 28)⟩,
 ⟨(some 30), (some (27, false)), .len false (.t 29)⟩,
 ⟨(some 31), (some (27, false)), .call "newel/newelref04.from" [.t 30, (.c (.int .i64 1)), (.c (.int .i64 12))]⟩,
 ⟨(some 32), (some (27, false)), .un .not (.t 31)⟩,
O1 33 (.pick (.t 27) (.c (.bool true)) (.t 32)),
O1 34 (.mv (.t 33)),
 ⟨(some 35), (some (34, false)), .fldA 4 (.tf 1)⟩,
 ⟨(some 36), (some (34, false)), .load false 1 (.tf 35)⟩,
 ⟨(some 37), (some (34, false)), .len false (.t 36)⟩,
 ⟨(some 38), (some (34, false)), .bin .gtr .no (.t 37) (.c (.int .i64 40))⟩,
O1 39 (.pick (.t 34) (.c (.bool true)) (.t 38))]
def l7h : List XO := [
O1 2 (.mv (.c (.int .i64 41)))]
def l7q : List XO := [
O1 40 (.load true 5 (.tf 1)),
O1 41 (.call "newel/newelref04.names" [.t 40]),
O1 3 (.mv (.t 41))]
def l70 : List XO := [
O1 4 (.mv (.c (.int .i64 0)))]
def l72 : List XO := [
O1 42 (.mv (.t 4)),
O1 43 (.mv (.t 3)),
O1 44 (.len false (.t 43)),
O1 45 (.bin .lss .no (.t 42) (.t 44))]
def l73 : List XO := [
O1 48 (.mv (.t 3)),
O1 49 (.mv (.t 4)),
O1 50 (.ixA 1 (.t 48) (.t 49)),
O1 51 (.load false 1 (.t 50)),
O1 52 (.len true (.t 51)),
O1 53 (.bin .gtr .no (.t 52) (.c (.int .i64 8))),
O1 54 (.mv (.t 53)),
 ⟨(some 55), (some (54, false)), .mv (.t 3)⟩,
 ⟨(some 56), (some (54, false)), .mv (.t 4)⟩,
 ⟨(some 57), (some (54, false)), .ixA 1 (.t 55) (.t 56)⟩,
 ⟨(some 58), (some (54, false)), .load false 1 (.t 57)⟩,
 ⟨(some 59), (some (54, false)), .call "newel/newelref04.Word" [.t 58]⟩,
 ⟨(some 60), (some (54, false)), .un .not (.t 59)⟩,
O1 61 (.pick (.t 54) (.c (.bool true)) (.t 60))]
def l74 : List XO := [
O1 2 (.mv (.c (.int .i64 41)))]
def l75 : List XO := [
O1 5 (.mv (.c (.int .i64 0)))]
def l76 : List XO := [
O1 62 (.mv (.t 5)),
O1 63 (.mv (.t 4)),
O1 64 (.bin .lss .no (.t 62) (.t 63))]
def l69 : List XO := [
O1 67 (.mv (.t 3)),
O1 68 (.mv (.t 5)),
O1 69 (.ixA 1 (.t 67) (.t 68)),
O1 70 (.load false 1 (.t 69)),
O1 71 (.mv (.t 3)),
O1 72 (.mv (.t 4)),
O1 73 (.ixA 1 (.t 71) (.t 72)),
O1 74 (.load false 1 (.t 73)),
O1 75 (.bin .eql .no (.t 70) (.t 74))]
def l7a : List XO := [
O1 2 (.mv (.c (.int .i64 41)))]
def l7b : List XO := [
O1 65 (.mv (.t 5)),
O1 66 (.bin .add .no (.t 65) (.c (.int .i64 1))),
O1 5 (.mv (.t 66))]
def d8q : XCode :=
 (.seq (.seq (.reg l76) (.cond (.t 64) .skip (.exit 2))) (.seq (.block 3 (.seq (.reg l69) (.cond (.t 75) (.seq (.reg l7a) .ret) .skip))) (.reg l7b)))
def l7c : List XO := [
O1 46 (.mv (.t 4)),
O1 47 (.bin .add .no (.t 46) (.c (.int .i64 1))),
O1 4 (.mv (.t 47))]
def d8r : XCode :=
 (.seq (.seq (.reg l72) (.cond (.t 45) .skip (.exit 0))) (.seq (.block 1 (.seq (.seq (.reg l73) (.cond (.t 61) (.seq (.reg l74) .ret) .skip)) (.seq (.reg l75) (.block 2 (.loop d8q))))) (.reg l7c)))
def l7d : List XO := [
O1 6 (.mv (.c (.int .i64 0)))]
def l7e : List XO := [
O1 76 (.mv (.t 6)),
O1 77 (.fldA 2 (.tf 1)),
O1 78 (.load false 1 (.tf 77)),
O1 79 (.len false (.t 78)),
O1 80 (.bin .lss .no (.t 76) (.t 79))]
def l7f : List XO := [
O1 83 (.fldA 2 (.tf 1)),
O1 84 (.load false 1 (.tf 83)),
O1 85 (.mv (.t 6)),
O1 86 (.ixA 2 (.t 84) (.t 85)),
O1 87 (.fldA 1 (.t 86)),
O1 88 (.load false 1 (.t 87)),
O1 89 (.call "newel/newelref04.from" [.t 88, (.c (.int .i64 1)), (.c (.int .i64 7))]),
O1 90 (.un .not (.t 89))]
def l7g : List XO := [
O1 2 (.mv (.c (.int .i64 41)))]
def l7i : List XO := [
O1 81 (.mv (.t 6)),
O1 82 (.bin .add .no (.t 81) (.c (.int .i64 1))),
O1 6 (.mv (.t 82))]
def d8s : XCode :=
 (.seq (.seq (.reg l7e) (.cond (.t 80) .skip (.exit 4))) (.seq (.block 5 (.seq (.reg l7f) (.cond (.t 90) (.seq (.reg l7g) .ret) .skip))) (.reg l7i)))
def l7j : List XO := [
O1 7 (.mv (.c (.int .i64 0)))]
def l7k : List XO := [
O1 91 (.mv (.t 7)),
O1 92 (.fldA 3 (.tf 1)),
O1 93 (.load false 1 (.tf 92)),
O1 94 (.len false (.t 93)),
O1 95 (.bin .lss .no (.t 91) (.t 94))]
def l7l : List XO := [
O1 98 (.fldA 3 (.tf 1)),
O1 99 (.load false 1 (.tf 98)),
O1 100 (.mv (.t 7)),
O1 101 (.ixA 2 (.t 99) (.t 100)),
O1 102 (.fldA 1 (.t 101)),
O1 103 (.load false 1 (.t 102)),
O1 104 (.fldA 1 (.tf 1)),
O1 105 (.load false 1 (.tf 104)),
O1 106 (.len false (.t 105)),
O1 107 (.cvtI .u64 (.t 106)),
O1 108 (.bin .shl .no (.c (.int .i64 1)) (.t 107)),
O1 109 (.bin .sub .no (.t 108) (.c (.int .i64 1))),
O1 110 (.call "newel/newelref04.from" [.t 103, (.c (.int .i64 0)), .t 109]),
O1 111 (.un .not (.t 110))]
def l7m : List XO := [
O1 2 (.mv (.c (.int .i64 41)))]
def l7n : List XO := [
O1 96 (.mv (.t 7)),
O1 97 (.bin .add .no (.t 96) (.c (.int .i64 1))),
O1 7 (.mv (.t 97))]
def d8t : XCode :=
 (.seq (.seq (.reg l7k) (.cond (.t 95) .skip (.exit 6))) (.seq (.block 7 (.seq (.reg l7l) (.cond (.t 111) (.seq (.reg l7m) .ret) .skip))) (.reg l7n)))
def l7o : List XO := [
O1 8 (.mv (.c (.int .i64 0)))]
def l7p : List XO := [
O1 112 (.mv (.t 8)),
O1 113 (.fldA 4 (.tf 1)),
O1 114 (.load false 1 (.tf 113)),
O1 115 (.len false (.t 114)),
O1 116 (.bin .lss .no (.t 112) (.t 115))]
def l7r : List XO := [
O1 119 (.fldA 4 (.tf 1)),
O1 120 (.load false 1 (.tf 119)),
O1 121 (.mv (.t 8)),
O1 122 (.ixA 4 (.t 120) (.t 121)),
O1 123 (.load true 4 (.t 122)),
O1 9 (.alloc [(.int .i64 0), (.int .i64 0), (.slice none 0 0), (.slice none 0 0)]),
O2 (.store 4 (.t 9) (.t 123))]
def l7s : List XO := [
O1 124 (.fldA 0 (.t 9)),
O1 125 (.load false 1 (.t 124)),
O1 126 (.fldA 3 (.tf 1)),
O1 127 (.load false 1 (.tf 126)),
O1 128 (.len false (.t 127)),
O1 129 (.bin .sub .no (.t 128) (.c (.int .i64 1))),
O1 130 (.call "newel/newelref04.from" [.t 125, (.c (.int .i64 (-1))), .t 129]),
O1 131 (.un .not (.t 130)),
O1 132 (.mv (.t 131)),
 ⟨(some 133), (some (132, false)), .fldA 1 (.t 9)⟩,
 ⟨(some 134), (some (132, false)), .load false 1 (.t 133)⟩,
 ⟨(some 135), (some (132, false)), .fldA 3 (.tf 1)⟩,
 ⟨(some 136), (some (132, false)), .load false 1 (.tf 135)⟩,
 ⟨(some 137), (some (132, false)), .len false (.t 136)⟩,
 ⟨(some 138), (some (132, false)), .bin .sub .no (.t 137) (.c (.int .i64 1))⟩,
 ⟨(some 139), (some (132, false)), .call "newel/newelref04.from" [.t 134, (.c (.int .i64 0)), .t 138]⟩,
 ⟨(some 140), (some (132, false)), .un .not (.t 139)⟩,
O1 141 (.pick (.t 132) (.c (.bool true)) (.t 140)),
O1 142 (.mv (.t 141)),
 ⟨(some 143), (some (142, false)), .load true 5 (.tf 1)⟩,
 ⟨(some 144), (some (142, false)), .fldA 2 (.t 9)⟩,
 ⟨(some 145), (some (142, false)), .load false 1 (.t 144)⟩,
 ⟨(some 146), (some (142, false)), .call "newel/newelref04.condition" [.t 143, .t 145, (.c (.bool false))]⟩,
 ⟨(some 147), (some (142, false)), .un .not (.t 146)⟩,
O1 148 (.pick (.t 142) (.c (.bool true)) (.t 147)),
O1 149 (.mv (.t 148)),
 ⟨(some 150), (some (149, false)), .fldA 3 (.t 9)⟩,
 ⟨(some 151), (some (149, false)), .load false 1 (.t 150)⟩,
 ⟨(some 152), (some (149, false)), .len false (.t 151)⟩,
 ⟨(some 153), (some (149, false)), .bin .gtr .no (.t 152) (.c (.int .i64 4))⟩,
O1 154 (.pick (.t 149) (.c (.bool true)) (.t 153))]
def l7t : List XO := [
O1 2 (.mv (.c (.int .i64 41)))]
def l7u : List XO := [
O1 10 (.mv (.c (.int .i64 0)))]
def l7v : List XO := [
O1 155 (.mv (.t 10)),
O1 156 (.fldA 3 (.t 9)),
O1 157 (.load false 1 (.t 156)),
O1 158 (.len false (.t 157)),
O1 159 (.bin .lss .no (.t 155) (.t 158))]
def l7w : List XO := [
O1 162 (.fldA 3 (.t 9)),
O1 163 (.load false 1 (.t 162)),
O1 164 (.mv (.t 10)),
O1 165 (.ixA 2 (.t 163) (.t 164)),
O1 166 (.fldA 0 (.t 165)),
O1 167 (.load false 1 (.t 166)),
O1 168 (.call "newel/newelref04.from" [.t 167, (.c (.int .i64 1)), (.c (.int .i64 3))]),
O1 169 (.un .not (.t 168)),
O1 170 (.mv (.t 169)),
 ⟨(some 171), (some (170, false)), .fldA 3 (.t 9)⟩,
 ⟨(some 172), (some (170, false)), .load false 1 (.t 171)⟩,
 ⟨(some 173), (some (170, false)), .mv (.t 10)⟩,
 ⟨(some 174), (some (170, false)), .ixA 2 (.t 172) (.t 173)⟩,
 ⟨(some 175), (some (170, false)), .fldA 1 (.t 174)⟩,
 ⟨(some 176), (some (170, false)), .load false 1 (.t 175)⟩,
 ⟨(some 177), (some (170, false)), .fldA 2 (.tf 1)⟩,
 ⟨(some 178), (some (170, false)), .load false 1 (.tf 177)⟩,
 ⟨(some 179), (some (170, false)), .len false (.t 178)⟩,
 ⟨(some 180), (some (170, false)), .bin .sub .no (.t 179) (.c (.int .i64 1))⟩,
 ⟨(some 181), (some (170, false)), .call "newel/newelref04.from" [.t 176, (.c (.int .i64 0)), .t 180]⟩,
 ⟨(some 182), (some (170, false)), .un .not (.t 181)⟩,
O1 183 (.pick (.t 170) (.c (.bool true)) (.t 182))]
def l7x : List XO := [
O1 2 (.mv (.c (.int .i64 41)))]
def l7y : List XO := [
O1 160 (.mv (.t 10)),
O1 161 (.bin .add .no (.t 160) (.c (.int .i64 1))),
O1 10 (.mv (.t 161))]
def d8u : XCode :=
 (.seq (.seq (.reg l7v) (.cond (.t 159) .skip (.exit 10))) (.seq (.block 11 (.seq (.reg l7w) (.cond (.t 183) (.seq (.reg l7x) .ret) .skip))) (.reg l7y)))
def l7z : List XO := [
O1 117 (.mv (.t 8)),
O1 118 (.bin .add .no (.t 117) (.c (.int .i64 1))),
O1 8 (.mv (.t 118))]
def d8v : XCode :=
 (.seq (.seq (.reg l7p) (.cond (.t 116) .skip (.exit 8))) (.seq (.block 9 (.seq (.reg l7r) (.seq (.seq (.reg l7s) (.cond (.t 154) (.seq (.reg l7t) .ret) .skip)) (.seq (.reg l7u) (.block 10 (.loop d8u)))))) (.reg l7z)))
def l71 : List XO := [
O1 2 (.mv (.c (.int .i64 0)))]
def x_r04_Check : XFunc := { np := 1, res := [.t 2], body :=
 (.seq (.reg l67) (.seq (.seq (.reg l68) (.cond (.t 39) (.seq (.reg l7h) .ret) .skip)) (.seq (.reg l7q) (.seq (.seq (.reg l70) (.block 0 (.loop d8r))) (.seq (.seq (.reg l7d) (.block 4 (.loop d8s))) (.seq (.seq (.reg l7j) (.block 6 (.loop d8t))) (.seq (.seq (.reg l7o) (.block 8 (.loop d8v))) (.seq (.reg l71) .ret)))))))) }
def l3k : List XO := [
O1 1 (.boxF (.t 0)),
O1 2 (.mv (.c (.slice none 0 0))),
O1 3 (.mv (.c (.int .i64 0)))]
def l3l : List XO := [
O1 20 (.load true 5 (.tf 1)),
O1 21 (.call "newel/control.Check" [.t 20]),
O1 4 (.mv (.t 21))]
def l3v : List XO := [
O1 22 (.mv (.t 4)),
O1 23 (.bin .neq .no (.t 22) (.c (.int .i64 0)))]
def l34 : List XO := [
O1 24 (.mv (.t 4)),
O1 2 (.mv (.c (.slice none 0 0))),
O1 3 (.mv (.t 24))]
def l4e : List XO := [
O1 25 (.load true 5 (.tf 1)),
O1 26 (.call "newel/control.of" [.t 25]),
O1 5 (.alloc [(.slice none 0 0), (.slice none 0 0), (.slice none 0 0), (.slice none 0 0), (.slice none 0 0)]),
O2 (.store 5 (.t 5) (.t 26))]
def l4i : List XO := [
O1 27 (.load true 5 (.t 5)),
O1 28 (.call "(newel/control.plant).explore" [.t 27, (.c (.slice none 0 0)), (.f "newel/control.same")]),
O1 6 (.mv (.t 28))]
def l4j : List XO := [
O1 29 (.mv (.t 6)),
O1 30 (.nilck (.t 29)),
O1 31 (.fldA 0 (.t 30)),
O1 32 (.load false 1 (.t 31)),
O1 33 (.len false (.t 32)),
O1 34 (.mksl 1 [(.int .i64 0)] 8 (.t 33) (.t 33)),
O1 7 (.mv (.t 34))]
def l4k : List XO := [
O1 35 (.mv (.t 6)),
O1 36 (.nilck (.t 35)),
O1 37 (.fldA 0 (.t 36)),
O1 38 (.load false 1 (.t 37)),
O1 39 (.len false (.t 38)),
O1 40 (.mv (.c (.int .i64 0)))]
def l4l : List XO := [
O1 41 (.bin .lss .no (.t 40) (.t 39))]
def l4m : List XO := [
O1 42 (.mv (.t 40)),
O1 43 (.ixA 3 (.t 38) (.t 40)),
O1 44 (.load true 3 (.t 43)),
O1 9 (.alloc [(.int .i64 0), (.int .i64 0), (.int .i64 0)]),
O1 8 (.mv (.t 42)),
O2 (.store 3 (.t 9) (.t 44))]
def l3m : List XO := [
O1 45 (.mv (.t 7)),
O1 46 (.mv (.t 8)),
O1 47 (.fldA 3 (.tf 1)),
O1 48 (.load false 1 (.tf 47)),
O1 49 (.fldA 0 (.t 9)),
O1 50 (.load false 1 (.t 49)),
O1 51 (.ixA 2 (.t 48) (.t 50)),
O1 52 (.fldA 1 (.t 51)),
O1 53 (.load false 1 (.t 52)),
O1 54 (.ixA 1 (.t 45) (.t 46)),
O2 (.store 1 (.t 54) (.t 53))]
def l3n : List XO := [
O1 55 (.bin .add .no (.t 40) (.c (.int .i64 1))),
O1 40 (.mv (.t 55))]
def l4n : XCode :=
 (.seq (.reg l4l) (.seq (.cond (.t 41) .skip (.exit 0)) (.seq (.block 1 (.seq (.reg l4m) (.reg l3m))) (.reg l3n))))
def l3o : List XO := [
O1 10 (.mv (.c (.int .i64 0)))]
def l3p : List XO := [
O1 56 (.mv (.t 7)),
O1 57 (.len false (.t 56)),
O1 58 (.mksl 1 [(.slice none 0 0)] 24 (.t 57) (.t 57)),
O1 11 (.alloc [(.slice none 0 0)]),
O2 (.store 1 (.t 11) (.t 58))]
def l3q : List XO := [
O1 59 (.mv (.t 6)),
O1 60 (.nilck (.t 59)),
O1 61 (.fldA 3 (.t 60)),
O1 62 (.load false 1 (.t 61)),
O1 63 (.len false (.t 62)),
O1 64 (.mv (.c (.int .i64 0)))]
def l3r : List XO := [
O1 65 (.bin .lss .no (.t 64) (.t 63))]
def l3s : List XO := [
O1 66 (.mv (.t 64)),
O1 67 (.ixA 1 (.t 62) (.t 64)),
O1 68 (.load false 1 (.t 67)),
O1 12 (.mv (.t 66)),
O1 13 (.mv (.t 68))]
def l3t : List XO := [
O1 69 (.load false 1 (.t 11)),
O1 70 (.mv (.t 12)),
O1 71 (.mv (.t 7)),
O1 72 (.mv (.t 12)),
O1 73 (.ixA 1 (.t 71) (.t 72)),
O1 74 (.load false 1 (.t 73)),
O1 75 (.bsl 1 [.t 74]),
O1 76 (.ixA 1 (.t 69) (.t 70)),
O2 (.store 1 (.t 76) (.t 75))]
def l3u : List XO := [
O1 77 (.mv (.t 13)),
O1 78 (.len false (.t 77)),
O1 79 (.mv (.c (.int .i64 0)))]
def l3w : List XO := [
O1 80 (.bin .lss .no (.t 79) (.t 78))]
def l3x : List XO := [
O1 81 (.ixA 1 (.t 77) (.t 79)),
O1 82 (.load false 1 (.t 81)),
O1 15 (.mv (.t 82))]
def l3y : List XO := [
O1 83 (.load false 1 (.t 11)),
O1 84 (.mv (.t 12)),
O1 85 (.load false 1 (.t 11)),
O1 86 (.mv (.t 12)),
O1 87 (.ixA 1 (.t 85) (.t 86)),
O1 88 (.load false 1 (.t 87)),
O1 89 (.mv (.t 7)),
O1 90 (.mv (.t 15)),
O1 91 (.ixA 1 (.t 89) (.t 90)),
O1 92 (.load false 1 (.t 91)),
O1 93 (.bsl 1 [.t 92]),
O1 94 (.app 1 8 (.t 88) (.t 93)),
O1 95 (.ixA 1 (.t 83) (.t 84)),
O2 (.store 1 (.t 95) (.t 94))]
def l3z : List XO := [
O1 96 (.bin .add .no (.t 79) (.c (.int .i64 1))),
O1 79 (.mv (.t 96))]
def l4o : XCode :=
 (.seq (.reg l3w) (.seq (.cond (.t 80) .skip (.exit 6)) (.seq (.block 7 (.seq (.reg l3x) (.regW l3y [(0, 11)]))) (.reg l3z))))
def l30 : List XO := [
O1 97 (.bin .add .no (.t 64) (.c (.int .i64 1))),
O1 64 (.mv (.t 97))]
def l4p : XCode :=
 (.seq (.reg l3r) (.seq (.cond (.t 65) .skip (.exit 4)) (.seq (.block 5 (.seq (.reg l3s) (.seq (.reg l3t) (.seq (.reg l3u) (.block 6 (.loop l4o)))))) (.reg l30))))
def l31 : List XO := [
O1 16 (.mv (.c (.slice none 0 0)))]
def l32 : List XO := [
O1 98 (.mv (.t 7)),
O1 99 (.len false (.t 98)),
O1 100 (.mksl 1 [(.int .i64 0)] 8 (.t 99) (.t 99)),
O1 17 (.mv (.t 100))]
def l33 : List XO := [
O1 101 (.load false 1 (.t 11)),
O1 102 (.len false (.t 101)),
O1 103 (.mv (.c (.int .i64 0)))]
def l35 : List XO := [
O1 104 (.bin .lss .no (.t 103) (.t 102))]
def l36 : List XO := [
O1 105 (.mv (.t 103)),
O1 18 (.alloc [(.int .i64 0)]),
O2 (.store 1 (.t 18) (.t 105))]
def l37 : List XO := [
O1 106 (.mv (.t 16)),
O1 107 (.mkfn "newel/control.Classes$1" [] [.t 11, .t 18]),
O1 108 (.call "slices.IndexFunc[[]int,int]" [.t 106, .t 107]),
O1 19 (.mv (.t 108))]
def l38 : List XO := [
O1 109 (.mv (.t 19)),
O1 110 (.bin .lss .no (.t 109) (.c (.int .i64 0)))]
def l39 : List XO := [
O1 111 (.mv (.t 16)),
O1 112 (.len false (.t 111)),
O1 19 (.mv (.t 112))]
def l4a : List XO := [
O1 113 (.mv (.t 16)),
O1 114 (.load false 1 (.t 18)),
O1 115 (.bsl 1 [.t 114]),
O1 116 (.app 1 8 (.t 113) (.t 115)),
O1 16 (.mv (.t 116))]
def l4b : List XO := [
O1 117 (.mv (.t 17)),
O1 118 (.load false 1 (.t 18)),
O1 119 (.mv (.t 19)),
O1 120 (.ixA 1 (.t 117) (.t 118)),
O2 (.store 1 (.t 120) (.t 119))]
def l4c : List XO := [
O1 121 (.bin .add .no (.t 103) (.c (.int .i64 1))),
O1 103 (.mv (.t 121))]
def l4q : XCode :=
 (.seq (.reg l35) (.seq (.cond (.t 104) .skip (.exit 8)) (.seq (.block 9 (.seq (.reg l36) (.seq (.reg l37) (.seq (.seq (.reg l38) (.cond (.t 110) (.seq (.reg l39) (.reg l4a)) .skip)) (.reg l4b))))) (.reg l4c))))
def l4d : List XO := [
O1 122 (.mv (.t 17)),
O1 7 (.mv (.t 122))]
def l4f : List XO := [
O1 123 (.mv (.t 16)),
O1 124 (.len false (.t 123)),
O1 125 (.mv (.t 10)),
O1 126 (.bin .eql .no (.t 124) (.t 125))]
def l4g : List XO := [
O1 127 (.mv (.t 7)),
O1 2 (.mv (.t 127)),
O1 3 (.mv (.c (.int .i64 0)))]
def l4h : List XO := [
O1 128 (.mv (.t 16)),
O1 129 (.len false (.t 128)),
O1 10 (.mv (.t 129))]
def l4r : XCode :=
 (.block 3 (.seq (.reg l3p) (.seq (.seq (.reg l3q) (.block 4 (.loop l4p))) (.seq (.reg l31) (.seq (.reg l32) (.seq (.seq (.reg l33) (.block 8 (.loop l4q))) (.seq (.reg l4d) (.seq (.seq (.reg l4f) (.cond (.t 126) (.seq (.reg l4g) .ret) .skip)) (.reg l4h)))))))))
def x_control_Classes : XFunc := { np := 1, res := [.t 2, .t 3], body :=
 (.seq (.reg l3k) (.seq (.seq (.reg l3l) (.seq (.reg l3v) (.cond (.t 23) (.seq (.reg l34) .ret) .skip))) (.seq (.reg l4e) (.seq (.reg l4i) (.seq (.reg l4j) (.seq (.seq (.reg l4k) (.block 0 (.loop l4n))) (.seq (.reg l3o) (.block 2 (.loop l4r))))))))) }
def l80 : List XO := [
O1 2 (.boxF (.t 0)),
O1 3 (.boxF (.t 1)),
O1 4 (.mv (.c (.bool false)))]
def l81 : List XO := [
O1 7 (.fldA 0 (.tf 3)),
O1 8 (.load false 1 (.tf 7)),
O1 9 (.fldA 3 (.tf 2)),
O1 10 (.load false 1 (.tf 9)),
O1 11 (.len false (.t 10)),
O1 12 (.bin .sub .no (.t 11) (.c (.int .i64 1))),
O1 13 (.call "newel/newelref04.from" [.t 8, (.c (.int .i64 0)), .t 12]),
O1 14 (.un .not (.t 13))]
def l84 : List XO := [
O1 4 (.mv (.c (.bool false)))]
def l85 : List XO := [
O1 5 (.mv (.c (.int .i64 0)))]
def l86 : List XO := [
O1 15 (.mv (.t 5)),
O1 16 (.bin .lss .no (.t 15) (.c (.int .i64 2)))]
def l87 : List XO := [
O1 6 (.mv (.c (.int .i64 0)))]
def l88 : List XO := [
O1 19 (.mv (.t 5)),
O1 20 (.fldA 2 (.tf 2)),
O1 21 (.load false 1 (.tf 20)),
O1 22 (.len false (.t 21)),
O1 23 (.bin .lss .no (.t 19) (.t 22))]
def l89 : List XO := [
O1 24 (.fldA 2 (.tf 2)),
O1 25 (.load false 1 (.tf 24)),
O1 26 (.mv (.t 5)),
O1 27 (.ixA 2 (.t 25) (.t 26)),
O1 28 (.fldA 1 (.t 27)),
O1 29 (.load false 1 (.t 28)),
O1 6 (.mv (.t 29))]
def l9a : List XO := [
O1 30 (.mv (.t 5)),
O1 31 (.fldA 1 (.tf 3)),
O1 32 (.ixP 1 2 (.t 31) (.t 30)),
O1 33 (.load false 1 (.tf 32)),
O1 34 (.mv (.t 6)),
O1 35 (.call "newel/newelref04.from" [.t 33, (.c (.int .i64 0)), .t 34]),
O1 36 (.un .not (.t 35))]
def l9b : List XO := [
O1 4 (.mv (.c (.bool false)))]
def l82 : List XO := [
O1 17 (.mv (.t 5)),
O1 18 (.bin .add .no (.t 17) (.c (.int .i64 1))),
O1 5 (.mv (.t 18))]
def d80 : XCode :=
 (.seq (.seq (.reg l86) (.cond (.t 16) .skip (.exit 0))) (.seq (.block 1 (.seq (.reg l87) (.seq (.seq (.reg l88) (.cond (.t 23) (.reg l89) .skip)) (.seq (.reg l9a) (.cond (.t 36) (.seq (.reg l9b) .ret) .skip))))) (.reg l82)))
def l83 : List XO := [
O1 4 (.mv (.c (.bool true)))]
def x_r04_IsPlace : XFunc := { np := 2, res := [.t 4], body :=
 (.seq (.reg l80) (.seq (.seq (.reg l81) (.cond (.t 14) (.seq (.reg l84) .ret) .skip)) (.seq (.seq (.reg l85) (.block 0 (.loop d80))) (.seq (.reg l83) .ret)))) }
def l8o : List XO := [
O1 4 (.boxF (.t 0)),
O1 5 (.boxF (.t 1)),
O1 8 (.mv (.c (.bool false)))]
def l8p : List XO := [
O1 9 (.mv (.c (.int .i64 0)))]
def l8t : List XO := [
O1 12 (.mv (.t 9)),
O1 13 (.mv (.t 3)),
O1 14 (.len false (.t 13)),
O1 15 (.bin .lss .no (.t 12) (.t 14))]
def l8u : List XO := [
O1 10 (.mv (.c (.bool true)))]
def l8v : List XO := [
O1 11 (.mv (.c (.int .i64 0)))]
def l8w : List XO := [
O1 18 (.mv (.t 11)),
O1 19 (.mv (.t 3)),
O1 20 (.mv (.t 9)),
O1 21 (.ixA 1 (.t 19) (.t 20)),
O1 22 (.load false 1 (.t 21)),
O1 23 (.len false (.t 22)),
O1 24 (.bin .lss .no (.t 18) (.t 23))]
def l8x : List XO := [
O1 27 (.mv (.t 10)),
O1 28 (.mv (.t 27)),
 ⟨(some 29), (some (28, true)), .load true 5 (.tf 4)⟩,
 ⟨(some 30), (some (28, true)), .load true 3 (.tf 5)⟩,
 ⟨(some 31), (some (28, true)), .mv (.t 2)⟩,
 ⟨(some 32), (some (28, true)), .mv (.t 3)⟩,
 ⟨(some 33), (some (28, true)), .mv (.t 9)⟩,
 ⟨(some 34), (some (28, true)), .ixA 1 (.t 32) (.t 33)⟩,
 ⟨(some 35), (some (28, true)), .load false 1 (.t 34)⟩,
 ⟨(some 36), (some (28, true)), .mv (.t 11)⟩,
 ⟨(some 37), (some (28, true)), .ixA 4 (.t 35) (.t 36)⟩,
 ⟨(some 38), (some (28, true)), .load true 4 (.t 37)⟩,
 ⟨(some 39), (some (28, true)), .call "newel/newelref04.literal" [.t 29, .t 30, .t 31, .t 38]⟩,
O1 40 (.pick (.t 28) (.t 39) (.c (.bool false))),
O1 10 (.mv (.t 40))]
def l8y : List XO := [
O1 25 (.mv (.t 11)),
O1 26 (.bin .add .no (.t 25) (.c (.int .i64 1))),
O1 11 (.mv (.t 26))]
def d8z : XCode :=
 (.seq (.seq (.reg l8w) (.cond (.t 24) .skip (.exit 2))) (.seq (.block 3 (.reg l8x)) (.reg l8y)))
def l8z : List XO := [
O1 41 (.mv (.t 10))]
def l8q : List XO := [
O1 8 (.mv (.c (.bool true)))]
def l8r : List XO := [
O1 16 (.mv (.t 9)),
O1 17 (.bin .add .no (.t 16) (.c (.int .i64 1))),
O1 9 (.mv (.t 17))]
def d8y : XCode :=
 (.seq (.seq (.reg l8t) (.cond (.t 15) .skip (.exit 0))) (.seq (.block 1 (.seq (.reg l8u) (.seq (.seq (.reg l8v) (.block 2 (.loop d8z))) (.seq (.reg l8z) (.cond (.t 41) (.seq (.reg l8q) .ret) .skip))))) (.reg l8r)))
def l8s : List XO := [
O1 8 (.mv (.c (.bool false)))]
def x_r04_Holds : XFunc := { np := 4, res := [.t 8], body :=
 (.seq (.reg l8o) (.seq (.seq (.reg l8p) (.block 0 (.loop d8y))) (.seq (.reg l8s) .ret))) }
def m0g : List XO := [
O1 3 (.boxF (.t 0)),
O1 4 (.boxF (.t 1)),
O1 6 (.alloc [(.int .i64 0), (.int .i64 0), (.int .i64 0)]),
O1 7 (.mv (.c (.int .i64 0)))]
def m0h : List XO := [
O1 9 (.load true 5 (.tf 3)),
O1 10 (.call "newel/newelref04.Check" [.t 9]),
O1 8 (.mv (.t 10))]
def m0i : List XO := [
O1 11 (.mv (.t 8)),
O1 12 (.bin .neq .no (.t 11) (.c (.int .i64 0)))]
def m0j : List XO := [
O1 13 (.build [(.int .i64 0), (.int .i64 0), (.int .i64 0)] []),
O1 14 (.mv (.t 8)),
O2 (.store 3 (.t 6) (.t 13)),
O1 7 (.mv (.t 14))]
def m0k : List XO := [
O1 15 (.load true 5 (.tf 3)),
O1 16 (.load true 3 (.tf 4)),
O1 17 (.call "newel/newelref04.IsPlace" [.t 15, .t 16]),
O1 18 (.un .not (.t 17)),
O1 19 (.mv (.t 18)),
 ⟨(some 20), (some (19, false)), .mv (.t 2)⟩,
 ⟨(some 21), (some (19, false)), .load true 5 (.tf 3)⟩,
 ⟨(some 22), (some (19, false)), .call "newel/newelref04.all" [.t 21]⟩,
 ⟨(some 23), (some (19, false)), .bin .sub .no (.t 22) (.c (.int .i64 1))⟩,
 ⟨(some 24), (some (19, false)), .call "newel/newelref04.from" [.t 20, (.c (.int .i64 0)), .t 23]⟩,
 ⟨(some 25), (some (19, false)), .un .not (.t 24)⟩,
O1 26 (.pick (.t 19) (.c (.bool true)) (.t 25))]
def m0l : List XO := [
O1 27 (.build [(.int .i64 0), (.int .i64 0), (.int .i64 0)] []),
O2 (.store 3 (.t 6) (.t 27)),
O1 7 (.mv (.c (.int .i64 1)))]
def m0m : List XO := [
O1 28 (.load true 5 (.tf 3)),
O1 29 (.load true 3 (.tf 4)),
O1 30 (.mv (.t 2)),
O1 31 (.call "newel/newelref04.Next" [.t 28, .t 29, .t 30]),
O2 (.store 3 (.t 6) (.t 31)),
O1 7 (.mv (.c (.int .i64 0)))]
def x_r04_Step : XFunc := { np := 3, res := [.cell 6 true 3, .t 7], body :=
 (.seq (.reg m0g) (.seq (.reg m0h) (.seq (.seq (.reg m0i) (.cond (.t 12) (.seq (.reg m0j) .ret) .skip)) (.seq (.seq (.reg m0k) (.cond (.t 26) (.seq (.reg m0l) .ret) .skip)) (.seq (.reg m0m) .ret))))) }
def l4s : List XO := [
O1 2 (.boxF (.t 0)),
O1 4 (.mv (.c (.slice none 0 0))),
O1 5 (.mv (.c (.int .i64 0)))]
def l4t : List XO := [
O1 12 (.load true 5 (.tf 2)),
O1 13 (.call "newel/control.Check" [.t 12]),
O1 6 (.mv (.t 13))]
def l42 : List XO := [
O1 14 (.mv (.t 6)),
O1 15 (.bin .neq .no (.t 14) (.c (.int .i64 0)))]
def l43 : List XO := [
O1 16 (.mv (.t 6)),
O1 4 (.mv (.c (.slice none 0 0))),
O1 5 (.mv (.t 16))]
def l44 : List XO := [
O1 17 (.mv (.t 1)),
O1 18 (.len false (.t 17)),
O1 19 (.bin .gtr .no (.t 18) (.c (.int .i64 200)))]
def l45 : List XO := [
O1 4 (.mv (.c (.slice none 0 0))),
O1 5 (.mv (.c (.int .i64 2)))]
def l46 : List XO := [
O1 20 (.load true 5 (.tf 2)),
O1 21 (.call "newel/control.of" [.t 20]),
O1 7 (.alloc [(.slice none 0 0), (.slice none 0 0), (.slice none 0 0), (.slice none 0 0), (.slice none 0 0)]),
O2 (.store 5 (.t 7) (.t 21))]
def l47 : List XO := [
O1 8 (.alloc [(.int .i64 0), (.int .i64 0), (.int .i64 0)])]
def l48 : List XO := [
O1 9 (.mv (.c (.slice none 0 0)))]
def l49 : List XO := [
O1 22 (.mv (.t 1)),
O1 23 (.len false (.t 22)),
O1 24 (.mv (.c (.int .i64 0)))]
def l4u : List XO := [
O1 25 (.bin .lss .no (.t 24) (.t 23))]
def l4v : List XO := [
O1 26 (.ixA 1 (.t 22) (.t 24)),
O1 27 (.load false 1 (.t 26)),
O1 11 (.mv (.t 27))]
def l4w : List XO := [
O1 28 (.fldA 0 (.t 7)),
O1 29 (.load true 5 (.t 28)),
O1 30 (.mv (.t 11)),
O1 31 (.call "(newel/situation.Plant).Input" [.t 29, .t 30]),
O1 32 (.un .not (.t 31))]
def l4x : List XO := [
O1 4 (.mv (.c (.slice none 0 0))),
O1 5 (.mv (.c (.int .i64 1)))]
def l4y : List XO := [
O1 33 (.fldA 0 (.t 7)),
O1 34 (.load true 5 (.t 33)),
O1 35 (.load true 3 (.t 8)),
O1 36 (.mv (.t 11)),
O1 37 (.call "(newel/situation.Plant).Step" [.t 34, .t 35, .t 36]),
O2 (.store 3 (.t 8) (.t 37))]
def l4z : List XO := [
O1 38 (.mv (.t 9)),
O1 39 (.load true 3 (.t 8)),
O1 40 (.bsl 3 [.t 39]),
O1 41 (.app 3 24 (.t 38) (.t 40)),
O1 9 (.mv (.t 41))]
def l40 : List XO := [
O1 42 (.bin .add .no (.t 24) (.c (.int .i64 1))),
O1 24 (.mv (.t 42))]
def d8o : XCode :=
 (.seq (.reg l4u) (.seq (.cond (.t 25) .skip (.exit 0)) (.seq (.block 1 (.seq (.reg l4v) (.seq (.seq (.reg l4w) (.cond (.t 32) (.seq (.reg l4x) .ret) .skip)) (.seq (.reg l4y) (.reg l4z))))) (.reg l40))))
def l41 : List XO := [
O1 43 (.mv (.t 9)),
O1 4 (.mv (.t 43)),
O1 5 (.mv (.c (.int .i64 0)))]
def x_control_Run : XFunc := { np := 2, res := [.t 4, .t 5], body :=
 (.seq (.reg l4s) (.seq (.seq (.reg l4t) (.seq (.reg l42) (.cond (.t 15) (.seq (.reg l43) .ret) .skip))) (.seq (.seq (.reg l44) (.cond (.t 19) (.seq (.reg l45) .ret) .skip)) (.seq (.reg l46) (.seq (.reg l47) (.seq (.reg l48) (.seq (.seq (.reg l49) (.block 0 (.loop d8o))) (.seq (.reg l41) .ret)))))))) }
def l9x : List XO := [
O1 2 (.boxF (.t 0)),
O1 4 (.mv (.c (.slice none 0 0))),
O1 5 (.mv (.c (.int .i64 0)))]
def l9y : List XO := [
O1 11 (.load true 5 (.tf 2)),
O1 12 (.call "newel/newelref04.Check" [.t 11]),
O1 6 (.mv (.t 12))]
def l97 : List XO := [
O1 13 (.mv (.t 6)),
O1 14 (.bin .neq .no (.t 13) (.c (.int .i64 0)))]
def l99 : List XO := [
O1 15 (.mv (.t 6)),
O1 4 (.mv (.c (.slice none 0 0))),
O1 5 (.mv (.t 15))]
def m0a : List XO := [
O1 16 (.mv (.t 1)),
O1 17 (.len false (.t 16)),
O1 18 (.bin .gtr .no (.t 17) (.c (.int .i64 200)))]
def m0b : List XO := [
O1 4 (.mv (.c (.slice none 0 0))),
O1 5 (.mv (.c (.int .i64 2)))]
def m0c : List XO := [
O1 7 (.mv (.c (.int .i64 0)))]
def m0d : List XO := [
O1 19 (.mv (.t 7)),
O1 20 (.mv (.t 1)),
O1 21 (.len false (.t 20)),
O1 22 (.bin .lss .no (.t 19) (.t 21))]
def m0e : List XO := [
O1 25 (.mv (.t 1)),
O1 26 (.mv (.t 7)),
O1 27 (.ixA 1 (.t 25) (.t 26)),
O1 28 (.load false 1 (.t 27)),
O1 29 (.load true 5 (.tf 2)),
O1 30 (.call "newel/newelref04.all" [.t 29]),
O1 31 (.bin .sub .no (.t 30) (.c (.int .i64 1))),
O1 32 (.call "newel/newelref04.from" [.t 28, (.c (.int .i64 0)), .t 31]),
O1 33 (.un .not (.t 32))]
def m0f : List XO := [
O1 4 (.mv (.c (.slice none 0 0))),
O1 5 (.mv (.c (.int .i64 1)))]
def l9z : List XO := [
O1 23 (.mv (.t 7)),
O1 24 (.bin .add .no (.t 23) (.c (.int .i64 1))),
O1 7 (.mv (.t 24))]
def d83 : XCode :=
 (.seq (.seq (.reg m0d) (.cond (.t 22) .skip (.exit 0))) (.seq (.block 1 (.seq (.reg m0e) (.cond (.t 33) (.seq (.reg m0f) .ret) .skip))) (.reg l9z)))
def l90 : List XO := [
O1 8 (.mv (.c (.slice none 0 0)))]
def l91 : List XO := [
O1 34 (.build [(.int .i64 0), (.int .i64 0), (.int .i64 0)] []),
O1 9 (.alloc [(.int .i64 0), (.int .i64 0), (.int .i64 0)]),
O2 (.store 3 (.t 9) (.t 34))]
def l92 : List XO := [
O1 10 (.mv (.c (.int .i64 0)))]
def l93 : List XO := [
O1 35 (.mv (.t 10)),
O1 36 (.mv (.t 1)),
O1 37 (.len false (.t 36)),
O1 38 (.bin .lss .no (.t 35) (.t 37))]
def l94 : List XO := [
O1 41 (.load true 5 (.tf 2)),
O1 42 (.load true 3 (.t 9)),
O1 43 (.mv (.t 1)),
O1 44 (.mv (.t 10)),
O1 45 (.ixA 1 (.t 43) (.t 44)),
O1 46 (.load false 1 (.t 45)),
O1 47 (.call "newel/newelref04.Next" [.t 41, .t 42, .t 46]),
O2 (.store 3 (.t 9) (.t 47))]
def l95 : List XO := [
O1 48 (.mv (.t 8)),
O1 49 (.load true 3 (.t 9)),
O1 50 (.bsl 3 [.t 49]),
O1 51 (.app 3 24 (.t 48) (.t 50)),
O1 8 (.mv (.t 51))]
def l96 : List XO := [
O1 39 (.mv (.t 10)),
O1 40 (.bin .add .no (.t 39) (.c (.int .i64 1))),
O1 10 (.mv (.t 40))]
def d84 : XCode :=
 (.seq (.seq (.reg l93) (.cond (.t 38) .skip (.exit 2))) (.seq (.block 3 (.seq (.reg l94) (.reg l95))) (.reg l96)))
def l98 : List XO := [
O1 52 (.mv (.t 8)),
O1 4 (.mv (.t 52)),
O1 5 (.mv (.c (.int .i64 0)))]
def x_r04_Run : XFunc := { np := 2, res := [.t 4, .t 5], body :=
 (.seq (.reg l9x) (.seq (.reg l9y) (.seq (.seq (.reg l97) (.cond (.t 14) (.seq (.reg l99) .ret) .skip)) (.seq (.seq (.reg m0a) (.cond (.t 18) (.seq (.reg m0b) .ret) .skip)) (.seq (.seq (.reg m0c) (.block 0 (.loop d83))) (.seq (.reg l90) (.seq (.reg l91) (.seq (.seq (.reg l92) (.block 2 (.loop d84))) (.seq (.reg l98) .ret))))))))) }
def l6a : List XO := [
O1 0 (.alloc [(.slice none 0 0), (.slice none 0 0), (.slice none 0 0), (.slice none 0 0), (.slice none 0 0)])]
def l6b : List XO := [
O1 7 (.build [(.int .i64 0), (.int .i64 0), (.int .i64 0), (.bool false)] [(0, 1, (.c (.int .i64 1)))]),
O1 1 (.alloc [(.int .i64 0), (.int .i64 0), (.int .i64 0), (.bool false)]),
O2 (.store 4 (.t 1) (.t 7))]
def l6c : List XO := [
O1 8 (.build [(.int .i64 0), (.int .i64 0), (.int .i64 0), (.bool false)] [(0, 1, (.c (.int .i64 1))), (1, 1, (.c (.int .i64 1)))]),
O1 2 (.alloc [(.int .i64 0), (.int .i64 0), (.int .i64 0), (.bool false)]),
O2 (.store 4 (.t 2) (.t 8))]
def l6d : List XO := [
O1 9 (.build [(.int .i64 0), (.int .i64 0), (.int .i64 0), (.bool false)] [(0, 1, (.c (.int .i64 2))), (2, 1, (.c (.int .i64 2)))]),
O1 3 (.alloc [(.int .i64 0), (.int .i64 0), (.int .i64 0), (.bool false)]),
O2 (.store 4 (.t 3) (.t 9))]
def l6e : List XO := [
O1 10 (.load true 4 (.t 3)),
O1 11 (.load true 4 (.t 2)),
O1 12 (.load true 4 (.t 1)),
O1 4 (.alloc [(.int .i64 0), (.int .i64 0), (.int .i64 0), (.bool false)]),
O1 5 (.alloc [(.int .i64 0), (.int .i64 0), (.int .i64 0), (.bool false)]),
O1 6 (.alloc [(.int .i64 0), (.int .i64 0), (.int .i64 0), (.bool false)]),
O2 (.store 4 (.t 4) (.t 10)),
O2 (.store 4 (.t 5) (.t 11)),
O2 (.store 4 (.t 6) (.t 12))]
def l6f : List XO := [
O1 13 (.fldA 3 (.t 4)),
O2 (.store 1 (.t 13) (.c (.bool true)))]
def l6g : List XO := [
O1 14 (.fldA 3 (.t 5)),
O2 (.store 1 (.t 14) (.c (.bool true)))]
def l6h : List XO := [
O1 15 (.fldA 3 (.t 6)),
O2 (.store 1 (.t 15) (.c (.bool true)))]
def l6i : List XO := [
O1 16 (.bsl 1 [(.c (.string (ByteArray.mk #[99, 97, 108, 108]))), (.c (.string (ByteArray.mk #[100, 111, 111, 114])))]),
O1 17 (.bsl 1 [(.c (.string (ByteArray.mk #[114, 117, 110]))), (.c (.string (ByteArray.mk #[108, 105, 103, 104, 116])))]),
O1 18 (.build [(.string (ByteArray.mk #[])), (.int .i64 0)] [(0, 1, (.c (.string (ByteArray.mk #[110])))), (1, 1, (.c (.int .i64 2)))]),
O1 19 (.bsl 2 [.t 18]),
O1 20 (.build [(.string (ByteArray.mk #[])), (.int .i64 0)] [(0, 1, (.c (.string (ByteArray.mk #[105, 100, 108, 101])))), (1, 1, (.c (.int .i64 2)))]),
O1 21 (.build [(.string (ByteArray.mk #[])), (.int .i64 0)] [(0, 1, (.c (.string (ByteArray.mk #[103, 111])))), (1, 1, (.c (.int .i64 1)))]),
O1 22 (.bsl 2 [.t 20, .t 21]),
O1 23 (.load true 4 (.t 1)),
O1 24 (.load true 4 (.t 5)),
O1 25 (.bsl 4 [.t 23, .t 24]),
O1 26 (.bsl 1 [.t 25]),
O1 27 (.build [(.int .i64 0), (.int .i64 0)] [(0, 1, (.c (.int .i64 1)))]),
O1 28 (.bsl 2 [.t 27]),
O1 29 (.build [(.int .i64 0), (.int .i64 0), (.slice none 0 0), (.slice none 0 0)] [(0, 1, (.c (.int .i64 0))), (1, 1, (.c (.int .i64 1))), (2, 1, (.t 26)), (3, 1, (.t 28))]),
O1 30 (.load true 4 (.t 2)),
O1 31 (.bsl 4 [.t 30]),
O1 32 (.bsl 1 [.t 31]),
O1 33 (.build [(.int .i64 0), (.int .i64 0), (.slice none 0 0), (.slice none 0 0)] [(0, 1, (.c (.int .i64 1))), (1, 1, (.c (.int .i64 0))), (2, 1, (.t 32))]),
O1 34 (.load true 4 (.t 4)),
O1 35 (.bsl 4 [.t 34]),
O1 36 (.bsl 1 [.t 35]),
O1 37 (.build [(.int .i64 0), (.int .i64 0)] [(0, 1, (.c (.int .i64 2)))]),
O1 38 (.bsl 2 [.t 37]),
O1 39 (.build [(.int .i64 0), (.int .i64 0), (.slice none 0 0), (.slice none 0 0)] [(0, 1, (.c (.int .i64 1))), (1, 1, (.c (.int .i64 1))), (2, 1, (.t 36)), (3, 1, (.t 38))]),
O1 40 (.load true 4 (.t 3)),
O1 41 (.load true 4 (.t 6)),
O1 42 (.bsl 4 [.t 40, .t 41]),
O1 43 (.bsl 1 [.t 42]),
O1 44 (.build [(.int .i64 0), (.int .i64 0), (.slice none 0 0), (.slice none 0 0)] [(0, 1, (.c (.int .i64 1))), (1, 1, (.c (.int .i64 0))), (2, 1, (.t 43))]),
O1 45 (.bsl 4 [.t 29, .t 33, .t 39, .t 44]),
O1 46 (.build [(.slice none 0 0), (.slice none 0 0), (.slice none 0 0), (.slice none 0 0), (.slice none 0 0)] [(0, 1, (.t 16)), (1, 1, (.t 17)), (2, 1, (.t 19)), (3, 1, (.t 22)), (4, 1, (.t 45))]),
O2 (.store 5 (.t 0) (.t 46))]
def x_l04_Example : XFunc := { np := 0, res := [.cell 0 true 5], body :=
 (.seq (.reg l6a) (.seq (.reg l6b) (.seq (.reg l6c) (.seq (.reg l6d) (.seq (.regW l6e [(2, 6), (1, 6), (2, 7)]) (.seq (.reg l6f) (.seq (.reg l6g) (.seq (.reg l6h) (.seq (.reg l6i) .ret))))))))) }
def l5i : List XO := [
O1 2 (.boxF (.t 0)),
O1 4 (.mv (.c (.int .i64 0)))]
def l5j : List XO := [
O1 8 (.load true 5 (.tf 2)),
O1 9 (.call "newel/control.Check" [.t 8]),
O1 5 (.mv (.t 9))]
def l5l : List XO := [
O1 10 (.mv (.t 5)),
O1 11 (.bin .neq .no (.t 10) (.c (.int .i64 0)))]
def l5m : List XO := [
O1 12 (.mv (.t 5)),
O1 4 (.mv (.t 12))]
def l5n : List XO := [
O1 13 (.mv (.t 1)),
O1 14 (.len false (.t 13)),
O1 15 (.mv (.c (.int .i64 0)))]
def l5o : List XO := [
O1 16 (.bin .lss .no (.t 15) (.t 14))]
def l5p : List XO := [
O1 17 (.ixA 1 (.t 13) (.t 15)),
O1 18 (.load false 1 (.t 17)),
O1 7 (.mv (.t 18))]
def l5q : List XO := [
O1 19 (.load true 5 (.tf 2)),
O1 20 (.mv (.t 7)),
O1 21 (.call "newel/situation.Asked" [.t 19, .t 20]),
O1 22 (.un .not (.t 21))]
def l5r : List XO := [
O1 4 (.mv (.c (.int .i64 42)))]
def l5s : List XO := [
O1 23 (.bin .add .no (.t 15) (.c (.int .i64 1))),
O1 15 (.mv (.t 23))]
def l5t : XCode :=
 (.seq (.reg l5o) (.seq (.cond (.t 16) .skip (.exit 0)) (.seq (.block 1 (.seq (.reg l5p) (.seq (.reg l5q) (.cond (.t 22) (.seq (.reg l5r) .ret) .skip)))) (.reg l5s))))
def l5k : List XO := [
O1 4 (.mv (.c (.int .i64 0)))]
def x_control_check : XFunc := { np := 2, res := [.t 4], body :=
 (.seq (.reg l5i) (.seq (.seq (.reg l5j) (.seq (.reg l5l) (.cond (.t 11) (.seq (.reg l5m) .ret) .skip))) (.seq (.seq (.reg l5n) (.block 0 (.loop l5t))) (.seq (.reg l5k) .ret)))) }
def l5u : List XO := [
O1 1 (.boxF (.t 0)),
O1 2 (.alloc [(.slice none 0 0), (.slice none 0 0), (.slice none 0 0), (.slice none 0 0), (.slice none 0 0)])]
def l5v : List XO := [
O1 3 (.load true 5 (.tf 1)),
O1 4 (.build [(.slice none 0 0), (.slice none 0 0), (.slice none 0 0), (.slice none 0 0), (.slice none 0 0)] [(0, 5, (.t 3))]),
O1 5 (.build [(.slice none 0 0), (.slice none 0 0), (.slice none 0 0), (.slice none 0 0), (.slice none 0 0)] [(0, 5, (.t 4))]),
O2 (.store 5 (.t 2) (.t 5))]
def x_control_of : XFunc := { np := 1, res := [.cell 2 true 5], body :=
 (.seq (.reg l5u) (.seq (.reg l5v) .ret)) }
def l0s : List XO := [
O1 3 (.boxF (.t 0)),
O1 6 (.mv (.c (.pointer none)))]
def l0t : List XO := [
O1 16 (.build [(.int .i64 0), (.int .i64 0), (.int .i64 0)] []),
O1 17 (.bsl 3 [.t 16]),
O1 18 (.bsl 1 [(.c (.int .i64 (-1)))]),
O1 19 (.bsl 1 [(.c (.int .i64 0))]),
O1 20 (.build [(.slice none 0 0), (.slice none 0 0), (.slice none 0 0), (.slice none 0 0)] [(0, 1, (.t 17)), (1, 1, (.t 18)), (2, 1, (.t 19))]),
O1 21 (.box (.t 20)),
O1 7 (.mv (.t 21))]
def l04 : List XO := [
O1 22 (.callw "#mk" []),
O1 23 (.build [(.int .i64 0), (.int .i64 0), (.int .i64 0)] []),
O2 (.callw "#pi" [.t 22, .t 23, (.c (.int .i64 0)), (.c (.int .i64 3))]),
O1 24 (.mv (.t 22)),
O1 8 (.mv (.t 24))]
def l08 : List XO := [
O1 9 (.mv (.c (.int .i64 0)))]
def l09 : List XO := [
O1 25 (.mv (.t 9)),
O1 26 (.mv (.t 7)),
O1 27 (.nilck (.t 26)),
O1 28 (.fldA 0 (.t 27)),
O1 29 (.load false 1 (.t 28)),
O1 30 (.len false (.t 29)),
O1 31 (.bin .lss .no (.t 25) (.t 30))]
def l1a : List XO := [
O1 34 (.mv (.t 7)),
O1 35 (.nilck (.t 34)),
O1 36 (.fldA 0 (.t 35)),
O1 37 (.load false 1 (.t 36)),
O1 38 (.mv (.t 9)),
O1 39 (.ixA 3 (.t 37) (.t 38)),
O1 40 (.load true 3 (.t 39)),
O1 10 (.alloc [(.int .i64 0), (.int .i64 0), (.int .i64 0)]),
O2 (.store 3 (.t 10) (.t 40))]
def l1b : List XO := [
O1 41 (.fldA 0 (.tf 3)),
O1 42 (.load true 5 (.tf 41)),
O1 43 (.call "(newel/situation.Plant).All" [.t 42]),
O1 44 (.mksl 1 [(.int .i64 0)] 8 (.t 43) (.t 43)),
O1 11 (.mv (.t 44))]
def l1c : List XO := [
O1 45 (.mv (.t 11)),
O1 46 (.len false (.t 45)),
O1 47 (.mv (.c (.int .i64 0)))]
def l1d : List XO := [
O1 48 (.bin .lss .no (.t 47) (.t 46))]
def l1e : List XO := [
O1 49 (.mv (.t 47)),
O1 12 (.mv (.t 49))]
def l0u : List XO := [
O1 50 (.mv (.t 11)),
O1 51 (.mv (.t 12)),
O1 52 (.ixA 1 (.t 50) (.t 51)),
O2 (.store 1 (.t 52) (.c (.int .i64 (-1))))]
def l0v : List XO := [
O1 53 (.fldA 0 (.tf 3)),
O1 54 (.load true 5 (.tf 53)),
O1 55 (.mv (.t 1)),
O1 56 (.load true 3 (.t 10)),
O1 57 (.mv (.t 12)),
O1 58 (.call "(newel/situation.Plant).Allowed" [.t 54, .t 55, .t 56, .t 57]),
O1 59 (.un .not (.t 58))]
def l0w : List XO := [
O1 60 (.fldA 0 (.tf 3)),
O1 61 (.load true 5 (.tf 60)),
O1 62 (.load true 3 (.t 10)),
O1 63 (.mv (.t 2)),
O1 64 (.mv (.t 12)),
O1 65 (.callv (.t 63) [.t 64]),
O1 66 (.call "(newel/situation.Plant).Step" [.t 61, .t 62, .t 65]),
O1 13 (.alloc [(.int .i64 0), (.int .i64 0), (.int .i64 0)]),
O2 (.store 3 (.t 13) (.t 66))]
def l0x : List XO := [
O1 68 (.mv (.t 8)),
O1 69 (.load true 3 (.t 13)),
O1 70 (.callw "#lj" [.t 68, .t 69, (.c (.int .i64 0)), (.c (.int .i64 3))]),
O1 67 (.mv (.t 70)),
O1 71 (.ext (.t 67) 0),
O1 72 (.ext (.t 67) 1),
O1 14 (.mv (.t 71)),
O1 15 (.mv (.t 72))]
def l0y : List XO := [
O1 73 (.mv (.t 15)),
O1 74 (.un .not (.t 73))]
def l0z : List XO := [
O1 75 (.mv (.t 7)),
O1 76 (.nilck (.t 75)),
O1 77 (.fldA 0 (.t 76)),
O1 78 (.load false 1 (.t 77)),
O1 79 (.len false (.t 78)),
O1 14 (.mv (.t 79))]
def l00 : List XO := [
O1 80 (.mv (.t 8)),
O1 81 (.load true 3 (.t 13)),
O1 82 (.mv (.t 14)),
O2 (.callw "#pi" [.t 80, .t 81, .t 82, (.c (.int .i64 3))])]
def l01 : List XO := [
O1 83 (.mv (.t 7)),
O1 84 (.mv (.t 7)),
O1 85 (.mv (.t 7)),
O1 86 (.mv (.t 7)),
O1 87 (.nilck (.t 86)),
O1 88 (.fldA 0 (.t 87)),
O1 89 (.load false 1 (.t 88)),
O1 90 (.load true 3 (.t 13)),
O1 91 (.bsl 3 [.t 90]),
O1 92 (.app 3 24 (.t 89) (.t 91)),
O1 93 (.mv (.t 7)),
O1 94 (.nilck (.t 93)),
O1 95 (.fldA 1 (.t 94)),
O1 96 (.load false 1 (.t 95)),
O1 97 (.mv (.t 9)),
O1 98 (.bsl 1 [.t 97]),
O1 99 (.app 1 8 (.t 96) (.t 98)),
O1 100 (.mv (.t 7)),
O1 101 (.nilck (.t 100)),
O1 102 (.fldA 2 (.t 101)),
O1 103 (.load false 1 (.t 102)),
O1 104 (.mv (.t 12)),
O1 105 (.bsl 1 [.t 104]),
O1 106 (.app 1 8 (.t 103) (.t 105)),
O1 107 (.nilck (.t 83)),
O1 108 (.fldA 0 (.t 107)),
O2 (.store 1 (.t 108) (.t 92)),
O1 109 (.nilck (.t 84)),
O1 110 (.fldA 1 (.t 109)),
O2 (.store 1 (.t 110) (.t 99)),
O1 111 (.nilck (.t 85)),
O1 112 (.fldA 2 (.t 111)),
O2 (.store 1 (.t 112) (.t 106))]
def l02 : List XO := [
O1 113 (.mv (.t 11)),
O1 114 (.mv (.t 12)),
O1 115 (.mv (.t 14)),
O1 116 (.ixA 1 (.t 113) (.t 114)),
O2 (.store 1 (.t 116) (.t 115))]
def l03 : List XO := [
O1 117 (.bin .add .no (.t 47) (.c (.int .i64 1))),
O1 47 (.mv (.t 117))]
def l1f : XCode :=
 (.seq (.reg l1d) (.seq (.cond (.t 48) .skip (.exit 2)) (.seq (.block 3 (.seq (.reg l1e) (.seq (.reg l0u) (.seq (.seq (.reg l0v) (.cond (.t 59) (.exit 3) .skip)) (.seq (.reg l0w) (.seq (.reg l0x) (.seq (.seq (.reg l0y) (.cond (.t 74) (.seq (.reg l0z) (.seq (.reg l00) (.reg l01))) .skip)) (.reg l02)))))))) (.reg l03))))
def l05 : List XO := [
O1 118 (.mv (.t 7)),
O1 119 (.mv (.t 7)),
O1 120 (.nilck (.t 119)),
O1 121 (.fldA 3 (.t 120)),
O1 122 (.load false 1 (.t 121)),
O1 123 (.mv (.t 11)),
O1 124 (.bsl 1 [.t 123]),
O1 125 (.app 1 24 (.t 122) (.t 124)),
O1 126 (.nilck (.t 118)),
O1 127 (.fldA 3 (.t 126)),
O2 (.store 1 (.t 127) (.t 125))]
def l06 : List XO := [
O1 32 (.mv (.t 9)),
O1 33 (.bin .add .no (.t 32) (.c (.int .i64 1))),
O1 9 (.mv (.t 33))]
def l1g : XCode :=
 (.seq (.seq (.reg l09) (.cond (.t 31) .skip (.exit 0))) (.seq (.block 1 (.seq (.reg l1a) (.seq (.reg l1b) (.seq (.seq (.reg l1c) (.block 2 (.loop l1f))) (.seq .ghost (.reg l05)))))) (.reg l06)))
def l07 : List XO := [
O1 128 (.mv (.t 7)),
O1 6 (.mv (.t 128))]
def x__control_plant__explore : XFunc := { np := 3, res := [.t 6], body :=
 (.seq (.reg l0s) (.seq (.reg l0t) (.seq (.reg l04) (.seq (.seq (.reg l08) (.block 0 (.loop l1g))) (.seq (.reg l07) .ret))))) }
def l5w : List XO := [
O1 2 (.mv (.c (.int .i64 0)))]
def l5x : List XO := [
O1 3 (.mv (.t 0)),
O1 2 (.mv (.t 3))]
def x_control_same : XFunc := { np := 1, res := [.t 2], body :=
 (.seq (.reg l5w) (.seq (.reg l5x) .ret)) }
def l0p : List XO := [
O1 4 (.boxF (.t 0)),
O1 6 (.boxF (.t 2)),
O1 8 (.mv (.c (.slice none 0 0))),
O1 9 (.mv (.c (.bool false)))]
def l0q : List XO := [
O1 11 (.load true 5 (.tf 4)),
O1 12 (.mv (.t 1)),
O1 13 (.mv (.t 3)),
O1 14 (.call "(newel/control.plant).explore" [.t 11, .t 12, .t 13]),
O1 10 (.alloc [(.pointer none)]),
O2 (.store 1 (.t 10) (.t 14))]
def l0r : List XO := [
O1 15 (.load false 1 (.t 10)),
O1 16 (.mkfn "(newel/control.plant).breach$1" [] [.t 4, .t 6, .t 10]),
O1 17 (.call "(*newel/control.walk).first" [.t 15, .t 16]),
O1 18 (.ext (.t 17) 0),
O1 19 (.ext (.t 17) 1),
O1 8 (.mv (.t 18)),
O1 9 (.mv (.t 19))]
def x__control_plant__breach : XFunc := { np := 4, res := [.t 8, .t 9], body :=
 (.seq (.reg l0p) (.seq (.reg l0q) (.seq (.seq .ghost (.reg l0r)) .ret))) }
def l1p : List XO := [
O1 4 (.boxF (.t 0)),
O1 6 (.boxF (.t 2)),
O1 7 (.boxF (.t 3)),
O1 8 (.mv (.c (.bool false)))]
def l1q : List XO := [
O1 9 (.mv (.t 1)),
O1 10 (.mkfn "(newel/situation.Plant).Holds$1" [] [.t 4, .t 6, .t 7]),
O1 11 (.call "slices.ContainsFunc[newel/api.Cond,newel/api.Term]" [.t 9, .t 10]),
O1 8 (.mv (.t 11))]
def x__situation_Plant__Holds : XFunc := { np := 4, res := [.t 8], body :=
 (.seq (.reg l1p) (.seq (.reg l1q) .ret)) }
def j96 : List XO := [
O1 4 (.mv (.c (.slice none 0 0))),
O1 5 (.mv (.c (.bool false)))]
def j97 : List XO := [
O1 7 (.mv (.t 0)),
O1 8 (.nilck (.t 7)),
O1 9 (.fldA 0 (.t 8)),
O1 10 (.load false 1 (.t 9)),
O1 11 (.len false (.t 10)),
O1 12 (.mv (.c (.int .i64 0)))]
def j98 : List XO := [
O1 13 (.bin .lss .no (.t 12) (.t 11))]
def j99 : List XO := [
O1 14 (.mv (.t 12)),
O1 6 (.mv (.t 14))]
def l0a : List XO := [
O1 15 (.mv (.t 1)),
O1 16 (.mv (.t 6)),
O1 17 (.callv (.t 15) [.t 16])]
def l0b : List XO := [
O1 18 (.mv (.t 0)),
O1 19 (.mv (.t 6)),
O1 20 (.call "(*newel/control.walk).run" [.t 18, .t 19]),
O1 4 (.mv (.t 20)),
O1 5 (.mv (.c (.bool true)))]
def l0c : List XO := [
O1 21 (.bin .add .no (.t 12) (.c (.int .i64 1))),
O1 12 (.mv (.t 21))]
def l0e : XCode :=
 (.seq (.reg j98) (.seq (.cond (.t 13) .skip (.exit 0)) (.seq (.block 1 (.seq (.reg j99) (.seq (.reg l0a) (.cond (.t 17) (.seq (.reg l0b) .ret) .skip)))) (.reg l0c))))
def l0d : List XO := [
O1 4 (.mv (.c (.slice none 0 0))),
O1 5 (.mv (.c (.bool false)))]
def x___control_walk__first : XFunc := { np := 2, res := [.t 4, .t 5], body :=
 (.seq (.reg j96) (.seq (.seq (.reg j97) (.block 0 (.loop l0e))) (.seq (.reg l0d) .ret))) }
def m0z : List XO := [
O1 1 (.boxF (.t 0)),
O1 2 (.mv (.c (.int .i64 0)))]
def m00 : List XO := [
O1 3 (.fldA 0 (.tf 1)),
O1 4 (.load false 1 (.tf 3)),
O1 5 (.len false (.t 4)),
O1 6 (.cvtI .u64 (.t 5)),
O1 7 (.bin .shl .no (.c (.int .i64 1)) (.t 6)),
O1 2 (.mv (.t 7))]
def x_r04_all : XFunc := { np := 1, res := [.t 2], body :=
 (.seq (.reg m0z) (.seq (.reg m00) .ret)) }
def l9c : List XO := [
O1 3 (.boxF (.t 0)),
O1 4 (.boxF (.t 1)),
O1 6 (.alloc [(.int .i64 0), (.int .i64 0), (.int .i64 0)])]
def l9d : List XO := [
O1 7 (.mv (.c (.int .i64 0)))]
def l9n : List XO := [
O1 12 (.mv (.t 7)),
O1 13 (.fldA 4 (.tf 3)),
O1 14 (.load false 1 (.tf 13)),
O1 15 (.len false (.t 14)),
O1 16 (.bin .lss .no (.t 12) (.t 15))]
def l9q : List XO := [
O1 19 (.fldA 4 (.tf 3)),
O1 20 (.load false 1 (.tf 19)),
O1 21 (.mv (.t 7)),
O1 22 (.ixA 4 (.t 20) (.t 21)),
O1 23 (.load true 4 (.t 22)),
O1 8 (.alloc [(.int .i64 0), (.int .i64 0), (.slice none 0 0), (.slice none 0 0)]),
O2 (.store 4 (.t 8) (.t 23))]
def l9r : List XO := [
O1 24 (.fldA 0 (.t 8)),
O1 25 (.load false 1 (.t 24)),
O1 26 (.bin .geq .no (.t 25) (.c (.int .i64 0))),
O1 27 (.mv (.t 26)),
 ⟨(some 28), (some (27, true)), .fldA 0 (.t 8)⟩,
 ⟨(some 29), (some (27, true)), .load false 1 (.t 28)⟩,
 ⟨(some 30), (some (27, true)), .fldA 0 (.tf 4)⟩,
 ⟨(some 31), (some (27, true)), .load false 1 (.tf 30)⟩,
 ⟨(some 32), (some (27, true)), .bin .neq .no (.t 29) (.t 31)⟩,
O1 33 (.pick (.t 27) (.t 32) (.c (.bool false))),
O1 34 (.mv (.t 33)),
 ⟨(some 35), (some (34, false)), .load true 5 (.tf 3)⟩,
 ⟨(some 36), (some (34, false)), .load true 3 (.tf 4)⟩,
 ⟨(some 37), (some (34, false)), .mv (.t 2)⟩,
 ⟨(some 38), (some (34, false)), .fldA 2 (.t 8)⟩,
 ⟨(some 39), (some (34, false)), .load false 1 (.t 38)⟩,
 ⟨(some 40), (some (34, false)), .call "newel/newelref04.Holds" [.t 35, .t 36, .t 37, .t 39]⟩,
 ⟨(some 41), (some (34, false)), .un .not (.t 40)⟩,
O1 42 (.pick (.t 34) (.c (.bool true)) (.t 41))]
def l9s : List XO := [
O1 43 (.load true 3 (.tf 4)),
O1 9 (.alloc [(.int .i64 0), (.int .i64 0), (.int .i64 0)]),
O2 (.store 3 (.t 9) (.t 43))]
def l9t : List XO := [
O1 10 (.mv (.c (.int .i64 0)))]
def l9u : List XO := [
O1 44 (.mv (.t 10)),
O1 45 (.fldA 3 (.t 8)),
O1 46 (.load false 1 (.t 45)),
O1 47 (.len false (.t 46)),
O1 48 (.bin .lss .no (.t 44) (.t 47))]
def l9v : List XO := [
O1 51 (.fldA 3 (.t 8)),
O1 52 (.load false 1 (.t 51)),
O1 53 (.mv (.t 10)),
O1 54 (.ixA 2 (.t 52) (.t 53)),
O1 55 (.fldA 1 (.t 54)),
O1 56 (.load false 1 (.t 55)),
O1 11 (.mv (.t 56))]
def l9w : List XO := [
O1 57 (.fldA 3 (.t 8)),
O1 58 (.load false 1 (.t 57)),
O1 59 (.mv (.t 10)),
O1 60 (.ixA 2 (.t 58) (.t 59)),
O1 61 (.fldA 0 (.t 60)),
O1 62 (.load false 1 (.t 61))]
def l9e : List XO := [
O1 64 (.bin .eql .no (.t 62) (.c (.int .i64 1))),
O1 63 (.mv (.t 64))]
def l9f : List XO := [
O1 65 (.mv (.t 11)),
O1 66 (.fldA 1 (.t 9)),
O1 67 (.ixP 1 2 (.t 66) (.t 65)),
O2 (.store 1 (.t 67) (.c (.int .i64 0)))]
def l9g : List XO := [
O1 69 (.bin .eql .no (.t 62) (.c (.int .i64 2))),
O1 68 (.mv (.t 69))]
def l9h : List XO := [
O1 70 (.mv (.t 11)),
O1 71 (.mv (.t 11)),
O1 72 (.fldA 1 (.t 9)),
O1 73 (.ixP 1 2 (.t 72) (.t 71)),
O1 74 (.load false 1 (.t 73)),
O1 75 (.bin .add .no (.t 74) (.c (.int .i64 1))),
O1 76 (.fldA 2 (.tf 3)),
O1 77 (.load false 1 (.tf 76)),
O1 78 (.mv (.t 11)),
O1 79 (.ixA 2 (.t 77) (.t 78)),
O1 80 (.fldA 1 (.t 79)),
O1 81 (.load false 1 (.t 80)),
O1 82 (.min [.t 75, .t 81]),
O1 83 (.fldA 1 (.t 9)),
O1 84 (.ixP 1 2 (.t 83) (.t 70)),
O2 (.store 1 (.t 84) (.t 82))]
def l9i : List XO := [
O1 86 (.bin .eql .no (.t 62) (.c (.int .i64 3))),
O1 85 (.mv (.t 86))]
def l9j : List XO := [
O1 87 (.mv (.t 11)),
O1 88 (.mv (.t 11)),
O1 89 (.fldA 1 (.t 9)),
O1 90 (.ixP 1 2 (.t 89) (.t 88)),
O1 91 (.load false 1 (.t 90)),
O1 92 (.bin .sub .no (.t 91) (.c (.int .i64 1))),
O1 93 (.max [.t 92, (.c (.int .i64 0))]),
O1 94 (.fldA 1 (.t 9)),
O1 95 (.ixP 1 2 (.t 94) (.t 87)),
O2 (.store 1 (.t 95) (.t 93))]
def l9k : List XO := [
O1 49 (.mv (.t 10)),
O1 50 (.bin .add .no (.t 49) (.c (.int .i64 1))),
O1 10 (.mv (.t 50))]
def d81 : XCode :=
 (.seq (.seq (.reg l9u) (.cond (.t 48) .skip (.exit 2))) (.seq (.block 3 (.seq (.reg l9v) (.seq (.reg l9w) (.block 4 (.seq (.reg l9e) (.cond (.t 63) (.reg l9f) (.seq (.reg l9g) (.cond (.t 68) (.reg l9h) (.seq (.reg l9i) (.cond (.t 85) (.reg l9j) .skip)))))))))) (.reg l9k)))
def l9l : List XO := [
O1 96 (.fldA 1 (.t 8)),
O1 97 (.load false 1 (.t 96)),
O1 98 (.fldA 0 (.t 9)),
O2 (.store 1 (.t 98) (.t 97))]
def l9m : List XO := [
O1 99 (.load true 3 (.t 9)),
O2 (.store 3 (.t 6) (.t 99))]
def l9o : List XO := [
O1 17 (.mv (.t 7)),
O1 18 (.bin .add .no (.t 17) (.c (.int .i64 1))),
O1 7 (.mv (.t 18))]
def d82 : XCode :=
 (.seq (.seq (.reg l9n) (.cond (.t 16) .skip (.exit 0))) (.seq (.block 1 (.seq (.reg l9q) (.seq (.seq (.reg l9r) (.cond (.t 42) (.exit 1) .skip)) (.seq (.reg l9s) (.seq (.seq (.reg l9t) (.block 2 (.loop d81))) (.seq (.reg l9l) (.seq (.reg l9m) .ret))))))) (.reg l9o)))
def l9p : List XO := [
O1 100 (.load true 3 (.tf 4)),
O2 (.store 3 (.t 6) (.t 100))]
def x_r04_Next : XFunc := { np := 3, res := [.cell 6 true 3], body :=
 (.seq (.reg l9c) (.seq (.seq (.reg l9d) (.block 0 (.loop d82))) (.seq (.reg l9p) .ret))) }
def m01 : List XO := [
O1 3 (.boxF (.t 0)),
O1 6 (.mv (.c (.bool false)))]
def m02 : List XO := [
O1 11 (.mv (.t 1)),
O1 12 (.len false (.t 11)),
O1 13 (.bin .gtr .no (.t 12) (.c (.int .i64 6)))]
def m1d : List XO := [
O1 6 (.mv (.c (.bool false)))]
def m1j : List XO := [
O1 7 (.mv (.c (.int .i64 0)))]
def m1k : List XO := [
O1 14 (.mv (.t 7)),
O1 15 (.mv (.t 1)),
O1 16 (.len false (.t 15)),
O1 17 (.bin .lss .no (.t 14) (.t 16))]
def m1l : List XO := [
O1 20 (.mv (.t 1)),
O1 21 (.mv (.t 7)),
O1 22 (.ixA 1 (.t 20) (.t 21)),
O1 23 (.load false 1 (.t 22)),
O1 24 (.len false (.t 23)),
O1 25 (.bin .gtr .no (.t 24) (.c (.int .i64 6)))]
def m1m : List XO := [
O1 6 (.mv (.c (.bool false)))]
def m1n : List XO := [
O1 8 (.mv (.c (.int .i64 0)))]
def m1o : List XO := [
O1 26 (.mv (.t 8)),
O1 27 (.mv (.t 1)),
O1 28 (.mv (.t 7)),
O1 29 (.ixA 1 (.t 27) (.t 28)),
O1 30 (.load false 1 (.t 29)),
O1 31 (.len false (.t 30)),
O1 32 (.bin .lss .no (.t 26) (.t 31))]
def m1p : List XO := [
O1 35 (.mv (.t 1)),
O1 36 (.mv (.t 7)),
O1 37 (.ixA 1 (.t 35) (.t 36)),
O1 38 (.load false 1 (.t 37)),
O1 39 (.mv (.t 8)),
O1 40 (.ixA 4 (.t 38) (.t 39)),
O1 41 (.load true 4 (.t 40)),
O1 9 (.alloc [(.int .i64 0), (.int .i64 0), (.int .i64 0), (.bool false)]),
O2 (.store 4 (.t 9) (.t 41))]
def m03 : List XO := [
O1 10 (.mv (.c (.bool false)))]
def m04 : List XO := [
O1 42 (.fldA 0 (.t 9)),
O1 43 (.load false 1 (.t 42))]
def m05 : List XO := [
O1 45 (.bin .eql .no (.t 43) (.c (.int .i64 1))),
O1 44 (.mv (.t 45))]
def m06 : List XO := [
O1 46 (.fldA 1 (.t 9)),
O1 47 (.load false 1 (.t 46)),
O1 48 (.fldA 0 (.tf 3)),
O1 49 (.load false 1 (.tf 48)),
O1 50 (.len false (.t 49)),
O1 51 (.bin .sub .no (.t 50) (.c (.int .i64 1))),
O1 52 (.call "newel/newelref04.from" [.t 47, (.c (.int .i64 0)), .t 51]),
O1 53 (.mv (.t 52)),
 ⟨(some 54), (some (53, true)), .fldA 2 (.t 9)⟩,
 ⟨(some 55), (some (53, true)), .load false 1 (.t 54)⟩,
 ⟨(some 56), (some (53, true)), .bin .eql .no (.t 55) (.c (.int .i64 0))⟩,
O1 57 (.pick (.t 53) (.t 56) (.c (.bool false))),
O1 10 (.mv (.t 57))]
def m07 : List XO := [
O1 59 (.bin .eql .no (.t 43) (.c (.int .i64 2))),
O1 58 (.mv (.t 59))]
def m08 : List XO := [
O1 60 (.fldA 1 (.t 9)),
O1 61 (.load false 1 (.t 60)),
O1 62 (.fldA 2 (.tf 3)),
O1 63 (.load false 1 (.tf 62)),
O1 64 (.len false (.t 63)),
O1 65 (.bin .sub .no (.t 64) (.c (.int .i64 1))),
O1 66 (.call "newel/newelref04.from" [.t 61, (.c (.int .i64 0)), .t 65]),
O1 67 (.mv (.t 66)),
 ⟨(some 68), (some (67, true)), .fldA 2 (.t 9)⟩,
 ⟨(some 69), (some (67, true)), .load false 1 (.t 68)⟩,
 ⟨(some 70), (some (67, true)), .fldA 2 (.tf 3)⟩,
 ⟨(some 71), (some (67, true)), .load false 1 (.tf 70)⟩,
 ⟨(some 72), (some (67, true)), .fldA 1 (.t 9)⟩,
 ⟨(some 73), (some (67, true)), .load false 1 (.t 72)⟩,
 ⟨(some 74), (some (67, true)), .ixA 2 (.t 71) (.t 73)⟩,
 ⟨(some 75), (some (67, true)), .fldA 1 (.t 74)⟩,
 ⟨(some 76), (some (67, true)), .load false 1 (.t 75)⟩,
 ⟨(some 77), (some (67, true)), .call "newel/newelref04.from" [.t 69, (.c (.int .i64 0)), .t 76]⟩,
O1 78 (.pick (.t 67) (.t 77) (.c (.bool false))),
O1 10 (.mv (.t 78))]
def m09 : List XO := [
O1 80 (.bin .eql .no (.t 43) (.c (.int .i64 3))),
O1 79 (.mv (.t 80))]
def m1a : List XO := [
O1 81 (.mv (.t 2)),
O1 82 (.mv (.t 81)),
 ⟨(some 83), (some (82, true)), .fldA 1 (.t 9)⟩,
 ⟨(some 84), (some (82, true)), .load false 1 (.t 83)⟩,
 ⟨(some 85), (some (82, true)), .fldA 3 (.tf 3)⟩,
 ⟨(some 86), (some (82, true)), .load false 1 (.tf 85)⟩,
 ⟨(some 87), (some (82, true)), .len false (.t 86)⟩,
 ⟨(some 88), (some (82, true)), .bin .sub .no (.t 87) (.c (.int .i64 1))⟩,
 ⟨(some 89), (some (82, true)), .call "newel/newelref04.from" [.t 84, (.c (.int .i64 0)), .t 88]⟩,
O1 90 (.pick (.t 82) (.t 89) (.c (.bool false))),
O1 91 (.mv (.t 90)),
 ⟨(some 92), (some (91, true)), .fldA 2 (.t 9)⟩,
 ⟨(some 93), (some (91, true)), .load false 1 (.t 92)⟩,
 ⟨(some 94), (some (91, true)), .bin .eql .no (.t 93) (.c (.int .i64 0))⟩,
O1 95 (.pick (.t 91) (.t 94) (.c (.bool false))),
O1 10 (.mv (.t 95))]
def m1b : List XO := [
O1 97 (.bin .eql .no (.t 43) (.c (.int .i64 4))),
O1 96 (.mv (.t 97))]
def m1c : List XO := [
O1 98 (.fldA 1 (.t 9)),
O1 99 (.load false 1 (.t 98)),
O1 100 (.fldA 1 (.tf 3)),
O1 101 (.load false 1 (.tf 100)),
O1 102 (.len false (.t 101)),
O1 103 (.bin .sub .no (.t 102) (.c (.int .i64 1))),
O1 104 (.call "newel/newelref04.from" [.t 99, (.c (.int .i64 0)), .t 103]),
O1 105 (.mv (.t 104)),
 ⟨(some 106), (some (105, true)), .fldA 2 (.t 9)⟩,
 ⟨(some 107), (some (105, true)), .load false 1 (.t 106)⟩,
 ⟨(some 108), (some (105, true)), .bin .eql .no (.t 107) (.c (.int .i64 0))⟩,
O1 109 (.pick (.t 105) (.t 108) (.c (.bool false))),
O1 10 (.mv (.t 109))]
def m1e : List XO := [
O1 110 (.mv (.t 10)),
O1 111 (.un .not (.t 110))]
def m1f : List XO := [
O1 6 (.mv (.c (.bool false)))]
def m1g : List XO := [
O1 33 (.mv (.t 8)),
O1 34 (.bin .add .no (.t 33) (.c (.int .i64 1))),
O1 8 (.mv (.t 34))]
def d87 : XCode :=
 (.seq (.seq (.reg m1o) (.cond (.t 32) .skip (.exit 2))) (.seq (.block 3 (.seq (.reg m1p) (.seq (.reg m03) (.seq (.seq (.reg m04) (.block 4 (.seq (.reg m05) (.cond (.t 44) (.reg m06) (.seq (.reg m07) (.cond (.t 58) (.reg m08) (.seq (.reg m09) (.cond (.t 79) (.reg m1a) (.seq (.reg m1b) (.cond (.t 96) (.reg m1c) .skip)))))))))) (.seq (.reg m1e) (.cond (.t 111) (.seq (.reg m1f) .ret) .skip)))))) (.reg m1g)))
def m1h : List XO := [
O1 18 (.mv (.t 7)),
O1 19 (.bin .add .no (.t 18) (.c (.int .i64 1))),
O1 7 (.mv (.t 19))]
def d88 : XCode :=
 (.seq (.seq (.reg m1k) (.cond (.t 17) .skip (.exit 0))) (.seq (.block 1 (.seq (.seq (.reg m1l) (.cond (.t 25) (.seq (.reg m1m) .ret) .skip)) (.seq (.reg m1n) (.block 2 (.loop d87))))) (.reg m1h)))
def m1i : List XO := [
O1 6 (.mv (.c (.bool true)))]
def x_r04_condition : XFunc := { np := 3, res := [.t 6], body :=
 (.seq (.reg m01) (.seq (.seq (.reg m02) (.cond (.t 13) (.seq (.reg m1d) .ret) .skip)) (.seq (.seq (.reg m1j) (.block 0 (.loop d88))) (.seq (.reg m1i) .ret)))) }
def l3g : List XO := [
O1 1 (.boxF (.t 0)),
O1 2 (.mv (.c (.int .i64 0)))]
def l3h : List XO := [
O1 3 (.load true 5 (.tf 1)),
O1 4 (.call "newel/situation.Check" [.t 3]),
O1 2 (.mv (.t 4))]
def x_control_Check : XFunc := { np := 1, res := [.t 2], body :=
 (.seq (.reg l3g) (.seq (.reg l3h) .ret)) }
def l1t : List XO := [
O1 2 (.boxF (.t 0)),
O1 3 (.boxF (.t 1)),
O1 4 (.mv (.c (.bool false)))]
def l1u : List XO := [
O1 8 (.fldA 1 (.tf 3)),
O1 9 (.load true 2 (.tf 8)),
O1 10 (.mv (.c (.int .i64 0)))]
def l1w : List XO := [
O1 11 (.bin .lss .no (.t 10) (.c (.int .i64 2)))]
def l1x : List XO := [
O1 12 (.mv (.t 10)),
O1 13 (.ixV 1 2 false (.t 9) (.t 10)),
O1 5 (.mv (.t 12)),
O1 6 (.mv (.t 13))]
def l1y : List XO := [
O1 7 (.mv (.c (.int .i64 0)))]
def l1z : List XO := [
O1 14 (.mv (.t 5)),
O1 15 (.fldA 0 (.tf 2)),
O1 16 (.fldA 2 (.tf 15)),
O1 17 (.load false 1 (.tf 16)),
O1 18 (.len false (.t 17)),
O1 19 (.bin .lss .no (.t 14) (.t 18))]
def l10 : List XO := [
O1 20 (.fldA 0 (.tf 2)),
O1 21 (.fldA 2 (.tf 20)),
O1 22 (.load false 1 (.tf 21)),
O1 23 (.mv (.t 5)),
O1 24 (.ixA 2 (.t 22) (.t 23)),
O1 25 (.fldA 1 (.t 24)),
O1 26 (.load false 1 (.t 25)),
O1 7 (.mv (.t 26))]
def l13 : List XO := [
O1 27 (.mv (.t 6)),
O1 28 (.mv (.t 7)),
O1 29 (.call "newel/situation.within" [.t 27, (.c (.int .i64 0)), .t 28]),
O1 30 (.un .not (.t 29))]
def l15 : List XO := [
O1 4 (.mv (.c (.bool false)))]
def l17 : List XO := [
O1 31 (.bin .add .no (.t 10) (.c (.int .i64 1))),
O1 10 (.mv (.t 31))]
def d8l : XCode :=
 (.seq (.reg l1w) (.seq (.cond (.t 11) .skip (.exit 0)) (.seq (.block 1 (.seq (.reg l1x) (.seq (.reg l1y) (.seq (.seq (.reg l1z) (.cond (.t 19) (.reg l10) .skip)) (.seq (.reg l13) (.cond (.t 30) (.seq (.reg l15) .ret) .skip)))))) (.reg l17))))
def l1v : List XO := [
O1 32 (.fldA 0 (.tf 3)),
O1 33 (.load false 1 (.tf 32)),
O1 34 (.fldA 0 (.tf 2)),
O1 35 (.fldA 3 (.tf 34)),
O1 36 (.load false 1 (.tf 35)),
O1 37 (.len false (.t 36)),
O1 38 (.bin .sub .no (.t 37) (.c (.int .i64 1))),
O1 39 (.call "newel/situation.within" [.t 33, (.c (.int .i64 0)), .t 38]),
O1 4 (.mv (.t 39))]
def x__situation_Plant__Place : XFunc := { np := 2, res := [.t 4], body :=
 (.seq (.reg l1t) (.seq (.seq (.reg l1u) (.block 0 (.loop d8l))) (.seq (.reg l1v) .ret))) }
def l1r : List XO := [
O1 2 (.boxF (.t 0)),
O1 4 (.mv (.c (.bool false)))]
def l1s : List XO := [
O1 5 (.mv (.t 1)),
O1 6 (.load true 5 (.tf 2)),
O1 7 (.call "(newel/situation.Plant).All" [.t 6]),
O1 8 (.bin .sub .no (.t 7) (.c (.int .i64 1))),
O1 9 (.call "newel/situation.within" [.t 5, (.c (.int .i64 0)), .t 8]),
O1 4 (.mv (.t 9))]
def x__situation_Plant__Input : XFunc := { np := 2, res := [.t 4], body :=
 (.seq (.reg l1r) (.seq (.reg l1s) .ret)) }
def l18 : List XO := [
O1 3 (.boxF (.t 0)),
O1 4 (.box (.t 1)),
O1 6 (.alloc [(.int .i64 0), (.int .i64 0), (.int .i64 0)])]
def l19 : List XO := [
O1 11 (.fldA 0 (.tf 3)),
O1 12 (.fldA 4 (.tf 11)),
O1 13 (.load false 1 (.tf 12)),
O1 14 (.len false (.t 13)),
O1 15 (.mv (.c (.int .i64 0)))]
def l2d : List XO := [
O1 16 (.bin .lss .no (.t 15) (.t 14))]
def l2e : List XO := [
O1 17 (.ixA 4 (.t 13) (.t 15)),
O1 18 (.load true 4 (.t 17)),
O1 8 (.alloc [(.int .i64 0), (.int .i64 0), (.slice none 0 0), (.slice none 0 0)]),
O2 (.store 4 (.t 8) (.t 18))]
def l2f : List XO := [
O1 19 (.fldA 0 (.t 8)),
O1 20 (.load false 1 (.t 19)),
O1 21 (.bin .neq .no (.t 20) (.c (.int .i64 (-1)))),
O1 22 (.mv (.t 21)),
 ⟨(some 23), (some (22, true)), .fldA 0 (.t 8)⟩,
 ⟨(some 24), (some (22, true)), .load false 1 (.t 23)⟩,
 ⟨(some 25), (some (22, true)), .fldA 0 (.t 4)⟩,
 ⟨(some 26), (some (22, true)), .load false 1 (.t 25)⟩,
 ⟨(some 27), (some (22, true)), .bin .neq .no (.t 24) (.t 26)⟩,
O1 28 (.pick (.t 22) (.t 27) (.c (.bool false))),
O1 29 (.mv (.t 28)),
 ⟨(some 30), (some (29, false)), .load true 5 (.tf 3)⟩,
 ⟨(some 31), (some (29, false)), .fldA 2 (.t 8)⟩,
 ⟨(some 32), (some (29, false)), .load false 1 (.t 31)⟩,
 ⟨(some 33), (some (29, false)), .load true 3 (.t 4)⟩,
 ⟨(some 34), (some (29, false)), .mv (.t 2)⟩,
 ⟨(some 35), (some (29, false)), .call "(newel/situation.Plant).Holds" [.t 30, .t 32, .t 33, .t 34]⟩,
 ⟨(some 36), (some (29, false)), .un .not (.t 35)⟩,
O1 37 (.pick (.t 29) (.c (.bool true)) (.t 36))]
def l2g : List XO := [
O1 38 (.fldA 3 (.t 8)),
O1 39 (.load false 1 (.t 38)),
O1 40 (.len false (.t 39)),
O1 41 (.mv (.c (.int .i64 0)))]
def l2h : List XO := [
O1 42 (.bin .lss .no (.t 41) (.t 40))]
def l2i : List XO := [
O1 43 (.ixA 2 (.t 39) (.t 41)),
O1 44 (.load true 2 (.t 43)),
O1 10 (.alloc [(.int .i64 0), (.int .i64 0)]),
O2 (.store 2 (.t 10) (.t 44))]
def l2j : List XO := [
O1 45 (.load true 5 (.tf 3)),
O1 46 (.load true 2 (.t 10)),
O1 47 (.callw "(newel/situation.Plant).set" [.t 45, .t 46, .t 4])]
def l2k : List XO := [
O1 48 (.bin .add .no (.t 41) (.c (.int .i64 1))),
O1 41 (.mv (.t 48))]
def d8m : XCode :=
 (.seq (.reg l2h) (.seq (.cond (.t 42) .skip (.exit 2)) (.seq (.block 3 (.seq (.reg l2i) (.reg l2j))) (.reg l2k))))
def l2a : List XO := [
O1 49 (.fldA 1 (.t 8)),
O1 50 (.load false 1 (.t 49)),
O1 51 (.fldA 0 (.t 4)),
O2 (.store 1 (.t 51) (.t 50))]
def l2b : List XO := [
O1 52 (.bin .add .no (.t 15) (.c (.int .i64 1))),
O1 15 (.mv (.t 52))]
def d8n : XCode :=
 (.seq (.reg l2d) (.seq (.cond (.t 16) .skip (.exit 0)) (.seq (.block 1 (.seq (.reg l2e) (.seq (.seq (.reg l2f) (.cond (.t 37) (.exit 1) .skip)) (.seq (.seq (.reg l2g) (.block 2 (.loop d8m))) (.seq (.reg l2a) (.exit 0)))))) (.reg l2b))))
def l2c : List XO := [
O1 53 (.load true 3 (.t 4)),
O2 (.store 3 (.t 6) (.t 53))]
def x__situation_Plant__Step : XFunc := { np := 3, res := [.cell 6 true 3], body :=
 (.seq (.reg l18) (.seq (.seq (.reg l19) (.block 0 (.loop d8n))) (.seq (.reg l2c) .ret))) }
def m1q : List XO := [
O1 6 (.mv (.c (.bool false)))]
def m1r : List XO := [
O1 7 (.mv (.t 0)),
O1 8 (.mv (.t 1)),
O1 9 (.bin .geq .no (.t 7) (.t 8)),
O1 10 (.mv (.t 9)),
 ⟨(some 11), (some (10, true)), .mv (.t 0)⟩,
 ⟨(some 12), (some (10, true)), .mv (.t 2)⟩,
 ⟨(some 13), (some (10, true)), .bin .leq .no (.t 11) (.t 12)⟩,
O1 14 (.pick (.t 10) (.t 13) (.c (.bool false))),
O1 6 (.mv (.t 14))]
def x_r04_from : XFunc := { np := 3, res := [.t 6], body :=
 (.seq (.reg m1q) (.seq (.reg m1r) .ret)) }
def m14 : List XO := [
O1 1 (.boxF (.t 0)),
O1 2 (.mv (.c (.slice none 0 0)))]
def m15 : List XO := [
O1 6 (.bsl 1 []),
O1 7 (.fldA 0 (.tf 1)),
O1 8 (.load false 1 (.tf 7)),
O1 9 (.app 1 16 (.t 6) (.t 8)),
O1 10 (.fldA 1 (.tf 1)),
O1 11 (.load false 1 (.tf 10)),
O1 12 (.app 1 16 (.t 9) (.t 11)),
O1 3 (.mv (.t 12))]
def m18 : List XO := [
O1 4 (.mv (.c (.int .i64 0)))]
def m19 : List XO := [
O1 13 (.mv (.t 4)),
O1 14 (.fldA 2 (.tf 1)),
O1 15 (.load false 1 (.tf 14)),
O1 16 (.len false (.t 15)),
O1 17 (.bin .lss .no (.t 13) (.t 16))]
def m2a : List XO := [
O1 20 (.mv (.t 3)),
O1 21 (.fldA 2 (.tf 1)),
O1 22 (.load false 1 (.tf 21)),
O1 23 (.mv (.t 4)),
O1 24 (.ixA 2 (.t 22) (.t 23)),
O1 25 (.fldA 0 (.t 24)),
O1 26 (.load false 1 (.t 25)),
O1 27 (.bsl 1 [.t 26]),
O1 28 (.app 1 16 (.t 20) (.t 27)),
O1 3 (.mv (.t 28))]
def m2b : List XO := [
O1 18 (.mv (.t 4)),
O1 19 (.bin .add .no (.t 18) (.c (.int .i64 1))),
O1 4 (.mv (.t 19))]
def d9a : XCode :=
 (.seq (.seq (.reg m19) (.cond (.t 17) .skip (.exit 0))) (.seq (.block 1 (.reg m2a)) (.reg m2b)))
def m2c : List XO := [
O1 5 (.mv (.c (.int .i64 0)))]
def m2d : List XO := [
O1 29 (.mv (.t 5)),
O1 30 (.fldA 3 (.tf 1)),
O1 31 (.load false 1 (.tf 30)),
O1 32 (.len false (.t 31)),
O1 33 (.bin .lss .no (.t 29) (.t 32))]
def m2e : List XO := [
O1 36 (.mv (.t 3)),
O1 37 (.fldA 3 (.tf 1)),
O1 38 (.load false 1 (.tf 37)),
O1 39 (.mv (.t 5)),
O1 40 (.ixA 2 (.t 38) (.t 39)),
O1 41 (.fldA 0 (.t 40)),
O1 42 (.load false 1 (.t 41)),
O1 43 (.bsl 1 [.t 42]),
O1 44 (.app 1 16 (.t 36) (.t 43)),
O1 3 (.mv (.t 44))]
def m16 : List XO := [
O1 34 (.mv (.t 5)),
O1 35 (.bin .add .no (.t 34) (.c (.int .i64 1))),
O1 5 (.mv (.t 35))]
def d89 : XCode :=
 (.seq (.seq (.reg m2d) (.cond (.t 33) .skip (.exit 2))) (.seq (.block 3 (.reg m2e)) (.reg m16)))
def m17 : List XO := [
O1 45 (.mv (.t 3)),
O1 2 (.mv (.t 45))]
def x_r04_names : XFunc := { np := 1, res := [.t 2], body :=
 (.seq (.reg m14) (.seq (.reg m15) (.seq (.seq (.reg m18) (.block 0 (.loop d9a))) (.seq (.seq (.reg m2c) (.block 2 (.loop d89))) (.seq (.reg m17) .ret))))) }
def m0n : List XO := [
O1 2 (.mv (.c (.bool false)))]
def m0o : List XO := [
O1 3 (.mv (.c (.int .i64 0)))]
def m0s : List XO := [
O1 5 (.mv (.t 3)),
O1 6 (.load false 1 (.g 0 b5h)),
O1 7 (.len false (.t 6)),
O1 8 (.bin .lss .no (.t 5) (.t 7))]
def m0t : List XO := [
O1 11 (.mv (.t 0)),
O1 12 (.load false 1 (.g 0 b5h)),
O1 13 (.mv (.t 3)),
O1 14 (.ixA 1 (.t 12) (.t 13)),
O1 15 (.load false 1 (.t 14)),
O1 16 (.bin .eql .no (.t 11) (.t 15))]
def m0u : List XO := [
O1 2 (.mv (.c (.bool false)))]
def m0v : List XO := [
O1 9 (.mv (.t 3)),
O1 10 (.bin .add .no (.t 9) (.c (.int .i64 1))),
O1 3 (.mv (.t 10))]
def d86 : XCode :=
 (.seq (.seq (.reg m0s) (.cond (.t 8) .skip (.exit 0))) (.seq (.block 1 (.seq (.reg m0t) (.cond (.t 16) (.seq (.reg m0u) .ret) .skip))) (.reg m0v)))
def m0w : List XO := [
O1 4 (.mv (.c (.int .i64 0)))]
def m0x : List XO := [
O1 17 (.mv (.t 4)),
O1 18 (.mv (.t 0)),
O1 19 (.len true (.t 18)),
O1 20 (.bin .lss .no (.t 17) (.t 19))]
def m0y : List XO := [
O1 23 (.mv (.t 0)),
O1 24 (.mv (.t 4)),
O1 25 (.ixS (.t 23) (.t 24)),
O1 26 (.bin .lss .no (.t 25) (.c (.int .u8 97))),
O1 27 (.mv (.t 26)),
 ⟨(some 28), (some (27, false)), .mv (.t 0)⟩,
 ⟨(some 29), (some (27, false)), .mv (.t 4)⟩,
 ⟨(some 30), (some (27, false)), .ixS (.t 28) (.t 29)⟩,
 ⟨(some 31), (some (27, false)), .bin .gtr .no (.t 30) (.c (.int .u8 122))⟩,
O1 32 (.pick (.t 27) (.c (.bool true)) (.t 31))]
def m0p : List XO := [
O1 2 (.mv (.c (.bool false)))]
def m0q : List XO := [
O1 21 (.mv (.t 4)),
O1 22 (.bin .add .no (.t 21) (.c (.int .i64 1))),
O1 4 (.mv (.t 22))]
def d85 : XCode :=
 (.seq (.seq (.reg m0x) (.cond (.t 20) .skip (.exit 2))) (.seq (.block 3 (.seq (.reg m0y) (.cond (.t 32) (.seq (.reg m0p) .ret) .skip))) (.reg m0q)))
def m0r : List XO := [
O1 33 (.mv (.t 0)),
O1 34 (.len true (.t 33)),
O1 35 (.bin .gtr .no (.t 34) (.c (.int .i64 0))),
O1 2 (.mv (.t 35))]
def x_r04_Word : XFunc := { np := 1, res := [.t 2], body :=
 (.seq (.reg m0n) (.seq (.seq (.reg m0o) (.block 0 (.loop d86))) (.seq (.seq (.reg m0w) (.block 2 (.loop d85))) (.seq (.reg m0r) .ret)))) }
def m6d : List XO := [
O1 4 (.mv (.c (.int .i64 0)))]
def m6e : List XO := [
O1 6 (.mv (.t 0)),
O1 7 (.len false (.t 6)),
O1 8 (.mv (.c (.int .i64 0)))]
def m6f : List XO := [
O1 9 (.bin .lss .no (.t 8) (.t 7))]
def m6g : List XO := [
O1 10 (.mv (.t 8)),
O1 5 (.mv (.t 10))]
def m6h : List XO := [
O1 11 (.mv (.t 1)),
O1 12 (.mv (.t 0)),
O1 13 (.mv (.t 5)),
O1 14 (.ixA 1 (.t 12) (.t 13)),
O1 15 (.load false 1 (.t 14)),
O1 16 (.callv (.t 11) [.t 15])]
def m6i : List XO := [
O1 17 (.mv (.t 5)),
O1 4 (.mv (.t 17))]
def m6j : List XO := [
O1 18 (.bin .add .no (.t 8) (.c (.int .i64 1))),
O1 8 (.mv (.t 18))]
def m6l : XCode :=
 (.seq (.reg m6f) (.seq (.cond (.t 9) .skip (.exit 0)) (.seq (.block 1 (.seq (.reg m6g) (.seq (.reg m6h) (.cond (.t 16) (.seq (.reg m6i) .ret) .skip)))) (.reg m6j))))
def m6k : List XO := [
O1 4 (.mv (.c (.int .i64 (-1))))]
def x_slices_IndexFunc___int_int_ : XFunc := { np := 2, res := [.t 4], body :=
 (.seq (.reg m6d) (.seq (.seq (.reg m6e) (.block 0 (.loop m6l))) (.seq (.reg m6k) .ret))) }
def l3i : List XO := [
O1 4 (.mv (.c (.bool false)))]
def l3j : List XO := [
O1 5 (.load false 1 (.t 1)),
O1 6 (.mv (.t 0)),
O1 7 (.ixA 1 (.t 5) (.t 6)),
O1 8 (.load false 1 (.t 7)),
O1 9 (.load false 1 (.t 1)),
O1 10 (.load false 1 (.t 2)),
O1 11 (.ixA 1 (.t 9) (.t 10)),
O1 12 (.load false 1 (.t 11)),
O1 13 (.call "slices.Equal[[]int,int]" [.t 8, .t 12]),
O1 4 (.mv (.t 13))]
def x_control_ClassesD1 : XFunc := { np := 3, res := [.t 4], body :=
 (.seq (.reg l3i) (.seq (.reg l3j) .ret)) }
def m5v : List XO := [
O1 4 (.mv (.c (.bool false)))]
def m5w : List XO := [
O1 6 (.mv (.t 0)),
O1 7 (.len false (.t 6)),
O1 8 (.mv (.t 1)),
O1 9 (.len false (.t 8)),
O1 10 (.bin .neq .no (.t 7) (.t 9))]
def m5y : List XO := [
O1 4 (.mv (.c (.bool false)))]
def m5z : List XO := [
O1 11 (.mv (.t 0)),
O1 12 (.len false (.t 11)),
O1 13 (.mv (.c (.int .i64 0)))]
def m50 : List XO := [
O1 14 (.bin .lss .no (.t 13) (.t 12))]
def m51 : List XO := [
O1 15 (.mv (.t 13)),
O1 5 (.mv (.t 15))]
def m52 : List XO := [
O1 16 (.mv (.t 0)),
O1 17 (.mv (.t 5)),
O1 18 (.ixA 1 (.t 16) (.t 17)),
O1 19 (.load false 1 (.t 18)),
O1 20 (.mv (.t 1)),
O1 21 (.mv (.t 5)),
O1 22 (.ixA 1 (.t 20) (.t 21)),
O1 23 (.load false 1 (.t 22)),
O1 24 (.bin .neq .no (.t 19) (.t 23))]
def m53 : List XO := [
O1 4 (.mv (.c (.bool false)))]
def m54 : List XO := [
O1 25 (.bin .add .no (.t 13) (.c (.int .i64 1))),
O1 13 (.mv (.t 25))]
def m55 : XCode :=
 (.seq (.reg m50) (.seq (.cond (.t 14) .skip (.exit 0)) (.seq (.block 1 (.seq (.reg m51) (.seq (.reg m52) (.cond (.t 24) (.seq (.reg m53) .ret) .skip)))) (.reg m54))))
def m5x : List XO := [
O1 4 (.mv (.c (.bool true)))]
def x_slices_Equal___int_int_ : XFunc := { np := 2, res := [.t 4], body :=
 (.seq (.reg m5v) (.seq (.seq (.reg m5w) (.cond (.t 10) (.seq (.reg m5y) .ret) .skip)) (.seq (.seq (.reg m5z) (.block 0 (.loop m55))) (.seq (.reg m5x) .ret)))) }
def m1s : List XO := [
O1 4 (.boxF (.t 0)),
O1 5 (.boxF (.t 1)),
O1 7 (.boxF (.t 3)),
O1 8 (.mv (.c (.bool false)))]
def m1t : List XO := [
O1 9 (.mv (.c (.bool false)))]
def m1w : List XO := [
O1 10 (.fldA 0 (.tf 7)),
O1 11 (.load false 1 (.tf 10))]
def m1x : List XO := [
O1 13 (.bin .eql .no (.t 11) (.c (.int .i64 1))),
O1 12 (.mv (.t 13))]
def m1y : List XO := [
O1 14 (.mv (.t 2)),
O1 15 (.fldA 1 (.tf 7)),
O1 16 (.load false 1 (.tf 15)),
O1 17 (.cvtI .u64 (.t 16)),
O1 18 (.bin .shr .no (.t 14) (.t 17)),
O1 19 (.bin .and .no (.t 18) (.c (.int .i64 1))),
O1 20 (.bin .eql .no (.t 19) (.c (.int .i64 1))),
O1 9 (.mv (.t 20))]
def m1z : List XO := [
O1 22 (.bin .eql .no (.t 11) (.c (.int .i64 2))),
O1 21 (.mv (.t 22))]
def m10 : List XO := [
O1 23 (.fldA 1 (.tf 7)),
O1 24 (.load false 1 (.tf 23)),
O1 25 (.fldA 1 (.tf 5)),
O1 26 (.ixP 1 2 (.t 25) (.t 24)),
O1 27 (.load false 1 (.tf 26)),
O1 28 (.fldA 2 (.tf 7)),
O1 29 (.load false 1 (.tf 28)),
O1 30 (.bin .geq .no (.t 27) (.t 29)),
O1 9 (.mv (.t 30))]
def m11 : List XO := [
O1 32 (.bin .eql .no (.t 11) (.c (.int .i64 3))),
O1 31 (.mv (.t 32))]
def m12 : List XO := [
O1 33 (.fldA 0 (.tf 5)),
O1 34 (.load false 1 (.tf 33)),
O1 35 (.fldA 1 (.tf 7)),
O1 36 (.load false 1 (.tf 35)),
O1 37 (.bin .eql .no (.t 34) (.t 36)),
O1 9 (.mv (.t 37))]
def m13 : List XO := [
O1 39 (.bin .eql .no (.t 11) (.c (.int .i64 4))),
O1 38 (.mv (.t 39))]
def m1u : List XO := [
O1 40 (.fldA 3 (.tf 4)),
O1 41 (.load false 1 (.tf 40)),
O1 42 (.fldA 0 (.tf 5)),
O1 43 (.load false 1 (.tf 42)),
O1 44 (.ixA 2 (.t 41) (.t 43)),
O1 45 (.fldA 1 (.t 44)),
O1 46 (.load false 1 (.t 45)),
O1 47 (.fldA 1 (.tf 7)),
O1 48 (.load false 1 (.tf 47)),
O1 49 (.cvtI .u64 (.t 48)),
O1 50 (.bin .shr .no (.t 46) (.t 49)),
O1 51 (.bin .and .no (.t 50) (.c (.int .i64 1))),
O1 52 (.bin .eql .no (.t 51) (.c (.int .i64 1))),
O1 9 (.mv (.t 52))]
def m1v : List XO := [
O1 53 (.mv (.t 9)),
O1 54 (.fldA 3 (.tf 7)),
O1 55 (.load false 1 (.tf 54)),
O1 56 (.bin .neq .bool (.t 53) (.t 55)),
O1 8 (.mv (.t 56))]
def x_r04_literal : XFunc := { np := 4, res := [.t 8], body :=
 (.seq (.reg m1s) (.seq (.reg m1t) (.seq (.seq (.reg m1w) (.block 0 (.seq (.reg m1x) (.cond (.t 12) (.reg m1y) (.seq (.reg m1z) (.cond (.t 21) (.reg m10) (.seq (.reg m11) (.cond (.t 31) (.reg m12) (.seq (.reg m13) (.cond (.t 38) (.reg m1u) .skip)))))))))) (.seq (.reg m1v) .ret)))) }
def l1h : List XO := [
O1 1 (.boxF (.t 0)),
O1 2 (.mv (.c (.int .i64 0)))]
def l1i : List XO := [
O1 3 (.fldA 0 (.tf 1)),
O1 4 (.fldA 0 (.tf 3)),
O1 5 (.load false 1 (.tf 4)),
O1 6 (.len false (.t 5)),
O1 7 (.bin .shl .no (.c (.int .i64 1)) (.t 6)),
O1 2 (.mv (.t 7))]
def x__situation_Plant__All : XFunc := { np := 1, res := [.t 2], body :=
 (.seq (.reg l1h) (.seq (.reg l1i) .ret)) }
def l1j : List XO := [
O1 4 (.boxF (.t 0)),
O1 6 (.boxF (.t 2)),
O1 8 (.mv (.c (.bool false)))]
def l1k : List XO := [
O1 9 (.mv (.t 1)),
O1 10 (.len false (.t 9)),
O1 11 (.bin .eql .no (.t 10) (.c (.int .i64 0))),
O1 12 (.mv (.t 11)),
 ⟨(some 13), (some (12, false)), .load true 5 (.tf 4)⟩,
 ⟨(some 14), (some (12, false)), .mv (.t 1)⟩,
 ⟨(some 15), (some (12, false)), .load true 3 (.tf 6)⟩,
 ⟨(some 16), (some (12, false)), .mv (.t 3)⟩,
 ⟨(some 17), (some (12, false)), .call "(newel/situation.Plant).Holds" [.t 13, .t 14, .t 15, .t 16]⟩,
O1 18 (.pick (.t 12) (.c (.bool true)) (.t 17)),
O1 8 (.mv (.t 18))]
def x__situation_Plant__Allowed : XFunc := { np := 4, res := [.t 8], body :=
 (.seq (.reg l1j) (.seq (.reg l1k) .ret)) }
def m2h : List XO := [
O1 2 (.boxF (.t 0)),
O1 4 (.mv (.c (.bool false)))]
def m2i : List XO := [
O1 7 (.mv (.t 1)),
O1 8 (.len false (.t 7)),
O1 9 (.bin .gtr .no (.t 8) (.c (.int .i64 6)))]
def m2k : List XO := [
O1 4 (.mv (.c (.bool false)))]
def m2l : List XO := [
O1 10 (.mv (.t 1)),
O1 11 (.len false (.t 10)),
O1 12 (.mv (.c (.int .i64 0)))]
def m2m : List XO := [
O1 13 (.bin .lss .no (.t 12) (.t 11))]
def m2n : List XO := [
O1 14 (.ixA 1 (.t 10) (.t 12)),
O1 15 (.load false 1 (.t 14)),
O1 6 (.mv (.t 15))]
def m2o : List XO := [
O1 16 (.mv (.t 6)),
O1 17 (.len false (.t 16)),
O1 18 (.bin .gtr .no (.t 17) (.c (.int .i64 6))),
O1 19 (.mv (.t 18)),
 ⟨(some 20), (some (19, false)), .mv (.t 6)⟩,
 ⟨(some 21), (some (19, false)), .mkfn "newel/situation.Asked$1" [] [.t 2]⟩,
 ⟨(some 22), (some (19, false)), .call "slices.ContainsFunc[newel/api.Term,newel/api.Literal]" [.t 20, .t 21]⟩,
O1 23 (.pick (.t 19) (.c (.bool true)) (.t 22))]
def m2p : List XO := [
O1 4 (.mv (.c (.bool false)))]
def m2q : List XO := [
O1 24 (.bin .add .no (.t 12) (.c (.int .i64 1))),
O1 12 (.mv (.t 24))]
def d9b : XCode :=
 (.seq (.reg m2m) (.seq (.cond (.t 13) .skip (.exit 0)) (.seq (.block 1 (.seq (.reg m2n) (.seq (.reg m2o) (.cond (.t 23) (.seq (.reg m2p) .ret) .skip)))) (.reg m2q))))
def m2j : List XO := [
O1 4 (.mv (.c (.bool true)))]
def x_situation_Asked : XFunc := { np := 2, res := [.t 4], body :=
 (.seq (.reg m2h) (.seq (.seq (.reg m2i) (.cond (.t 9) (.seq (.reg m2k) .ret) .skip)) (.seq (.seq (.reg m2l) (.block 0 (.loop d9b))) (.seq (.reg m2j) .ret)))) }
def l0n : List XO := [
O1 5 (.mv (.c (.bool false)))]
def l0o : List XO := [
O1 6 (.fldA 0 (.t 1)),
O1 7 (.load true 5 (.t 6)),
O1 8 (.load false 1 (.t 2)),
O1 9 (.load false 1 (.t 3)),
O1 10 (.nilck (.t 9)),
O1 11 (.fldA 0 (.t 10)),
O1 12 (.load false 1 (.t 11)),
O1 13 (.mv (.t 0)),
O1 14 (.ixA 3 (.t 12) (.t 13)),
O1 15 (.load true 3 (.t 14)),
O1 16 (.call "(newel/situation.Plant).Holds" [.t 7, .t 8, .t 15, (.c (.int .i64 0))]),
O1 5 (.mv (.t 16))]
def x__control_plant__breachD1 : XFunc := { np := 4, res := [.t 5], body :=
 (.seq (.reg l0n) (.seq (.reg l0o) .ret)) }
def m5r : List XO := [
O1 4 (.mv (.c (.bool false)))]
def m5s : List XO := [
O1 5 (.mv (.t 0)),
O1 6 (.mv (.t 1)),
O1 7 (.call "slices.IndexFunc[newel/api.Cond,newel/api.Term]" [.t 5, .t 6]),
O1 8 (.bin .geq .no (.t 7) (.c (.int .i64 0))),
O1 4 (.mv (.t 8))]
def x_slices_ContainsFunc_api_Cond_api_Term_ : XFunc := { np := 2, res := [.t 4], body :=
 (.seq (.reg m5r) (.seq (.reg m5s) .ret)) }
def l1n : List XO := [
O1 5 (.mv (.c (.bool false)))]
def l1o : List XO := [
O1 6 (.mv (.t 0)),
O1 7 (.mkfn "(newel/situation.Plant).Holds$1$1" [] [.t 1, .t 2, .t 3]),
O1 8 (.call "slices.ContainsFunc[newel/api.Term,newel/api.Literal]" [.t 6, .t 7]),
O1 9 (.un .not (.t 8)),
O1 5 (.mv (.t 9))]
def x__situation_Plant__HoldsD1 : XFunc := { np := 4, res := [.t 5], body :=
 (.seq (.reg l1n) (.seq (.reg l1o) .ret)) }
def m5t : List XO := [
O1 4 (.mv (.c (.bool false)))]
def m5u : List XO := [
O1 5 (.mv (.t 0)),
O1 6 (.mv (.t 1)),
O1 7 (.call "slices.IndexFunc[newel/api.Term,newel/api.Literal]" [.t 5, .t 6]),
O1 8 (.bin .geq .no (.t 7) (.c (.int .i64 0))),
O1 4 (.mv (.t 8))]
def x_slices_ContainsFunc_api_Term_api_Literal_ : XFunc := { np := 2, res := [.t 4], body :=
 (.seq (.reg m5t) (.seq (.reg m5u) .ret)) }
def l1l : List XO := [
O1 4 (.boxF (.t 0)),
O1 5 (.mv (.c (.bool false)))]
def l1m : List XO := [
O1 6 (.load true 5 (.t 1)),
O1 7 (.load true 4 (.tf 4)),
O1 8 (.load true 3 (.t 2)),
O1 9 (.load false 1 (.t 3)),
O1 10 (.call "(newel/situation.Plant).literal" [.t 6, .t 7, .t 8, .t 9]),
O1 11 (.un .not (.t 10)),
O1 5 (.mv (.t 11))]
def x__situation_Plant__HoldsD1D1 : XFunc := { np := 4, res := [.t 5], body :=
 (.seq (.reg l1l) (.seq (.reg l1m) .ret)) }
def l2l : List XO := [
O1 4 (.boxF (.t 0)),
O1 5 (.boxF (.t 1)),
O1 6 (.boxF (.t 2)),
O1 8 (.mv (.c (.bool false)))]
def l2m : List XO := [
O1 9 (.mv (.c (.bool false)))]
def l2p : List XO := [
O1 10 (.fldA 0 (.tf 5)),
O1 11 (.load false 1 (.tf 10))]
def l2q : List XO := [
O1 13 (.bin .eql .no (.t 11) (.c (.int .i64 1))),
O1 12 (.mv (.t 13))]
def l2r : List XO := [
O1 14 (.mv (.t 3)),
O1 15 (.fldA 1 (.tf 5)),
O1 16 (.load false 1 (.tf 15)),
O1 17 (.bin .shr .no (.t 14) (.t 16)),
O1 18 (.bin .and .no (.t 17) (.c (.int .i64 1))),
O1 19 (.bin .eql .no (.t 18) (.c (.int .i64 1))),
O1 9 (.mv (.t 19))]
def l2s : List XO := [
O1 21 (.bin .eql .no (.t 11) (.c (.int .i64 2))),
O1 20 (.mv (.t 21))]
def l2t : List XO := [
O1 22 (.fldA 1 (.tf 5)),
O1 23 (.load false 1 (.tf 22)),
O1 24 (.fldA 1 (.tf 6)),
O1 25 (.ixP 1 2 (.t 24) (.t 23)),
O1 26 (.load false 1 (.tf 25)),
O1 27 (.fldA 2 (.tf 5)),
O1 28 (.load false 1 (.tf 27)),
O1 29 (.bin .geq .no (.t 26) (.t 28)),
O1 9 (.mv (.t 29))]
def l2u : List XO := [
O1 31 (.bin .eql .no (.t 11) (.c (.int .i64 3))),
O1 30 (.mv (.t 31))]
def l2v : List XO := [
O1 32 (.fldA 0 (.tf 6)),
O1 33 (.load false 1 (.tf 32)),
O1 34 (.fldA 1 (.tf 5)),
O1 35 (.load false 1 (.tf 34)),
O1 36 (.bin .eql .no (.t 33) (.t 35)),
O1 9 (.mv (.t 36))]
def l2w : List XO := [
O1 38 (.bin .eql .no (.t 11) (.c (.int .i64 4))),
O1 37 (.mv (.t 38))]
def l2n : List XO := [
O1 39 (.fldA 0 (.tf 4)),
O1 40 (.fldA 3 (.tf 39)),
O1 41 (.load false 1 (.tf 40)),
O1 42 (.fldA 0 (.tf 6)),
O1 43 (.load false 1 (.tf 42)),
O1 44 (.ixA 2 (.t 41) (.t 43)),
O1 45 (.fldA 1 (.t 44)),
O1 46 (.load false 1 (.t 45)),
O1 47 (.fldA 1 (.tf 5)),
O1 48 (.load false 1 (.tf 47)),
O1 49 (.bin .shr .no (.t 46) (.t 48)),
O1 50 (.bin .and .no (.t 49) (.c (.int .i64 1))),
O1 51 (.bin .eql .no (.t 50) (.c (.int .i64 1))),
O1 9 (.mv (.t 51))]
def l2o : List XO := [
O1 52 (.mv (.t 9)),
O1 53 (.fldA 3 (.tf 5)),
O1 54 (.load false 1 (.tf 53)),
O1 55 (.bin .neq .bool (.t 52) (.t 54)),
O1 8 (.mv (.t 55))]
def x__situation_Plant__literal : XFunc := { np := 4, res := [.t 8], body :=
 (.seq (.reg l2l) (.seq (.reg l2m) (.seq (.seq (.reg l2p) (.block 0 (.seq (.reg l2q) (.cond (.t 12) (.reg l2r) (.seq (.reg l2s) (.cond (.t 20) (.reg l2t) (.seq (.reg l2u) (.cond (.t 30) (.reg l2v) (.seq (.reg l2w) (.cond (.t 37) (.reg l2n) .skip)))))))))) (.seq (.reg l2o) .ret)))) }
def l0f : List XO := [
O1 4 (.mv (.c (.slice none 0 0)))]
def l0g : List XO := [
O1 5 (.mv (.c (.slice none 0 0)))]
def l0h : List XO := [
O1 6 (.mv (.t 0)),
O1 7 (.nilck (.t 6)),
O1 8 (.fldA 1 (.t 7)),
O1 9 (.load false 1 (.t 8)),
O1 10 (.mv (.t 1)),
O1 11 (.ixA 1 (.t 9) (.t 10)),
O1 12 (.load false 1 (.t 11)),
O1 13 (.bin .geq .no (.t 12) (.c (.int .i64 0)))]
def l0i : List XO := [
O1 21 (.mv (.t 5)),
O1 22 (.mv (.t 0)),
O1 23 (.nilck (.t 22)),
O1 24 (.fldA 2 (.t 23)),
O1 25 (.load false 1 (.t 24)),
O1 26 (.mv (.t 1)),
O1 27 (.ixA 1 (.t 25) (.t 26)),
O1 28 (.load false 1 (.t 27)),
O1 29 (.bsl 1 [.t 28]),
O1 30 (.app 1 8 (.t 21) (.t 29)),
O1 5 (.mv (.t 30))]
def l0j : List XO := [
O1 14 (.mv (.t 0)),
O1 15 (.nilck (.t 14)),
O1 16 (.fldA 1 (.t 15)),
O1 17 (.load false 1 (.t 16)),
O1 18 (.mv (.t 1)),
O1 19 (.ixA 1 (.t 17) (.t 18)),
O1 20 (.load false 1 (.t 19)),
O1 1 (.mv (.t 20))]
def l0m : XCode :=
 (.seq (.seq (.reg l0h) (.cond (.t 13) .skip (.exit 0))) (.seq (.block 1 (.reg l0i)) (.reg l0j)))
def l0k : List XO := [
O1 31 (.mv (.t 5)),
O1 32 (.callw "slices.Reverse[[]int,int]" [.t 31])]
def l0l : List XO := [
O1 33 (.mv (.t 5)),
O1 4 (.mv (.t 33))]
def x___control_walk__run : XFunc := { np := 2, res := [.t 4], body :=
 (.seq (.reg l0f) (.seq (.reg l0g) (.seq (.block 0 (.loop l0m)) (.seq (.reg l0k) (.seq (.reg l0l) .ret))))) }
def m2t : List XO := [
O1 1 (.boxF (.t 0)),
O1 2 (.mv (.c (.int .i64 0)))]
def m2u : List XO := [
O1 13 (.fldA 0 (.tf 1)),
O1 14 (.load false 1 (.tf 13)),
O1 15 (.len false (.t 14)),
O1 16 (.bin .gtr .no (.t 15) (.c (.int .i64 4))),
O1 17 (.mv (.t 16)),
 ⟨(some 18), (some (17, false)), .fldA 1 (.tf 1)⟩,
 ⟨(some 19), (some (17, false)), .load false 1 (.tf 18)⟩,
 ⟨(some 20), (some (17, false)), .len false (.t 19)⟩,
 ⟨(some 21), (some (17, false)), .bin .gtr .no (.t 20) (.c (.int .i64 6))⟩,
O1 22 (.pick (.t 17) (.c (.bool true)) (.t 21)),
O1 23 (.mv (.t 22)),
 ⟨(some 24), (some (23, false)), .fldA 2 (.tf 1)⟩,
 ⟨(some 25), (some (23, false)), .load false 1 (.tf 24)⟩,
 ⟨(some 26), (some (23, false)), .len false (.t 25)⟩,
 ⟨(some 27), (some (23, false)), .bin .gtr .no (.t 26) (.c (.int .i64 2))⟩,
O1 28 (.pick (.t 23) (.c (.bool true)) (.t 27)),
O1 29 (.mv (.t 28)),
 ⟨(some 30), (some (29, false)), .fldA 3 (.tf 1)⟩,
 ⟨(some 31), (some (29, false)), .load false 1 (.tf 30)⟩,
 ⟨(some 32), (some (29, false)), .len false (.t 31)⟩,
 ⟨(some 33), (some (29, false)), .call "newel/situation.within" [.t 32, (.c (.int .i64 1)), (.c (.int .i64 12))]⟩,
 ⟨(some 34), (some (29, false)), .un .not (.t 33)⟩,
O1 35 (.pick (.t 29) (.c (.bool true)) (.t 34)),
O1 36 (.mv (.t 35)),
 ⟨(some 37), (some (36, false)), .fldA 4 (.tf 1)⟩,
 ⟨(some 38), (some (36, false)), .load false 1 (.tf 37)⟩,
 ⟨(some 39), (some (36, false)), .len false (.t 38)⟩,
 ⟨(some 40), (some (36, false)), .bin .gtr .no (.t 39) (.c (.int .i64 40))⟩,
O1 41 (.pick (.t 36) (.c (.bool true)) (.t 40)),
O1 42 (.mv (.t 41)),
 ⟨(some 43), (some (42, false)), .load true 5 (.tf 1)⟩,
 ⟨(some 44), (some (42, false)), .call "newel/situation.named" [.t 43]⟩,
 ⟨(some 45), (some (42, false)), .un .not (.t 44)⟩,
O1 46 (.pick (.t 42) (.c (.bool true)) (.t 45))]
def m24 : List XO := [
O1 2 (.mv (.c (.int .i64 41)))]
def m3e : List XO := [
O1 47 (.fldA 2 (.tf 1)),
O1 48 (.load false 1 (.tf 47)),
O1 49 (.len false (.t 48)),
O1 50 (.mv (.c (.int .i64 0)))]
def m3m : List XO := [
O1 51 (.bin .lss .no (.t 50) (.t 49))]
def m3n : List XO := [
O1 52 (.ixA 2 (.t 48) (.t 50)),
O1 53 (.load true 2 (.t 52)),
O1 4 (.alloc [(.string (ByteArray.mk #[])), (.int .i64 0)]),
O2 (.store 2 (.t 4) (.t 53))]
def m3o : List XO := [
O1 54 (.fldA 1 (.t 4)),
O1 55 (.load false 1 (.t 54)),
O1 56 (.call "newel/situation.within" [.t 55, (.c (.int .i64 1)), (.c (.int .i64 7))]),
O1 57 (.un .not (.t 56))]
def m3p : List XO := [
O1 2 (.mv (.c (.int .i64 41)))]
def m3q : List XO := [
O1 58 (.bin .add .no (.t 50) (.c (.int .i64 1))),
O1 50 (.mv (.t 58))]
def d9g : XCode :=
 (.seq (.reg m3m) (.seq (.cond (.t 51) .skip (.exit 0)) (.seq (.block 1 (.seq (.reg m3n) (.seq (.reg m3o) (.cond (.t 57) (.seq (.reg m3p) .ret) .skip)))) (.reg m3q))))
def m2v : List XO := [
O1 59 (.fldA 3 (.tf 1)),
O1 60 (.load false 1 (.tf 59)),
O1 61 (.len false (.t 60)),
O1 62 (.mv (.c (.int .i64 0)))]
def m2w : List XO := [
O1 63 (.bin .lss .no (.t 62) (.t 61))]
def m2x : List XO := [
O1 64 (.ixA 2 (.t 60) (.t 62)),
O1 65 (.load true 2 (.t 64)),
O1 6 (.alloc [(.string (ByteArray.mk #[])), (.int .i64 0)]),
O2 (.store 2 (.t 6) (.t 65))]
def m2y : List XO := [
O1 66 (.fldA 1 (.t 6)),
O1 67 (.load false 1 (.t 66)),
O1 68 (.fldA 1 (.tf 1)),
O1 69 (.load false 1 (.tf 68)),
O1 70 (.len false (.t 69)),
O1 71 (.bin .shl .no (.c (.int .i64 1)) (.t 70)),
O1 72 (.bin .sub .no (.t 71) (.c (.int .i64 1))),
O1 73 (.call "newel/situation.within" [.t 67, (.c (.int .i64 0)), .t 72]),
O1 74 (.un .not (.t 73))]
def m2z : List XO := [
O1 2 (.mv (.c (.int .i64 41)))]
def m20 : List XO := [
O1 75 (.bin .add .no (.t 62) (.c (.int .i64 1))),
O1 62 (.mv (.t 75))]
def d9c : XCode :=
 (.seq (.reg m2w) (.seq (.cond (.t 63) .skip (.exit 2)) (.seq (.block 3 (.seq (.reg m2x) (.seq (.reg m2y) (.cond (.t 74) (.seq (.reg m2z) .ret) .skip)))) (.reg m20))))
def m21 : List XO := [
O1 76 (.fldA 4 (.tf 1)),
O1 77 (.load false 1 (.tf 76)),
O1 78 (.len false (.t 77)),
O1 79 (.mv (.c (.int .i64 0)))]
def m22 : List XO := [
O1 80 (.bin .lss .no (.t 79) (.t 78))]
def m23 : List XO := [
O1 81 (.ixA 4 (.t 77) (.t 79)),
O1 82 (.load true 4 (.t 81)),
O1 8 (.alloc [(.int .i64 0), (.int .i64 0), (.slice none 0 0), (.slice none 0 0)]),
O2 (.store 4 (.t 8) (.t 82))]
def m25 : List XO := [
O1 83 (.fldA 0 (.t 8)),
O1 84 (.load false 1 (.t 83)),
O1 85 (.fldA 3 (.tf 1)),
O1 86 (.load false 1 (.tf 85)),
O1 87 (.len false (.t 86)),
O1 88 (.bin .sub .no (.t 87) (.c (.int .i64 1))),
O1 89 (.call "newel/situation.within" [.t 84, (.c (.int .i64 (-1))), .t 88]),
O1 90 (.un .not (.t 89)),
O1 91 (.mv (.t 90)),
 ⟨(some 92), (some (91, false)), .fldA 1 (.t 8)⟩,
 ⟨(some 93), (some (91, false)), .load false 1 (.t 92)⟩,
 ⟨(some 94), (some (91, false)), .fldA 3 (.tf 1)⟩,
 ⟨(some 95), (some (91, false)), .load false 1 (.tf 94)⟩,
 ⟨(some 96), (some (91, false)), .len false (.t 95)⟩,
 ⟨(some 97), (some (91, false)), .bin .sub .no (.t 96) (.c (.int .i64 1))⟩,
 ⟨(some 98), (some (91, false)), .call "newel/situation.within" [.t 93, (.c (.int .i64 0)), .t 97]⟩,
 ⟨(some 99), (some (91, false)), .un .not (.t 98)⟩,
O1 100 (.pick (.t 91) (.c (.bool true)) (.t 99)),
O1 101 (.mv (.t 100)),
 ⟨(some 102), (some (101, false)), .load true 5 (.tf 1)⟩,
 ⟨(some 103), (some (101, false)), .fldA 2 (.t 8)⟩,
 ⟨(some 104), (some (101, false)), .load false 1 (.t 103)⟩,
 ⟨(some 105), (some (101, false)), .call "newel/situation.Asked" [.t 102, .t 104]⟩,
 ⟨(some 106), (some (101, false)), .un .not (.t 105)⟩,
O1 107 (.pick (.t 101) (.c (.bool true)) (.t 106)),
O1 108 (.mv (.t 107)),
 ⟨(some 109), (some (108, false)), .fldA 3 (.t 8)⟩,
 ⟨(some 110), (some (108, false)), .load false 1 (.t 109)⟩,
 ⟨(some 111), (some (108, false)), .len false (.t 110)⟩,
 ⟨(some 112), (some (108, false)), .bin .gtr .no (.t 111) (.c (.int .i64 4))⟩,
O1 113 (.pick (.t 108) (.c (.bool true)) (.t 112))]
def m26 : List XO := [
O1 2 (.mv (.c (.int .i64 41)))]
def m27 : List XO := [
O1 114 (.fldA 2 (.t 8)),
O1 115 (.load false 1 (.t 114)),
O1 116 (.len false (.t 115)),
O1 117 (.mv (.c (.int .i64 0)))]
def m28 : List XO := [
O1 118 (.bin .lss .no (.t 117) (.t 116))]
def m29 : List XO := [
O1 119 (.ixA 1 (.t 115) (.t 117)),
O1 120 (.load false 1 (.t 119)),
O1 10 (.mv (.t 120))]
def m3a : List XO := [
O1 121 (.mv (.t 10)),
O1 122 (.call "slices.ContainsFunc[newel/api.Term,newel/api.Literal]" [.t 121, (.f "newel/situation.Check$1")])]
def m3b : List XO := [
O1 2 (.mv (.c (.int .i64 41)))]
def m3c : List XO := [
O1 123 (.bin .add .no (.t 117) (.c (.int .i64 1))),
O1 117 (.mv (.t 123))]
def d9d : XCode :=
 (.seq (.reg m28) (.seq (.cond (.t 118) .skip (.exit 6)) (.seq (.block 7 (.seq (.reg m29) (.seq (.reg m3a) (.cond (.t 122) (.seq (.reg m3b) .ret) .skip)))) (.reg m3c))))
def m3d : List XO := [
O1 124 (.fldA 3 (.t 8)),
O1 125 (.load false 1 (.t 124)),
O1 126 (.len false (.t 125)),
O1 127 (.mv (.c (.int .i64 0)))]
def m3f : List XO := [
O1 128 (.bin .lss .no (.t 127) (.t 126))]
def m3g : List XO := [
O1 129 (.ixA 2 (.t 125) (.t 127)),
O1 130 (.load true 2 (.t 129)),
O1 12 (.alloc [(.int .i64 0), (.int .i64 0)]),
O2 (.store 2 (.t 12) (.t 130))]
def m3h : List XO := [
O1 131 (.fldA 0 (.t 12)),
O1 132 (.load false 1 (.t 131)),
O1 133 (.call "newel/situation.within" [.t 132, (.c (.int .i64 1)), (.c (.int .i64 3))]),
O1 134 (.un .not (.t 133)),
O1 135 (.mv (.t 134)),
 ⟨(some 136), (some (135, false)), .fldA 1 (.t 12)⟩,
 ⟨(some 137), (some (135, false)), .load false 1 (.t 136)⟩,
 ⟨(some 138), (some (135, false)), .fldA 2 (.tf 1)⟩,
 ⟨(some 139), (some (135, false)), .load false 1 (.tf 138)⟩,
 ⟨(some 140), (some (135, false)), .len false (.t 139)⟩,
 ⟨(some 141), (some (135, false)), .bin .sub .no (.t 140) (.c (.int .i64 1))⟩,
 ⟨(some 142), (some (135, false)), .call "newel/situation.within" [.t 137, (.c (.int .i64 0)), .t 141]⟩,
 ⟨(some 143), (some (135, false)), .un .not (.t 142)⟩,
O1 144 (.pick (.t 135) (.c (.bool true)) (.t 143))]
def m3i : List XO := [
O1 2 (.mv (.c (.int .i64 41)))]
def m3j : List XO := [
O1 145 (.bin .add .no (.t 127) (.c (.int .i64 1))),
O1 127 (.mv (.t 145))]
def d9e : XCode :=
 (.seq (.reg m3f) (.seq (.cond (.t 128) .skip (.exit 8)) (.seq (.block 9 (.seq (.reg m3g) (.seq (.reg m3h) (.cond (.t 144) (.seq (.reg m3i) .ret) .skip)))) (.reg m3j))))
def m3k : List XO := [
O1 146 (.bin .add .no (.t 79) (.c (.int .i64 1))),
O1 79 (.mv (.t 146))]
def d9f : XCode :=
 (.seq (.reg m22) (.seq (.cond (.t 80) .skip (.exit 4)) (.seq (.block 5 (.seq (.reg m23) (.seq (.seq (.reg m25) (.cond (.t 113) (.seq (.reg m26) .ret) .skip)) (.seq (.seq (.reg m27) (.block 6 (.loop d9d))) (.seq (.reg m3d) (.block 8 (.loop d9e))))))) (.reg m3k))))
def m3l : List XO := [
O1 2 (.mv (.c (.int .i64 0)))]
def x_situation_Check : XFunc := { np := 1, res := [.t 2], body :=
 (.seq (.reg m2t) (.seq (.seq (.reg m2u) (.cond (.t 46) (.seq (.reg m24) .ret) .skip)) (.seq (.seq (.reg m3e) (.block 0 (.loop d9g))) (.seq (.seq (.reg m2v) (.block 2 (.loop d9c))) (.seq (.seq (.reg m21) (.block 4 (.loop d9f))) (.seq (.reg m3l) .ret)))))) }
def m49 : List XO := [
O1 6 (.mv (.c (.bool false)))]
def m5a : List XO := [
O1 7 (.mv (.t 0)),
O1 8 (.mv (.t 1)),
O1 9 (.bin .geq .no (.t 7) (.t 8)),
O1 10 (.mv (.t 9)),
 ⟨(some 11), (some (10, true)), .mv (.t 0)⟩,
 ⟨(some 12), (some (10, true)), .mv (.t 2)⟩,
 ⟨(some 13), (some (10, true)), .bin .leq .no (.t 11) (.t 12)⟩,
O1 14 (.pick (.t 10) (.t 13) (.c (.bool false))),
O1 6 (.mv (.t 14))]
def x_situation_within : XFunc := { np := 3, res := [.t 6], body :=
 (.seq (.reg m49) (.seq (.reg m5a) .ret)) }
def l2x : List XO := [
O1 3 (.boxF (.t 0)),
O1 4 (.boxF (.t 1))]
def l2y : List XO := [
O1 7 (.mv (.t 2)),
O1 8 (.fldA 1 (.tf 4)),
O1 9 (.load false 1 (.tf 8)),
O1 10 (.nilck (.t 7)),
O1 11 (.fldA 1 (.t 10)),
O1 12 (.ixP 1 2 (.t 11) (.t 9)),
O1 6 (.mv (.t 12))]
def l2z : List XO := [
O1 13 (.fldA 0 (.tf 4)),
O1 14 (.load false 1 (.tf 13))]
def l21 : List XO := [
O1 16 (.bin .eql .no (.t 14) (.c (.int .i64 1))),
O1 15 (.mv (.t 16))]
def l24 : List XO := [
O1 17 (.mv (.t 6)),
O1 18 (.nilck (.t 17)),
O2 (.store 1 (.t 18) (.c (.int .i64 0)))]
def l26 : List XO := [
O1 20 (.bin .eql .no (.t 14) (.c (.int .i64 2))),
O1 19 (.mv (.t 20))]
def l27 : List XO := [
O1 21 (.mv (.t 6)),
O1 22 (.mv (.t 6)),
O1 23 (.nilck (.t 22)),
O1 24 (.load false 1 (.t 23)),
O1 25 (.bin .add .no (.t 24) (.c (.int .i64 1))),
O1 26 (.fldA 0 (.tf 3)),
O1 27 (.fldA 2 (.tf 26)),
O1 28 (.load false 1 (.tf 27)),
O1 29 (.fldA 1 (.tf 4)),
O1 30 (.load false 1 (.tf 29)),
O1 31 (.ixA 2 (.t 28) (.t 30)),
O1 32 (.fldA 1 (.t 31)),
O1 33 (.load false 1 (.t 32)),
O1 34 (.min [.t 25, .t 33]),
O1 35 (.nilck (.t 21)),
O2 (.store 1 (.t 35) (.t 34))]
def l28 : List XO := [
O1 37 (.bin .eql .no (.t 14) (.c (.int .i64 3))),
O1 36 (.mv (.t 37))]
def l29 : List XO := [
O1 38 (.mv (.t 6)),
O1 39 (.mv (.t 6)),
O1 40 (.nilck (.t 39)),
O1 41 (.load false 1 (.t 40)),
O1 42 (.bin .sub .no (.t 41) (.c (.int .i64 1))),
O1 43 (.max [.t 42, (.c (.int .i64 0))]),
O1 44 (.nilck (.t 38)),
O2 (.store 1 (.t 44) (.t 43))]
def x__situation_Plant__set : XFunc := { np := 3, res := [], body :=
 (.seq (.reg l2x) (.seq (.reg l2y) (.seq (.reg l2z) (.block 0 (.seq (.reg l21) (.cond (.t 15) (.reg l24) (.seq (.reg l26) (.cond (.t 19) (.reg l27) (.seq (.reg l28) (.cond (.t 36) (.reg l29) .skip)))))))))) }
def m2f : List XO := [
O1 2 (.boxF (.t 0)),
O1 3 (.mv (.c (.bool false)))]
def m2g : List XO := [
O1 4 (.load true 5 (.t 1)),
O1 5 (.load true 4 (.tf 2)),
O1 6 (.call "newel/situation.asks" [.t 4, .t 5]),
O1 7 (.un .not (.t 6)),
O1 3 (.mv (.t 7))]
def x_situation_AskedD1 : XFunc := { np := 2, res := [.t 3], body :=
 (.seq (.reg m2f) (.seq (.reg m2g) .ret)) }
def m4b : List XO := [
O1 2 (.boxF (.t 0)),
O1 3 (.boxF (.t 1)),
O1 4 (.mv (.c (.bool false)))]
def m4c : List XO := [
O1 5 (.fldA 0 (.tf 3)),
O1 6 (.load false 1 (.tf 5))]
def m4e : List XO := [
O1 8 (.bin .eql .no (.t 6) (.c (.int .i64 1))),
O1 7 (.mv (.t 8))]
def m4f : List XO := [
O1 9 (.fldA 1 (.tf 3)),
O1 10 (.load false 1 (.tf 9)),
O1 11 (.fldA 0 (.tf 2)),
O1 12 (.load false 1 (.tf 11)),
O1 13 (.len false (.t 12)),
O1 14 (.bin .sub .no (.t 13) (.c (.int .i64 1))),
O1 15 (.call "newel/situation.within" [.t 10, (.c (.int .i64 0)), .t 14]),
O1 16 (.mv (.t 15)),
 ⟨(some 17), (some (16, true)), .fldA 2 (.tf 3)⟩,
 ⟨(some 18), (some (16, true)), .load false 1 (.tf 17)⟩,
 ⟨(some 19), (some (16, true)), .bin .eql .no (.t 18) (.c (.int .i64 0))⟩,
O1 20 (.pick (.t 16) (.t 19) (.c (.bool false))),
O1 4 (.mv (.t 20))]
def m4g : List XO := [
O1 22 (.bin .eql .no (.t 6) (.c (.int .i64 2))),
O1 21 (.mv (.t 22))]
def m4h : List XO := [
O1 23 (.fldA 1 (.tf 3)),
O1 24 (.load false 1 (.tf 23)),
O1 25 (.fldA 2 (.tf 2)),
O1 26 (.load false 1 (.tf 25)),
O1 27 (.len false (.t 26)),
O1 28 (.bin .sub .no (.t 27) (.c (.int .i64 1))),
O1 29 (.call "newel/situation.within" [.t 24, (.c (.int .i64 0)), .t 28]),
O1 30 (.mv (.t 29)),
 ⟨(some 31), (some (30, true)), .fldA 2 (.tf 3)⟩,
 ⟨(some 32), (some (30, true)), .load false 1 (.tf 31)⟩,
 ⟨(some 33), (some (30, true)), .fldA 2 (.tf 2)⟩,
 ⟨(some 34), (some (30, true)), .load false 1 (.tf 33)⟩,
 ⟨(some 35), (some (30, true)), .fldA 1 (.tf 3)⟩,
 ⟨(some 36), (some (30, true)), .load false 1 (.tf 35)⟩,
 ⟨(some 37), (some (30, true)), .ixA 2 (.t 34) (.t 36)⟩,
 ⟨(some 38), (some (30, true)), .fldA 1 (.t 37)⟩,
 ⟨(some 39), (some (30, true)), .load false 1 (.t 38)⟩,
 ⟨(some 40), (some (30, true)), .call "newel/situation.within" [.t 32, (.c (.int .i64 0)), .t 39]⟩,
O1 41 (.pick (.t 30) (.t 40) (.c (.bool false))),
O1 4 (.mv (.t 41))]
def m4i : List XO := [
O1 43 (.bin .eql .no (.t 6) (.c (.int .i64 3))),
O1 42 (.mv (.t 43))]
def m4j : List XO := [
O1 44 (.fldA 1 (.tf 3)),
O1 45 (.load false 1 (.tf 44)),
O1 46 (.fldA 3 (.tf 2)),
O1 47 (.load false 1 (.tf 46)),
O1 48 (.len false (.t 47)),
O1 49 (.bin .sub .no (.t 48) (.c (.int .i64 1))),
O1 50 (.call "newel/situation.within" [.t 45, (.c (.int .i64 0)), .t 49]),
O1 51 (.mv (.t 50)),
 ⟨(some 52), (some (51, true)), .fldA 2 (.tf 3)⟩,
 ⟨(some 53), (some (51, true)), .load false 1 (.tf 52)⟩,
 ⟨(some 54), (some (51, true)), .bin .eql .no (.t 53) (.c (.int .i64 0))⟩,
O1 55 (.pick (.t 51) (.t 54) (.c (.bool false))),
O1 4 (.mv (.t 55))]
def m4k : List XO := [
O1 57 (.bin .eql .no (.t 6) (.c (.int .i64 4))),
O1 56 (.mv (.t 57))]
def m4l : List XO := [
O1 58 (.fldA 1 (.tf 3)),
O1 59 (.load false 1 (.tf 58)),
O1 60 (.fldA 1 (.tf 2)),
O1 61 (.load false 1 (.tf 60)),
O1 62 (.len false (.t 61)),
O1 63 (.bin .sub .no (.t 62) (.c (.int .i64 1))),
O1 64 (.call "newel/situation.within" [.t 59, (.c (.int .i64 0)), .t 63]),
O1 65 (.mv (.t 64)),
 ⟨(some 66), (some (65, true)), .fldA 2 (.tf 3)⟩,
 ⟨(some 67), (some (65, true)), .load false 1 (.tf 66)⟩,
 ⟨(some 68), (some (65, true)), .bin .eql .no (.t 67) (.c (.int .i64 0))⟩,
O1 69 (.pick (.t 65) (.t 68) (.c (.bool false))),
O1 4 (.mv (.t 69))]
def m4d : List XO := [
O1 4 (.mv (.c (.bool false)))]
def x_situation_asks : XFunc := { np := 2, res := [.t 4], body :=
 (.seq (.reg m4b) (.seq (.seq (.reg m4c) (.block 0 (.seq (.reg m4e) (.cond (.t 7) (.seq (.reg m4f) .ret) (.seq (.reg m4g) (.cond (.t 21) (.seq (.reg m4h) .ret) (.seq (.reg m4i) (.cond (.t 42) (.seq (.reg m4j) .ret) (.seq (.reg m4k) (.cond (.t 56) (.seq (.reg m4l) .ret) .skip)))))))))) (.seq (.reg m4d) .ret))) }
def m6m : List XO := [
O1 4 (.mv (.c (.int .i64 0)))]
def m6n : List XO := [
O1 6 (.mv (.t 0)),
O1 7 (.len false (.t 6)),
O1 8 (.mv (.c (.int .i64 0)))]
def m6o : List XO := [
O1 9 (.bin .lss .no (.t 8) (.t 7))]
def m6p : List XO := [
O1 10 (.mv (.t 8)),
O1 5 (.mv (.t 10))]
def m6q : List XO := [
O1 11 (.mv (.t 1)),
O1 12 (.mv (.t 0)),
O1 13 (.mv (.t 5)),
O1 14 (.ixA 1 (.t 12) (.t 13)),
O1 15 (.load false 1 (.t 14)),
O1 16 (.callv (.t 11) [.t 15])]
def m6r : List XO := [
O1 17 (.mv (.t 5)),
O1 4 (.mv (.t 17))]
def m6s : List XO := [
O1 18 (.bin .add .no (.t 8) (.c (.int .i64 1))),
O1 8 (.mv (.t 18))]
def d9j : XCode :=
 (.seq (.reg m6o) (.seq (.cond (.t 9) .skip (.exit 0)) (.seq (.block 1 (.seq (.reg m6p) (.seq (.reg m6q) (.cond (.t 16) (.seq (.reg m6r) .ret) .skip)))) (.reg m6s))))
def m6t : List XO := [
O1 4 (.mv (.c (.int .i64 (-1))))]
def x_slices_IndexFunc_api_Cond_api_Term_ : XFunc := { np := 2, res := [.t 4], body :=
 (.seq (.reg m6m) (.seq (.seq (.reg m6n) (.block 0 (.loop d9j))) (.seq (.reg m6t) .ret))) }
def m6u : List XO := [
O1 4 (.mv (.c (.int .i64 0)))]
def m6v : List XO := [
O1 6 (.mv (.t 0)),
O1 7 (.len false (.t 6)),
O1 8 (.mv (.c (.int .i64 0)))]
def m6w : List XO := [
O1 9 (.bin .lss .no (.t 8) (.t 7))]
def m6x : List XO := [
O1 10 (.mv (.t 8)),
O1 5 (.mv (.t 10))]
def m6y : List XO := [
O1 11 (.mv (.t 1)),
O1 12 (.mv (.t 0)),
O1 13 (.mv (.t 5)),
O1 14 (.ixA 4 (.t 12) (.t 13)),
O1 15 (.load true 4 (.t 14)),
O1 16 (.callv (.t 11) [.t 15])]
def m6z : List XO := [
O1 17 (.mv (.t 5)),
O1 4 (.mv (.t 17))]
def m60 : List XO := [
O1 18 (.bin .add .no (.t 8) (.c (.int .i64 1))),
O1 8 (.mv (.t 18))]
def d9k : XCode :=
 (.seq (.reg m6w) (.seq (.cond (.t 9) .skip (.exit 0)) (.seq (.block 1 (.seq (.reg m6x) (.seq (.reg m6y) (.cond (.t 16) (.seq (.reg m6z) .ret) .skip)))) (.reg m60))))
def m61 : List XO := [
O1 4 (.mv (.c (.int .i64 (-1))))]
def x_slices_IndexFunc_api_Term_api_Literal_ : XFunc := { np := 2, res := [.t 4], body :=
 (.seq (.reg m6u) (.seq (.seq (.reg m6v) (.block 0 (.loop d9k))) (.seq (.reg m61) .ret))) }
def m62 : List XO := [
O1 4 (.mv (.t 0)),
O1 5 (.len false (.t 4)),
O1 6 (.bin .sub .no (.t 5) (.c (.int .i64 1))),
O1 2 (.mv (.c (.int .i64 0))),
O1 3 (.mv (.t 6))]
def m63 : List XO := [
O1 7 (.mv (.t 2)),
O1 8 (.mv (.t 3)),
O1 9 (.bin .lss .no (.t 7) (.t 8))]
def m64 : List XO := [
O1 14 (.mv (.t 0)),
O1 15 (.mv (.t 2)),
O1 16 (.mv (.t 0)),
O1 17 (.mv (.t 3)),
O1 18 (.mv (.t 0)),
O1 19 (.mv (.t 3)),
O1 20 (.ixA 1 (.t 18) (.t 19)),
O1 21 (.load false 1 (.t 20)),
O1 22 (.mv (.t 0)),
O1 23 (.mv (.t 2)),
O1 24 (.ixA 1 (.t 22) (.t 23)),
O1 25 (.load false 1 (.t 24)),
O1 26 (.ixA 1 (.t 14) (.t 15)),
O2 (.store 1 (.t 26) (.t 21)),
O1 27 (.ixA 1 (.t 16) (.t 17)),
O2 (.store 1 (.t 27) (.t 25))]
def m65 : List XO := [
O1 10 (.mv (.t 2)),
O1 11 (.bin .add .no (.t 10) (.c (.int .i64 1))),
O1 12 (.mv (.t 3)),
O1 13 (.bin .sub .no (.t 12) (.c (.int .i64 1))),
O1 2 (.mv (.t 11)),
O1 3 (.mv (.t 13))]
def m66 : XCode :=
 (.seq (.seq (.reg m63) (.cond (.t 9) .skip (.exit 0))) (.seq (.block 1 (.reg m64)) (.reg m65)))
def x_slices_Reverse___int_int_ : XFunc := { np := 1, res := [], body :=
 (.seq (.reg m62) (.block 0 (.loop m66))) }
def m4m : List XO := [
O1 1 (.boxF (.t 0)),
O1 2 (.mv (.c (.bool false)))]
def m4n : List XO := [
O1 6 (.callw "#mk" []),
O1 3 (.mv (.t 6))]
def m4p : List XO := [
O1 7 (.load true 5 (.tf 1)),
O1 8 (.call "newel/situation.names" [.t 7]),
O1 9 (.len false (.t 8)),
O1 10 (.mv (.c (.int .i64 0)))]
def m4q : List XO := [
O1 11 (.bin .lss .no (.t 10) (.t 9))]
def m4r : List XO := [
O1 12 (.ixA 1 (.t 8) (.t 10)),
O1 13 (.load false 1 (.t 12)),
O1 5 (.mv (.t 13))]
def m4s : List XO := [
O1 14 (.mv (.t 3)),
O1 15 (.mv (.t 5)),
O1 16 (.callw "#ls" [.t 14, .t 15, (.c (.int .i64 0)), (.c (.int .i64 0))]),
O1 17 (.bin .add .no (.t 16) (.c (.int .i64 1))),
O2 (.callw "#ps" [.t 14, .t 15, .t 17, (.c (.int .i64 0))])]
def m4t : List XO := [
O1 18 (.mv (.t 5)),
O1 19 (.call "newel/situation.Plain" [.t 18]),
O1 20 (.un .not (.t 19)),
O1 21 (.mv (.t 20)),
 ⟨(some 22), (some (21, false)), .mv (.t 5)⟩,
 ⟨(some 23), (some (21, false)), .len true (.t 22)⟩,
 ⟨(some 24), (some (21, false)), .bin .gtr .no (.t 23) (.c (.int .i64 8))⟩,
O1 25 (.pick (.t 21) (.c (.bool true)) (.t 24)),
O1 26 (.mv (.t 25)),
 ⟨(some 27), (some (26, false)), .mv (.t 5)⟩,
 ⟨(some 28), (some (26, false)), .call "newel/situation.Reserved" [.t 27]⟩,
O1 29 (.pick (.t 26) (.c (.bool true)) (.t 28)),
O1 30 (.mv (.t 29)),
 ⟨(some 31), (some (30, false)), .mv (.t 3)⟩,
 ⟨(some 32), (some (30, false)), .mv (.t 5)⟩,
 ⟨(some 33), (some (30, false)), .callw "#ls" [.t 31, .t 32, (.c (.int .i64 0)), (.c (.int .i64 0))]⟩,
 ⟨(some 34), (some (30, false)), .bin .gtr .no (.t 33) (.c (.int .i64 1))⟩,
O1 35 (.pick (.t 30) (.c (.bool true)) (.t 34))]
def m4u : List XO := [
O1 2 (.mv (.c (.bool false)))]
def m4v : List XO := [
O1 36 (.bin .add .no (.t 10) (.c (.int .i64 1))),
O1 10 (.mv (.t 36))]
def d9i : XCode :=
 (.seq (.reg m4q) (.seq (.cond (.t 11) .skip (.exit 0)) (.seq (.block 1 (.seq (.reg m4r) (.seq (.reg m4s) (.seq (.reg m4t) (.cond (.t 35) (.seq (.reg m4u) .ret) .skip))))) (.reg m4v))))
def m4o : List XO := [
O1 2 (.mv (.c (.bool true)))]
def x_situation_named : XFunc := { np := 1, res := [.t 2], body :=
 (.seq (.reg m4m) (.seq (.reg m4n) (.seq (.seq (.reg m4p) (.block 0 (.loop d9i))) (.seq (.reg m4o) .ret)))) }
def m2r : List XO := [
O1 1 (.boxF (.t 0)),
O1 2 (.mv (.c (.bool false)))]
def m2s : List XO := [
O1 3 (.fldA 0 (.tf 1)),
O1 4 (.load false 1 (.tf 3)),
O1 5 (.bin .eql .no (.t 4) (.c (.int .i64 3))),
O1 2 (.mv (.t 5))]
def x_situation_CheckD1 : XFunc := { np := 1, res := [.t 2], body :=
 (.seq (.reg m2r) (.seq (.reg m2s) .ret)) }
def m4w : List XO := [
O1 1 (.boxF (.t 0)),
O1 2 (.mv (.c (.slice none 0 0)))]
def m4x : List XO := [
O1 8 (.fldA 0 (.tf 1)),
O1 9 (.load false 1 (.tf 8)),
O1 10 (.fldA 1 (.tf 1)),
O1 11 (.load false 1 (.tf 10)),
O1 12 (.bsl 1 [.t 9, .t 11]),
O1 13 (.call "slices.Concat[[]string,string]" [.t 12]),
O1 3 (.mv (.t 13))]
def m42 : List XO := [
O1 14 (.fldA 2 (.tf 1)),
O1 15 (.load false 1 (.tf 14)),
O1 16 (.len false (.t 15)),
O1 17 (.mv (.c (.int .i64 0)))]
def m43 : List XO := [
O1 18 (.bin .lss .no (.t 17) (.t 16))]
def m44 : List XO := [
O1 19 (.ixA 2 (.t 15) (.t 17)),
O1 20 (.load true 2 (.t 19)),
O1 5 (.alloc [(.string (ByteArray.mk #[])), (.int .i64 0)]),
O2 (.store 2 (.t 5) (.t 20))]
def m45 : List XO := [
O1 21 (.mv (.t 3)),
O1 22 (.fldA 0 (.t 5)),
O1 23 (.load false 1 (.t 22)),
O1 24 (.bsl 1 [.t 23]),
O1 25 (.app 1 16 (.t 21) (.t 24)),
O1 3 (.mv (.t 25))]
def m46 : List XO := [
O1 26 (.bin .add .no (.t 17) (.c (.int .i64 1))),
O1 17 (.mv (.t 26))]
def d04 : XCode :=
 (.seq (.reg m43) (.seq (.cond (.t 18) .skip (.exit 0)) (.seq (.block 1 (.seq (.reg m44) (.reg m45))) (.reg m46))))
def m47 : List XO := [
O1 27 (.fldA 3 (.tf 1)),
O1 28 (.load false 1 (.tf 27)),
O1 29 (.len false (.t 28)),
O1 30 (.mv (.c (.int .i64 0)))]
def m48 : List XO := [
O1 31 (.bin .lss .no (.t 30) (.t 29))]
def m4y : List XO := [
O1 32 (.ixA 2 (.t 28) (.t 30)),
O1 33 (.load true 2 (.t 32)),
O1 7 (.alloc [(.string (ByteArray.mk #[])), (.int .i64 0)]),
O2 (.store 2 (.t 7) (.t 33))]
def m4z : List XO := [
O1 34 (.mv (.t 3)),
O1 35 (.fldA 0 (.t 7)),
O1 36 (.load false 1 (.t 35)),
O1 37 (.bsl 1 [.t 36]),
O1 38 (.app 1 16 (.t 34) (.t 37)),
O1 3 (.mv (.t 38))]
def m40 : List XO := [
O1 39 (.bin .add .no (.t 30) (.c (.int .i64 1))),
O1 30 (.mv (.t 39))]
def d03 : XCode :=
 (.seq (.reg m48) (.seq (.cond (.t 31) .skip (.exit 2)) (.seq (.block 3 (.seq (.reg m4y) (.reg m4z))) (.reg m40))))
def m41 : List XO := [
O1 40 (.mv (.t 3)),
O1 2 (.mv (.t 40))]
def x_situation_names : XFunc := { np := 1, res := [.t 2], body :=
 (.seq (.reg m4w) (.seq (.reg m4x) (.seq (.seq (.reg m42) (.block 0 (.loop d04))) (.seq (.seq (.reg m47) (.block 2 (.loop d03))) (.seq (.reg m41) .ret))))) }
def m3r : List XO := [
O1 2 (.mv (.c (.bool false)))]
def m3s : List XO := [
O1 5 (.mv (.t 0)),
O1 6 (.callw "#sb" [.t 5]),
O1 7 (.len false (.t 6)),
O1 8 (.mv (.c (.int .i64 0)))]
def m3t : List XO := [
O1 9 (.bin .lss .no (.t 8) (.t 7))]
def m3u : List XO := [
O1 10 (.ixA 1 (.t 6) (.t 8)),
O1 11 (.load false 1 (.t 10)),
O1 4 (.mv (.t 11))]
def m3v : List XO := [
O1 12 (.mv (.t 4)),
O1 13 (.bin .lss .no (.t 12) (.c (.int .u8 97))),
O1 14 (.mv (.t 13)),
 ⟨(some 15), (some (14, false)), .mv (.t 4)⟩,
 ⟨(some 16), (some (14, false)), .bin .gtr .no (.t 15) (.c (.int .u8 122))⟩,
O1 17 (.pick (.t 14) (.c (.bool true)) (.t 16))]
def m3w : List XO := [
O1 2 (.mv (.c (.bool false)))]
def m3x : List XO := [
O1 18 (.bin .add .no (.t 8) (.c (.int .i64 1))),
O1 8 (.mv (.t 18))]
def d9h : XCode :=
 (.seq (.reg m3t) (.seq (.cond (.t 9) .skip (.exit 0)) (.seq (.block 1 (.seq (.reg m3u) (.seq (.reg m3v) (.cond (.t 17) (.seq (.reg m3w) .ret) .skip)))) (.reg m3x))))
def m3y : List XO := [
O1 19 (.mv (.t 0)),
O1 20 (.bin .neq .no (.t 19) (.c (.string (ByteArray.mk #[])))),
O1 2 (.mv (.t 20))]
def x_situation_Plain : XFunc := { np := 1, res := [.t 2], body :=
 (.seq (.reg m3r) (.seq (.seq (.reg m3s) (.block 0 (.loop d9h))) (.seq (.reg m3y) .ret))) }
def m3z : List XO := [
O1 2 (.mv (.c (.bool false)))]
def m30 : List XO := [
O1 3 (.mv (.t 0))]
def m33 : List XO := [
O1 5 (.bin .eql .no (.t 3) (.c (.string (ByteArray.mk #[97, 110, 121])))),
O1 4 (.mv (.t 5))]
def m34 : List XO := [
O1 6 (.bin .eql .no (.t 3) (.c (.string (ByteArray.mk #[116, 111])))),
O1 4 (.mv (.t 6))]
def m35 : List XO := [
O1 7 (.bin .eql .no (.t 3) (.c (.string (ByteArray.mk #[122, 101, 114, 111])))),
O1 4 (.mv (.t 7))]
def m36 : List XO := [
O1 8 (.bin .eql .no (.t 3) (.c (.string (ByteArray.mk #[109, 111, 114, 101])))),
O1 4 (.mv (.t 8))]
def m37 : List XO := [
O1 9 (.bin .eql .no (.t 3) (.c (.string (ByteArray.mk #[108, 101, 115, 115])))),
O1 4 (.mv (.t 9))]
def m38 : List XO := [
O1 10 (.bin .eql .no (.t 3) (.c (.string (ByteArray.mk #[105, 102])))),
O1 4 (.mv (.t 10))]
def m39 : List XO := [
O1 11 (.bin .eql .no (.t 3) (.c (.string (ByteArray.mk #[121, 101, 115])))),
O1 4 (.mv (.t 11))]
def m4a : List XO := [
O1 12 (.bin .eql .no (.t 3) (.c (.string (ByteArray.mk #[110, 111])))),
O1 4 (.mv (.t 12))]
def m31 : List XO := [
O1 2 (.mv (.c (.bool true)))]
def m32 : List XO := [
O1 2 (.mv (.c (.bool false)))]
def x_situation_Reserved : XFunc := { np := 1, res := [.t 2], body :=
 (.seq (.reg m3z) (.seq (.seq (.reg m30) (.block 0 (.seq (.seq (.reg m33) (.cond (.t 4) .skip (.seq (.reg m34) (.cond (.t 4) .skip (.seq (.reg m35) (.cond (.t 4) .skip (.seq (.reg m36) (.cond (.t 4) .skip (.seq (.reg m37) (.cond (.t 4) .skip (.seq (.reg m38) (.cond (.t 4) .skip (.seq (.reg m39) (.cond (.t 4) .skip (.reg m4a))))))))))))))) (.cond (.t 4) (.seq (.reg m31) .ret) .skip)))) (.seq (.reg m32) .ret))) }
def m5b : List XO := [
O1 2 (.mv (.c (.slice none 0 0)))]
def m5c : List XO := [
O1 3 (.mv (.c (.int .i64 0)))]
def m5k : List XO := [
O1 9 (.mv (.t 0)),
O1 10 (.len false (.t 9)),
O1 11 (.mv (.c (.int .i64 0)))]
def m5l : List XO := [
O1 12 (.bin .lss .no (.t 11) (.t 10))]
def m5m : List XO := [
O1 13 (.ixA 1 (.t 9) (.t 11)),
O1 14 (.load false 1 (.t 13)),
O1 5 (.mv (.t 14))]
def m5n : List XO := [
O1 15 (.mv (.t 3)),
O1 16 (.mv (.t 5)),
O1 17 (.len false (.t 16)),
O1 18 (.bin .add .no (.t 15) (.t 17)),
O1 3 (.mv (.t 18))]
def m5o : List XO := [
O1 19 (.mv (.t 3)),
O1 20 (.bin .lss .no (.t 19) (.c (.int .i64 0)))]
def m5p : List XO := [
O1 21 (.callw "#no" []),
O2 (.callw "#no" [])]
def m5q : List XO := [
O1 22 (.bin .add .no (.t 11) (.c (.int .i64 1))),
O1 11 (.mv (.t 22))]
def d06 : XCode :=
 (.seq (.reg m5l) (.seq (.cond (.t 12) .skip (.exit 0)) (.seq (.block 1 (.seq (.reg m5m) (.seq (.reg m5n) (.seq (.reg m5o) (.cond (.t 20) (.reg m5p) .skip))))) (.reg m5q))))
def m5d : List XO := [
O1 23 (.mv (.t 3)),
O1 24 (.call "slices.Grow[[]string,string]" [(.c (.slice none 0 0)), .t 23]),
O1 6 (.mv (.t 24))]
def m5e : List XO := [
O1 25 (.mv (.t 0)),
O1 26 (.len false (.t 25)),
O1 27 (.mv (.c (.int .i64 0)))]
def m5f : List XO := [
O1 28 (.bin .lss .no (.t 27) (.t 26))]
def m5g : List XO := [
O1 29 (.ixA 1 (.t 25) (.t 27)),
O1 30 (.load false 1 (.t 29)),
O1 8 (.mv (.t 30))]
def m5h : List XO := [
O1 31 (.mv (.t 6)),
O1 32 (.mv (.t 8)),
O1 33 (.app 1 16 (.t 31) (.t 32)),
O1 6 (.mv (.t 33))]
def m5i : List XO := [
O1 34 (.bin .add .no (.t 27) (.c (.int .i64 1))),
O1 27 (.mv (.t 34))]
def d05 : XCode :=
 (.seq (.reg m5f) (.seq (.cond (.t 28) .skip (.exit 2)) (.seq (.block 3 (.seq (.reg m5g) (.reg m5h))) (.reg m5i))))
def m5j : List XO := [
O1 35 (.mv (.t 6)),
O1 2 (.mv (.t 35))]
def x_slices_Concat___string_string_ : XFunc := { np := 1, res := [.t 2], body :=
 (.seq (.reg m5b) (.seq (.reg m5c) (.seq (.seq (.reg m5k) (.block 0 (.loop d06))) (.seq (.reg m5d) (.seq (.seq (.reg m5e) (.block 2 (.loop d05))) (.seq (.reg m5j) .ret)))))) }
def m56 : List XO := [
O1 4 (.mv (.c (.slice none 0 0)))]
def m57 : List XO := [
O1 5 (.mv (.t 1)),
O1 6 (.bin .lss .no (.t 5) (.c (.int .i64 0)))]
def m58 : List XO := [
O1 7 (.callw "#no" []),
O2 (.callw "#no" [])]
def m59 : List XO := [
O1 8 (.mv (.t 1)),
O1 9 (.mv (.t 0)),
O1 10 (.callw "#cap" [.t 9]),
O1 11 (.mv (.t 0)),
O1 12 (.len false (.t 11)),
O1 13 (.bin .sub .no (.t 10) (.t 12)),
O1 14 (.bin .sub .no (.t 8) (.t 13)),
O1 1 (.mv (.t 14))]
def m6a : List XO := [
O1 15 (.mv (.t 1)),
O1 16 (.bin .gtr .no (.t 15) (.c (.int .i64 0)))]
def m6b : List XO := [
O1 17 (.mv (.t 0)),
O1 18 (.mv (.t 0)),
O1 19 (.callw "#cap" [.t 18]),
O1 20 (.slc 1 (.t 17) none (some (.t 19))),
O1 21 (.mv (.t 1)),
O1 22 (.callw "#ax" [.t 20, .t 21, (.c (.string (ByteArray.mk #[])))]),
O1 23 (.mv (.t 0)),
O1 24 (.len false (.t 23)),
O1 25 (.slc 1 (.t 22) none (some (.t 24))),
O1 0 (.mv (.t 25))]
def m6c : List XO := [
O1 26 (.mv (.t 0)),
O1 4 (.mv (.t 26))]
def x_slices_Grow___string_string_ : XFunc := { np := 2, res := [.t 4], body :=
 (.seq (.reg m56) (.seq (.seq (.reg m57) (.cond (.t 6) (.reg m58) .skip)) (.seq (.seq (.reg m59) (.seq (.reg m6a) (.cond (.t 16) (.reg m6b) .skip))) (.seq (.reg m6c) .ret)))) }
attribute [go_sem] l5y l5z l52 l53 l54 l55 l56 l57 l58 l59 l50 l51 l62 l63 l64 l65 l66 l8e l8f l8h l8i l8j l8k l8l l8m l8n l8g l77 l78 l79 l8a l8b l8c l8d l6t l6u l6v l6w l6x l6y l6z l60 l61 l6j l6k l6l l6m l6n l6o l6p l6q l6r l3a l3b l3c l3d l3e l3f l5a l5b l5c l5d l5e l5f l5g l5h l67 l68 l7h l7q l70 l72 l73 l74 l75 l76 l69 l7a l7b l7c l7d l7e l7f l7g l7i l7j l7k l7l l7m l7n l7o l7p l7r l7s l7t l7u l7v l7w l7x l7y l7z l71 l3k l3l l3v l34 l4e l4i l4j l4k l4l l4m l3m l3n l3o l3p l3q l3r l3s l3t l3u l3w l3x l3y l3z l30 l31 l32 l33 l35 l36 l37 l38 l39 l4a l4b l4c l4d l4f l4g l4h l80 l81 l84 l85 l86 l87 l88 l89 l9a l9b l82 l83 l8o l8p l8t l8u l8v l8w l8x l8y l8z l8q l8r l8s m0g m0h m0i m0j m0k m0l m0m l4s l4t l42 l43 l44 l45 l46 l47 l48 l49 l4u l4v l4w l4x l4y l4z l40 l41 l9x l9y l97 l99 m0a m0b m0c m0d m0e m0f l9z l90 l91 l92 l93 l94 l95 l96 l98 l6a l6b l6c l6d l6e l6f l6g l6h l6i l5i l5j l5l l5m l5n l5o l5p l5q l5r l5s l5k l5u l5v l0s l0t l04 l08 l09 l1a l1b l1c l1d l1e l0u l0v l0w l0x l0y l0z l00 l01 l02 l03 l05 l06 l07 l5w l5x l0p l0q l0r l1p l1q j96 j97 j98 j99 l0a l0b l0c l0d m0z m00 l9c l9d l9n l9q l9r l9s l9t l9u l9v l9w l9e l9f l9g l9h l9i l9j l9k l9l l9m l9o l9p m01 m02 m1d m1j m1k m1l m1m m1n m1o m1p m03 m04 m05 m06 m07 m08 m09 m1a m1b m1c m1e m1f m1g m1h m1i l3g l3h l1t l1u l1w l1x l1y l1z l10 l13 l15 l17 l1v l1r l1s l18 l19 l2d l2e l2f l2g l2h l2i l2j l2k l2a l2b l2c m1q m1r m14 m15 m18 m19 m2a m2b m2c m2d m2e m16 m17 m0n m0o m0s m0t m0u m0v m0w m0x m0y m0p m0q m0r m6d m6e m6f m6g m6h m6i m6j m6k l3i l3j m5v m5w m5y m5z m50 m51 m52 m53 m54 m5x m1s m1t m1w m1x m1y m1z m10 m11 m12 m13 m1u m1v l1h l1i l1j l1k m2h m2i m2k m2l m2m m2n m2o m2p m2q m2j l0n l0o m5r m5s l1n l1o m5t m5u l1l l1m l2l l2m l2p l2q l2r l2s l2t l2u l2v l2w l2n l2o l0f l0g l0h l0i l0j l0k l0l m2t m2u m24 m3e m3m m3n m3o m3p m3q m2v m2w m2x m2y m2z m20 m21 m22 m23 m25 m26 m27 m28 m29 m3a m3b m3c m3d m3f m3g m3h m3i m3j m3k m3l m49 m5a l2x l2y l2z l21 l24 l26 l27 l28 l29 m2f m2g m4b m4c m4e m4f m4g m4h m4i m4j m4k m4l m4d m6m m6n m6o m6p m6q m6r m6s m6t m6u m6v m6w m6x m6y m6z m60 m61 m62 m63 m64 m65 m4m m4n m4p m4q m4r m4s m4t m4u m4v m4o m2r m2s m4w m4x m42 m43 m44 m45 m46 m47 m48 m4y m4z m40 m41 m3r m3s m3t m3u m3v m3w m3x m3y m3z m30 m33 m34 m35 m36 m37 m38 m39 m4a m31 m32 m5b m5c m5k m5l m5m m5n m5o m5p m5q m5d m5e m5f m5g m5h m5i m5j m56 m57 m58 m59 m6a m6b m6c
end Go.Nw.Ctl
