/- The functions of a seat, as the abstract machine has them. -/
import Derived.Test.YtfahaljhgfjooaaDoorNwI
set_option linter.all false
namespace Go.Nw.Ctl
@[go_sem] def O3 (d a : Nat) : XO := ⟨some d,none,.mv (.t a)⟩
@[go_sem] def O4 (d n a : Nat) : XO := ⟨some d,none,.load false n (.t a)⟩
@[go_sem] def O5 (d n a : Nat) : XO := ⟨some d,none,.fldA n (.t a)⟩
@[go_sem] def O6 (d n a : Nat) : XO := ⟨some d,none,.load true n (.t a)⟩
@[go_sem] def O7 (d n a b : Nat) : XO := ⟨some d,none,.ixA n (.t a) (.t b)⟩
@[go_sem] def O8 (d a : Nat) : XO := ⟨some d,none,.len false (.t a)⟩
@[go_sem] def O9 (d g : Nat) (p : Bool) (x : XOp) : XO := ⟨some d,some (g,p),x⟩
@[go_sem] def c9 (n : Int) : X := .c (.int .i64 n)
@[go_sem] def O1 (d : Nat) (x : XOp) : XO := ⟨some d,none,x⟩
@[go_sem] def O2 (x : XOp) : XO := ⟨none,none,x⟩
def b50 : List (List UInt8) := [[97, 110, 121], [116, 111], [122, 101, 114, 111], [109, 111, 114, 101], [108, 101, 115, 115], [105, 102], [121, 101, 115], [110, 111]]
def b6h : List GC := [.sl 1 (b50.map fun s => [.string ⟨s.toArray⟩])]
def p58 : List XO := [O1 3 (.boxF (.t 0)),O1 4 (.boxF (.t 1)),O1 5 (.boxF (.t 2)),O1 6 (.mv (.c (.bool false)))]
def p59 : List XO := [O1 17 (.load true 5 (.tf 3)),O1 18 (.call "newel/newellaw04.Wide" [.t 17]),O3 19 18,O9 20 19 false (.load true 5 (.tf 3)),O9 21 19 false (.fldA 0 (.tf 4)),O9 22 19 false (.load false 1 (.tf 21)),O9 23 19 false (.fldA 1 (.tf 4)),O9 24 19 false (.load false 1 (.tf 23)),O9 25 19 false (.bsl 1 [.t 22, .t 24]),O9 26 19 false (.call "newel/newelref04.CheckConds" [.t 20, .t 25]),O9 27 19 false (.bin .neq .no (.t 26) (c9 0)),O1 28 (.pick (.t 19) (.c (.bool true)) (.t 27)),O3 29 28,O9 30 29 false (.fldA 0 (.tf 5)),O9 31 29 false (.load false 1 (.tf 30)),O9 32 29 false (.len false (.t 31)),O9 33 29 false (.bin .gtr .no (.t 32) (c9 60)),O1 34 (.pick (.t 29) (.c (.bool true)) (.t 33))]
def p6j : List XO := [O1 35 (.call "newel/newellaw04.works" []),O3 6 35]
def p6l : List XO := [O1 37 (.load true 5 (.tf 3)),O1 38 (.fldA 0 (.tf 4)),O1 39 (.load false 1 (.tf 38)),O1 40 (.fldA 1 (.tf 4)),O1 41 (.load false 1 (.tf 40)),O1 42 (.call "newel/control.Stuck" [.t 37, .t 39, .t 41]),O3 36 42,O1 43 (.ext (.t 36) 0),O1 44 (.ext (.t 36) 1),O1 45 (.ext (.t 36) 2),O1 46 (.ext (.t 36) 3),O1 47 (.ext (.t 36) 4),O3 7 43,O3 8 44,O3 9 45,O3 10 46,O3 11 47]
def p6m : List XO := [O3 48 11,O1 49 (.bin .neq .no (.t 48) (c9 0))]
def p6n : List XO := [O1 6 (.mv (.c (.bool false)))]
def p6o : List XO := [O3 50 10]
def p6p : List XO := [O3 51 7,O1 52 (.bin .lss .no (.t 51) (c9 0)),O3 53 52,O9 54 53 false (.mv (.t 7)),O9 55 53 false (.fldA 0 (.tf 3)),O9 56 53 false (.load false 1 (.tf 55)),O9 57 53 false (.len false (.t 56)),O9 58 53 false (.bin .geq .no (.t 54) (.t 57)),O1 59 (.pick (.t 53) (.c (.bool true)) (.t 58)),O3 60 59,O9 61 60 false (.mv (.t 8)),O9 62 60 false (.bin .lss .no (.t 61) (c9 0)),O1 63 (.pick (.t 60) (.c (.bool true)) (.t 62)),O3 64 63,O9 65 64 false (.mv (.t 8)),O9 66 64 false (.bin .gtr .no (.t 65) (c9 1)),O1 67 (.pick (.t 64) (.c (.bool true)) (.t 66))]
def p6q : List XO := [O1 6 (.mv (.c (.bool false)))]
def p6r : List XO := [O1 69 (.load true 5 (.tf 3)),O3 70 9,O1 71 (.fldA 0 (.tf 4)),O1 72 (.load false 1 (.tf 71)),O3 73 7,O3 74 8,O1 75 (.call "newel/newellaw04.played" [.t 69, .t 70, .t 72, .t 73, .t 74]),O3 68 75,O1 76 (.ext (.t 68) 0),O1 77 (.ext (.t 68) 1),O3 12 76,O3 13 77]
def p6a : List XO := [O3 78 13,O3 79 78,O9 80 79 true (.load true 5 (.tf 3)),O9 81 79 true (.mv (.t 12)),O9 82 79 true (.mv (.t 12)),O9 83 79 true (.len false (.t 82)),O9 84 79 true (.bin .sub .no (.t 83) (c9 1)),O9 85 79 true (.ixA 3 (.t 81) (.t 84)),O9 86 79 true (.load true 3 (.t 85)),O9 87 79 true (.fldA 1 (.tf 4)),O9 88 79 true (.load false 1 (.tf 87)),O9 89 79 true (.call "newel/newelref04.Holds" [.t 80, .t 86, (c9 0), .t 88]),O1 90 (.pick (.t 79) (.t 89) (.c (.bool false))),O3 91 90,O9 92 91 true (.call "newel/newellaw04.works" []),O1 93 (.pick (.t 91) (.t 92) (.c (.bool false))),O3 6 93]
def p6b : List XO := [O1 94 (.fldA 1 (.tf 5)),O1 95 (.load false 1 (.tf 94)),O1 96 (.bin .lss .no (.t 95) (c9 0)),O3 97 96,O9 98 97 false (.fldA 1 (.tf 5)),O9 99 97 false (.load false 1 (.tf 98)),O9 100 97 false (.fldA 0 (.tf 3)),O9 101 97 false (.load false 1 (.tf 100)),O9 102 97 false (.len false (.t 101)),O9 103 97 false (.bin .geq .no (.t 99) (.t 102)),O1 104 (.pick (.t 97) (.c (.bool true)) (.t 103)),O3 105 104,O9 106 105 false (.fldA 2 (.tf 5)),O9 107 105 false (.load false 1 (.tf 106)),O9 108 105 false (.bin .lss .no (.t 107) (c9 0)),O1 109 (.pick (.t 105) (.c (.bool true)) (.t 108)),O3 110 109,O9 111 110 false (.fldA 2 (.tf 5)),O9 112 110 false (.load false 1 (.tf 111)),O9 113 110 false (.bin .gtr .no (.t 112) (c9 1)),O1 114 (.pick (.t 110) (.c (.bool true)) (.t 113))]
def p6c : List XO := [O1 115 (.call "newel/newellaw04.works" []),O3 6 115]
def p6d : List XO := [O1 117 (.load true 5 (.tf 3)),O1 118 (.fldA 0 (.tf 5)),O1 119 (.load false 1 (.tf 118)),O1 120 (.fldA 0 (.tf 4)),O1 121 (.load false 1 (.tf 120)),O1 122 (.fldA 1 (.tf 5)),O1 123 (.load false 1 (.tf 122)),O1 124 (.fldA 2 (.tf 5)),O1 125 (.load false 1 (.tf 124)),O1 126 (.call "newel/newellaw04.played" [.t 117, .t 119, .t 121, .t 123, .t 125]),O3 116 126,O1 127 (.ext (.t 116) 0),O1 128 (.ext (.t 116) 1),O3 14 127,O3 15 128]
def p6e : List XO := [O1 16 (.mv (c9 0))]
def p6f : List XO := [O3 129 15,O3 130 129,O9 131 130 true (.mv (.t 16)),O9 132 130 true (.mv (.t 14)),O9 133 130 true (.len false (.t 132)),O9 134 130 true (.bin .lss .no (.t 131) (.t 133)),O1 135 (.pick (.t 130) (.t 134) (.c (.bool false)))]
def p6g : List XO := [O1 138 (.load true 5 (.tf 3)),O3 139 14,O3 140 16,O7 141 3 139 140,O6 142 3 141,O1 143 (.fldA 1 (.tf 4)),O1 144 (.load false 1 (.tf 143)),O1 145 (.call "newel/newelref04.Holds" [.t 138, .t 142, (c9 0), .t 144])]
def p6h : List XO := [O1 6 (.mv (.c (.bool false)))]
def p6i : List XO := [O3 136 16,O1 137 (.bin .add .no (.t 136) (c9 1)),O3 16 137]
def p5z : XCode :=
 (.seq (.seq (.reg p6f) (.cond (.t 135) .skip (.exit 0))) (.seq (.block 1 (.seq (.reg p6g) (.cond (.t 145) (.seq (.reg p6h) .ret) .skip))) (.reg p6i)))
def p6k : List XO := [O1 146 (.call "newel/newellaw04.works" []),O3 6 146]
def x_l04_ControlStays : XFunc := { np := 3, res := [.t 6], body :=
 (.seq (.reg p58) (.seq (.seq (.reg p59) (.cond (.t 34) (.seq (.reg p6j) .ret) .skip)) (.seq (.reg p6l) (.seq (.seq (.reg p6m) (.cond (.t 49) (.seq (.reg p6n) .ret) .skip)) (.seq (.seq (.reg p6o) (.cond (.t 50) (.seq (.seq (.reg p6p) (.cond (.t 67) (.seq (.reg p6q) .ret) .skip)) (.seq (.reg p6r) (.seq (.reg p6a) .ret))) .skip)) (.seq (.seq (.reg p6b) (.cond (.t 114) (.seq (.reg p6c) .ret) .skip)) (.seq (.reg p6d) (.seq (.seq (.reg p6e) (.block 0 (.loop p5z))) (.seq (.reg p6k) .ret))))))))) }
def m3n : List XO := [O1 1 (.boxF (.t 0)),O1 2 (.mv (.c (.bool false)))]
def m3o : List XO := [O1 5 (.load true 5 (.tf 1)),O1 6 (.call "newel/newelref04.Check" [.t 5]),O1 7 (.bin .neq .no (.t 6) (c9 0))]
def m3p : List XO := [O1 2 (.mv (.c (.bool false)))]
def m3q : List XO := [O1 8 (.fldA 3 (.tf 1)),O1 9 (.load false 1 (.tf 8)),O8 10 9,O3 3 10]
def m3r : List XO := [O1 4 (.mv (c9 0))]
def m3s : List XO := [O3 11 4,O1 12 (.fldA 2 (.tf 1)),O1 13 (.load false 1 (.tf 12)),O8 14 13,O1 15 (.bin .lss .no (.t 11) (.t 14))]
def m3t : List XO := [O3 18 3,O1 19 (.fldA 2 (.tf 1)),O1 20 (.load false 1 (.tf 19)),O3 21 4,O7 22 2 20 21,O5 23 1 22,O4 24 1 23,O1 25 (.bin .add .no (.t 24) (c9 1)),O1 26 (.bin .mul .no (.t 18) (.t 25)),O3 3 26]
def m3u : List XO := [O3 16 4,O1 17 (.bin .add .no (.t 16) (c9 1)),O3 4 17]
def g4c : XCode :=
 (.seq (.seq (.reg m3s) (.cond (.t 15) .skip (.exit 0))) (.seq (.block 1 (.reg m3t)) (.reg m3u)))
def m3v : List XO := [O1 27 (.fldA 0 (.tf 1)),O1 28 (.load false 1 (.tf 27)),O8 29 28,O1 30 (.bin .gtr .no (.t 29) (c9 3)),O3 31 30,O9 32 31 false (.mv (.t 3)),O9 33 31 false (.bin .gtr .no (.t 32) (c9 80)),O1 34 (.pick (.t 31) (.c (.bool true)) (.t 33)),O3 2 34]
def x_l04_Wide : XFunc := { np := 1, res := [.t 2], body :=
 (.seq (.reg m3n) (.seq (.seq (.reg m3o) (.cond (.t 7) (.seq (.reg m3p) .ret) .skip)) (.seq (.reg m3q) (.seq (.seq (.reg m3r) (.block 0 (.loop g4c))) (.seq (.reg m3v) .ret))))) }
def m35 : List XO := [O1 0 (.mv (.c (.bool false)))]
def m36 : List XO := [O1 7 (.call "newel/newellaw04.Example" []),O1 1 (.alloc [(.slice none 0 0), (.slice none 0 0), (.slice none 0 0), (.slice none 0 0), (.slice none 0 0)]),O2 (.store 5 (.t 1) (.t 7))]
def m37 : List XO := [O6 9 5 1,O1 10 (.build [(.int .i64 0), (.int .i64 0), (.int .i64 0), (.bool false)] [(0, 1, (c9 4))]),O1 11 (.build [(.int .i64 0), (.int .i64 0), (.int .i64 0), (.bool false)] [(0, 1, (c9 2)), (2, 1, (c9 2))]),O1 12 (.bsl 4 [.t 10, .t 11]),O1 13 (.bsl 1 [.t 12]),O1 14 (.call "newel/control.Breach" [.t 9, (.c (.slice none 0 0)), .t 13]),O3 8 14,O1 15 (.ext (.t 8) 0),O1 16 (.ext (.t 8) 1),O1 17 (.ext (.t 8) 2),O3 2 15,O3 3 16,O3 4 17]
def m38 : List XO := [O6 19 5 1,O1 20 (.call "newel/control.Classes" [.t 19]),O3 18 20,O1 21 (.ext (.t 18) 0),O1 22 (.ext (.t 18) 1),O3 5 21,O3 6 22]
def m39 : List XO := [O3 23 4,O1 24 (.bin .eql .no (.t 23) (c9 0)),O3 25 24,O9 26 25 true (.mv (.t 6)),O9 27 25 true (.bin .eql .no (.t 26) (c9 0)),O1 28 (.pick (.t 25) (.t 27) (.c (.bool false))),O3 29 28,O9 30 29 true (.mv (.t 3)),O1 31 (.pick (.t 29) (.t 30) (.c (.bool false))),O3 32 31,O9 33 32 true (.mv (.t 2)),O9 34 32 true (.bsl 1 [(c9 1), (c9 0), (c9 0)]),O9 35 32 true (.call "newel/newellaw04.sameInts" [.t 33, .t 34]),O1 36 (.pick (.t 32) (.t 35) (.c (.bool false))),O3 37 36,O9 38 37 true (.mv (.t 5)),O9 39 37 true (.bsl 1 [(c9 0), (c9 1), (c9 2), (c9 3), (c9 0), (c9 0)]),O9 40 37 true (.call "newel/newellaw04.sameInts" [.t 38, .t 39]),O1 41 (.pick (.t 37) (.t 40) (.c (.bool false))),O3 0 41]
def x_l04_works : XFunc := { np := 0, res := [.t 0], body :=
 (.seq (.reg m35) (.seq (.reg m36) (.seq (.reg m37) (.seq (.reg m38) (.seq (.reg m39) .ret))))) }
def o6p : List XO := [O1 3 (.boxF (.t 0)),O1 6 (.mv (c9 0)),O1 7 (.mv (c9 0)),O1 8 (.mv (.c (.slice none 0 0))),O1 9 (.mv (.c (.bool false))),O1 10 (.mv (c9 0))]
def o6q : List XO := [O1 13 (.load true 5 (.tf 3)),O3 14 1,O3 15 2,O1 16 (.bsl 1 [.t 14, .t 15]),O1 17 (.call "newel/control.check" [.t 13, .t 16]),O3 10 17]
def o6x : List XO := [O3 18 10,O1 19 (.bin .neq .no (.t 18) (c9 0))]
def o6y : List XO := [O3 20 10,O1 6 (.mv (c9 0)),O1 7 (.mv (c9 0)),O1 8 (.mv (.c (.slice none 0 0))),O1 9 (.mv (.c (.bool false))),O3 10 20]
def o6z : List XO := [O1 21 (.fldA 0 (.tf 3)),O1 22 (.load false 1 (.tf 21)),O8 23 22,O1 24 (.mv (c9 0))]
def o60 : List XO := [O1 25 (.bin .lss .no (.t 24) (.t 23))]
def o61 : List XO := [O3 26 24,O1 11 (.alloc [(.int .i64 0)]),O2 (.store 1 (.t 11) (.t 26))]
def o62 : List XO := [O1 27 (.mv (c9 0))]
def o63 : List XO := [O1 28 (.bin .lss .no (.t 27) (c9 2))]
def o64 : List XO := [O3 29 27,O1 12 (.alloc [(.int .i64 0)]),O2 (.store 1 (.t 12) (.t 29))]
def o6r : List XO := [O1 31 (.load true 5 (.tf 3)),O1 32 (.call "newel/control.of" [.t 31]),O3 33 1,O3 34 2,O1 35 (.mkfn "newel/control.Stuck$1" [] [.t 11, .t 12]),O1 36 (.call "(newel/control.plant).breach" [.t 32, .t 33, .t 34, .t 35]),O3 30 36,O1 37 (.ext (.t 30) 0),O1 38 (.ext (.t 30) 1),O3 8 37,O3 9 38]
def o6s : List XO := [O3 39 9]
def o6t : List XO := [O4 40 1 11,O4 41 1 12,O3 42 8,O3 6 40,O3 7 41,O3 8 42,O1 9 (.mv (.c (.bool true))),O1 10 (.mv (c9 0))]
def o6u : List XO := [O1 43 (.bin .add .no (.t 27) (c9 1)),O3 27 43]
def o55 : XCode :=
 (.seq (.reg o63) (.seq (.cond (.t 28) .skip (.exit 2)) (.seq (.block 3 (.seq (.seq (.reg o64) .ghost) (.seq (.reg o6r) (.seq (.reg o6s) (.cond (.t 39) (.seq (.reg o6t) .ret) .skip))))) (.reg o6u))))
def o6v : List XO := [O1 44 (.bin .add .no (.t 24) (c9 1)),O3 24 44]
def o56 : XCode :=
 (.seq (.reg o60) (.seq (.cond (.t 25) .skip (.exit 0)) (.seq (.block 1 (.seq (.seq (.reg o61) .ghost) (.seq (.reg o62) (.block 2 (.loop o55))))) (.reg o6v))))
def o6w : List XO := [O1 6 (.mv (c9 0)),O1 7 (.mv (c9 0)),O1 8 (.mv (.c (.slice none 0 0))),O1 9 (.mv (.c (.bool false))),O1 10 (.mv (c9 0))]
def x_control_Stuck : XFunc := { np := 3, res := [.t 6, .t 7, .t 8, .t 9, .t 10], body :=
 (.seq (.reg o6p) (.seq (.seq (.reg o6q) (.seq (.reg o6x) (.cond (.t 19) (.seq (.reg o6y) .ret) .skip))) (.seq (.seq (.reg o6z) (.block 0 (.loop o56))) (.seq (.reg o6w) .ret)))) }
def m3w : List XO := [O1 4 (.mv (.c (.bool false)))]
def m3x : List XO := [O3 6 0,O8 7 6,O3 8 1,O8 9 8,O1 10 (.bin .neq .no (.t 7) (.t 9))]
def m3y : List XO := [O1 4 (.mv (.c (.bool false)))]
def m3z : List XO := [O1 5 (.mv (c9 0))]
def m30 : List XO := [O3 11 5,O3 12 0,O8 13 12,O1 14 (.bin .lss .no (.t 11) (.t 13))]
def m31 : List XO := [O3 17 0,O3 18 5,O7 19 1 17 18,O4 20 1 19,O3 21 1,O3 22 5,O7 23 1 21 22,O4 24 1 23,O1 25 (.bin .neq .no (.t 20) (.t 24))]
def m32 : List XO := [O1 4 (.mv (.c (.bool false)))]
def m33 : List XO := [O3 15 5,O1 16 (.bin .add .no (.t 15) (c9 1)),O3 5 16]
def g4d : XCode :=
 (.seq (.seq (.reg m30) (.cond (.t 14) .skip (.exit 0))) (.seq (.block 1 (.seq (.reg m31) (.cond (.t 25) (.seq (.reg m32) .ret) .skip))) (.reg m33)))
def m34 : List XO := [O1 4 (.mv (.c (.bool true)))]
def x_l04_sameInts : XFunc := { np := 2, res := [.t 4], body :=
 (.seq (.reg m3w) (.seq (.seq (.reg m3x) (.cond (.t 10) (.seq (.reg m3y) .ret) .skip)) (.seq (.seq (.reg m3z) (.block 0 (.loop g4d))) (.seq (.reg m34) .ret)))) }
def m0f : List XO := [O1 3 (.boxF (.t 0)),O1 6 (.mv (.c (.slice none 0 0))),O1 7 (.mv (.c (.bool false))),O1 8 (.mv (c9 0))]
def m0g : List XO := [O1 9 (.load true 5 (.tf 3)),O3 10 1,O3 11 2,O1 12 (.bsl 1 [.t 10, .t 11]),O1 13 (.call "newel/control.check" [.t 9, .t 12]),O3 8 13]
def m0h : List XO := [O3 14 8,O1 15 (.bin .neq .no (.t 14) (c9 0))]
def m0i : List XO := [O3 16 8,O1 6 (.mv (.c (.slice none 0 0))),O1 7 (.mv (.c (.bool false))),O3 8 16]
def m0j : List XO := [O1 18 (.load true 5 (.tf 3)),O1 19 (.call "newel/control.of" [.t 18]),O3 20 1,O3 21 2,O1 22 (.call "(newel/control.plant).breach" [.t 19, .t 20, .t 21, (.f "newel/control.same")]),O3 17 22,O1 23 (.ext (.t 17) 0),O1 24 (.ext (.t 17) 1),O3 6 23,O3 7 24]
def m0k : List XO := [O3 25 6,O3 26 7,O3 6 25,O3 7 26,O1 8 (.mv (c9 0))]
def x_control_Breach : XFunc := { np := 3, res := [.t 6, .t 7, .t 8], body :=
 (.seq (.reg m0f) (.seq (.seq (.reg m0g) (.seq (.reg m0h) (.cond (.t 15) (.seq (.reg m0i) .ret) .skip))) (.seq (.reg m0j) (.seq (.reg m0k) .ret)))) }
def m4i : List XO := [O1 2 (.boxF (.t 0)),O1 4 (.mv (c9 0))]
def m4j : List XO := [O1 7 (.load true 5 (.tf 2)),O1 8 (.call "newel/newelref04.Check" [.t 7]),O3 5 8]
def m4l : List XO := [O3 9 5,O1 10 (.bin .neq .no (.t 9) (c9 0))]
def m4m : List XO := [O3 11 5,O3 4 11]
def m4n : List XO := [O1 6 (.mv (c9 0))]
def m4o : List XO := [O3 12 6,O3 13 1,O8 14 13,O1 15 (.bin .lss .no (.t 12) (.t 14))]
def m4p : List XO := [O1 18 (.load true 5 (.tf 2)),O3 19 1,O3 20 6,O7 21 1 19 20,O4 22 1 21,O1 23 (.call "newel/newelref04.condition" [.t 18, .t 22, (.c (.bool true))]),O1 24 (.un .not (.t 23))]
def m4q : List XO := [O1 4 (.mv (c9 42))]
def m4r : List XO := [O3 16 6,O1 17 (.bin .add .no (.t 16) (c9 1)),O3 6 17]
def g4e : XCode :=
 (.seq (.seq (.reg m4o) (.cond (.t 15) .skip (.exit 0))) (.seq (.block 1 (.seq (.reg m4p) (.cond (.t 24) (.seq (.reg m4q) .ret) .skip))) (.reg m4r)))
def m4k : List XO := [O1 4 (.mv (c9 0))]
def x_r04_CheckConds : XFunc := { np := 2, res := [.t 4], body :=
 (.seq (.reg m4i) (.seq (.reg m4j) (.seq (.seq (.reg m4l) (.cond (.t 10) (.seq (.reg m4m) .ret) .skip)) (.seq (.seq (.reg m4n) (.block 0 (.loop g4e))) (.seq (.reg m4k) .ret))))) }
def m4a : List XO := [O1 4 (.boxF (.t 0)),O1 5 (.boxF (.t 1)),O1 8 (.mv (.c (.bool false)))]
def m4b : List XO := [O3 9 3,O8 10 9,O1 11 (.bin .eql .no (.t 10) (c9 0)),O3 12 11,O9 13 12 false (.load true 5 (.tf 4)),O9 14 12 false (.load true 3 (.tf 5)),O9 15 12 false (.mv (.t 2)),O9 16 12 false (.mv (.t 3)),O9 17 12 false (.call "newel/newelref04.Holds" [.t 13, .t 14, .t 15, .t 16]),O1 18 (.pick (.t 12) (.c (.bool true)) (.t 17)),O3 8 18]
def x_r04_Allows : XFunc := { np := 4, res := [.t 8], body :=
 (.seq (.reg m4a) (.seq (.reg m4b) .ret)) }
def p4i : List XO := [O1 3 (.boxF (.t 0)),O1 4 (.boxF (.t 1)),O1 6 (.alloc [(.int .i64 0), (.int .i64 0), (.int .i64 0)]),O1 7 (.mv (c9 0))]
def p4j : List XO := [O1 10 (.load true 5 (.tf 3)),O1 11 (.call "newel/control.Check" [.t 10]),O3 8 11]
def p4k : List XO := [O3 12 8,O1 13 (.bin .neq .no (.t 12) (c9 0))]
def p4l : List XO := [O1 14 (.build [(.int .i64 0), (.int .i64 0), (.int .i64 0)] []),O3 15 8,O2 (.store 3 (.t 6) (.t 14)),O3 7 15]
def p4m : List XO := [O1 16 (.load true 5 (.tf 3)),O1 17 (.call "newel/control.of" [.t 16]),O1 9 (.alloc [(.slice none 0 0), (.slice none 0 0), (.slice none 0 0), (.slice none 0 0), (.slice none 0 0)]),O2 (.store 5 (.t 9) (.t 17))]
def p4n : List XO := [O5 18 0 9,O6 19 5 18,O1 20 (.load true 3 (.tf 4)),O1 21 (.call "(newel/situation.Plant).Place" [.t 19, .t 20]),O1 22 (.un .not (.t 21)),O3 23 22,O9 24 23 false (.fldA 0 (.t 9)),O9 25 23 false (.load true 5 (.t 24)),O9 26 23 false (.mv (.t 2)),O9 27 23 false (.call "(newel/situation.Plant).Input" [.t 25, .t 26]),O9 28 23 false (.un .not (.t 27)),O1 29 (.pick (.t 23) (.c (.bool true)) (.t 28))]
def p4o : List XO := [O1 30 (.build [(.int .i64 0), (.int .i64 0), (.int .i64 0)] []),O2 (.store 3 (.t 6) (.t 30)),O1 7 (.mv (c9 1))]
def p4p : List XO := [O5 31 0 9,O6 32 5 31,O1 33 (.load true 3 (.tf 4)),O3 34 2,O1 35 (.call "(newel/situation.Plant).Step" [.t 32, .t 33, .t 34]),O2 (.store 3 (.t 6) (.t 35)),O1 7 (.mv (c9 0))]
def x_control_Step : XFunc := { np := 3, res := [.cell 6 true 3, .t 7], body :=
 (.seq (.reg p4i) (.seq (.seq (.reg p4j) (.seq (.reg p4k) (.cond (.t 13) (.seq (.reg p4l) .ret) .skip))) (.seq (.reg p4m) (.seq (.seq (.reg p4n) (.cond (.t 29) (.seq (.reg p4o) .ret) .skip)) (.seq (.reg p4p) .ret))))) }
def p5g : List XO := [O1 5 (.boxF (.t 0)),O1 10 (.mv (.c (.slice none 0 0))),O1 11 (.mv (.c (.bool false)))]
def p5h : List XO := [O1 17 (.build [(.int .i64 0), (.int .i64 0), (.int .i64 0)] []),O1 18 (.bsl 3 [.t 17]),O3 12 18]
def p5l : List XO := [O1 13 (.mv (c9 0))]
def p5m : List XO := [O3 19 13,O3 20 1,O8 21 20,O1 22 (.bin .lss .no (.t 19) (.t 21))]
def p5n : List XO := [O3 25 12,O3 26 13,O7 27 3 25 26,O6 28 3 27,O1 14 (.alloc [(.int .i64 0), (.int .i64 0), (.int .i64 0)]),O2 (.store 3 (.t 14) (.t 28))]
def p5o : List XO := [O3 29 1,O3 30 13,O7 31 1 29 30,O4 32 1 31,O1 33 (.bin .lss .no (.t 32) (c9 0)),O3 34 33,O9 35 34 false (.mv (.t 1)),O9 36 34 false (.mv (.t 13)),O9 37 34 false (.ixA 1 (.t 35) (.t 36)),O9 38 34 false (.load false 1 (.t 37)),O9 39 34 false (.fldA 0 (.tf 5)),O9 40 34 false (.load false 1 (.tf 39)),O9 41 34 false (.len false (.t 40)),O9 42 34 false (.cvtI .u64 (.t 41)),O9 43 34 false (.bin .shl .no (c9 1) (.t 42)),O9 44 34 false (.bin .geq .no (.t 38) (.t 43)),O1 45 (.pick (.t 34) (.c (.bool true)) (.t 44)),O3 46 45,O9 47 46 false (.load true 5 (.tf 5)),O9 48 46 false (.load true 3 (.t 14)),O9 49 46 false (.mv (.t 1)),O9 50 46 false (.mv (.t 13)),O9 51 46 false (.ixA 1 (.t 49) (.t 50)),O9 52 46 false (.load false 1 (.t 51)),O9 53 46 false (.mv (.t 2)),O9 54 46 false (.call "newel/newelref04.Allows" [.t 47, .t 48, .t 52, .t 53]),O9 55 46 false (.un .not (.t 54)),O1 56 (.pick (.t 46) (.c (.bool true)) (.t 55))]
def p5p : List XO := [O1 10 (.mv (.c (.slice none 0 0))),O1 11 (.mv (.c (.bool false)))]
def p5q : List XO := [O1 58 (.load true 5 (.tf 5)),O6 59 3 14,O3 60 1,O3 61 13,O7 62 1 60 61,O4 63 1 62,O3 64 3,O3 65 4,O1 66 (.call "newel/newelref04.Heard" [.t 63, .t 64, .t 65]),O1 67 (.call "newel/control.Step" [.t 58, .t 59, .t 66]),O3 57 67,O1 68 (.ext (.t 57) 0),O1 69 (.ext (.t 57) 1),O1 15 (.alloc [(.int .i64 0), (.int .i64 0), (.int .i64 0)]),O2 (.store 3 (.t 15) (.t 68)),O3 16 69]
def p5r : List XO := [O3 70 16,O1 71 (.bin .neq .no (.t 70) (c9 0)),O3 72 71,O9 73 72 false (.load true 5 (.tf 5)),O9 74 72 false (.load true 3 (.t 15)),O9 75 72 false (.call "newel/newelref04.IsPlace" [.t 73, .t 74]),O9 76 72 false (.un .not (.t 75)),O1 77 (.pick (.t 72) (.c (.bool true)) (.t 76))]
def p5s : List XO := [O1 10 (.mv (.c (.slice none 0 0))),O1 11 (.mv (.c (.bool false)))]
def p5i : List XO := [O3 78 12,O6 79 3 15,O1 80 (.bsl 3 [.t 79]),O1 81 (.app 3 24 (.t 78) (.t 80)),O3 12 81]
def p5j : List XO := [O3 23 13,O1 24 (.bin .add .no (.t 23) (c9 1)),O3 13 24]
def p3h : XCode :=
 (.seq (.seq (.reg p5m) (.cond (.t 22) .skip (.exit 0))) (.seq (.block 1 (.seq (.reg p5n) (.seq (.seq (.reg p5o) (.cond (.t 56) (.seq (.reg p5p) .ret) .skip)) (.seq (.reg p5q) (.seq (.seq (.reg p5r) (.cond (.t 77) (.seq (.reg p5s) .ret) .skip)) (.reg p5i)))))) (.reg p5j)))
def p5k : List XO := [O3 82 12,O3 10 82,O1 11 (.mv (.c (.bool true)))]
def x_l04_played : XFunc := { np := 5, res := [.t 10, .t 11], body :=
 (.seq (.reg p5g) (.seq (.reg p5h) (.seq (.seq (.reg p5l) (.block 0 (.loop p3h))) (.seq (.reg p5k) .ret)))) }
def m4s : List XO := [O1 1 (.boxF (.t 0)),O1 2 (.mv (c9 0))]
def m4t : List XO := [O1 11 (.fldA 0 (.tf 1)),O1 12 (.load false 1 (.tf 11)),O8 13 12,O1 14 (.bin .gtr .no (.t 13) (c9 4)),O3 15 14,O9 16 15 false (.fldA 1 (.tf 1)),O9 17 15 false (.load false 1 (.tf 16)),O9 18 15 false (.len false (.t 17)),O9 19 15 false (.bin .gtr .no (.t 18) (c9 6)),O1 20 (.pick (.t 15) (.c (.bool true)) (.t 19)),O3 21 20,O9 22 21 false (.fldA 2 (.tf 1)),O9 23 21 false (.load false 1 (.tf 22)),O9 24 21 false (.len false (.t 23)),O9 25 21 false (.bin .gtr .no (.t 24) (c9 2)),O1 26 (.pick (.t 21) (.c (.bool true)) (.t 25)),O3 27 26,O9 28 27 false (.fldA 3 (.tf 1)),O9 29 27 false (.load false 1 (.tf 28)),O9 30 27 false (.len false (.t 29)),O9 31 27 false (.call "newel/newelref04.from" [.t 30, (c9 1), (c9 12)]),O9 32 27 false (.un .not (.t 31)),O1 33 (.pick (.t 27) (.c (.bool true)) (.t 32)),O3 34 33,O9 35 34 false (.fldA 4 (.tf 1)),O9 36 34 false (.load false 1 (.tf 35)),O9 37 34 false (.len false (.t 36)),O9 38 34 false (.bin .gtr .no (.t 37) (c9 40)),O1 39 (.pick (.t 34) (.c (.bool true)) (.t 38))]
def m42 : List XO := [O1 2 (.mv (c9 41))]
def m5b : List XO := [O1 40 (.load true 5 (.tf 1)),O1 41 (.call "newel/newelref04.names" [.t 40]),O3 3 41]
def m5l : List XO := [O1 4 (.mv (c9 0))]
def m5n : List XO := [O3 42 4,O3 43 3,O8 44 43,O1 45 (.bin .lss .no (.t 42) (.t 44))]
def m5o : List XO := [O3 48 3,O3 49 4,O7 50 1 48 49,O4 51 1 50,O1 52 (.len true (.t 51)),O1 53 (.bin .gtr .no (.t 52) (c9 8)),O3 54 53,O9 55 54 false (.mv (.t 3)),O9 56 54 false (.mv (.t 4)),O9 57 54 false (.ixA 1 (.t 55) (.t 56)),O9 58 54 false (.load false 1 (.t 57)),O9 59 54 false (.call "newel/newelref04.Word" [.t 58]),O9 60 54 false (.un .not (.t 59)),O1 61 (.pick (.t 54) (.c (.bool true)) (.t 60))]
def m5p : List XO := [O1 2 (.mv (c9 41))]
def m5q : List XO := [O1 5 (.mv (c9 0))]
def m5r : List XO := [O3 62 5,O3 63 4,O1 64 (.bin .lss .no (.t 62) (.t 63))]
def m4u : List XO := [O3 67 3,O3 68 5,O7 69 1 67 68,O4 70 1 69,O3 71 3,O3 72 4,O7 73 1 71 72,O4 74 1 73,O1 75 (.bin .eql .no (.t 70) (.t 74))]
def m4v : List XO := [O1 2 (.mv (c9 41))]
def m4w : List XO := [O3 65 5,O1 66 (.bin .add .no (.t 65) (c9 1)),O3 5 66]
def g4f : XCode :=
 (.seq (.seq (.reg m5r) (.cond (.t 64) .skip (.exit 2))) (.seq (.block 3 (.seq (.reg m4u) (.cond (.t 75) (.seq (.reg m4v) .ret) .skip))) (.reg m4w)))
def m4x : List XO := [O3 46 4,O1 47 (.bin .add .no (.t 46) (c9 1)),O3 4 47]
def g4g : XCode :=
 (.seq (.seq (.reg m5n) (.cond (.t 45) .skip (.exit 0))) (.seq (.block 1 (.seq (.seq (.reg m5o) (.cond (.t 61) (.seq (.reg m5p) .ret) .skip)) (.seq (.reg m5q) (.block 2 (.loop g4f))))) (.reg m4x)))
def m4y : List XO := [O1 6 (.mv (c9 0))]
def m4z : List XO := [O3 76 6,O1 77 (.fldA 2 (.tf 1)),O1 78 (.load false 1 (.tf 77)),O8 79 78,O1 80 (.bin .lss .no (.t 76) (.t 79))]
def m40 : List XO := [O1 83 (.fldA 2 (.tf 1)),O1 84 (.load false 1 (.tf 83)),O3 85 6,O7 86 2 84 85,O5 87 1 86,O4 88 1 87,O1 89 (.call "newel/newelref04.from" [.t 88, (c9 1), (c9 7)]),O1 90 (.un .not (.t 89))]
def m41 : List XO := [O1 2 (.mv (c9 41))]
def m43 : List XO := [O3 81 6,O1 82 (.bin .add .no (.t 81) (c9 1)),O3 6 82]
def g4h : XCode :=
 (.seq (.seq (.reg m4z) (.cond (.t 80) .skip (.exit 4))) (.seq (.block 5 (.seq (.reg m40) (.cond (.t 90) (.seq (.reg m41) .ret) .skip))) (.reg m43)))
def m44 : List XO := [O1 7 (.mv (c9 0))]
def m45 : List XO := [O3 91 7,O1 92 (.fldA 3 (.tf 1)),O1 93 (.load false 1 (.tf 92)),O8 94 93,O1 95 (.bin .lss .no (.t 91) (.t 94))]
def m46 : List XO := [O1 98 (.fldA 3 (.tf 1)),O1 99 (.load false 1 (.tf 98)),O3 100 7,O7 101 2 99 100,O5 102 1 101,O4 103 1 102,O1 104 (.fldA 1 (.tf 1)),O1 105 (.load false 1 (.tf 104)),O8 106 105,O1 107 (.cvtI .u64 (.t 106)),O1 108 (.bin .shl .no (c9 1) (.t 107)),O1 109 (.bin .sub .no (.t 108) (c9 1)),O1 110 (.call "newel/newelref04.from" [.t 103, (c9 0), .t 109]),O1 111 (.un .not (.t 110))]
def m47 : List XO := [O1 2 (.mv (c9 41))]
def m48 : List XO := [O3 96 7,O1 97 (.bin .add .no (.t 96) (c9 1)),O3 7 97]
def g4i : XCode :=
 (.seq (.seq (.reg m45) (.cond (.t 95) .skip (.exit 6))) (.seq (.block 7 (.seq (.reg m46) (.cond (.t 111) (.seq (.reg m47) .ret) .skip))) (.reg m48)))
def m49 : List XO := [O1 8 (.mv (c9 0))]
def m5a : List XO := [O3 112 8,O1 113 (.fldA 4 (.tf 1)),O1 114 (.load false 1 (.tf 113)),O8 115 114,O1 116 (.bin .lss .no (.t 112) (.t 115))]
def m5c : List XO := [O1 119 (.fldA 4 (.tf 1)),O1 120 (.load false 1 (.tf 119)),O3 121 8,O7 122 4 120 121,O6 123 4 122,O1 9 (.alloc [(.int .i64 0), (.int .i64 0), (.slice none 0 0), (.slice none 0 0)]),O2 (.store 4 (.t 9) (.t 123))]
def m5d : List XO := [O5 124 0 9,O4 125 1 124,O1 126 (.fldA 3 (.tf 1)),O1 127 (.load false 1 (.tf 126)),O8 128 127,O1 129 (.bin .sub .no (.t 128) (c9 1)),O1 130 (.call "newel/newelref04.from" [.t 125, (.c (.int .i64 (-1))), .t 129]),O1 131 (.un .not (.t 130)),O3 132 131,O9 133 132 false (.fldA 1 (.t 9)),O9 134 132 false (.load false 1 (.t 133)),O9 135 132 false (.fldA 3 (.tf 1)),O9 136 132 false (.load false 1 (.tf 135)),O9 137 132 false (.len false (.t 136)),O9 138 132 false (.bin .sub .no (.t 137) (c9 1)),O9 139 132 false (.call "newel/newelref04.from" [.t 134, (c9 0), .t 138]),O9 140 132 false (.un .not (.t 139)),O1 141 (.pick (.t 132) (.c (.bool true)) (.t 140)),O3 142 141,O9 143 142 false (.load true 5 (.tf 1)),O9 144 142 false (.fldA 2 (.t 9)),O9 145 142 false (.load false 1 (.t 144)),O9 146 142 false (.call "newel/newelref04.condition" [.t 143, .t 145, (.c (.bool false))]),O9 147 142 false (.un .not (.t 146)),O1 148 (.pick (.t 142) (.c (.bool true)) (.t 147)),O3 149 148,O9 150 149 false (.fldA 3 (.t 9)),O9 151 149 false (.load false 1 (.t 150)),O9 152 149 false (.len false (.t 151)),O9 153 149 false (.bin .gtr .no (.t 152) (c9 4)),O1 154 (.pick (.t 149) (.c (.bool true)) (.t 153))]
def m5e : List XO := [O1 2 (.mv (c9 41))]
def m5f : List XO := [O1 10 (.mv (c9 0))]
def m5g : List XO := [O3 155 10,O5 156 3 9,O4 157 1 156,O8 158 157,O1 159 (.bin .lss .no (.t 155) (.t 158))]
def m5h : List XO := [O5 162 3 9,O4 163 1 162,O3 164 10,O7 165 2 163 164,O5 166 0 165,O4 167 1 166,O1 168 (.call "newel/newelref04.from" [.t 167, (c9 1), (c9 3)]),O1 169 (.un .not (.t 168)),O3 170 169,O9 171 170 false (.fldA 3 (.t 9)),O9 172 170 false (.load false 1 (.t 171)),O9 173 170 false (.mv (.t 10)),O9 174 170 false (.ixA 2 (.t 172) (.t 173)),O9 175 170 false (.fldA 1 (.t 174)),O9 176 170 false (.load false 1 (.t 175)),O9 177 170 false (.fldA 2 (.tf 1)),O9 178 170 false (.load false 1 (.tf 177)),O9 179 170 false (.len false (.t 178)),O9 180 170 false (.bin .sub .no (.t 179) (c9 1)),O9 181 170 false (.call "newel/newelref04.from" [.t 176, (c9 0), .t 180]),O9 182 170 false (.un .not (.t 181)),O1 183 (.pick (.t 170) (.c (.bool true)) (.t 182))]
def m5i : List XO := [O1 2 (.mv (c9 41))]
def m5j : List XO := [O3 160 10,O1 161 (.bin .add .no (.t 160) (c9 1)),O3 10 161]
def g4j : XCode :=
 (.seq (.seq (.reg m5g) (.cond (.t 159) .skip (.exit 10))) (.seq (.block 11 (.seq (.reg m5h) (.cond (.t 183) (.seq (.reg m5i) .ret) .skip))) (.reg m5j)))
def m5k : List XO := [O3 117 8,O1 118 (.bin .add .no (.t 117) (c9 1)),O3 8 118]
def g4k : XCode :=
 (.seq (.seq (.reg m5a) (.cond (.t 116) .skip (.exit 8))) (.seq (.block 9 (.seq (.reg m5c) (.seq (.seq (.reg m5d) (.cond (.t 154) (.seq (.reg m5e) .ret) .skip)) (.seq (.reg m5f) (.block 10 (.loop g4j)))))) (.reg m5k)))
def m5m : List XO := [O1 2 (.mv (c9 0))]
def x_r04_Check : XFunc := { np := 1, res := [.t 2], body :=
 (.seq (.reg m4s) (.seq (.seq (.reg m4t) (.cond (.t 39) (.seq (.reg m42) .ret) .skip)) (.seq (.reg m5b) (.seq (.seq (.reg m5l) (.block 0 (.loop g4g))) (.seq (.seq (.reg m4y) (.block 4 (.loop g4h))) (.seq (.seq (.reg m44) (.block 6 (.loop g4i))) (.seq (.seq (.reg m49) (.block 8 (.loop g4k))) (.seq (.reg m5m) .ret)))))))) }
def m0p : List XO := [O1 1 (.boxF (.t 0)),O1 2 (.mv (.c (.slice none 0 0))),O1 3 (.mv (c9 0))]
def m0q : List XO := [O1 20 (.load true 5 (.tf 1)),O1 21 (.call "newel/control.Check" [.t 20]),O3 4 21]
def m00 : List XO := [O3 22 4,O1 23 (.bin .neq .no (.t 22) (c9 0))]
def m09 : List XO := [O3 24 4,O1 2 (.mv (.c (.slice none 0 0))),O3 3 24]
def m1j : List XO := [O1 25 (.load true 5 (.tf 1)),O1 26 (.call "newel/control.of" [.t 25]),O1 5 (.alloc [(.slice none 0 0), (.slice none 0 0), (.slice none 0 0), (.slice none 0 0), (.slice none 0 0)]),O2 (.store 5 (.t 5) (.t 26))]
def m1n : List XO := [O6 27 5 5,O1 28 (.call "(newel/control.plant).explore" [.t 27, (.c (.slice none 0 0)), (.f "newel/control.same")]),O3 6 28]
def m1o : List XO := [O3 29 6,O1 30 (.nilck (.t 29)),O5 31 0 30,O4 32 1 31,O8 33 32,O1 34 (.mksl 1 [(.int .i64 0)] 8 (.t 33) (.t 33)),O3 7 34]
def m1p : List XO := [O3 35 6,O1 36 (.nilck (.t 35)),O5 37 0 36,O4 38 1 37,O8 39 38,O1 40 (.mv (c9 0))]
def m1q : List XO := [O1 41 (.bin .lss .no (.t 40) (.t 39))]
def m1r : List XO := [O3 42 40,O7 43 3 38 40,O6 44 3 43,O1 9 (.alloc [(.int .i64 0), (.int .i64 0), (.int .i64 0)]),O3 8 42,O2 (.store 3 (.t 9) (.t 44))]
def m0r : List XO := [O3 45 7,O3 46 8,O1 47 (.fldA 3 (.tf 1)),O1 48 (.load false 1 (.tf 47)),O5 49 0 9,O4 50 1 49,O7 51 2 48 50,O5 52 1 51,O4 53 1 52,O7 54 1 45 46,O2 (.store 1 (.t 54) (.t 53))]
def m0s : List XO := [O1 55 (.bin .add .no (.t 40) (c9 1)),O3 40 55]
def m1s : XCode :=
 (.seq (.reg m1q) (.seq (.cond (.t 41) .skip (.exit 0)) (.seq (.block 1 (.seq (.reg m1r) (.reg m0r))) (.reg m0s))))
def m0t : List XO := [O1 10 (.mv (c9 0))]
def m0u : List XO := [O3 56 7,O8 57 56,O1 58 (.mksl 1 [(.slice none 0 0)] 24 (.t 57) (.t 57)),O1 11 (.alloc [(.slice none 0 0)]),O2 (.store 1 (.t 11) (.t 58))]
def m0v : List XO := [O3 59 6,O1 60 (.nilck (.t 59)),O5 61 3 60,O4 62 1 61,O8 63 62,O1 64 (.mv (c9 0))]
def m0w : List XO := [O1 65 (.bin .lss .no (.t 64) (.t 63))]
def m0x : List XO := [O3 66 64,O7 67 1 62 64,O4 68 1 67,O3 12 66,O3 13 68]
def m0y : List XO := [O4 69 1 11,O3 70 12,O3 71 7,O3 72 12,O7 73 1 71 72,O4 74 1 73,O1 75 (.bsl 1 [.t 74]),O7 76 1 69 70,O2 (.store 1 (.t 76) (.t 75))]
def m0z : List XO := [O3 77 13,O8 78 77,O1 79 (.mv (c9 0))]
def m01 : List XO := [O1 80 (.bin .lss .no (.t 79) (.t 78))]
def m02 : List XO := [O7 81 1 77 79,O4 82 1 81,O3 15 82]
def m03 : List XO := [O4 83 1 11,O3 84 12,O4 85 1 11,O3 86 12,O7 87 1 85 86,O4 88 1 87,O3 89 7,O3 90 15,O7 91 1 89 90,O4 92 1 91,O1 93 (.bsl 1 [.t 92]),O1 94 (.app 1 8 (.t 88) (.t 93)),O7 95 1 83 84,O2 (.store 1 (.t 95) (.t 94))]
def m04 : List XO := [O1 96 (.bin .add .no (.t 79) (c9 1)),O3 79 96]
def m1t : XCode :=
 (.seq (.reg m01) (.seq (.cond (.t 80) .skip (.exit 6)) (.seq (.block 7 (.seq (.reg m02) (.regW m03 [(0, 11)]))) (.reg m04))))
def m05 : List XO := [O1 97 (.bin .add .no (.t 64) (c9 1)),O3 64 97]
def m1u : XCode :=
 (.seq (.reg m0w) (.seq (.cond (.t 65) .skip (.exit 4)) (.seq (.block 5 (.seq (.reg m0x) (.seq (.reg m0y) (.seq (.reg m0z) (.block 6 (.loop m1t)))))) (.reg m05))))
def m06 : List XO := [O1 16 (.mv (.c (.slice none 0 0)))]
def m07 : List XO := [O3 98 7,O8 99 98,O1 100 (.mksl 1 [(.int .i64 0)] 8 (.t 99) (.t 99)),O3 17 100]
def m08 : List XO := [O4 101 1 11,O8 102 101,O1 103 (.mv (c9 0))]
def m1a : List XO := [O1 104 (.bin .lss .no (.t 103) (.t 102))]
def m1b : List XO := [O3 105 103,O1 18 (.alloc [(.int .i64 0)]),O2 (.store 1 (.t 18) (.t 105))]
def m1c : List XO := [O3 106 16,O1 107 (.mkfn "newel/control.Classes$1" [] [.t 11, .t 18]),O1 108 (.call "slices.IndexFunc[[]int,int]" [.t 106, .t 107]),O3 19 108]
def m1d : List XO := [O3 109 19,O1 110 (.bin .lss .no (.t 109) (c9 0))]
def m1e : List XO := [O3 111 16,O8 112 111,O3 19 112]
def m1f : List XO := [O3 113 16,O4 114 1 18,O1 115 (.bsl 1 [.t 114]),O1 116 (.app 1 8 (.t 113) (.t 115)),O3 16 116]
def m1g : List XO := [O3 117 17,O4 118 1 18,O3 119 19,O7 120 1 117 118,O2 (.store 1 (.t 120) (.t 119))]
def m1h : List XO := [O1 121 (.bin .add .no (.t 103) (c9 1)),O3 103 121]
def m1v : XCode :=
 (.seq (.reg m1a) (.seq (.cond (.t 104) .skip (.exit 8)) (.seq (.block 9 (.seq (.reg m1b) (.seq (.reg m1c) (.seq (.seq (.reg m1d) (.cond (.t 110) (.seq (.reg m1e) (.reg m1f)) .skip)) (.reg m1g))))) (.reg m1h))))
def m1i : List XO := [O3 122 17,O3 7 122]
def m1k : List XO := [O3 123 16,O8 124 123,O3 125 10,O1 126 (.bin .eql .no (.t 124) (.t 125))]
def m1l : List XO := [O3 127 7,O3 2 127,O1 3 (.mv (c9 0))]
def m1m : List XO := [O3 128 16,O8 129 128,O3 10 129]
def m1w : XCode :=
 (.block 3 (.seq (.reg m0u) (.seq (.seq (.reg m0v) (.block 4 (.loop m1u))) (.seq (.reg m06) (.seq (.reg m07) (.seq (.seq (.reg m08) (.block 8 (.loop m1v))) (.seq (.reg m1i) (.seq (.seq (.reg m1k) (.cond (.t 126) (.seq (.reg m1l) .ret) .skip)) (.reg m1m)))))))))
def x_control_Classes : XFunc := { np := 1, res := [.t 2, .t 3], body :=
 (.seq (.reg m0p) (.seq (.seq (.reg m0q) (.seq (.reg m00) (.cond (.t 23) (.seq (.reg m09) .ret) .skip))) (.seq (.reg m1j) (.seq (.reg m1n) (.seq (.reg m1o) (.seq (.seq (.reg m1p) (.block 0 (.loop m1s))) (.seq (.reg m0t) (.block 2 (.loop m1w))))))))) }
def p05 : List XO := [O1 2 (.boxF (.t 0)),O1 3 (.boxF (.t 1)),O1 4 (.mv (.c (.bool false)))]
def p06 : List XO := [O1 7 (.fldA 0 (.tf 3)),O1 8 (.load false 1 (.tf 7)),O1 9 (.fldA 3 (.tf 2)),O1 10 (.load false 1 (.tf 9)),O8 11 10,O1 12 (.bin .sub .no (.t 11) (c9 1)),O1 13 (.call "newel/newelref04.from" [.t 8, (c9 0), .t 12]),O1 14 (.un .not (.t 13))]
def p09 : List XO := [O1 4 (.mv (.c (.bool false)))]
def p1a : List XO := [O1 5 (.mv (c9 0))]
def p1b : List XO := [O3 15 5,O1 16 (.bin .lss .no (.t 15) (c9 2))]
def p1c : List XO := [O1 6 (.mv (c9 0))]
def p1d : List XO := [O3 19 5,O1 20 (.fldA 2 (.tf 2)),O1 21 (.load false 1 (.tf 20)),O8 22 21,O1 23 (.bin .lss .no (.t 19) (.t 22))]
def p1e : List XO := [O1 24 (.fldA 2 (.tf 2)),O1 25 (.load false 1 (.tf 24)),O3 26 5,O7 27 2 25 26,O5 28 1 27,O4 29 1 28,O3 6 29]
def p1f : List XO := [O3 30 5,O1 31 (.fldA 1 (.tf 3)),O1 32 (.ixP 1 2 (.t 31) (.t 30)),O1 33 (.load false 1 (.tf 32)),O3 34 6,O1 35 (.call "newel/newelref04.from" [.t 33, (c9 0), .t 34]),O1 36 (.un .not (.t 35))]
def p1g : List XO := [O1 4 (.mv (.c (.bool false)))]
def p07 : List XO := [O3 17 5,O1 18 (.bin .add .no (.t 17) (c9 1)),O3 5 18]
def o8y : XCode :=
 (.seq (.seq (.reg p1b) (.cond (.t 16) .skip (.exit 0))) (.seq (.block 1 (.seq (.reg p1c) (.seq (.seq (.reg p1d) (.cond (.t 23) (.reg p1e) .skip)) (.seq (.reg p1f) (.cond (.t 36) (.seq (.reg p1g) .ret) .skip))))) (.reg p07)))
def p08 : List XO := [O1 4 (.mv (.c (.bool true)))]
def x_r04_IsPlace : XFunc := { np := 2, res := [.t 4], body :=
 (.seq (.reg p05) (.seq (.seq (.reg p06) (.cond (.t 14) (.seq (.reg p09) .ret) .skip)) (.seq (.seq (.reg p1a) (.block 0 (.loop o8y))) (.seq (.reg p08) .ret)))) }
def m6g : List XO := [O1 4 (.boxF (.t 0)),O1 5 (.boxF (.t 1)),O1 8 (.mv (.c (.bool false)))]
def m6h : List XO := [O1 9 (.mv (c9 0))]
def m6l : List XO := [O3 12 9,O3 13 3,O8 14 13,O1 15 (.bin .lss .no (.t 12) (.t 14))]
def m6m : List XO := [O1 10 (.mv (.c (.bool true)))]
def m6n : List XO := [O1 11 (.mv (c9 0))]
def m6o : List XO := [O3 18 11,O3 19 3,O3 20 9,O7 21 1 19 20,O4 22 1 21,O8 23 22,O1 24 (.bin .lss .no (.t 18) (.t 23))]
def m6p : List XO := [O3 27 10,O3 28 27,O9 29 28 true (.load true 5 (.tf 4)),O9 30 28 true (.load true 3 (.tf 5)),O9 31 28 true (.mv (.t 2)),O9 32 28 true (.mv (.t 3)),O9 33 28 true (.mv (.t 9)),O9 34 28 true (.ixA 1 (.t 32) (.t 33)),O9 35 28 true (.load false 1 (.t 34)),O9 36 28 true (.mv (.t 11)),O9 37 28 true (.ixA 4 (.t 35) (.t 36)),O9 38 28 true (.load true 4 (.t 37)),O9 39 28 true (.call "newel/newelref04.literal" [.t 29, .t 30, .t 31, .t 38]),O1 40 (.pick (.t 28) (.t 39) (.c (.bool false))),O3 10 40]
def m6q : List XO := [O3 25 11,O1 26 (.bin .add .no (.t 25) (c9 1)),O3 11 26]
def g4o : XCode :=
 (.seq (.seq (.reg m6o) (.cond (.t 24) .skip (.exit 2))) (.seq (.block 3 (.reg m6p)) (.reg m6q)))
def m6r : List XO := [O3 41 10]
def m6i : List XO := [O1 8 (.mv (.c (.bool true)))]
def m6j : List XO := [O3 16 9,O1 17 (.bin .add .no (.t 16) (c9 1)),O3 9 17]
def g4n : XCode :=
 (.seq (.seq (.reg m6l) (.cond (.t 15) .skip (.exit 0))) (.seq (.block 1 (.seq (.reg m6m) (.seq (.seq (.reg m6n) (.block 2 (.loop g4o))) (.seq (.reg m6r) (.cond (.t 41) (.seq (.reg m6i) .ret) .skip))))) (.reg m6j)))
def m6k : List XO := [O1 8 (.mv (.c (.bool false)))]
def x_r04_Holds : XFunc := { np := 4, res := [.t 8], body :=
 (.seq (.reg m6g) (.seq (.seq (.reg m6h) (.block 0 (.loop g4n))) (.seq (.reg m6k) .ret))) }
def m3e : List XO := [O1 0 (.alloc [(.slice none 0 0), (.slice none 0 0), (.slice none 0 0), (.slice none 0 0), (.slice none 0 0)])]
def m3f : List XO := [O1 7 (.build [(.int .i64 0), (.int .i64 0), (.int .i64 0), (.bool false)] [(0, 1, (c9 1))]),O1 1 (.alloc [(.int .i64 0), (.int .i64 0), (.int .i64 0), (.bool false)]),O2 (.store 4 (.t 1) (.t 7))]
def m3g : List XO := [O1 8 (.build [(.int .i64 0), (.int .i64 0), (.int .i64 0), (.bool false)] [(0, 1, (c9 1)), (1, 1, (c9 1))]),O1 2 (.alloc [(.int .i64 0), (.int .i64 0), (.int .i64 0), (.bool false)]),O2 (.store 4 (.t 2) (.t 8))]
def m3h : List XO := [O1 9 (.build [(.int .i64 0), (.int .i64 0), (.int .i64 0), (.bool false)] [(0, 1, (c9 2)), (2, 1, (c9 2))]),O1 3 (.alloc [(.int .i64 0), (.int .i64 0), (.int .i64 0), (.bool false)]),O2 (.store 4 (.t 3) (.t 9))]
def m3i : List XO := [O6 10 4 3,O6 11 4 2,O6 12 4 1,O1 4 (.alloc [(.int .i64 0), (.int .i64 0), (.int .i64 0), (.bool false)]),O1 5 (.alloc [(.int .i64 0), (.int .i64 0), (.int .i64 0), (.bool false)]),O1 6 (.alloc [(.int .i64 0), (.int .i64 0), (.int .i64 0), (.bool false)]),O2 (.store 4 (.t 4) (.t 10)),O2 (.store 4 (.t 5) (.t 11)),O2 (.store 4 (.t 6) (.t 12))]
def m3j : List XO := [O5 13 3 4,O2 (.store 1 (.t 13) (.c (.bool true)))]
def m3k : List XO := [O5 14 3 5,O2 (.store 1 (.t 14) (.c (.bool true)))]
def m3l : List XO := [O5 15 3 6,O2 (.store 1 (.t 15) (.c (.bool true)))]
def m3m : List XO := [O1 16 (.bsl 1 [(.c (.string (ByteArray.mk #[99, 97, 108, 108]))), (.c (.string (ByteArray.mk #[100, 111, 111, 114])))]),O1 17 (.bsl 1 [(.c (.string (ByteArray.mk #[114, 117, 110]))), (.c (.string (ByteArray.mk #[108, 105, 103, 104, 116])))]),O1 18 (.build [(.string (ByteArray.mk #[])), (.int .i64 0)] [(0, 1, (.c (.string (ByteArray.mk #[110])))), (1, 1, (c9 2))]),O1 19 (.bsl 2 [.t 18]),O1 20 (.build [(.string (ByteArray.mk #[])), (.int .i64 0)] [(0, 1, (.c (.string (ByteArray.mk #[105, 100, 108, 101])))), (1, 1, (c9 2))]),O1 21 (.build [(.string (ByteArray.mk #[])), (.int .i64 0)] [(0, 1, (.c (.string (ByteArray.mk #[103, 111])))), (1, 1, (c9 1))]),O1 22 (.bsl 2 [.t 20, .t 21]),O6 23 4 1,O6 24 4 5,O1 25 (.bsl 4 [.t 23, .t 24]),O1 26 (.bsl 1 [.t 25]),O1 27 (.build [(.int .i64 0), (.int .i64 0)] [(0, 1, (c9 1))]),O1 28 (.bsl 2 [.t 27]),O1 29 (.build [(.int .i64 0), (.int .i64 0), (.slice none 0 0), (.slice none 0 0)] [(0, 1, (c9 0)), (1, 1, (c9 1)), (2, 1, (.t 26)), (3, 1, (.t 28))]),O6 30 4 2,O1 31 (.bsl 4 [.t 30]),O1 32 (.bsl 1 [.t 31]),O1 33 (.build [(.int .i64 0), (.int .i64 0), (.slice none 0 0), (.slice none 0 0)] [(0, 1, (c9 1)), (1, 1, (c9 0)), (2, 1, (.t 32))]),O6 34 4 4,O1 35 (.bsl 4 [.t 34]),O1 36 (.bsl 1 [.t 35]),O1 37 (.build [(.int .i64 0), (.int .i64 0)] [(0, 1, (c9 2))]),O1 38 (.bsl 2 [.t 37]),O1 39 (.build [(.int .i64 0), (.int .i64 0), (.slice none 0 0), (.slice none 0 0)] [(0, 1, (c9 1)), (1, 1, (c9 1)), (2, 1, (.t 36)), (3, 1, (.t 38))]),O6 40 4 3,O6 41 4 6,O1 42 (.bsl 4 [.t 40, .t 41]),O1 43 (.bsl 1 [.t 42]),O1 44 (.build [(.int .i64 0), (.int .i64 0), (.slice none 0 0), (.slice none 0 0)] [(0, 1, (c9 1)), (1, 1, (c9 0)), (2, 1, (.t 43))]),O1 45 (.bsl 4 [.t 29, .t 33, .t 39, .t 44]),O1 46 (.build [(.slice none 0 0), (.slice none 0 0), (.slice none 0 0), (.slice none 0 0), (.slice none 0 0)] [(0, 1, (.t 16)), (1, 1, (.t 17)), (2, 1, (.t 19)), (3, 1, (.t 22)), (4, 1, (.t 45))]),O2 (.store 5 (.t 0) (.t 46))]
def x_l04_Example : XFunc := { np := 0, res := [.cell 0 true 5], body :=
 (.seq (.reg m3e) (.seq (.reg m3f) (.seq (.reg m3g) (.seq (.reg m3h) (.seq (.regW m3i [(2, 6), (1, 6), (2, 7)]) (.seq (.reg m3j) (.seq (.reg m3k) (.seq (.reg m3l) (.seq (.reg m3m) .ret))))))))) }
def m2o : List XO := [O1 2 (.boxF (.t 0)),O1 4 (.mv (c9 0))]
def m2p : List XO := [O1 8 (.load true 5 (.tf 2)),O1 9 (.call "newel/control.Check" [.t 8]),O3 5 9]
def m2r : List XO := [O3 10 5,O1 11 (.bin .neq .no (.t 10) (c9 0))]
def m2s : List XO := [O3 12 5,O3 4 12]
def m2t : List XO := [O3 13 1,O8 14 13,O1 15 (.mv (c9 0))]
def m2u : List XO := [O1 16 (.bin .lss .no (.t 15) (.t 14))]
def m2v : List XO := [O7 17 1 13 15,O4 18 1 17,O3 7 18]
def m2w : List XO := [O1 19 (.load true 5 (.tf 2)),O3 20 7,O1 21 (.call "newel/situation.Asked" [.t 19, .t 20]),O1 22 (.un .not (.t 21))]
def m2x : List XO := [O1 4 (.mv (c9 42))]
def m2y : List XO := [O1 23 (.bin .add .no (.t 15) (c9 1)),O3 15 23]
def g4b : XCode :=
 (.seq (.reg m2u) (.seq (.cond (.t 16) .skip (.exit 0)) (.seq (.block 1 (.seq (.reg m2v) (.seq (.reg m2w) (.cond (.t 22) (.seq (.reg m2x) .ret) .skip)))) (.reg m2y))))
def m2q : List XO := [O1 4 (.mv (c9 0))]
def x_control_check : XFunc := { np := 2, res := [.t 4], body :=
 (.seq (.reg m2o) (.seq (.seq (.reg m2p) (.seq (.reg m2r) (.cond (.t 11) (.seq (.reg m2s) .ret) .skip))) (.seq (.seq (.reg m2t) (.block 0 (.loop g4b))) (.seq (.reg m2q) .ret)))) }
def m2z : List XO := [O1 1 (.boxF (.t 0)),O1 2 (.alloc [(.slice none 0 0), (.slice none 0 0), (.slice none 0 0), (.slice none 0 0), (.slice none 0 0)])]
def m20 : List XO := [O1 3 (.load true 5 (.tf 1)),O1 4 (.build [(.slice none 0 0), (.slice none 0 0), (.slice none 0 0), (.slice none 0 0), (.slice none 0 0)] [(0, 5, (.t 3))]),O1 5 (.build [(.slice none 0 0), (.slice none 0 0), (.slice none 0 0), (.slice none 0 0), (.slice none 0 0)] [(0, 5, (.t 4))]),O2 (.store 5 (.t 2) (.t 5))]
def x_control_of : XFunc := { np := 1, res := [.cell 2 true 5], body :=
 (.seq (.reg m2z) (.seq (.reg m20) .ret)) }
def l77 : List XO := [O1 3 (.boxF (.t 0)),O1 6 (.mv (.c (.pointer none)))]
def l78 : List XO := [O1 16 (.build [(.int .i64 0), (.int .i64 0), (.int .i64 0)] []),O1 17 (.bsl 3 [.t 16]),O1 18 (.bsl 1 [(.c (.int .i64 (-1)))]),O1 19 (.bsl 1 [(c9 0)]),O1 20 (.build [(.slice none 0 0), (.slice none 0 0), (.slice none 0 0), (.slice none 0 0)] [(0, 1, (.t 17)), (1, 1, (.t 18)), (2, 1, (.t 19))]),O1 21 (.box (.t 20)),O3 7 21]
def l8j : List XO := [O1 22 (.callw "#mk" []),O1 23 (.build [(.int .i64 0), (.int .i64 0), (.int .i64 0)] []),O2 (.callw "#pi" [.t 22, .t 23, (c9 0), (c9 3)]),O3 24 22,O3 8 24]
def l8n : List XO := [O1 9 (.mv (c9 0))]
def l8o : List XO := [O3 25 9,O3 26 7,O1 27 (.nilck (.t 26)),O5 28 0 27,O4 29 1 28,O8 30 29,O1 31 (.bin .lss .no (.t 25) (.t 30))]
def l8p : List XO := [O3 34 7,O1 35 (.nilck (.t 34)),O5 36 0 35,O4 37 1 36,O3 38 9,O7 39 3 37 38,O6 40 3 39,O1 10 (.alloc [(.int .i64 0), (.int .i64 0), (.int .i64 0)]),O2 (.store 3 (.t 10) (.t 40))]
def l8q : List XO := [O1 41 (.fldA 0 (.tf 3)),O1 42 (.load true 5 (.tf 41)),O1 43 (.call "(newel/situation.Plant).All" [.t 42]),O1 44 (.mksl 1 [(.int .i64 0)] 8 (.t 43) (.t 43)),O3 11 44]
def l8r : List XO := [O3 45 11,O8 46 45,O1 47 (.mv (c9 0))]
def l8s : List XO := [O1 48 (.bin .lss .no (.t 47) (.t 46))]
def l8t : List XO := [O3 49 47,O3 12 49]
def s2b : List XO := [O3 50 11,O3 51 12,O7 52 1 50 51,O2 (.store 1 (.t 52) (.c (.int .i64 (-1))))]
def l8a : List XO := [O1 53 (.fldA 0 (.tf 3)),O1 54 (.load true 5 (.tf 53)),O3 55 1,O6 56 3 10,O3 57 12,O1 58 (.call "(newel/situation.Plant).Allowed" [.t 54, .t 55, .t 56, .t 57]),O1 59 (.un .not (.t 58))]
def l8b : List XO := [O1 60 (.fldA 0 (.tf 3)),O1 61 (.load true 5 (.tf 60)),O6 62 3 10,O3 63 2,O3 64 12,O1 65 (.callv (.t 63) [.t 64]),O1 66 (.call "(newel/situation.Plant).Step" [.t 61, .t 62, .t 65]),O1 13 (.alloc [(.int .i64 0), (.int .i64 0), (.int .i64 0)]),O2 (.store 3 (.t 13) (.t 66))]
def l8c : List XO := [O3 68 8,O6 69 3 13,O1 70 (.callw "#lj" [.t 68, .t 69, (c9 0), (c9 3)]),O3 67 70,O1 71 (.ext (.t 67) 0),O1 72 (.ext (.t 67) 1),O3 14 71,O3 15 72]
def l8d : List XO := [O3 73 15,O1 74 (.un .not (.t 73))]
def l8e : List XO := [O3 75 7,O1 76 (.nilck (.t 75)),O5 77 0 76,O4 78 1 77,O8 79 78,O3 14 79]
def l8f : List XO := [O3 80 8,O6 81 3 13,O3 82 14,O2 (.callw "#pi" [.t 80, .t 81, .t 82, (c9 3)])]
def l8g : List XO := [O3 83 7,O3 84 7,O3 85 7,O3 86 7,O1 87 (.nilck (.t 86)),O5 88 0 87,O4 89 1 88,O6 90 3 13,O1 91 (.bsl 3 [.t 90]),O1 92 (.app 3 24 (.t 89) (.t 91)),O3 93 7,O1 94 (.nilck (.t 93)),O5 95 1 94,O4 96 1 95,O3 97 9,O1 98 (.bsl 1 [.t 97]),O1 99 (.app 1 8 (.t 96) (.t 98)),O3 100 7,O1 101 (.nilck (.t 100)),O5 102 2 101,O4 103 1 102,O3 104 12,O1 105 (.bsl 1 [.t 104]),O1 106 (.app 1 8 (.t 103) (.t 105)),O1 107 (.nilck (.t 83)),O5 108 0 107,O2 (.store 1 (.t 108) (.t 92)),O1 109 (.nilck (.t 84)),O5 110 1 109,O2 (.store 1 (.t 110) (.t 99)),O1 111 (.nilck (.t 85)),O5 112 2 111,O2 (.store 1 (.t 112) (.t 106))]
def l8h : List XO := [O3 113 11,O3 114 12,O3 115 14,O7 116 1 113 114,O2 (.store 1 (.t 116) (.t 115))]
def l8i : List XO := [O1 117 (.bin .add .no (.t 47) (c9 1)),O3 47 117]
def g32 : XCode :=
 (.seq (.reg l8s) (.seq (.cond (.t 48) .skip (.exit 2)) (.seq (.block 3 (.seq (.reg l8t) (.seq (.reg s2b) (.seq (.seq (.reg l8a) (.cond (.t 59) (.exit 3) .skip)) (.seq (.reg l8b) (.seq (.reg l8c) (.seq (.seq (.reg l8d) (.cond (.t 74) (.seq (.reg l8e) (.seq (.reg l8f) (.reg l8g))) .skip)) (.reg l8h)))))))) (.reg l8i))))
def l8k : List XO := [O3 118 7,O3 119 7,O1 120 (.nilck (.t 119)),O5 121 3 120,O4 122 1 121,O3 123 11,O1 124 (.bsl 1 [.t 123]),O1 125 (.app 1 24 (.t 122) (.t 124)),O1 126 (.nilck (.t 118)),O5 127 3 126,O2 (.store 1 (.t 127) (.t 125))]
def l8l : List XO := [O3 32 9,O1 33 (.bin .add .no (.t 32) (c9 1)),O3 9 33]
def g33 : XCode :=
 (.seq (.seq (.reg l8o) (.cond (.t 31) .skip (.exit 0))) (.seq (.block 1 (.seq (.reg l8p) (.seq (.reg l8q) (.seq (.seq (.reg l8r) (.block 2 (.loop g32))) (.seq .ghost (.reg l8k)))))) (.reg l8l)))
def l8m : List XO := [O3 128 7,O3 6 128]
def x__control_plant__explore : XFunc := { np := 3, res := [.t 6], body :=
 (.seq (.reg l77) (.seq (.reg l78) (.seq (.reg l8j) (.seq (.seq (.reg l8n) (.block 0 (.loop g33))) (.seq (.reg l8m) .ret))))) }
def m21 : List XO := [O1 2 (.mv (c9 0))]
def m22 : List XO := [O3 3 0,O3 2 3]
def x_control_same : XFunc := { np := 1, res := [.t 2], body :=
 (.seq (.reg m21) (.seq (.reg m22) .ret)) }
def l74 : List XO := [O1 4 (.boxF (.t 0)),O1 6 (.boxF (.t 2)),O1 8 (.mv (.c (.slice none 0 0))),O1 9 (.mv (.c (.bool false)))]
def l75 : List XO := [O1 11 (.load true 5 (.tf 4)),O3 12 1,O3 13 3,O1 14 (.call "(newel/control.plant).explore" [.t 11, .t 12, .t 13]),O1 10 (.alloc [(.pointer none)]),O2 (.store 1 (.t 10) (.t 14))]
def l76 : List XO := [O4 15 1 10,O1 16 (.mkfn "(newel/control.plant).breach$1" [] [.t 4, .t 6, .t 10]),O1 17 (.call "(*newel/control.walk).first" [.t 15, .t 16]),O1 18 (.ext (.t 17) 0),O1 19 (.ext (.t 17) 1),O3 8 18,O3 9 19]
def x__control_plant__breach : XFunc := { np := 4, res := [.t 8, .t 9], body :=
 (.seq (.reg l74) (.seq (.reg l75) (.seq (.seq .ghost (.reg l76)) .ret))) }
def o6n : List XO := [O1 4 (.mv (c9 0))]
def o6o : List XO := [O3 5 0,O4 6 1 1,O1 7 (.bin .shl .no (c9 1) (.t 6)),O1 8 (.bin .andNot .no (.t 5) (.t 7)),O4 9 1 2,O4 10 1 1,O1 11 (.bin .shl .no (.t 9) (.t 10)),O1 12 (.bin .or .no (.t 8) (.t 11)),O3 4 12]
def x_control_StuckD1 : XFunc := { np := 3, res := [.t 4], body :=
 (.seq (.reg o6n) (.seq (.reg o6o) .ret)) }
def l9f : List XO := [O1 4 (.boxF (.t 0)),O1 6 (.boxF (.t 2)),O1 7 (.boxF (.t 3)),O1 8 (.mv (.c (.bool false)))]
def l9g : List XO := [O3 9 1,O1 10 (.mkfn "(newel/situation.Plant).Holds$1" [] [.t 4, .t 6, .t 7]),O1 11 (.call "slices.ContainsFunc[newel/api.Cond,newel/api.Term]" [.t 9, .t 10]),O3 8 11]
def x__situation_Plant__Holds : XFunc := { np := 4, res := [.t 8], body :=
 (.seq (.reg l9f) (.seq (.reg l9g) .ret)) }
def l7n : List XO := [O1 4 (.mv (.c (.slice none 0 0))),O1 5 (.mv (.c (.bool false)))]
def l7o : List XO := [O3 7 0,O1 8 (.nilck (.t 7)),O5 9 0 8,O4 10 1 9,O8 11 10,O1 12 (.mv (c9 0))]
def l7p : List XO := [O1 13 (.bin .lss .no (.t 12) (.t 11))]
def l7q : List XO := [O3 14 12,O3 6 14]
def l7r : List XO := [O3 15 1,O3 16 6,O1 17 (.callv (.t 15) [.t 16])]
def l7s : List XO := [O3 18 0,O3 19 6,O1 20 (.call "(*newel/control.walk).run" [.t 18, .t 19]),O3 4 20,O1 5 (.mv (.c (.bool true)))]
def l7t : List XO := [O1 21 (.bin .add .no (.t 12) (c9 1)),O3 12 21]
def g30 : XCode :=
 (.seq (.reg l7p) (.seq (.cond (.t 13) .skip (.exit 0)) (.seq (.block 1 (.seq (.reg l7q) (.seq (.reg l7r) (.cond (.t 17) (.seq (.reg l7s) .ret) .skip)))) (.reg l7t))))
def l7u : List XO := [O1 4 (.mv (.c (.slice none 0 0))),O1 5 (.mv (.c (.bool false)))]
def x___control_walk__first : XFunc := { np := 2, res := [.t 4, .t 5], body :=
 (.seq (.reg l7n) (.seq (.seq (.reg l7o) (.block 0 (.loop g30))) (.seq (.reg l7u) .ret))) }
def m8j : List XO := [O1 3 (.boxF (.t 0)),O1 6 (.mv (.c (.bool false)))]
def m8k : List XO := [O3 11 1,O8 12 11,O1 13 (.bin .gtr .no (.t 12) (c9 6))]
def m8v : List XO := [O1 6 (.mv (.c (.bool false)))]
def m81 : List XO := [O1 7 (.mv (c9 0))]
def m82 : List XO := [O3 14 7,O3 15 1,O8 16 15,O1 17 (.bin .lss .no (.t 14) (.t 16))]
def m83 : List XO := [O3 20 1,O3 21 7,O7 22 1 20 21,O4 23 1 22,O8 24 23,O1 25 (.bin .gtr .no (.t 24) (c9 6))]
def m84 : List XO := [O1 6 (.mv (.c (.bool false)))]
def m85 : List XO := [O1 8 (.mv (c9 0))]
def m86 : List XO := [O3 26 8,O3 27 1,O3 28 7,O7 29 1 27 28,O4 30 1 29,O8 31 30,O1 32 (.bin .lss .no (.t 26) (.t 31))]
def m87 : List XO := [O3 35 1,O3 36 7,O7 37 1 35 36,O4 38 1 37,O3 39 8,O7 40 4 38 39,O6 41 4 40,O1 9 (.alloc [(.int .i64 0), (.int .i64 0), (.int .i64 0), (.bool false)]),O2 (.store 4 (.t 9) (.t 41))]
def m8l : List XO := [O1 10 (.mv (.c (.bool false)))]
def m8m : List XO := [O5 42 0 9,O4 43 1 42]
def m8n : List XO := [O1 45 (.bin .eql .no (.t 43) (c9 1)),O3 44 45]
def m8o : List XO := [O5 46 1 9,O4 47 1 46,O1 48 (.fldA 0 (.tf 3)),O1 49 (.load false 1 (.tf 48)),O8 50 49,O1 51 (.bin .sub .no (.t 50) (c9 1)),O1 52 (.call "newel/newelref04.from" [.t 47, (c9 0), .t 51]),O3 53 52,O9 54 53 true (.fldA 2 (.t 9)),O9 55 53 true (.load false 1 (.t 54)),O9 56 53 true (.bin .eql .no (.t 55) (c9 0)),O1 57 (.pick (.t 53) (.t 56) (.c (.bool false))),O3 10 57]
def m8p : List XO := [O1 59 (.bin .eql .no (.t 43) (c9 2)),O3 58 59]
def m8q : List XO := [O5 60 1 9,O4 61 1 60,O1 62 (.fldA 2 (.tf 3)),O1 63 (.load false 1 (.tf 62)),O8 64 63,O1 65 (.bin .sub .no (.t 64) (c9 1)),O1 66 (.call "newel/newelref04.from" [.t 61, (c9 0), .t 65]),O3 67 66,O9 68 67 true (.fldA 2 (.t 9)),O9 69 67 true (.load false 1 (.t 68)),O9 70 67 true (.fldA 2 (.tf 3)),O9 71 67 true (.load false 1 (.tf 70)),O9 72 67 true (.fldA 1 (.t 9)),O9 73 67 true (.load false 1 (.t 72)),O9 74 67 true (.ixA 2 (.t 71) (.t 73)),O9 75 67 true (.fldA 1 (.t 74)),O9 76 67 true (.load false 1 (.t 75)),O9 77 67 true (.call "newel/newelref04.from" [.t 69, (c9 0), .t 76]),O1 78 (.pick (.t 67) (.t 77) (.c (.bool false))),O3 10 78]
def m8r : List XO := [O1 80 (.bin .eql .no (.t 43) (c9 3)),O3 79 80]
def m8s : List XO := [O3 81 2,O3 82 81,O9 83 82 true (.fldA 1 (.t 9)),O9 84 82 true (.load false 1 (.t 83)),O9 85 82 true (.fldA 3 (.tf 3)),O9 86 82 true (.load false 1 (.tf 85)),O9 87 82 true (.len false (.t 86)),O9 88 82 true (.bin .sub .no (.t 87) (c9 1)),O9 89 82 true (.call "newel/newelref04.from" [.t 84, (c9 0), .t 88]),O1 90 (.pick (.t 82) (.t 89) (.c (.bool false))),O3 91 90,O9 92 91 true (.fldA 2 (.t 9)),O9 93 91 true (.load false 1 (.t 92)),O9 94 91 true (.bin .eql .no (.t 93) (c9 0)),O1 95 (.pick (.t 91) (.t 94) (.c (.bool false))),O3 10 95]
def m8t : List XO := [O1 97 (.bin .eql .no (.t 43) (c9 4)),O3 96 97]
def m8u : List XO := [O5 98 1 9,O4 99 1 98,O1 100 (.fldA 1 (.tf 3)),O1 101 (.load false 1 (.tf 100)),O8 102 101,O1 103 (.bin .sub .no (.t 102) (c9 1)),O1 104 (.call "newel/newelref04.from" [.t 99, (c9 0), .t 103]),O3 105 104,O9 106 105 true (.fldA 2 (.t 9)),O9 107 105 true (.load false 1 (.t 106)),O9 108 105 true (.bin .eql .no (.t 107) (c9 0)),O1 109 (.pick (.t 105) (.t 108) (.c (.bool false))),O3 10 109]
def m8w : List XO := [O3 110 10,O1 111 (.un .not (.t 110))]
def m8x : List XO := [O1 6 (.mv (.c (.bool false)))]
def m8y : List XO := [O3 33 8,O1 34 (.bin .add .no (.t 33) (c9 1)),O3 8 34]
def g4y : XCode :=
 (.seq (.seq (.reg m86) (.cond (.t 32) .skip (.exit 2))) (.seq (.block 3 (.seq (.reg m87) (.seq (.reg m8l) (.seq (.seq (.reg m8m) (.block 4 (.seq (.reg m8n) (.cond (.t 44) (.reg m8o) (.seq (.reg m8p) (.cond (.t 58) (.reg m8q) (.seq (.reg m8r) (.cond (.t 79) (.reg m8s) (.seq (.reg m8t) (.cond (.t 96) (.reg m8u) .skip)))))))))) (.seq (.reg m8w) (.cond (.t 111) (.seq (.reg m8x) .ret) .skip)))))) (.reg m8y)))
def m8z : List XO := [O3 18 7,O1 19 (.bin .add .no (.t 18) (c9 1)),O3 7 19]
def g4z : XCode :=
 (.seq (.seq (.reg m82) (.cond (.t 17) .skip (.exit 0))) (.seq (.block 1 (.seq (.seq (.reg m83) (.cond (.t 25) (.seq (.reg m84) .ret) .skip)) (.seq (.reg m85) (.block 2 (.loop g4y))))) (.reg m8z)))
def m80 : List XO := [O1 6 (.mv (.c (.bool true)))]
def x_r04_condition : XFunc := { np := 3, res := [.t 6], body :=
 (.seq (.reg m8j) (.seq (.seq (.reg m8k) (.cond (.t 13) (.seq (.reg m8v) .ret) .skip)) (.seq (.seq (.reg m81) (.block 0 (.loop g4z))) (.seq (.reg m80) .ret)))) }
def m0l : List XO := [O1 1 (.boxF (.t 0)),O1 2 (.mv (c9 0))]
def m0m : List XO := [O1 3 (.load true 5 (.tf 1)),O1 4 (.call "newel/situation.Check" [.t 3]),O3 2 4]
def x_control_Check : XFunc := { np := 1, res := [.t 2], body :=
 (.seq (.reg m0l) (.seq (.reg m0m) .ret)) }
def o9r : List XO := [O1 2 (.boxF (.t 0)),O1 3 (.boxF (.t 1)),O1 4 (.mv (.c (.bool false)))]
def o9s : List XO := [O1 8 (.fldA 1 (.tf 3)),O1 9 (.load true 2 (.tf 8)),O1 10 (.mv (c9 0))]
def o9u : List XO := [O1 11 (.bin .lss .no (.t 10) (c9 2))]
def o9v : List XO := [O3 12 10,O1 13 (.ixV 1 2 false (.t 9) (.t 10)),O3 5 12,O3 6 13]
def o9w : List XO := [O1 7 (.mv (c9 0))]
def o9x : List XO := [O3 14 5,O1 15 (.fldA 0 (.tf 2)),O1 16 (.fldA 2 (.tf 15)),O1 17 (.load false 1 (.tf 16)),O8 18 17,O1 19 (.bin .lss .no (.t 14) (.t 18))]
def o9y : List XO := [O1 20 (.fldA 0 (.tf 2)),O1 21 (.fldA 2 (.tf 20)),O1 22 (.load false 1 (.tf 21)),O3 23 5,O7 24 2 22 23,O5 25 1 24,O4 26 1 25,O3 7 26]
def o9z : List XO := [O3 27 6,O3 28 7,O1 29 (.call "newel/situation.within" [.t 27, (c9 0), .t 28]),O1 30 (.un .not (.t 29))]
def o90 : List XO := [O1 4 (.mv (.c (.bool false)))]
def o91 : List XO := [O1 31 (.bin .add .no (.t 10) (c9 1)),O3 10 31]
def o8u : XCode :=
 (.seq (.reg o9u) (.seq (.cond (.t 11) .skip (.exit 0)) (.seq (.block 1 (.seq (.reg o9v) (.seq (.reg o9w) (.seq (.seq (.reg o9x) (.cond (.t 19) (.reg o9y) .skip)) (.seq (.reg o9z) (.cond (.t 30) (.seq (.reg o90) .ret) .skip)))))) (.reg o91))))
def o9t : List XO := [O1 32 (.fldA 0 (.tf 3)),O1 33 (.load false 1 (.tf 32)),O1 34 (.fldA 0 (.tf 2)),O1 35 (.fldA 3 (.tf 34)),O1 36 (.load false 1 (.tf 35)),O8 37 36,O1 38 (.bin .sub .no (.t 37) (c9 1)),O1 39 (.call "newel/situation.within" [.t 33, (c9 0), .t 38]),O3 4 39]
def x__situation_Plant__Place : XFunc := { np := 2, res := [.t 4], body :=
 (.seq (.reg o9r) (.seq (.seq (.reg o9s) (.block 0 (.loop o8u))) (.seq (.reg o9t) .ret))) }
def p4b : List XO := [O1 2 (.boxF (.t 0)),O1 4 (.mv (.c (.bool false)))]
def p4c : List XO := [O3 5 1,O1 6 (.load true 5 (.tf 2)),O1 7 (.call "(newel/situation.Plant).All" [.t 6]),O1 8 (.bin .sub .no (.t 7) (c9 1)),O1 9 (.call "newel/situation.within" [.t 5, (c9 0), .t 8]),O3 4 9]
def x__situation_Plant__Input : XFunc := { np := 2, res := [.t 4], body :=
 (.seq (.reg p4b) (.seq (.reg p4c) .ret)) }
def l9h : List XO := [O1 3 (.boxF (.t 0)),O1 4 (.box (.t 1)),O1 6 (.alloc [(.int .i64 0), (.int .i64 0), (.int .i64 0)])]
def l9i : List XO := [O1 11 (.fldA 0 (.tf 3)),O1 12 (.fldA 4 (.tf 11)),O1 13 (.load false 1 (.tf 12)),O8 14 13,O1 15 (.mv (c9 0))]
def l9m : List XO := [O1 16 (.bin .lss .no (.t 15) (.t 14))]
def l9n : List XO := [O7 17 4 13 15,O6 18 4 17,O1 8 (.alloc [(.int .i64 0), (.int .i64 0), (.slice none 0 0), (.slice none 0 0)]),O2 (.store 4 (.t 8) (.t 18))]
def l9o : List XO := [O5 19 0 8,O4 20 1 19,O1 21 (.bin .neq .no (.t 20) (.c (.int .i64 (-1)))),O3 22 21,O9 23 22 true (.fldA 0 (.t 8)),O9 24 22 true (.load false 1 (.t 23)),O9 25 22 true (.fldA 0 (.t 4)),O9 26 22 true (.load false 1 (.t 25)),O9 27 22 true (.bin .neq .no (.t 24) (.t 26)),O1 28 (.pick (.t 22) (.t 27) (.c (.bool false))),O3 29 28,O9 30 29 false (.load true 5 (.tf 3)),O9 31 29 false (.fldA 2 (.t 8)),O9 32 29 false (.load false 1 (.t 31)),O9 33 29 false (.load true 3 (.t 4)),O9 34 29 false (.mv (.t 2)),O9 35 29 false (.call "(newel/situation.Plant).Holds" [.t 30, .t 32, .t 33, .t 34]),O9 36 29 false (.un .not (.t 35)),O1 37 (.pick (.t 29) (.c (.bool true)) (.t 36))]
def l9p : List XO := [O5 38 3 8,O4 39 1 38,O8 40 39,O1 41 (.mv (c9 0))]
def l9q : List XO := [O1 42 (.bin .lss .no (.t 41) (.t 40))]
def l9r : List XO := [O7 43 2 39 41,O6 44 2 43,O1 10 (.alloc [(.int .i64 0), (.int .i64 0)]),O2 (.store 2 (.t 10) (.t 44))]
def l9s : List XO := [O1 45 (.load true 5 (.tf 3)),O6 46 2 10,O1 47 (.callw "(newel/situation.Plant).set" [.t 45, .t 46, .t 4])]
def l9t : List XO := [O1 48 (.bin .add .no (.t 41) (c9 1)),O3 41 48]
def g36 : XCode :=
 (.seq (.reg l9q) (.seq (.cond (.t 42) .skip (.exit 2)) (.seq (.block 3 (.seq (.reg l9r) (.reg l9s))) (.reg l9t))))
def l9j : List XO := [O5 49 1 8,O4 50 1 49,O5 51 0 4,O2 (.store 1 (.t 51) (.t 50))]
def l9k : List XO := [O1 52 (.bin .add .no (.t 15) (c9 1)),O3 15 52]
def g37 : XCode :=
 (.seq (.reg l9m) (.seq (.cond (.t 16) .skip (.exit 0)) (.seq (.block 1 (.seq (.reg l9n) (.seq (.seq (.reg l9o) (.cond (.t 37) (.exit 1) .skip)) (.seq (.seq (.reg l9p) (.block 2 (.loop g36))) (.seq (.reg l9j) (.exit 0)))))) (.reg l9k))))
def l9l : List XO := [O6 53 3 4,O2 (.store 3 (.t 6) (.t 53))]
def x__situation_Plant__Step : XFunc := { np := 3, res := [.cell 6 true 3], body :=
 (.seq (.reg l9h) (.seq (.seq (.reg l9i) (.block 0 (.loop g37))) (.seq (.reg l9l) .ret))) }
def m59 : List XO := [O1 6 (.mv (c9 0))]
def m6a : List XO := [O3 8 1,O1 9 (.bin .lss .no (.t 8) (c9 0))]
def m6b : List XO := [O3 10 0,O3 6 10]
def m6c : List XO := [O3 11 1,O1 12 (.cvtI .u64 (.t 11)),O1 13 (.bin .shl .no (c9 1) (.t 12)),O3 7 13]
def m6d : List XO := [O3 14 2,O1 15 (.bin .eql .no (.t 14) (c9 1))]
def m6e : List XO := [O3 16 0,O3 17 7,O1 18 (.bin .or .no (.t 16) (.t 17)),O3 6 18]
def m6f : List XO := [O3 19 0,O3 20 7,O1 21 (.bin .andNot .no (.t 19) (.t 20)),O3 6 21]
def x_r04_Heard : XFunc := { np := 3, res := [.t 6], body :=
 (.seq (.reg m59) (.seq (.seq (.reg m6a) (.cond (.t 9) (.seq (.reg m6b) .ret) .skip)) (.seq (.reg m6c) (.seq (.seq (.reg m6d) (.cond (.t 15) (.seq (.reg m6e) .ret) .skip)) (.seq (.reg m6f) .ret))))) }
def m9n : List XO := [O1 6 (.mv (.c (.bool false)))]
def m9o : List XO := [O3 7 0,O3 8 1,O1 9 (.bin .geq .no (.t 7) (.t 8)),O3 10 9,O9 11 10 true (.mv (.t 0)),O9 12 10 true (.mv (.t 2)),O9 13 10 true (.bin .leq .no (.t 11) (.t 12)),O1 14 (.pick (.t 10) (.t 13) (.c (.bool false))),O3 6 14]
def x_r04_from : XFunc := { np := 3, res := [.t 6], body :=
 (.seq (.reg m9n) (.seq (.reg m9o) .ret)) }
def m98 : List XO := [O1 1 (.boxF (.t 0)),O1 2 (.mv (.c (.slice none 0 0)))]
def m99 : List XO := [O1 6 (.bsl 1 []),O1 7 (.fldA 0 (.tf 1)),O1 8 (.load false 1 (.tf 7)),O1 9 (.app 1 16 (.t 6) (.t 8)),O1 10 (.fldA 1 (.tf 1)),O1 11 (.load false 1 (.tf 10)),O1 12 (.app 1 16 (.t 9) (.t 11)),O3 3 12]
def o0c : List XO := [O1 4 (.mv (c9 0))]
def o0d : List XO := [O3 13 4,O1 14 (.fldA 2 (.tf 1)),O1 15 (.load false 1 (.tf 14)),O8 16 15,O1 17 (.bin .lss .no (.t 13) (.t 16))]
def o0e : List XO := [O3 20 3,O1 21 (.fldA 2 (.tf 1)),O1 22 (.load false 1 (.tf 21)),O3 23 4,O7 24 2 22 23,O5 25 0 24,O4 26 1 25,O1 27 (.bsl 1 [.t 26]),O1 28 (.app 1 16 (.t 20) (.t 27)),O3 3 28]
def o0f : List XO := [O3 18 4,O1 19 (.bin .add .no (.t 18) (c9 1)),O3 4 19]
def g44 : XCode :=
 (.seq (.seq (.reg o0d) (.cond (.t 17) .skip (.exit 0))) (.seq (.block 1 (.reg o0e)) (.reg o0f)))
def o0g : List XO := [O1 5 (.mv (c9 0))]
def o0h : List XO := [O3 29 5,O1 30 (.fldA 3 (.tf 1)),O1 31 (.load false 1 (.tf 30)),O8 32 31,O1 33 (.bin .lss .no (.t 29) (.t 32))]
def o0i : List XO := [O3 36 3,O1 37 (.fldA 3 (.tf 1)),O1 38 (.load false 1 (.tf 37)),O3 39 5,O7 40 2 38 39,O5 41 0 40,O4 42 1 41,O1 43 (.bsl 1 [.t 42]),O1 44 (.app 1 16 (.t 36) (.t 43)),O3 3 44]
def o0a : List XO := [O3 34 5,O1 35 (.bin .add .no (.t 34) (c9 1)),O3 5 35]
def g43 : XCode :=
 (.seq (.seq (.reg o0h) (.cond (.t 33) .skip (.exit 2))) (.seq (.block 3 (.reg o0i)) (.reg o0a)))
def o0b : List XO := [O3 45 3,O3 2 45]
def x_r04_names : XFunc := { np := 1, res := [.t 2], body :=
 (.seq (.reg m98) (.seq (.reg m99) (.seq (.seq (.reg o0c) (.block 0 (.loop g44))) (.seq (.seq (.reg o0g) (.block 2 (.loop g43))) (.seq (.reg o0b) .ret))))) }
def m75 : List XO := [O1 2 (.mv (.c (.bool false)))]
def m76 : List XO := [O1 3 (.mv (c9 0))]
def m8a : List XO := [O3 5 3,O1 6 (.load false 1 (.g 0 b6h)),O8 7 6,O1 8 (.bin .lss .no (.t 5) (.t 7))]
def m8b : List XO := [O3 11 0,O1 12 (.load false 1 (.g 0 b6h)),O3 13 3,O7 14 1 12 13,O4 15 1 14,O1 16 (.bin .eql .no (.t 11) (.t 15))]
def m8c : List XO := [O1 2 (.mv (.c (.bool false)))]
def m8d : List XO := [O3 9 3,O1 10 (.bin .add .no (.t 9) (c9 1)),O3 3 10]
def g4x : XCode :=
 (.seq (.seq (.reg m8a) (.cond (.t 8) .skip (.exit 0))) (.seq (.block 1 (.seq (.reg m8b) (.cond (.t 16) (.seq (.reg m8c) .ret) .skip))) (.reg m8d)))
def m8e : List XO := [O1 4 (.mv (c9 0))]
def m8f : List XO := [O3 17 4,O3 18 0,O1 19 (.len true (.t 18)),O1 20 (.bin .lss .no (.t 17) (.t 19))]
def m8g : List XO := [O3 23 0,O3 24 4,O1 25 (.ixS (.t 23) (.t 24)),O1 26 (.bin .lss .no (.t 25) (.c (.int .u8 97))),O3 27 26,O9 28 27 false (.mv (.t 0)),O9 29 27 false (.mv (.t 4)),O9 30 27 false (.ixS (.t 28) (.t 29)),O9 31 27 false (.bin .gtr .no (.t 30) (.c (.int .u8 122))),O1 32 (.pick (.t 27) (.c (.bool true)) (.t 31))]
def m77 : List XO := [O1 2 (.mv (.c (.bool false)))]
def m78 : List XO := [O3 21 4,O1 22 (.bin .add .no (.t 21) (c9 1)),O3 4 22]
def g4w : XCode :=
 (.seq (.seq (.reg m8f) (.cond (.t 20) .skip (.exit 2))) (.seq (.block 3 (.seq (.reg m8g) (.cond (.t 32) (.seq (.reg m77) .ret) .skip))) (.reg m78)))
def m79 : List XO := [O3 33 0,O1 34 (.len true (.t 33)),O1 35 (.bin .gtr .no (.t 34) (c9 0)),O3 2 35]
def x_r04_Word : XFunc := { np := 1, res := [.t 2], body :=
 (.seq (.reg m75) (.seq (.seq (.reg m76) (.block 0 (.loop g4x))) (.seq (.seq (.reg m8e) (.block 2 (.loop g4w))) (.seq (.reg m79) .ret)))) }
def o4j : List XO := [O1 4 (.mv (c9 0))]
def o4k : List XO := [O3 6 0,O8 7 6,O1 8 (.mv (c9 0))]
def o4l : List XO := [O1 9 (.bin .lss .no (.t 8) (.t 7))]
def o4m : List XO := [O3 10 8,O3 5 10]
def o4n : List XO := [O3 11 1,O3 12 0,O3 13 5,O7 14 1 12 13,O4 15 1 14,O1 16 (.callv (.t 11) [.t 15])]
def o4o : List XO := [O3 17 5,O3 4 17]
def o4p : List XO := [O1 18 (.bin .add .no (.t 8) (c9 1)),O3 8 18]
def g5d : XCode :=
 (.seq (.reg o4l) (.seq (.cond (.t 9) .skip (.exit 0)) (.seq (.block 1 (.seq (.reg o4m) (.seq (.reg o4n) (.cond (.t 16) (.seq (.reg o4o) .ret) .skip)))) (.reg o4p))))
def o4q : List XO := [O1 4 (.mv (.c (.int .i64 (-1))))]
def x_slices_IndexFunc___int_int_ : XFunc := { np := 2, res := [.t 4], body :=
 (.seq (.reg o4j) (.seq (.seq (.reg o4k) (.block 0 (.loop g5d))) (.seq (.reg o4q) .ret))) }
def m0n : List XO := [O1 4 (.mv (.c (.bool false)))]
def m0o : List XO := [O4 5 1 1,O3 6 0,O7 7 1 5 6,O4 8 1 7,O4 9 1 1,O4 10 1 2,O7 11 1 9 10,O4 12 1 11,O1 13 (.call "slices.Equal[[]int,int]" [.t 8, .t 12]),O3 4 13]
def x_control_ClassesD1 : XFunc := { np := 3, res := [.t 4], body :=
 (.seq (.reg m0n) (.seq (.reg m0o) .ret)) }
def o31 : List XO := [O1 4 (.mv (.c (.bool false)))]
def o32 : List XO := [O3 6 0,O8 7 6,O3 8 1,O8 9 8,O1 10 (.bin .neq .no (.t 7) (.t 9))]
def o34 : List XO := [O1 4 (.mv (.c (.bool false)))]
def o35 : List XO := [O3 11 0,O8 12 11,O1 13 (.mv (c9 0))]
def o36 : List XO := [O1 14 (.bin .lss .no (.t 13) (.t 12))]
def o37 : List XO := [O3 15 13,O3 5 15]
def o38 : List XO := [O3 16 0,O3 17 5,O7 18 1 16 17,O4 19 1 18,O3 20 1,O3 21 5,O7 22 1 20 21,O4 23 1 22,O1 24 (.bin .neq .no (.t 19) (.t 23))]
def o39 : List XO := [O1 4 (.mv (.c (.bool false)))]
def o4a : List XO := [O1 25 (.bin .add .no (.t 13) (c9 1)),O3 13 25]
def o4b : XCode :=
 (.seq (.reg o36) (.seq (.cond (.t 14) .skip (.exit 0)) (.seq (.block 1 (.seq (.reg o37) (.seq (.reg o38) (.cond (.t 24) (.seq (.reg o39) .ret) .skip)))) (.reg o4a))))
def o33 : List XO := [O1 4 (.mv (.c (.bool true)))]
def x_slices_Equal___int_int_ : XFunc := { np := 2, res := [.t 4], body :=
 (.seq (.reg o31) (.seq (.seq (.reg o32) (.cond (.t 10) (.seq (.reg o34) .ret) .skip)) (.seq (.seq (.reg o35) (.block 0 (.loop o4b))) (.seq (.reg o33) .ret)))) }
def m9w : List XO := [O1 4 (.boxF (.t 0)),O1 5 (.boxF (.t 1)),O1 7 (.boxF (.t 3)),O1 8 (.mv (.c (.bool false)))]
def m9x : List XO := [O1 9 (.mv (.c (.bool false)))]
def m90 : List XO := [O1 10 (.fldA 0 (.tf 7)),O1 11 (.load false 1 (.tf 10))]
def m91 : List XO := [O1 13 (.bin .eql .no (.t 11) (c9 1)),O3 12 13]
def m92 : List XO := [O3 14 2,O1 15 (.fldA 1 (.tf 7)),O1 16 (.load false 1 (.tf 15)),O1 17 (.cvtI .u64 (.t 16)),O1 18 (.bin .shr .no (.t 14) (.t 17)),O1 19 (.bin .and .no (.t 18) (c9 1)),O1 20 (.bin .eql .no (.t 19) (c9 1)),O3 9 20]
def m93 : List XO := [O1 22 (.bin .eql .no (.t 11) (c9 2)),O3 21 22]
def m94 : List XO := [O1 23 (.fldA 1 (.tf 7)),O1 24 (.load false 1 (.tf 23)),O1 25 (.fldA 1 (.tf 5)),O1 26 (.ixP 1 2 (.t 25) (.t 24)),O1 27 (.load false 1 (.tf 26)),O1 28 (.fldA 2 (.tf 7)),O1 29 (.load false 1 (.tf 28)),O1 30 (.bin .geq .no (.t 27) (.t 29)),O3 9 30]
def m95 : List XO := [O1 32 (.bin .eql .no (.t 11) (c9 3)),O3 31 32]
def m96 : List XO := [O1 33 (.fldA 0 (.tf 5)),O1 34 (.load false 1 (.tf 33)),O1 35 (.fldA 1 (.tf 7)),O1 36 (.load false 1 (.tf 35)),O1 37 (.bin .eql .no (.t 34) (.t 36)),O3 9 37]
def m97 : List XO := [O1 39 (.bin .eql .no (.t 11) (c9 4)),O3 38 39]
def m9y : List XO := [O1 40 (.fldA 3 (.tf 4)),O1 41 (.load false 1 (.tf 40)),O1 42 (.fldA 0 (.tf 5)),O1 43 (.load false 1 (.tf 42)),O7 44 2 41 43,O5 45 1 44,O4 46 1 45,O1 47 (.fldA 1 (.tf 7)),O1 48 (.load false 1 (.tf 47)),O1 49 (.cvtI .u64 (.t 48)),O1 50 (.bin .shr .no (.t 46) (.t 49)),O1 51 (.bin .and .no (.t 50) (c9 1)),O1 52 (.bin .eql .no (.t 51) (c9 1)),O3 9 52]
def m9z : List XO := [O3 53 9,O1 54 (.fldA 3 (.tf 7)),O1 55 (.load false 1 (.tf 54)),O1 56 (.bin .neq .bool (.t 53) (.t 55)),O3 8 56]
def x_r04_literal : XFunc := { np := 4, res := [.t 8], body :=
 (.seq (.reg m9w) (.seq (.reg m9x) (.seq (.seq (.reg m90) (.block 0 (.seq (.reg m91) (.cond (.t 12) (.reg m92) (.seq (.reg m93) (.cond (.t 21) (.reg m94) (.seq (.reg m95) (.cond (.t 31) (.reg m96) (.seq (.reg m97) (.cond (.t 38) (.reg m9y) .skip)))))))))) (.seq (.reg m9z) .ret)))) }
def l87 : List XO := [O1 1 (.boxF (.t 0)),O1 2 (.mv (c9 0))]
def l88 : List XO := [O1 3 (.fldA 0 (.tf 1)),O1 4 (.fldA 0 (.tf 3)),O1 5 (.load false 1 (.tf 4)),O8 6 5,O1 7 (.bin .shl .no (c9 1) (.t 6)),O3 2 7]
def x__situation_Plant__All : XFunc := { np := 1, res := [.t 2], body :=
 (.seq (.reg l87) (.seq (.reg l88) .ret)) }
def l89 : List XO := [O1 4 (.boxF (.t 0)),O1 6 (.boxF (.t 2)),O1 8 (.mv (.c (.bool false)))]
def l9a : List XO := [O3 9 1,O8 10 9,O1 11 (.bin .eql .no (.t 10) (c9 0)),O3 12 11,O9 13 12 false (.load true 5 (.tf 4)),O9 14 12 false (.mv (.t 1)),O9 15 12 false (.load true 3 (.tf 6)),O9 16 12 false (.mv (.t 3)),O9 17 12 false (.call "(newel/situation.Plant).Holds" [.t 13, .t 14, .t 15, .t 16]),O1 18 (.pick (.t 12) (.c (.bool true)) (.t 17)),O3 8 18]
def x__situation_Plant__Allowed : XFunc := { np := 4, res := [.t 8], body :=
 (.seq (.reg l89) (.seq (.reg l9a) .ret)) }
def o0l : List XO := [O1 2 (.boxF (.t 0)),O1 4 (.mv (.c (.bool false)))]
def o0m : List XO := [O3 7 1,O8 8 7,O1 9 (.bin .gtr .no (.t 8) (c9 6))]
def o0o : List XO := [O1 4 (.mv (.c (.bool false)))]
def o0p : List XO := [O3 10 1,O8 11 10,O1 12 (.mv (c9 0))]
def o0q : List XO := [O1 13 (.bin .lss .no (.t 12) (.t 11))]
def o0r : List XO := [O7 14 1 10 12,O4 15 1 14,O3 6 15]
def o0s : List XO := [O3 16 6,O8 17 16,O1 18 (.bin .gtr .no (.t 17) (c9 6)),O3 19 18,O9 20 19 false (.mv (.t 6)),O9 21 19 false (.mkfn "newel/situation.Asked$1" [] [.t 2]),O9 22 19 false (.call "slices.ContainsFunc[newel/api.Term,newel/api.Literal]" [.t 20, .t 21]),O1 23 (.pick (.t 19) (.c (.bool true)) (.t 22))]
def o0t : List XO := [O1 4 (.mv (.c (.bool false)))]
def o0u : List XO := [O1 24 (.bin .add .no (.t 12) (c9 1)),O3 12 24]
def g45 : XCode :=
 (.seq (.reg o0q) (.seq (.cond (.t 13) .skip (.exit 0)) (.seq (.block 1 (.seq (.reg o0r) (.seq (.reg o0s) (.cond (.t 23) (.seq (.reg o0t) .ret) .skip)))) (.reg o0u))))
def o0n : List XO := [O1 4 (.mv (.c (.bool true)))]
def x_situation_Asked : XFunc := { np := 2, res := [.t 4], body :=
 (.seq (.reg o0l) (.seq (.seq (.reg o0m) (.cond (.t 9) (.seq (.reg o0o) .ret) .skip)) (.seq (.seq (.reg o0p) (.block 0 (.loop g45))) (.seq (.reg o0n) .ret)))) }
def l72 : List XO := [O1 5 (.mv (.c (.bool false)))]
def l73 : List XO := [O5 6 0 1,O6 7 5 6,O4 8 1 2,O4 9 1 3,O1 10 (.nilck (.t 9)),O5 11 0 10,O4 12 1 11,O3 13 0,O7 14 3 12 13,O6 15 3 14,O1 16 (.call "(newel/situation.Plant).Holds" [.t 7, .t 8, .t 15, (c9 0)]),O3 5 16]
def x__control_plant__breachD1 : XFunc := { np := 4, res := [.t 5], body :=
 (.seq (.reg l72) (.seq (.reg l73) .ret)) }
def o3x : List XO := [O1 4 (.mv (.c (.bool false)))]
def o3y : List XO := [O3 5 0,O3 6 1,O1 7 (.call "slices.IndexFunc[newel/api.Cond,newel/api.Term]" [.t 5, .t 6]),O1 8 (.bin .geq .no (.t 7) (c9 0)),O3 4 8]
def x_slices_ContainsFunc_api_Cond_api_Term_ : XFunc := { np := 2, res := [.t 4], body :=
 (.seq (.reg o3x) (.seq (.reg o3y) .ret)) }
def l9d : List XO := [O1 5 (.mv (.c (.bool false)))]
def l9e : List XO := [O3 6 0,O1 7 (.mkfn "(newel/situation.Plant).Holds$1$1" [] [.t 1, .t 2, .t 3]),O1 8 (.call "slices.ContainsFunc[newel/api.Term,newel/api.Literal]" [.t 6, .t 7]),O1 9 (.un .not (.t 8)),O3 5 9]
def x__situation_Plant__HoldsD1 : XFunc := { np := 4, res := [.t 5], body :=
 (.seq (.reg l9d) (.seq (.reg l9e) .ret)) }
def o3z : List XO := [O1 4 (.mv (.c (.bool false)))]
def o30 : List XO := [O3 5 0,O3 6 1,O1 7 (.call "slices.IndexFunc[newel/api.Term,newel/api.Literal]" [.t 5, .t 6]),O1 8 (.bin .geq .no (.t 7) (c9 0)),O3 4 8]
def x_slices_ContainsFunc_api_Term_api_Literal_ : XFunc := { np := 2, res := [.t 4], body :=
 (.seq (.reg o3z) (.seq (.reg o30) .ret)) }
def l9b : List XO := [O1 4 (.boxF (.t 0)),O1 5 (.mv (.c (.bool false)))]
def l9c : List XO := [O6 6 5 1,O1 7 (.load true 4 (.tf 4)),O6 8 3 2,O4 9 1 3,O1 10 (.call "(newel/situation.Plant).literal" [.t 6, .t 7, .t 8, .t 9]),O1 11 (.un .not (.t 10)),O3 5 11]
def x__situation_Plant__HoldsD1D1 : XFunc := { np := 4, res := [.t 5], body :=
 (.seq (.reg l9b) (.seq (.reg l9c) .ret)) }
def l9u : List XO := [O1 4 (.boxF (.t 0)),O1 5 (.boxF (.t 1)),O1 6 (.boxF (.t 2)),O1 8 (.mv (.c (.bool false)))]
def l9v : List XO := [O1 9 (.mv (.c (.bool false)))]
def l9y : List XO := [O1 10 (.fldA 0 (.tf 5)),O1 11 (.load false 1 (.tf 10))]
def l9z : List XO := [O1 13 (.bin .eql .no (.t 11) (c9 1)),O3 12 13]
def l90 : List XO := [O3 14 3,O1 15 (.fldA 1 (.tf 5)),O1 16 (.load false 1 (.tf 15)),O1 17 (.bin .shr .no (.t 14) (.t 16)),O1 18 (.bin .and .no (.t 17) (c9 1)),O1 19 (.bin .eql .no (.t 18) (c9 1)),O3 9 19]
def l91 : List XO := [O1 21 (.bin .eql .no (.t 11) (c9 2)),O3 20 21]
def l92 : List XO := [O1 22 (.fldA 1 (.tf 5)),O1 23 (.load false 1 (.tf 22)),O1 24 (.fldA 1 (.tf 6)),O1 25 (.ixP 1 2 (.t 24) (.t 23)),O1 26 (.load false 1 (.tf 25)),O1 27 (.fldA 2 (.tf 5)),O1 28 (.load false 1 (.tf 27)),O1 29 (.bin .geq .no (.t 26) (.t 28)),O3 9 29]
def l93 : List XO := [O1 31 (.bin .eql .no (.t 11) (c9 3)),O3 30 31]
def l94 : List XO := [O1 32 (.fldA 0 (.tf 6)),O1 33 (.load false 1 (.tf 32)),O1 34 (.fldA 1 (.tf 5)),O1 35 (.load false 1 (.tf 34)),O1 36 (.bin .eql .no (.t 33) (.t 35)),O3 9 36]
def l95 : List XO := [O1 38 (.bin .eql .no (.t 11) (c9 4)),O3 37 38]
def l9w : List XO := [O1 39 (.fldA 0 (.tf 4)),O1 40 (.fldA 3 (.tf 39)),O1 41 (.load false 1 (.tf 40)),O1 42 (.fldA 0 (.tf 6)),O1 43 (.load false 1 (.tf 42)),O7 44 2 41 43,O5 45 1 44,O4 46 1 45,O1 47 (.fldA 1 (.tf 5)),O1 48 (.load false 1 (.tf 47)),O1 49 (.bin .shr .no (.t 46) (.t 48)),O1 50 (.bin .and .no (.t 49) (c9 1)),O1 51 (.bin .eql .no (.t 50) (c9 1)),O3 9 51]
def l9x : List XO := [O3 52 9,O1 53 (.fldA 3 (.tf 5)),O1 54 (.load false 1 (.tf 53)),O1 55 (.bin .neq .bool (.t 52) (.t 54)),O3 8 55]
def x__situation_Plant__literal : XFunc := { np := 4, res := [.t 8], body :=
 (.seq (.reg l9u) (.seq (.reg l9v) (.seq (.seq (.reg l9y) (.block 0 (.seq (.reg l9z) (.cond (.t 12) (.reg l90) (.seq (.reg l91) (.cond (.t 20) (.reg l92) (.seq (.reg l93) (.cond (.t 30) (.reg l94) (.seq (.reg l95) (.cond (.t 37) (.reg l9w) .skip)))))))))) (.seq (.reg l9x) .ret)))) }
def l7v : List XO := [O1 4 (.mv (.c (.slice none 0 0)))]
def l7w : List XO := [O1 5 (.mv (.c (.slice none 0 0)))]
def l7x : List XO := [O3 6 0,O1 7 (.nilck (.t 6)),O5 8 1 7,O4 9 1 8,O3 10 1,O7 11 1 9 10,O4 12 1 11,O1 13 (.bin .geq .no (.t 12) (c9 0))]
def l7y : List XO := [O3 21 5,O3 22 0,O1 23 (.nilck (.t 22)),O5 24 2 23,O4 25 1 24,O3 26 1,O7 27 1 25 26,O4 28 1 27,O1 29 (.bsl 1 [.t 28]),O1 30 (.app 1 8 (.t 21) (.t 29)),O3 5 30]
def l7z : List XO := [O3 14 0,O1 15 (.nilck (.t 14)),O5 16 1 15,O4 17 1 16,O3 18 1,O7 19 1 17 18,O4 20 1 19,O3 1 20]
def g31 : XCode :=
 (.seq (.seq (.reg l7x) (.cond (.t 13) .skip (.exit 0))) (.seq (.block 1 (.reg l7y)) (.reg l7z)))
def l70 : List XO := [O3 31 5,O1 32 (.callw "slices.Reverse[[]int,int]" [.t 31])]
def l71 : List XO := [O3 33 5,O3 4 33]
def x___control_walk__run : XFunc := { np := 2, res := [.t 4], body :=
 (.seq (.reg l7v) (.seq (.reg l7w) (.seq (.block 0 (.loop g31)) (.seq (.reg l70) (.seq (.reg l71) .ret))))) }
def o0x : List XO := [O1 1 (.boxF (.t 0)),O1 2 (.mv (c9 0))]
def o0y : List XO := [O1 13 (.fldA 0 (.tf 1)),O1 14 (.load false 1 (.tf 13)),O8 15 14,O1 16 (.bin .gtr .no (.t 15) (c9 4)),O3 17 16,O9 18 17 false (.fldA 1 (.tf 1)),O9 19 17 false (.load false 1 (.tf 18)),O9 20 17 false (.len false (.t 19)),O9 21 17 false (.bin .gtr .no (.t 20) (c9 6)),O1 22 (.pick (.t 17) (.c (.bool true)) (.t 21)),O3 23 22,O9 24 23 false (.fldA 2 (.tf 1)),O9 25 23 false (.load false 1 (.tf 24)),O9 26 23 false (.len false (.t 25)),O9 27 23 false (.bin .gtr .no (.t 26) (c9 2)),O1 28 (.pick (.t 23) (.c (.bool true)) (.t 27)),O3 29 28,O9 30 29 false (.fldA 3 (.tf 1)),O9 31 29 false (.load false 1 (.tf 30)),O9 32 29 false (.len false (.t 31)),O9 33 29 false (.call "newel/situation.within" [.t 32, (c9 1), (c9 12)]),O9 34 29 false (.un .not (.t 33)),O1 35 (.pick (.t 29) (.c (.bool true)) (.t 34)),O3 36 35,O9 37 36 false (.fldA 4 (.tf 1)),O9 38 36 false (.load false 1 (.tf 37)),O9 39 36 false (.len false (.t 38)),O9 40 36 false (.bin .gtr .no (.t 39) (c9 40)),O1 41 (.pick (.t 36) (.c (.bool true)) (.t 40)),O3 42 41,O9 43 42 false (.load true 5 (.tf 1)),O9 44 42 false (.call "newel/situation.named" [.t 43]),O9 45 42 false (.un .not (.t 44)),O1 46 (.pick (.t 42) (.c (.bool true)) (.t 45))]
def o08 : List XO := [O1 2 (.mv (c9 41))]
def o1i : List XO := [O1 47 (.fldA 2 (.tf 1)),O1 48 (.load false 1 (.tf 47)),O8 49 48,O1 50 (.mv (c9 0))]
def o1q : List XO := [O1 51 (.bin .lss .no (.t 50) (.t 49))]
def o1r : List XO := [O7 52 2 48 50,O6 53 2 52,O1 4 (.alloc [(.string (ByteArray.mk #[])), (.int .i64 0)]),O2 (.store 2 (.t 4) (.t 53))]
def o1s : List XO := [O5 54 1 4,O4 55 1 54,O1 56 (.call "newel/situation.within" [.t 55, (c9 1), (c9 7)]),O1 57 (.un .not (.t 56))]
def o1t : List XO := [O1 2 (.mv (c9 41))]
def o1u : List XO := [O1 58 (.bin .add .no (.t 50) (c9 1)),O3 50 58]
def g5a : XCode :=
 (.seq (.reg o1q) (.seq (.cond (.t 51) .skip (.exit 0)) (.seq (.block 1 (.seq (.reg o1r) (.seq (.reg o1s) (.cond (.t 57) (.seq (.reg o1t) .ret) .skip)))) (.reg o1u))))
def o0z : List XO := [O1 59 (.fldA 3 (.tf 1)),O1 60 (.load false 1 (.tf 59)),O8 61 60,O1 62 (.mv (c9 0))]
def o00 : List XO := [O1 63 (.bin .lss .no (.t 62) (.t 61))]
def o01 : List XO := [O7 64 2 60 62,O6 65 2 64,O1 6 (.alloc [(.string (ByteArray.mk #[])), (.int .i64 0)]),O2 (.store 2 (.t 6) (.t 65))]
def o02 : List XO := [O5 66 1 6,O4 67 1 66,O1 68 (.fldA 1 (.tf 1)),O1 69 (.load false 1 (.tf 68)),O8 70 69,O1 71 (.bin .shl .no (c9 1) (.t 70)),O1 72 (.bin .sub .no (.t 71) (c9 1)),O1 73 (.call "newel/situation.within" [.t 67, (c9 0), .t 72]),O1 74 (.un .not (.t 73))]
def o03 : List XO := [O1 2 (.mv (c9 41))]
def o04 : List XO := [O1 75 (.bin .add .no (.t 62) (c9 1)),O3 62 75]
def g46 : XCode :=
 (.seq (.reg o00) (.seq (.cond (.t 63) .skip (.exit 2)) (.seq (.block 3 (.seq (.reg o01) (.seq (.reg o02) (.cond (.t 74) (.seq (.reg o03) .ret) .skip)))) (.reg o04))))
def o05 : List XO := [O1 76 (.fldA 4 (.tf 1)),O1 77 (.load false 1 (.tf 76)),O8 78 77,O1 79 (.mv (c9 0))]
def o06 : List XO := [O1 80 (.bin .lss .no (.t 79) (.t 78))]
def o07 : List XO := [O7 81 4 77 79,O6 82 4 81,O1 8 (.alloc [(.int .i64 0), (.int .i64 0), (.slice none 0 0), (.slice none 0 0)]),O2 (.store 4 (.t 8) (.t 82))]
def o09 : List XO := [O5 83 0 8,O4 84 1 83,O1 85 (.fldA 3 (.tf 1)),O1 86 (.load false 1 (.tf 85)),O8 87 86,O1 88 (.bin .sub .no (.t 87) (c9 1)),O1 89 (.call "newel/situation.within" [.t 84, (.c (.int .i64 (-1))), .t 88]),O1 90 (.un .not (.t 89)),O3 91 90,O9 92 91 false (.fldA 1 (.t 8)),O9 93 91 false (.load false 1 (.t 92)),O9 94 91 false (.fldA 3 (.tf 1)),O9 95 91 false (.load false 1 (.tf 94)),O9 96 91 false (.len false (.t 95)),O9 97 91 false (.bin .sub .no (.t 96) (c9 1)),O9 98 91 false (.call "newel/situation.within" [.t 93, (c9 0), .t 97]),O9 99 91 false (.un .not (.t 98)),O1 100 (.pick (.t 91) (.c (.bool true)) (.t 99)),O3 101 100,O9 102 101 false (.load true 5 (.tf 1)),O9 103 101 false (.fldA 2 (.t 8)),O9 104 101 false (.load false 1 (.t 103)),O9 105 101 false (.call "newel/situation.Asked" [.t 102, .t 104]),O9 106 101 false (.un .not (.t 105)),O1 107 (.pick (.t 101) (.c (.bool true)) (.t 106)),O3 108 107,O9 109 108 false (.fldA 3 (.t 8)),O9 110 108 false (.load false 1 (.t 109)),O9 111 108 false (.len false (.t 110)),O9 112 108 false (.bin .gtr .no (.t 111) (c9 4)),O1 113 (.pick (.t 108) (.c (.bool true)) (.t 112))]
def o1a : List XO := [O1 2 (.mv (c9 41))]
def o1b : List XO := [O5 114 2 8,O4 115 1 114,O8 116 115,O1 117 (.mv (c9 0))]
def o1c : List XO := [O1 118 (.bin .lss .no (.t 117) (.t 116))]
def o1d : List XO := [O7 119 1 115 117,O4 120 1 119,O3 10 120]
def o1e : List XO := [O3 121 10,O1 122 (.call "slices.ContainsFunc[newel/api.Term,newel/api.Literal]" [.t 121, (.f "newel/situation.Check$1")])]
def o1f : List XO := [O1 2 (.mv (c9 41))]
def o1g : List XO := [O1 123 (.bin .add .no (.t 117) (c9 1)),O3 117 123]
def g47 : XCode :=
 (.seq (.reg o1c) (.seq (.cond (.t 118) .skip (.exit 6)) (.seq (.block 7 (.seq (.reg o1d) (.seq (.reg o1e) (.cond (.t 122) (.seq (.reg o1f) .ret) .skip)))) (.reg o1g))))
def o1h : List XO := [O5 124 3 8,O4 125 1 124,O8 126 125,O1 127 (.mv (c9 0))]
def o1j : List XO := [O1 128 (.bin .lss .no (.t 127) (.t 126))]
def o1k : List XO := [O7 129 2 125 127,O6 130 2 129,O1 12 (.alloc [(.int .i64 0), (.int .i64 0)]),O2 (.store 2 (.t 12) (.t 130))]
def o1l : List XO := [O5 131 0 12,O4 132 1 131,O1 133 (.call "newel/situation.within" [.t 132, (c9 1), (c9 3)]),O1 134 (.un .not (.t 133)),O3 135 134,O9 136 135 false (.fldA 1 (.t 12)),O9 137 135 false (.load false 1 (.t 136)),O9 138 135 false (.fldA 2 (.tf 1)),O9 139 135 false (.load false 1 (.tf 138)),O9 140 135 false (.len false (.t 139)),O9 141 135 false (.bin .sub .no (.t 140) (c9 1)),O9 142 135 false (.call "newel/situation.within" [.t 137, (c9 0), .t 141]),O9 143 135 false (.un .not (.t 142)),O1 144 (.pick (.t 135) (.c (.bool true)) (.t 143))]
def o1m : List XO := [O1 2 (.mv (c9 41))]
def o1n : List XO := [O1 145 (.bin .add .no (.t 127) (c9 1)),O3 127 145]
def g48 : XCode :=
 (.seq (.reg o1j) (.seq (.cond (.t 128) .skip (.exit 8)) (.seq (.block 9 (.seq (.reg o1k) (.seq (.reg o1l) (.cond (.t 144) (.seq (.reg o1m) .ret) .skip)))) (.reg o1n))))
def o1o : List XO := [O1 146 (.bin .add .no (.t 79) (c9 1)),O3 79 146]
def g49 : XCode :=
 (.seq (.reg o06) (.seq (.cond (.t 80) .skip (.exit 4)) (.seq (.block 5 (.seq (.reg o07) (.seq (.seq (.reg o09) (.cond (.t 113) (.seq (.reg o1a) .ret) .skip)) (.seq (.seq (.reg o1b) (.block 6 (.loop g47))) (.seq (.reg o1h) (.block 8 (.loop g48))))))) (.reg o1o))))
def o1p : List XO := [O1 2 (.mv (c9 0))]
def x_situation_Check : XFunc := { np := 1, res := [.t 2], body :=
 (.seq (.reg o0x) (.seq (.seq (.reg o0y) (.cond (.t 46) (.seq (.reg o08) .ret) .skip)) (.seq (.seq (.reg o1i) (.block 0 (.loop g5a))) (.seq (.seq (.reg o0z) (.block 2 (.loop g46))) (.seq (.seq (.reg o05) (.block 4 (.loop g49))) (.seq (.reg o1p) .ret)))))) }
def o3d : List XO := [O1 6 (.mv (.c (.bool false)))]
def o3e : List XO := [O3 7 0,O3 8 1,O1 9 (.bin .geq .no (.t 7) (.t 8)),O3 10 9,O9 11 10 true (.mv (.t 0)),O9 12 10 true (.mv (.t 2)),O9 13 10 true (.bin .leq .no (.t 11) (.t 12)),O1 14 (.pick (.t 10) (.t 13) (.c (.bool false))),O3 6 14]
def x_situation_within : XFunc := { np := 3, res := [.t 6], body :=
 (.seq (.reg o3d) (.seq (.reg o3e) .ret)) }
def l96 : List XO := [O1 3 (.boxF (.t 0)),O1 4 (.boxF (.t 1))]
def s2c : List XO := [O3 7 2,O1 8 (.fldA 1 (.tf 4)),O1 9 (.load false 1 (.tf 8)),O1 10 (.nilck (.t 7)),O5 11 1 10,O1 12 (.ixP 1 2 (.t 11) (.t 9)),O3 6 12]
def l98 : List XO := [O1 13 (.fldA 0 (.tf 4)),O1 14 (.load false 1 (.tf 13))]
def l99 : List XO := [O1 16 (.bin .eql .no (.t 14) (c9 1)),O3 15 16]
def m0a : List XO := [O3 17 6,O1 18 (.nilck (.t 17)),O2 (.store 1 (.t 18) (c9 0))]
def m0b : List XO := [O1 20 (.bin .eql .no (.t 14) (c9 2)),O3 19 20]
def m0c : List XO := [O3 21 6,O3 22 6,O1 23 (.nilck (.t 22)),O4 24 1 23,O1 25 (.bin .add .no (.t 24) (c9 1)),O1 26 (.fldA 0 (.tf 3)),O1 27 (.fldA 2 (.tf 26)),O1 28 (.load false 1 (.tf 27)),O1 29 (.fldA 1 (.tf 4)),O1 30 (.load false 1 (.tf 29)),O7 31 2 28 30,O5 32 1 31,O4 33 1 32,O1 34 (.min [.t 25, .t 33]),O1 35 (.nilck (.t 21)),O2 (.store 1 (.t 35) (.t 34))]
def m0d : List XO := [O1 37 (.bin .eql .no (.t 14) (c9 3)),O3 36 37]
def m0e : List XO := [O3 38 6,O3 39 6,O1 40 (.nilck (.t 39)),O4 41 1 40,O1 42 (.bin .sub .no (.t 41) (c9 1)),O1 43 (.max [.t 42, (c9 0)]),O1 44 (.nilck (.t 38)),O2 (.store 1 (.t 44) (.t 43))]
def x__situation_Plant__set : XFunc := { np := 3, res := [], body :=
 (.seq (.reg l96) (.seq (.reg s2c) (.seq (.reg l98) (.block 0 (.seq (.reg l99) (.cond (.t 15) (.reg m0a) (.seq (.reg m0b) (.cond (.t 19) (.reg m0c) (.seq (.reg m0d) (.cond (.t 36) (.reg m0e) .skip)))))))))) }
def o0j : List XO := [O1 2 (.boxF (.t 0)),O1 3 (.mv (.c (.bool false)))]
def o0k : List XO := [O6 4 5 1,O1 5 (.load true 4 (.tf 2)),O1 6 (.call "newel/situation.asks" [.t 4, .t 5]),O1 7 (.un .not (.t 6)),O3 3 7]
def x_situation_AskedD1 : XFunc := { np := 2, res := [.t 3], body :=
 (.seq (.reg o0j) (.seq (.reg o0k) .ret)) }
def o2f : List XO := [O1 2 (.boxF (.t 0)),O1 3 (.boxF (.t 1)),O1 4 (.mv (.c (.bool false)))]
def o2g : List XO := [O1 5 (.fldA 0 (.tf 3)),O1 6 (.load false 1 (.tf 5))]
def o2i : List XO := [O1 8 (.bin .eql .no (.t 6) (c9 1)),O3 7 8]
def o2j : List XO := [O1 9 (.fldA 1 (.tf 3)),O1 10 (.load false 1 (.tf 9)),O1 11 (.fldA 0 (.tf 2)),O1 12 (.load false 1 (.tf 11)),O8 13 12,O1 14 (.bin .sub .no (.t 13) (c9 1)),O1 15 (.call "newel/situation.within" [.t 10, (c9 0), .t 14]),O3 16 15,O9 17 16 true (.fldA 2 (.tf 3)),O9 18 16 true (.load false 1 (.tf 17)),O9 19 16 true (.bin .eql .no (.t 18) (c9 0)),O1 20 (.pick (.t 16) (.t 19) (.c (.bool false))),O3 4 20]
def o2k : List XO := [O1 22 (.bin .eql .no (.t 6) (c9 2)),O3 21 22]
def o2l : List XO := [O1 23 (.fldA 1 (.tf 3)),O1 24 (.load false 1 (.tf 23)),O1 25 (.fldA 2 (.tf 2)),O1 26 (.load false 1 (.tf 25)),O8 27 26,O1 28 (.bin .sub .no (.t 27) (c9 1)),O1 29 (.call "newel/situation.within" [.t 24, (c9 0), .t 28]),O3 30 29,O9 31 30 true (.fldA 2 (.tf 3)),O9 32 30 true (.load false 1 (.tf 31)),O9 33 30 true (.fldA 2 (.tf 2)),O9 34 30 true (.load false 1 (.tf 33)),O9 35 30 true (.fldA 1 (.tf 3)),O9 36 30 true (.load false 1 (.tf 35)),O9 37 30 true (.ixA 2 (.t 34) (.t 36)),O9 38 30 true (.fldA 1 (.t 37)),O9 39 30 true (.load false 1 (.t 38)),O9 40 30 true (.call "newel/situation.within" [.t 32, (c9 0), .t 39]),O1 41 (.pick (.t 30) (.t 40) (.c (.bool false))),O3 4 41]
def o2m : List XO := [O1 43 (.bin .eql .no (.t 6) (c9 3)),O3 42 43]
def o2n : List XO := [O1 44 (.fldA 1 (.tf 3)),O1 45 (.load false 1 (.tf 44)),O1 46 (.fldA 3 (.tf 2)),O1 47 (.load false 1 (.tf 46)),O8 48 47,O1 49 (.bin .sub .no (.t 48) (c9 1)),O1 50 (.call "newel/situation.within" [.t 45, (c9 0), .t 49]),O3 51 50,O9 52 51 true (.fldA 2 (.tf 3)),O9 53 51 true (.load false 1 (.tf 52)),O9 54 51 true (.bin .eql .no (.t 53) (c9 0)),O1 55 (.pick (.t 51) (.t 54) (.c (.bool false))),O3 4 55]
def o2o : List XO := [O1 57 (.bin .eql .no (.t 6) (c9 4)),O3 56 57]
def o2p : List XO := [O1 58 (.fldA 1 (.tf 3)),O1 59 (.load false 1 (.tf 58)),O1 60 (.fldA 1 (.tf 2)),O1 61 (.load false 1 (.tf 60)),O8 62 61,O1 63 (.bin .sub .no (.t 62) (c9 1)),O1 64 (.call "newel/situation.within" [.t 59, (c9 0), .t 63]),O3 65 64,O9 66 65 true (.fldA 2 (.tf 3)),O9 67 65 true (.load false 1 (.tf 66)),O9 68 65 true (.bin .eql .no (.t 67) (c9 0)),O1 69 (.pick (.t 65) (.t 68) (.c (.bool false))),O3 4 69]
def o2h : List XO := [O1 4 (.mv (.c (.bool false)))]
def x_situation_asks : XFunc := { np := 2, res := [.t 4], body :=
 (.seq (.reg o2f) (.seq (.seq (.reg o2g) (.block 0 (.seq (.reg o2i) (.cond (.t 7) (.seq (.reg o2j) .ret) (.seq (.reg o2k) (.cond (.t 21) (.seq (.reg o2l) .ret) (.seq (.reg o2m) (.cond (.t 42) (.seq (.reg o2n) .ret) (.seq (.reg o2o) (.cond (.t 56) (.seq (.reg o2p) .ret) .skip)))))))))) (.seq (.reg o2h) .ret))) }
def o4r : List XO := [O1 4 (.mv (c9 0))]
def o4s : List XO := [O3 6 0,O8 7 6,O1 8 (.mv (c9 0))]
def o4t : List XO := [O1 9 (.bin .lss .no (.t 8) (.t 7))]
def o4u : List XO := [O3 10 8,O3 5 10]
def o4v : List XO := [O3 11 1,O3 12 0,O3 13 5,O7 14 1 12 13,O4 15 1 14,O1 16 (.callv (.t 11) [.t 15])]
def o4w : List XO := [O3 17 5,O3 4 17]
def o4x : List XO := [O1 18 (.bin .add .no (.t 8) (c9 1)),O3 8 18]
def g5e : XCode :=
 (.seq (.reg o4t) (.seq (.cond (.t 9) .skip (.exit 0)) (.seq (.block 1 (.seq (.reg o4u) (.seq (.reg o4v) (.cond (.t 16) (.seq (.reg o4w) .ret) .skip)))) (.reg o4x))))
def o4y : List XO := [O1 4 (.mv (.c (.int .i64 (-1))))]
def x_slices_IndexFunc_api_Cond_api_Term_ : XFunc := { np := 2, res := [.t 4], body :=
 (.seq (.reg o4r) (.seq (.seq (.reg o4s) (.block 0 (.loop g5e))) (.seq (.reg o4y) .ret))) }
def o4z : List XO := [O1 4 (.mv (c9 0))]
def o40 : List XO := [O3 6 0,O8 7 6,O1 8 (.mv (c9 0))]
def o41 : List XO := [O1 9 (.bin .lss .no (.t 8) (.t 7))]
def o42 : List XO := [O3 10 8,O3 5 10]
def o43 : List XO := [O3 11 1,O3 12 0,O3 13 5,O7 14 4 12 13,O6 15 4 14,O1 16 (.callv (.t 11) [.t 15])]
def o44 : List XO := [O3 17 5,O3 4 17]
def o45 : List XO := [O1 18 (.bin .add .no (.t 8) (c9 1)),O3 8 18]
def g5f : XCode :=
 (.seq (.reg o41) (.seq (.cond (.t 9) .skip (.exit 0)) (.seq (.block 1 (.seq (.reg o42) (.seq (.reg o43) (.cond (.t 16) (.seq (.reg o44) .ret) .skip)))) (.reg o45))))
def o46 : List XO := [O1 4 (.mv (.c (.int .i64 (-1))))]
def x_slices_IndexFunc_api_Term_api_Literal_ : XFunc := { np := 2, res := [.t 4], body :=
 (.seq (.reg o4z) (.seq (.seq (.reg o40) (.block 0 (.loop g5f))) (.seq (.reg o46) .ret))) }
def o47 : List XO := [O3 4 0,O8 5 4,O1 6 (.bin .sub .no (.t 5) (c9 1)),O1 2 (.mv (c9 0)),O3 3 6]
def o48 : List XO := [O3 7 2,O3 8 3,O1 9 (.bin .lss .no (.t 7) (.t 8))]
def o49 : List XO := [O3 14 0,O3 15 2,O3 16 0,O3 17 3,O3 18 0,O3 19 3,O7 20 1 18 19,O4 21 1 20,O3 22 0,O3 23 2,O7 24 1 22 23,O4 25 1 24,O7 26 1 14 15,O2 (.store 1 (.t 26) (.t 21)),O7 27 1 16 17,O2 (.store 1 (.t 27) (.t 25))]
def o5a : List XO := [O3 10 2,O1 11 (.bin .add .no (.t 10) (c9 1)),O3 12 3,O1 13 (.bin .sub .no (.t 12) (c9 1)),O3 2 11,O3 3 13]
def g5g : XCode :=
 (.seq (.seq (.reg o48) (.cond (.t 9) .skip (.exit 0))) (.seq (.block 1 (.reg o49)) (.reg o5a)))
def x_slices_Reverse___int_int_ : XFunc := { np := 1, res := [], body :=
 (.seq (.reg o47) (.block 0 (.loop g5g))) }
def o2q : List XO := [O1 1 (.boxF (.t 0)),O1 2 (.mv (.c (.bool false)))]
def o2r : List XO := [O1 6 (.callw "#mk" []),O3 3 6]
def o2t : List XO := [O1 7 (.load true 5 (.tf 1)),O1 8 (.call "newel/situation.names" [.t 7]),O8 9 8,O1 10 (.mv (c9 0))]
def o2u : List XO := [O1 11 (.bin .lss .no (.t 10) (.t 9))]
def o2v : List XO := [O7 12 1 8 10,O4 13 1 12,O3 5 13]
def o2w : List XO := [O3 14 3,O3 15 5,O1 16 (.callw "#ls" [.t 14, .t 15, (c9 0), (c9 0)]),O1 17 (.bin .add .no (.t 16) (c9 1)),O2 (.callw "#ps" [.t 14, .t 15, .t 17, (c9 0)])]
def o2x : List XO := [O3 18 5,O1 19 (.call "newel/situation.Plain" [.t 18]),O1 20 (.un .not (.t 19)),O3 21 20,O9 22 21 false (.mv (.t 5)),O9 23 21 false (.len true (.t 22)),O9 24 21 false (.bin .gtr .no (.t 23) (c9 8)),O1 25 (.pick (.t 21) (.c (.bool true)) (.t 24)),O3 26 25,O9 27 26 false (.mv (.t 5)),O9 28 26 false (.call "newel/situation.Reserved" [.t 27]),O1 29 (.pick (.t 26) (.c (.bool true)) (.t 28)),O3 30 29,O9 31 30 false (.mv (.t 3)),O9 32 30 false (.mv (.t 5)),O9 33 30 false (.callw "#ls" [.t 31, .t 32, (c9 0), (c9 0)]),O9 34 30 false (.bin .gtr .no (.t 33) (c9 1)),O1 35 (.pick (.t 30) (.c (.bool true)) (.t 34))]
def o2y : List XO := [O1 2 (.mv (.c (.bool false)))]
def o2z : List XO := [O1 36 (.bin .add .no (.t 10) (c9 1)),O3 10 36]
def g5c : XCode :=
 (.seq (.reg o2u) (.seq (.cond (.t 11) .skip (.exit 0)) (.seq (.block 1 (.seq (.reg o2v) (.seq (.reg o2w) (.seq (.reg o2x) (.cond (.t 35) (.seq (.reg o2y) .ret) .skip))))) (.reg o2z))))
def o2s : List XO := [O1 2 (.mv (.c (.bool true)))]
def x_situation_named : XFunc := { np := 1, res := [.t 2], body :=
 (.seq (.reg o2q) (.seq (.reg o2r) (.seq (.seq (.reg o2t) (.block 0 (.loop g5c))) (.seq (.reg o2s) .ret)))) }
def o0v : List XO := [O1 1 (.boxF (.t 0)),O1 2 (.mv (.c (.bool false)))]
def o0w : List XO := [O1 3 (.fldA 0 (.tf 1)),O1 4 (.load false 1 (.tf 3)),O1 5 (.bin .eql .no (.t 4) (c9 3)),O3 2 5]
def x_situation_CheckD1 : XFunc := { np := 1, res := [.t 2], body :=
 (.seq (.reg o0v) (.seq (.reg o0w) .ret)) }
def o20 : List XO := [O1 1 (.boxF (.t 0)),O1 2 (.mv (.c (.slice none 0 0)))]
def o21 : List XO := [O1 8 (.fldA 0 (.tf 1)),O1 9 (.load false 1 (.tf 8)),O1 10 (.fldA 1 (.tf 1)),O1 11 (.load false 1 (.tf 10)),O1 12 (.bsl 1 [.t 9, .t 11]),O1 13 (.call "slices.Concat[[]string,string]" [.t 12]),O3 3 13]
def o26 : List XO := [O1 14 (.fldA 2 (.tf 1)),O1 15 (.load false 1 (.tf 14)),O8 16 15,O1 17 (.mv (c9 0))]
def o27 : List XO := [O1 18 (.bin .lss .no (.t 17) (.t 16))]
def o28 : List XO := [O7 19 2 15 17,O6 20 2 19,O1 5 (.alloc [(.string (ByteArray.mk #[])), (.int .i64 0)]),O2 (.store 2 (.t 5) (.t 20))]
def o29 : List XO := [O3 21 3,O5 22 0 5,O4 23 1 22,O1 24 (.bsl 1 [.t 23]),O1 25 (.app 1 16 (.t 21) (.t 24)),O3 3 25]
def o3a : List XO := [O1 26 (.bin .add .no (.t 17) (c9 1)),O3 17 26]
def d5l : XCode :=
 (.seq (.reg o27) (.seq (.cond (.t 18) .skip (.exit 0)) (.seq (.block 1 (.seq (.reg o28) (.reg o29))) (.reg o3a))))
def o3b : List XO := [O1 27 (.fldA 3 (.tf 1)),O1 28 (.load false 1 (.tf 27)),O8 29 28,O1 30 (.mv (c9 0))]
def o3c : List XO := [O1 31 (.bin .lss .no (.t 30) (.t 29))]
def o22 : List XO := [O7 32 2 28 30,O6 33 2 32,O1 7 (.alloc [(.string (ByteArray.mk #[])), (.int .i64 0)]),O2 (.store 2 (.t 7) (.t 33))]
def o23 : List XO := [O3 34 3,O5 35 0 7,O4 36 1 35,O1 37 (.bsl 1 [.t 36]),O1 38 (.app 1 16 (.t 34) (.t 37)),O3 3 38]
def o24 : List XO := [O1 39 (.bin .add .no (.t 30) (c9 1)),O3 30 39]
def d5k : XCode :=
 (.seq (.reg o3c) (.seq (.cond (.t 31) .skip (.exit 2)) (.seq (.block 3 (.seq (.reg o22) (.reg o23))) (.reg o24))))
def o25 : List XO := [O3 40 3,O3 2 40]
def x_situation_names : XFunc := { np := 1, res := [.t 2], body :=
 (.seq (.reg o20) (.seq (.reg o21) (.seq (.seq (.reg o26) (.block 0 (.loop d5l))) (.seq (.seq (.reg o3b) (.block 2 (.loop d5k))) (.seq (.reg o25) .ret))))) }
def o1v : List XO := [O1 2 (.mv (.c (.bool false)))]
def o1w : List XO := [O3 5 0,O1 6 (.callw "#sb" [.t 5]),O8 7 6,O1 8 (.mv (c9 0))]
def o1x : List XO := [O1 9 (.bin .lss .no (.t 8) (.t 7))]
def o1y : List XO := [O7 10 1 6 8,O4 11 1 10,O3 4 11]
def o1z : List XO := [O3 12 4,O1 13 (.bin .lss .no (.t 12) (.c (.int .u8 97))),O3 14 13,O9 15 14 false (.mv (.t 4)),O9 16 14 false (.bin .gtr .no (.t 15) (.c (.int .u8 122))),O1 17 (.pick (.t 14) (.c (.bool true)) (.t 16))]
def o10 : List XO := [O1 2 (.mv (.c (.bool false)))]
def o11 : List XO := [O1 18 (.bin .add .no (.t 8) (c9 1)),O3 8 18]
def g5b : XCode :=
 (.seq (.reg o1x) (.seq (.cond (.t 9) .skip (.exit 0)) (.seq (.block 1 (.seq (.reg o1y) (.seq (.reg o1z) (.cond (.t 17) (.seq (.reg o10) .ret) .skip)))) (.reg o11))))
def o12 : List XO := [O3 19 0,O1 20 (.bin .neq .no (.t 19) (.c (.string (ByteArray.mk #[])))),O3 2 20]
def x_situation_Plain : XFunc := { np := 1, res := [.t 2], body :=
 (.seq (.reg o1v) (.seq (.seq (.reg o1w) (.block 0 (.loop g5b))) (.seq (.reg o12) .ret))) }
def o13 : List XO := [O1 2 (.mv (.c (.bool false)))]
def o14 : List XO := [O3 3 0]
def o17 : List XO := [O1 5 (.bin .eql .no (.t 3) (.c (.string (ByteArray.mk #[97, 110, 121])))),O3 4 5]
def o18 : List XO := [O1 6 (.bin .eql .no (.t 3) (.c (.string (ByteArray.mk #[116, 111])))),O3 4 6]
def o19 : List XO := [O1 7 (.bin .eql .no (.t 3) (.c (.string (ByteArray.mk #[122, 101, 114, 111])))),O3 4 7]
def o2a : List XO := [O1 8 (.bin .eql .no (.t 3) (.c (.string (ByteArray.mk #[109, 111, 114, 101])))),O3 4 8]
def o2b : List XO := [O1 9 (.bin .eql .no (.t 3) (.c (.string (ByteArray.mk #[108, 101, 115, 115])))),O3 4 9]
def o2c : List XO := [O1 10 (.bin .eql .no (.t 3) (.c (.string (ByteArray.mk #[105, 102])))),O3 4 10]
def o2d : List XO := [O1 11 (.bin .eql .no (.t 3) (.c (.string (ByteArray.mk #[121, 101, 115])))),O3 4 11]
def o2e : List XO := [O1 12 (.bin .eql .no (.t 3) (.c (.string (ByteArray.mk #[110, 111])))),O3 4 12]
def o15 : List XO := [O1 2 (.mv (.c (.bool true)))]
def o16 : List XO := [O1 2 (.mv (.c (.bool false)))]
def x_situation_Reserved : XFunc := { np := 1, res := [.t 2], body :=
 (.seq (.reg o13) (.seq (.seq (.reg o14) (.block 0 (.seq (.seq (.reg o17) (.cond (.t 4) .skip (.seq (.reg o18) (.cond (.t 4) .skip (.seq (.reg o19) (.cond (.t 4) .skip (.seq (.reg o2a) (.cond (.t 4) .skip (.seq (.reg o2b) (.cond (.t 4) .skip (.seq (.reg o2c) (.cond (.t 4) .skip (.seq (.reg o2d) (.cond (.t 4) .skip (.reg o2e))))))))))))))) (.cond (.t 4) (.seq (.reg o15) .ret) .skip)))) (.seq (.reg o16) .ret))) }
def o3f : List XO := [O1 2 (.mv (.c (.slice none 0 0)))]
def o3g : List XO := [O1 3 (.mv (c9 0))]
def o3o : List XO := [O3 9 0,O8 10 9,O1 11 (.mv (c9 0))]
def o3p : List XO := [O1 12 (.bin .lss .no (.t 11) (.t 10))]
def o3q : List XO := [O7 13 1 9 11,O4 14 1 13,O3 5 14]
def o3r : List XO := [O3 15 3,O3 16 5,O8 17 16,O1 18 (.bin .add .no (.t 15) (.t 17)),O3 3 18]
def o3s : List XO := [O3 19 3,O1 20 (.bin .lss .no (.t 19) (c9 0))]
def o3t : List XO := [O1 21 (.callw "#no" []),O2 (.callw "#no" [])]
def o3u : List XO := [O1 22 (.bin .add .no (.t 11) (c9 1)),O3 11 22]
def d5n : XCode :=
 (.seq (.reg o3p) (.seq (.cond (.t 12) .skip (.exit 0)) (.seq (.block 1 (.seq (.reg o3q) (.seq (.reg o3r) (.seq (.reg o3s) (.cond (.t 20) (.reg o3t) .skip))))) (.reg o3u))))
def o3h : List XO := [O3 23 3,O1 24 (.call "slices.Grow[[]string,string]" [(.c (.slice none 0 0)), .t 23]),O3 6 24]
def o3i : List XO := [O3 25 0,O8 26 25,O1 27 (.mv (c9 0))]
def o3j : List XO := [O1 28 (.bin .lss .no (.t 27) (.t 26))]
def o3k : List XO := [O7 29 1 25 27,O4 30 1 29,O3 8 30]
def o3l : List XO := [O3 31 6,O3 32 8,O1 33 (.app 1 16 (.t 31) (.t 32)),O3 6 33]
def o3m : List XO := [O1 34 (.bin .add .no (.t 27) (c9 1)),O3 27 34]
def d5m : XCode :=
 (.seq (.reg o3j) (.seq (.cond (.t 28) .skip (.exit 2)) (.seq (.block 3 (.seq (.reg o3k) (.reg o3l))) (.reg o3m))))
def o3n : List XO := [O3 35 6,O3 2 35]
def x_slices_Concat___string_string_ : XFunc := { np := 1, res := [.t 2], body :=
 (.seq (.reg o3f) (.seq (.reg o3g) (.seq (.seq (.reg o3o) (.block 0 (.loop d5n))) (.seq (.reg o3h) (.seq (.seq (.reg o3i) (.block 2 (.loop d5m))) (.seq (.reg o3n) .ret)))))) }
def o4c : List XO := [O1 4 (.mv (.c (.slice none 0 0)))]
def o4d : List XO := [O3 5 1,O1 6 (.bin .lss .no (.t 5) (c9 0))]
def o4e : List XO := [O1 7 (.callw "#no" []),O2 (.callw "#no" [])]
def o4f : List XO := [O3 8 1,O3 9 0,O1 10 (.callw "#cap" [.t 9]),O3 11 0,O8 12 11,O1 13 (.bin .sub .no (.t 10) (.t 12)),O1 14 (.bin .sub .no (.t 8) (.t 13)),O3 1 14]
def o4g : List XO := [O3 15 1,O1 16 (.bin .gtr .no (.t 15) (c9 0))]
def o4h : List XO := [O3 17 0,O3 18 0,O1 19 (.callw "#cap" [.t 18]),O1 20 (.slc 1 (.t 17) none (some (.t 19))),O3 21 1,O1 22 (.callw "#ax" [.t 20, .t 21, (.c (.string (ByteArray.mk #[])))]),O3 23 0,O8 24 23,O1 25 (.slc 1 (.t 22) none (some (.t 24))),O3 0 25]
def o4i : List XO := [O3 26 0,O3 4 26]
def x_slices_Grow___string_string_ : XFunc := { np := 2, res := [.t 4], body :=
 (.seq (.reg o4c) (.seq (.seq (.reg o4d) (.cond (.t 6) (.reg o4e) .skip)) (.seq (.seq (.reg o4f) (.seq (.reg o4g) (.cond (.t 16) (.reg o4h) .skip))) (.seq (.reg o4i) .ret)))) }
attribute [go_sem] p58 p59 p6j p6l p6m p6n p6o p6p p6q p6r p6a p6b p6c p6d p6e p6f p6g p6h p6i p6k m3n m3o m3p m3q m3r m3s m3t m3u m3v m35 m36 m37 m38 m39 o6p o6q o6x o6y o6z o60 o61 o62 o63 o64 o6r o6s o6t o6u o6v o6w m3w m3x m3y m3z m30 m31 m32 m33 m34 m0f m0g m0h m0i m0j m0k m4i m4j m4l m4m m4n m4o m4p m4q m4r m4k m4a m4b p4i p4j p4k p4l p4m p4n p4o p4p p5g p5h p5l p5m p5n p5o p5p p5q p5r p5s p5i p5j p5k m4s m4t m42 m5b m5l m5n m5o m5p m5q m5r m4u m4v m4w m4x m4y m4z m40 m41 m43 m44 m45 m46 m47 m48 m49 m5a m5c m5d m5e m5f m5g m5h m5i m5j m5k m5m m0p m0q m00 m09 m1j m1n m1o m1p m1q m1r m0r m0s m0t m0u m0v m0w m0x m0y m0z m01 m02 m03 m04 m05 m06 m07 m08 m1a m1b m1c m1d m1e m1f m1g m1h m1i m1k m1l m1m p05 p06 p09 p1a p1b p1c p1d p1e p1f p1g p07 p08 m6g m6h m6l m6m m6n m6o m6p m6q m6r m6i m6j m6k m3e m3f m3g m3h m3i m3j m3k m3l m3m m2o m2p m2r m2s m2t m2u m2v m2w m2x m2y m2q m2z m20 l77 l78 l8j l8n l8o l8p l8q l8r l8s l8t s2b l8a l8b l8c l8d l8e l8f l8g l8h l8i l8k l8l l8m m21 m22 l74 l75 l76 o6n o6o l9f l9g l7n l7o l7p l7q l7r l7s l7t l7u m8j m8k m8v m81 m82 m83 m84 m85 m86 m87 m8l m8m m8n m8o m8p m8q m8r m8s m8t m8u m8w m8x m8y m8z m80 m0l m0m o9r o9s o9u o9v o9w o9x o9y o9z o90 o91 o9t p4b p4c l9h l9i l9m l9n l9o l9p l9q l9r l9s l9t l9j l9k l9l m59 m6a m6b m6c m6d m6e m6f m9n m9o m98 m99 o0c o0d o0e o0f o0g o0h o0i o0a o0b m75 m76 m8a m8b m8c m8d m8e m8f m8g m77 m78 m79 o4j o4k o4l o4m o4n o4o o4p o4q m0n m0o o31 o32 o34 o35 o36 o37 o38 o39 o4a o33 m9w m9x m90 m91 m92 m93 m94 m95 m96 m97 m9y m9z l87 l88 l89 l9a o0l o0m o0o o0p o0q o0r o0s o0t o0u o0n l72 l73 o3x o3y l9d l9e o3z o30 l9b l9c l9u l9v l9y l9z l90 l91 l92 l93 l94 l95 l9w l9x l7v l7w l7x l7y l7z l70 l71 o0x o0y o08 o1i o1q o1r o1s o1t o1u o0z o00 o01 o02 o03 o04 o05 o06 o07 o09 o1a o1b o1c o1d o1e o1f o1g o1h o1j o1k o1l o1m o1n o1o o1p o3d o3e l96 s2c l98 l99 m0a m0b m0c m0d m0e o0j o0k o2f o2g o2i o2j o2k o2l o2m o2n o2o o2p o2h o4r o4s o4t o4u o4v o4w o4x o4y o4z o40 o41 o42 o43 o44 o45 o46 o47 o48 o49 o5a o2q o2r o2t o2u o2v o2w o2x o2y o2z o2s o0v o0w o20 o21 o26 o27 o28 o29 o3a o3b o3c o22 o23 o24 o25 o1v o1w o1x o1y o1z o10 o11 o12 o13 o14 o17 o18 o19 o2a o2b o2c o2d o2e o15 o16 o3f o3g o3o o3p o3q o3r o3s o3t o3u o3h o3i o3j o3k o3l o3m o3n o4c o4d o4e o4f o4g o4h o4i
end Go.Nw.Ctl
