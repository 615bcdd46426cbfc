/- The functions of a seat, as the abstract machine has them. -/
import Derived.Test.YteoedeeljnboeaaNwI
set_option linter.all false
namespace Go.Nw.Halls
@[go_sem] def O3 (d a : Nat) : XO := ⟨some d,none,.mv (.t a)⟩
@[go_sem] def O4 (d n a : Nat) : XO := ⟨some d,none,.load false n (.t a)⟩
@[go_sem] def O5 (d n a : Nat) : XO := ⟨some d,none,.fldA n (.t a)⟩
@[go_sem] def O6 (d n a : Nat) : XO := ⟨some d,none,.load true n (.t a)⟩
@[go_sem] def O7 (d n a b : Nat) : XO := ⟨some d,none,.ixA n (.t a) (.t b)⟩
@[go_sem] def O8 (d a : Nat) : XO := ⟨some d,none,.len false (.t a)⟩
@[go_sem] def O9 (d g : Nat) (p : Bool) (x : XOp) : XO := ⟨some d,some (g,p),x⟩
@[go_sem] def c9 (n : Int) : X := .c (.int .i64 n)
@[go_sem] def O1 (d : Nat) (x : XOp) : XO := ⟨some d,none,x⟩
@[go_sem] def O2 (x : XOp) : XO := ⟨none,none,x⟩
def H6s : List XO := [O1 3 (.boxF (.t 0)),O1 4 (.boxF (.t 1)),O1 6 (.mv (.c (.bool false)))]
def H6t : List XO := [O1 14 (.load true 4 (.tf 3)),O1 15 (.call "newel/newellaw06.Far" [.t 14]),O3 16 15,O9 17 16 false (.load true 4 (.tf 3)),O9 18 16 false (.call "newel/newelref06.Check" [.t 17]),O9 19 16 false (.bin .neq .no (.t 18) (c9 0)),O1 20 (.pick (.t 16) (.c (.bool true)) (.t 19)),O3 21 20,O9 22 21 false (.fldA 0 (.tf 4)),O9 23 21 false (.load false 1 (.tf 22)),O9 24 21 false (.bin .lss .no (.t 23) (c9 0)),O1 25 (.pick (.t 21) (.c (.bool true)) (.t 24)),O3 26 25,O9 27 26 false (.fldA 0 (.tf 4)),O9 28 26 false (.load false 1 (.tf 27)),O9 29 26 false (.fldA 1 (.tf 3)),O9 30 26 false (.load false 1 (.tf 29)),O9 31 26 false (.len false (.t 30)),O9 32 26 false (.bin .geq .no (.t 28) (.t 31)),O1 33 (.pick (.t 26) (.c (.bool true)) (.t 32)),O3 34 33,O9 35 34 false (.mv (.t 2)),O9 36 34 false (.bin .lss .no (.t 35) (c9 0)),O1 37 (.pick (.t 34) (.c (.bool true)) (.t 36)),O3 38 37,O9 39 38 false (.mv (.t 2)),O9 40 38 false (.fldA 0 (.tf 3)),O9 41 38 false (.load false 1 (.tf 40)),O9 42 38 false (.len false (.t 41)),O9 43 38 false (.bin .geq .no (.t 39) (.t 42)),O1 44 (.pick (.t 38) (.c (.bool true)) (.t 43))]
def H63 : List XO := [O1 45 (.call "newel/newellaw06.works" []),O3 6 45]
def H64 : List XO := [O1 46 (.load true 4 (.tf 3)),O1 47 (.call "newel/newellaw06.copied" [.t 46]),O1 7 (.alloc [(.slice none 0 0), (.slice none 0 0), (.slice none 0 0), (.int .i64 0)]),O2 (.store 4 (.t 7) (.t 47))]
def H65 : List XO := [O5 48 1 7,O4 49 1 48,O1 50 (.fldA 0 (.tf 4)),O1 51 (.load false 1 (.tf 50)),O7 52 3 49 51,O6 53 3 52,O1 8 (.alloc [(.int .i64 0), (.int .i64 0), (.slice none 0 0)]),O2 (.store 3 (.t 8) (.t 53))]
def H66 : List XO := [O1 54 (.fldA 2 (.tf 4)),O1 55 (.fldA 0 (.tf 54)),O1 56 (.load false 1 (.tf 55)),O5 57 0 8,O5 58 0 57,O4 59 1 58,O1 60 (.bin .geq .no (.t 56) (.t 59)),O3 61 60,O9 62 61 true (.fldA 2 (.tf 4)),O9 63 61 true (.fldA 0 (.tf 62)),O9 64 61 true (.load false 1 (.tf 63)),O9 65 61 true (.fldA 2 (.tf 4)),O9 66 61 true (.fldA 1 (.tf 65)),O9 67 61 true (.load false 1 (.tf 66)),O9 68 61 true (.bin .leq .no (.t 64) (.t 67)),O1 69 (.pick (.t 61) (.t 68) (.c (.bool false))),O3 70 69,O9 71 70 true (.fldA 2 (.tf 4)),O9 72 70 true (.fldA 1 (.tf 71)),O9 73 70 true (.load false 1 (.tf 72)),O9 74 70 true (.fldA 0 (.t 8)),O9 75 70 true (.fldA 1 (.t 74)),O9 76 70 true (.load false 1 (.t 75)),O9 77 70 true (.bin .leq .no (.t 73) (.t 76)),O1 78 (.pick (.t 70) (.t 77) (.c (.bool false)))]
def H67 : List XO := [O5 79 1 7,O4 80 1 79,O1 81 (.fldA 0 (.tf 4)),O1 82 (.load false 1 (.tf 81)),O1 83 (.fldA 2 (.tf 4)),O1 84 (.load true 2 (.tf 83)),O7 85 3 80 82,O5 86 0 85,O2 (.store 2 (.t 86) (.t 84))]
def H68 : List XO := [O1 87 (.fldA 1 (.tf 4)),O1 88 (.load false 1 (.tf 87)),O1 89 (.bin .geq .no (.t 88) (c9 0)),O3 90 89,O9 91 90 true (.fldA 1 (.tf 4)),O9 92 90 true (.load false 1 (.tf 91)),O9 93 90 true (.fldA 2 (.t 8)),O9 94 90 true (.load false 1 (.t 93)),O9 95 90 true (.len false (.t 94)),O9 96 90 true (.bin .lss .no (.t 92) (.t 95)),O1 97 (.pick (.t 90) (.t 96) (.c (.bool false))),O3 98 97,O9 99 98 true (.fldA 4 (.tf 4)),O9 100 98 true (.fldA 0 (.tf 99)),O9 101 98 true (.load false 1 (.tf 100)),O9 102 98 true (.bin .geq .no (.t 101) (c9 0)),O1 103 (.pick (.t 98) (.t 102) (.c (.bool false))),O3 104 103,O9 105 104 true (.fldA 4 (.tf 4)),O9 106 104 true (.fldA 0 (.tf 105)),O9 107 104 true (.load false 1 (.tf 106)),O9 108 104 true (.fldA 4 (.tf 4)),O9 109 104 true (.fldA 1 (.tf 108)),O9 110 104 true (.load false 1 (.tf 109)),O9 111 104 true (.bin .leq .no (.t 107) (.t 110)),O1 112 (.pick (.t 104) (.t 111) (.c (.bool false))),O3 113 112,O9 114 113 true (.fldA 4 (.tf 4)),O9 115 113 true (.fldA 1 (.tf 114)),O9 116 113 true (.load false 1 (.tf 115)),O9 117 113 true (.fldA 2 (.t 8)),O9 118 113 true (.load false 1 (.t 117)),O9 119 113 true (.fldA 1 (.tf 4)),O9 120 113 true (.load false 1 (.tf 119)),O9 121 113 true (.ixA 3 (.t 118) (.t 120)),O9 122 113 true (.fldA 1 (.t 121)),O9 123 113 true (.fldA 1 (.t 122)),O9 124 113 true (.load false 1 (.t 123)),O9 125 113 true (.bin .leq .no (.t 116) (.t 124)),O1 126 (.pick (.t 113) (.t 125) (.c (.bool false)))]
def H69 : List XO := [O5 127 2 8,O4 128 1 127,O1 129 (.fldA 1 (.tf 4)),O1 130 (.load false 1 (.tf 129)),O1 131 (.fldA 4 (.tf 4)),O1 132 (.load true 2 (.tf 131)),O7 133 3 128 130,O5 134 1 133,O2 (.store 2 (.t 134) (.t 132))]
def H7a : List XO := [O1 136 (.load true 4 (.tf 3)),O3 137 2,O1 138 (.call "newel/halls.Most" [.t 136, .t 137]),O3 135 138,O1 139 (.ext (.t 135) 0),O1 140 (.ext (.t 135) 1),O3 9 139,O3 10 140]
def H6u : List XO := [O6 142 4 7,O3 143 2,O1 144 (.call "newel/halls.Most" [.t 142, .t 143]),O3 141 144,O1 145 (.ext (.t 141) 0),O1 146 (.ext (.t 141) 1),O3 11 145,O3 12 146]
def H6v : List XO := [O3 147 10,O1 148 (.bin .neq .no (.t 147) (c9 0)),O3 149 148,O9 150 149 false (.mv (.t 12)),O9 151 149 false (.bin .neq .no (.t 150) (c9 0)),O1 152 (.pick (.t 149) (.c (.bool true)) (.t 151)),O3 153 152,O9 154 153 false (.mv (.t 9)),O9 155 153 false (.len false (.t 154)),O9 156 153 false (.fldA 3 (.tf 3)),O9 157 153 false (.load false 1 (.tf 156)),O9 158 153 false (.bin .neq .no (.t 155) (.t 157)),O1 159 (.pick (.t 153) (.c (.bool true)) (.t 158)),O3 160 159,O9 161 160 false (.mv (.t 11)),O9 162 160 false (.len false (.t 161)),O9 163 160 false (.fldA 3 (.tf 3)),O9 164 160 false (.load false 1 (.tf 163)),O9 165 160 false (.bin .neq .no (.t 162) (.t 164)),O1 166 (.pick (.t 160) (.c (.bool true)) (.t 165))]
def H6w : List XO := [O1 6 (.mv (.c (.bool false)))]
def H6x : List XO := [O1 13 (.mv (c9 0))]
def H6y : List XO := [O3 167 13,O3 168 9,O8 169 168,O1 170 (.bin .lss .no (.t 167) (.t 169))]
def H6z : List XO := [O3 173 11,O3 174 13,O7 175 1 173 174,O4 176 1 175,O3 177 9,O3 178 13,O7 179 1 177 178,O4 180 1 179,O1 181 (.bin .gtr .no (.t 176) (.t 180))]
def H60 : List XO := [O1 6 (.mv (.c (.bool false)))]
def H61 : List XO := [O3 171 13,O1 172 (.bin .add .no (.t 171) (c9 1)),O3 13 172]
def G7x : XCode :=
 (.seq (.seq (.reg H6y) (.cond (.t 170) .skip (.exit 0))) (.seq (.block 1 (.seq (.reg H6z) (.cond (.t 181) (.seq (.reg H60) .ret) .skip))) (.reg H61)))
def H62 : List XO := [O1 182 (.call "newel/newellaw06.works" []),O3 6 182]
def x_l06_HallsLess : XFunc := { np := 3, res := [.t 6], body :=
 (.seq (.reg H6s) (.seq (.seq (.reg H6t) (.cond (.t 44) (.seq (.reg H63) .ret) .skip)) (.seq (.reg H64) (.seq (.reg H65) (.seq (.seq (.reg H66) (.cond (.t 78) (.reg H67) .skip)) (.seq (.seq (.reg H68) (.cond (.t 126) (.reg H69) .skip)) (.seq (.seq (.reg H7a) .ghost) (.seq (.reg H6u) (.seq (.seq (.reg H6v) (.cond (.t 166) (.seq (.reg H6w) .ret) .skip)) (.seq (.seq (.reg H6x) (.block 0 (.loop G7x))) (.seq (.reg H62) .ret))))))))))) }
def H6j : List XO := [O1 1 (.boxF (.t 0)),O1 2 (.mv (.c (.bool false)))]
def H6k : List XO := [O1 4 (.fldA 0 (.tf 1)),O1 5 (.load false 1 (.tf 4)),O8 6 5,O1 7 (.bin .gtr .no (.t 6) (c9 12)),O3 8 7,O9 9 8 false (.fldA 1 (.tf 1)),O9 10 8 false (.load false 1 (.tf 9)),O9 11 8 false (.len false (.t 10)),O9 12 8 false (.bin .gtr .no (.t 11) (c9 20)),O1 13 (.pick (.t 8) (.c (.bool true)) (.t 12)),O3 14 13,O9 15 14 false (.fldA 2 (.tf 1)),O9 16 14 false (.load false 1 (.tf 15)),O9 17 14 false (.len false (.t 16)),O9 18 14 false (.bin .gtr .no (.t 17) (c9 40)),O1 19 (.pick (.t 14) (.c (.bool true)) (.t 18)),O3 20 19,O9 21 20 false (.fldA 3 (.tf 1)),O9 22 20 false (.load false 1 (.tf 21)),O9 23 20 false (.bin .gtr .no (.t 22) (c9 40)),O9 24 20 false (.mv (.t 23)),O9 25 24 true (.fldA 3 (.tf 1)),O9 26 24 true (.load false 1 (.tf 25)),O9 27 24 true (.bin .leq .no (.t 26) (c9 100)),O9 28 20 false (.pick (.t 24) (.t 27) (.c (.bool false))),O1 29 (.pick (.t 20) (.c (.bool true)) (.t 28))]
def H6l : List XO := [O1 2 (.mv (.c (.bool true)))]
def H6m : List XO := [O1 3 (.mv (c9 0))]
def H6n : List XO := [O3 30 3,O1 31 (.fldA 1 (.tf 1)),O1 32 (.load false 1 (.tf 31)),O8 33 32,O1 34 (.bin .lss .no (.t 30) (.t 33))]
def H6o : List XO := [O1 37 (.fldA 1 (.tf 1)),O1 38 (.load false 1 (.tf 37)),O3 39 3,O7 40 3 38 39,O5 41 2 40,O4 42 1 41,O8 43 42,O1 44 (.bin .gtr .no (.t 43) (c9 10))]
def H6p : List XO := [O1 2 (.mv (.c (.bool true)))]
def H6q : List XO := [O3 35 3,O1 36 (.bin .add .no (.t 35) (c9 1)),O3 3 36]
def G7w : XCode :=
 (.seq (.seq (.reg H6n) (.cond (.t 34) .skip (.exit 0))) (.seq (.block 1 (.seq (.reg H6o) (.cond (.t 44) (.seq (.reg H6p) .ret) .skip))) (.reg H6q)))
def H6r : List XO := [O1 2 (.mv (.c (.bool false)))]
def x_l06_Far : XFunc := { np := 1, res := [.t 2], body :=
 (.seq (.reg H6j) (.seq (.seq (.reg H6k) (.cond (.t 29) (.seq (.reg H6l) .ret) .skip)) (.seq (.seq (.reg H6m) (.block 0 (.loop G7w))) (.seq (.reg H6r) .ret)))) }
def H7p : List XO := [O1 1 (.boxF (.t 0)),O1 2 (.mv (c9 0))]
def H7q : List XO := [O1 12 (.fldA 3 (.tf 1)),O1 13 (.load false 1 (.tf 12)),O1 14 (.call "newel/newelref06.within" [.t 13, (c9 1), (c9 100)]),O1 15 (.un .not (.t 14)),O3 16 15,O9 17 16 false (.fldA 0 (.tf 1)),O9 18 16 false (.load false 1 (.tf 17)),O9 19 16 false (.len false (.t 18)),O9 20 16 false (.call "newel/newelref06.within" [.t 19, (c9 1), (c9 8)]),O9 21 16 false (.un .not (.t 20)),O1 22 (.pick (.t 16) (.c (.bool true)) (.t 21)),O3 23 22,O9 24 23 false (.fldA 1 (.tf 1)),O9 25 23 false (.load false 1 (.tf 24)),O9 26 23 false (.len false (.t 25)),O9 27 23 false (.bin .gtr .no (.t 26) (c9 12)),O1 28 (.pick (.t 23) (.c (.bool true)) (.t 27)),O3 29 28,O9 30 29 false (.fldA 2 (.tf 1)),O9 31 29 false (.load false 1 (.tf 30)),O9 32 29 false (.len false (.t 31)),O9 33 29 false (.bin .gtr .no (.t 32) (c9 20)),O1 34 (.pick (.t 29) (.c (.bool true)) (.t 33))]
def H70 : List XO := [O1 2 (.mv (c9 60))]
def H79 : List XO := [O1 35 (.fldA 0 (.tf 1)),O1 36 (.load false 1 (.tf 35)),O8 37 36,O3 3 37]
def H8d : List XO := [O1 4 (.mv (c9 0))]
def H8e : List XO := [O3 38 4,O3 39 3,O1 40 (.bin .lss .no (.t 38) (.t 39))]
def H8f : List XO := [O1 43 (.fldA 0 (.tf 1)),O1 44 (.load false 1 (.tf 43)),O3 45 4,O7 46 5 44 45,O6 47 5 46,O1 5 (.alloc [(.int .i64 0), (.int .i64 0), (.int .i64 0), (.int .i64 0), (.int .i64 0)]),O2 (.store 5 (.t 5) (.t 47))]
def H8g : List XO := [O5 48 0 5,O4 49 1 48,O1 50 (.call "newel/newelref06.within" [.t 49, (c9 0), (c9 1000)]),O1 51 (.un .not (.t 50)),O3 52 51,O9 53 52 false (.fldA 1 (.t 5)),O9 54 52 false (.load false 1 (.t 53)),O9 55 52 false (.call "newel/newelref06.within" [.t 54, (c9 0), (c9 100000)]),O9 56 52 false (.un .not (.t 55)),O1 57 (.pick (.t 52) (.c (.bool true)) (.t 56)),O3 58 57,O9 59 58 false (.fldA 2 (.t 5)),O9 60 58 false (.load false 1 (.t 59)),O9 61 58 false (.bin .neq .no (.t 60) (.c (.int .i64 (-1)))),O9 62 58 false (.mv (.t 61)),O9 63 62 true (.fldA 2 (.t 5)),O9 64 62 true (.load false 1 (.t 63)),O9 65 62 true (.mv (.t 4)),O9 66 62 true (.bin .add .no (.t 65) (c9 1)),O9 67 62 true (.mv (.t 3)),O9 68 62 true (.bin .sub .no (.t 67) (c9 1)),O9 69 62 true (.call "newel/newelref06.within" [.t 64, .t 66, .t 68]),O9 70 62 true (.un .not (.t 69)),O9 71 58 false (.pick (.t 62) (.t 70) (.c (.bool false))),O1 72 (.pick (.t 58) (.c (.bool true)) (.t 71)),O3 73 72,O9 74 73 false (.fldA 3 (.t 5)),O9 75 73 false (.load true 2 (.t 74)),O9 76 73 false (.call "newel/newelref06.spanned" [.t 75, (c9 1), (c9 20)]),O9 77 73 false (.un .not (.t 76)),O1 78 (.pick (.t 73) (.c (.bool true)) (.t 77))]
def H8h : List XO := [O1 2 (.mv (c9 60))]
def H8i : List XO := [O3 41 4,O1 42 (.bin .add .no (.t 41) (c9 1)),O3 4 42]
def G7z : XCode :=
 (.seq (.seq (.reg H8e) (.cond (.t 40) .skip (.exit 0))) (.seq (.block 1 (.seq (.reg H8f) (.seq (.reg H8g) (.cond (.t 78) (.seq (.reg H8h) .ret) .skip)))) (.reg H8i)))
def H7r : List XO := [O1 6 (.mv (c9 0))]
def H7s : List XO := [O3 79 6,O1 80 (.fldA 1 (.tf 1)),O1 81 (.load false 1 (.tf 80)),O8 82 81,O1 83 (.bin .lss .no (.t 79) (.t 82))]
def H7t : List XO := [O1 86 (.fldA 1 (.tf 1)),O1 87 (.load false 1 (.tf 86)),O3 88 6,O7 89 3 87 88,O6 90 3 89,O1 7 (.alloc [(.int .i64 0), (.int .i64 0), (.slice none 0 0)]),O2 (.store 3 (.t 7) (.t 90))]
def H7u : List XO := [O5 91 0 7,O6 92 2 91,O1 93 (.fldA 3 (.tf 1)),O1 94 (.load false 1 (.tf 93)),O1 95 (.bin .sub .no (.t 94) (c9 1)),O1 96 (.call "newel/newelref06.spanned" [.t 92, (c9 0), .t 95]),O1 97 (.un .not (.t 96)),O3 98 97,O9 99 98 false (.fldA 2 (.t 7)),O9 100 98 false (.load false 1 (.t 99)),O9 101 98 false (.len false (.t 100)),O9 102 98 false (.bin .gtr .no (.t 101) (c9 4)),O1 103 (.pick (.t 98) (.c (.bool true)) (.t 102))]
def H7v : List XO := [O1 2 (.mv (c9 60))]
def H7w : List XO := [O1 8 (.mv (.c (.int .i64 (-1))))]
def H7x : List XO := [O1 9 (.mv (c9 0))]
def H7y : List XO := [O3 104 9,O5 105 2 7,O4 106 1 105,O8 107 106,O1 108 (.bin .lss .no (.t 104) (.t 107))]
def H7z : List XO := [O5 111 2 7,O4 112 1 111,O3 113 9,O7 114 3 112 113,O5 115 0 114,O4 116 1 115,O3 117 8,O1 118 (.bin .add .no (.t 117) (c9 1)),O3 119 3,O1 120 (.bin .sub .no (.t 119) (c9 1)),O1 121 (.call "newel/newelref06.within" [.t 116, .t 118, .t 120]),O1 122 (.un .not (.t 121)),O3 123 122,O9 124 123 false (.fldA 2 (.t 7)),O9 125 123 false (.load false 1 (.t 124)),O9 126 123 false (.mv (.t 9)),O9 127 123 false (.ixA 3 (.t 125) (.t 126)),O9 128 123 false (.fldA 1 (.t 127)),O9 129 123 false (.load true 2 (.t 128)),O9 130 123 false (.call "newel/newelref06.spanned" [.t 129, (c9 0), (c9 1000)]),O9 131 123 false (.un .not (.t 130)),O1 132 (.pick (.t 123) (.c (.bool true)) (.t 131))]
def H71 : List XO := [O1 2 (.mv (c9 60))]
def H72 : List XO := [O5 133 2 7,O4 134 1 133,O3 135 9,O7 136 3 134 135,O5 137 0 136,O4 138 1 137,O3 8 138]
def H73 : List XO := [O3 109 9,O1 110 (.bin .add .no (.t 109) (c9 1)),O3 9 110]
def G70 : XCode :=
 (.seq (.seq (.reg H7y) (.cond (.t 108) .skip (.exit 4))) (.seq (.block 5 (.seq (.seq (.reg H7z) (.cond (.t 132) (.seq (.reg H71) .ret) .skip)) (.reg H72))) (.reg H73)))
def H74 : List XO := [O3 84 6,O1 85 (.bin .add .no (.t 84) (c9 1)),O3 6 85]
def G71 : XCode :=
 (.seq (.seq (.reg H7s) (.cond (.t 83) .skip (.exit 2))) (.seq (.block 3 (.seq (.reg H7t) (.seq (.seq (.reg H7u) (.cond (.t 103) (.seq (.reg H7v) .ret) .skip)) (.seq (.reg H7w) (.seq (.reg H7x) (.block 4 (.loop G70))))))) (.reg H74)))
def H75 : List XO := [O1 10 (.mv (c9 0))]
def H76 : List XO := [O3 139 10,O1 140 (.fldA 2 (.tf 1)),O1 141 (.load false 1 (.tf 140)),O8 142 141,O1 143 (.bin .lss .no (.t 139) (.t 142))]
def H77 : List XO := [O1 146 (.fldA 2 (.tf 1)),O1 147 (.load false 1 (.tf 146)),O3 148 10,O7 149 3 147 148,O6 150 3 149,O1 11 (.alloc [(.int .i64 0), (.int .i64 0), (.int .i64 0)]),O2 (.store 3 (.t 11) (.t 150))]
def H78 : List XO := [O5 151 0 11,O4 152 1 151,O1 153 (.fldA 3 (.tf 1)),O1 154 (.load false 1 (.tf 153)),O1 155 (.bin .sub .no (.t 154) (c9 1)),O1 156 (.call "newel/newelref06.within" [.t 152, (c9 0), .t 155]),O1 157 (.un .not (.t 156)),O3 158 157,O9 159 158 false (.fldA 1 (.t 11)),O9 160 158 false (.load false 1 (.t 159)),O9 161 158 false (.mv (.t 3)),O9 162 158 false (.bin .sub .no (.t 161) (c9 1)),O9 163 158 false (.call "newel/newelref06.within" [.t 160, (c9 0), .t 162]),O9 164 158 false (.un .not (.t 163)),O1 165 (.pick (.t 158) (.c (.bool true)) (.t 164)),O3 166 165,O9 167 166 false (.fldA 2 (.t 11)),O9 168 166 false (.load false 1 (.t 167)),O9 169 166 false (.call "newel/newelref06.within" [.t 168, (c9 0), (c9 1000)]),O9 170 166 false (.un .not (.t 169)),O1 171 (.pick (.t 166) (.c (.bool true)) (.t 170)),O3 172 171,O9 173 172 false (.mv (.t 10)),O9 174 172 false (.bin .gtr .no (.t 173) (c9 0)),O9 175 172 false (.mv (.t 174)),O9 176 175 true (.fldA 0 (.t 11)),O9 177 175 true (.load false 1 (.t 176)),O9 178 175 true (.fldA 2 (.tf 1)),O9 179 175 true (.load false 1 (.tf 178)),O9 180 175 true (.mv (.t 10)),O9 181 175 true (.bin .sub .no (.t 180) (c9 1)),O9 182 175 true (.ixA 3 (.t 179) (.t 181)),O9 183 175 true (.fldA 0 (.t 182)),O9 184 175 true (.load false 1 (.t 183)),O9 185 175 true (.bin .lss .no (.t 177) (.t 184)),O9 186 172 false (.pick (.t 175) (.t 185) (.c (.bool false))),O1 187 (.pick (.t 172) (.c (.bool true)) (.t 186))]
def H8a : List XO := [O1 2 (.mv (c9 60))]
def H8b : List XO := [O3 144 10,O1 145 (.bin .add .no (.t 144) (c9 1)),O3 10 145]
def G72 : XCode :=
 (.seq (.seq (.reg H76) (.cond (.t 143) .skip (.exit 6))) (.seq (.block 7 (.seq (.reg H77) (.seq (.reg H78) (.cond (.t 187) (.seq (.reg H8a) .ret) .skip)))) (.reg H8b)))
def H8c : List XO := [O1 2 (.mv (c9 0))]
def x_r06_Check : XFunc := { np := 1, res := [.t 2], body :=
 (.seq (.reg H7p) (.seq (.seq (.reg H7q) (.cond (.t 34) (.seq (.reg H70) .ret) .skip)) (.seq (.reg H79) (.seq (.seq (.reg H8d) (.block 0 (.loop G7z))) (.seq (.seq (.reg H7r) (.block 2 (.loop G71))) (.seq (.seq (.reg H75) (.block 6 (.loop G72))) (.seq (.reg H8c) .ret))))))) }
def H7l : List XO := [O1 0 (.mv (.c (.bool false)))]
def H7m : List XO := [O1 6 (.call "newel/newellaw06.Example" []),O1 7 (.call "newel/halls.Guard" [.t 6, (c9 0), (c9 5)]),O3 5 7,O1 8 (.ext (.t 5) 0),O1 9 (.ext (.t 5) 1),O3 1 8,O3 2 9]
def H7n : List XO := [O1 11 (.call "newel/newellaw06.Example" []),O1 12 (.call "newel/halls.Over" [.t 11]),O3 10 12,O1 13 (.ext (.t 10) 0),O1 14 (.ext (.t 10) 1),O3 3 13,O3 4 14]
def H7o : List XO := [O3 15 2,O1 16 (.bin .eql .no (.t 15) (c9 0)),O3 17 16,O9 18 17 true (.mv (.t 4)),O9 19 17 true (.bin .eql .no (.t 18) (c9 0)),O1 20 (.pick (.t 17) (.t 19) (.c (.bool false))),O3 21 20,O9 22 21 true (.mv (.t 1)),O9 23 21 true (.bin .eql .no (.t 22) (c9 1)),O1 24 (.pick (.t 21) (.t 23) (.c (.bool false))),O3 25 24,O9 26 25 true (.mv (.t 3)),O9 27 25 true (.len false (.t 26)),O9 28 25 true (.bin .eql .no (.t 27) (c9 1)),O1 29 (.pick (.t 25) (.t 28) (.c (.bool false))),O3 30 29,O9 31 30 true (.mv (.t 3)),O9 32 30 true (.ixA 2 (.t 31) (c9 0)),O9 33 30 true (.load true 2 (.t 32)),O9 34 30 true (.build [(.int .i64 0), (.int .i64 0)] [(0, 1, (c9 1)), (1, 1, (c9 7))]),O9 35 30 true (.bin .eql (.flat [.i, .i]) (.t 33) (.t 34)),O1 36 (.pick (.t 30) (.t 35) (.c (.bool false))),O3 0 36]
def x_l06_works : XFunc := { np := 0, res := [.t 0], body :=
 (.seq (.reg H7l) (.seq (.reg H7m) (.seq (.reg H7n) (.seq (.reg H7o) .ret)))) }
def H2v : List XO := [O1 3 (.boxF (.t 0)),O1 6 (.mv (c9 0)),O1 7 (.mv (c9 0))]
def H2w : List XO := [O1 11 (.load true 4 (.tf 3)),O3 12 1,O3 13 2,O1 14 (.bsl 1 [.t 13]),O1 15 (.call "newel/halls.check" [.t 11, .t 12, .t 14]),O3 8 15]
def H2z : List XO := [O3 16 8,O1 17 (.bin .neq .no (.t 16) (c9 0))]
def H20 : List XO := [O3 18 8,O1 6 (.mv (c9 0)),O3 7 18]
def H21 : List XO := [O1 19 (.load true 4 (.tf 3)),O1 20 (.callw "newel/halls.open" [.t 19]),O3 9 20]
def H22 : List XO := [O1 10 (.mv (c9 0))]
def H23 : List XO := [O1 23 (.load true 4 (.tf 3)),O1 24 (.load true 4 (.tf 3)),O3 25 9,O1 26 (.callw "newel/halls.bounds" [.t 24, .t 25]),O1 27 (.call "newel/halls.over" [.t 23, .t 26]),O8 28 27,O1 29 (.bin .eql .no (.t 28) (c9 0))]
def H24 : List XO := [O3 30 10,O3 6 30,O1 7 (.mv (c9 0))]
def H25 : List XO := [O3 31 2,O3 32 10,O1 33 (.bin .add .no (.t 31) (.t 32)),O1 34 (.fldA 3 (.tf 3)),O1 35 (.load false 1 (.tf 34)),O1 36 (.bin .eql .no (.t 33) (.t 35))]
def H26 : List XO := [O1 6 (.mv (c9 0)),O1 7 (.mv (c9 3))]
def H2x : List XO := [O3 37 9,O3 38 1,O7 39 1 37 38,O4 40 1 39,O3 41 2,O3 42 10,O1 43 (.bin .add .no (.t 41) (.t 42)),O7 44 1 40 43,O2 (.store 1 (.t 44) (c9 0))]
def H2y : List XO := [O3 21 10,O1 22 (.bin .add .no (.t 21) (c9 1)),O3 10 22]
def G7i : XCode :=
 (.seq (.block 1 (.seq (.seq (.reg H23) (.cond (.t 29) (.seq (.reg H24) .ret) .skip)) (.seq (.seq (.reg H25) (.cond (.t 36) (.seq (.reg H26) .ret) .skip)) (.reg H2x)))) (.reg H2y))
def x_halls_Guard : XFunc := { np := 3, res := [.t 6, .t 7], body :=
 (.seq (.reg H2v) (.seq (.seq (.reg H2w) (.seq (.reg H2z) (.cond (.t 17) (.seq (.reg H20) .ret) .skip))) (.seq (.reg H21) (.seq (.reg H22) (.block 0 (.loop G7i)))))) }
def H3c : List XO := [O1 1 (.boxF (.t 0)),O1 2 (.mv (.c (.slice none 0 0))),O1 3 (.mv (c9 0))]
def H3d : List XO := [O1 5 (.load true 4 (.tf 1)),O1 6 (.call "newel/halls.Check" [.t 5]),O3 4 6]
def H3e : List XO := [O3 7 4,O1 8 (.bin .neq .no (.t 7) (c9 0))]
def H3f : List XO := [O3 9 4,O1 2 (.mv (.c (.slice none 0 0))),O3 3 9]
def H3g : List XO := [O1 10 (.load true 4 (.tf 1)),O1 11 (.load true 4 (.tf 1)),O1 12 (.load true 4 (.tf 1)),O1 13 (.callw "newel/halls.open" [.t 12]),O1 14 (.callw "newel/halls.bounds" [.t 11, .t 13]),O1 15 (.call "newel/halls.over" [.t 10, .t 14]),O3 2 15,O1 3 (.mv (c9 0))]
def x_halls_Over : XFunc := { np := 1, res := [.t 2, .t 3], body :=
 (.seq (.reg H3c) (.seq (.seq (.reg H3d) (.seq (.reg H3e) (.cond (.t 8) (.seq (.reg H3f) .ret) .skip))) (.seq (.reg H3g) .ret))) }
def H7b : List XO := [O1 1 (.boxF (.t 0)),O1 2 (.alloc [(.slice none 0 0), (.slice none 0 0), (.slice none 0 0), (.int .i64 0)])]
def H7c : List XO := [O1 5 (.load true 4 (.tf 1)),O1 3 (.alloc [(.slice none 0 0), (.slice none 0 0), (.slice none 0 0), (.int .i64 0)]),O2 (.store 4 (.t 3) (.t 5))]
def H7e : List XO := [O1 6 (.bsl 5 []),O1 7 (.fldA 0 (.tf 1)),O1 8 (.load false 1 (.tf 7)),O1 9 (.app 5 40 (.t 6) (.t 8)),O5 10 0 3,O2 (.store 1 (.t 10) (.t 9))]
def H7f : List XO := [O1 11 (.bsl 3 []),O1 12 (.fldA 2 (.tf 1)),O1 13 (.load false 1 (.tf 12)),O1 14 (.app 3 24 (.t 11) (.t 13)),O5 15 2 3,O2 (.store 1 (.t 15) (.t 14))]
def H7g : List XO := [O5 16 1 3,O2 (.store 1 (.t 16) (.c (.slice none 0 0)))]
def H7h : List XO := [O1 4 (.mv (c9 0))]
def H7i : List XO := [O3 17 4,O1 18 (.fldA 1 (.tf 1)),O1 19 (.load false 1 (.tf 18)),O8 20 19,O1 21 (.bin .lss .no (.t 17) (.t 20))]
def H7j : List XO := [O5 24 1 3,O4 25 1 24,O1 26 (.fldA 1 (.tf 1)),O1 27 (.load false 1 (.tf 26)),O3 28 4,O7 29 3 27 28,O5 30 0 29,O6 31 2 30,O1 32 (.bsl 3 []),O1 33 (.fldA 1 (.tf 1)),O1 34 (.load false 1 (.tf 33)),O3 35 4,O7 36 3 34 35,O5 37 2 36,O4 38 1 37,O1 39 (.app 3 24 (.t 32) (.t 38)),O1 40 (.build [(.int .i64 0), (.int .i64 0), (.slice none 0 0)] [(0, 2, (.t 31)), (2, 1, (.t 39))]),O1 41 (.bsl 3 [.t 40]),O1 42 (.app 3 40 (.t 25) (.t 41)),O5 43 1 3,O2 (.store 1 (.t 43) (.t 42))]
def H7k : List XO := [O3 22 4,O1 23 (.bin .add .no (.t 22) (c9 1)),O3 4 23]
def G7y : XCode :=
 (.seq (.seq (.reg H7i) (.cond (.t 21) .skip (.exit 0))) (.seq (.block 1 (.seq (.reg H7j) .ghost)) (.reg H7k)))
def H7d : List XO := [O6 44 4 3,O2 (.store 4 (.t 2) (.t 44))]
def x_l06_copied : XFunc := { np := 1, res := [.cell 2 true 4], body :=
 (.seq (.reg H7b) (.seq (.reg H7c) (.seq (.reg H7e) (.seq (.reg H7f) (.seq (.reg H7g) (.seq (.seq (.reg H7h) (.block 0 (.loop G7y))) (.seq (.reg H7d) .ret))))))) }
def H27 : List XO := [O1 2 (.boxF (.t 0)),O1 4 (.mv (.c (.slice none 0 0))),O1 5 (.mv (c9 0))]
def H28 : List XO := [O1 7 (.load true 4 (.tf 2)),O3 8 1,O1 9 (.call "newel/halls.check" [.t 7, .t 8, (.c (.slice none 0 0))]),O3 6 9]
def H29 : List XO := [O3 10 6,O1 11 (.bin .neq .no (.t 10) (c9 0))]
def H3a : List XO := [O3 12 6,O1 4 (.mv (.c (.slice none 0 0))),O3 5 12]
def H3b : List XO := [O1 13 (.load true 4 (.tf 2)),O1 14 (.load true 4 (.tf 2)),O1 15 (.callw "newel/halls.open" [.t 14]),O1 16 (.callw "newel/halls.bounds" [.t 13, .t 15]),O3 17 1,O7 18 1 16 17,O4 19 1 18,O1 20 (.nilck (.t 19)),O5 21 2 20,O4 22 1 21,O3 4 22,O1 5 (.mv (c9 0))]
def x_halls_Most : XFunc := { np := 2, res := [.t 4, .t 5], body :=
 (.seq (.reg H27) (.seq (.seq (.reg H28) (.seq (.reg H29) (.cond (.t 11) (.seq (.reg H3a) .ret) .skip))) (.seq (.reg H3b) .ret))) }
def H2d : List XO := [O1 1 (.boxF (.t 0)),O1 2 (.mv (c9 0))]
def H2e : List XO := [O1 6 (.fldA 3 (.tf 1)),O1 7 (.load false 1 (.tf 6)),O1 8 (.bin .lss .no (.t 7) (c9 1)),O3 9 8,O9 10 9 false (.fldA 3 (.tf 1)),O9 11 9 false (.load false 1 (.tf 10)),O9 12 9 false (.bin .gtr .no (.t 11) (c9 100)),O1 13 (.pick (.t 9) (.c (.bool true)) (.t 12)),O3 14 13,O9 15 14 false (.fldA 0 (.tf 1)),O9 16 14 false (.load false 1 (.tf 15)),O9 17 14 false (.len false (.t 16)),O9 18 14 false (.bin .lss .no (.t 17) (c9 1)),O1 19 (.pick (.t 14) (.c (.bool true)) (.t 18)),O3 20 19,O9 21 20 false (.fldA 0 (.tf 1)),O9 22 20 false (.load false 1 (.tf 21)),O9 23 20 false (.len false (.t 22)),O9 24 20 false (.bin .gtr .no (.t 23) (c9 8)),O1 25 (.pick (.t 20) (.c (.bool true)) (.t 24)),O3 26 25,O9 27 26 false (.fldA 1 (.tf 1)),O9 28 26 false (.load false 1 (.tf 27)),O9 29 26 false (.len false (.t 28)),O9 30 26 false (.bin .gtr .no (.t 29) (c9 12)),O1 31 (.pick (.t 26) (.c (.bool true)) (.t 30)),O3 32 31,O9 33 32 false (.fldA 2 (.tf 1)),O9 34 32 false (.load false 1 (.tf 33)),O9 35 32 false (.len false (.t 34)),O9 36 32 false (.bin .gtr .no (.t 35) (c9 20)),O1 37 (.pick (.t 32) (.c (.bool true)) (.t 36))]
def H2o : List XO := [O1 2 (.mv (c9 60))]
def H2p : List XO := [O1 38 (.fldA 0 (.tf 1)),O1 39 (.load false 1 (.tf 38)),O8 40 39,O1 41 (.mv (c9 0))]
def H2q : List XO := [O1 42 (.bin .lss .no (.t 41) (.t 40))]
def H2r : List XO := [O3 43 41,O3 3 43]
def H2s : List XO := [O1 44 (.load true 4 (.tf 1)),O3 45 3,O1 46 (.call "newel/halls.isComb" [.t 44, .t 45]),O1 47 (.un .not (.t 46))]
def H2t : List XO := [O1 2 (.mv (c9 60))]
def H2u : List XO := [O1 48 (.bin .add .no (.t 41) (c9 1)),O3 41 48]
def G7h : XCode :=
 (.seq (.reg H2q) (.seq (.cond (.t 42) .skip (.exit 0)) (.seq (.block 1 (.seq (.reg H2r) (.seq (.reg H2s) (.cond (.t 47) (.seq (.reg H2t) .ret) .skip)))) (.reg H2u))))
def H2f : List XO := [O1 49 (.fldA 1 (.tf 1)),O1 50 (.load false 1 (.tf 49)),O1 51 (.mkfn "newel/halls.Check$1" [] [.t 1]),O1 52 (.call "slices.ContainsFunc[[]newel/api.Train,newel/api.Train]" [.t 50, .t 51])]
def H2g : List XO := [O1 2 (.mv (c9 60))]
def H2h : List XO := [O1 53 (.fldA 2 (.tf 1)),O1 54 (.load false 1 (.tf 53)),O8 55 54,O1 56 (.mv (c9 0))]
def H2i : List XO := [O1 57 (.bin .lss .no (.t 56) (.t 55))]
def H2j : List XO := [O3 58 56,O7 59 3 54 56,O6 60 3 59,O1 5 (.alloc [(.int .i64 0), (.int .i64 0), (.int .i64 0)]),O3 4 58,O2 (.store 3 (.t 5) (.t 60))]
def H2k : List XO := [O5 61 0 5,O4 62 1 61,O1 63 (.bin .lss .no (.t 62) (c9 0)),O3 64 63,O9 65 64 false (.fldA 0 (.t 5)),O9 66 64 false (.load false 1 (.t 65)),O9 67 64 false (.fldA 3 (.tf 1)),O9 68 64 false (.load false 1 (.tf 67)),O9 69 64 false (.bin .geq .no (.t 66) (.t 68)),O1 70 (.pick (.t 64) (.c (.bool true)) (.t 69)),O3 71 70,O9 72 71 false (.mv (.t 4)),O9 73 71 false (.bin .gtr .no (.t 72) (c9 0)),O9 74 71 false (.mv (.t 73)),O9 75 74 true (.fldA 0 (.t 5)),O9 76 74 true (.load false 1 (.t 75)),O9 77 74 true (.fldA 2 (.tf 1)),O9 78 74 true (.load false 1 (.tf 77)),O9 79 74 true (.mv (.t 4)),O9 80 74 true (.bin .sub .no (.t 79) (c9 1)),O9 81 74 true (.ixA 3 (.t 78) (.t 80)),O9 82 74 true (.fldA 0 (.t 81)),O9 83 74 true (.load false 1 (.t 82)),O9 84 74 true (.bin .lss .no (.t 76) (.t 83)),O9 85 71 false (.pick (.t 74) (.t 84) (.c (.bool false))),O1 86 (.pick (.t 71) (.c (.bool true)) (.t 85)),O3 87 86,O9 88 87 false (.fldA 1 (.t 5)),O9 89 87 false (.load false 1 (.t 88)),O9 90 87 false (.bin .lss .no (.t 89) (c9 0)),O1 91 (.pick (.t 87) (.c (.bool true)) (.t 90)),O3 92 91,O9 93 92 false (.fldA 1 (.t 5)),O9 94 92 false (.load false 1 (.t 93)),O9 95 92 false (.fldA 0 (.tf 1)),O9 96 92 false (.load false 1 (.tf 95)),O9 97 92 false (.len false (.t 96)),O9 98 92 false (.bin .geq .no (.t 94) (.t 97)),O1 99 (.pick (.t 92) (.c (.bool true)) (.t 98)),O3 100 99,O9 101 100 false (.fldA 2 (.t 5)),O9 102 100 false (.load false 1 (.t 101)),O9 103 100 false (.build [(.int .i64 0), (.int .i64 0)] [(1, 1, (c9 1000))]),O9 104 100 false (.call "newel/halls.in" [.t 102, .t 103]),O9 105 100 false (.un .not (.t 104)),O1 106 (.pick (.t 100) (.c (.bool true)) (.t 105))]
def H2l : List XO := [O1 2 (.mv (c9 60))]
def H2m : List XO := [O1 107 (.bin .add .no (.t 56) (c9 1)),O3 56 107]
def G7g : XCode :=
 (.seq (.reg H2i) (.seq (.cond (.t 57) .skip (.exit 2)) (.seq (.block 3 (.seq (.reg H2j) (.seq (.reg H2k) (.cond (.t 106) (.seq (.reg H2l) .ret) .skip)))) (.reg H2m))))
def H2n : List XO := [O1 2 (.mv (c9 0))]
def x_halls_Check : XFunc := { np := 1, res := [.t 2], body :=
 (.seq (.reg H2d) (.seq (.seq (.reg H2e) (.cond (.t 37) (.seq (.reg H2o) .ret) .skip)) (.seq (.seq (.reg H2p) (.block 0 (.loop G7h))) (.seq (.seq (.reg H2f) (.cond (.t 52) (.seq (.reg H2g) .ret) .skip)) (.seq (.seq (.reg H2h) (.block 2 (.loop G7g))) (.seq (.reg H2n) .ret)))))) }
def H8l : List XO := [O1 6 (.mv (.c (.bool false)))]
def H8m : List XO := [O3 7 0,O3 8 1,O1 9 (.bin .geq .no (.t 7) (.t 8)),O3 10 9,O9 11 10 true (.mv (.t 0)),O9 12 10 true (.mv (.t 2)),O9 13 10 true (.bin .leq .no (.t 11) (.t 12)),O1 14 (.pick (.t 10) (.t 13) (.c (.bool false))),O3 6 14]
def x_r06_within : XFunc := { np := 3, res := [.t 6], body :=
 (.seq (.reg H8l) (.seq (.reg H8m) .ret)) }
def H8j : List XO := [O1 3 (.boxF (.t 0)),O1 6 (.mv (.c (.bool false)))]
def H8k : List XO := [O1 7 (.fldA 0 (.tf 3)),O1 8 (.load false 1 (.tf 7)),O3 9 1,O1 10 (.bin .geq .no (.t 8) (.t 9)),O3 11 10,O9 12 11 true (.fldA 0 (.tf 3)),O9 13 11 true (.load false 1 (.tf 12)),O9 14 11 true (.fldA 1 (.tf 3)),O9 15 11 true (.load false 1 (.tf 14)),O9 16 11 true (.bin .leq .no (.t 13) (.t 15)),O1 17 (.pick (.t 11) (.t 16) (.c (.bool false))),O3 18 17,O9 19 18 true (.fldA 1 (.tf 3)),O9 20 18 true (.load false 1 (.tf 19)),O9 21 18 true (.mv (.t 2)),O9 22 18 true (.bin .leq .no (.t 20) (.t 21)),O1 23 (.pick (.t 18) (.t 22) (.c (.bool false))),O3 6 23]
def x_r06_spanned : XFunc := { np := 3, res := [.t 6], body :=
 (.seq (.reg H8j) (.seq (.reg H8k) .ret)) }
def H6h : List XO := [O1 0 (.alloc [(.slice none 0 0), (.slice none 0 0), (.slice none 0 0), (.int .i64 0)])]
def H6i : List XO := [O1 1 (.build [(.int .i64 0), (.int .i64 0)] [(0, 1, (c9 2)), (1, 1, (c9 3))]),O1 2 (.build [(.int .i64 0), (.int .i64 0), (.int .i64 0), (.int .i64 0), (.int .i64 0)] [(0, 1, (c9 3)), (1, 1, (c9 12)), (2, 1, (c9 1)), (3, 2, (.t 1))]),O1 3 (.build [(.int .i64 0), (.int .i64 0)] [(0, 1, (c9 1)), (1, 1, (c9 1))]),O1 4 (.build [(.int .i64 0), (.int .i64 0), (.int .i64 0), (.int .i64 0), (.int .i64 0)] [(0, 1, (c9 2)), (1, 1, (c9 10)), (2, 1, (.c (.int .i64 (-1)))), (3, 2, (.t 3))]),O1 5 (.bsl 5 [.t 2, .t 4]),O1 6 (.build [(.int .i64 0), (.int .i64 0)] [(0, 1, (c9 2)), (1, 1, (c9 4))]),O1 7 (.build [(.int .i64 0), (.int .i64 0)] [(0, 1, (c9 6)), (1, 1, (c9 10))]),O1 8 (.build [(.int .i64 0), (.int .i64 0), (.int .i64 0)] [(1, 2, (.t 7))]),O1 9 (.bsl 3 [.t 8]),O1 10 (.build [(.int .i64 0), (.int .i64 0), (.slice none 0 0)] [(0, 2, (.t 6)), (2, 1, (.t 9))]),O1 11 (.build [(.int .i64 0), (.int .i64 0)] [(0, 1, (c9 5)), (1, 1, (c9 5))]),O1 12 (.build [(.int .i64 0), (.int .i64 0)] [(1, 1, (c9 4))]),O1 13 (.build [(.int .i64 0), (.int .i64 0), (.int .i64 0)] [(1, 2, (.t 12))]),O1 14 (.build [(.int .i64 0), (.int .i64 0)] [(0, 1, (c9 3)), (1, 1, (c9 3))]),O1 15 (.build [(.int .i64 0), (.int .i64 0), (.int .i64 0)] [(0, 1, (c9 1)), (1, 2, (.t 14))]),O1 16 (.bsl 3 [.t 13, .t 15]),O1 17 (.build [(.int .i64 0), (.int .i64 0), (.slice none 0 0)] [(0, 2, (.t 11)), (2, 1, (.t 16))]),O1 18 (.bsl 3 [.t 10, .t 17]),O1 19 (.build [(.slice none 0 0), (.slice none 0 0), (.slice none 0 0), (.int .i64 0)] [(0, 1, (.t 5)), (1, 1, (.t 18)), (3, 1, (c9 20))]),O2 (.store 4 (.t 0) (.t 19))]
def x_l06_Example : XFunc := { np := 0, res := [.cell 0 true 4], body :=
 (.seq (.reg H6h) (.seq (.reg H6i) .ret)) }
def H4y : List XO := [O1 3 (.boxF (.t 0)),O1 6 (.mv (c9 0))]
def H4z : List XO := [O1 8 (.load true 4 (.tf 3)),O1 9 (.call "newel/halls.Check" [.t 8]),O3 7 9]
def H40 : List XO := [O3 10 7,O1 11 (.bin .neq .no (.t 10) (c9 0))]
def H41 : List XO := [O3 12 7,O3 6 12]
def H42 : List XO := [O3 13 1,O1 14 (.bin .lss .no (.t 13) (c9 0)),O3 15 14,O9 16 15 false (.mv (.t 1)),O9 17 15 false (.fldA 0 (.tf 3)),O9 18 15 false (.load false 1 (.tf 17)),O9 19 15 false (.len false (.t 18)),O9 20 15 false (.bin .geq .no (.t 16) (.t 19)),O1 21 (.pick (.t 15) (.c (.bool true)) (.t 20)),O3 22 21,O9 23 22 false (.mv (.t 2)),O9 24 22 false (.mkfn "newel/halls.check$1" [] [.t 3]),O9 25 22 false (.call "slices.ContainsFunc[[]int,int]" [.t 23, .t 24]),O1 26 (.pick (.t 22) (.c (.bool true)) (.t 25))]
def H43 : List XO := [O1 6 (.mv (c9 1))]
def H44 : List XO := [O1 6 (.mv (c9 0))]
def x_halls_check : XFunc := { np := 3, res := [.t 6], body :=
 (.seq (.reg H4y) (.seq (.seq (.reg H4z) (.seq (.reg H40) (.cond (.t 11) (.seq (.reg H41) .ret) .skip))) (.seq (.seq (.reg H42) (.cond (.t 26) (.seq (.reg H43) .ret) .skip)) (.seq (.reg H44) .ret)))) }
def H5k : List XO := [O1 1 (.boxF (.t 0)),O1 2 (.mv (.c (.slice none 0 0)))]
def H5l : List XO := [O1 4 (.fldA 0 (.tf 1)),O1 5 (.load false 1 (.tf 4)),O8 6 5,O1 7 (.mv (c9 0))]
def H5m : List XO := [O1 8 (.bin .lss .no (.t 7) (.t 6))]
def H5n : List XO := [O3 9 7,O3 3 9]
def H5o : List XO := [O3 10 2,O1 11 (.load true 4 (.tf 1)),O3 12 3,O1 13 (.call "newel/halls.rates" [.t 11, .t 12]),O1 14 (.bsl 1 [.t 13]),O1 15 (.app 1 24 (.t 10) (.t 14)),O3 2 15]
def H5p : List XO := [O1 16 (.bin .add .no (.t 7) (c9 1)),O3 7 16]
def G7s : XCode :=
 (.seq (.reg H5m) (.seq (.cond (.t 8) .skip (.exit 0)) (.seq (.block 1 (.seq (.reg H5n) (.seq (.reg H5o) .ghost))) (.reg H5p))))
def H5q : List XO := [O3 17 2,O3 2 17]
def x_halls_open : XFunc := { np := 1, res := [.t 2], body :=
 (.seq (.reg H5k) (.seq (.seq (.reg H5l) (.block 0 (.loop G7s))) (.seq (.reg H5q) .ret))) }
def H5t : List XO := [O1 2 (.boxF (.t 0)),O1 4 (.mv (.c (.slice none 0 0)))]
def H5u : List XO := [O3 8 1,O8 9 8,O1 10 (.mv (c9 0))]
def H5v : List XO := [O1 11 (.bin .lss .no (.t 10) (.t 9))]
def H5w : List XO := [O3 12 10,O7 13 1 8 10,O4 14 1 13,O1 5 (.alloc [(.int .i64 0)]),O2 (.store 1 (.t 5) (.t 12)),O3 6 14]
def H5x : List XO := [O3 15 6,O1 16 (.nilck (.t 15)),O5 17 2 16,O4 18 1 17,O1 19 (.mkfn "newel/halls.over$1" [] [.t 2, .t 5]),O1 20 (.call "slices.IndexFunc[[]int,int]" [.t 18, .t 19]),O3 7 20]
def H5y : List XO := [O3 21 7,O1 22 (.bin .geq .no (.t 21) (c9 0))]
def H5z : List XO := [O3 23 4,O4 24 1 5,O3 25 7,O1 26 (.build [(.int .i64 0), (.int .i64 0)] [(0, 1, (.t 24)), (1, 1, (.t 25))]),O1 27 (.bsl 2 [.t 26]),O1 28 (.app 2 16 (.t 23) (.t 27)),O3 4 28]
def H50 : List XO := [O1 29 (.bin .add .no (.t 10) (c9 1)),O3 10 29]
def G7t : XCode :=
 (.seq (.reg H5v) (.seq (.cond (.t 11) .skip (.exit 0)) (.seq (.block 1 (.seq (.reg H5w) (.seq (.reg H5x) (.seq (.reg H5y) (.cond (.t 22) (.reg H5z) .skip))))) (.reg H50))))
def H51 : List XO := [O3 30 4,O3 4 30]
def x_halls_over : XFunc := { np := 2, res := [.t 4], body :=
 (.seq (.reg H5t) (.seq (.seq (.reg H5u) (.block 0 (.loop G7t))) (.seq (.reg H51) .ret))) }
def H3h : List XO := [O1 2 (.boxF (.t 0)),O1 4 (.mv (.c (.slice none 0 0)))]
def H3i : List XO := [O1 5 (.mv (.c (.slice none 0 0)))]
def H3s : List XO := [O1 16 (.fldA 0 (.tf 2)),O1 17 (.load false 1 (.tf 16)),O8 18 17,O1 19 (.mv (c9 0))]
def H31 : List XO := [O1 20 (.bin .lss .no (.t 19) (.t 18))]
def H4a : List XO := [O3 21 19,O3 6 21]
def H4e : List XO := [O1 22 (.bsl 1 [(c9 0)]),O1 23 (.bsl 1 [(c9 0)]),O1 24 (.build [(.slice none 0 0), (.slice none 0 0), (.slice none 0 0), (.slice none 0 0)] [(0, 1, (.t 22)), (1, 1, (.t 23))]),O1 25 (.box (.t 24)),O3 7 25]
def H4f : List XO := [O1 26 (.fldA 3 (.tf 2)),O1 27 (.load false 1 (.tf 26)),O1 28 (.mv (c9 0))]
def H4g : List XO := [O1 29 (.bin .lss .no (.t 28) (.t 27))]
def H4h : List XO := [O3 30 28,O3 8 30]
def H4i : List XO := [O1 31 (.fldA 3 (.tf 2)),O1 32 (.load false 1 (.tf 31)),O1 33 (.mksl 1 [(.int .i64 0)] 8 (.t 32) (.t 32)),O3 9 33]
def H3j : List XO := [O3 34 8,O3 10 34]
def H3k : List XO := [O3 35 10,O1 36 (.fldA 3 (.tf 2)),O1 37 (.load false 1 (.tf 36)),O1 38 (.bin .lss .no (.t 35) (.t 37))]
def H3l : List XO := [O3 41 9,O3 42 10,O1 43 (.load true 4 (.tf 2)),O3 44 6,O3 45 8,O3 46 10,O1 47 (.call "newel/halls.brought" [.t 43, .t 44, .t 45, .t 46]),O7 48 1 41 42,O2 (.store 1 (.t 48) (.t 47))]
def H3m : List XO := [O1 49 (.fldA 0 (.tf 2)),O1 50 (.load false 1 (.tf 49)),O3 51 6,O1 52 (.slc 5 (.t 50) none (some (.t 51))),O8 53 52,O1 54 (.mv (c9 0))]
def H3n : List XO := [O1 55 (.bin .lss .no (.t 54) (.t 53))]
def H3o : List XO := [O3 56 54,O7 57 5 52 54,O6 58 5 57,O1 12 (.alloc [(.int .i64 0), (.int .i64 0), (.int .i64 0), (.int .i64 0), (.int .i64 0)]),O3 11 56,O2 (.store 5 (.t 12) (.t 58))]
def H3p : List XO := [O5 59 2 12,O4 60 1 59,O3 61 6,O1 62 (.bin .eql .no (.t 60) (.t 61))]
def H3q : List XO := [O3 63 9,O3 64 10,O7 65 1 63 64,O4 66 1 65,O3 67 5,O3 68 11,O7 69 1 67 68,O4 70 1 69,O3 71 8,O5 72 3 12,O5 73 1 72,O4 74 1 73,O1 75 (.bin .sub .no (.t 71) (.t 74)),O3 76 10,O5 77 3 12,O5 78 0 77,O4 79 1 78,O1 80 (.bin .sub .no (.t 76) (.t 79)),O1 81 (.call "(*newel/halls.bound).passes" [.t 70, .t 75, .t 80]),O1 82 (.bin .add .no (.t 66) (.t 81)),O7 83 1 63 64,O2 (.store 1 (.t 83) (.t 82))]
def H3r : List XO := [O1 84 (.bin .add .no (.t 54) (c9 1)),O3 54 84]
def G7j : XCode :=
 (.seq (.reg H3n) (.seq (.cond (.t 55) .skip (.exit 6)) (.seq (.block 7 (.seq (.reg H3o) (.seq (.reg H3p) (.cond (.t 62) (.reg H3q) .skip)))) (.reg H3r))))
def H3t : List XO := [O3 39 10,O1 40 (.bin .add .no (.t 39) (c9 1)),O3 10 40]
def G7k : XCode :=
 (.seq (.seq (.reg H3k) (.cond (.t 38) .skip (.exit 4))) (.seq (.block 5 (.seq (.reg H3l) (.seq (.reg H3m) (.block 6 (.loop G7j))))) (.reg H3t)))
def H3u : List XO := [O3 85 7,O3 86 7,O1 87 (.nilck (.t 86)),O5 88 3 87,O4 89 1 88,O3 90 9,O1 91 (.bsl 1 [.t 90]),O1 92 (.app 1 24 (.t 89) (.t 91)),O1 93 (.nilck (.t 85)),O5 94 3 93,O2 (.store 1 (.t 94) (.t 92))]
def H3v : List XO := [O3 95 7,O3 96 7,O1 97 (.nilck (.t 96)),O5 98 0 97,O4 99 1 98,O3 100 7,O1 101 (.nilck (.t 100)),O5 102 0 101,O4 103 1 102,O3 104 8,O7 105 1 103 104,O4 106 1 105,O3 107 1,O3 108 6,O7 109 1 107 108,O4 110 1 109,O3 111 8,O7 112 1 110 111,O4 113 1 112,O1 114 (.bin .add .no (.t 106) (.t 113)),O1 115 (.bsl 1 [.t 114]),O1 116 (.app 1 8 (.t 99) (.t 115)),O1 117 (.nilck (.t 95)),O5 118 0 117,O2 (.store 1 (.t 118) (.t 116))]
def H3w : List XO := [O1 119 (.bin .add .no (.t 28) (c9 1)),O3 28 119]
def G7l : XCode :=
 (.seq (.reg H4g) (.seq (.cond (.t 29) .skip (.exit 2)) (.seq (.block 3 (.seq (.reg H4h) (.seq (.reg H4i) (.seq (.seq (.reg H3j) (.block 4 (.loop G7k))) (.seq (.seq .ghost (.reg H3u)) (.reg H3v)))))) (.reg H3w))))
def H3x : List XO := [O1 120 (.fldA 3 (.tf 2)),O1 121 (.load false 1 (.tf 120)),O1 122 (.mv (c9 0))]
def H3y : List XO := [O1 123 (.bin .lss .no (.t 122) (.t 121))]
def H3z : List XO := [O3 124 122,O3 13 124]
def H30 : List XO := [O1 14 (.mv (c9 0))]
def H32 : List XO := [O3 125 13,O1 126 (.bin .add .no (.t 125) (c9 1)),O1 127 (.mv (c9 0))]
def H33 : List XO := [O1 128 (.bin .lss .no (.t 127) (.t 126))]
def H34 : List XO := [O3 129 127,O3 15 129]
def H35 : List XO := [O3 130 14,O3 131 7,O1 132 (.nilck (.t 131)),O5 133 3 132,O4 134 1 133,O3 135 15,O7 136 1 134 135,O4 137 1 136,O3 138 13,O7 139 1 137 138,O4 140 1 139,O3 141 7,O1 142 (.nilck (.t 141)),O5 143 0 142,O4 144 1 143,O3 145 13,O7 146 1 144 145,O4 147 1 146,O3 148 7,O1 149 (.nilck (.t 148)),O5 150 0 149,O4 151 1 150,O3 152 15,O7 153 1 151 152,O4 154 1 153,O1 155 (.bin .sub .no (.t 147) (.t 154)),O1 156 (.bin .sub .no (.t 140) (.t 155)),O1 157 (.max [.t 130, .t 156]),O3 14 157]
def H36 : List XO := [O1 158 (.bin .add .no (.t 127) (c9 1)),O3 127 158]
def G7m : XCode :=
 (.seq (.reg H33) (.seq (.cond (.t 128) .skip (.exit 10)) (.seq (.block 11 (.seq (.reg H34) (.reg H35))) (.reg H36))))
def H37 : List XO := [O3 159 7,O3 160 7,O1 161 (.nilck (.t 160)),O5 162 2 161,O4 163 1 162,O3 164 14,O1 165 (.bsl 1 [.t 164]),O1 166 (.app 1 8 (.t 163) (.t 165)),O1 167 (.nilck (.t 159)),O5 168 2 167,O2 (.store 1 (.t 168) (.t 166))]
def H38 : List XO := [O3 169 7,O3 170 7,O1 171 (.nilck (.t 170)),O5 172 1 171,O4 173 1 172,O3 174 7,O1 175 (.nilck (.t 174)),O5 176 1 175,O4 177 1 176,O3 178 13,O7 179 1 177 178,O4 180 1 179,O3 181 14,O3 182 1,O3 183 6,O7 184 1 182 183,O4 185 1 184,O3 186 13,O7 187 1 185 186,O4 188 1 187,O1 189 (.min [.t 181, .t 188]),O1 190 (.bin .add .no (.t 180) (.t 189)),O1 191 (.bsl 1 [.t 190]),O1 192 (.app 1 8 (.t 173) (.t 191)),O1 193 (.nilck (.t 169)),O5 194 1 193,O2 (.store 1 (.t 194) (.t 192))]
def H39 : List XO := [O1 195 (.bin .add .no (.t 122) (c9 1)),O3 122 195]
def G7n : XCode :=
 (.seq (.reg H3y) (.seq (.cond (.t 123) .skip (.exit 8)) (.seq (.block 9 (.seq (.reg H3z) (.seq (.reg H30) (.seq (.seq (.reg H32) (.block 10 (.loop G7m))) (.seq (.reg H37) (.reg H38)))))) (.reg H39))))
def H4b : List XO := [O3 196 5,O3 197 7,O1 198 (.bsl 1 [.t 197]),O1 199 (.app 1 8 (.t 196) (.t 198)),O3 5 199]
def H4c : List XO := [O1 200 (.bin .add .no (.t 19) (c9 1)),O3 19 200]
def G7o : XCode :=
 (.seq (.reg H31) (.seq (.cond (.t 20) .skip (.exit 0)) (.seq (.block 1 (.seq (.reg H4a) (.seq (.reg H4e) (.seq (.seq (.reg H4f) (.block 2 (.loop G7l))) (.seq (.seq (.reg H3x) (.block 8 (.loop G7n))) (.seq .ghost (.reg H4b))))))) (.reg H4c))))
def H4d : List XO := [O3 201 5,O3 4 201]
def x_halls_bounds : XFunc := { np := 2, res := [.t 4], body :=
 (.seq (.reg H3h) (.seq (.reg H3i) (.seq (.seq (.reg H3s) (.block 0 (.loop G7o))) (.seq (.seq .ghost (.reg H4d)) .ret)))) }
def H52 : List XO := [O1 2 (.boxF (.t 0)),O1 4 (.mv (.c (.slice none 0 0)))]
def H53 : List XO := [O1 9 (.fldA 3 (.tf 2)),O1 10 (.load false 1 (.tf 9)),O1 11 (.mksl 1 [(.int .i64 0)] 8 (.t 10) (.t 10)),O3 5 11]
def H57 : List XO := [O1 12 (.fldA 0 (.tf 2)),O1 13 (.load false 1 (.tf 12)),O3 14 1,O7 15 5 13 14,O5 16 0 15,O4 17 1 16,O3 6 17,O1 7 (.mv (c9 0))]
def H58 : List XO := [O3 18 5,O8 19 18,O1 20 (.mv (c9 0))]
def H59 : List XO := [O1 21 (.bin .lss .no (.t 20) (.t 19))]
def H6a : List XO := [O3 22 20,O3 8 22]
def H6b : List XO := [O3 23 7,O1 24 (.fldA 2 (.tf 2)),O1 25 (.load false 1 (.tf 24)),O8 26 25,O1 27 (.bin .lss .no (.t 23) (.t 26)),O3 28 27,O9 29 28 true (.fldA 2 (.tf 2)),O9 30 28 true (.load false 1 (.tf 29)),O9 31 28 true (.mv (.t 7)),O9 32 28 true (.ixA 3 (.t 30) (.t 31)),O9 33 28 true (.fldA 0 (.t 32)),O9 34 28 true (.load false 1 (.t 33)),O9 35 28 true (.mv (.t 8)),O9 36 28 true (.bin .leq .no (.t 34) (.t 35)),O1 37 (.pick (.t 28) (.t 36) (.c (.bool false)))]
def H6c : List XO := [O1 40 (.fldA 2 (.tf 2)),O1 41 (.load false 1 (.tf 40)),O3 42 7,O7 43 3 41 42,O5 44 1 43,O4 45 1 44,O3 46 1,O1 47 (.bin .eql .no (.t 45) (.t 46))]
def H6d : List XO := [O1 48 (.fldA 2 (.tf 2)),O1 49 (.load false 1 (.tf 48)),O3 50 7,O7 51 3 49 50,O5 52 2 51,O4 53 1 52,O3 6 53]
def H6e : List XO := [O3 38 7,O1 39 (.bin .add .no (.t 38) (c9 1)),O3 7 39]
def G7u : XCode :=
 (.seq (.seq (.reg H6b) (.cond (.t 37) .skip (.exit 2))) (.seq (.block 3 (.seq (.reg H6c) (.cond (.t 47) (.reg H6d) .skip))) (.reg H6e)))
def H54 : List XO := [O3 54 5,O3 55 8,O3 56 6,O7 57 1 54 55,O2 (.store 1 (.t 57) (.t 56))]
def H55 : List XO := [O1 58 (.bin .add .no (.t 20) (c9 1)),O3 20 58]
def G7v : XCode :=
 (.seq (.reg H59) (.seq (.cond (.t 21) .skip (.exit 0)) (.seq (.block 1 (.seq (.reg H6a) (.seq (.block 2 (.loop G7u)) (.reg H54)))) (.reg H55))))
def H56 : List XO := [O3 59 5,O3 4 59]
def x_halls_rates : XFunc := { np := 2, res := [.t 4], body :=
 (.seq (.reg H52) (.seq (.reg H53) (.seq (.reg H57) (.seq (.seq (.reg H58) (.block 0 (.loop G7v))) (.seq (.reg H56) .ret))))) }
def H47 : List XO := [O1 2 (.boxF (.t 0)),O1 4 (.mv (.c (.bool false)))]
def H48 : List XO := [O1 6 (.fldA 0 (.tf 2)),O1 7 (.load false 1 (.tf 6)),O3 8 1,O7 9 5 7 8,O6 10 5 9,O1 5 (.alloc [(.int .i64 0), (.int .i64 0), (.int .i64 0), (.int .i64 0), (.int .i64 0)]),O2 (.store 5 (.t 5) (.t 10))]
def H49 : List XO := [O5 11 0 5,O4 12 1 11,O1 13 (.build [(.int .i64 0), (.int .i64 0)] [(1, 1, (c9 1000))]),O1 14 (.call "newel/halls.in" [.t 12, .t 13]),O3 15 14,O9 16 15 true (.fldA 1 (.t 5)),O9 17 15 true (.load false 1 (.t 16)),O9 18 15 true (.build [(.int .i64 0), (.int .i64 0)] [(1, 1, (c9 100000))]),O9 19 15 true (.call "newel/halls.in" [.t 17, .t 18]),O1 20 (.pick (.t 15) (.t 19) (.c (.bool false))),O3 21 20,O9 22 21 true (.fldA 2 (.t 5)),O9 23 21 true (.load false 1 (.t 22)),O9 24 21 true (.bin .eql .no (.t 23) (.c (.int .i64 (-1)))),O9 25 21 true (.mv (.t 24)),O9 26 25 false (.fldA 2 (.t 5)),O9 27 25 false (.load false 1 (.t 26)),O9 28 25 false (.mv (.t 1)),O9 29 25 false (.bin .gtr .no (.t 27) (.t 28)),O9 30 25 false (.mv (.t 29)),O9 31 30 true (.fldA 2 (.t 5)),O9 32 30 true (.load false 1 (.t 31)),O9 33 30 true (.fldA 0 (.tf 2)),O9 34 30 true (.load false 1 (.tf 33)),O9 35 30 true (.len false (.t 34)),O9 36 30 true (.bin .lss .no (.t 32) (.t 35)),O9 37 25 false (.pick (.t 30) (.t 36) (.c (.bool false))),O9 38 21 true (.pick (.t 25) (.c (.bool true)) (.t 37)),O1 39 (.pick (.t 21) (.t 38) (.c (.bool false))),O3 40 39,O9 41 40 true (.fldA 3 (.t 5)),O9 42 40 true (.load true 2 (.t 41)),O9 43 40 true (.call "newel/halls.span" [.t 42, (c9 1), (c9 20)]),O1 44 (.pick (.t 40) (.t 43) (.c (.bool false))),O3 4 44]
def x_halls_isComb : XFunc := { np := 2, res := [.t 4], body :=
 (.seq (.reg H47) (.seq (.reg H48) (.seq (.reg H49) .ret))) }
def H8n : List XO := [O1 4 (.mv (.c (.bool false)))]
def H8o : List XO := [O3 5 0,O3 6 1,O1 7 (.call "slices.IndexFunc[[]newel/api.Train,newel/api.Train]" [.t 5, .t 6]),O1 8 (.bin .geq .no (.t 7) (c9 0)),O3 4 8]
def x_slices_ContainsFunc___api_Train_api_Train_ : XFunc := { np := 2, res := [.t 4], body :=
 (.seq (.reg H8n) (.seq (.reg H8o) .ret)) }
def H2b : List XO := [O1 2 (.boxF (.t 0)),O1 3 (.mv (.c (.bool false)))]
def H2c : List XO := [O6 4 4 1,O1 5 (.load true 3 (.tf 2)),O1 6 (.call "newel/halls.isTrain" [.t 4, .t 5]),O1 7 (.un .not (.t 6)),O3 3 7]
def x_halls_CheckD1 : XFunc := { np := 2, res := [.t 3], body :=
 (.seq (.reg H2b) (.seq (.reg H2c) .ret)) }
def H5a : List XO := [O1 2 (.boxF (.t 0)),O1 3 (.boxF (.t 1)),O1 4 (.mv (.c (.bool false)))]
def H5b : List XO := [O1 5 (.mv (.c (.int .i64 (-1))))]
def H5d : List XO := [O1 8 (.fldA 2 (.tf 3)),O1 9 (.load false 1 (.tf 8)),O8 10 9,O1 11 (.mv (c9 0))]
def H5e : List XO := [O1 12 (.bin .lss .no (.t 11) (.t 10))]
def H5f : List XO := [O7 13 3 9 11,O6 14 3 13,O1 7 (.alloc [(.int .i64 0), (.int .i64 0), (.int .i64 0)]),O2 (.store 3 (.t 7) (.t 14))]
def H5g : List XO := [O5 15 0 7,O4 16 1 15,O3 17 5,O1 18 (.bin .leq .no (.t 16) (.t 17)),O3 19 18,O9 20 19 false (.fldA 0 (.t 7)),O9 21 19 false (.load false 1 (.t 20)),O9 22 19 false (.fldA 0 (.tf 2)),O9 23 19 false (.load false 1 (.tf 22)),O9 24 19 false (.len false (.t 23)),O9 25 19 false (.bin .geq .no (.t 21) (.t 24)),O1 26 (.pick (.t 19) (.c (.bool true)) (.t 25)),O3 27 26,O9 28 27 false (.fldA 1 (.t 7)),O9 29 27 false (.load true 2 (.t 28)),O9 30 27 false (.call "newel/halls.span" [.t 29, (c9 0), (c9 1000)]),O9 31 27 false (.un .not (.t 30)),O1 32 (.pick (.t 27) (.c (.bool true)) (.t 31))]
def H5h : List XO := [O1 4 (.mv (.c (.bool false)))]
def H5i : List XO := [O5 33 0 7,O4 34 1 33,O3 5 34]
def H5j : List XO := [O1 35 (.bin .add .no (.t 11) (c9 1)),O3 11 35]
def G7r : XCode :=
 (.seq (.reg H5e) (.seq (.cond (.t 12) .skip (.exit 0)) (.seq (.block 1 (.seq (.reg H5f) (.seq (.seq (.reg H5g) (.cond (.t 32) (.seq (.reg H5h) .ret) .skip)) (.reg H5i)))) (.reg H5j))))
def H5c : List XO := [O1 36 (.fldA 0 (.tf 3)),O1 37 (.load true 2 (.tf 36)),O1 38 (.fldA 3 (.tf 2)),O1 39 (.load false 1 (.tf 38)),O1 40 (.bin .sub .no (.t 39) (c9 1)),O1 41 (.call "newel/halls.span" [.t 37, (c9 0), .t 40]),O3 42 41,O9 43 42 true (.fldA 2 (.tf 3)),O9 44 42 true (.load false 1 (.tf 43)),O9 45 42 true (.len false (.t 44)),O9 46 42 true (.bin .leq .no (.t 45) (c9 4)),O1 47 (.pick (.t 42) (.t 46) (.c (.bool false))),O3 4 47]
def x_halls_isTrain : XFunc := { np := 2, res := [.t 4], body :=
 (.seq (.reg H5a) (.seq (.reg H5b) (.seq (.seq (.reg H5d) (.block 0 (.loop G7r))) (.seq (.reg H5c) .ret)))) }
def H45 : List XO := [O1 3 (.boxF (.t 1)),O1 4 (.mv (.c (.bool false)))]
def H46 : List XO := [O1 5 (.fldA 0 (.tf 3)),O1 6 (.load false 1 (.tf 5)),O3 7 0,O1 8 (.bin .leq .no (.t 6) (.t 7)),O3 9 8,O9 10 9 true (.mv (.t 0)),O9 11 9 true (.fldA 1 (.tf 3)),O9 12 9 true (.load false 1 (.tf 11)),O9 13 9 true (.bin .leq .no (.t 10) (.t 12)),O1 14 (.pick (.t 9) (.t 13) (.c (.bool false))),O3 4 14]
def x_halls_in : XFunc := { np := 2, res := [.t 4], body :=
 (.seq (.reg H45) (.seq (.reg H46) .ret)) }
def o3v : List XO := [O1 4 (.mv (.c (.bool false)))]
def o3w : List XO := [O3 5 0,O3 6 1,O1 7 (.call "slices.IndexFunc[[]int,int]" [.t 5, .t 6]),O1 8 (.bin .geq .no (.t 7) (c9 0)),O3 4 8]
def x_slices_ContainsFunc___int_int_ : XFunc := { np := 2, res := [.t 4], body :=
 (.seq (.reg o3v) (.seq (.reg o3w) .ret)) }
def H4w : List XO := [O1 3 (.mv (.c (.bool false)))]
def H4x : List XO := [O3 4 0,O1 5 (.bin .lss .no (.t 4) (c9 0)),O3 6 5,O9 7 6 false (.mv (.t 0)),O9 8 6 false (.fldA 3 (.t 1)),O9 9 6 false (.load false 1 (.t 8)),O9 10 6 false (.bin .geq .no (.t 7) (.t 9)),O1 11 (.pick (.t 6) (.c (.bool true)) (.t 10)),O3 3 11]
def x_halls_checkD1 : XFunc := { np := 2, res := [.t 3], body :=
 (.seq (.reg H4w) (.seq (.reg H4x) .ret)) }
def o4j : List XO := [O1 4 (.mv (c9 0))]
def o4k : List XO := [O3 6 0,O8 7 6,O1 8 (.mv (c9 0))]
def o4l : List XO := [O1 9 (.bin .lss .no (.t 8) (.t 7))]
def o4m : List XO := [O3 10 8,O3 5 10]
def o4n : List XO := [O3 11 1,O3 12 0,O3 13 5,O7 14 1 12 13,O4 15 1 14,O1 16 (.callv (.t 11) [.t 15])]
def o4o : List XO := [O3 17 5,O3 4 17]
def o4p : List XO := [O1 18 (.bin .add .no (.t 8) (c9 1)),O3 8 18]
def g5d : XCode :=
 (.seq (.reg o4l) (.seq (.cond (.t 9) .skip (.exit 0)) (.seq (.block 1 (.seq (.reg o4m) (.seq (.reg o4n) (.cond (.t 16) (.seq (.reg o4o) .ret) .skip)))) (.reg o4p))))
def o4q : List XO := [O1 4 (.mv (.c (.int .i64 (-1))))]
def x_slices_IndexFunc___int_int_ : XFunc := { np := 2, res := [.t 4], body :=
 (.seq (.reg o4j) (.seq (.seq (.reg o4k) (.block 0 (.loop g5d))) (.seq (.reg o4q) .ret))) }
def H5r : List XO := [O1 4 (.mv (.c (.bool false)))]
def H5s : List XO := [O3 5 0,O5 6 0 1,O4 7 1 6,O4 8 1 2,O7 9 5 7 8,O5 10 1 9,O4 11 1 10,O1 12 (.bin .gtr .no (.t 5) (.t 11)),O3 4 12]
def x_halls_overD1 : XFunc := { np := 3, res := [.t 4], body :=
 (.seq (.reg H5r) (.seq (.reg H5s) .ret)) }
def H4j : List XO := [O1 4 (.boxF (.t 0)),O1 8 (.mv (c9 0))]
def H4k : List XO := [O1 13 (.fldA 1 (.tf 4)),O1 14 (.load false 1 (.tf 13)),O8 15 14,O1 16 (.mv (c9 0))]
def H4o : List XO := [O1 17 (.bin .lss .no (.t 16) (.t 15))]
def H4p : List XO := [O7 18 3 14 16,O6 19 3 18,O1 10 (.alloc [(.int .i64 0), (.int .i64 0), (.slice none 0 0)]),O2 (.store 3 (.t 10) (.t 19))]
def H4q : List XO := [O5 20 0 10,O5 21 1 20,O4 22 1 21,O3 23 2,O1 24 (.bin .lss .no (.t 22) (.t 23)),O3 25 24,O9 26 25 false (.fldA 0 (.t 10)),O9 27 25 false (.fldA 0 (.t 26)),O9 28 25 false (.load false 1 (.t 27)),O9 29 25 false (.mv (.t 3)),O9 30 25 false (.bin .gtr .no (.t 28) (.t 29)),O1 31 (.pick (.t 25) (.c (.bool true)) (.t 30))]
def H4r : List XO := [O5 32 2 10,O4 33 1 32,O8 34 33,O1 35 (.mv (c9 0))]
def H4s : List XO := [O1 36 (.bin .lss .no (.t 35) (.t 34))]
def H4t : List XO := [O7 37 3 33 35,O6 38 3 37,O1 12 (.alloc [(.int .i64 0), (.int .i64 0), (.int .i64 0)]),O2 (.store 3 (.t 12) (.t 38))]
def H4u : List XO := [O5 39 0 12,O4 40 1 39,O3 41 1,O1 42 (.bin .eql .no (.t 40) (.t 41))]
def H4v : List XO := [O3 43 8,O5 44 1 12,O5 45 1 44,O4 46 1 45,O1 47 (.bin .add .no (.t 43) (.t 46)),O3 8 47]
def H4l : List XO := [O1 48 (.bin .add .no (.t 35) (c9 1)),O3 35 48]
def G7p : XCode :=
 (.seq (.reg H4s) (.seq (.cond (.t 36) .skip (.exit 2)) (.seq (.block 3 (.seq (.reg H4t) (.seq (.reg H4u) (.cond (.t 42) (.reg H4v) .skip)))) (.reg H4l))))
def H4m : List XO := [O1 49 (.bin .add .no (.t 16) (c9 1)),O3 16 49]
def G7q : XCode :=
 (.seq (.reg H4o) (.seq (.cond (.t 17) .skip (.exit 0)) (.seq (.block 1 (.seq (.reg H4p) (.seq (.seq (.reg H4q) (.cond (.t 31) (.exit 1) .skip)) (.seq (.reg H4r) (.block 2 (.loop G7p)))))) (.reg H4m))))
def H4n : List XO := [O3 50 8,O3 8 50]
def x_halls_brought : XFunc := { np := 4, res := [.t 8], body :=
 (.seq (.reg H4j) (.seq (.seq (.reg H4k) (.block 0 (.loop G7q))) (.seq (.reg H4n) .ret))) }
def H1y : List XO := [O1 6 (.mv (c9 0))]
def H1z : List XO := [O3 10 2,O3 11 1,O1 12 (.bin .lss .no (.t 10) (.t 11)),O3 13 12,O9 14 13 false (.mv (.t 2)),O9 15 13 false (.bin .lss .no (.t 14) (c9 0)),O1 16 (.pick (.t 13) (.c (.bool true)) (.t 15))]
def H13 : List XO := [O1 6 (.mv (c9 0))]
def H14 : List XO := [O3 17 1,O1 18 (.max [.t 17, (c9 0)]),O3 1 18]
def H15 : List XO := [O3 19 0,O1 20 (.nilck (.t 19)),O5 21 3 20,O4 22 1 21,O1 23 (.ixA 1 (.t 22) (c9 0)),O4 24 1 23,O3 25 2,O7 26 1 24 25,O4 27 1 26,O3 28 0,O1 29 (.nilck (.t 28)),O5 30 1 29,O4 31 1 30,O3 32 2,O1 33 (.bin .add .no (.t 32) (c9 1)),O7 34 1 31 33,O4 35 1 34,O3 36 0,O1 37 (.nilck (.t 36)),O5 38 1 37,O4 39 1 38,O3 40 1,O7 41 1 39 40,O4 42 1 41,O1 43 (.bin .sub .no (.t 35) (.t 42)),O1 44 (.min [.t 27, .t 43]),O3 7 44]
def H16 : List XO := [O3 45 1,O3 8 45]
def H17 : List XO := [O3 46 8,O3 47 2,O1 48 (.bin .leq .no (.t 46) (.t 47))]
def H18 : List XO := [O1 9 (.mv (c9 0))]
def H19 : List XO := [O3 51 8,O3 52 2,O1 53 (.bin .lss .no (.t 51) (.t 52))]
def H2a : List XO := [O3 54 0,O1 55 (.nilck (.t 54)),O5 56 3 55,O4 57 1 56,O3 58 8,O1 59 (.bin .add .no (.t 58) (c9 1)),O7 60 1 57 59,O4 61 1 60,O3 62 2,O7 63 1 61 62,O4 64 1 63,O3 9 64]
def H10 : List XO := [O3 65 7,O3 66 0,O1 67 (.nilck (.t 66)),O5 68 1 67,O4 69 1 68,O3 70 8,O7 71 1 69 70,O4 72 1 71,O3 73 0,O1 74 (.nilck (.t 73)),O5 75 1 74,O4 76 1 75,O3 77 1,O7 78 1 76 77,O4 79 1 78,O1 80 (.bin .sub .no (.t 72) (.t 79)),O3 81 0,O1 82 (.nilck (.t 81)),O5 83 2 82,O4 84 1 83,O3 85 8,O7 86 1 84 85,O4 87 1 86,O1 88 (.bin .add .no (.t 80) (.t 87)),O3 89 9,O1 90 (.bin .add .no (.t 88) (.t 89)),O1 91 (.min [.t 65, .t 90]),O3 7 91]
def H11 : List XO := [O3 49 8,O1 50 (.bin .add .no (.t 49) (c9 1)),O3 8 50]
def G7f : XCode :=
 (.seq (.seq (.reg H17) (.cond (.t 48) .skip (.exit 0))) (.seq (.block 1 (.seq (.reg H18) (.seq (.seq (.reg H19) (.cond (.t 53) (.reg H2a) .skip)) (.reg H10)))) (.reg H11)))
def H12 : List XO := [O3 92 7,O3 6 92]
def x___halls_bound__passes : XFunc := { np := 3, res := [.t 6], body :=
 (.seq (.reg H1y) (.seq (.seq (.reg H1z) (.cond (.t 16) (.seq (.reg H13) .ret) .skip)) (.seq (.reg H14) (.seq (.reg H15) (.seq (.seq (.reg H16) (.block 0 (.loop G7f))) (.seq (.reg H12) .ret)))))) }
def H6f : List XO := [O1 3 (.boxF (.t 0)),O1 6 (.mv (.c (.bool false)))]
def H6g : List XO := [O3 7 1,O1 8 (.fldA 0 (.tf 3)),O1 9 (.load false 1 (.tf 8)),O1 10 (.bin .leq .no (.t 7) (.t 9)),O3 11 10,O9 12 11 true (.fldA 0 (.tf 3)),O9 13 11 true (.load false 1 (.tf 12)),O9 14 11 true (.fldA 1 (.tf 3)),O9 15 11 true (.load false 1 (.tf 14)),O9 16 11 true (.bin .leq .no (.t 13) (.t 15)),O1 17 (.pick (.t 11) (.t 16) (.c (.bool false))),O3 18 17,O9 19 18 true (.fldA 1 (.tf 3)),O9 20 18 true (.load false 1 (.tf 19)),O9 21 18 true (.mv (.t 2)),O9 22 18 true (.bin .leq .no (.t 20) (.t 21)),O1 23 (.pick (.t 18) (.t 22) (.c (.bool false))),O3 6 23]
def x_halls_span : XFunc := { np := 3, res := [.t 6], body :=
 (.seq (.reg H6f) (.seq (.reg H6g) .ret)) }
def H8p : List XO := [O1 4 (.mv (c9 0))]
def H8q : List XO := [O3 6 0,O8 7 6,O1 8 (.mv (c9 0))]
def H8r : List XO := [O1 9 (.bin .lss .no (.t 8) (.t 7))]
def H8s : List XO := [O3 10 8,O3 5 10]
def H8t : List XO := [O3 11 1,O3 12 0,O3 13 5,O7 14 3 12 13,O6 15 3 14,O1 16 (.callv (.t 11) [.t 15])]
def H8u : List XO := [O3 17 5,O3 4 17]
def H8v : List XO := [O1 18 (.bin .add .no (.t 8) (c9 1)),O3 8 18]
def G73 : XCode :=
 (.seq (.reg H8r) (.seq (.cond (.t 9) .skip (.exit 0)) (.seq (.block 1 (.seq (.reg H8s) (.seq (.reg H8t) (.cond (.t 16) (.seq (.reg H8u) .ret) .skip)))) (.reg H8v))))
def H8w : List XO := [O1 4 (.mv (.c (.int .i64 (-1))))]
def x_slices_IndexFunc___api_Train_api_Train_ : XFunc := { np := 2, res := [.t 4], body :=
 (.seq (.reg H8p) (.seq (.seq (.reg H8q) (.block 0 (.loop G73))) (.seq (.reg H8w) .ret))) }
attribute [go_sem] H6s H6t H63 H64 H65 H66 H67 H68 H69 H7a H6u H6v H6w H6x H6y H6z H60 H61 H62 H6j H6k H6l H6m H6n H6o H6p H6q H6r H7p H7q H70 H79 H8d H8e H8f H8g H8h H8i H7r H7s H7t H7u H7v H7w H7x H7y H7z H71 H72 H73 H74 H75 H76 H77 H78 H8a H8b H8c H7l H7m H7n H7o H2v H2w H2z H20 H21 H22 H23 H24 H25 H26 H2x H2y H3c H3d H3e H3f H3g H7b H7c H7e H7f H7g H7h H7i H7j H7k H7d H27 H28 H29 H3a H3b H2d H2e H2o H2p H2q H2r H2s H2t H2u H2f H2g H2h H2i H2j H2k H2l H2m H2n H8l H8m H8j H8k H6h H6i H4y H4z H40 H41 H42 H43 H44 H5k H5l H5m H5n H5o H5p H5q H5t H5u H5v H5w H5x H5y H5z H50 H51 H3h H3i H3s H31 H4a H4e H4f H4g H4h H4i H3j H3k H3l H3m H3n H3o H3p H3q H3r H3t H3u H3v H3w H3x H3y H3z H30 H32 H33 H34 H35 H36 H37 H38 H39 H4b H4c H4d H52 H53 H57 H58 H59 H6a H6b H6c H6d H6e H54 H55 H56 H47 H48 H49 H8n H8o H2b H2c H5a H5b H5d H5e H5f H5g H5h H5i H5j H5c H45 H46 o3v o3w H4w H4x o4j o4k o4l o4m o4n o4o o4p o4q H5r H5s H4j H4k H4o H4p H4q H4r H4s H4t H4u H4v H4l H4m H4n H1y H1z H13 H14 H15 H16 H17 H18 H19 H2a H10 H11 H12 H6f H6g H8p H8q H8r H8s H8t H8u H8v H8w
end Go.Nw.Halls
