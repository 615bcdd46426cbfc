/- The functions of a seat, as the abstract machine has them. -/
import Derived.Test.YtinmifhfkkjccaaNwI
set_option linter.all false
namespace Go.Nw.Tp3
@[go_sem] def O3 (d a : Nat) : XO := ⟨some d,none,.mv (.t a)⟩
@[go_sem] def O4 (d n a : Nat) : XO := ⟨some d,none,.load false n (.t a)⟩
@[go_sem] def O5 (d n a : Nat) : XO := ⟨some d,none,.fldA n (.t a)⟩
@[go_sem] def O6 (d n a : Nat) : XO := ⟨some d,none,.load true n (.t a)⟩
@[go_sem] def O7 (d n a b : Nat) : XO := ⟨some d,none,.ixA n (.t a) (.t b)⟩
@[go_sem] def O8 (d a : Nat) : XO := ⟨some d,none,.len false (.t a)⟩
@[go_sem] def O9 (d g : Nat) (p : Bool) (x : XOp) : XO := ⟨some d,some (g,p),x⟩
@[go_sem] def c9 (n : Int) : X := .c (.int .i64 n)
@[go_sem] def O1 (d : Nat) (x : XOp) : XO := ⟨some d,none,x⟩
@[go_sem] def O2 (x : XOp) : XO := ⟨none,none,x⟩
def J4y : List XO := [O1 2 (.boxF (.t 0)),O1 3 (.boxF (.t 1)),O1 4 (.mv (.c (.bool false)))]
def J4z : List XO := [O1 21 (.load true 3 (.tf 2)),O1 22 (.call "newel/newelref08.Check" [.t 21]),O1 23 (.bin .neq .no (.t 22) (c9 0)),O3 24 23,O9 25 24 false (.fldA 1 (.tf 2)),O9 26 24 false (.load false 1 (.tf 25)),O9 27 24 false (.len false (.t 26)),O9 28 24 false (.bin .gtr .no (.t 27) (c9 16)),O1 29 (.pick (.t 24) (.c (.bool true)) (.t 28)),O3 30 29,O9 31 30 false (.fldA 0 (.tf 3)),O9 32 30 false (.load false 1 (.tf 31)),O9 33 30 false (.bin .lss .no (.t 32) (c9 0)),O1 34 (.pick (.t 30) (.c (.bool true)) (.t 33)),O3 35 34,O9 36 35 false (.fldA 0 (.tf 3)),O9 37 35 false (.load false 1 (.tf 36)),O9 38 35 false (.bin .geq .no (.t 37) (c9 4096)),O1 39 (.pick (.t 35) (.c (.bool true)) (.t 38)),O3 40 39,O9 41 40 false (.fldA 2 (.tf 3)),O9 42 40 false (.load false 1 (.tf 41)),O9 43 40 false (.bin .lss .no (.t 42) (c9 0)),O1 44 (.pick (.t 40) (.c (.bool true)) (.t 43)),O3 45 44,O9 46 45 false (.fldA 2 (.tf 3)),O9 47 45 false (.load false 1 (.tf 46)),O9 48 45 false (.fldA 0 (.tf 2)),O9 49 45 false (.load false 1 (.tf 48)),O9 50 45 false (.bin .geq .no (.t 47) (.t 49)),O1 51 (.pick (.t 45) (.c (.bool true)) (.t 50)),O3 52 51,O9 53 52 false (.fldA 3 (.tf 3)),O9 54 52 false (.load false 1 (.tf 53)),O9 55 52 false (.bin .lss .no (.t 54) (c9 0)),O1 56 (.pick (.t 52) (.c (.bool true)) (.t 55)),O3 57 56,O9 58 57 false (.fldA 3 (.tf 3)),O9 59 57 false (.load false 1 (.tf 58)),O9 60 57 false (.fldA 0 (.tf 2)),O9 61 57 false (.load false 1 (.tf 60)),O9 62 57 false (.bin .geq .no (.t 59) (.t 61)),O1 63 (.pick (.t 57) (.c (.bool true)) (.t 62))]
def J5a : List XO := [O1 64 (.call "newel/neweltop.measures" []),O3 4 64]
def J5k : List XO := [O1 65 (.load true 3 (.tf 2)),O1 66 (.call "newel/newelref08.Copy" [.t 65]),O1 5 (.alloc [(.int .i64 0), (.slice none 0 0), (.slice none 0 0)]),O2 (.store 3 (.t 5) (.t 66))]
def J5m : List XO := [O1 67 (.call "newel/neweltop.four" []),O1 68 (.build [(.slice none 0 0), (.slice none 0 0), (.slice none 0 0), (.slice none 0 0), (.slice none 0 0)] [(0, 1, (.t 67))]),O1 6 (.alloc [(.slice none 0 0), (.slice none 0 0), (.slice none 0 0), (.slice none 0 0), (.slice none 0 0)]),O2 (.store 5 (.t 6) (.t 68))]
def J5n : List XO := [O1 7 (.mv (c9 0))]
def J5o : List XO := [O3 69 7,O1 70 (.fldA 0 (.tf 2)),O1 71 (.load false 1 (.tf 70)),O1 72 (.bin .lss .no (.t 69) (.t 71))]
def J5p : List XO := [O5 75 3 6,O4 76 1 75,O3 77 7,O1 78 (.call "newel/neweltop.letter" [(.c (.string (ByteArray.mk #[112]))), .t 77]),O1 79 (.build [(.string (ByteArray.mk #[])), (.int .i64 0)] [(0, 1, (.t 78))]),O1 80 (.bsl 2 [.t 79]),O1 81 (.app 2 24 (.t 76) (.t 80)),O5 82 3 6,O2 (.store 1 (.t 82) (.t 81))]
def J5q : List XO := [O3 73 7,O1 74 (.bin .add .no (.t 73) (c9 1)),O3 7 74]
def J2b : XCode :=
 (.seq (.seq (.reg J5o) (.cond (.t 72) .skip (.exit 0))) (.seq (.block 1 (.reg J5p)) (.reg J5q)))
def J41 : List XO := [O1 8 (.mv (c9 0))]
def J42 : List XO := [O3 83 8,O5 84 1 5,O4 85 1 84,O8 86 85,O1 87 (.bin .lss .no (.t 83) (.t 86))]
def J43 : List XO := [O5 90 1 5,O4 91 1 90,O3 92 8,O7 93 7 91 92,O5 94 3 93,O2 (.store 1 (.t 94) (c9 1))]
def J44 : List XO := [O5 95 1 5,O4 96 1 95,O3 97 8,O7 98 7 96 97,O6 99 7 98,O1 9 (.alloc [(.int .i64 0), (.int .i64 0), (.int .i64 0), (.int .i64 0), (.int .i64 0), (.int .i64 0), (.int .i64 0)]),O2 (.store 7 (.t 9) (.t 99))]
def J45 : List XO := [O6 101 3 5,O1 102 (.fldA 0 (.tf 3)),O1 103 (.load false 1 (.tf 102)),O1 104 (.fldA 1 (.tf 3)),O1 105 (.load false 1 (.tf 104)),O5 106 0 9,O4 107 1 106,O5 108 1 9,O4 109 1 108,O3 110 8,O1 111 (.bsl 1 [.t 110]),O1 112 (.call "newel/newelref08.Free" [.t 101, .t 103, .t 105, .t 107, .t 109, .t 111]),O3 100 112,O1 113 (.ext (.t 100) 0),O1 114 (.ext (.t 100) 1),O3 10 113,O3 11 114]
def J46 : List XO := [O3 115 11,O1 116 (.un .not (.t 115))]
def J47 : List XO := [O5 117 0 9,O4 118 1 117,O1 119 (.fldA 2 (.tf 3)),O1 120 (.load false 1 (.tf 119)),O1 121 (.call "newel/neweltop.first" [.t 118, .t 120]),O5 122 1 9,O4 123 1 122,O1 124 (.fldA 2 (.tf 3)),O1 125 (.load false 1 (.tf 124)),O1 126 (.call "newel/neweltop.first" [.t 123, .t 125]),O3 12 121,O3 13 126]
def J48 : List XO := [O5 127 4 6,O4 128 1 127,O3 129 12,O3 130 13,O3 131 8,O1 132 (.call "newel/neweltop.bits" [.t 131]),O1 133 (.build [(.int .i64 0), (.int .i64 0), (.slice none 0 0), (.slice none 0 0)] [(0, 1, (.t 129)), (1, 1, (.t 130)), (2, 1, (.t 132))]),O3 134 13,O3 135 12,O3 136 8,O1 137 (.call "newel/neweltop.bits" [.t 136]),O1 138 (.build [(.int .i64 0), (.int .i64 0), (.slice none 0 0), (.slice none 0 0)] [(0, 1, (.t 134)), (1, 1, (.t 135)), (2, 1, (.t 137))]),O1 139 (.bsl 4 [.t 133, .t 138]),O1 140 (.app 4 64 (.t 128) (.t 139)),O5 141 4 6,O2 (.store 1 (.t 141) (.t 140))]
def J49 : List XO := [O3 88 8,O1 89 (.bin .add .no (.t 88) (c9 1)),O3 8 89]
def J16 : XCode :=
 (.seq (.seq (.reg J42) (.cond (.t 87) .skip (.exit 2))) (.seq (.block 3 (.seq (.reg J43) (.seq (.reg J44) (.seq (.seq (.reg J45) (.seq (.reg J46) (.cond (.t 116) (.exit 3) .skip))) (.seq (.reg J47) (.seq (.reg J48) .ghost)))))) (.reg J49)))
def J5b : List XO := [O6 143 3 5,O1 144 (.fldA 0 (.tf 3)),O1 145 (.load false 1 (.tf 144)),O1 146 (.fldA 1 (.tf 3)),O1 147 (.load false 1 (.tf 146)),O1 148 (.fldA 2 (.tf 3)),O1 149 (.load false 1 (.tf 148)),O1 150 (.fldA 3 (.tf 3)),O1 151 (.load false 1 (.tf 150)),O1 152 (.call "newel/ways.Way" [.t 143, .t 145, .t 147, .t 149, .t 151]),O3 142 152,O1 153 (.ext (.t 142) 0),O1 154 (.ext (.t 142) 1),O1 155 (.ext (.t 142) 2),O3 14 153,O3 15 154,O3 16 155]
def J5c : List XO := [O6 157 5 6,O1 158 (.fldA 3 (.tf 3)),O1 159 (.load false 1 (.tf 158)),O1 160 (.fldA 2 (.tf 3)),O1 161 (.load false 1 (.tf 160)),O1 162 (.call "newel/neweltop.first" [.t 159, .t 161]),O1 163 (.build [(.int .i64 0), (.int .i64 0), (.int .i64 0), (.bool false)] [(0, 1, (c9 3)), (1, 1, (.t 162))]),O1 164 (.bslF 4 [.t 163]),O1 165 (.bslF 1 [.t 164]),O1 166 (.call "newel/control.Breach" [.t 157, (.c (.slice none 0 0)), .t 165]),O3 156 166,O1 167 (.ext (.t 156) 0),O1 168 (.ext (.t 156) 1),O1 169 (.ext (.t 156) 2),O3 17 167,O3 18 168,O3 19 169]
def J5d : List XO := [O3 170 19,O1 171 (.bin .neq .no (.t 170) (c9 0)),O3 172 171,O9 173 172 false (.mv (.t 16)),O9 174 172 false (.bin .neq .no (.t 173) (c9 0)),O9 175 172 false (.mv (.t 174)),O9 176 175 true (.mv (.t 16)),O9 177 175 true (.bin .neq .no (.t 176) (c9 3)),O9 178 172 false (.pick (.t 175) (.t 177) (.c (.bool false))),O1 179 (.pick (.t 172) (.c (.bool true)) (.t 178)),O3 180 179,O9 181 180 false (.mv (.t 18)),O9 182 180 false (.mv (.t 16)),O9 183 180 false (.bin .eql .no (.t 182) (c9 0)),O9 184 180 false (.bin .neq .bool (.t 181) (.t 183)),O1 185 (.pick (.t 180) (.c (.bool true)) (.t 184)),O3 186 185,O9 187 186 false (.mv (.t 17)),O9 188 186 false (.len false (.t 187)),O9 189 186 false (.mv (.t 15)),O9 190 186 false (.len false (.t 189)),O9 191 186 false (.bin .neq .no (.t 188) (.t 190)),O1 192 (.pick (.t 186) (.c (.bool true)) (.t 191)),O3 193 192,O9 194 193 false (.mv (.t 14)),O9 195 193 false (.mv (.t 15)),O9 196 193 false (.len false (.t 195)),O9 197 193 false (.bin .neq .no (.t 194) (.t 196)),O1 198 (.pick (.t 193) (.c (.bool true)) (.t 197))]
def J5e : List XO := [O1 4 (.mv (.c (.bool false)))]
def J5f : List XO := [O1 20 (.mv (c9 0))]
def J5g : List XO := [O3 199 20,O3 200 17,O8 201 200,O1 202 (.bin .lss .no (.t 199) (.t 201))]
def J5h : List XO := [O3 205 17,O3 206 20,O7 207 1 205 206,O4 208 1 207,O3 209 15,O3 210 20,O7 211 1 209 210,O4 212 1 211,O1 213 (.bin .neq .no (.t 208) (.t 212))]
def J5i : List XO := [O1 4 (.mv (.c (.bool false)))]
def J5j : List XO := [O3 203 20,O1 204 (.bin .add .no (.t 203) (c9 1)),O3 20 204]
def J2a : XCode :=
 (.seq (.seq (.reg J5g) (.cond (.t 202) .skip (.exit 4))) (.seq (.block 5 (.seq (.reg J5h) (.cond (.t 213) (.seq (.reg J5i) .ret) .skip))) (.reg J5j)))
def J5l : List XO := [O1 214 (.call "newel/neweltop.measures" []),O3 4 214]
def x_neweltop_TopWalks : XFunc := { np := 2, res := [.t 4], body :=
 (.seq (.reg J4y) (.seq (.seq (.reg J4z) (.cond (.t 63) (.seq (.reg J5a) .ret) .skip)) (.seq (.reg J5k) (.seq (.reg J5m) (.seq (.seq (.reg J5n) (.block 0 (.loop J2b))) (.seq (.seq (.reg J41) (.block 2 (.loop J16))) (.seq (.seq .ghost (.reg J5b)) (.seq (.seq .ghost (.reg J5c)) (.seq (.seq (.reg J5d) (.cond (.t 198) (.seq (.reg J5e) .ret) .skip)) (.seq (.seq (.reg J5f) (.block 4 (.loop J2a))) (.seq (.reg J5l) .ret))))))))))) }
def m0f : List XO := [O1 3 (.boxF (.t 0)),O1 6 (.mv (.c (.slice none 0 0))),O1 7 (.mv (.c (.bool false))),O1 8 (.mv (c9 0))]
def m0g : List XO := [O1 9 (.load true 5 (.tf 3)),O3 10 1,O3 11 2,O1 12 (.bsl 1 [.t 10, .t 11]),O1 13 (.call "newel/control.check" [.t 9, .t 12]),O3 8 13]
def m0h : List XO := [O3 14 8,O1 15 (.bin .neq .no (.t 14) (c9 0))]
def m0i : List XO := [O3 16 8,O1 6 (.mv (.c (.slice none 0 0))),O1 7 (.mv (.c (.bool false))),O3 8 16]
def m0j : List XO := [O1 18 (.load true 5 (.tf 3)),O1 19 (.call "newel/control.of" [.t 18]),O3 20 1,O3 21 2,O1 22 (.call "(newel/control.plant).breach" [.t 19, .t 20, .t 21, (.f "newel/control.same")]),O3 17 22,O1 23 (.ext (.t 17) 0),O1 24 (.ext (.t 17) 1),O3 6 23,O3 7 24]
def m0k : List XO := [O3 25 6,O3 26 7,O3 6 25,O3 7 26,O1 8 (.mv (c9 0))]
def x_control_Breach : XFunc := { np := 3, res := [.t 6, .t 7, .t 8], body :=
 (.seq (.reg m0f) (.seq (.seq (.reg m0g) (.seq (.reg m0h) (.cond (.t 15) (.seq (.reg m0i) .ret) .skip))) (.seq (.reg m0j) (.seq (.reg m0k) .ret)))) }
def C47 : List XO := [O1 1 (.boxF (.t 0)),O1 2 (.mv (c9 0))]
def C48 : List XO := [O1 7 (.fldA 0 (.tf 1)),O1 8 (.load false 1 (.tf 7)),O1 9 (.call "newel/newelref08.from" [.t 8, (c9 1), (c9 10)]),O1 10 (.un .not (.t 9)),O3 11 10,O9 12 11 false (.fldA 1 (.tf 1)),O9 13 11 false (.load false 1 (.tf 12)),O9 14 11 false (.len false (.t 13)),O9 15 11 false (.bin .gtr .no (.t 14) (c9 24)),O1 16 (.pick (.t 11) (.c (.bool true)) (.t 15))]
def C5j : List XO := [O1 2 (.mv (c9 80))]
def C5r : List XO := [O1 3 (.mv (.c (.slice none 0 0)))]
def C5s : List XO := [O1 4 (.mv (c9 0))]
def C5t : List XO := [O3 17 4,O1 18 (.fldA 1 (.tf 1)),O1 19 (.load false 1 (.tf 18)),O8 20 19,O1 21 (.bin .lss .no (.t 17) (.t 20))]
def C5u : List XO := [O1 24 (.fldA 1 (.tf 1)),O1 25 (.load false 1 (.tf 24)),O3 26 4,O7 27 7 25 26,O6 28 7 27,O1 5 (.alloc [(.int .i64 0), (.int .i64 0), (.int .i64 0), (.int .i64 0), (.int .i64 0), (.int .i64 0), (.int .i64 0)]),O2 (.store 7 (.t 5) (.t 28))]
def C5v : List XO := [O5 29 0 5,O4 30 1 29,O1 31 (.fldA 0 (.tf 1)),O1 32 (.load false 1 (.tf 31)),O1 33 (.bin .sub .no (.t 32) (c9 1)),O1 34 (.call "newel/newelref08.from" [.t 30, (c9 0), .t 33]),O1 35 (.un .not (.t 34)),O3 36 35,O9 37 36 false (.fldA 1 (.t 5)),O9 38 36 false (.load false 1 (.t 37)),O9 39 36 false (.fldA 0 (.tf 1)),O9 40 36 false (.load false 1 (.tf 39)),O9 41 36 false (.bin .sub .no (.t 40) (c9 1)),O9 42 36 false (.call "newel/newelref08.from" [.t 38, (c9 0), .t 41]),O9 43 36 false (.un .not (.t 42)),O1 44 (.pick (.t 36) (.c (.bool true)) (.t 43)),O3 45 44,O9 46 45 false (.fldA 0 (.t 5)),O9 47 45 false (.load false 1 (.t 46)),O9 48 45 false (.fldA 1 (.t 5)),O9 49 45 false (.load false 1 (.t 48)),O9 50 45 false (.bin .eql .no (.t 47) (.t 49)),O1 51 (.pick (.t 45) (.c (.bool true)) (.t 50)),O3 52 51,O9 53 52 false (.fldA 3 (.t 5)),O9 54 52 false (.load false 1 (.t 53)),O9 55 52 false (.call "newel/newelref08.from" [.t 54, (c9 1), (c9 20)]),O9 56 52 false (.un .not (.t 55)),O1 57 (.pick (.t 52) (.c (.bool true)) (.t 56)),O3 58 57,O9 59 58 false (.fldA 4 (.t 5)),O9 60 58 false (.load false 1 (.t 59)),O9 61 58 false (.call "newel/newelref08.from" [.t 60, (c9 1), (c9 50)]),O9 62 58 false (.un .not (.t 61)),O1 63 (.pick (.t 58) (.c (.bool true)) (.t 62)),O3 64 63,O9 65 64 false (.fldA 2 (.t 5)),O9 66 64 false (.load false 1 (.t 65)),O9 67 64 false (.call "newel/newelref08.from" [.t 66, (c9 1), (c9 5)]),O9 68 64 false (.un .not (.t 67)),O1 69 (.pick (.t 64) (.c (.bool true)) (.t 68))]
def C5w : List XO := [O1 2 (.mv (c9 80))]
def C5x : List XO := [O5 70 2 5,O4 71 1 70,O1 72 (.bin .eql .no (.t 71) (c9 3)),O3 73 72,O9 74 73 false (.fldA 2 (.t 5)),O9 75 73 false (.load false 1 (.t 74)),O9 76 73 false (.bin .eql .no (.t 75) (c9 4)),O1 77 (.pick (.t 73) (.c (.bool true)) (.t 76))]
def C49 : List XO := [O5 78 5 5,O4 79 1 78,O1 80 (.call "newel/newelref08.from" [.t 79, (c9 0), (c9 11)]),O1 81 (.un .not (.t 80)),O3 82 81,O9 83 82 false (.mv (.t 3)),O9 84 82 false (.fldA 5 (.t 5)),O9 85 82 false (.load false 1 (.t 84)),O9 86 82 false (.call "newel/newelref08.has" [.t 83, .t 85]),O1 87 (.pick (.t 82) (.c (.bool true)) (.t 86))]
def C5a : List XO := [O1 2 (.mv (c9 80))]
def C5b : List XO := [O3 88 3,O5 89 5 5,O4 90 1 89,O1 91 (.bsl 1 [.t 90]),O1 92 (.app 1 8 (.t 88) (.t 91)),O3 3 92]
def C5c : List XO := [O5 93 5 5,O4 94 1 93,O1 95 (.bin .neq .no (.t 94) (.c (.int .i64 (-1))))]
def C5d : List XO := [O1 2 (.mv (c9 80))]
def C5e : List XO := [O5 96 2 5,O4 97 1 96,O1 98 (.bin .eql .no (.t 97) (c9 3))]
def C5f : List XO := [O5 99 6 5,O4 100 1 99,O1 101 (.call "newel/newelref08.from" [.t 100, (c9 1), (c9 20)]),O1 102 (.un .not (.t 101))]
def C5g : List XO := [O1 2 (.mv (c9 80))]
def C5h : List XO := [O5 103 6 5,O4 104 1 103,O1 105 (.bin .neq .no (.t 104) (c9 0))]
def C5i : List XO := [O1 2 (.mv (c9 80))]
def C5k : List XO := [O3 22 4,O1 23 (.bin .add .no (.t 22) (c9 1)),O3 4 23]
def C1a : XCode :=
 (.seq (.seq (.reg C5t) (.cond (.t 21) .skip (.exit 0))) (.seq (.block 1 (.seq (.reg C5u) (.seq (.seq (.reg C5v) (.cond (.t 69) (.seq (.reg C5w) .ret) .skip)) (.seq (.seq (.reg C5x) (.cond (.t 77) (.seq (.seq (.reg C49) (.cond (.t 87) (.seq (.reg C5a) .ret) .skip)) (.reg C5b)) (.seq (.reg C5c) (.cond (.t 95) (.seq (.reg C5d) .ret) .skip)))) (.seq (.reg C5e) (.cond (.t 98) (.seq (.reg C5f) (.cond (.t 102) (.seq (.reg C5g) .ret) .skip)) (.seq (.reg C5h) (.cond (.t 105) (.seq (.reg C5i) .ret) .skip)))))))) (.reg C5k)))
def C5l : List XO := [O1 6 (.mv (c9 0))]
def C5m : List XO := [O3 106 6,O1 107 (.fldA 2 (.tf 1)),O1 108 (.load false 1 (.tf 107)),O8 109 108,O1 110 (.bin .lss .no (.t 106) (.t 109))]
def C5n : List XO := [O1 113 (.fldA 2 (.tf 1)),O1 114 (.load false 1 (.tf 113)),O3 115 6,O7 116 1 114 115,O4 117 1 116,O1 118 (.fldA 0 (.tf 1)),O1 119 (.load false 1 (.tf 118)),O1 120 (.bin .sub .no (.t 119) (c9 1)),O1 121 (.call "newel/newelref08.from" [.t 117, (c9 0), .t 120]),O1 122 (.un .not (.t 121)),O3 123 122,O9 124 123 false (.mv (.t 6)),O9 125 123 false (.bin .gtr .no (.t 124) (c9 0)),O9 126 123 false (.mv (.t 125)),O9 127 126 true (.fldA 2 (.tf 1)),O9 128 126 true (.load false 1 (.tf 127)),O9 129 126 true (.mv (.t 6)),O9 130 126 true (.ixA 1 (.t 128) (.t 129)),O9 131 126 true (.load false 1 (.t 130)),O9 132 126 true (.fldA 2 (.tf 1)),O9 133 126 true (.load false 1 (.tf 132)),O9 134 126 true (.mv (.t 6)),O9 135 126 true (.bin .sub .no (.t 134) (c9 1)),O9 136 126 true (.ixA 1 (.t 133) (.t 135)),O9 137 126 true (.load false 1 (.t 136)),O9 138 126 true (.bin .leq .no (.t 131) (.t 137)),O9 139 123 false (.pick (.t 126) (.t 138) (.c (.bool false))),O1 140 (.pick (.t 123) (.c (.bool true)) (.t 139))]
def C5o : List XO := [O1 2 (.mv (c9 80))]
def C5p : List XO := [O3 111 6,O1 112 (.bin .add .no (.t 111) (c9 1)),O3 6 112]
def C1b : XCode :=
 (.seq (.seq (.reg C5m) (.cond (.t 110) .skip (.exit 2))) (.seq (.block 3 (.seq (.reg C5n) (.cond (.t 140) (.seq (.reg C5o) .ret) .skip))) (.reg C5p)))
def C5q : List XO := [O1 2 (.mv (c9 0))]
def x_r08_Check : XFunc := { np := 1, res := [.t 2], body :=
 (.seq (.reg C47) (.seq (.seq (.reg C48) (.cond (.t 16) (.seq (.reg C5j) .ret) .skip)) (.seq (.reg C5r) (.seq (.seq (.reg C5s) (.block 0 (.loop C1a))) (.seq (.seq (.reg C5l) (.block 2 (.loop C1b))) (.seq (.reg C5q) .ret)))))) }
def J6a : List XO := [O1 1 (.boxF (.t 0)),O1 2 (.alloc [(.int .i64 0), (.slice none 0 0), (.slice none 0 0)])]
def J6b : List XO := [O1 3 (.fldA 0 (.tf 1)),O1 4 (.load false 1 (.tf 3)),O1 5 (.bsl 7 []),O1 6 (.fldA 1 (.tf 1)),O1 7 (.load false 1 (.tf 6)),O1 8 (.app 7 56 (.t 5) (.t 7)),O1 9 (.bsl 1 []),O1 10 (.fldA 2 (.tf 1)),O1 11 (.load false 1 (.tf 10)),O1 12 (.app 1 8 (.t 9) (.t 11)),O1 13 (.build [(.int .i64 0), (.slice none 0 0), (.slice none 0 0)] [(0, 1, (.t 4)), (1, 1, (.t 8)), (2, 1, (.t 12))]),O2 (.store 3 (.t 2) (.t 13))]
def x_r08_Copy : XFunc := { np := 1, res := [.cell 2 true 3], body :=
 (.seq (.reg J6a) (.seq (.reg J6b) .ret)) }
def J56 : List XO := [O1 0 (.mv (.c (.slice none 0 0)))]
def J57 : List XO := [O1 1 (.bsl 1 [(.c (.string (ByteArray.mk #[105, 97]))), (.c (.string (ByteArray.mk #[105, 98]))), (.c (.string (ByteArray.mk #[105, 99]))), (.c (.string (ByteArray.mk #[105, 100])))]),O3 0 1]
def x_neweltop_four : XFunc := { np := 0, res := [.t 0], body :=
 (.seq (.reg J56) (.seq (.reg J57) .ret)) }
def J58 : List XO := [O1 4 (.mv (.c (.string (ByteArray.mk #[]))))]
def J59 : List XO := [O3 5 0,O3 6 1,O1 7 (.bin .add .no (c9 97) (.t 6)),O1 8 (.cvtI .i32 (.t 7)),O1 9 (.callw "#chr" [.t 8]),O1 10 (.bin .add .no (.t 5) (.t 9)),O3 4 10]
def x_neweltop_letter : XFunc := { np := 2, res := [.t 4], body :=
 (.seq (.reg J58) (.seq (.reg J59) .ret)) }
def J6c : List XO := [O1 6 (.boxF (.t 0)),O1 12 (.mv (c9 0)),O1 13 (.mv (.c (.bool false)))]
def J6d : List XO := [O1 14 (.mv (c9 0))]
def J6h : List XO := [O1 15 (.mv (c9 0))]
def J6i : List XO := [O3 17 15,O3 18 5,O8 19 18,O1 20 (.bin .lss .no (.t 17) (.t 19))]
def J6j : List XO := [O3 23 5,O3 24 15,O7 25 1 23 24,O4 26 1 25,O1 27 (.fldA 1 (.tf 6)),O1 28 (.load false 1 (.tf 27)),O8 29 28,O1 30 (.bin .sub .no (.t 29) (c9 1)),O1 31 (.call "newel/newelref08.from" [.t 26, (c9 0), .t 30]),O1 32 (.un .not (.t 31))]
def J6k : List XO := [O1 12 (.mv (c9 0)),O1 13 (.mv (.c (.bool false)))]
def J6l : List XO := [O1 33 (.fldA 1 (.tf 6)),O1 34 (.load false 1 (.tf 33)),O3 35 5,O3 36 15,O7 37 1 35 36,O4 38 1 37,O7 39 7 34 38,O6 40 7 39,O1 16 (.alloc [(.int .i64 0), (.int .i64 0), (.int .i64 0), (.int .i64 0), (.int .i64 0), (.int .i64 0), (.int .i64 0)]),O2 (.store 7 (.t 16) (.t 40))]
def J6m : List XO := [O6 41 7 16,O3 42 3,O1 43 (.call "newel/newelref08.Other" [.t 41, .t 42]),O3 3 43]
def J6n : List XO := [O3 44 3,O1 45 (.bin .lss .no (.t 44) (c9 0)),O3 46 45,O9 47 46 false (.load true 7 (.t 16)),O9 48 46 false (.mv (.t 1)),O9 49 46 false (.mv (.t 2)),O9 50 46 false (.call "newel/newelref08.free" [.t 47, .t 48, .t 49]),O9 51 46 false (.un .not (.t 50)),O1 52 (.pick (.t 46) (.c (.bool true)) (.t 51))]
def J6o : List XO := [O1 12 (.mv (c9 0)),O1 13 (.mv (.c (.bool false)))]
def J6e : List XO := [O3 53 14,O5 54 3 16,O4 55 1 54,O1 56 (.bin .add .no (.t 53) (.t 55)),O3 14 56]
def J6f : List XO := [O3 21 15,O1 22 (.bin .add .no (.t 21) (c9 1)),O3 15 22]
def J2d : XCode :=
 (.seq (.seq (.reg J6i) (.cond (.t 20) .skip (.exit 0))) (.seq (.block 1 (.seq (.seq (.reg J6j) (.cond (.t 32) (.seq (.reg J6k) .ret) .skip)) (.seq (.reg J6l) (.seq (.reg J6m) (.seq (.seq (.reg J6n) (.cond (.t 52) (.seq (.reg J6o) .ret) .skip)) (.reg J6e)))))) (.reg J6f)))
def J6g : List XO := [O3 57 14,O3 58 3,O3 59 4,O1 60 (.bin .eql .no (.t 58) (.t 59)),O3 12 57,O3 13 60]
def x_r08_Free : XFunc := { np := 6, res := [.t 12, .t 13], body :=
 (.seq (.reg J6c) (.seq (.reg J6d) (.seq (.seq (.reg J6h) (.block 0 (.loop J2d))) (.seq (.reg J6g) .ret)))) }
def J5y : List XO := [O1 4 (.mv (c9 0))]
def J5z : List XO := [O3 5 0]
def J50 : List XO := [O3 7 1,O1 8 (.bin .eql .no (.t 5) (.t 7)),O3 6 8]
def J52 : List XO := [O1 4 (.mv (c9 0))]
def J53 : List XO := [O1 10 (.bin .eql .no (.t 5) (c9 0)),O3 9 10]
def J54 : List XO := [O3 11 1,O3 4 11]
def J55 : List XO := [O3 12 0,O3 4 12]
def x_neweltop_first : XFunc := { np := 2, res := [.t 4], body :=
 (.seq (.reg J5y) (.seq (.seq (.reg J5z) (.block 0 (.seq (.reg J50) (.cond (.t 6) (.seq (.reg J52) .ret) (.seq (.reg J53) (.cond (.t 9) (.seq (.reg J54) .ret) .skip)))))) (.seq (.reg J55) .ret))) }
def J5r : List XO := [O1 2 (.mv (.c (.slice none 0 0)))]
def J5s : List XO := [O1 3 (.mv (.c (.slice none 0 0)))]
def J5t : List XO := [O1 4 (.mv (c9 0))]
def J5u : List XO := [O3 5 4,O1 6 (.bin .lss .no (.t 5) (c9 4))]
def J5v : List XO := [O3 9 3,O3 10 4,O3 11 0,O3 12 4,O1 13 (.cvtI .u64 (.t 12)),O1 14 (.bin .shr .no (.t 11) (.t 13)),O1 15 (.bin .and .no (.t 14) (c9 1)),O1 16 (.bin .eql .no (.t 15) (c9 0)),O1 17 (.build [(.int .i64 0), (.int .i64 0), (.int .i64 0), (.bool false)] [(0, 1, (c9 1)), (1, 1, (.t 10)), (3, 1, (.t 16))]),O1 18 (.bsl 4 [.t 17]),O1 19 (.app 4 32 (.t 9) (.t 18)),O3 3 19]
def J5w : List XO := [O3 7 4,O1 8 (.bin .add .no (.t 7) (c9 1)),O3 4 8]
def J2c : XCode :=
 (.seq (.seq (.reg J5u) (.cond (.t 6) .skip (.exit 0))) (.seq (.block 1 (.reg J5v)) (.reg J5w)))
def J5x : List XO := [O3 20 3,O1 21 (.bsl 1 [.t 20]),O3 2 21]
def x_neweltop_bits : XFunc := { np := 1, res := [.t 2], body :=
 (.seq (.reg J5r) (.seq (.reg J5s) (.seq (.seq (.reg J5t) (.block 0 (.loop J2c))) (.seq (.seq .ghost (.reg J5x)) .ret)))) }
def J6z : List XO := [O1 5 (.boxF (.t 0)),O1 10 (.mv (c9 0)),O1 11 (.mv (.c (.slice none 0 0))),O1 12 (.mv (c9 0))]
def J60 : List XO := [O1 19 (.load true 3 (.tf 5)),O3 20 1,O3 21 3,O3 22 4,O1 23 (.bsl 1 [.t 21, .t 22]),O1 24 (.call "newel/ways.asked" [.t 19, .t 20, .t 23]),O3 12 24]
def J69 : List XO := [O3 25 12,O1 26 (.bin .neq .no (.t 25) (c9 0))]
def J7b : List XO := [O3 27 12,O1 10 (.mv (c9 0)),O1 11 (.mv (.c (.slice none 0 0))),O3 12 27]
def J7c : List XO := [O1 28 (.load true 3 (.tf 5)),O3 29 1,O3 30 2,O1 31 (.build [(.int .i64 0), (.slice none 0 0), (.slice none 0 0), (.int .i64 0), (.bool false)] [(0, 3, (.t 28)), (3, 1, (.t 29)), (4, 1, (.t 30))]),O1 13 (.alloc [(.int .i64 0), (.slice none 0 0), (.slice none 0 0), (.int .i64 0), (.bool false)]),O2 (.store 5 (.t 13) (.t 31))]
def J7d : List XO := [O6 32 5 13,O3 33 4,O1 34 (.call "(newel/ways.level).far" [.t 32, .t 33]),O3 14 34]
def J7e : List XO := [O3 35 14,O3 36 3,O7 37 1 35 36,O4 38 1 37,O1 39 (.bin .lss .no (.t 38) (c9 0))]
def J7f : List XO := [O1 10 (.mv (c9 0)),O1 11 (.mv (.c (.slice none 0 0))),O1 12 (.mv (c9 3))]
def J7g : List XO := [O3 40 3,O3 15 40]
def J7h : List XO := [O3 41 15,O3 42 4,O1 43 (.bin .neq .no (.t 41) (.t 42))]
def J61 : List XO := [O1 44 (.fldA 1 (.tf 5)),O1 45 (.load false 1 (.tf 44)),O8 46 45,O1 47 (.mv (c9 0))]
def J62 : List XO := [O1 48 (.bin .lss .no (.t 47) (.t 46))]
def J63 : List XO := [O3 49 47,O7 50 7 45 47,O6 51 7 50,O1 17 (.alloc [(.int .i64 0), (.int .i64 0), (.int .i64 0), (.int .i64 0), (.int .i64 0), (.int .i64 0), (.int .i64 0)]),O3 16 49,O2 (.store 7 (.t 17) (.t 51))]
def J64 : List XO := [O6 52 5 13,O6 53 7 17,O3 54 15,O1 55 (.call "(newel/ways.level).other" [.t 52, .t 53, .t 54]),O3 18 55]
def J65 : List XO := [O3 56 18,O1 57 (.bin .geq .no (.t 56) (c9 0)),O3 58 57,O9 59 58 true (.mv (.t 14)),O9 60 58 true (.mv (.t 18)),O9 61 58 true (.ixA 1 (.t 59) (.t 60)),O9 62 58 true (.load false 1 (.t 61)),O9 63 58 true (.bin .geq .no (.t 62) (c9 0)),O1 64 (.pick (.t 58) (.t 63) (.c (.bool false))),O3 65 64,O9 66 65 true (.mv (.t 14)),O9 67 65 true (.mv (.t 18)),O9 68 65 true (.ixA 1 (.t 66) (.t 67)),O9 69 65 true (.load false 1 (.t 68)),O9 70 65 true (.fldA 3 (.t 17)),O9 71 65 true (.load false 1 (.t 70)),O9 72 65 true (.bin .add .no (.t 69) (.t 71)),O9 73 65 true (.mv (.t 14)),O9 74 65 true (.mv (.t 15)),O9 75 65 true (.ixA 1 (.t 73) (.t 74)),O9 76 65 true (.load false 1 (.t 75)),O9 77 65 true (.bin .eql .no (.t 72) (.t 76)),O1 78 (.pick (.t 65) (.t 77) (.c (.bool false)))]
def J66 : List XO := [O3 79 11,O3 80 16,O1 81 (.bsl 1 [.t 80]),O1 82 (.app 1 8 (.t 79) (.t 81)),O3 11 82]
def J67 : List XO := [O3 83 18,O3 15 83]
def J68 : List XO := [O1 84 (.bin .add .no (.t 47) (c9 1)),O3 47 84]
def J2e : XCode :=
 (.seq (.reg J62) (.seq (.cond (.t 48) .skip (.exit 2)) (.seq (.block 3 (.seq (.reg J63) (.seq (.reg J64) (.seq (.reg J65) (.cond (.t 78) (.seq (.reg J66) (.seq (.reg J67) (.exit 2))) .skip))))) (.reg J68))))
def J2f : XCode :=
 (.seq (.seq (.reg J7h) (.cond (.t 43) .skip (.exit 0))) (.block 1 (.seq (.reg J61) (.block 2 (.loop J2e)))))
def J7a : List XO := [O3 85 14,O3 86 3,O7 87 1 85 86,O4 88 1 87,O3 89 11,O3 10 88,O3 11 89,O1 12 (.mv (c9 0))]
def x_ways_Way : XFunc := { np := 5, res := [.t 10, .t 11, .t 12], body :=
 (.seq (.reg J6z) (.seq (.seq (.reg J60) (.seq (.reg J69) (.cond (.t 26) (.seq (.reg J7b) .ret) .skip))) (.seq (.reg J7c) (.seq (.reg J7d) (.seq (.seq (.reg J7e) (.cond (.t 39) (.seq (.reg J7f) .ret) .skip)) (.seq (.seq (.reg J7g) (.block 0 (.loop J2f))) (.seq (.reg J7a) .ret))))))) }
def m0l : List XO := [O1 1 (.boxF (.t 0)),O1 2 (.mv (c9 0))]
def m0m : List XO := [O1 3 (.load true 5 (.tf 1)),O1 4 (.call "newel/situation.Check" [.t 3]),O3 2 4]
def x_control_Check : XFunc := { np := 1, res := [.t 2], body :=
 (.seq (.reg m0l) (.seq (.reg m0m) .ret)) }
def m2z : List XO := [O1 1 (.boxF (.t 0)),O1 2 (.alloc [(.slice none 0 0), (.slice none 0 0), (.slice none 0 0), (.slice none 0 0), (.slice none 0 0)])]
def m20 : List XO := [O1 3 (.load true 5 (.tf 1)),O1 4 (.build [(.slice none 0 0), (.slice none 0 0), (.slice none 0 0), (.slice none 0 0), (.slice none 0 0)] [(0, 5, (.t 3))]),O1 5 (.build [(.slice none 0 0), (.slice none 0 0), (.slice none 0 0), (.slice none 0 0), (.slice none 0 0)] [(0, 5, (.t 4))]),O2 (.store 5 (.t 2) (.t 5))]
def x_control_of : XFunc := { np := 1, res := [.cell 2 true 5], body :=
 (.seq (.reg m2z) (.seq (.reg m20) .ret)) }
def l9h : List XO := [O1 3 (.boxF (.t 0)),O1 4 (.box (.t 1)),O1 6 (.alloc [(.int .i64 0), (.int .i64 0), (.int .i64 0)])]
def l9i : List XO := [O1 11 (.fldA 0 (.tf 3)),O1 12 (.fldA 4 (.tf 11)),O1 13 (.load false 1 (.tf 12)),O8 14 13,O1 15 (.mv (c9 0))]
def l9m : List XO := [O1 16 (.bin .lss .no (.t 15) (.t 14))]
def l9n : List XO := [O7 17 4 13 15,O6 18 4 17,O1 8 (.alloc [(.int .i64 0), (.int .i64 0), (.slice none 0 0), (.slice none 0 0)]),O2 (.store 4 (.t 8) (.t 18))]
def l9o : List XO := [O5 19 0 8,O4 20 1 19,O1 21 (.bin .neq .no (.t 20) (.c (.int .i64 (-1)))),O3 22 21,O9 23 22 true (.fldA 0 (.t 8)),O9 24 22 true (.load false 1 (.t 23)),O9 25 22 true (.fldA 0 (.t 4)),O9 26 22 true (.load false 1 (.t 25)),O9 27 22 true (.bin .neq .no (.t 24) (.t 26)),O1 28 (.pick (.t 22) (.t 27) (.c (.bool false))),O3 29 28,O9 30 29 false (.load true 5 (.tf 3)),O9 31 29 false (.fldA 2 (.t 8)),O9 32 29 false (.load false 1 (.t 31)),O9 33 29 false (.load true 3 (.t 4)),O9 34 29 false (.mv (.t 2)),O9 35 29 false (.call "(newel/situation.Plant).Holds" [.t 30, .t 32, .t 33, .t 34]),O9 36 29 false (.un .not (.t 35)),O1 37 (.pick (.t 29) (.c (.bool true)) (.t 36))]
def l9p : List XO := [O5 38 3 8,O4 39 1 38,O8 40 39,O1 41 (.mv (c9 0))]
def l9q : List XO := [O1 42 (.bin .lss .no (.t 41) (.t 40))]
def l9r : List XO := [O7 43 2 39 41,O6 44 2 43,O1 10 (.alloc [(.int .i64 0), (.int .i64 0)]),O2 (.store 2 (.t 10) (.t 44))]
def l9s : List XO := [O1 45 (.load true 5 (.tf 3)),O6 46 2 10,O1 47 (.callw "(newel/situation.Plant).set" [.t 45, .t 46, .t 4])]
def l9t : List XO := [O1 48 (.bin .add .no (.t 41) (c9 1)),O3 41 48]
def g36 : XCode :=
 (.seq (.reg l9q) (.seq (.cond (.t 42) .skip (.exit 2)) (.seq (.block 3 (.seq (.reg l9r) (.reg l9s))) (.reg l9t))))
def l9j : List XO := [O5 49 1 8,O4 50 1 49,O5 51 0 4,O2 (.store 1 (.t 51) (.t 50))]
def l9k : List XO := [O1 52 (.bin .add .no (.t 15) (c9 1)),O3 15 52]
def g37 : XCode :=
 (.seq (.reg l9m) (.seq (.cond (.t 16) .skip (.exit 0)) (.seq (.block 1 (.seq (.reg l9n) (.seq (.seq (.reg l9o) (.cond (.t 37) (.exit 1) .skip)) (.seq (.seq (.reg l9p) (.block 2 (.loop g36))) (.seq (.reg l9j) (.exit 0)))))) (.reg l9k))))
def l9l : List XO := [O6 53 3 4,O2 (.store 3 (.t 6) (.t 53))]
def x__situation_Plant__Step : XFunc := { np := 3, res := [.cell 6 true 3], body :=
 (.seq (.reg l9h) (.seq (.seq (.reg l9i) (.block 0 (.loop g37))) (.seq (.reg l9l) .ret))) }
def m2o : List XO := [O1 2 (.boxF (.t 0)),O1 4 (.mv (c9 0))]
def m2p : List XO := [O1 8 (.load true 5 (.tf 2)),O1 9 (.call "newel/control.Check" [.t 8]),O3 5 9]
def m2r : List XO := [O3 10 5,O1 11 (.bin .neq .no (.t 10) (c9 0))]
def m2s : List XO := [O3 12 5,O3 4 12]
def m2t : List XO := [O3 13 1,O8 14 13,O1 15 (.mv (c9 0))]
def m2u : List XO := [O1 16 (.bin .lss .no (.t 15) (.t 14))]
def m2v : List XO := [O7 17 1 13 15,O4 18 1 17,O3 7 18]
def m2w : List XO := [O1 19 (.load true 5 (.tf 2)),O3 20 7,O1 21 (.call "newel/situation.Asked" [.t 19, .t 20]),O1 22 (.un .not (.t 21))]
def m2x : List XO := [O1 4 (.mv (c9 42))]
def m2y : List XO := [O1 23 (.bin .add .no (.t 15) (c9 1)),O3 15 23]
def g4b : XCode :=
 (.seq (.reg m2u) (.seq (.cond (.t 16) .skip (.exit 0)) (.seq (.block 1 (.seq (.reg m2v) (.seq (.reg m2w) (.cond (.t 22) (.seq (.reg m2x) .ret) .skip)))) (.reg m2y))))
def m2q : List XO := [O1 4 (.mv (c9 0))]
def x_control_check : XFunc := { np := 2, res := [.t 4], body :=
 (.seq (.reg m2o) (.seq (.seq (.reg m2p) (.seq (.reg m2r) (.cond (.t 11) (.seq (.reg m2s) .ret) .skip))) (.seq (.seq (.reg m2t) (.block 0 (.loop g4b))) (.seq (.reg m2q) .ret)))) }
def J4x : List XO := [O1 4 (.boxF (.t 0)),O1 6 (.boxF (.t 2)),O1 8 (.mv (.c (.slice none 0 0))),O1 9 (.mv (.c (.bool false)))]
def l75 : List XO := [O1 11 (.load true 5 (.tf 4)),O3 12 1,O3 13 3,O1 14 (.call "(newel/control.plant).explore" [.t 11, .t 12, .t 13]),O1 10 (.alloc [(.pointer none)]),O2 (.store 1 (.t 10) (.t 14))]
def l76 : List XO := [O4 15 1 10,O1 16 (.mkfn "(newel/control.plant).breach$1" [] [.t 4, .t 6, .t 10]),O1 17 (.call "(*newel/control.walk).first" [.t 15, .t 16]),O1 18 (.ext (.t 17) 0),O1 19 (.ext (.t 17) 1),O3 8 18,O3 9 19]
def x__control_plant__breach : XFunc := { np := 4, res := [.t 8, .t 9], body :=
 (.seq (.reg J4x) (.seq (.reg l75) (.seq (.seq .ghost (.reg l76)) .ret))) }
def m21 : List XO := [O1 2 (.mv (c9 0))]
def m22 : List XO := [O3 3 0,O3 2 3]
def x_control_same : XFunc := { np := 1, res := [.t 2], body :=
 (.seq (.reg m21) (.seq (.reg m22) .ret)) }
def C5y : List XO := [O1 6 (.mv (.c (.bool false)))]
def C5z : List XO := [O3 7 0,O3 8 1,O1 9 (.bin .geq .no (.t 7) (.t 8)),O3 10 9,O9 11 10 true (.mv (.t 0)),O9 12 10 true (.mv (.t 2)),O9 13 10 true (.bin .leq .no (.t 11) (.t 12)),O1 14 (.pick (.t 10) (.t 13) (.c (.bool false))),O3 6 14]
def x_r08_from : XFunc := { np := 3, res := [.t 6], body :=
 (.seq (.reg C5y) (.seq (.reg C5z) .ret)) }
def C50 : List XO := [O1 4 (.mv (.c (.bool false)))]
def C51 : List XO := [O1 5 (.mv (c9 0))]
def C52 : List XO := [O3 6 5,O3 7 0,O8 8 7,O1 9 (.bin .lss .no (.t 6) (.t 8))]
def C53 : List XO := [O3 12 0,O3 13 5,O7 14 1 12 13,O4 15 1 14,O3 16 1,O1 17 (.bin .eql .no (.t 15) (.t 16))]
def C54 : List XO := [O1 4 (.mv (.c (.bool true)))]
def C55 : List XO := [O3 10 5,O1 11 (.bin .add .no (.t 10) (c9 1)),O3 5 11]
def C1c : XCode :=
 (.seq (.seq (.reg C52) (.cond (.t 9) .skip (.exit 0))) (.seq (.block 1 (.seq (.reg C53) (.cond (.t 17) (.seq (.reg C54) .ret) .skip))) (.reg C55)))
def C56 : List XO := [O1 4 (.mv (.c (.bool false)))]
def x_r08_has : XFunc := { np := 2, res := [.t 4], body :=
 (.seq (.reg C50) (.seq (.seq (.reg C51) (.block 0 (.loop C1c))) (.seq (.reg C56) .ret))) }
def J6p : List XO := [O1 2 (.boxF (.t 0)),O1 4 (.mv (c9 0))]
def J6q : List XO := [O1 5 (.fldA 0 (.tf 2)),O1 6 (.load false 1 (.tf 5)),O3 7 1,O1 8 (.bin .eql .no (.t 6) (.t 7))]
def J6r : List XO := [O1 9 (.fldA 1 (.tf 2)),O1 10 (.load false 1 (.tf 9)),O3 4 10]
def J6s : List XO := [O1 11 (.fldA 1 (.tf 2)),O1 12 (.load false 1 (.tf 11)),O3 13 1,O1 14 (.bin .eql .no (.t 12) (.t 13))]
def J6t : List XO := [O1 15 (.fldA 0 (.tf 2)),O1 16 (.load false 1 (.tf 15)),O3 4 16]
def J6u : List XO := [O1 4 (.mv (.c (.int .i64 (-1))))]
def x_r08_Other : XFunc := { np := 2, res := [.t 4], body :=
 (.seq (.reg J6p) (.seq (.seq (.reg J6q) (.cond (.t 8) (.seq (.reg J6r) .ret) .skip)) (.seq (.seq (.reg J6s) (.cond (.t 14) (.seq (.reg J6t) .ret) .skip)) (.seq (.reg J6u) .ret)))) }
def J6v : List XO := [O1 3 (.boxF (.t 0)),O1 6 (.mv (.c (.bool false)))]
def J6w : List XO := [O1 7 (.fldA 2 (.tf 3)),O1 8 (.load false 1 (.tf 7)),O1 9 (.bin .eql .no (.t 8) (c9 1)),O3 10 9,O9 11 10 false (.fldA 2 (.tf 3)),O9 12 10 false (.load false 1 (.tf 11)),O9 13 10 false (.bin .eql .no (.t 12) (c9 4)),O9 14 10 false (.mv (.t 13)),O9 15 14 true (.mv (.t 1)),O9 16 14 true (.fldA 5 (.tf 3)),O9 17 14 true (.load false 1 (.tf 16)),O9 18 14 true (.call "newel/newelref08.isOut" [.t 15, .t 17]),O9 19 14 true (.un .not (.t 18)),O9 20 10 false (.pick (.t 14) (.t 19) (.c (.bool false))),O1 21 (.pick (.t 10) (.c (.bool true)) (.t 20)),O3 22 21,O9 23 22 false (.fldA 2 (.tf 3)),O9 24 22 false (.load false 1 (.tf 23)),O9 25 22 false (.bin .eql .no (.t 24) (c9 5)),O9 26 22 false (.mv (.t 25)),O9 27 26 true (.mv (.t 2)),O9 28 22 false (.pick (.t 26) (.t 27) (.c (.bool false))),O1 29 (.pick (.t 22) (.c (.bool true)) (.t 28)),O3 6 29]
def x_r08_free : XFunc := { np := 3, res := [.t 6], body :=
 (.seq (.reg J6v) (.seq (.reg J6w) .ret)) }
def C7n : List XO := [O1 3 (.boxF (.t 0)),O1 6 (.mv (c9 0))]
def C7o : List XO := [O1 8 (.load true 3 (.tf 3)),O1 9 (.call "newel/ways.Check" [.t 8]),O3 7 9]
def C7p : List XO := [O3 10 7,O1 11 (.bin .neq .no (.t 10) (c9 0))]
def C7q : List XO := [O3 12 7,O3 6 12]
def C7r : List XO := [O3 13 1,O1 14 (.call "newel/ways.within" [.t 13, (c9 0), (c9 4095)]),O1 15 (.un .not (.t 14)),O3 16 15,O9 17 16 false (.load true 3 (.tf 3)),O9 18 16 false (.mv (.t 2)),O9 19 16 false (.call "newel/ways.place" [.t 17, .t 18]),O9 20 16 false (.un .not (.t 19)),O1 21 (.pick (.t 16) (.c (.bool true)) (.t 20))]
def C7s : List XO := [O1 6 (.mv (c9 1))]
def C7t : List XO := [O1 6 (.mv (c9 0))]
def x_ways_asked : XFunc := { np := 3, res := [.t 6], body :=
 (.seq (.reg C7n) (.seq (.seq (.reg C7o) (.seq (.reg C7p) (.cond (.t 11) (.seq (.reg C7q) .ret) .skip))) (.seq (.seq (.reg C7r) (.cond (.t 21) (.seq (.reg C7s) .ret) .skip)) (.seq (.reg C7t) .ret)))) }
def C22 : List XO := [O1 2 (.boxF (.t 0)),O1 4 (.mv (.c (.slice none 0 0)))]
def C23 : List XO := [O1 13 (.fldA 0 (.tf 2)),O1 14 (.fldA 0 (.tf 13)),O1 15 (.load false 1 (.tf 14)),O1 16 (.mksl 1 [(.int .i64 0)] 8 (.t 15) (.t 15)),O3 5 16]
def C3e : List XO := [O3 17 5,O8 18 17,O1 19 (.mv (c9 0))]
def C3l : List XO := [O1 20 (.bin .lss .no (.t 19) (.t 18))]
def C3m : List XO := [O3 21 19,O3 6 21]
def C3n : List XO := [O3 22 5,O3 23 6,O7 24 1 22 23,O2 (.store 1 (.t 24) (.c (.int .i64 (-1))))]
def C3o : List XO := [O1 25 (.bin .add .no (.t 19) (c9 1)),O3 19 25]
def C06 : XCode :=
 (.seq (.reg C3l) (.seq (.cond (.t 20) .skip (.exit 0)) (.seq (.block 1 (.seq (.reg C3m) (.reg C3n))) (.reg C3o))))
def C3p : List XO := [O3 26 5,O3 27 1,O7 28 1 26 27,O2 (.store 1 (.t 28) (c9 0))]
def C3q : List XO := [O1 7 (.mv (.c (.bool true)))]
def C24 : List XO := [O3 29 7]
def C25 : List XO := [O1 7 (.mv (.c (.bool false)))]
def C26 : List XO := [O1 30 (.fldA 0 (.tf 2)),O1 31 (.fldA 0 (.tf 30)),O1 32 (.load false 1 (.tf 31)),O1 33 (.mv (c9 0))]
def C27 : List XO := [O1 34 (.bin .lss .no (.t 33) (.t 32))]
def C28 : List XO := [O3 35 33,O3 8 35]
def C29 : List XO := [O1 36 (.fldA 0 (.tf 2)),O1 37 (.fldA 1 (.tf 36)),O1 38 (.load false 1 (.tf 37)),O8 39 38,O1 40 (.mv (c9 0))]
def C3a : List XO := [O1 41 (.bin .lss .no (.t 40) (.t 39))]
def C3b : List XO := [O7 42 7 38 40,O6 43 7 42,O1 10 (.alloc [(.int .i64 0), (.int .i64 0), (.int .i64 0), (.int .i64 0), (.int .i64 0), (.int .i64 0), (.int .i64 0)]),O2 (.store 7 (.t 10) (.t 43))]
def C3c : List XO := [O1 44 (.load true 5 (.tf 2)),O6 45 7 10,O3 46 8,O1 47 (.call "(newel/ways.level).other" [.t 44, .t 45, .t 46]),O3 11 47]
def C3d : List XO := [O3 48 11,O1 49 (.bin .lss .no (.t 48) (c9 0)),O3 50 49,O9 51 50 false (.mv (.t 5)),O9 52 50 false (.mv (.t 11)),O9 53 50 false (.ixA 1 (.t 51) (.t 52)),O9 54 50 false (.load false 1 (.t 53)),O9 55 50 false (.bin .lss .no (.t 54) (c9 0)),O1 56 (.pick (.t 50) (.c (.bool true)) (.t 55))]
def C3f : List XO := [O3 57 5,O3 58 11,O7 59 1 57 58,O4 60 1 59,O5 61 3 10,O4 62 1 61,O1 63 (.bin .add .no (.t 60) (.t 62)),O3 12 63]
def C3g : List XO := [O3 64 5,O3 65 8,O7 66 1 64 65,O4 67 1 66,O1 68 (.bin .lss .no (.t 67) (c9 0)),O3 69 68,O9 70 69 false (.mv (.t 12)),O9 71 69 false (.mv (.t 5)),O9 72 69 false (.mv (.t 8)),O9 73 69 false (.ixA 1 (.t 71) (.t 72)),O9 74 69 false (.load false 1 (.t 73)),O9 75 69 false (.bin .lss .no (.t 70) (.t 74)),O1 76 (.pick (.t 69) (.c (.bool true)) (.t 75))]
def C3h : List XO := [O3 77 5,O3 78 8,O3 79 12,O7 80 1 77 78,O2 (.store 1 (.t 80) (.t 79)),O1 7 (.mv (.c (.bool true)))]
def C3i : List XO := [O1 81 (.bin .add .no (.t 40) (c9 1)),O3 40 81]
def C03 : XCode :=
 (.seq (.reg C3a) (.seq (.cond (.t 41) .skip (.exit 6)) (.seq (.block 7 (.seq (.reg C3b) (.seq (.reg C3c) (.seq (.seq (.reg C3d) (.cond (.t 56) (.exit 7) .skip)) (.seq (.reg C3f) (.seq (.reg C3g) (.cond (.t 76) (.reg C3h) .skip))))))) (.reg C3i))))
def C3j : List XO := [O1 82 (.bin .add .no (.t 33) (c9 1)),O3 33 82]
def C04 : XCode :=
 (.seq (.reg C27) (.seq (.cond (.t 34) .skip (.exit 4)) (.seq (.block 5 (.seq (.reg C28) (.seq (.reg C29) (.block 6 (.loop C03))))) (.reg C3j))))
def C05 : XCode :=
 (.seq (.seq (.reg C24) (.cond (.t 29) .skip (.exit 2))) (.block 3 (.seq (.reg C25) (.seq (.reg C26) (.block 4 (.loop C04))))))
def C3k : List XO := [O3 83 5,O3 4 83]
def x__ways_level__far : XFunc := { np := 2, res := [.t 4], body :=
 (.seq (.reg C22) (.seq (.reg C23) (.seq (.seq (.reg C3e) (.block 0 (.loop C06))) (.seq (.reg C3p) (.seq (.seq (.reg C3q) (.block 2 (.loop C05))) (.seq (.reg C3k) .ret)))))) }
def C3t : List XO := [O1 3 (.boxF (.t 0)),O1 4 (.boxF (.t 1)),O1 6 (.mv (c9 0))]
def C3u : List XO := [O1 8 (.fldA 2 (.tf 4)),O1 9 (.load false 1 (.tf 8)),O1 10 (.bin .eql .no (.t 9) (c9 1)),O3 11 10,O9 12 11 false (.fldA 2 (.tf 4)),O9 13 11 false (.load false 1 (.tf 12)),O9 14 11 false (.bin .eql .no (.t 13) (c9 4)),O9 15 11 false (.mv (.t 14)),O9 16 15 true (.fldA 3 (.tf 3)),O9 17 15 true (.load false 1 (.tf 16)),O9 18 15 true (.fldA 5 (.tf 4)),O9 19 15 true (.load false 1 (.tf 18)),O9 20 15 true (.bin .shr .no (.t 17) (.t 19)),O9 21 15 true (.bin .and .no (.t 20) (c9 1)),O9 22 15 true (.bin .eql .no (.t 21) (c9 0)),O9 23 11 false (.pick (.t 15) (.t 22) (.c (.bool false))),O1 24 (.pick (.t 11) (.c (.bool true)) (.t 23)),O3 25 24,O9 26 25 false (.fldA 2 (.tf 4)),O9 27 25 false (.load false 1 (.tf 26)),O9 28 25 false (.bin .eql .no (.t 27) (c9 5)),O9 29 25 false (.mv (.t 28)),O9 30 29 true (.fldA 4 (.tf 3)),O9 31 29 true (.load false 1 (.tf 30)),O9 32 25 false (.pick (.t 29) (.t 31) (.c (.bool false))),O1 33 (.pick (.t 25) (.c (.bool true)) (.t 32)),O3 7 33]
def C3v : List XO := [O3 35 7,O1 36 (.un .not (.t 35)),O3 34 36]
def C3w : List XO := [O1 6 (.mv (.c (.int .i64 (-1))))]
def C3x : List XO := [O1 38 (.fldA 0 (.tf 4)),O1 39 (.load false 1 (.tf 38)),O3 40 2,O1 41 (.bin .eql .no (.t 39) (.t 40)),O3 37 41]
def C3y : List XO := [O1 42 (.fldA 1 (.tf 4)),O1 43 (.load false 1 (.tf 42)),O3 6 43]
def C3z : List XO := [O1 45 (.fldA 1 (.tf 4)),O1 46 (.load false 1 (.tf 45)),O3 47 2,O1 48 (.bin .eql .no (.t 46) (.t 47)),O3 44 48]
def C30 : List XO := [O1 49 (.fldA 0 (.tf 4)),O1 50 (.load false 1 (.tf 49)),O3 6 50]
def C31 : List XO := [O1 6 (.mv (.c (.int .i64 (-1))))]
def x__ways_level__other : XFunc := { np := 3, res := [.t 6], body :=
 (.seq (.reg C3t) (.seq (.reg C3u) (.seq (.block 0 (.seq (.reg C3v) (.cond (.t 34) (.seq (.reg C3w) .ret) (.seq (.reg C3x) (.cond (.t 37) (.seq (.reg C3y) .ret) (.seq (.reg C3z) (.cond (.t 44) (.seq (.reg C30) .ret) .skip))))))) (.seq (.reg C31) .ret)))) }
def o0x : List XO := [O1 1 (.boxF (.t 0)),O1 2 (.mv (c9 0))]
def o0y : List XO := [O1 13 (.fldA 0 (.tf 1)),O1 14 (.load false 1 (.tf 13)),O8 15 14,O1 16 (.bin .gtr .no (.t 15) (c9 4)),O3 17 16,O9 18 17 false (.fldA 1 (.tf 1)),O9 19 17 false (.load false 1 (.tf 18)),O9 20 17 false (.len false (.t 19)),O9 21 17 false (.bin .gtr .no (.t 20) (c9 6)),O1 22 (.pick (.t 17) (.c (.bool true)) (.t 21)),O3 23 22,O9 24 23 false (.fldA 2 (.tf 1)),O9 25 23 false (.load false 1 (.tf 24)),O9 26 23 false (.len false (.t 25)),O9 27 23 false (.bin .gtr .no (.t 26) (c9 2)),O1 28 (.pick (.t 23) (.c (.bool true)) (.t 27)),O3 29 28,O9 30 29 false (.fldA 3 (.tf 1)),O9 31 29 false (.load false 1 (.tf 30)),O9 32 29 false (.len false (.t 31)),O9 33 29 false (.call "newel/situation.within" [.t 32, (c9 1), (c9 12)]),O9 34 29 false (.un .not (.t 33)),O1 35 (.pick (.t 29) (.c (.bool true)) (.t 34)),O3 36 35,O9 37 36 false (.fldA 4 (.tf 1)),O9 38 36 false (.load false 1 (.tf 37)),O9 39 36 false (.len false (.t 38)),O9 40 36 false (.bin .gtr .no (.t 39) (c9 40)),O1 41 (.pick (.t 36) (.c (.bool true)) (.t 40)),O3 42 41,O9 43 42 false (.load true 5 (.tf 1)),O9 44 42 false (.call "newel/situation.named" [.t 43]),O9 45 42 false (.un .not (.t 44)),O1 46 (.pick (.t 42) (.c (.bool true)) (.t 45))]
def o08 : List XO := [O1 2 (.mv (c9 41))]
def o1i : List XO := [O1 47 (.fldA 2 (.tf 1)),O1 48 (.load false 1 (.tf 47)),O8 49 48,O1 50 (.mv (c9 0))]
def o1q : List XO := [O1 51 (.bin .lss .no (.t 50) (.t 49))]
def o1r : List XO := [O7 52 2 48 50,O6 53 2 52,O1 4 (.alloc [(.string (ByteArray.mk #[])), (.int .i64 0)]),O2 (.store 2 (.t 4) (.t 53))]
def o1s : List XO := [O5 54 1 4,O4 55 1 54,O1 56 (.call "newel/situation.within" [.t 55, (c9 1), (c9 7)]),O1 57 (.un .not (.t 56))]
def o1t : List XO := [O1 2 (.mv (c9 41))]
def o1u : List XO := [O1 58 (.bin .add .no (.t 50) (c9 1)),O3 50 58]
def g5a : XCode :=
 (.seq (.reg o1q) (.seq (.cond (.t 51) .skip (.exit 0)) (.seq (.block 1 (.seq (.reg o1r) (.seq (.reg o1s) (.cond (.t 57) (.seq (.reg o1t) .ret) .skip)))) (.reg o1u))))
def o0z : List XO := [O1 59 (.fldA 3 (.tf 1)),O1 60 (.load false 1 (.tf 59)),O8 61 60,O1 62 (.mv (c9 0))]
def o00 : List XO := [O1 63 (.bin .lss .no (.t 62) (.t 61))]
def o01 : List XO := [O7 64 2 60 62,O6 65 2 64,O1 6 (.alloc [(.string (ByteArray.mk #[])), (.int .i64 0)]),O2 (.store 2 (.t 6) (.t 65))]
def o02 : List XO := [O5 66 1 6,O4 67 1 66,O1 68 (.fldA 1 (.tf 1)),O1 69 (.load false 1 (.tf 68)),O8 70 69,O1 71 (.bin .shl .no (c9 1) (.t 70)),O1 72 (.bin .sub .no (.t 71) (c9 1)),O1 73 (.call "newel/situation.within" [.t 67, (c9 0), .t 72]),O1 74 (.un .not (.t 73))]
def o03 : List XO := [O1 2 (.mv (c9 41))]
def o04 : List XO := [O1 75 (.bin .add .no (.t 62) (c9 1)),O3 62 75]
def g46 : XCode :=
 (.seq (.reg o00) (.seq (.cond (.t 63) .skip (.exit 2)) (.seq (.block 3 (.seq (.reg o01) (.seq (.reg o02) (.cond (.t 74) (.seq (.reg o03) .ret) .skip)))) (.reg o04))))
def o05 : List XO := [O1 76 (.fldA 4 (.tf 1)),O1 77 (.load false 1 (.tf 76)),O8 78 77,O1 79 (.mv (c9 0))]
def o06 : List XO := [O1 80 (.bin .lss .no (.t 79) (.t 78))]
def o07 : List XO := [O7 81 4 77 79,O6 82 4 81,O1 8 (.alloc [(.int .i64 0), (.int .i64 0), (.slice none 0 0), (.slice none 0 0)]),O2 (.store 4 (.t 8) (.t 82))]
def o09 : List XO := [O5 83 0 8,O4 84 1 83,O1 85 (.fldA 3 (.tf 1)),O1 86 (.load false 1 (.tf 85)),O8 87 86,O1 88 (.bin .sub .no (.t 87) (c9 1)),O1 89 (.call "newel/situation.within" [.t 84, (.c (.int .i64 (-1))), .t 88]),O1 90 (.un .not (.t 89)),O3 91 90,O9 92 91 false (.fldA 1 (.t 8)),O9 93 91 false (.load false 1 (.t 92)),O9 94 91 false (.fldA 3 (.tf 1)),O9 95 91 false (.load false 1 (.tf 94)),O9 96 91 false (.len false (.t 95)),O9 97 91 false (.bin .sub .no (.t 96) (c9 1)),O9 98 91 false (.call "newel/situation.within" [.t 93, (c9 0), .t 97]),O9 99 91 false (.un .not (.t 98)),O1 100 (.pick (.t 91) (.c (.bool true)) (.t 99)),O3 101 100,O9 102 101 false (.load true 5 (.tf 1)),O9 103 101 false (.fldA 2 (.t 8)),O9 104 101 false (.load false 1 (.t 103)),O9 105 101 false (.call "newel/situation.Asked" [.t 102, .t 104]),O9 106 101 false (.un .not (.t 105)),O1 107 (.pick (.t 101) (.c (.bool true)) (.t 106)),O3 108 107,O9 109 108 false (.fldA 3 (.t 8)),O9 110 108 false (.load false 1 (.t 109)),O9 111 108 false (.len false (.t 110)),O9 112 108 false (.bin .gtr .no (.t 111) (c9 4)),O1 113 (.pick (.t 108) (.c (.bool true)) (.t 112))]
def o1a : List XO := [O1 2 (.mv (c9 41))]
def o1b : List XO := [O5 114 2 8,O4 115 1 114,O8 116 115,O1 117 (.mv (c9 0))]
def o1c : List XO := [O1 118 (.bin .lss .no (.t 117) (.t 116))]
def o1d : List XO := [O7 119 1 115 117,O4 120 1 119,O3 10 120]
def o1e : List XO := [O3 121 10,O1 122 (.call "slices.ContainsFunc[newel/api.Term,newel/api.Literal]" [.t 121, (.f "newel/situation.Check$1")])]
def o1f : List XO := [O1 2 (.mv (c9 41))]
def o1g : List XO := [O1 123 (.bin .add .no (.t 117) (c9 1)),O3 117 123]
def g47 : XCode :=
 (.seq (.reg o1c) (.seq (.cond (.t 118) .skip (.exit 6)) (.seq (.block 7 (.seq (.reg o1d) (.seq (.reg o1e) (.cond (.t 122) (.seq (.reg o1f) .ret) .skip)))) (.reg o1g))))
def o1h : List XO := [O5 124 3 8,O4 125 1 124,O8 126 125,O1 127 (.mv (c9 0))]
def o1j : List XO := [O1 128 (.bin .lss .no (.t 127) (.t 126))]
def o1k : List XO := [O7 129 2 125 127,O6 130 2 129,O1 12 (.alloc [(.int .i64 0), (.int .i64 0)]),O2 (.store 2 (.t 12) (.t 130))]
def o1l : List XO := [O5 131 0 12,O4 132 1 131,O1 133 (.call "newel/situation.within" [.t 132, (c9 1), (c9 3)]),O1 134 (.un .not (.t 133)),O3 135 134,O9 136 135 false (.fldA 1 (.t 12)),O9 137 135 false (.load false 1 (.t 136)),O9 138 135 false (.fldA 2 (.tf 1)),O9 139 135 false (.load false 1 (.tf 138)),O9 140 135 false (.len false (.t 139)),O9 141 135 false (.bin .sub .no (.t 140) (c9 1)),O9 142 135 false (.call "newel/situation.within" [.t 137, (c9 0), .t 141]),O9 143 135 false (.un .not (.t 142)),O1 144 (.pick (.t 135) (.c (.bool true)) (.t 143))]
def o1m : List XO := [O1 2 (.mv (c9 41))]
def o1n : List XO := [O1 145 (.bin .add .no (.t 127) (c9 1)),O3 127 145]
def g48 : XCode :=
 (.seq (.reg o1j) (.seq (.cond (.t 128) .skip (.exit 8)) (.seq (.block 9 (.seq (.reg o1k) (.seq (.reg o1l) (.cond (.t 144) (.seq (.reg o1m) .ret) .skip)))) (.reg o1n))))
def o1o : List XO := [O1 146 (.bin .add .no (.t 79) (c9 1)),O3 79 146]
def g49 : XCode :=
 (.seq (.reg o06) (.seq (.cond (.t 80) .skip (.exit 4)) (.seq (.block 5 (.seq (.reg o07) (.seq (.seq (.reg o09) (.cond (.t 113) (.seq (.reg o1a) .ret) .skip)) (.seq (.seq (.reg o1b) (.block 6 (.loop g47))) (.seq (.reg o1h) (.block 8 (.loop g48))))))) (.reg o1o))))
def o1p : List XO := [O1 2 (.mv (c9 0))]
def x_situation_Check : XFunc := { np := 1, res := [.t 2], body :=
 (.seq (.reg o0x) (.seq (.seq (.reg o0y) (.cond (.t 46) (.seq (.reg o08) .ret) .skip)) (.seq (.seq (.reg o1i) (.block 0 (.loop g5a))) (.seq (.seq (.reg o0z) (.block 2 (.loop g46))) (.seq (.seq (.reg o05) (.block 4 (.loop g49))) (.seq (.reg o1p) .ret)))))) }
def o3d : List XO := [O1 6 (.mv (.c (.bool false)))]
def o3e : List XO := [O3 7 0,O3 8 1,O1 9 (.bin .geq .no (.t 7) (.t 8)),O3 10 9,O9 11 10 true (.mv (.t 0)),O9 12 10 true (.mv (.t 2)),O9 13 10 true (.bin .leq .no (.t 11) (.t 12)),O1 14 (.pick (.t 10) (.t 13) (.c (.bool false))),O3 6 14]
def x_situation_within : XFunc := { np := 3, res := [.t 6], body :=
 (.seq (.reg o3d) (.seq (.reg o3e) .ret)) }
def l87 : List XO := [O1 1 (.boxF (.t 0)),O1 2 (.mv (c9 0))]
def l88 : List XO := [O1 3 (.fldA 0 (.tf 1)),O1 4 (.fldA 0 (.tf 3)),O1 5 (.load false 1 (.tf 4)),O8 6 5,O1 7 (.bin .shl .no (c9 1) (.t 6)),O3 2 7]
def x__situation_Plant__All : XFunc := { np := 1, res := [.t 2], body :=
 (.seq (.reg l87) (.seq (.reg l88) .ret)) }
def l9f : List XO := [O1 4 (.boxF (.t 0)),O1 6 (.boxF (.t 2)),O1 7 (.boxF (.t 3)),O1 8 (.mv (.c (.bool false)))]
def l9g : List XO := [O3 9 1,O1 10 (.mkfn "(newel/situation.Plant).Holds$1" [] [.t 4, .t 6, .t 7]),O1 11 (.call "slices.ContainsFunc[newel/api.Cond,newel/api.Term]" [.t 9, .t 10]),O3 8 11]
def x__situation_Plant__Holds : XFunc := { np := 4, res := [.t 8], body :=
 (.seq (.reg l9f) (.seq (.reg l9g) .ret)) }
def l96 : List XO := [O1 3 (.boxF (.t 0)),O1 4 (.boxF (.t 1))]
def s2c : List XO := [O3 7 2,O1 8 (.fldA 1 (.tf 4)),O1 9 (.load false 1 (.tf 8)),O1 10 (.nilck (.t 7)),O5 11 1 10,O1 12 (.ixP 1 2 (.t 11) (.t 9)),O3 6 12]
def l98 : List XO := [O1 13 (.fldA 0 (.tf 4)),O1 14 (.load false 1 (.tf 13))]
def l99 : List XO := [O1 16 (.bin .eql .no (.t 14) (c9 1)),O3 15 16]
def m0a : List XO := [O3 17 6,O1 18 (.nilck (.t 17)),O2 (.store 1 (.t 18) (c9 0))]
def m0b : List XO := [O1 20 (.bin .eql .no (.t 14) (c9 2)),O3 19 20]
def m0c : List XO := [O3 21 6,O3 22 6,O1 23 (.nilck (.t 22)),O4 24 1 23,O1 25 (.bin .add .no (.t 24) (c9 1)),O1 26 (.fldA 0 (.tf 3)),O1 27 (.fldA 2 (.tf 26)),O1 28 (.load false 1 (.tf 27)),O1 29 (.fldA 1 (.tf 4)),O1 30 (.load false 1 (.tf 29)),O7 31 2 28 30,O5 32 1 31,O4 33 1 32,O1 34 (.min [.t 25, .t 33]),O1 35 (.nilck (.t 21)),O2 (.store 1 (.t 35) (.t 34))]
def m0d : List XO := [O1 37 (.bin .eql .no (.t 14) (c9 3)),O3 36 37]
def m0e : List XO := [O3 38 6,O3 39 6,O1 40 (.nilck (.t 39)),O4 41 1 40,O1 42 (.bin .sub .no (.t 41) (c9 1)),O1 43 (.max [.t 42, (c9 0)]),O1 44 (.nilck (.t 38)),O2 (.store 1 (.t 44) (.t 43))]
def x__situation_Plant__set : XFunc := { np := 3, res := [], body :=
 (.seq (.reg l96) (.seq (.reg s2c) (.seq (.reg l98) (.block 0 (.seq (.reg l99) (.cond (.t 15) (.reg m0a) (.seq (.reg m0b) (.cond (.t 19) (.reg m0c) (.seq (.reg m0d) (.cond (.t 36) (.reg m0e) .skip)))))))))) }
def o0l : List XO := [O1 2 (.boxF (.t 0)),O1 4 (.mv (.c (.bool false)))]
def o0m : List XO := [O3 7 1,O8 8 7,O1 9 (.bin .gtr .no (.t 8) (c9 6))]
def o0o : List XO := [O1 4 (.mv (.c (.bool false)))]
def o0p : List XO := [O3 10 1,O8 11 10,O1 12 (.mv (c9 0))]
def o0q : List XO := [O1 13 (.bin .lss .no (.t 12) (.t 11))]
def o0r : List XO := [O7 14 1 10 12,O4 15 1 14,O3 6 15]
def o0s : List XO := [O3 16 6,O8 17 16,O1 18 (.bin .gtr .no (.t 17) (c9 6)),O3 19 18,O9 20 19 false (.mv (.t 6)),O9 21 19 false (.mkfn "newel/situation.Asked$1" [] [.t 2]),O9 22 19 false (.call "slices.ContainsFunc[newel/api.Term,newel/api.Literal]" [.t 20, .t 21]),O1 23 (.pick (.t 19) (.c (.bool true)) (.t 22))]
def o0t : List XO := [O1 4 (.mv (.c (.bool false)))]
def o0u : List XO := [O1 24 (.bin .add .no (.t 12) (c9 1)),O3 12 24]
def g45 : XCode :=
 (.seq (.reg o0q) (.seq (.cond (.t 13) .skip (.exit 0)) (.seq (.block 1 (.seq (.reg o0r) (.seq (.reg o0s) (.cond (.t 23) (.seq (.reg o0t) .ret) .skip)))) (.reg o0u))))
def o0n : List XO := [O1 4 (.mv (.c (.bool true)))]
def x_situation_Asked : XFunc := { np := 2, res := [.t 4], body :=
 (.seq (.reg o0l) (.seq (.seq (.reg o0m) (.cond (.t 9) (.seq (.reg o0o) .ret) .skip)) (.seq (.seq (.reg o0p) (.block 0 (.loop g45))) (.seq (.reg o0n) .ret)))) }
def l77 : List XO := [O1 3 (.boxF (.t 0)),O1 6 (.mv (.c (.pointer none)))]
def l78 : List XO := [O1 16 (.build [(.int .i64 0), (.int .i64 0), (.int .i64 0)] []),O1 17 (.bsl 3 [.t 16]),O1 18 (.bsl 1 [(.c (.int .i64 (-1)))]),O1 19 (.bsl 1 [(c9 0)]),O1 20 (.build [(.slice none 0 0), (.slice none 0 0), (.slice none 0 0), (.slice none 0 0)] [(0, 1, (.t 17)), (1, 1, (.t 18)), (2, 1, (.t 19))]),O1 21 (.box (.t 20)),O3 7 21]
def l8j : List XO := [O1 22 (.callw "#mk" []),O1 23 (.build [(.int .i64 0), (.int .i64 0), (.int .i64 0)] []),O2 (.callw "#pi" [.t 22, .t 23, (c9 0), (c9 3)]),O3 24 22,O3 8 24]
def l8n : List XO := [O1 9 (.mv (c9 0))]
def l8o : List XO := [O3 25 9,O3 26 7,O1 27 (.nilck (.t 26)),O5 28 0 27,O4 29 1 28,O8 30 29,O1 31 (.bin .lss .no (.t 25) (.t 30))]
def l8p : List XO := [O3 34 7,O1 35 (.nilck (.t 34)),O5 36 0 35,O4 37 1 36,O3 38 9,O7 39 3 37 38,O6 40 3 39,O1 10 (.alloc [(.int .i64 0), (.int .i64 0), (.int .i64 0)]),O2 (.store 3 (.t 10) (.t 40))]
def l8q : List XO := [O1 41 (.fldA 0 (.tf 3)),O1 42 (.load true 5 (.tf 41)),O1 43 (.call "(newel/situation.Plant).All" [.t 42]),O1 44 (.mksl 1 [(.int .i64 0)] 8 (.t 43) (.t 43)),O3 11 44]
def l8r : List XO := [O3 45 11,O8 46 45,O1 47 (.mv (c9 0))]
def l8s : List XO := [O1 48 (.bin .lss .no (.t 47) (.t 46))]
def l8t : List XO := [O3 49 47,O3 12 49]
def s2b : List XO := [O3 50 11,O3 51 12,O7 52 1 50 51,O2 (.store 1 (.t 52) (.c (.int .i64 (-1))))]
def l8a : List XO := [O1 53 (.fldA 0 (.tf 3)),O1 54 (.load true 5 (.tf 53)),O3 55 1,O6 56 3 10,O3 57 12,O1 58 (.call "(newel/situation.Plant).Allowed" [.t 54, .t 55, .t 56, .t 57]),O1 59 (.un .not (.t 58))]
def l8b : List XO := [O1 60 (.fldA 0 (.tf 3)),O1 61 (.load true 5 (.tf 60)),O6 62 3 10,O3 63 2,O3 64 12,O1 65 (.callv (.t 63) [.t 64]),O1 66 (.call "(newel/situation.Plant).Step" [.t 61, .t 62, .t 65]),O1 13 (.alloc [(.int .i64 0), (.int .i64 0), (.int .i64 0)]),O2 (.store 3 (.t 13) (.t 66))]
def l8c : List XO := [O3 68 8,O6 69 3 13,O1 70 (.callw "#lj" [.t 68, .t 69, (c9 0), (c9 3)]),O3 67 70,O1 71 (.ext (.t 67) 0),O1 72 (.ext (.t 67) 1),O3 14 71,O3 15 72]
def l8d : List XO := [O3 73 15,O1 74 (.un .not (.t 73))]
def l8e : List XO := [O3 75 7,O1 76 (.nilck (.t 75)),O5 77 0 76,O4 78 1 77,O8 79 78,O3 14 79]
def l8f : List XO := [O3 80 8,O6 81 3 13,O3 82 14,O2 (.callw "#pi" [.t 80, .t 81, .t 82, (c9 3)])]
def l8g : List XO := [O3 83 7,O3 84 7,O3 85 7,O3 86 7,O1 87 (.nilck (.t 86)),O5 88 0 87,O4 89 1 88,O6 90 3 13,O1 91 (.bsl 3 [.t 90]),O1 92 (.app 3 24 (.t 89) (.t 91)),O3 93 7,O1 94 (.nilck (.t 93)),O5 95 1 94,O4 96 1 95,O3 97 9,O1 98 (.bsl 1 [.t 97]),O1 99 (.app 1 8 (.t 96) (.t 98)),O3 100 7,O1 101 (.nilck (.t 100)),O5 102 2 101,O4 103 1 102,O3 104 12,O1 105 (.bsl 1 [.t 104]),O1 106 (.app 1 8 (.t 103) (.t 105)),O1 107 (.nilck (.t 83)),O5 108 0 107,O2 (.store 1 (.t 108) (.t 92)),O1 109 (.nilck (.t 84)),O5 110 1 109,O2 (.store 1 (.t 110) (.t 99)),O1 111 (.nilck (.t 85)),O5 112 2 111,O2 (.store 1 (.t 112) (.t 106))]
def l8h : List XO := [O3 113 11,O3 114 12,O3 115 14,O7 116 1 113 114,O2 (.store 1 (.t 116) (.t 115))]
def l8i : List XO := [O1 117 (.bin .add .no (.t 47) (c9 1)),O3 47 117]
def g32 : XCode :=
 (.seq (.reg l8s) (.seq (.cond (.t 48) .skip (.exit 2)) (.seq (.block 3 (.seq (.reg l8t) (.seq (.reg s2b) (.seq (.seq (.reg l8a) (.cond (.t 59) (.exit 3) .skip)) (.seq (.reg l8b) (.seq (.reg l8c) (.seq (.seq (.reg l8d) (.cond (.t 74) (.seq (.reg l8e) (.seq (.reg l8f) (.reg l8g))) .skip)) (.reg l8h)))))))) (.reg l8i))))
def l8k : List XO := [O3 118 7,O3 119 7,O1 120 (.nilck (.t 119)),O5 121 3 120,O4 122 1 121,O3 123 11,O1 124 (.bsl 1 [.t 123]),O1 125 (.app 1 24 (.t 122) (.t 124)),O1 126 (.nilck (.t 118)),O5 127 3 126,O2 (.store 1 (.t 127) (.t 125))]
def l8l : List XO := [O3 32 9,O1 33 (.bin .add .no (.t 32) (c9 1)),O3 9 33]
def g33 : XCode :=
 (.seq (.seq (.reg l8o) (.cond (.t 31) .skip (.exit 0))) (.seq (.block 1 (.seq (.reg l8p) (.seq (.reg l8q) (.seq (.seq (.reg l8r) (.block 2 (.loop g32))) (.seq .ghost (.reg l8k)))))) (.reg l8l)))
def l8m : List XO := [O3 128 7,O3 6 128]
def x__control_plant__explore : XFunc := { np := 3, res := [.t 6], body :=
 (.seq (.reg l77) (.seq (.reg l78) (.seq (.reg l8j) (.seq (.seq (.reg l8n) (.block 0 (.loop g33))) (.seq (.reg l8m) .ret))))) }
def l7n : List XO := [O1 4 (.mv (.c (.slice none 0 0))),O1 5 (.mv (.c (.bool false)))]
def l7o : List XO := [O3 7 0,O1 8 (.nilck (.t 7)),O5 9 0 8,O4 10 1 9,O8 11 10,O1 12 (.mv (c9 0))]
def l7p : List XO := [O1 13 (.bin .lss .no (.t 12) (.t 11))]
def l7q : List XO := [O3 14 12,O3 6 14]
def l7r : List XO := [O3 15 1,O3 16 6,O1 17 (.callv (.t 15) [.t 16])]
def l7s : List XO := [O3 18 0,O3 19 6,O1 20 (.call "(*newel/control.walk).run" [.t 18, .t 19]),O3 4 20,O1 5 (.mv (.c (.bool true)))]
def l7t : List XO := [O1 21 (.bin .add .no (.t 12) (c9 1)),O3 12 21]
def g30 : XCode :=
 (.seq (.reg l7p) (.seq (.cond (.t 13) .skip (.exit 0)) (.seq (.block 1 (.seq (.reg l7q) (.seq (.reg l7r) (.cond (.t 17) (.seq (.reg l7s) .ret) .skip)))) (.reg l7t))))
def l7u : List XO := [O1 4 (.mv (.c (.slice none 0 0))),O1 5 (.mv (.c (.bool false)))]
def x___control_walk__first : XFunc := { np := 2, res := [.t 4, .t 5], body :=
 (.seq (.reg l7n) (.seq (.seq (.reg l7o) (.block 0 (.loop g30))) (.seq (.reg l7u) .ret))) }
def l72 : List XO := [O1 5 (.mv (.c (.bool false)))]
def l73 : List XO := [O5 6 0 1,O6 7 5 6,O4 8 1 2,O4 9 1 3,O1 10 (.nilck (.t 9)),O5 11 0 10,O4 12 1 11,O3 13 0,O7 14 3 12 13,O6 15 3 14,O1 16 (.call "(newel/situation.Plant).Holds" [.t 7, .t 8, .t 15, (c9 0)]),O3 5 16]
def x__control_plant__breachD1 : XFunc := { np := 4, res := [.t 5], body :=
 (.seq (.reg l72) (.seq (.reg l73) .ret)) }
def J6x : List XO := [O1 4 (.mv (.c (.bool false)))]
def J6y : List XO := [O3 5 0,O3 6 1,O1 7 (.cvtI .u64 (.t 6)),O1 8 (.bin .shr .no (.t 5) (.t 7)),O1 9 (.bin .and .no (.t 8) (c9 1)),O1 10 (.bin .eql .no (.t 9) (c9 1)),O3 4 10]
def x_r08_isOut : XFunc := { np := 2, res := [.t 4], body :=
 (.seq (.reg J6x) (.seq (.reg J6y) .ret)) }
def C6n : List XO := [O1 1 (.boxF (.t 0)),O1 2 (.mv (c9 0))]
def C6o : List XO := [O1 9 (.fldA 0 (.tf 1)),O1 10 (.load false 1 (.tf 9)),O1 11 (.call "newel/ways.within" [.t 10, (c9 1), (c9 10)]),O1 12 (.un .not (.t 11)),O3 13 12,O9 14 13 false (.fldA 1 (.tf 1)),O9 15 13 false (.load false 1 (.tf 14)),O9 16 13 false (.len false (.t 15)),O9 17 13 false (.bin .gtr .no (.t 16) (c9 24)),O1 18 (.pick (.t 13) (.c (.bool true)) (.t 17))]
def C6y : List XO := [O1 2 (.mv (c9 80))]
def C62 : List XO := [O1 19 (.callw "#mk" []),O3 3 19]
def C63 : List XO := [O1 20 (.fldA 1 (.tf 1)),O1 21 (.load false 1 (.tf 20)),O8 22 21,O1 23 (.mv (c9 0))]
def C64 : List XO := [O1 24 (.bin .lss .no (.t 23) (.t 22))]
def C65 : List XO := [O7 25 7 21 23,O6 26 7 25,O1 5 (.alloc [(.int .i64 0), (.int .i64 0), (.int .i64 0), (.int .i64 0), (.int .i64 0), (.int .i64 0), (.int .i64 0)]),O2 (.store 7 (.t 5) (.t 26))]
def C66 : List XO := [O6 27 7 5,O1 28 (.fldA 0 (.tf 1)),O1 29 (.load false 1 (.tf 28)),O1 30 (.call "newel/ways.passage" [.t 27, .t 29]),O1 31 (.un .not (.t 30))]
def C67 : List XO := [O1 2 (.mv (c9 80))]
def C68 : List XO := [O3 32 3,O5 33 5 5,O4 34 1 33,O1 35 (.callw "#li" [.t 32, .t 34, (c9 0), (c9 0)]),O1 36 (.bin .add .no (.t 35) (c9 1)),O2 (.callw "#pi" [.t 32, .t 34, .t 36, (c9 0)])]
def C6p : List XO := [O5 37 5 5,O4 38 1 37,O1 39 (.bin .geq .no (.t 38) (c9 0)),O3 40 39,O9 41 40 true (.mv (.t 3)),O9 42 40 true (.fldA 5 (.t 5)),O9 43 40 true (.load false 1 (.t 42)),O9 44 40 true (.callw "#li" [.t 41, .t 43, (c9 0), (c9 0)]),O9 45 40 true (.bin .gtr .no (.t 44) (c9 1)),O1 46 (.pick (.t 40) (.t 45) (.c (.bool false)))]
def C6q : List XO := [O1 2 (.mv (c9 80))]
def C6r : List XO := [O1 47 (.bin .add .no (.t 23) (c9 1)),O3 23 47]
def C1f : XCode :=
 (.seq (.reg C64) (.seq (.cond (.t 24) .skip (.exit 0)) (.seq (.block 1 (.seq (.reg C65) (.seq (.seq (.reg C66) (.cond (.t 31) (.seq (.reg C67) .ret) .skip)) (.seq (.reg C68) (.seq (.reg C6p) (.cond (.t 46) (.seq (.reg C6q) .ret) .skip)))))) (.reg C6r))))
def C6s : List XO := [O1 6 (.mv (.c (.int .i64 (-1))))]
def C6t : List XO := [O1 48 (.fldA 2 (.tf 1)),O1 49 (.load false 1 (.tf 48)),O8 50 49,O1 51 (.mv (c9 0))]
def C6u : List XO := [O1 52 (.bin .lss .no (.t 51) (.t 50))]
def C6v : List XO := [O7 53 1 49 51,O4 54 1 53,O3 8 54]
def C6w : List XO := [O3 55 8,O3 56 6,O1 57 (.bin .add .no (.t 56) (c9 1)),O1 58 (.fldA 0 (.tf 1)),O1 59 (.load false 1 (.tf 58)),O1 60 (.bin .sub .no (.t 59) (c9 1)),O1 61 (.call "newel/ways.within" [.t 55, .t 57, .t 60]),O1 62 (.un .not (.t 61))]
def C6x : List XO := [O1 2 (.mv (c9 80))]
def C6z : List XO := [O3 63 8,O3 6 63]
def C60 : List XO := [O1 64 (.bin .add .no (.t 51) (c9 1)),O3 51 64]
def C1g : XCode :=
 (.seq (.reg C6u) (.seq (.cond (.t 52) .skip (.exit 2)) (.seq (.block 3 (.seq (.reg C6v) (.seq (.seq (.reg C6w) (.cond (.t 62) (.seq (.reg C6x) .ret) .skip)) (.reg C6z)))) (.reg C60))))
def C61 : List XO := [O1 2 (.mv (c9 0))]
def x_ways_Check : XFunc := { np := 1, res := [.t 2], body :=
 (.seq (.reg C6n) (.seq (.seq (.reg C6o) (.cond (.t 18) (.seq (.reg C6y) .ret) .skip)) (.seq (.reg C62) (.seq (.seq (.reg C63) (.block 0 (.loop C1f))) (.seq (.reg C6s) (.seq (.seq (.reg C6t) (.block 2 (.loop C1g))) (.seq (.reg C61) .ret))))))) }
def C8f : List XO := [O1 6 (.mv (.c (.bool false)))]
def C8g : List XO := [O3 7 0,O3 8 1,O1 9 (.bin .geq .no (.t 7) (.t 8)),O3 10 9,O9 11 10 true (.mv (.t 0)),O9 12 10 true (.mv (.t 2)),O9 13 10 true (.bin .leq .no (.t 11) (.t 12)),O1 14 (.pick (.t 10) (.t 13) (.c (.bool false))),O3 6 14]
def x_ways_within : XFunc := { np := 3, res := [.t 6], body :=
 (.seq (.reg C8f) (.seq (.reg C8g) .ret)) }
def C77 : List XO := [O1 2 (.boxF (.t 0)),O1 4 (.mv (.c (.bool false)))]
def C78 : List XO := [O3 7 1,O8 8 7,O1 9 (.mv (c9 0))]
def C79 : List XO := [O1 10 (.bin .lss .no (.t 9) (.t 8))]
def C8a : List XO := [O7 11 1 7 9,O4 12 1 11,O3 6 12]
def C8b : List XO := [O3 13 6,O1 14 (.fldA 0 (.tf 2)),O1 15 (.load false 1 (.tf 14)),O1 16 (.bin .sub .no (.t 15) (c9 1)),O1 17 (.call "newel/ways.within" [.t 13, (c9 0), .t 16]),O1 18 (.un .not (.t 17))]
def C8c : List XO := [O1 4 (.mv (.c (.bool false)))]
def C8d : List XO := [O1 19 (.bin .add .no (.t 9) (c9 1)),O3 9 19]
def C1i : XCode :=
 (.seq (.reg C79) (.seq (.cond (.t 10) .skip (.exit 0)) (.seq (.block 1 (.seq (.reg C8a) (.seq (.reg C8b) (.cond (.t 18) (.seq (.reg C8c) .ret) .skip)))) (.reg C8d))))
def C8e : List XO := [O1 4 (.mv (.c (.bool true)))]
def x_ways_place : XFunc := { np := 2, res := [.t 4], body :=
 (.seq (.reg C77) (.seq (.seq (.reg C78) (.block 0 (.loop C1i))) (.seq (.reg C8e) .ret))) }
def o2q : List XO := [O1 1 (.boxF (.t 0)),O1 2 (.mv (.c (.bool false)))]
def o2r : List XO := [O1 6 (.callw "#mk" []),O3 3 6]
def o2t : List XO := [O1 7 (.load true 5 (.tf 1)),O1 8 (.call "newel/situation.names" [.t 7]),O8 9 8,O1 10 (.mv (c9 0))]
def o2u : List XO := [O1 11 (.bin .lss .no (.t 10) (.t 9))]
def o2v : List XO := [O7 12 1 8 10,O4 13 1 12,O3 5 13]
def o2w : List XO := [O3 14 3,O3 15 5,O1 16 (.callw "#ls" [.t 14, .t 15, (c9 0), (c9 0)]),O1 17 (.bin .add .no (.t 16) (c9 1)),O2 (.callw "#ps" [.t 14, .t 15, .t 17, (c9 0)])]
def o2x : List XO := [O3 18 5,O1 19 (.call "newel/situation.Plain" [.t 18]),O1 20 (.un .not (.t 19)),O3 21 20,O9 22 21 false (.mv (.t 5)),O9 23 21 false (.len true (.t 22)),O9 24 21 false (.bin .gtr .no (.t 23) (c9 8)),O1 25 (.pick (.t 21) (.c (.bool true)) (.t 24)),O3 26 25,O9 27 26 false (.mv (.t 5)),O9 28 26 false (.call "newel/situation.Reserved" [.t 27]),O1 29 (.pick (.t 26) (.c (.bool true)) (.t 28)),O3 30 29,O9 31 30 false (.mv (.t 3)),O9 32 30 false (.mv (.t 5)),O9 33 30 false (.callw "#ls" [.t 31, .t 32, (c9 0), (c9 0)]),O9 34 30 false (.bin .gtr .no (.t 33) (c9 1)),O1 35 (.pick (.t 30) (.c (.bool true)) (.t 34))]
def o2y : List XO := [O1 2 (.mv (.c (.bool false)))]
def o2z : List XO := [O1 36 (.bin .add .no (.t 10) (c9 1)),O3 10 36]
def g5c : XCode :=
 (.seq (.reg o2u) (.seq (.cond (.t 11) .skip (.exit 0)) (.seq (.block 1 (.seq (.reg o2v) (.seq (.reg o2w) (.seq (.reg o2x) (.cond (.t 35) (.seq (.reg o2y) .ret) .skip))))) (.reg o2z))))
def o2s : List XO := [O1 2 (.mv (.c (.bool true)))]
def x_situation_named : XFunc := { np := 1, res := [.t 2], body :=
 (.seq (.reg o2q) (.seq (.reg o2r) (.seq (.seq (.reg o2t) (.block 0 (.loop g5c))) (.seq (.reg o2s) .ret)))) }
def o3z : List XO := [O1 4 (.mv (.c (.bool false)))]
def o30 : List XO := [O3 5 0,O3 6 1,O1 7 (.call "slices.IndexFunc[newel/api.Term,newel/api.Literal]" [.t 5, .t 6]),O1 8 (.bin .geq .no (.t 7) (c9 0)),O3 4 8]
def x_slices_ContainsFunc_api_Term_api_Literal_ : XFunc := { np := 2, res := [.t 4], body :=
 (.seq (.reg o3z) (.seq (.reg o30) .ret)) }
def o0v : List XO := [O1 1 (.boxF (.t 0)),O1 2 (.mv (.c (.bool false)))]
def o0w : List XO := [O1 3 (.fldA 0 (.tf 1)),O1 4 (.load false 1 (.tf 3)),O1 5 (.bin .eql .no (.t 4) (c9 3)),O3 2 5]
def x_situation_CheckD1 : XFunc := { np := 1, res := [.t 2], body :=
 (.seq (.reg o0v) (.seq (.reg o0w) .ret)) }
def o3x : List XO := [O1 4 (.mv (.c (.bool false)))]
def o3y : List XO := [O3 5 0,O3 6 1,O1 7 (.call "slices.IndexFunc[newel/api.Cond,newel/api.Term]" [.t 5, .t 6]),O1 8 (.bin .geq .no (.t 7) (c9 0)),O3 4 8]
def x_slices_ContainsFunc_api_Cond_api_Term_ : XFunc := { np := 2, res := [.t 4], body :=
 (.seq (.reg o3x) (.seq (.reg o3y) .ret)) }
def l9d : List XO := [O1 5 (.mv (.c (.bool false)))]
def l9e : List XO := [O3 6 0,O1 7 (.mkfn "(newel/situation.Plant).Holds$1$1" [] [.t 1, .t 2, .t 3]),O1 8 (.call "slices.ContainsFunc[newel/api.Term,newel/api.Literal]" [.t 6, .t 7]),O1 9 (.un .not (.t 8)),O3 5 9]
def x__situation_Plant__HoldsD1 : XFunc := { np := 4, res := [.t 5], body :=
 (.seq (.reg l9d) (.seq (.reg l9e) .ret)) }
def l9b : List XO := [O1 4 (.boxF (.t 0)),O1 5 (.mv (.c (.bool false)))]
def l9c : List XO := [O6 6 5 1,O1 7 (.load true 4 (.tf 4)),O6 8 3 2,O4 9 1 3,O1 10 (.call "(newel/situation.Plant).literal" [.t 6, .t 7, .t 8, .t 9]),O1 11 (.un .not (.t 10)),O3 5 11]
def x__situation_Plant__HoldsD1D1 : XFunc := { np := 4, res := [.t 5], body :=
 (.seq (.reg l9b) (.seq (.reg l9c) .ret)) }
def l9u : List XO := [O1 4 (.boxF (.t 0)),O1 5 (.boxF (.t 1)),O1 6 (.boxF (.t 2)),O1 8 (.mv (.c (.bool false)))]
def l9v : List XO := [O1 9 (.mv (.c (.bool false)))]
def l9y : List XO := [O1 10 (.fldA 0 (.tf 5)),O1 11 (.load false 1 (.tf 10))]
def l9z : List XO := [O1 13 (.bin .eql .no (.t 11) (c9 1)),O3 12 13]
def l90 : List XO := [O3 14 3,O1 15 (.fldA 1 (.tf 5)),O1 16 (.load false 1 (.tf 15)),O1 17 (.bin .shr .no (.t 14) (.t 16)),O1 18 (.bin .and .no (.t 17) (c9 1)),O1 19 (.bin .eql .no (.t 18) (c9 1)),O3 9 19]
def l91 : List XO := [O1 21 (.bin .eql .no (.t 11) (c9 2)),O3 20 21]
def l92 : List XO := [O1 22 (.fldA 1 (.tf 5)),O1 23 (.load false 1 (.tf 22)),O1 24 (.fldA 1 (.tf 6)),O1 25 (.ixP 1 2 (.t 24) (.t 23)),O1 26 (.load false 1 (.tf 25)),O1 27 (.fldA 2 (.tf 5)),O1 28 (.load false 1 (.tf 27)),O1 29 (.bin .geq .no (.t 26) (.t 28)),O3 9 29]
def v2e : List XO := [O1 31 (.bin .eql .no (.t 11) (c9 3)),O3 30 31]
def l94 : List XO := [O1 32 (.fldA 0 (.tf 6)),O1 33 (.load false 1 (.tf 32)),O1 34 (.fldA 1 (.tf 5)),O1 35 (.load false 1 (.tf 34)),O1 36 (.bin .eql .no (.t 33) (.t 35)),O3 9 36]
def l95 : List XO := [O1 38 (.bin .eql .no (.t 11) (c9 4)),O3 37 38]
def l9w : List XO := [O1 39 (.fldA 0 (.tf 4)),O1 40 (.fldA 3 (.tf 39)),O1 41 (.load false 1 (.tf 40)),O1 42 (.fldA 0 (.tf 6)),O1 43 (.load false 1 (.tf 42)),O7 44 2 41 43,O5 45 1 44,O4 46 1 45,O1 47 (.fldA 1 (.tf 5)),O1 48 (.load false 1 (.tf 47)),O1 49 (.bin .shr .no (.t 46) (.t 48)),O1 50 (.bin .and .no (.t 49) (c9 1)),O1 51 (.bin .eql .no (.t 50) (c9 1)),O3 9 51]
def l9x : List XO := [O3 52 9,O1 53 (.fldA 3 (.tf 5)),O1 54 (.load false 1 (.tf 53)),O1 55 (.bin .neq .bool (.t 52) (.t 54)),O3 8 55]
def x__situation_Plant__literal : XFunc := { np := 4, res := [.t 8], body :=
 (.seq (.reg l9u) (.seq (.reg l9v) (.seq (.seq (.reg l9y) (.block 0 (.seq (.reg l9z) (.cond (.t 12) (.reg l90) (.seq (.reg l91) (.cond (.t 20) (.reg l92) (.seq (.reg v2e) (.cond (.t 30) (.reg l94) (.seq (.reg l95) (.cond (.t 37) (.reg l9w) .skip)))))))))) (.seq (.reg l9x) .ret)))) }
def o0j : List XO := [O1 2 (.boxF (.t 0)),O1 3 (.mv (.c (.bool false)))]
def o0k : List XO := [O6 4 5 1,O1 5 (.load true 4 (.tf 2)),O1 6 (.call "newel/situation.asks" [.t 4, .t 5]),O1 7 (.un .not (.t 6)),O3 3 7]
def x_situation_AskedD1 : XFunc := { np := 2, res := [.t 3], body :=
 (.seq (.reg o0j) (.seq (.reg o0k) .ret)) }
def o2f : List XO := [O1 2 (.boxF (.t 0)),O1 3 (.boxF (.t 1)),O1 4 (.mv (.c (.bool false)))]
def o2g : List XO := [O1 5 (.fldA 0 (.tf 3)),O1 6 (.load false 1 (.tf 5))]
def o2i : List XO := [O1 8 (.bin .eql .no (.t 6) (c9 1)),O3 7 8]
def o2j : List XO := [O1 9 (.fldA 1 (.tf 3)),O1 10 (.load false 1 (.tf 9)),O1 11 (.fldA 0 (.tf 2)),O1 12 (.load false 1 (.tf 11)),O8 13 12,O1 14 (.bin .sub .no (.t 13) (c9 1)),O1 15 (.call "newel/situation.within" [.t 10, (c9 0), .t 14]),O3 16 15,O9 17 16 true (.fldA 2 (.tf 3)),O9 18 16 true (.load false 1 (.tf 17)),O9 19 16 true (.bin .eql .no (.t 18) (c9 0)),O1 20 (.pick (.t 16) (.t 19) (.c (.bool false))),O3 4 20]
def o2k : List XO := [O1 22 (.bin .eql .no (.t 6) (c9 2)),O3 21 22]
def o2l : List XO := [O1 23 (.fldA 1 (.tf 3)),O1 24 (.load false 1 (.tf 23)),O1 25 (.fldA 2 (.tf 2)),O1 26 (.load false 1 (.tf 25)),O8 27 26,O1 28 (.bin .sub .no (.t 27) (c9 1)),O1 29 (.call "newel/situation.within" [.t 24, (c9 0), .t 28]),O3 30 29,O9 31 30 true (.fldA 2 (.tf 3)),O9 32 30 true (.load false 1 (.tf 31)),O9 33 30 true (.fldA 2 (.tf 2)),O9 34 30 true (.load false 1 (.tf 33)),O9 35 30 true (.fldA 1 (.tf 3)),O9 36 30 true (.load false 1 (.tf 35)),O9 37 30 true (.ixA 2 (.t 34) (.t 36)),O9 38 30 true (.fldA 1 (.t 37)),O9 39 30 true (.load false 1 (.t 38)),O9 40 30 true (.call "newel/situation.within" [.t 32, (c9 0), .t 39]),O1 41 (.pick (.t 30) (.t 40) (.c (.bool false))),O3 4 41]
def o2m : List XO := [O1 43 (.bin .eql .no (.t 6) (c9 3)),O3 42 43]
def o2n : List XO := [O1 44 (.fldA 1 (.tf 3)),O1 45 (.load false 1 (.tf 44)),O1 46 (.fldA 3 (.tf 2)),O1 47 (.load false 1 (.tf 46)),O8 48 47,O1 49 (.bin .sub .no (.t 48) (c9 1)),O1 50 (.call "newel/situation.within" [.t 45, (c9 0), .t 49]),O3 51 50,O9 52 51 true (.fldA 2 (.tf 3)),O9 53 51 true (.load false 1 (.tf 52)),O9 54 51 true (.bin .eql .no (.t 53) (c9 0)),O1 55 (.pick (.t 51) (.t 54) (.c (.bool false))),O3 4 55]
def o2o : List XO := [O1 57 (.bin .eql .no (.t 6) (c9 4)),O3 56 57]
def o2p : List XO := [O1 58 (.fldA 1 (.tf 3)),O1 59 (.load false 1 (.tf 58)),O1 60 (.fldA 1 (.tf 2)),O1 61 (.load false 1 (.tf 60)),O8 62 61,O1 63 (.bin .sub .no (.t 62) (c9 1)),O1 64 (.call "newel/situation.within" [.t 59, (c9 0), .t 63]),O3 65 64,O9 66 65 true (.fldA 2 (.tf 3)),O9 67 65 true (.load false 1 (.tf 66)),O9 68 65 true (.bin .eql .no (.t 67) (c9 0)),O1 69 (.pick (.t 65) (.t 68) (.c (.bool false))),O3 4 69]
def o2h : List XO := [O1 4 (.mv (.c (.bool false)))]
def x_situation_asks : XFunc := { np := 2, res := [.t 4], body :=
 (.seq (.reg o2f) (.seq (.seq (.reg o2g) (.block 0 (.seq (.reg o2i) (.cond (.t 7) (.seq (.reg o2j) .ret) (.seq (.reg o2k) (.cond (.t 21) (.seq (.reg o2l) .ret) (.seq (.reg o2m) (.cond (.t 42) (.seq (.reg o2n) .ret) (.seq (.reg o2o) (.cond (.t 56) (.seq (.reg o2p) .ret) .skip)))))))))) (.seq (.reg o2h) .ret))) }
def l89 : List XO := [O1 4 (.boxF (.t 0)),O1 6 (.boxF (.t 2)),O1 8 (.mv (.c (.bool false)))]
def l9a : List XO := [O3 9 1,O8 10 9,O1 11 (.bin .eql .no (.t 10) (c9 0)),O3 12 11,O9 13 12 false (.load true 5 (.tf 4)),O9 14 12 false (.mv (.t 1)),O9 15 12 false (.load true 3 (.tf 6)),O9 16 12 false (.mv (.t 3)),O9 17 12 false (.call "(newel/situation.Plant).Holds" [.t 13, .t 14, .t 15, .t 16]),O1 18 (.pick (.t 12) (.c (.bool true)) (.t 17)),O3 8 18]
def x__situation_Plant__Allowed : XFunc := { np := 4, res := [.t 8], body :=
 (.seq (.reg l89) (.seq (.reg l9a) .ret)) }
def l7v : List XO := [O1 4 (.mv (.c (.slice none 0 0)))]
def l7w : List XO := [O1 5 (.mv (.c (.slice none 0 0)))]
def l7x : List XO := [O3 6 0,O1 7 (.nilck (.t 6)),O5 8 1 7,O4 9 1 8,O3 10 1,O7 11 1 9 10,O4 12 1 11,O1 13 (.bin .geq .no (.t 12) (c9 0))]
def l7y : List XO := [O3 21 5,O3 22 0,O1 23 (.nilck (.t 22)),O5 24 2 23,O4 25 1 24,O3 26 1,O7 27 1 25 26,O4 28 1 27,O1 29 (.bsl 1 [.t 28]),O1 30 (.app 1 8 (.t 21) (.t 29)),O3 5 30]
def l7z : List XO := [O3 14 0,O1 15 (.nilck (.t 14)),O5 16 1 15,O4 17 1 16,O3 18 1,O7 19 1 17 18,O4 20 1 19,O3 1 20]
def g31 : XCode :=
 (.seq (.seq (.reg l7x) (.cond (.t 13) .skip (.exit 0))) (.seq (.block 1 (.reg l7y)) (.reg l7z)))
def y94 : List XO := [O3 31 5,O1 32 (.callw "slices.Reverse[[]int,int]" [.t 31])]
def l71 : List XO := [O3 33 5,O3 4 33]
def x___control_walk__run : XFunc := { np := 2, res := [.t 4], body :=
 (.seq (.reg l7v) (.seq (.reg l7w) (.seq (.block 0 (.loop g31)) (.seq (.reg y94) (.seq (.reg l71) .ret))))) }
def C7u : List XO := [O1 2 (.boxF (.t 0)),O1 4 (.mv (.c (.bool false)))]
def C7v : List XO := [O1 5 (.fldA 0 (.tf 2)),O1 6 (.load false 1 (.tf 5)),O3 7 1,O1 8 (.bin .sub .no (.t 7) (c9 1)),O1 9 (.call "newel/ways.within" [.t 6, (c9 0), .t 8]),O1 10 (.un .not (.t 9)),O3 11 10,O9 12 11 false (.fldA 1 (.tf 2)),O9 13 11 false (.load false 1 (.tf 12)),O9 14 11 false (.mv (.t 1)),O9 15 11 false (.bin .sub .no (.t 14) (c9 1)),O9 16 11 false (.call "newel/ways.within" [.t 13, (c9 0), .t 15]),O9 17 11 false (.un .not (.t 16)),O1 18 (.pick (.t 11) (.c (.bool true)) (.t 17)),O3 19 18,O9 20 19 false (.fldA 0 (.tf 2)),O9 21 19 false (.load false 1 (.tf 20)),O9 22 19 false (.fldA 1 (.tf 2)),O9 23 19 false (.load false 1 (.tf 22)),O9 24 19 false (.bin .eql .no (.t 21) (.t 23)),O1 25 (.pick (.t 19) (.c (.bool true)) (.t 24)),O3 26 25,O9 27 26 false (.fldA 3 (.tf 2)),O9 28 26 false (.load false 1 (.tf 27)),O9 29 26 false (.call "newel/ways.within" [.t 28, (c9 1), (c9 20)]),O9 30 26 false (.un .not (.t 29)),O1 31 (.pick (.t 26) (.c (.bool true)) (.t 30)),O3 32 31,O9 33 32 false (.fldA 4 (.tf 2)),O9 34 32 false (.load false 1 (.tf 33)),O9 35 32 false (.call "newel/ways.within" [.t 34, (c9 1), (c9 50)]),O9 36 32 false (.un .not (.t 35)),O1 37 (.pick (.t 32) (.c (.bool true)) (.t 36))]
def C7z : List XO := [O1 4 (.mv (.c (.bool false)))]
def C70 : List XO := [O1 38 (.fldA 2 (.tf 2)),O1 39 (.load false 1 (.tf 38))]
def C71 : List XO := [O1 41 (.bin .eql .no (.t 39) (c9 1)),O3 40 41]
def C72 : List XO := [O1 42 (.bin .eql .no (.t 39) (c9 2)),O3 40 42]
def C73 : List XO := [O1 43 (.bin .eql .no (.t 39) (c9 5)),O3 40 43]
def C74 : List XO := [O1 44 (.fldA 5 (.tf 2)),O1 45 (.load false 1 (.tf 44)),O1 46 (.bin .eql .no (.t 45) (.c (.int .i64 (-1)))),O3 47 46,O9 48 47 true (.fldA 6 (.tf 2)),O9 49 47 true (.load false 1 (.tf 48)),O9 50 47 true (.bin .eql .no (.t 49) (c9 0)),O1 51 (.pick (.t 47) (.t 50) (.c (.bool false))),O3 4 51]
def C75 : List XO := [O1 53 (.bin .eql .no (.t 39) (c9 3)),O3 52 53]
def C76 : List XO := [O1 54 (.fldA 5 (.tf 2)),O1 55 (.load false 1 (.tf 54)),O1 56 (.call "newel/ways.within" [.t 55, (c9 0), (c9 11)]),O3 57 56,O9 58 57 true (.fldA 6 (.tf 2)),O9 59 57 true (.load false 1 (.tf 58)),O9 60 57 true (.call "newel/ways.within" [.t 59, (c9 1), (c9 20)]),O1 61 (.pick (.t 57) (.t 60) (.c (.bool false))),O3 4 61]
def C7w : List XO := [O1 63 (.bin .eql .no (.t 39) (c9 4)),O3 62 63]
def C7x : List XO := [O1 64 (.fldA 5 (.tf 2)),O1 65 (.load false 1 (.tf 64)),O1 66 (.call "newel/ways.within" [.t 65, (c9 0), (c9 11)]),O3 67 66,O9 68 67 true (.fldA 6 (.tf 2)),O9 69 67 true (.load false 1 (.tf 68)),O9 70 67 true (.bin .eql .no (.t 69) (c9 0)),O1 71 (.pick (.t 67) (.t 70) (.c (.bool false))),O3 4 71]
def C7y : List XO := [O1 4 (.mv (.c (.bool false)))]
def x_ways_passage : XFunc := { np := 2, res := [.t 4], body :=
 (.seq (.reg C7u) (.seq (.seq (.reg C7v) (.cond (.t 37) (.seq (.reg C7z) .ret) .skip)) (.seq (.seq (.reg C70) (.block 0 (.seq (.seq (.reg C71) (.cond (.t 40) .skip (.seq (.reg C72) (.cond (.t 40) .skip (.reg C73))))) (.cond (.t 40) (.seq (.reg C74) .ret) (.seq (.reg C75) (.cond (.t 52) (.seq (.reg C76) .ret) (.seq (.reg C7w) (.cond (.t 62) (.seq (.reg C7x) .ret) .skip)))))))) (.seq (.reg C7y) .ret)))) }
def o20 : List XO := [O1 1 (.boxF (.t 0)),O1 2 (.mv (.c (.slice none 0 0)))]
def o21 : List XO := [O1 8 (.fldA 0 (.tf 1)),O1 9 (.load false 1 (.tf 8)),O1 10 (.fldA 1 (.tf 1)),O1 11 (.load false 1 (.tf 10)),O1 12 (.bsl 1 [.t 9, .t 11]),O1 13 (.call "slices.Concat[[]string,string]" [.t 12]),O3 3 13]
def o26 : List XO := [O1 14 (.fldA 2 (.tf 1)),O1 15 (.load false 1 (.tf 14)),O8 16 15,O1 17 (.mv (c9 0))]
def o27 : List XO := [O1 18 (.bin .lss .no (.t 17) (.t 16))]
def o28 : List XO := [O7 19 2 15 17,O6 20 2 19,O1 5 (.alloc [(.string (ByteArray.mk #[])), (.int .i64 0)]),O2 (.store 2 (.t 5) (.t 20))]
def o29 : List XO := [O3 21 3,O5 22 0 5,O4 23 1 22,O1 24 (.bsl 1 [.t 23]),O1 25 (.app 1 16 (.t 21) (.t 24)),O3 3 25]
def o3a : List XO := [O1 26 (.bin .add .no (.t 17) (c9 1)),O3 17 26]
def d5l : XCode :=
 (.seq (.reg o27) (.seq (.cond (.t 18) .skip (.exit 0)) (.seq (.block 1 (.seq (.reg o28) (.reg o29))) (.reg o3a))))
def o3b : List XO := [O1 27 (.fldA 3 (.tf 1)),O1 28 (.load false 1 (.tf 27)),O8 29 28,O1 30 (.mv (c9 0))]
def o3c : List XO := [O1 31 (.bin .lss .no (.t 30) (.t 29))]
def o22 : List XO := [O7 32 2 28 30,O6 33 2 32,O1 7 (.alloc [(.string (ByteArray.mk #[])), (.int .i64 0)]),O2 (.store 2 (.t 7) (.t 33))]
def o23 : List XO := [O3 34 3,O5 35 0 7,O4 36 1 35,O1 37 (.bsl 1 [.t 36]),O1 38 (.app 1 16 (.t 34) (.t 37)),O3 3 38]
def o24 : List XO := [O1 39 (.bin .add .no (.t 30) (c9 1)),O3 30 39]
def d5k : XCode :=
 (.seq (.reg o3c) (.seq (.cond (.t 31) .skip (.exit 2)) (.seq (.block 3 (.seq (.reg o22) (.reg o23))) (.reg o24))))
def o25 : List XO := [O3 40 3,O3 2 40]
def x_situation_names : XFunc := { np := 1, res := [.t 2], body :=
 (.seq (.reg o20) (.seq (.reg o21) (.seq (.seq (.reg o26) (.block 0 (.loop d5l))) (.seq (.seq (.reg o3b) (.block 2 (.loop d5k))) (.seq (.reg o25) .ret))))) }
def o1v : List XO := [O1 2 (.mv (.c (.bool false)))]
def o1w : List XO := [O3 5 0,O1 6 (.callw "#sb" [.t 5]),O8 7 6,O1 8 (.mv (c9 0))]
def o1x : List XO := [O1 9 (.bin .lss .no (.t 8) (.t 7))]
def o1y : List XO := [O7 10 1 6 8,O4 11 1 10,O3 4 11]
def o1z : List XO := [O3 12 4,O1 13 (.bin .lss .no (.t 12) (.c (.int .u8 97))),O3 14 13,O9 15 14 false (.mv (.t 4)),O9 16 14 false (.bin .gtr .no (.t 15) (.c (.int .u8 122))),O1 17 (.pick (.t 14) (.c (.bool true)) (.t 16))]
def o10 : List XO := [O1 2 (.mv (.c (.bool false)))]
def o11 : List XO := [O1 18 (.bin .add .no (.t 8) (c9 1)),O3 8 18]
def g5b : XCode :=
 (.seq (.reg o1x) (.seq (.cond (.t 9) .skip (.exit 0)) (.seq (.block 1 (.seq (.reg o1y) (.seq (.reg o1z) (.cond (.t 17) (.seq (.reg o10) .ret) .skip)))) (.reg o11))))
def o12 : List XO := [O3 19 0,O1 20 (.bin .neq .no (.t 19) (.c (.string (ByteArray.mk #[])))),O3 2 20]
def x_situation_Plain : XFunc := { np := 1, res := [.t 2], body :=
 (.seq (.reg o1v) (.seq (.seq (.reg o1w) (.block 0 (.loop g5b))) (.seq (.reg o12) .ret))) }
def o13 : List XO := [O1 2 (.mv (.c (.bool false)))]
def o14 : List XO := [O3 3 0]
def o17 : List XO := [O1 5 (.bin .eql .no (.t 3) (.c (.string (ByteArray.mk #[97, 110, 121])))),O3 4 5]
def o18 : List XO := [O1 6 (.bin .eql .no (.t 3) (.c (.string (ByteArray.mk #[116, 111])))),O3 4 6]
def o19 : List XO := [O1 7 (.bin .eql .no (.t 3) (.c (.string (ByteArray.mk #[122, 101, 114, 111])))),O3 4 7]
def o2a : List XO := [O1 8 (.bin .eql .no (.t 3) (.c (.string (ByteArray.mk #[109, 111, 114, 101])))),O3 4 8]
def o2b : List XO := [O1 9 (.bin .eql .no (.t 3) (.c (.string (ByteArray.mk #[108, 101, 115, 115])))),O3 4 9]
def o2c : List XO := [O1 10 (.bin .eql .no (.t 3) (.c (.string (ByteArray.mk #[105, 102])))),O3 4 10]
def o2d : List XO := [O1 11 (.bin .eql .no (.t 3) (.c (.string (ByteArray.mk #[121, 101, 115])))),O3 4 11]
def o2e : List XO := [O1 12 (.bin .eql .no (.t 3) (.c (.string (ByteArray.mk #[110, 111])))),O3 4 12]
def o15 : List XO := [O1 2 (.mv (.c (.bool true)))]
def o16 : List XO := [O1 2 (.mv (.c (.bool false)))]
def x_situation_Reserved : XFunc := { np := 1, res := [.t 2], body :=
 (.seq (.reg o13) (.seq (.seq (.reg o14) (.block 0 (.seq (.seq (.reg o17) (.cond (.t 4) .skip (.seq (.reg o18) (.cond (.t 4) .skip (.seq (.reg o19) (.cond (.t 4) .skip (.seq (.reg o2a) (.cond (.t 4) .skip (.seq (.reg o2b) (.cond (.t 4) .skip (.seq (.reg o2c) (.cond (.t 4) .skip (.seq (.reg o2d) (.cond (.t 4) .skip (.reg o2e))))))))))))))) (.cond (.t 4) (.seq (.reg o15) .ret) .skip)))) (.seq (.reg o16) .ret))) }
def o4z : List XO := [O1 4 (.mv (c9 0))]
def o40 : List XO := [O3 6 0,O8 7 6,O1 8 (.mv (c9 0))]
def o41 : List XO := [O1 9 (.bin .lss .no (.t 8) (.t 7))]
def o42 : List XO := [O3 10 8,O3 5 10]
def o43 : List XO := [O3 11 1,O3 12 0,O3 13 5,O7 14 4 12 13,O6 15 4 14,O1 16 (.callv (.t 11) [.t 15])]
def o44 : List XO := [O3 17 5,O3 4 17]
def o45 : List XO := [O1 18 (.bin .add .no (.t 8) (c9 1)),O3 8 18]
def g5f : XCode :=
 (.seq (.reg o41) (.seq (.cond (.t 9) .skip (.exit 0)) (.seq (.block 1 (.seq (.reg o42) (.seq (.reg o43) (.cond (.t 16) (.seq (.reg o44) .ret) .skip)))) (.reg o45))))
def o46 : List XO := [O1 4 (.mv (.c (.int .i64 (-1))))]
def x_slices_IndexFunc_api_Term_api_Literal_ : XFunc := { np := 2, res := [.t 4], body :=
 (.seq (.reg o4z) (.seq (.seq (.reg o40) (.block 0 (.loop g5f))) (.seq (.reg o46) .ret))) }
def o4r : List XO := [O1 4 (.mv (c9 0))]
def o4s : List XO := [O3 6 0,O8 7 6,O1 8 (.mv (c9 0))]
def o4t : List XO := [O1 9 (.bin .lss .no (.t 8) (.t 7))]
def o4u : List XO := [O3 10 8,O3 5 10]
def o4v : List XO := [O3 11 1,O3 12 0,O3 13 5,O7 14 1 12 13,O4 15 1 14,O1 16 (.callv (.t 11) [.t 15])]
def o4w : List XO := [O3 17 5,O3 4 17]
def o4x : List XO := [O1 18 (.bin .add .no (.t 8) (c9 1)),O3 8 18]
def g5e : XCode :=
 (.seq (.reg o4t) (.seq (.cond (.t 9) .skip (.exit 0)) (.seq (.block 1 (.seq (.reg o4u) (.seq (.reg o4v) (.cond (.t 16) (.seq (.reg o4w) .ret) .skip)))) (.reg o4x))))
def o4y : List XO := [O1 4 (.mv (.c (.int .i64 (-1))))]
def x_slices_IndexFunc_api_Cond_api_Term_ : XFunc := { np := 2, res := [.t 4], body :=
 (.seq (.reg o4r) (.seq (.seq (.reg o4s) (.block 0 (.loop g5e))) (.seq (.reg o4y) .ret))) }
def o47 : List XO := [O3 4 0,O8 5 4,O1 6 (.bin .sub .no (.t 5) (c9 1)),O1 2 (.mv (c9 0)),O3 3 6]
def o48 : List XO := [O3 7 2,O3 8 3,O1 9 (.bin .lss .no (.t 7) (.t 8))]
def o49 : List XO := [O3 14 0,O3 15 2,O3 16 0,O3 17 3,O3 18 0,O3 19 3,O7 20 1 18 19,O4 21 1 20,O3 22 0,O3 23 2,O7 24 1 22 23,O4 25 1 24,O7 26 1 14 15,O2 (.store 1 (.t 26) (.t 21)),O7 27 1 16 17,O2 (.store 1 (.t 27) (.t 25))]
def o5a : List XO := [O3 10 2,O1 11 (.bin .add .no (.t 10) (c9 1)),O3 12 3,O1 13 (.bin .sub .no (.t 12) (c9 1)),O3 2 11,O3 3 13]
def g5g : XCode :=
 (.seq (.seq (.reg o48) (.cond (.t 9) .skip (.exit 0))) (.seq (.block 1 (.reg o49)) (.reg o5a)))
def x_slices_Reverse___int_int_ : XFunc := { np := 1, res := [], body :=
 (.seq (.reg o47) (.block 0 (.loop g5g))) }
def o3f : List XO := [O1 2 (.mv (.c (.slice none 0 0)))]
def o3g : List XO := [O1 3 (.mv (c9 0))]
def o3o : List XO := [O3 9 0,O8 10 9,O1 11 (.mv (c9 0))]
def o3p : List XO := [O1 12 (.bin .lss .no (.t 11) (.t 10))]
def o3q : List XO := [O7 13 1 9 11,O4 14 1 13,O3 5 14]
def o3r : List XO := [O3 15 3,O3 16 5,O8 17 16,O1 18 (.bin .add .no (.t 15) (.t 17)),O3 3 18]
def o3s : List XO := [O3 19 3,O1 20 (.bin .lss .no (.t 19) (c9 0))]
def o3t : List XO := [O1 21 (.callw "#no" []),O2 (.callw "#no" [])]
def o3u : List XO := [O1 22 (.bin .add .no (.t 11) (c9 1)),O3 11 22]
def d5n : XCode :=
 (.seq (.reg o3p) (.seq (.cond (.t 12) .skip (.exit 0)) (.seq (.block 1 (.seq (.reg o3q) (.seq (.reg o3r) (.seq (.reg o3s) (.cond (.t 20) (.reg o3t) .skip))))) (.reg o3u))))
def o3h : List XO := [O3 23 3,O1 24 (.call "slices.Grow[[]string,string]" [(.c (.slice none 0 0)), .t 23]),O3 6 24]
def o3i : List XO := [O3 25 0,O8 26 25,O1 27 (.mv (c9 0))]
def o3j : List XO := [O1 28 (.bin .lss .no (.t 27) (.t 26))]
def o3k : List XO := [O7 29 1 25 27,O4 30 1 29,O3 8 30]
def o3l : List XO := [O3 31 6,O3 32 8,O1 33 (.app 1 16 (.t 31) (.t 32)),O3 6 33]
def o3m : List XO := [O1 34 (.bin .add .no (.t 27) (c9 1)),O3 27 34]
def d5m : XCode :=
 (.seq (.reg o3j) (.seq (.cond (.t 28) .skip (.exit 2)) (.seq (.block 3 (.seq (.reg o3k) (.reg o3l))) (.reg o3m))))
def o3n : List XO := [O3 35 6,O3 2 35]
def x_slices_Concat___string_string_ : XFunc := { np := 1, res := [.t 2], body :=
 (.seq (.reg o3f) (.seq (.reg o3g) (.seq (.seq (.reg o3o) (.block 0 (.loop d5n))) (.seq (.reg o3h) (.seq (.seq (.reg o3i) (.block 2 (.loop d5m))) (.seq (.reg o3n) .ret)))))) }
def o4c : List XO := [O1 4 (.mv (.c (.slice none 0 0)))]
def o4d : List XO := [O3 5 1,O1 6 (.bin .lss .no (.t 5) (c9 0))]
def o4e : List XO := [O1 7 (.callw "#no" []),O2 (.callw "#no" [])]
def o4f : List XO := [O3 8 1,O3 9 0,O1 10 (.callw "#cap" [.t 9]),O3 11 0,O8 12 11,O1 13 (.bin .sub .no (.t 10) (.t 12)),O1 14 (.bin .sub .no (.t 8) (.t 13)),O3 1 14]
def o4g : List XO := [O3 15 1,O1 16 (.bin .gtr .no (.t 15) (c9 0))]
def o4h : List XO := [O3 17 0,O3 18 0,O1 19 (.callw "#cap" [.t 18]),O1 20 (.slc 1 (.t 17) none (some (.t 19))),O3 21 1,O1 22 (.callw "#ax" [.t 20, .t 21, (.c (.string (ByteArray.mk #[])))]),O3 23 0,O8 24 23,O1 25 (.slc 1 (.t 22) none (some (.t 24))),O3 0 25]
def o4i : List XO := [O3 26 0,O3 4 26]
def x_slices_Grow___string_string_ : XFunc := { np := 2, res := [.t 4], body :=
 (.seq (.reg o4c) (.seq (.seq (.reg o4d) (.cond (.t 6) (.reg o4e) .skip)) (.seq (.seq (.reg o4f) (.seq (.reg o4g) (.cond (.t 16) (.reg o4h) .skip))) (.seq (.reg o4i) .ret)))) }
attribute [go_sem] J4y J4z J5a J5k J5m J5n J5o J5p J5q J41 J42 J43 J44 J45 J46 J47 J48 J49 J5b J5c J5d J5e J5f J5g J5h J5i J5j J5l m0f m0g m0h m0i m0j m0k C47 C48 C5j C5r C5s C5t C5u C5v C5w C5x C49 C5a C5b C5c C5d C5e C5f C5g C5h C5i C5k C5l C5m C5n C5o C5p C5q J6a J6b J56 J57 J58 J59 J6c J6d J6h J6i J6j J6k J6l J6m J6n J6o J6e J6f J6g J5y J5z J50 J52 J53 J54 J55 J5r J5s J5t J5u J5v J5w J5x J6z J60 J69 J7b J7c J7d J7e J7f J7g J7h J61 J62 J63 J64 J65 J66 J67 J68 J7a m0l m0m m2z m20 l9h l9i l9m l9n l9o l9p l9q l9r l9s l9t l9j l9k l9l m2o m2p m2r m2s m2t m2u m2v m2w m2x m2y m2q J4x l75 l76 m21 m22 C5y C5z C50 C51 C52 C53 C54 C55 C56 J6p J6q J6r J6s J6t J6u J6v J6w C7n C7o C7p C7q C7r C7s C7t C22 C23 C3e C3l C3m C3n C3o C3p C3q C24 C25 C26 C27 C28 C29 C3a C3b C3c C3d C3f C3g C3h C3i C3j C3k C3t C3u C3v C3w C3x C3y C3z C30 C31 o0x o0y o08 o1i o1q o1r o1s o1t o1u o0z o00 o01 o02 o03 o04 o05 o06 o07 o09 o1a o1b o1c o1d o1e o1f o1g o1h o1j o1k o1l o1m o1n o1o o1p o3d o3e l87 l88 l9f l9g l96 s2c l98 l99 m0a m0b m0c m0d m0e o0l o0m o0o o0p o0q o0r o0s o0t o0u o0n l77 l78 l8j l8n l8o l8p l8q l8r l8s l8t s2b l8a l8b l8c l8d l8e l8f l8g l8h l8i l8k l8l l8m l7n l7o l7p l7q l7r l7s l7t l7u l72 l73 J6x J6y C6n C6o C6y C62 C63 C64 C65 C66 C67 C68 C6p C6q C6r C6s C6t C6u C6v C6w C6x C6z C60 C61 C8f C8g C77 C78 C79 C8a C8b C8c C8d C8e o2q o2r o2t o2u o2v o2w o2x o2y o2z o2s o3z o30 o0v o0w o3x o3y l9d l9e l9b l9c l9u l9v l9y l9z l90 l91 l92 v2e l94 l95 l9w l9x o0j o0k o2f o2g o2i o2j o2k o2l o2m o2n o2o o2p o2h l89 l9a l7v l7w l7x l7y l7z y94 l71 C7u C7v C7z C70 C71 C72 C73 C74 C75 C76 C7w C7x C7y o20 o21 o26 o27 o28 o29 o3a o3b o3c o22 o23 o24 o25 o1v o1w o1x o1y o1z o10 o11 o12 o13 o14 o17 o18 o19 o2a o2b o2c o2d o2e o15 o16 o4z o40 o41 o42 o43 o44 o45 o46 o4r o4s o4t o4u o4v o4w o4x o4y o47 o48 o49 o5a o3f o3g o3o o3p o3q o3r o3s o3t o3u o3h o3i o3j o3k o3l o3m o3n o4c o4d o4e o4f o4g o4h o4i
end Go.Nw.Tp3
