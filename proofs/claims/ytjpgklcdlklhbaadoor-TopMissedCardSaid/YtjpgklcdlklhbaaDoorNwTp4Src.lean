/- The functions of a seat, as the abstract machine has them. -/
import Derived.Test.YtjpgklcdlklhbaaDoorNwI
set_option linter.all false
namespace Go.Nw.Tp4
@[go_sem] def O3 (d a : Nat) : XO := ⟨some d,none,.mv (.t a)⟩
@[go_sem] def O4 (d n a : Nat) : XO := ⟨some d,none,.load false n (.t a)⟩
@[go_sem] def O5 (d n a : Nat) : XO := ⟨some d,none,.fldA n (.t a)⟩
@[go_sem] def O6 (d n a : Nat) : XO := ⟨some d,none,.load true n (.t a)⟩
@[go_sem] def O7 (d n a b : Nat) : XO := ⟨some d,none,.ixA n (.t a) (.t b)⟩
@[go_sem] def O8 (d a : Nat) : XO := ⟨some d,none,.len false (.t a)⟩
@[go_sem] def O9 (d g : Nat) (p : Bool) (x : XOp) : XO := ⟨some d,some (g,p),x⟩
@[go_sem] def c9 (n : Int) : X := .c (.int .i64 n)
@[go_sem] def O1 (d : Nat) (x : XOp) : XO := ⟨some d,none,x⟩
@[go_sem] def O2 (x : XOp) : XO := ⟨none,none,x⟩
def b50 : List Int := [0, 1, 28, 2, 29, 14, 24, 3, 30, 22, 20, 15, 25, 17, 4, 8, 31, 27, 13, 23, 21, 19, 16, 7, 26, 12, 18, 6, 11, 5, 10, 9]
def b6h : List GC := List.map (fun n => GC.v (.int .u8 n)) b50
def u3d : List Int := [0, 1, 56, 2, 57, 49, 28, 3, 61, 58, 42, 50, 38, 29, 17, 4, 62, 47, 59, 36, 45, 43, 51, 22, 53, 39, 33, 30, 24, 18, 12, 5, 63, 55, 48, 27, 60, 41, 37, 16, 46, 35, 44, 21, 52, 32, 23, 11, 54, 26, 40, 15, 34, 20, 31, 10, 25, 14, 19, 9, 13, 8, 7, 6]
def u0n : List GC := List.map (fun n => GC.v (.int .u8 n)) u3d
theorem B18 : List.map GC.av u0n = List.map AV.v (List.map (Value.int .u8) u3d) := by unfold u0n; rw [List.map_map, List.map_map]; rfl
def C32 : List XO := [O1 3 (.boxF (.t 0)),O1 5 (.boxF (.t 2)),O1 6 (.mv (.c (.bool false)))]
def C33 : List XO := [O1 25 (.fldA 1 (.tf 3)),O1 26 (.load false 1 (.tf 25)),O8 27 26,O1 28 (.bin .gtr .no (.t 27) (c9 24)),O3 29 28,O9 30 29 false (.load true 3 (.tf 3)),O9 31 29 false (.call "newel/newelref08.Check" [.t 30]),O9 32 29 false (.bin .neq .no (.t 31) (c9 0)),O1 33 (.pick (.t 29) (.c (.bool true)) (.t 32)),O3 34 33,O9 35 34 false (.fldA 0 (.tf 5)),O9 36 34 false (.load false 1 (.tf 35)),O9 37 34 false (.bin .lss .no (.t 36) (c9 0)),O1 38 (.pick (.t 34) (.c (.bool true)) (.t 37)),O3 39 38,O9 40 39 false (.fldA 0 (.tf 5)),O9 41 39 false (.load false 1 (.tf 40)),O9 42 39 false (.bin .geq .no (.t 41) (c9 10)),O1 43 (.pick (.t 39) (.c (.bool true)) (.t 42)),O3 44 43,O9 45 44 false (.fldA 1 (.tf 5)),O9 46 44 false (.load false 1 (.tf 45)),O9 47 44 false (.len false (.t 46)),O9 48 44 false (.bin .gtr .no (.t 47) (c9 10)),O1 49 (.pick (.t 44) (.c (.bool true)) (.t 48))]
def C4d : List XO := [O1 50 (.call "newel/neweltop.measures" []),O3 6 50]
def C4o : List XO := [O1 7 (.mv (.c (.bool false)))]
def C4y : List XO := [O1 8 (.mv (c9 0))]
def C42 : List XO := [O3 51 8,O1 52 (.fldA 1 (.tf 3)),O1 53 (.load false 1 (.tf 52)),O8 54 53,O1 55 (.bin .lss .no (.t 51) (.t 54))]
def C43 : List XO := [O1 58 (.fldA 1 (.tf 3)),O1 59 (.load false 1 (.tf 58)),O3 60 8,O7 61 7 59 60,O5 62 2 61,O4 63 1 62,O1 64 (.bin .eql .no (.t 63) (c9 4)),O3 65 64,O9 66 65 true (.fldA 1 (.tf 3)),O9 67 65 true (.load false 1 (.tf 66)),O9 68 65 true (.mv (.t 8)),O9 69 65 true (.ixA 7 (.t 67) (.t 68)),O9 70 65 true (.fldA 5 (.t 69)),O9 71 65 true (.load false 1 (.t 70)),O9 72 65 true (.bin .geq .no (.t 71) (c9 10)),O1 73 (.pick (.t 65) (.t 72) (.c (.bool false)))]
def C44 : List XO := [O1 74 (.call "newel/neweltop.measures" []),O3 6 74]
def C45 : List XO := [O3 75 7,O3 76 75,O9 77 76 false (.fldA 1 (.tf 3)),O9 78 76 false (.load false 1 (.tf 77)),O9 79 76 false (.mv (.t 8)),O9 80 76 false (.ixA 7 (.t 78) (.t 79)),O9 81 76 false (.fldA 2 (.t 80)),O9 82 76 false (.load false 1 (.t 81)),O9 83 76 false (.bin .eql .no (.t 82) (c9 4)),O9 84 76 false (.mv (.t 83)),O9 85 84 true (.fldA 1 (.tf 3)),O9 86 84 true (.load false 1 (.tf 85)),O9 87 84 true (.mv (.t 8)),O9 88 84 true (.ixA 7 (.t 86) (.t 87)),O9 89 84 true (.fldA 5 (.t 88)),O9 90 84 true (.load false 1 (.t 89)),O9 91 84 true (.fldA 0 (.tf 5)),O9 92 84 true (.load false 1 (.tf 91)),O9 93 84 true (.bin .eql .no (.t 90) (.t 92)),O9 94 76 false (.pick (.t 84) (.t 93) (.c (.bool false))),O1 95 (.pick (.t 76) (.c (.bool true)) (.t 94)),O3 7 95]
def C46 : List XO := [O3 56 8,O1 57 (.bin .add .no (.t 56) (c9 1)),O3 8 57]
def C07 : XCode :=
 (.seq (.seq (.reg C42) (.cond (.t 55) .skip (.exit 0))) (.seq (.block 1 (.seq (.seq (.reg C43) (.cond (.t 73) (.seq (.reg C44) .ret) .skip)) (.reg C45))) (.reg C46)))
def C34 : List XO := [O3 96 7,O1 97 (.un .not (.t 96))]
def C35 : List XO := [O1 98 (.call "newel/neweltop.measures" []),O3 6 98]
def C36 : List XO := [O1 99 (.build [(.int .i64 0), (.slice none 0 0)] [(0, 1, (c9 10))]),O1 9 (.alloc [(.int .i64 0), (.slice none 0 0)]),O2 (.store 2 (.t 9) (.t 99))]
def C37 : List XO := [O1 10 (.mv (.c (.slice none 0 0)))]
def C38 : List XO := [O1 11 (.mv (.c (.bool false)))]
def C39 : List XO := [O1 12 (.mv (c9 0))]
def C4a : List XO := [O3 100 12,O1 101 (.fldA 1 (.tf 5)),O1 102 (.load false 1 (.tf 101)),O8 103 102,O1 104 (.bin .lss .no (.t 100) (.t 103))]
def C4b : List XO := [O1 107 (.fldA 1 (.tf 5)),O1 108 (.load false 1 (.tf 107)),O3 109 12,O7 110 2 108 109,O1 111 (.ixP 1 2 (.t 110) (c9 0)),O4 112 1 111,O1 113 (.fldA 1 (.tf 5)),O1 114 (.load false 1 (.tf 113)),O3 115 12,O7 116 2 114 115,O1 117 (.ixP 1 2 (.t 116) (c9 1)),O4 118 1 117,O3 13 112,O3 14 118]
def C4c : List XO := [O3 119 13,O1 120 (.bin .lss .no (.t 119) (c9 0)),O3 121 120,O9 122 121 false (.mv (.t 13)),O9 123 121 false (.fldA 0 (.tf 3)),O9 124 121 false (.load false 1 (.tf 123)),O9 125 121 false (.bin .geq .no (.t 122) (.t 124)),O1 126 (.pick (.t 121) (.c (.bool true)) (.t 125)),O3 127 126,O9 128 127 false (.mv (.t 14)),O9 129 127 false (.bin .lss .no (.t 128) (c9 0)),O1 130 (.pick (.t 127) (.c (.bool true)) (.t 129)),O3 131 130,O9 132 131 false (.mv (.t 14)),O9 133 131 false (.fldA 0 (.tf 3)),O9 134 131 false (.load false 1 (.tf 133)),O9 135 131 false (.bin .geq .no (.t 132) (.t 134)),O1 136 (.pick (.t 131) (.c (.bool true)) (.t 135))]
def C4e : List XO := [O1 137 (.call "newel/neweltop.measures" []),O3 6 137]
def C4f : List XO := [O1 139 (.load true 3 (.tf 3)),O3 140 1,O3 141 13,O3 142 14,O1 143 (.call "newel/ways.Needed" [.t 139, (c9 0), .t 140, .t 141, .t 142]),O3 138 143,O1 144 (.ext (.t 138) 0),O1 145 (.ext (.t 138) 1),O3 15 144,O3 16 145]
def C4g : List XO := [O3 146 16,O1 147 (.bin .eql .no (.t 146) (c9 3))]
def C4h : List XO := [O1 148 (.call "newel/neweltop.measures" []),O3 6 148]
def C4i : List XO := [O1 150 (.load true 3 (.tf 3)),O1 151 (.fldA 0 (.tf 5)),O1 152 (.load false 1 (.tf 151)),O1 153 (.cvtI .u64 (.t 152)),O1 154 (.bin .shl .no (c9 1) (.t 153)),O3 155 1,O3 156 13,O3 157 14,O1 158 (.bsl 1 [.t 156, .t 157]),O1 159 (.call "newel/ways.Apart" [.t 150, .t 154, .t 155, .t 158]),O3 149 159,O1 160 (.ext (.t 149) 0),O1 161 (.ext (.t 149) 1),O1 162 (.ext (.t 149) 2),O1 163 (.ext (.t 149) 3),O3 17 160,O3 18 161,O3 19 162,O3 20 163]
def C4j : List XO := [O3 164 16,O1 165 (.bin .neq .no (.t 164) (c9 0)),O3 166 165,O9 167 166 false (.mv (.t 20)),O9 168 166 false (.bin .neq .no (.t 167) (c9 0)),O1 169 (.pick (.t 166) (.c (.bool true)) (.t 168))]
def C4k : List XO := [O1 6 (.mv (.c (.bool false)))]
def C4l : List XO := [O5 170 1 9,O4 171 1 170,O3 172 15,O1 173 (.bsl 1 [.t 172]),O1 174 (.app 1 24 (.t 171) (.t 173)),O5 175 1 9,O2 (.store 1 (.t 175) (.t 174))]
def C4m : List XO := [O3 176 10,O3 177 19,O1 178 (.bsl 1 [.t 177]),O1 179 (.app 1 1 (.t 176) (.t 178)),O3 10 179]
def C4n : List XO := [O3 180 11,O3 181 180,O9 182 181 false (.mv (.t 19)),O1 183 (.pick (.t 181) (.c (.bool true)) (.t 182)),O3 11 183]
def C4p : List XO := [O3 105 12,O1 106 (.bin .add .no (.t 105) (c9 1)),O3 12 106]
def C08 : XCode :=
 (.seq (.seq (.reg C4a) (.cond (.t 104) .skip (.exit 2))) (.seq (.block 3 (.seq (.reg C4b) (.seq (.seq (.reg C4c) (.cond (.t 136) (.seq (.reg C4e) .ret) .skip)) (.seq (.reg C4f) (.seq (.seq (.reg C4g) (.cond (.t 147) (.seq (.reg C4h) .ret) .skip)) (.seq (.reg C4i) (.seq (.seq (.reg C4j) (.cond (.t 169) (.seq (.reg C4k) .ret) .skip)) (.seq (.reg C4l) (.seq (.reg C4m) (.reg C4n)))))))))) (.reg C4p)))
def C4q : List XO := [O6 185 2 9,O3 186 10,O1 187 (.call "newel/faults.All" [.t 185, .t 186]),O3 184 187,O1 188 (.ext (.t 184) 0),O1 189 (.ext (.t 184) 1),O3 21 188,O3 22 189]
def C4r : List XO := [O3 190 22,O1 191 (.bin .neq .no (.t 190) (c9 0)),O3 192 191,O9 193 192 false (.mv (.t 21)),O9 194 192 false (.len false (.t 193)),O9 195 192 false (.bin .eql .no (.t 194) (c9 0)),O1 196 (.pick (.t 192) (.c (.bool true)) (.t 195))]
def C4s : List XO := [O1 6 (.mv (.c (.bool false)))]
def C4t : List XO := [O1 23 (.mv (.c (.bool false)))]
def C4u : List XO := [O1 24 (.mv (c9 0))]
def C4v : List XO := [O3 197 24,O3 198 21,O8 199 198,O1 200 (.bin .lss .no (.t 197) (.t 199))]
def C4w : List XO := [O3 203 11,O3 204 203,O9 205 204 true (.mv (.t 21)),O9 206 204 true (.mv (.t 24)),O9 207 204 true (.ixA 1 (.t 205) (.t 206)),O9 208 204 true (.load false 1 (.t 207)),O9 209 204 true (.len false (.t 208)),O9 210 204 true (.bin .neq .no (.t 209) (c9 1)),O1 211 (.pick (.t 204) (.t 210) (.c (.bool false))),O3 212 211,O9 213 212 false (.mv (.t 11)),O9 214 212 false (.un .not (.t 213)),O9 215 212 false (.mv (.t 214)),O9 216 215 true (.mv (.t 21)),O9 217 215 true (.mv (.t 24)),O9 218 215 true (.ixA 1 (.t 216) (.t 217)),O9 219 215 true (.load false 1 (.t 218)),O9 220 215 true (.len false (.t 219)),O9 221 215 true (.bin .neq .no (.t 220) (c9 0)),O9 222 212 false (.pick (.t 215) (.t 221) (.c (.bool false))),O1 223 (.pick (.t 212) (.c (.bool true)) (.t 222))]
def C4x : List XO := [O1 6 (.mv (.c (.bool false)))]
def C4z : List XO := [O3 224 23,O3 225 224,O9 226 225 false (.mv (.t 11)),O9 227 225 false (.mv (.t 226)),O9 228 227 true (.mv (.t 21)),O9 229 227 true (.mv (.t 24)),O9 230 227 true (.ixA 1 (.t 228) (.t 229)),O9 231 227 true (.load false 1 (.t 230)),O9 232 227 true (.ixA 1 (.t 231) (c9 0)),O9 233 227 true (.load false 1 (.t 232)),O9 234 227 true (.fldA 0 (.tf 5)),O9 235 227 true (.load false 1 (.tf 234)),O9 236 227 true (.bin .eql .no (.t 233) (.t 235)),O9 237 225 false (.pick (.t 227) (.t 236) (.c (.bool false))),O1 238 (.pick (.t 225) (.c (.bool true)) (.t 237)),O3 23 238]
def C40 : List XO := [O3 201 24,O1 202 (.bin .add .no (.t 201) (c9 1)),O3 24 202]
def C09 : XCode :=
 (.seq (.seq (.reg C4v) (.cond (.t 200) .skip (.exit 4))) (.seq (.block 5 (.seq (.seq (.reg C4w) (.cond (.t 223) (.seq (.reg C4x) .ret) .skip)) (.reg C4z))) (.reg C40)))
def C41 : List XO := [O3 239 23,O3 240 11,O1 241 (.bin .eql .bool (.t 239) (.t 240)),O3 242 241,O9 243 242 true (.call "newel/neweltop.measures" []),O1 244 (.pick (.t 242) (.t 243) (.c (.bool false))),O3 6 244]
def x_neweltop_TopMissed : XFunc := { np := 3, res := [.t 6], body :=
 (.seq (.reg C32) (.seq (.seq (.reg C33) (.cond (.t 49) (.seq (.reg C4d) .ret) .skip)) (.seq (.reg C4o) (.seq (.seq (.reg C4y) (.block 0 (.loop C07))) (.seq (.seq (.reg C34) (.cond (.t 97) (.seq (.reg C35) .ret) .skip)) (.seq (.reg C36) (.seq (.reg C37) (.seq (.reg C38) (.seq (.seq (.reg C39) (.block 2 (.loop C08))) (.seq (.seq .ghost (.seq .ghost (.reg C4q))) (.seq (.seq (.reg C4r) (.cond (.t 196) (.seq (.reg C4s) .ret) .skip)) (.seq (.reg C4t) (.seq (.seq (.reg C4u) (.block 4 (.loop C09))) (.seq (.reg C41) .ret)))))))))))))) }
def B5n : List XO := [O1 2 (.boxF (.t 0)),O1 4 (.mv (.c (.slice none 0 0))),O1 5 (.mv (c9 0))]
def B5o : List XO := [O1 10 (.load true 2 (.tf 2)),O3 11 1,O1 12 (.call "newel/faults.plant" [.t 10, .t 11]),O3 6 12]
def B5q : List XO := [O3 13 6,O1 14 (.bin .neq .no (.t 13) (c9 0))]
def B5r : List XO := [O3 15 6,O1 4 (.mv (.c (.slice none 0 0))),O3 5 15]
def B5s : List XO := [O1 7 (.mv (.c (.slice none 0 0)))]
def B5t : List XO := [O1 16 (.load true 2 (.tf 2)),O3 17 1,O1 18 (.call "newel/faults.fewest" [.t 16, .t 17]),O8 19 18,O1 20 (.mv (c9 0))]
def B5u : List XO := [O1 21 (.bin .lss .no (.t 20) (.t 19))]
def B5v : List XO := [O7 22 1 18 20,O4 23 1 22,O3 9 23]
def B5w : List XO := [O3 24 7,O3 25 9,O1 26 (.call "newel/faults.members" [.t 25]),O1 27 (.bsl 1 [.t 26]),O1 28 (.app 1 24 (.t 24) (.t 27)),O3 7 28]
def B5x : List XO := [O1 29 (.bin .add .no (.t 20) (c9 1)),O3 20 29]
def z99 : XCode :=
 (.seq (.reg B5u) (.seq (.cond (.t 21) .skip (.exit 0)) (.seq (.block 1 (.seq (.reg B5v) (.reg B5w))) (.reg B5x))))
def B5p : List XO := [O3 30 7,O3 4 30,O1 5 (.mv (c9 0))]
def x_faults_All : XFunc := { np := 2, res := [.t 4, .t 5], body :=
 (.seq (.reg B5n) (.seq (.seq (.reg B5o) (.seq (.reg B5q) (.cond (.t 14) (.seq (.reg B5r) .ret) .skip))) (.seq (.reg B5s) (.seq (.seq (.reg B5t) (.block 0 (.loop z99))) (.seq (.reg B5p) .ret))))) }
def C47 : List XO := [O1 1 (.boxF (.t 0)),O1 2 (.mv (c9 0))]
def C48 : List XO := [O1 7 (.fldA 0 (.tf 1)),O1 8 (.load false 1 (.tf 7)),O1 9 (.call "newel/newelref08.from" [.t 8, (c9 1), (c9 10)]),O1 10 (.un .not (.t 9)),O3 11 10,O9 12 11 false (.fldA 1 (.tf 1)),O9 13 11 false (.load false 1 (.tf 12)),O9 14 11 false (.len false (.t 13)),O9 15 11 false (.bin .gtr .no (.t 14) (c9 24)),O1 16 (.pick (.t 11) (.c (.bool true)) (.t 15))]
def C5j : List XO := [O1 2 (.mv (c9 80))]
def C5r : List XO := [O1 3 (.mv (.c (.slice none 0 0)))]
def C5s : List XO := [O1 4 (.mv (c9 0))]
def C5t : List XO := [O3 17 4,O1 18 (.fldA 1 (.tf 1)),O1 19 (.load false 1 (.tf 18)),O8 20 19,O1 21 (.bin .lss .no (.t 17) (.t 20))]
def C5u : List XO := [O1 24 (.fldA 1 (.tf 1)),O1 25 (.load false 1 (.tf 24)),O3 26 4,O7 27 7 25 26,O6 28 7 27,O1 5 (.alloc [(.int .i64 0), (.int .i64 0), (.int .i64 0), (.int .i64 0), (.int .i64 0), (.int .i64 0), (.int .i64 0)]),O2 (.store 7 (.t 5) (.t 28))]
def C5v : List XO := [O5 29 0 5,O4 30 1 29,O1 31 (.fldA 0 (.tf 1)),O1 32 (.load false 1 (.tf 31)),O1 33 (.bin .sub .no (.t 32) (c9 1)),O1 34 (.call "newel/newelref08.from" [.t 30, (c9 0), .t 33]),O1 35 (.un .not (.t 34)),O3 36 35,O9 37 36 false (.fldA 1 (.t 5)),O9 38 36 false (.load false 1 (.t 37)),O9 39 36 false (.fldA 0 (.tf 1)),O9 40 36 false (.load false 1 (.tf 39)),O9 41 36 false (.bin .sub .no (.t 40) (c9 1)),O9 42 36 false (.call "newel/newelref08.from" [.t 38, (c9 0), .t 41]),O9 43 36 false (.un .not (.t 42)),O1 44 (.pick (.t 36) (.c (.bool true)) (.t 43)),O3 45 44,O9 46 45 false (.fldA 0 (.t 5)),O9 47 45 false (.load false 1 (.t 46)),O9 48 45 false (.fldA 1 (.t 5)),O9 49 45 false (.load false 1 (.t 48)),O9 50 45 false (.bin .eql .no (.t 47) (.t 49)),O1 51 (.pick (.t 45) (.c (.bool true)) (.t 50)),O3 52 51,O9 53 52 false (.fldA 3 (.t 5)),O9 54 52 false (.load false 1 (.t 53)),O9 55 52 false (.call "newel/newelref08.from" [.t 54, (c9 1), (c9 20)]),O9 56 52 false (.un .not (.t 55)),O1 57 (.pick (.t 52) (.c (.bool true)) (.t 56)),O3 58 57,O9 59 58 false (.fldA 4 (.t 5)),O9 60 58 false (.load false 1 (.t 59)),O9 61 58 false (.call "newel/newelref08.from" [.t 60, (c9 1), (c9 50)]),O9 62 58 false (.un .not (.t 61)),O1 63 (.pick (.t 58) (.c (.bool true)) (.t 62)),O3 64 63,O9 65 64 false (.fldA 2 (.t 5)),O9 66 64 false (.load false 1 (.t 65)),O9 67 64 false (.call "newel/newelref08.from" [.t 66, (c9 1), (c9 5)]),O9 68 64 false (.un .not (.t 67)),O1 69 (.pick (.t 64) (.c (.bool true)) (.t 68))]
def C5w : List XO := [O1 2 (.mv (c9 80))]
def C5x : List XO := [O5 70 2 5,O4 71 1 70,O1 72 (.bin .eql .no (.t 71) (c9 3)),O3 73 72,O9 74 73 false (.fldA 2 (.t 5)),O9 75 73 false (.load false 1 (.t 74)),O9 76 73 false (.bin .eql .no (.t 75) (c9 4)),O1 77 (.pick (.t 73) (.c (.bool true)) (.t 76))]
def C49 : List XO := [O5 78 5 5,O4 79 1 78,O1 80 (.call "newel/newelref08.from" [.t 79, (c9 0), (c9 11)]),O1 81 (.un .not (.t 80)),O3 82 81,O9 83 82 false (.mv (.t 3)),O9 84 82 false (.fldA 5 (.t 5)),O9 85 82 false (.load false 1 (.t 84)),O9 86 82 false (.call "newel/newelref08.has" [.t 83, .t 85]),O1 87 (.pick (.t 82) (.c (.bool true)) (.t 86))]
def C5a : List XO := [O1 2 (.mv (c9 80))]
def C5b : List XO := [O3 88 3,O5 89 5 5,O4 90 1 89,O1 91 (.bsl 1 [.t 90]),O1 92 (.app 1 8 (.t 88) (.t 91)),O3 3 92]
def C5c : List XO := [O5 93 5 5,O4 94 1 93,O1 95 (.bin .neq .no (.t 94) (.c (.int .i64 (-1))))]
def C5d : List XO := [O1 2 (.mv (c9 80))]
def C5e : List XO := [O5 96 2 5,O4 97 1 96,O1 98 (.bin .eql .no (.t 97) (c9 3))]
def C5f : List XO := [O5 99 6 5,O4 100 1 99,O1 101 (.call "newel/newelref08.from" [.t 100, (c9 1), (c9 20)]),O1 102 (.un .not (.t 101))]
def C5g : List XO := [O1 2 (.mv (c9 80))]
def C5h : List XO := [O5 103 6 5,O4 104 1 103,O1 105 (.bin .neq .no (.t 104) (c9 0))]
def C5i : List XO := [O1 2 (.mv (c9 80))]
def C5k : List XO := [O3 22 4,O1 23 (.bin .add .no (.t 22) (c9 1)),O3 4 23]
def C1a : XCode :=
 (.seq (.seq (.reg C5t) (.cond (.t 21) .skip (.exit 0))) (.seq (.block 1 (.seq (.reg C5u) (.seq (.seq (.reg C5v) (.cond (.t 69) (.seq (.reg C5w) .ret) .skip)) (.seq (.seq (.reg C5x) (.cond (.t 77) (.seq (.seq (.reg C49) (.cond (.t 87) (.seq (.reg C5a) .ret) .skip)) (.reg C5b)) (.seq (.reg C5c) (.cond (.t 95) (.seq (.reg C5d) .ret) .skip)))) (.seq (.reg C5e) (.cond (.t 98) (.seq (.reg C5f) (.cond (.t 102) (.seq (.reg C5g) .ret) .skip)) (.seq (.reg C5h) (.cond (.t 105) (.seq (.reg C5i) .ret) .skip)))))))) (.reg C5k)))
def C5l : List XO := [O1 6 (.mv (c9 0))]
def C5m : List XO := [O3 106 6,O1 107 (.fldA 2 (.tf 1)),O1 108 (.load false 1 (.tf 107)),O8 109 108,O1 110 (.bin .lss .no (.t 106) (.t 109))]
def C5n : List XO := [O1 113 (.fldA 2 (.tf 1)),O1 114 (.load false 1 (.tf 113)),O3 115 6,O7 116 1 114 115,O4 117 1 116,O1 118 (.fldA 0 (.tf 1)),O1 119 (.load false 1 (.tf 118)),O1 120 (.bin .sub .no (.t 119) (c9 1)),O1 121 (.call "newel/newelref08.from" [.t 117, (c9 0), .t 120]),O1 122 (.un .not (.t 121)),O3 123 122,O9 124 123 false (.mv (.t 6)),O9 125 123 false (.bin .gtr .no (.t 124) (c9 0)),O9 126 123 false (.mv (.t 125)),O9 127 126 true (.fldA 2 (.tf 1)),O9 128 126 true (.load false 1 (.tf 127)),O9 129 126 true (.mv (.t 6)),O9 130 126 true (.ixA 1 (.t 128) (.t 129)),O9 131 126 true (.load false 1 (.t 130)),O9 132 126 true (.fldA 2 (.tf 1)),O9 133 126 true (.load false 1 (.tf 132)),O9 134 126 true (.mv (.t 6)),O9 135 126 true (.bin .sub .no (.t 134) (c9 1)),O9 136 126 true (.ixA 1 (.t 133) (.t 135)),O9 137 126 true (.load false 1 (.t 136)),O9 138 126 true (.bin .leq .no (.t 131) (.t 137)),O9 139 123 false (.pick (.t 126) (.t 138) (.c (.bool false))),O1 140 (.pick (.t 123) (.c (.bool true)) (.t 139))]
def C5o : List XO := [O1 2 (.mv (c9 80))]
def C5p : List XO := [O3 111 6,O1 112 (.bin .add .no (.t 111) (c9 1)),O3 6 112]
def C1b : XCode :=
 (.seq (.seq (.reg C5m) (.cond (.t 110) .skip (.exit 2))) (.seq (.block 3 (.seq (.reg C5n) (.cond (.t 140) (.seq (.reg C5o) .ret) .skip))) (.reg C5p)))
def C5q : List XO := [O1 2 (.mv (c9 0))]
def x_r08_Check : XFunc := { np := 1, res := [.t 2], body :=
 (.seq (.reg C47) (.seq (.seq (.reg C48) (.cond (.t 16) (.seq (.reg C5j) .ret) .skip)) (.seq (.reg C5r) (.seq (.seq (.reg C5s) (.block 0 (.loop C1a))) (.seq (.seq (.reg C5l) (.block 2 (.loop C1b))) (.seq (.reg C5q) .ret)))))) }
def C69 : List XO := [O1 5 (.boxF (.t 0)),O1 10 (.mv (.c (.slice none 0 0))),O1 11 (.mv (c9 0))]
def C7a : List XO := [O1 15 (.load true 3 (.tf 5)),O3 16 1,O3 17 3,O3 18 4,O1 19 (.bsl 1 [.t 17, .t 18]),O1 20 (.call "newel/ways.asked" [.t 15, .t 16, .t 19]),O3 12 20]
def C7f : List XO := [O3 21 12,O1 22 (.bin .neq .no (.t 21) (c9 0))]
def C7g : List XO := [O3 23 12,O1 10 (.mv (.c (.slice none 0 0))),O3 11 23]
def C7h : List XO := [O1 24 (.load true 3 (.tf 5)),O3 25 1,O3 26 2,O1 27 (.build [(.int .i64 0), (.slice none 0 0), (.slice none 0 0), (.int .i64 0), (.bool false)] [(0, 3, (.t 24)), (3, 1, (.t 25)), (4, 1, (.t 26))]),O3 28 3,O3 29 4,O1 30 (.call "(newel/ways.level).joined" [.t 27, .t 28, .t 29]),O1 31 (.un .not (.t 30))]
def C7i : List XO := [O1 10 (.mv (.c (.slice none 0 0))),O1 11 (.mv (c9 3))]
def C7j : List XO := [O1 13 (.mv (.c (.slice none 0 0)))]
def C7k : List XO := [O1 32 (.mv (c9 0))]
def C7l : List XO := [O1 33 (.bin .lss .no (.t 32) (c9 12))]
def C7m : List XO := [O3 34 32,O3 14 34]
def C7b : List XO := [O3 35 1,O3 36 14,O1 37 (.bin .shr .no (.t 35) (.t 36)),O1 38 (.bin .and .no (.t 37) (c9 1)),O1 39 (.bin .eql .no (.t 38) (c9 0)),O3 40 39,O9 41 40 true (.load true 3 (.tf 5)),O9 42 40 true (.mv (.t 1)),O9 43 40 true (.mv (.t 14)),O9 44 40 true (.bin .shl .no (c9 1) (.t 43)),O9 45 40 true (.bin .or .no (.t 42) (.t 44)),O9 46 40 true (.mv (.t 2)),O9 47 40 true (.build [(.int .i64 0), (.slice none 0 0), (.slice none 0 0), (.int .i64 0), (.bool false)] [(0, 3, (.t 41)), (3, 1, (.t 45)), (4, 1, (.t 46))]),O9 48 40 true (.mv (.t 3)),O9 49 40 true (.mv (.t 4)),O9 50 40 true (.call "(newel/ways.level).joined" [.t 47, .t 48, .t 49]),O9 51 40 true (.un .not (.t 50)),O1 52 (.pick (.t 40) (.t 51) (.c (.bool false)))]
def C7c : List XO := [O3 53 13,O3 54 14,O1 55 (.bsl 1 [.t 54]),O1 56 (.app 1 8 (.t 53) (.t 55)),O3 13 56]
def C7d : List XO := [O1 57 (.bin .add .no (.t 32) (c9 1)),O3 32 57]
def C1h : XCode :=
 (.seq (.reg C7l) (.seq (.cond (.t 33) .skip (.exit 0)) (.seq (.block 1 (.seq (.reg C7m) (.seq (.reg C7b) (.cond (.t 52) (.reg C7c) .skip)))) (.reg C7d))))
def C7e : List XO := [O3 58 13,O3 10 58,O1 11 (.mv (c9 0))]
def x_ways_Needed : XFunc := { np := 5, res := [.t 10, .t 11], body :=
 (.seq (.reg C69) (.seq (.seq (.reg C7a) (.seq (.reg C7f) (.cond (.t 22) (.seq (.reg C7g) .ret) .skip))) (.seq (.seq (.reg C7h) (.cond (.t 31) (.seq (.reg C7i) .ret) .skip)) (.seq (.reg C7j) (.seq (.seq (.reg C7k) (.block 0 (.loop C1h))) (.seq (.reg C7e) .ret)))))) }
def C57 : List XO := [O1 4 (.boxF (.t 0)),O1 8 (.mv (c9 0)),O1 9 (.mv (c9 0)),O1 10 (.mv (.c (.bool false))),O1 11 (.mv (c9 0))]
def C58 : List XO := [O1 17 (.load true 3 (.tf 4)),O3 18 1,O3 19 3,O1 20 (.call "newel/ways.asked" [.t 17, .t 18, .t 19]),O3 11 20]
def C6f : List XO := [O3 21 11,O1 22 (.bin .neq .no (.t 21) (c9 0))]
def C6g : List XO := [O3 23 11,O1 8 (.mv (c9 0)),O1 9 (.mv (c9 0)),O1 10 (.mv (.c (.bool false))),O3 11 23]
def C6h : List XO := [O1 24 (.load true 3 (.tf 4)),O3 25 1,O3 26 2,O1 27 (.build [(.int .i64 0), (.slice none 0 0), (.slice none 0 0), (.int .i64 0), (.bool false)] [(0, 3, (.t 24)), (3, 1, (.t 25)), (4, 1, (.t 26))]),O1 12 (.alloc [(.int .i64 0), (.slice none 0 0), (.slice none 0 0), (.int .i64 0), (.bool false)]),O2 (.store 5 (.t 12) (.t 27))]
def C6i : List XO := [O3 28 3,O8 29 28,O1 30 (.mv (c9 0))]
def C6j : List XO := [O1 31 (.bin .lss .no (.t 30) (.t 29))]
def C6k : List XO := [O3 32 30,O7 33 1 28 30,O4 34 1 33,O3 13 32,O3 14 34]
def C6l : List XO := [O3 35 3,O3 36 13,O1 37 (.bin .add .no (.t 36) (c9 1)),O1 38 (.slc 1 (.t 35) (some (.t 37)) none),O8 39 38,O1 40 (.mv (c9 0))]
def C6m : List XO := [O1 41 (.bin .lss .no (.t 40) (.t 39))]
def C59 : List XO := [O7 42 1 38 40,O4 43 1 42,O3 16 43]
def C6a : List XO := [O6 44 5 12,O3 45 14,O3 46 16,O1 47 (.call "(newel/ways.level).joined" [.t 44, .t 45, .t 46]),O1 48 (.un .not (.t 47))]
def C6b : List XO := [O3 49 14,O3 50 16,O3 8 49,O3 9 50,O1 10 (.mv (.c (.bool true))),O1 11 (.mv (c9 0))]
def C6c : List XO := [O1 51 (.bin .add .no (.t 40) (c9 1)),O3 40 51]
def C1d : XCode :=
 (.seq (.reg C6m) (.seq (.cond (.t 41) .skip (.exit 2)) (.seq (.block 3 (.seq (.reg C59) (.seq (.reg C6a) (.cond (.t 48) (.seq (.reg C6b) .ret) .skip)))) (.reg C6c))))
def C6d : List XO := [O1 52 (.bin .add .no (.t 30) (c9 1)),O3 30 52]
def C1e : XCode :=
 (.seq (.reg C6j) (.seq (.cond (.t 31) .skip (.exit 0)) (.seq (.block 1 (.seq (.reg C6k) (.seq (.reg C6l) (.block 2 (.loop C1d))))) (.reg C6d))))
def C6e : List XO := [O1 8 (.mv (c9 0)),O1 9 (.mv (c9 0)),O1 10 (.mv (.c (.bool false))),O1 11 (.mv (c9 0))]
def x_ways_Apart : XFunc := { np := 4, res := [.t 8, .t 9, .t 10, .t 11], body :=
 (.seq (.reg C57) (.seq (.seq (.reg C58) (.seq (.reg C6f) (.cond (.t 22) (.seq (.reg C6g) .ret) .skip))) (.seq (.reg C6h) (.seq (.seq (.reg C6i) (.block 0 (.loop C1e))) (.seq (.reg C6e) .ret))))) }
def v53 : List XO := [O1 2 (.boxF (.t 0)),O1 4 (.mv (c9 0))]
def v54 : List XO := [O1 10 (.fldA 0 (.tf 2)),O1 11 (.load false 1 (.tf 10)),O1 12 (.call "newel/faults.within" [.t 11, (c9 0), (c9 10)]),O1 13 (.un .not (.t 12)),O3 14 13,O9 15 14 false (.fldA 1 (.tf 2)),O9 16 14 false (.load false 1 (.tf 15)),O9 17 14 false (.len false (.t 16)),O9 18 14 false (.bin .gtr .no (.t 17) (c9 10)),O1 19 (.pick (.t 14) (.c (.bool true)) (.t 18))]
def v6d : List XO := [O1 4 (.mv (c9 101))]
def v6e : List XO := [O1 20 (.fldA 1 (.tf 2)),O1 21 (.load false 1 (.tf 20)),O8 22 21,O1 23 (.mv (c9 0))]
def v6f : List XO := [O1 24 (.bin .lss .no (.t 23) (.t 22))]
def v6g : List XO := [O7 25 1 21 23,O4 26 1 25,O3 6 26]
def v6h : List XO := [O1 7 (.mv (.c (.int .i64 (-1))))]
def v6i : List XO := [O3 27 6,O8 28 27,O1 29 (.mv (c9 0))]
def v6j : List XO := [O1 30 (.bin .lss .no (.t 29) (.t 28))]
def v6k : List XO := [O7 31 1 27 29,O4 32 1 31,O3 9 32]
def v55 : List XO := [O3 33 9,O3 34 7,O1 35 (.bin .add .no (.t 34) (c9 1)),O1 36 (.fldA 0 (.tf 2)),O1 37 (.load false 1 (.tf 36)),O1 38 (.bin .sub .no (.t 37) (c9 1)),O1 39 (.call "newel/faults.within" [.t 33, .t 35, .t 38]),O1 40 (.un .not (.t 39))]
def v56 : List XO := [O1 4 (.mv (c9 101))]
def v57 : List XO := [O3 41 9,O3 7 41]
def v58 : List XO := [O1 42 (.bin .add .no (.t 29) (c9 1)),O3 29 42]
def v6l : XCode :=
 (.seq (.reg v6j) (.seq (.cond (.t 30) .skip (.exit 2)) (.seq (.block 3 (.seq (.reg v6k) (.seq (.seq (.reg v55) (.cond (.t 40) (.seq (.reg v56) .ret) .skip)) (.reg v57)))) (.reg v58))))
def v59 : List XO := [O1 43 (.bin .add .no (.t 23) (c9 1)),O3 23 43]
def v6m : XCode :=
 (.seq (.reg v6f) (.seq (.cond (.t 24) .skip (.exit 0)) (.seq (.block 1 (.seq (.reg v6g) (.seq (.reg v6h) (.seq (.reg v6i) (.block 2 (.loop v6l)))))) (.reg v59))))
def v6a : List XO := [O3 44 1,O8 45 44,O1 46 (.fldA 1 (.tf 2)),O1 47 (.load false 1 (.tf 46)),O8 48 47,O1 49 (.bin .neq .no (.t 45) (.t 48))]
def v6b : List XO := [O1 4 (.mv (c9 1))]
def v6c : List XO := [O1 4 (.mv (c9 0))]
def x_faults_plant : XFunc := { np := 2, res := [.t 4], body :=
 (.seq (.reg v53) (.seq (.seq (.reg v54) (.cond (.t 19) (.seq (.reg v6d) .ret) .skip)) (.seq (.seq (.reg v6e) (.block 0 (.loop v6m))) (.seq (.seq (.reg v6a) (.cond (.t 49) (.seq (.reg v6b) .ret) .skip)) (.seq (.reg v6c) .ret))))) }
def v5i : List XO := [O1 2 (.boxF (.t 0)),O1 4 (.mv (.c (.slice none 0 0)))]
def v5j : List XO := [O1 5 (.mv (.c (.slice none 0 0)))]
def v5n : List XO := [O1 8 (.fldA 0 (.tf 2)),O1 9 (.load false 1 (.tf 8)),O1 10 (.bin .shl .no (c9 1) (.t 9)),O1 11 (.mv (c9 0))]
def v5o : List XO := [O1 12 (.bin .lss .no (.t 11) (.t 10))]
def v5p : List XO := [O3 13 11,O3 6 13]
def v5q : List XO := [O1 14 (.load true 2 (.tf 2)),O3 15 1,O3 16 6,O1 17 (.call "newel/faults.explained" [.t 14, .t 15, .t 16]),O3 7 17]
def v5r : List XO := [O3 19 5,O8 20 19,O1 21 (.bin .eql .no (.t 20) (c9 0)),O3 22 21,O9 23 22 false (.mv (.t 7)),O9 24 22 false (.cvtI .u64 (.t 23)),O9 25 22 false (.call "math/bits.OnesCount" [.t 24]),O9 26 22 false (.mv (.t 5)),O9 27 22 false (.ixA 1 (.t 26) (c9 0)),O9 28 22 false (.load false 1 (.t 27)),O9 29 22 false (.cvtI .u64 (.t 28)),O9 30 22 false (.call "math/bits.OnesCount" [.t 29]),O9 31 22 false (.bin .lss .no (.t 25) (.t 30)),O1 32 (.pick (.t 22) (.c (.bool true)) (.t 31)),O3 18 32]
def v5s : List XO := [O3 33 7,O1 34 (.bsl 1 [.t 33]),O3 5 34]
def v5t : List XO := [O3 36 7,O1 37 (.cvtI .u64 (.t 36)),O1 38 (.call "math/bits.OnesCount" [.t 37]),O3 39 5,O1 40 (.ixA 1 (.t 39) (c9 0)),O4 41 1 40,O1 42 (.cvtI .u64 (.t 41)),O1 43 (.call "math/bits.OnesCount" [.t 42]),O1 44 (.bin .eql .no (.t 38) (.t 43)),O3 35 44]
def v5u : List XO := [O3 45 5,O3 46 7,O1 47 (.bsl 1 [.t 46]),O1 48 (.app 1 8 (.t 45) (.t 47)),O3 5 48]
def v5k : List XO := [O1 49 (.bin .add .no (.t 11) (c9 1)),O3 11 49]
def v5v : XCode :=
 (.seq (.reg v5o) (.seq (.cond (.t 12) .skip (.exit 0)) (.seq (.block 1 (.seq (.reg v5p) (.seq (.reg v5q) (.block 2 (.seq (.reg v5r) (.cond (.t 18) (.reg v5s) (.seq (.reg v5t) (.cond (.t 35) (.reg v5u) .skip)))))))) (.reg v5k))))
def v5l : List XO := [O3 50 5,O1 51 (.callw "slices.SortFunc[[]int,int]" [.t 50, (.f "newel/faults.fewest$1")])]
def v5m : List XO := [O3 52 5,O3 4 52]
def x_faults_fewest : XFunc := { np := 2, res := [.t 4], body :=
 (.seq (.reg v5i) (.seq (.reg v5j) (.seq (.seq (.reg v5n) (.block 0 (.loop v5v))) (.seq (.reg v5l) (.seq (.reg v5m) .ret))))) }
def v5w : List XO := [O1 2 (.mv (.c (.slice none 0 0)))]
def v5x : List XO := [O1 3 (.mv (.c (.slice none 0 0)))]
def v5y : List XO := [O3 4 0,O1 5 (.bin .neq .no (.t 4) (c9 0))]
def v5z : List XO := [O3 10 3,O3 11 0,O1 12 (.cvtI .u64 (.t 11)),O1 13 (.call "math/bits.TrailingZeros" [.t 12]),O1 14 (.bsl 1 [.t 13]),O1 15 (.app 1 8 (.t 10) (.t 14)),O3 3 15]
def v50 : List XO := [O3 6 0,O3 7 0,O1 8 (.bin .sub .no (.t 7) (c9 1)),O1 9 (.bin .and .no (.t 6) (.t 8)),O3 0 9]
def v52 : XCode :=
 (.seq (.seq (.reg v5y) (.cond (.t 5) .skip (.exit 0))) (.seq (.block 1 (.reg v5z)) (.reg v50)))
def v51 : List XO := [O3 16 3,O3 2 16]
def x_faults_members : XFunc := { np := 1, res := [.t 2], body :=
 (.seq (.reg v5w) (.seq (.reg v5x) (.seq (.block 0 (.loop v52)) (.seq (.reg v51) .ret)))) }
def C5y : List XO := [O1 6 (.mv (.c (.bool false)))]
def C5z : List XO := [O3 7 0,O3 8 1,O1 9 (.bin .geq .no (.t 7) (.t 8)),O3 10 9,O9 11 10 true (.mv (.t 0)),O9 12 10 true (.mv (.t 2)),O9 13 10 true (.bin .leq .no (.t 11) (.t 12)),O1 14 (.pick (.t 10) (.t 13) (.c (.bool false))),O3 6 14]
def x_r08_from : XFunc := { np := 3, res := [.t 6], body :=
 (.seq (.reg C5y) (.seq (.reg C5z) .ret)) }
def C50 : List XO := [O1 4 (.mv (.c (.bool false)))]
def C51 : List XO := [O1 5 (.mv (c9 0))]
def C52 : List XO := [O3 6 5,O3 7 0,O8 8 7,O1 9 (.bin .lss .no (.t 6) (.t 8))]
def C53 : List XO := [O3 12 0,O3 13 5,O7 14 1 12 13,O4 15 1 14,O3 16 1,O1 17 (.bin .eql .no (.t 15) (.t 16))]
def C54 : List XO := [O1 4 (.mv (.c (.bool true)))]
def C55 : List XO := [O3 10 5,O1 11 (.bin .add .no (.t 10) (c9 1)),O3 5 11]
def C1c : XCode :=
 (.seq (.seq (.reg C52) (.cond (.t 9) .skip (.exit 0))) (.seq (.block 1 (.seq (.reg C53) (.cond (.t 17) (.seq (.reg C54) .ret) .skip))) (.reg C55)))
def C56 : List XO := [O1 4 (.mv (.c (.bool false)))]
def x_r08_has : XFunc := { np := 2, res := [.t 4], body :=
 (.seq (.reg C50) (.seq (.seq (.reg C51) (.block 0 (.loop C1c))) (.seq (.reg C56) .ret))) }
def C7n : List XO := [O1 3 (.boxF (.t 0)),O1 6 (.mv (c9 0))]
def C7o : List XO := [O1 8 (.load true 3 (.tf 3)),O1 9 (.call "newel/ways.Check" [.t 8]),O3 7 9]
def C7p : List XO := [O3 10 7,O1 11 (.bin .neq .no (.t 10) (c9 0))]
def C7q : List XO := [O3 12 7,O3 6 12]
def C7r : List XO := [O3 13 1,O1 14 (.call "newel/ways.within" [.t 13, (c9 0), (c9 4095)]),O1 15 (.un .not (.t 14)),O3 16 15,O9 17 16 false (.load true 3 (.tf 3)),O9 18 16 false (.mv (.t 2)),O9 19 16 false (.call "newel/ways.place" [.t 17, .t 18]),O9 20 16 false (.un .not (.t 19)),O1 21 (.pick (.t 16) (.c (.bool true)) (.t 20))]
def C7s : List XO := [O1 6 (.mv (c9 1))]
def C7t : List XO := [O1 6 (.mv (c9 0))]
def x_ways_asked : XFunc := { np := 3, res := [.t 6], body :=
 (.seq (.reg C7n) (.seq (.seq (.reg C7o) (.seq (.reg C7p) (.cond (.t 11) (.seq (.reg C7q) .ret) .skip))) (.seq (.seq (.reg C7r) (.cond (.t 21) (.seq (.reg C7s) .ret) .skip)) (.seq (.reg C7t) .ret)))) }
def C3r : List XO := [O1 3 (.boxF (.t 0)),O1 6 (.mv (.c (.bool false)))]
def C3s : List XO := [O1 7 (.load true 5 (.tf 3)),O3 8 2,O1 9 (.call "(newel/ways.level).far" [.t 7, .t 8]),O3 10 1,O7 11 1 9 10,O4 12 1 11,O1 13 (.bin .geq .no (.t 12) (c9 0)),O3 6 13]
def x__ways_level__joined : XFunc := { np := 3, res := [.t 6], body :=
 (.seq (.reg C3r) (.seq (.reg C3s) .ret)) }
def v9o : List XO := [O1 2 (.mv (c9 0))]
def v9p : List XO := [O3 3 0,O1 4 (.cvtI .u32 (.t 3)),O1 5 (.call "math/bits.TrailingZeros32" [.t 4]),O3 2 5]
def v9q : List XO := [O3 6 0,O1 7 (.call "math/bits.TrailingZeros64" [.t 6]),O3 2 7]
def x_math_bits_TrailingZeros : XFunc := { np := 1, res := [.t 2], body :=
 (.seq (.reg v9o) (.seq (.cond (.c (.bool false)) (.seq (.reg v9p) .ret) .skip) (.seq (.reg v9q) .ret))) }
def v7f : List XO := [O1 6 (.mv (.c (.bool false)))]
def v7g : List XO := [O3 7 0,O3 8 1,O1 9 (.bin .geq .no (.t 7) (.t 8)),O3 10 9,O9 11 10 true (.mv (.t 0)),O9 12 10 true (.mv (.t 2)),O9 13 10 true (.bin .leq .no (.t 11) (.t 12)),O1 14 (.pick (.t 10) (.t 13) (.c (.bool false))),O3 6 14]
def x_faults_within : XFunc := { np := 3, res := [.t 6], body :=
 (.seq (.reg v7f) (.seq (.reg v7g) .ret)) }
def v40 : List XO := [O1 3 (.boxF (.t 0)),O1 5 (.boxF (.t 2)),O1 6 (.mv (c9 0))]
def v41 : List XO := [O1 11 (.load false 1 (.tf 5)),O3 7 11]
def v43 : List XO := [O1 12 (.fldA 1 (.tf 3)),O1 13 (.load false 1 (.tf 12)),O8 14 13,O1 15 (.mv (c9 0))]
def v44 : List XO := [O1 16 (.bin .lss .no (.t 15) (.t 14))]
def v45 : List XO := [O3 17 15,O7 18 1 13 15,O4 19 1 18,O3 8 17,O3 9 19]
def v46 : List XO := [O3 20 9,O1 21 (.mkfn "newel/faults.explained$1" [] [.t 5]),O1 22 (.call "slices.ContainsFunc[[]int,int]" [.t 20, .t 21]),O3 10 22]
def v47 : List XO := [O3 23 10,O3 24 1,O3 25 8,O7 26 1 24 25,O4 27 1 26,O1 28 (.bin .neq .bool (.t 23) (.t 27))]
def v48 : List XO := [O3 29 7,O1 30 (.fldA 0 (.tf 3)),O1 31 (.load false 1 (.tf 30)),O3 32 8,O1 33 (.bin .add .no (.t 31) (.t 32)),O1 34 (.bin .shl .no (c9 1) (.t 33)),O1 35 (.bin .or .no (.t 29) (.t 34)),O3 7 35]
def v49 : List XO := [O1 36 (.bin .add .no (.t 15) (c9 1)),O3 15 36]
def v5a : XCode :=
 (.seq (.reg v44) (.seq (.cond (.t 16) .skip (.exit 0)) (.seq (.block 1 (.seq (.reg v45) (.seq (.reg v46) (.seq (.reg v47) (.cond (.t 28) (.reg v48) .skip))))) (.reg v49))))
def v42 : List XO := [O3 37 7,O3 6 37]
def x_faults_explained : XFunc := { np := 3, res := [.t 6], body :=
 (.seq (.reg v40) (.seq (.reg v41) (.seq (.seq (.reg v43) (.block 0 (.loop v5a))) (.seq (.reg v42) .ret)))) }
def v9d : List XO := [O1 2 (.mv (c9 0))]
def v9e : List XO := [O3 3 0,O1 4 (.cvtI .u32 (.t 3)),O1 5 (.call "math/bits.OnesCount32" [.t 4]),O3 2 5]
def v9f : List XO := [O3 6 0,O1 7 (.call "math/bits.OnesCount64" [.t 6]),O3 2 7]
def x_math_bits_OnesCount : XFunc := { np := 1, res := [.t 2], body :=
 (.seq (.reg v9d) (.seq (.cond (.c (.bool false)) (.seq (.reg v9e) .ret) .skip) (.seq (.reg v9f) .ret))) }
def w4b : List XO := [O3 5 0,O8 6 5,O3 4 6]
def w4c : List XO := [O3 7 0,O3 8 4,O3 9 4,O1 10 (.cvtI .u64 (.t 9)),O1 11 (.call "math/bits.Len" [.t 10]),O3 12 1,O1 13 (.callw "slices.pdqsortCmpFunc[int]" [.t 7, (c9 0), .t 8, .t 11, .t 12])]
def x_slices_SortFunc___int_int_ : XFunc := { np := 2, res := [], body :=
 (.seq (.reg w4b) (.reg w4c)) }
def v5g : List XO := [O1 4 (.mv (c9 0))]
def v5h : List XO := [O3 5 0,O1 6 (.call "newel/faults.members" [.t 5]),O3 7 1,O1 8 (.call "newel/faults.members" [.t 7]),O1 9 (.call "slices.Compare[[]int,int]" [.t 6, .t 8]),O3 4 9]
def x_faults_fewestD1 : XFunc := { np := 2, res := [.t 4], body :=
 (.seq (.reg v5g) (.seq (.reg v5h) .ret)) }
def w3w : List XO := [O1 4 (.mv (c9 0))]
def w3x : List XO := [O3 9 0,O8 10 9,O1 11 (.mv (c9 0))]
def w32 : List XO := [O1 12 (.bin .lss .no (.t 11) (.t 10))]
def w33 : List XO := [O3 13 11,O7 14 1 9 11,O4 15 1 14,O3 5 13,O3 6 15]
def w34 : List XO := [O3 16 5,O3 17 1,O8 18 17,O1 19 (.bin .geq .no (.t 16) (.t 18))]
def w35 : List XO := [O1 4 (.mv (c9 1))]
def w36 : List XO := [O3 20 1,O3 21 5,O7 22 1 20 21,O4 23 1 22,O3 7 23]
def w37 : List XO := [O3 24 6,O3 25 7,O1 26 (.call "cmp.Compare[int]" [.t 24, .t 25]),O3 8 26]
def w38 : List XO := [O3 27 8,O1 28 (.bin .neq .no (.t 27) (c9 0))]
def w39 : List XO := [O3 29 8,O3 4 29]
def w3y : List XO := [O1 30 (.bin .add .no (.t 11) (c9 1)),O3 11 30]
def w4a : XCode :=
 (.seq (.reg w32) (.seq (.cond (.t 12) .skip (.exit 0)) (.seq (.block 1 (.seq (.reg w33) (.seq (.seq (.reg w34) (.cond (.t 19) (.seq (.reg w35) .ret) .skip)) (.seq (.reg w36) (.seq (.reg w37) (.seq (.reg w38) (.cond (.t 28) (.seq (.reg w39) .ret) .skip))))))) (.reg w3y))))
def w3z : List XO := [O3 31 0,O8 32 31,O3 33 1,O8 34 33,O1 35 (.bin .lss .no (.t 32) (.t 34))]
def w30 : List XO := [O1 4 (.mv (.c (.int .i64 (-1))))]
def w31 : List XO := [O1 4 (.mv (c9 0))]
def x_slices_Compare___int_int_ : XFunc := { np := 2, res := [.t 4], body :=
 (.seq (.reg w3w) (.seq (.seq (.reg w3x) (.block 0 (.loop w4a))) (.seq (.seq (.reg w3z) (.cond (.t 35) (.seq (.reg w30) .ret) .skip)) (.seq (.reg w31) .ret)))) }
def C6n : List XO := [O1 1 (.boxF (.t 0)),O1 2 (.mv (c9 0))]
def C6o : List XO := [O1 9 (.fldA 0 (.tf 1)),O1 10 (.load false 1 (.tf 9)),O1 11 (.call "newel/ways.within" [.t 10, (c9 1), (c9 10)]),O1 12 (.un .not (.t 11)),O3 13 12,O9 14 13 false (.fldA 1 (.tf 1)),O9 15 13 false (.load false 1 (.tf 14)),O9 16 13 false (.len false (.t 15)),O9 17 13 false (.bin .gtr .no (.t 16) (c9 24)),O1 18 (.pick (.t 13) (.c (.bool true)) (.t 17))]
def C6y : List XO := [O1 2 (.mv (c9 80))]
def C62 : List XO := [O1 19 (.callw "#mk" []),O3 3 19]
def C63 : List XO := [O1 20 (.fldA 1 (.tf 1)),O1 21 (.load false 1 (.tf 20)),O8 22 21,O1 23 (.mv (c9 0))]
def C64 : List XO := [O1 24 (.bin .lss .no (.t 23) (.t 22))]
def C65 : List XO := [O7 25 7 21 23,O6 26 7 25,O1 5 (.alloc [(.int .i64 0), (.int .i64 0), (.int .i64 0), (.int .i64 0), (.int .i64 0), (.int .i64 0), (.int .i64 0)]),O2 (.store 7 (.t 5) (.t 26))]
def C66 : List XO := [O6 27 7 5,O1 28 (.fldA 0 (.tf 1)),O1 29 (.load false 1 (.tf 28)),O1 30 (.call "newel/ways.passage" [.t 27, .t 29]),O1 31 (.un .not (.t 30))]
def C67 : List XO := [O1 2 (.mv (c9 80))]
def C68 : List XO := [O3 32 3,O5 33 5 5,O4 34 1 33,O1 35 (.callw "#li" [.t 32, .t 34, (c9 0), (c9 0)]),O1 36 (.bin .add .no (.t 35) (c9 1)),O2 (.callw "#pi" [.t 32, .t 34, .t 36, (c9 0)])]
def C6p : List XO := [O5 37 5 5,O4 38 1 37,O1 39 (.bin .geq .no (.t 38) (c9 0)),O3 40 39,O9 41 40 true (.mv (.t 3)),O9 42 40 true (.fldA 5 (.t 5)),O9 43 40 true (.load false 1 (.t 42)),O9 44 40 true (.callw "#li" [.t 41, .t 43, (c9 0), (c9 0)]),O9 45 40 true (.bin .gtr .no (.t 44) (c9 1)),O1 46 (.pick (.t 40) (.t 45) (.c (.bool false)))]
def C6q : List XO := [O1 2 (.mv (c9 80))]
def C6r : List XO := [O1 47 (.bin .add .no (.t 23) (c9 1)),O3 23 47]
def C1f : XCode :=
 (.seq (.reg C64) (.seq (.cond (.t 24) .skip (.exit 0)) (.seq (.block 1 (.seq (.reg C65) (.seq (.seq (.reg C66) (.cond (.t 31) (.seq (.reg C67) .ret) .skip)) (.seq (.reg C68) (.seq (.reg C6p) (.cond (.t 46) (.seq (.reg C6q) .ret) .skip)))))) (.reg C6r))))
def C6s : List XO := [O1 6 (.mv (.c (.int .i64 (-1))))]
def C6t : List XO := [O1 48 (.fldA 2 (.tf 1)),O1 49 (.load false 1 (.tf 48)),O8 50 49,O1 51 (.mv (c9 0))]
def C6u : List XO := [O1 52 (.bin .lss .no (.t 51) (.t 50))]
def C6v : List XO := [O7 53 1 49 51,O4 54 1 53,O3 8 54]
def C6w : List XO := [O3 55 8,O3 56 6,O1 57 (.bin .add .no (.t 56) (c9 1)),O1 58 (.fldA 0 (.tf 1)),O1 59 (.load false 1 (.tf 58)),O1 60 (.bin .sub .no (.t 59) (c9 1)),O1 61 (.call "newel/ways.within" [.t 55, .t 57, .t 60]),O1 62 (.un .not (.t 61))]
def C6x : List XO := [O1 2 (.mv (c9 80))]
def C6z : List XO := [O3 63 8,O3 6 63]
def C60 : List XO := [O1 64 (.bin .add .no (.t 51) (c9 1)),O3 51 64]
def C1g : XCode :=
 (.seq (.reg C6u) (.seq (.cond (.t 52) .skip (.exit 2)) (.seq (.block 3 (.seq (.reg C6v) (.seq (.seq (.reg C6w) (.cond (.t 62) (.seq (.reg C6x) .ret) .skip)) (.reg C6z)))) (.reg C60))))
def C61 : List XO := [O1 2 (.mv (c9 0))]
def x_ways_Check : XFunc := { np := 1, res := [.t 2], body :=
 (.seq (.reg C6n) (.seq (.seq (.reg C6o) (.cond (.t 18) (.seq (.reg C6y) .ret) .skip)) (.seq (.reg C62) (.seq (.seq (.reg C63) (.block 0 (.loop C1f))) (.seq (.reg C6s) (.seq (.seq (.reg C6t) (.block 2 (.loop C1g))) (.seq (.reg C61) .ret))))))) }
def C8f : List XO := [O1 6 (.mv (.c (.bool false)))]
def C8g : List XO := [O3 7 0,O3 8 1,O1 9 (.bin .geq .no (.t 7) (.t 8)),O3 10 9,O9 11 10 true (.mv (.t 0)),O9 12 10 true (.mv (.t 2)),O9 13 10 true (.bin .leq .no (.t 11) (.t 12)),O1 14 (.pick (.t 10) (.t 13) (.c (.bool false))),O3 6 14]
def x_ways_within : XFunc := { np := 3, res := [.t 6], body :=
 (.seq (.reg C8f) (.seq (.reg C8g) .ret)) }
def C77 : List XO := [O1 2 (.boxF (.t 0)),O1 4 (.mv (.c (.bool false)))]
def C78 : List XO := [O3 7 1,O8 8 7,O1 9 (.mv (c9 0))]
def C79 : List XO := [O1 10 (.bin .lss .no (.t 9) (.t 8))]
def C8a : List XO := [O7 11 1 7 9,O4 12 1 11,O3 6 12]
def C8b : List XO := [O3 13 6,O1 14 (.fldA 0 (.tf 2)),O1 15 (.load false 1 (.tf 14)),O1 16 (.bin .sub .no (.t 15) (c9 1)),O1 17 (.call "newel/ways.within" [.t 13, (c9 0), .t 16]),O1 18 (.un .not (.t 17))]
def C8c : List XO := [O1 4 (.mv (.c (.bool false)))]
def C8d : List XO := [O1 19 (.bin .add .no (.t 9) (c9 1)),O3 9 19]
def C1i : XCode :=
 (.seq (.reg C79) (.seq (.cond (.t 10) .skip (.exit 0)) (.seq (.block 1 (.seq (.reg C8a) (.seq (.reg C8b) (.cond (.t 18) (.seq (.reg C8c) .ret) .skip)))) (.reg C8d))))
def C8e : List XO := [O1 4 (.mv (.c (.bool true)))]
def x_ways_place : XFunc := { np := 2, res := [.t 4], body :=
 (.seq (.reg C77) (.seq (.seq (.reg C78) (.block 0 (.loop C1i))) (.seq (.reg C8e) .ret))) }
def C22 : List XO := [O1 2 (.boxF (.t 0)),O1 4 (.mv (.c (.slice none 0 0)))]
def C23 : List XO := [O1 13 (.fldA 0 (.tf 2)),O1 14 (.fldA 0 (.tf 13)),O1 15 (.load false 1 (.tf 14)),O1 16 (.mksl 1 [(.int .i64 0)] 8 (.t 15) (.t 15)),O3 5 16]
def C3e : List XO := [O3 17 5,O8 18 17,O1 19 (.mv (c9 0))]
def C3l : List XO := [O1 20 (.bin .lss .no (.t 19) (.t 18))]
def C3m : List XO := [O3 21 19,O3 6 21]
def C3n : List XO := [O3 22 5,O3 23 6,O7 24 1 22 23,O2 (.store 1 (.t 24) (.c (.int .i64 (-1))))]
def C3o : List XO := [O1 25 (.bin .add .no (.t 19) (c9 1)),O3 19 25]
def C06 : XCode :=
 (.seq (.reg C3l) (.seq (.cond (.t 20) .skip (.exit 0)) (.seq (.block 1 (.seq (.reg C3m) (.reg C3n))) (.reg C3o))))
def C3p : List XO := [O3 26 5,O3 27 1,O7 28 1 26 27,O2 (.store 1 (.t 28) (c9 0))]
def C3q : List XO := [O1 7 (.mv (.c (.bool true)))]
def C24 : List XO := [O3 29 7]
def C25 : List XO := [O1 7 (.mv (.c (.bool false)))]
def C26 : List XO := [O1 30 (.fldA 0 (.tf 2)),O1 31 (.fldA 0 (.tf 30)),O1 32 (.load false 1 (.tf 31)),O1 33 (.mv (c9 0))]
def C27 : List XO := [O1 34 (.bin .lss .no (.t 33) (.t 32))]
def C28 : List XO := [O3 35 33,O3 8 35]
def C29 : List XO := [O1 36 (.fldA 0 (.tf 2)),O1 37 (.fldA 1 (.tf 36)),O1 38 (.load false 1 (.tf 37)),O8 39 38,O1 40 (.mv (c9 0))]
def C3a : List XO := [O1 41 (.bin .lss .no (.t 40) (.t 39))]
def C3b : List XO := [O7 42 7 38 40,O6 43 7 42,O1 10 (.alloc [(.int .i64 0), (.int .i64 0), (.int .i64 0), (.int .i64 0), (.int .i64 0), (.int .i64 0), (.int .i64 0)]),O2 (.store 7 (.t 10) (.t 43))]
def C3c : List XO := [O1 44 (.load true 5 (.tf 2)),O6 45 7 10,O3 46 8,O1 47 (.call "(newel/ways.level).other" [.t 44, .t 45, .t 46]),O3 11 47]
def C3d : List XO := [O3 48 11,O1 49 (.bin .lss .no (.t 48) (c9 0)),O3 50 49,O9 51 50 false (.mv (.t 5)),O9 52 50 false (.mv (.t 11)),O9 53 50 false (.ixA 1 (.t 51) (.t 52)),O9 54 50 false (.load false 1 (.t 53)),O9 55 50 false (.bin .lss .no (.t 54) (c9 0)),O1 56 (.pick (.t 50) (.c (.bool true)) (.t 55))]
def C3f : List XO := [O3 57 5,O3 58 11,O7 59 1 57 58,O4 60 1 59,O5 61 3 10,O4 62 1 61,O1 63 (.bin .add .no (.t 60) (.t 62)),O3 12 63]
def C3g : List XO := [O3 64 5,O3 65 8,O7 66 1 64 65,O4 67 1 66,O1 68 (.bin .lss .no (.t 67) (c9 0)),O3 69 68,O9 70 69 false (.mv (.t 12)),O9 71 69 false (.mv (.t 5)),O9 72 69 false (.mv (.t 8)),O9 73 69 false (.ixA 1 (.t 71) (.t 72)),O9 74 69 false (.load false 1 (.t 73)),O9 75 69 false (.bin .lss .no (.t 70) (.t 74)),O1 76 (.pick (.t 69) (.c (.bool true)) (.t 75))]
def C3h : List XO := [O3 77 5,O3 78 8,O3 79 12,O7 80 1 77 78,O2 (.store 1 (.t 80) (.t 79)),O1 7 (.mv (.c (.bool true)))]
def C3i : List XO := [O1 81 (.bin .add .no (.t 40) (c9 1)),O3 40 81]
def C03 : XCode :=
 (.seq (.reg C3a) (.seq (.cond (.t 41) .skip (.exit 6)) (.seq (.block 7 (.seq (.reg C3b) (.seq (.reg C3c) (.seq (.seq (.reg C3d) (.cond (.t 56) (.exit 7) .skip)) (.seq (.reg C3f) (.seq (.reg C3g) (.cond (.t 76) (.reg C3h) .skip))))))) (.reg C3i))))
def C3j : List XO := [O1 82 (.bin .add .no (.t 33) (c9 1)),O3 33 82]
def C04 : XCode :=
 (.seq (.reg C27) (.seq (.cond (.t 34) .skip (.exit 4)) (.seq (.block 5 (.seq (.reg C28) (.seq (.reg C29) (.block 6 (.loop C03))))) (.reg C3j))))
def C05 : XCode :=
 (.seq (.seq (.reg C24) (.cond (.t 29) .skip (.exit 2))) (.block 3 (.seq (.reg C25) (.seq (.reg C26) (.block 4 (.loop C04))))))
def C3k : List XO := [O3 83 5,O3 4 83]
def x__ways_level__far : XFunc := { np := 2, res := [.t 4], body :=
 (.seq (.reg C22) (.seq (.reg C23) (.seq (.seq (.reg C3e) (.block 0 (.loop C06))) (.seq (.reg C3p) (.seq (.seq (.reg C3q) (.block 2 (.loop C05))) (.seq (.reg C3k) .ret)))))) }
def o3v : List XO := [O1 4 (.mv (.c (.bool false)))]
def o3w : List XO := [O3 5 0,O3 6 1,O1 7 (.call "slices.IndexFunc[[]int,int]" [.t 5, .t 6]),O1 8 (.bin .geq .no (.t 7) (c9 0)),O3 4 8]
def x_slices_ContainsFunc___int_int_ : XFunc := { np := 2, res := [.t 4], body :=
 (.seq (.reg o3v) (.seq (.reg o3w) .ret)) }
def v9k : List XO := [O1 2 (.mv (c9 0))]
def v9l : List XO := [O3 3 0,O1 4 (.bin .eql .no (.t 3) (.c (.int .u64 0)))]
def v9m : List XO := [O1 2 (.mv (c9 64))]
def v9n : List XO := [O3 5 0,O3 6 0,O1 7 (.un .neg (.t 6)),O1 8 (.bin .and .no (.t 5) (.t 7)),O1 9 (.bin .mul .no (.t 8) (.c (.int .u64 285870213051353865))),O1 10 (.bin .shr .no (.t 9) (.c (.int .u64 58))),O1 11 (.ixP 1 64 (.g 1 u0n) (.t 10)),O4 12 1 11,O1 13 (.cvtI .i64 (.t 12)),O3 2 13]
def x_math_bits_TrailingZeros64 : XFunc := { np := 1, res := [.t 2], body :=
 (.seq (.reg v9k) (.seq (.seq (.reg v9l) (.cond (.t 4) (.seq (.reg v9m) .ret) .skip)) (.seq (.reg v9n) .ret))) }
def v4y : List XO := [O1 3 (.mv (.c (.bool false)))]
def v4z : List XO := [O4 4 1 1,O3 5 0,O1 6 (.bin .shr .no (.t 4) (.t 5)),O1 7 (.bin .and .no (.t 6) (c9 1)),O1 8 (.bin .eql .no (.t 7) (c9 1)),O3 3 8]
def x_faults_explainedD1 : XFunc := { np := 2, res := [.t 3], body :=
 (.seq (.reg v4y) (.seq (.reg v4z) .ret)) }
def v85 : List XO := [O1 2 (.mv (c9 0))]
def v86 : List XO := [O3 3 0,O1 4 (.bin .shr .no (.t 3) (.c (.int .u64 1))),O1 5 (.bin .and .no (.t 4) (.c (.int .u64 6148914691236517205))),O3 6 0,O1 7 (.bin .and .no (.t 6) (.c (.int .u64 6148914691236517205))),O1 8 (.bin .add .no (.t 5) (.t 7)),O3 0 8]
def v87 : List XO := [O3 9 0,O1 10 (.bin .shr .no (.t 9) (.c (.int .u64 2))),O1 11 (.bin .and .no (.t 10) (.c (.int .u64 3689348814741910323))),O3 12 0,O1 13 (.bin .and .no (.t 12) (.c (.int .u64 3689348814741910323))),O1 14 (.bin .add .no (.t 11) (.t 13)),O3 0 14]
def v88 : List XO := [O3 15 0,O1 16 (.bin .shr .no (.t 15) (.c (.int .u64 4))),O3 17 0,O1 18 (.bin .add .no (.t 16) (.t 17)),O1 19 (.bin .and .no (.t 18) (.c (.int .u64 1085102592571150095))),O3 0 19]
def v89 : List XO := [O3 20 0,O3 21 0,O1 22 (.bin .shr .no (.t 21) (.c (.int .u64 8))),O1 23 (.bin .add .no (.t 20) (.t 22)),O3 0 23]
def v9a : List XO := [O3 24 0,O3 25 0,O1 26 (.bin .shr .no (.t 25) (.c (.int .u64 16))),O1 27 (.bin .add .no (.t 24) (.t 26)),O3 0 27]
def v9b : List XO := [O3 28 0,O3 29 0,O1 30 (.bin .shr .no (.t 29) (.c (.int .u64 32))),O1 31 (.bin .add .no (.t 28) (.t 30)),O3 0 31]
def v9c : List XO := [O3 32 0,O1 33 (.cvtI .i64 (.t 32)),O1 34 (.bin .and .no (.t 33) (c9 127)),O3 2 34]
def x_math_bits_OnesCount64 : XFunc := { np := 1, res := [.t 2], body :=
 (.seq (.reg v85) (.seq (.reg v86) (.seq (.reg v87) (.seq (.reg v88) (.seq (.reg v89) (.seq (.reg v9a) (.seq (.reg v9b) (.seq (.reg v9c) .ret)))))))) }
def w78 : List XO := [O1 10 (.mv (.c (.bool true)))]
def w79 : List XO := [O1 11 (.mv (.c (.bool true)))]
def w8k : List XO := [O3 21 2,O3 22 1,O1 23 (.bin .sub .no (.t 21) (.t 22)),O3 12 23]
def w8v : List XO := [O3 24 12,O1 25 (.bin .leq .no (.t 24) (c9 12))]
def w8x : List XO := [O3 26 0,O3 27 1,O3 28 2,O3 29 4,O1 30 (.callw "slices.insertionSortCmpFunc[int]" [.t 26, .t 27, .t 28, .t 29])]
def w8y : List XO := [O3 31 3,O1 32 (.bin .eql .no (.t 31) (c9 0))]
def w8z : List XO := [O3 33 0,O3 34 1,O3 35 2,O3 36 4,O1 37 (.callw "slices.heapSortCmpFunc[int]" [.t 33, .t 34, .t 35, .t 36])]
def w80 : List XO := [O3 38 10,O1 39 (.un .not (.t 38))]
def w81 : List XO := [O3 40 0,O3 41 1,O3 42 2,O3 43 4,O1 44 (.callw "slices.breakPatternsCmpFunc[int]" [.t 40, .t 41, .t 42, .t 43])]
def w82 : List XO := [O3 45 3,O1 46 (.bin .sub .no (.t 45) (c9 1)),O3 3 46]
def w8a : List XO := [O3 48 0,O3 49 1,O3 50 2,O3 51 4,O1 52 (.call "slices.choosePivotCmpFunc[int]" [.t 48, .t 49, .t 50, .t 51]),O3 47 52,O1 53 (.ext (.t 47) 0),O1 54 (.ext (.t 47) 1),O3 13 53,O3 14 54]
def w8b : List XO := [O3 55 14,O1 56 (.bin .eql .no (.t 55) (c9 2))]
def w8c : List XO := [O3 57 0,O3 58 1,O3 59 2,O3 60 4,O1 61 (.callw "slices.reverseRangeCmpFunc[int]" [.t 57, .t 58, .t 59, .t 60])]
def w8d : List XO := [O3 62 2,O1 63 (.bin .sub .no (.t 62) (c9 1)),O3 64 13,O3 65 1,O1 66 (.bin .sub .no (.t 64) (.t 65)),O1 67 (.bin .sub .no (.t 63) (.t 66)),O3 13 67]
def w8e : List XO := [O1 14 (.mv (c9 1))]
def w8f : List XO := [O3 68 10,O3 69 68,O9 70 69 true (.mv (.t 11)),O1 71 (.pick (.t 69) (.t 70) (.c (.bool false))),O3 72 71,O9 73 72 true (.mv (.t 14)),O9 74 72 true (.bin .eql .no (.t 73) (c9 1)),O1 75 (.pick (.t 72) (.t 74) (.c (.bool false)))]
def w8g : List XO := [O3 76 0,O3 77 1,O3 78 2,O3 79 4,O1 80 (.callw "slices.partialInsertionSortCmpFunc[int]" [.t 76, .t 77, .t 78, .t 79])]
def w8h : List XO := [O3 81 1,O1 82 (.bin .gtr .no (.t 81) (c9 0)),O3 83 82,O9 84 83 true (.mv (.t 4)),O9 85 83 true (.mv (.t 0)),O9 86 83 true (.mv (.t 1)),O9 87 83 true (.bin .sub .no (.t 86) (c9 1)),O9 88 83 true (.ixA 1 (.t 85) (.t 87)),O9 89 83 true (.load false 1 (.t 88)),O9 90 83 true (.mv (.t 0)),O9 91 83 true (.mv (.t 13)),O9 92 83 true (.ixA 1 (.t 90) (.t 91)),O9 93 83 true (.load false 1 (.t 92)),O9 94 83 true (.callv (.t 84) [.t 89, .t 93]),O9 95 83 true (.bin .lss .no (.t 94) (c9 0)),O9 96 83 true (.un .not (.t 95)),O1 97 (.pick (.t 83) (.t 96) (.c (.bool false)))]
def w8i : List XO := [O3 98 0,O3 99 1,O3 100 2,O3 101 13,O3 102 4,O1 103 (.callw "slices.partitionEqualCmpFunc[int]" [.t 98, .t 99, .t 100, .t 101, .t 102]),O3 15 103]
def w8j : List XO := [O3 104 15,O3 1 104]
def w8l : List XO := [O3 106 0,O3 107 1,O3 108 2,O3 109 13,O3 110 4,O1 111 (.callw "slices.partitionCmpFunc[int]" [.t 106, .t 107, .t 108, .t 109, .t 110]),O3 105 111,O1 112 (.ext (.t 105) 0),O1 113 (.ext (.t 105) 1),O3 16 112,O3 17 113]
def w8m : List XO := [O3 114 17,O3 11 114]
def w8n : List XO := [O3 115 16,O3 116 1,O1 117 (.bin .sub .no (.t 115) (.t 116)),O3 118 2,O3 119 16,O1 120 (.bin .sub .no (.t 118) (.t 119)),O3 18 117,O3 19 120]
def w8o : List XO := [O3 121 12,O1 122 (.bin .quo .no (.t 121) (c9 8)),O3 20 122]
def w8p : List XO := [O3 123 18,O3 124 19,O1 125 (.bin .lss .no (.t 123) (.t 124))]
def w8q : List XO := [O3 126 18,O3 127 20,O1 128 (.bin .geq .no (.t 126) (.t 127)),O3 10 128]
def w8r : List XO := [O3 129 0,O3 130 1,O3 131 16,O3 132 3,O3 133 4,O1 134 (.callw "slices.pdqsortCmpFunc[int]" [.t 129, .t 130, .t 131, .t 132, .t 133])]
def w8s : List XO := [O3 135 16,O1 136 (.bin .add .no (.t 135) (c9 1)),O3 1 136]
def w8t : List XO := [O3 137 19,O3 138 20,O1 139 (.bin .geq .no (.t 137) (.t 138)),O3 10 139]
def w8u : List XO := [O3 140 0,O3 141 16,O1 142 (.bin .add .no (.t 141) (c9 1)),O3 143 2,O3 144 3,O3 145 4,O1 146 (.callw "slices.pdqsortCmpFunc[int]" [.t 140, .t 142, .t 143, .t 144, .t 145])]
def w8w : List XO := [O3 147 16,O3 2 147]
def w83 : XCode :=
 (.block 1 (.seq (.reg w8k) (.seq (.seq (.reg w8v) (.cond (.t 25) (.seq (.reg w8x) .ret) .skip)) (.seq (.seq (.reg w8y) (.cond (.t 32) (.seq (.reg w8z) .ret) .skip)) (.seq (.seq (.reg w80) (.cond (.t 39) (.seq (.reg w81) (.reg w82)) .skip)) (.seq (.reg w8a) (.seq (.seq (.reg w8b) (.cond (.t 56) (.seq (.reg w8c) (.seq (.reg w8d) (.reg w8e))) .skip)) (.seq (.seq (.reg w8f) (.cond (.t 75) (.seq (.reg w8g) (.cond (.t 80) .ret .skip)) .skip)) (.seq (.seq (.reg w8h) (.cond (.t 97) (.seq (.reg w8i) (.seq (.reg w8j) (.exit 1))) .skip)) (.seq (.reg w8l) (.seq (.reg w8m) (.seq (.reg w8n) (.seq (.reg w8o) (.seq (.reg w8p) (.cond (.t 125) (.seq (.reg w8q) (.seq (.reg w8r) (.reg w8s))) (.seq (.reg w8t) (.seq (.reg w8u) (.reg w8w))))))))))))))))))
def x_slices_pdqsortCmpFunc_int_ : XFunc := { np := 5, res := [], body :=
 (.seq (.reg w78) (.seq (.reg w79) (.block 0 (.loop w83)))) }
def v80 : List XO := [O1 2 (.mv (c9 0))]
def v81 : List XO := [O3 3 0,O1 4 (.cvtI .u32 (.t 3)),O1 5 (.call "math/bits.Len32" [.t 4]),O3 2 5]
def v82 : List XO := [O3 6 0,O1 7 (.call "math/bits.Len64" [.t 6]),O3 2 7]
def x_math_bits_Len : XFunc := { np := 1, res := [.t 2], body :=
 (.seq (.reg v80) (.seq (.cond (.c (.bool false)) (.seq (.reg v81) .ret) .skip) (.seq (.reg v82) .ret))) }
def v2f : List XO := [O1 4 (.mv (c9 0))]
def v2g : List XO := [O3 7 0,O1 8 (.call "cmp.isNaN[int]" [.t 7]),O3 5 8]
def v2l : List XO := [O3 9 1,O1 10 (.call "cmp.isNaN[int]" [.t 9]),O3 6 10]
def v2m : List XO := [O3 11 5]
def v2n : List XO := [O3 12 6]
def v2o : List XO := [O1 4 (.mv (c9 0))]
def v2p : List XO := [O1 4 (.mv (.c (.int .i64 (-1))))]
def v2q : List XO := [O3 13 6]
def v2r : List XO := [O1 4 (.mv (c9 1))]
def v2s : List XO := [O3 14 0,O3 15 1,O1 16 (.bin .lss .no (.t 14) (.t 15))]
def v2h : List XO := [O1 4 (.mv (.c (.int .i64 (-1))))]
def v2i : List XO := [O3 17 0,O3 18 1,O1 19 (.bin .gtr .no (.t 17) (.t 18))]
def v2j : List XO := [O1 4 (.mv (c9 1))]
def v2k : List XO := [O1 4 (.mv (c9 0))]
def x_cmp_Compare_int_ : XFunc := { np := 2, res := [.t 4], body :=
 (.seq (.reg v2f) (.seq (.reg v2g) (.seq (.reg v2l) (.seq (.seq (.reg v2m) (.cond (.t 11) (.seq (.seq (.reg v2n) (.cond (.t 12) (.seq (.reg v2o) .ret) .skip)) (.seq (.reg v2p) .ret)) .skip)) (.seq (.seq (.reg v2q) (.cond (.t 13) (.seq (.reg v2r) .ret) .skip)) (.seq (.seq (.reg v2s) (.cond (.t 16) (.seq (.reg v2h) .ret) .skip)) (.seq (.seq (.reg v2i) (.cond (.t 19) (.seq (.reg v2j) .ret) .skip)) (.seq (.reg v2k) .ret)))))))) }
def C7u : List XO := [O1 2 (.boxF (.t 0)),O1 4 (.mv (.c (.bool false)))]
def C7v : List XO := [O1 5 (.fldA 0 (.tf 2)),O1 6 (.load false 1 (.tf 5)),O3 7 1,O1 8 (.bin .sub .no (.t 7) (c9 1)),O1 9 (.call "newel/ways.within" [.t 6, (c9 0), .t 8]),O1 10 (.un .not (.t 9)),O3 11 10,O9 12 11 false (.fldA 1 (.tf 2)),O9 13 11 false (.load false 1 (.tf 12)),O9 14 11 false (.mv (.t 1)),O9 15 11 false (.bin .sub .no (.t 14) (c9 1)),O9 16 11 false (.call "newel/ways.within" [.t 13, (c9 0), .t 15]),O9 17 11 false (.un .not (.t 16)),O1 18 (.pick (.t 11) (.c (.bool true)) (.t 17)),O3 19 18,O9 20 19 false (.fldA 0 (.tf 2)),O9 21 19 false (.load false 1 (.tf 20)),O9 22 19 false (.fldA 1 (.tf 2)),O9 23 19 false (.load false 1 (.tf 22)),O9 24 19 false (.bin .eql .no (.t 21) (.t 23)),O1 25 (.pick (.t 19) (.c (.bool true)) (.t 24)),O3 26 25,O9 27 26 false (.fldA 3 (.tf 2)),O9 28 26 false (.load false 1 (.tf 27)),O9 29 26 false (.call "newel/ways.within" [.t 28, (c9 1), (c9 20)]),O9 30 26 false (.un .not (.t 29)),O1 31 (.pick (.t 26) (.c (.bool true)) (.t 30)),O3 32 31,O9 33 32 false (.fldA 4 (.tf 2)),O9 34 32 false (.load false 1 (.tf 33)),O9 35 32 false (.call "newel/ways.within" [.t 34, (c9 1), (c9 50)]),O9 36 32 false (.un .not (.t 35)),O1 37 (.pick (.t 32) (.c (.bool true)) (.t 36))]
def C7z : List XO := [O1 4 (.mv (.c (.bool false)))]
def C70 : List XO := [O1 38 (.fldA 2 (.tf 2)),O1 39 (.load false 1 (.tf 38))]
def C71 : List XO := [O1 41 (.bin .eql .no (.t 39) (c9 1)),O3 40 41]
def C72 : List XO := [O1 42 (.bin .eql .no (.t 39) (c9 2)),O3 40 42]
def C73 : List XO := [O1 43 (.bin .eql .no (.t 39) (c9 5)),O3 40 43]
def C74 : List XO := [O1 44 (.fldA 5 (.tf 2)),O1 45 (.load false 1 (.tf 44)),O1 46 (.bin .eql .no (.t 45) (.c (.int .i64 (-1)))),O3 47 46,O9 48 47 true (.fldA 6 (.tf 2)),O9 49 47 true (.load false 1 (.tf 48)),O9 50 47 true (.bin .eql .no (.t 49) (c9 0)),O1 51 (.pick (.t 47) (.t 50) (.c (.bool false))),O3 4 51]
def C75 : List XO := [O1 53 (.bin .eql .no (.t 39) (c9 3)),O3 52 53]
def C76 : List XO := [O1 54 (.fldA 5 (.tf 2)),O1 55 (.load false 1 (.tf 54)),O1 56 (.call "newel/ways.within" [.t 55, (c9 0), (c9 11)]),O3 57 56,O9 58 57 true (.fldA 6 (.tf 2)),O9 59 57 true (.load false 1 (.tf 58)),O9 60 57 true (.call "newel/ways.within" [.t 59, (c9 1), (c9 20)]),O1 61 (.pick (.t 57) (.t 60) (.c (.bool false))),O3 4 61]
def C7w : List XO := [O1 63 (.bin .eql .no (.t 39) (c9 4)),O3 62 63]
def C7x : List XO := [O1 64 (.fldA 5 (.tf 2)),O1 65 (.load false 1 (.tf 64)),O1 66 (.call "newel/ways.within" [.t 65, (c9 0), (c9 11)]),O3 67 66,O9 68 67 true (.fldA 6 (.tf 2)),O9 69 67 true (.load false 1 (.tf 68)),O9 70 67 true (.bin .eql .no (.t 69) (c9 0)),O1 71 (.pick (.t 67) (.t 70) (.c (.bool false))),O3 4 71]
def C7y : List XO := [O1 4 (.mv (.c (.bool false)))]
def x_ways_passage : XFunc := { np := 2, res := [.t 4], body :=
 (.seq (.reg C7u) (.seq (.seq (.reg C7v) (.cond (.t 37) (.seq (.reg C7z) .ret) .skip)) (.seq (.seq (.reg C70) (.block 0 (.seq (.seq (.reg C71) (.cond (.t 40) .skip (.seq (.reg C72) (.cond (.t 40) .skip (.reg C73))))) (.cond (.t 40) (.seq (.reg C74) .ret) (.seq (.reg C75) (.cond (.t 52) (.seq (.reg C76) .ret) (.seq (.reg C7w) (.cond (.t 62) (.seq (.reg C7x) .ret) .skip)))))))) (.seq (.reg C7y) .ret)))) }
def C3t : List XO := [O1 3 (.boxF (.t 0)),O1 4 (.boxF (.t 1)),O1 6 (.mv (c9 0))]
def C3u : List XO := [O1 8 (.fldA 2 (.tf 4)),O1 9 (.load false 1 (.tf 8)),O1 10 (.bin .eql .no (.t 9) (c9 1)),O3 11 10,O9 12 11 false (.fldA 2 (.tf 4)),O9 13 11 false (.load false 1 (.tf 12)),O9 14 11 false (.bin .eql .no (.t 13) (c9 4)),O9 15 11 false (.mv (.t 14)),O9 16 15 true (.fldA 3 (.tf 3)),O9 17 15 true (.load false 1 (.tf 16)),O9 18 15 true (.fldA 5 (.tf 4)),O9 19 15 true (.load false 1 (.tf 18)),O9 20 15 true (.bin .shr .no (.t 17) (.t 19)),O9 21 15 true (.bin .and .no (.t 20) (c9 1)),O9 22 15 true (.bin .eql .no (.t 21) (c9 0)),O9 23 11 false (.pick (.t 15) (.t 22) (.c (.bool false))),O1 24 (.pick (.t 11) (.c (.bool true)) (.t 23)),O3 25 24,O9 26 25 false (.fldA 2 (.tf 4)),O9 27 25 false (.load false 1 (.tf 26)),O9 28 25 false (.bin .eql .no (.t 27) (c9 5)),O9 29 25 false (.mv (.t 28)),O9 30 29 true (.fldA 4 (.tf 3)),O9 31 29 true (.load false 1 (.tf 30)),O9 32 25 false (.pick (.t 29) (.t 31) (.c (.bool false))),O1 33 (.pick (.t 25) (.c (.bool true)) (.t 32)),O3 7 33]
def C3v : List XO := [O3 35 7,O1 36 (.un .not (.t 35)),O3 34 36]
def C3w : List XO := [O1 6 (.mv (.c (.int .i64 (-1))))]
def C3x : List XO := [O1 38 (.fldA 0 (.tf 4)),O1 39 (.load false 1 (.tf 38)),O3 40 2,O1 41 (.bin .eql .no (.t 39) (.t 40)),O3 37 41]
def C3y : List XO := [O1 42 (.fldA 1 (.tf 4)),O1 43 (.load false 1 (.tf 42)),O3 6 43]
def C3z : List XO := [O1 45 (.fldA 1 (.tf 4)),O1 46 (.load false 1 (.tf 45)),O3 47 2,O1 48 (.bin .eql .no (.t 46) (.t 47)),O3 44 48]
def C30 : List XO := [O1 49 (.fldA 0 (.tf 4)),O1 50 (.load false 1 (.tf 49)),O3 6 50]
def C31 : List XO := [O1 6 (.mv (.c (.int .i64 (-1))))]
def x__ways_level__other : XFunc := { np := 3, res := [.t 6], body :=
 (.seq (.reg C3t) (.seq (.reg C3u) (.seq (.block 0 (.seq (.reg C3v) (.cond (.t 34) (.seq (.reg C3w) .ret) (.seq (.reg C3x) (.cond (.t 37) (.seq (.reg C3y) .ret) (.seq (.reg C3z) (.cond (.t 44) (.seq (.reg C30) .ret) .skip))))))) (.seq (.reg C31) .ret)))) }
def o4j : List XO := [O1 4 (.mv (c9 0))]
def o4k : List XO := [O3 6 0,O8 7 6,O1 8 (.mv (c9 0))]
def o4l : List XO := [O1 9 (.bin .lss .no (.t 8) (.t 7))]
def o4m : List XO := [O3 10 8,O3 5 10]
def o4n : List XO := [O3 11 1,O3 12 0,O3 13 5,O7 14 1 12 13,O4 15 1 14,O1 16 (.callv (.t 11) [.t 15])]
def o4o : List XO := [O3 17 5,O3 4 17]
def o4p : List XO := [O1 18 (.bin .add .no (.t 8) (c9 1)),O3 8 18]
def g5d : XCode :=
 (.seq (.reg o4l) (.seq (.cond (.t 9) .skip (.exit 0)) (.seq (.block 1 (.seq (.reg o4m) (.seq (.reg o4n) (.cond (.t 16) (.seq (.reg o4o) .ret) .skip)))) (.reg o4p))))
def o4q : List XO := [O1 4 (.mv (.c (.int .i64 (-1))))]
def x_slices_IndexFunc___int_int_ : XFunc := { np := 2, res := [.t 4], body :=
 (.seq (.reg o4j) (.seq (.seq (.reg o4k) (.block 0 (.loop g5d))) (.seq (.reg o4q) .ret))) }
def w5l : List XO := [O3 10 1,O1 11 (.bin .add .no (.t 10) (c9 1)),O3 8 11]
def w5m : List XO := [O3 12 8,O3 13 2,O1 14 (.bin .lss .no (.t 12) (.t 13))]
def w5n : List XO := [O3 17 8,O3 9 17]
def w5o : List XO := [O3 18 9,O3 19 1,O1 20 (.bin .gtr .no (.t 18) (.t 19)),O3 21 20,O9 22 21 true (.mv (.t 3)),O9 23 21 true (.mv (.t 0)),O9 24 21 true (.mv (.t 9)),O9 25 21 true (.ixA 1 (.t 23) (.t 24)),O9 26 21 true (.load false 1 (.t 25)),O9 27 21 true (.mv (.t 0)),O9 28 21 true (.mv (.t 9)),O9 29 21 true (.bin .sub .no (.t 28) (c9 1)),O9 30 21 true (.ixA 1 (.t 27) (.t 29)),O9 31 21 true (.load false 1 (.t 30)),O9 32 21 true (.callv (.t 22) [.t 26, .t 31]),O9 33 21 true (.bin .lss .no (.t 32) (c9 0)),O1 34 (.pick (.t 21) (.t 33) (.c (.bool false)))]
def w5p : List XO := [O3 37 0,O3 38 9,O3 39 0,O3 40 9,O1 41 (.bin .sub .no (.t 40) (c9 1)),O3 42 0,O3 43 9,O1 44 (.bin .sub .no (.t 43) (c9 1)),O7 45 1 42 44,O4 46 1 45,O3 47 0,O3 48 9,O7 49 1 47 48,O4 50 1 49,O7 51 1 37 38,O2 (.store 1 (.t 51) (.t 46)),O7 52 1 39 41,O2 (.store 1 (.t 52) (.t 50))]
def w5q : List XO := [O3 35 9,O1 36 (.bin .sub .no (.t 35) (c9 1)),O3 9 36]
def w5s : XCode :=
 (.seq (.seq (.reg w5o) (.cond (.t 34) .skip (.exit 2))) (.seq (.block 3 (.reg w5p)) (.reg w5q)))
def w5r : List XO := [O3 15 8,O1 16 (.bin .add .no (.t 15) (c9 1)),O3 8 16]
def w5t : XCode :=
 (.seq (.seq (.reg w5m) (.cond (.t 14) .skip (.exit 0))) (.seq (.block 1 (.seq (.reg w5n) (.block 2 (.loop w5s)))) (.reg w5r)))
def x_slices_insertionSortCmpFunc_int_ : XFunc := { np := 4, res := [], body :=
 (.seq (.reg w5l) (.block 0 (.loop w5t))) }
def v8p : List XO := [O1 2 (.mv (c9 0))]
def v8q : List XO := [O3 3 0,O1 4 (.bin .geq .no (.t 3) (.c (.int .u64 4294967296)))]
def v8s : List XO := [O3 5 0,O1 6 (.bin .shr .no (.t 5) (.c (.int .u64 32))),O3 0 6]
def v8t : List XO := [O1 2 (.mv (c9 32))]
def v8u : List XO := [O3 7 0,O1 8 (.bin .geq .no (.t 7) (.c (.int .u64 65536)))]
def v8v : List XO := [O3 9 0,O1 10 (.bin .shr .no (.t 9) (.c (.int .u64 16))),O3 0 10]
def v8w : List XO := [O3 11 2,O1 12 (.bin .add .no (.t 11) (c9 16)),O3 2 12]
def v8x : List XO := [O3 13 0,O1 14 (.bin .geq .no (.t 13) (.c (.int .u64 256)))]
def v8y : List XO := [O3 15 0,O1 16 (.bin .shr .no (.t 15) (.c (.int .u64 8))),O3 0 16]
def v8z : List XO := [O3 17 2,O1 18 (.bin .add .no (.t 17) (c9 8)),O3 2 18]
def v8r : List XO := [O3 19 2,O3 20 0,O1 21 (.cvtI .u8 (.t 20)),O1 22 (.ixS (.c (.string (ByteArray.mk #[0, 1, 2, 2, 3, 3, 3, 3, 4, 4, 4, 4, 4, 4, 4, 4, 5, 5, 5, 5, 5, 5, 5, 5, 5, 5, 5, 5, 5, 5, 5, 5, 6, 6, 6, 6, 6, 6, 6, 6, 6, 6, 6, 6, 6, 6, 6, 6, 6, 6, 6, 6, 6, 6, 6, 6, 6, 6, 6, 6, 6, 6, 6, 6, 7, 7, 7, 7, 7, 7, 7, 7, 7, 7, 7, 7, 7, 7, 7, 7, 7, 7, 7, 7, 7, 7, 7, 7, 7, 7, 7, 7, 7, 7, 7, 7, 7, 7, 7, 7, 7, 7, 7, 7, 7, 7, 7, 7, 7, 7, 7, 7, 7, 7, 7, 7, 7, 7, 7, 7, 7, 7, 7, 7, 7, 7, 7, 7, 8, 8, 8, 8, 8, 8, 8, 8, 8, 8, 8, 8, 8, 8, 8, 8, 8, 8, 8, 8, 8, 8, 8, 8, 8, 8, 8, 8, 8, 8, 8, 8, 8, 8, 8, 8, 8, 8, 8, 8, 8, 8, 8, 8, 8, 8, 8, 8, 8, 8, 8, 8, 8, 8, 8, 8, 8, 8, 8, 8, 8, 8, 8, 8, 8, 8, 8, 8, 8, 8, 8, 8, 8, 8, 8, 8, 8, 8, 8, 8, 8, 8, 8, 8, 8, 8, 8, 8, 8, 8, 8, 8, 8, 8, 8, 8, 8, 8, 8, 8, 8, 8, 8, 8, 8, 8, 8, 8, 8, 8, 8, 8, 8, 8, 8, 8, 8, 8, 8, 8, 8, 8, 8, 8, 8, 8, 8, 8]))) (.t 21)),O1 23 (.cvtI .i64 (.t 22)),O1 24 (.bin .add .no (.t 19) (.t 23)),O3 2 24]
def x_math_bits_Len64 : XFunc := { np := 1, res := [.t 2], body :=
 (.seq (.reg v8p) (.seq (.seq (.reg v8q) (.cond (.t 4) (.seq (.reg v8s) (.reg v8t)) .skip)) (.seq (.seq (.reg v8u) (.cond (.t 8) (.seq (.reg v8v) (.reg v8w)) .skip)) (.seq (.seq (.reg v8x) (.cond (.t 14) (.seq (.reg v8y) (.reg v8z)) .skip)) (.seq (.reg v8r) .ret))))) }
def v2t : List XO := [O1 2 (.mv (.c (.bool false)))]
def v2u : List XO := [O3 3 0,O3 4 0,O1 5 (.bin .neq .no (.t 3) (.t 4)),O3 2 5]
def x_cmp_isNaN_int_ : XFunc := { np := 1, res := [.t 2], body :=
 (.seq (.reg v2t) (.seq (.reg v2u) .ret)) }
attribute [go_sem] C32 C33 C4d C4o C4y C42 C43 C44 C45 C46 C34 C35 C36 C37 C38 C39 C4a C4b C4c C4e C4f C4g C4h C4i C4j C4k C4l C4m C4n C4p C4q C4r C4s C4t C4u C4v C4w C4x C4z C40 C41 B5n B5o B5q B5r B5s B5t B5u B5v B5w B5x B5p C47 C48 C5j C5r C5s C5t C5u C5v C5w C5x C49 C5a C5b C5c C5d C5e C5f C5g C5h C5i C5k C5l C5m C5n C5o C5p C5q C69 C7a C7f C7g C7h C7i C7j C7k C7l C7m C7b C7c C7d C7e C57 C58 C6f C6g C6h C6i C6j C6k C6l C6m C59 C6a C6b C6c C6d C6e v53 v54 v6d v6e v6f v6g v6h v6i v6j v6k v55 v56 v57 v58 v59 v6a v6b v6c v5i v5j v5n v5o v5p v5q v5r v5s v5t v5u v5k v5l v5m v5w v5x v5y v5z v50 v51 C5y C5z C50 C51 C52 C53 C54 C55 C56 C7n C7o C7p C7q C7r C7s C7t C3r C3s v9o v9p v9q v7f v7g v40 v41 v43 v44 v45 v46 v47 v48 v49 v42 v9d v9e v9f w4b w4c v5g v5h w3w w3x w32 w33 w34 w35 w36 w37 w38 w39 w3y w3z w30 w31 C6n C6o C6y C62 C63 C64 C65 C66 C67 C68 C6p C6q C6r C6s C6t C6u C6v C6w C6x C6z C60 C61 C8f C8g C77 C78 C79 C8a C8b C8c C8d C8e C22 C23 C3e C3l C3m C3n C3o C3p C3q C24 C25 C26 C27 C28 C29 C3a C3b C3c C3d C3f C3g C3h C3i C3j C3k o3v o3w v9k v9l v9m v9n v4y v4z v85 v86 v87 v88 v89 v9a v9b v9c w78 w79 w8k w8v w8x w8y w8z w80 w81 w82 w8a w8b w8c w8d w8e w8f w8g w8h w8i w8j w8l w8m w8n w8o w8p w8q w8r w8s w8t w8u w8w v80 v81 v82 v2f v2g v2l v2m v2n v2o v2p v2q v2r v2s v2h v2i v2j v2k C7u C7v C7z C70 C71 C72 C73 C74 C75 C76 C7w C7x C7y C3t C3u C3v C3w C3x C3y C3z C30 C31 o4j o4k o4l o4m o4n o4o o4p o4q w5l w5m w5n w5o w5p w5q w5r v8p v8q v8s v8t v8u v8v v8w v8x v8y v8z v8r v2t v2u
end Go.Nw.Tp4
