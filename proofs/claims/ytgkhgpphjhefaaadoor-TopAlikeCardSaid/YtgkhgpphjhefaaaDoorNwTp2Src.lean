/- The functions of a seat, as the abstract machine has them. -/
import Derived.Test.YtgkhgpphjhefaaaDoorNwI
set_option linter.all false
namespace Go.Nw.Tp2
@[go_sem] def O3 (d a:Nat):XO:=⟨some d,none,.mv (.t a)⟩
@[go_sem] def O4 (d n a:Nat):XO:=⟨some d,none,.load false n (.t a)⟩
@[go_sem] def O5 (d n a:Nat):XO:=⟨some d,none,.fldA n (.t a)⟩
@[go_sem] def O6 (d n a:Nat):XO:=⟨some d,none,.load true n (.t a)⟩
@[go_sem] def O7 (d n a b:Nat):XO:=⟨some d,none,.ixA n (.t a) (.t b)⟩
@[go_sem] def O8 (d a:Nat):XO:=⟨some d,none,.len false (.t a)⟩
@[go_sem] def O9 (d g:Nat) (p:Bool) (x:XOp):XO:=⟨some d,some (g,p),x⟩
@[go_sem] def c9 (n:Int):X:=.c (.int .i64 n)
@[go_sem] def O1 (d:Nat) (x:XOp):XO:=⟨some d,none,x⟩
@[go_sem] def O2 (x:XOp):XO:=⟨none,none,x⟩
def b50:List (List UInt8):=[[97,110,121],[116,111],[122,101,114,111],[109,111,114,101],[108,101,115,115],[105,102],[121,101,115],[110,111]]
def b6h:List GC:=[.sl 1 (b50.map fun s=>[.string ⟨s.toArray⟩])]
def L2z:List XO:=[O1 3 (.boxF (.t 0)),O1 4 (.boxF (.t 1)),O1 5 (.boxF (.t 2)),O1 6 (.mv (.c (.bool false)))]
def L20:List XO:=[O1 27 (.load true 5 (.tf 3)),O1 28 (.fldA 0 (.tf 5)),O1 29 (.load false 1 (.tf 28)),O1 30 (.fldA 1 (.tf 5)),O1 31 (.load false 1 (.tf 30)),O1 32 (.fldA 2 (.tf 5)),O1 33 (.load false 1 (.tf 32)),O1 34 (.build [(.slice none 0 0),(.slice none 0 0),(.slice none 0 0),(.slice none 0 0),(.slice none 0 0),(.slice none 0 0),(.int .i64 0),(.slice none 0 0)] [(0,5,(.t 27)),(5,1,(.t 29)),(6,1,(.t 31)),(7,1,(.t 33))]),O1 7 (.alloc [(.slice none 0 0),(.slice none 0 0),(.slice none 0 0),(.slice none 0 0),(.slice none 0 0),(.slice none 0 0),(.int .i64 0),(.slice none 0 0)]),O2 (.store 8 (.t 7) (.t 34))]
def L3a:List XO:=[O1 35 (.load true 5 (.tf 4)),O1 36 (.fldA 0 (.tf 5)),O1 37 (.load false 1 (.tf 36)),O1 38 (.fldA 1 (.tf 5)),O1 39 (.load false 1 (.tf 38)),O1 40 (.fldA 2 (.tf 5)),O1 41 (.load false 1 (.tf 40)),O1 42 (.build [(.slice none 0 0),(.slice none 0 0),(.slice none 0 0),(.slice none 0 0),(.slice none 0 0),(.slice none 0 0),(.int .i64 0),(.slice none 0 0)] [(0,5,(.t 35)),(5,1,(.t 37)),(6,1,(.t 39)),(7,1,(.t 41))]),O1 8 (.alloc [(.slice none 0 0),(.slice none 0 0),(.slice none 0 0),(.slice none 0 0),(.slice none 0 0),(.slice none 0 0),(.int .i64 0),(.slice none 0 0)]),O2 (.store 8 (.t 8) (.t 42))]
def L3k:List XO:=[O6 43 8 7,O1 44 (.call "newel/newellaw10.Deep" [.t 43]),O3 45 44,O9 46 45 false (.load true 8 (.t 8)),O9 47 45 false (.call "newel/newellaw10.Deep" [.t 46]),O1 48 (.pick (.t 45) (.c (.bool true)) (.t 47)),O3 49 48,O9 50 49 false (.load true 8 (.t 7)),O9 51 49 false (.call "newel/newelref10.CheckAccident" [.t 50]),O9 52 49 false (.bin .neq .no (.t 51) (c9 0)),O1 53 (.pick (.t 49) (.c (.bool true)) (.t 52)),O3 54 53,O9 55 54 false (.load true 8 (.t 8)),O9 56 54 false (.call "newel/newelref10.CheckAccident" [.t 55]),O9 57 54 false (.bin .neq .no (.t 56) (c9 0)),O1 58 (.pick (.t 54) (.c (.bool true)) (.t 57)),O3 59 58,O9 60 59 false (.load true 8 (.t 7)),O9 61 59 false (.fldA 3 (.tf 5)),O9 62 59 false (.load true 3 (.tf 61)),O9 63 59 false (.call "newel/newelref10.IsTheory" [.t 60,.t 62]),O9 64 59 false (.un .not (.t 63)),O1 65 (.pick (.t 59) (.c (.bool true)) (.t 64)),O3 66 65,O9 67 66 false (.fldA 0 (.tf 5)),O9 68 66 false (.load false 1 (.tf 67)),O9 69 66 false (.call "newel/neweltop.shown" [.t 68]),O9 70 66 false (.un .not (.t 69)),O1 71 (.pick (.t 66) (.c (.bool true)) (.t 70))]
def L3t:List XO:=[O1 72 (.call "newel/neweltop.measures" []),O3 6 72]
def L3u:List XO:=[O1 9 (.mv (c9 0))]
def L3v:List XO:=[O3 73 9,O1 74 (.fldA 2 (.tf 5)),O1 75 (.load false 1 (.tf 74)),O8 76 75,O1 77 (.bin .lss .no (.t 73) (.t 76))]
def L3w:List XO:=[O1 80 (.fldA 2 (.tf 5)),O1 81 (.load false 1 (.tf 80)),O3 82 9,O7 83 4 81 82,O5 84 3 83,O4 85 1 84,O1 86 (.call "newel/neweltop.shown" [.t 85]),O1 87 (.un .not (.t 86))]
def L3x:List XO:=[O1 88 (.call "newel/neweltop.measures" []),O3 6 88]
def L3y:List XO:=[O3 78 9,O1 79 (.bin .add .no (.t 78) (c9 1)),O3 9 79]
def L2f:XCode :=
 (.seq (.seq (.reg L3v) (.cond (.t 77) .skip (.exit 0))) (.seq (.block 1 (.seq (.reg L3w) (.cond (.t 87) (.seq (.reg L3x) .ret) .skip))) (.reg L3y)))
def L21:List XO:=[O1 90 (.load true 5 (.tf 3)),O1 91 (.load true 5 (.tf 4)),O1 92 (.call "newel/control.Same" [.t 90,.t 91,(.c (.slice none 0 0))]),O3 89 92,O1 93 (.ext (.t 89) 0),O1 94 (.ext (.t 89) 1),O1 95 (.ext (.t 89) 2),O3 10 93,O3 11 94,O3 12 95]
def L22:List XO:=[O3 96 12,O1 97 (.bin .neq .no (.t 96) (c9 0)),O3 98 97,O9 99 98 false (.mv (.t 11)),O9 100 98 false (.un .not (.t 99)),O1 101 (.pick (.t 98) (.c (.bool true)) (.t 100))]
def L23:List XO:=[O3 102 12,O1 103 (.bin .eql .no (.t 102) (c9 0)),O3 104 103,O9 105 104 false (.mv (.t 12)),O9 106 104 false (.bin .eql .no (.t 105) (c9 1)),O1 107 (.pick (.t 104) (.c (.bool true)) (.t 106)),O3 108 107,O9 109 108 true (.call "newel/neweltop.measures" []),O1 110 (.pick (.t 108) (.t 109) (.c (.bool false))),O3 6 110]
def L24:List XO:=[O6 112 8 7,O1 113 (.fldA 3 (.tf 5)),O1 114 (.load true 3 (.tf 113)),O1 115 (.call "newel/faults.Possible" [.t 112,.t 114]),O3 111 115,O1 116 (.ext (.t 111) 0),O1 117 (.ext (.t 111) 1),O3 13 116,O3 14 117]
def L25:List XO:=[O6 119 8 8,O1 120 (.fldA 3 (.tf 5)),O1 121 (.load true 3 (.tf 120)),O1 122 (.call "newel/faults.Possible" [.t 119,.t 121]),O3 118 122,O1 123 (.ext (.t 118) 0),O1 124 (.ext (.t 118) 1),O3 15 123,O3 16 124]
def L26:List XO:=[O3 125 14,O1 126 (.bin .neq .no (.t 125) (c9 0)),O3 127 126,O9 128 127 false (.mv (.t 16)),O9 129 127 false (.bin .neq .no (.t 128) (c9 0)),O1 130 (.pick (.t 127) (.c (.bool true)) (.t 129)),O3 131 130,O9 132 131 false (.mv (.t 13)),O9 133 131 false (.mv (.t 15)),O9 134 131 false (.bin .neq .bool (.t 132) (.t 133)),O1 135 (.pick (.t 131) (.c (.bool true)) (.t 134))]
def L27:List XO:=[O1 6 (.mv (.c (.bool false)))]
def L28:List XO:=[O6 137 8 7,O1 138 (.fldA 3 (.tf 5)),O1 139 (.load true 3 (.tf 138)),O1 140 (.call "newel/faults.Course" [.t 137,.t 139]),O3 136 140,O1 141 (.ext (.t 136) 0),O1 142 (.ext (.t 136) 1),O3 17 141,O3 18 142]
def L29:List XO:=[O6 144 8 8,O1 145 (.fldA 3 (.tf 5)),O1 146 (.load true 3 (.tf 145)),O1 147 (.call "newel/faults.Course" [.t 144,.t 146]),O3 143 147,O1 148 (.ext (.t 143) 0),O1 149 (.ext (.t 143) 1),O3 19 148,O3 20 149]
def L3b:List XO:=[O3 150 18,O3 151 20,O1 152 (.bin .neq .no (.t 150) (.t 151)),O3 153 152,O9 154 153 false (.mv (.t 17)),O9 155 153 false (.len false (.t 154)),O9 156 153 false (.mv (.t 19)),O9 157 153 false (.len false (.t 156)),O9 158 153 false (.bin .neq .no (.t 155) (.t 157)),O1 159 (.pick (.t 153) (.c (.bool true)) (.t 158))]
def L3c:List XO:=[O1 6 (.mv (.c (.bool false)))]
def L3d:List XO:=[O1 21 (.mv (c9 0))]
def L3e:List XO:=[O3 160 21,O3 161 17,O8 162 161,O1 163 (.bin .lss .no (.t 160) (.t 162))]
def L3f:List XO:=[O3 166 17,O3 167 21,O7 168 1 166 167,O4 169 1 168,O3 170 19,O3 171 21,O7 172 1 170 171,O4 173 1 172,O1 174 (.bin .neq .no (.t 169) (.t 173))]
def L3g:List XO:=[O1 6 (.mv (.c (.bool false)))]
def L3h:List XO:=[O3 164 21,O1 165 (.bin .add .no (.t 164) (c9 1)),O3 21 165]
def L2g:XCode :=
 (.seq (.seq (.reg L3e) (.cond (.t 163) .skip (.exit 2))) (.seq (.block 3 (.seq (.reg L3f) (.cond (.t 174) (.seq (.reg L3g) .ret) .skip))) (.reg L3h)))
def L3i:List XO:=[O6 176 8 7,O1 177 (.call "newel/faults.Theories" [.t 176]),O3 175 177,O1 178 (.ext (.t 175) 0),O1 179 (.ext (.t 175) 1),O3 22 178,O3 23 179]
def L3j:List XO:=[O6 181 8 8,O1 182 (.call "newel/faults.Theories" [.t 181]),O3 180 182,O1 183 (.ext (.t 180) 0),O1 184 (.ext (.t 180) 1),O3 24 183,O3 25 184]
def L3l:List XO:=[O3 185 23,O1 186 (.bin .neq .no (.t 185) (c9 0)),O3 187 186,O9 188 187 false (.mv (.t 25)),O9 189 187 false (.bin .neq .no (.t 188) (c9 0)),O1 190 (.pick (.t 187) (.c (.bool true)) (.t 189)),O3 191 190,O9 192 191 false (.mv (.t 22)),O9 193 191 false (.len false (.t 192)),O9 194 191 false (.mv (.t 24)),O9 195 191 false (.len false (.t 194)),O9 196 191 false (.bin .neq .no (.t 193) (.t 195)),O1 197 (.pick (.t 191) (.c (.bool true)) (.t 196))]
def L3m:List XO:=[O1 6 (.mv (.c (.bool false)))]
def L3n:List XO:=[O1 26 (.mv (c9 0))]
def L3o:List XO:=[O3 198 26,O3 199 22,O8 200 199,O1 201 (.bin .lss .no (.t 198) (.t 200))]
def L3p:List XO:=[O3 204 22,O3 205 26,O7 206 3 204 205,O6 207 3 206,O3 208 24,O3 209 26,O7 210 3 208 209,O6 211 3 210,O1 212 (.bin .neq (.flat [.i,.i,.i]) (.t 207) (.t 211))]
def L3q:List XO:=[O1 6 (.mv (.c (.bool false)))]
def L3r:List XO:=[O3 202 26,O1 203 (.bin .add .no (.t 202) (c9 1)),O3 26 203]
def L2h:XCode :=
 (.seq (.seq (.reg L3o) (.cond (.t 201) .skip (.exit 4))) (.seq (.block 5 (.seq (.reg L3p) (.cond (.t 212) (.seq (.reg L3q) .ret) .skip))) (.reg L3r)))
def L3s:List XO:=[O1 213 (.call "newel/neweltop.measures" []),O3 6 213]
def x_neweltop_TopAlike:XFunc:={ np:=3,res:=[.t 6],body :=
 (.seq (.reg L2z) (.seq (.reg L20) (.seq (.reg L3a) (.seq (.seq (.reg L3k) (.cond (.t 71) (.seq (.reg L3t) .ret) .skip)) (.seq (.seq (.reg L3u) (.block 0 (.loop L2f))) (.seq (.reg L21) (.seq (.seq (.reg L22) (.cond (.t 101) (.seq (.reg L23) .ret) .skip)) (.seq (.reg L24) (.seq (.reg L25) (.seq (.seq (.reg L26) (.cond (.t 135) (.seq (.reg L27) .ret) .skip)) (.seq (.reg L28) (.seq (.reg L29) (.seq (.seq (.reg L3b) (.cond (.t 159) (.seq (.reg L3c) .ret) .skip)) (.seq (.seq (.reg L3d) (.block 2 (.loop L2g))) (.seq (.reg L3i) (.seq (.reg L3j) (.seq (.seq (.reg L3l) (.cond (.t 197) (.seq (.reg L3m) .ret) .skip)) (.seq (.seq (.reg L3n) (.block 4 (.loop L2h))) (.seq (.reg L3s) .ret))))))))))))))))))) }
def v7h:List XO:=[O1 1 (.boxF (.t 0)),O1 2 (.mv (.c (.bool false)))]
def v7i:List XO:=[O1 5 (.fldA 7 (.tf 1)),O1 6 (.load false 1 (.tf 5)),O8 7 6,O1 8 (.bin .gtr .no (.t 7) (c9 10))]
def v7k:List XO:=[O1 2 (.mv (.c (.bool true)))]
def v7l:List XO:=[O1 9 (.load true 8 (.tf 1)),O1 10 (.call "newel/newelref10.CheckAccident" [.t 9]),O1 11 (.bin .neq .no (.t 10) (c9 0))]
def v7m:List XO:=[O1 2 (.mv (.c (.bool false)))]
def v7n:List XO:=[O1 12 (.fldA 0 (.tf 1)),O1 13 (.fldA 3 (.tf 12)),O1 14 (.load false 1 (.tf 13)),O8 15 14,O3 3 15]
def v7o:List XO:=[O1 4 (.mv (c9 0))]
def v7p:List XO:=[O3 16 4,O1 17 (.fldA 0 (.tf 1)),O1 18 (.fldA 2 (.tf 17)),O1 19 (.load false 1 (.tf 18)),O8 20 19,O1 21 (.bin .lss .no (.t 16) (.t 20))]
def v7q:List XO:=[O3 24 3,O1 25 (.fldA 0 (.tf 1)),O1 26 (.fldA 2 (.tf 25)),O1 27 (.load false 1 (.tf 26)),O3 28 4,O7 29 2 27 28,O5 30 1 29,O4 31 1 30,O1 32 (.bin .add .no (.t 31) (c9 1)),O1 33 (.bin .mul .no (.t 24) (.t 32)),O3 3 33]
def v7r:List XO:=[O3 22 4,O1 23 (.bin .add .no (.t 22) (c9 1)),O3 4 23]
def u5w:XCode :=
 (.seq (.seq (.reg v7p) (.cond (.t 21) .skip (.exit 0))) (.seq (.block 1 (.reg v7q)) (.reg v7r)))
def v7j:List XO:=[O1 34 (.fldA 0 (.tf 1)),O1 35 (.fldA 0 (.tf 34)),O1 36 (.load false 1 (.tf 35)),O8 37 36,O1 38 (.bin .gtr .no (.t 37) (c9 2)),O3 39 38,O9 40 39 false (.mv (.t 3)),O9 41 39 false (.bin .gtr .no (.t 40) (c9 24)),O1 42 (.pick (.t 39) (.c (.bool true)) (.t 41)),O3 43 42,O9 44 43 false (.fldA 6 (.tf 1)),O9 45 43 false (.load false 1 (.tf 44)),O9 46 43 false (.bin .gtr .no (.t 45) (c9 6)),O1 47 (.pick (.t 43) (.c (.bool true)) (.t 46)),O3 48 47,O9 49 48 false (.fldA 7 (.tf 1)),O9 50 48 false (.load false 1 (.tf 49)),O9 51 48 false (.len false (.t 50)),O9 52 48 false (.bin .gtr .no (.t 51) (c9 5)),O1 53 (.pick (.t 48) (.c (.bool true)) (.t 52)),O3 2 53]
def x_l10_Deep:XFunc:={ np:=1,res:=[.t 2],body :=
 (.seq (.reg v7h) (.seq (.seq (.reg v7i) (.cond (.t 8) (.seq (.reg v7k) .ret) .skip)) (.seq (.seq (.reg v7l) (.cond (.t 11) (.seq (.reg v7m) .ret) .skip)) (.seq (.reg v7n) (.seq (.seq (.reg v7o) (.block 0 (.loop u5w))) (.seq (.reg v7j) .ret)))))) }
def v9r:List XO:=[O1 1 (.boxF (.t 0)),O1 2 (.mv (c9 0))]
def v9s:List XO:=[O1 8 (.fldA 5 (.tf 1)),O1 9 (.load false 1 (.tf 8)),O1 10 (.bsl 1 [.t 9]),O3 3 10]
def v93:List XO:=[O1 4 (.mv (c9 0))]
def v95:List XO:=[O3 11 4,O1 12 (.fldA 7 (.tf 1)),O1 13 (.load false 1 (.tf 12)),O8 14 13,O1 15 (.bin .lss .no (.t 11) (.t 14))]
def v96:List XO:=[O3 18 3,O1 19 (.fldA 7 (.tf 1)),O1 20 (.load false 1 (.tf 19)),O3 21 4,O7 22 4 20 21,O5 23 3 22,O4 24 1 23,O1 25 (.bsl 1 [.t 24]),O1 26 (.app 1 24 (.t 18) (.t 25)),O3 3 26]
def v97:List XO:=[O3 16 4,O1 17 (.bin .add .no (.t 16) (c9 1)),O3 4 17]
def u5z:XCode :=
 (.seq (.seq (.reg v95) (.cond (.t 15) .skip (.exit 0))) (.seq (.block 1 (.reg v96)) (.reg v97)))
def v98:List XO:=[O1 27 (.fldA 0 (.tf 1)),O1 28 (.load true 5 (.tf 27)),O3 29 3,O1 30 (.call "newel/newelref04.CheckConds" [.t 28,.t 29]),O3 5 30]
def v99:List XO:=[O3 31 5,O1 32 (.bin .neq .no (.t 31) (c9 0))]
def w0a:List XO:=[O3 33 5,O3 2 33]
def v9t:List XO:=[O1 34 (.fldA 6 (.tf 1)),O1 35 (.load false 1 (.tf 34)),O1 36 (.call "newel/newelref10.from" [.t 35,(c9 0),(c9 40)]),O1 37 (.un .not (.t 36))]
def v9u:List XO:=[O1 2 (.mv (c9 1))]
def v9v:List XO:=[O1 38 (.fldA 7 (.tf 1)),O1 39 (.load false 1 (.tf 38)),O8 40 39,O1 41 (.bin .gtr .no (.t 40) (c9 8))]
def v9w:List XO:=[O1 2 (.mv (c9 2))]
def v9x:List XO:=[O1 6 (.mv (c9 0))]
def v9y:List XO:=[O3 42 6,O1 43 (.fldA 7 (.tf 1)),O1 44 (.load false 1 (.tf 43)),O8 45 44,O1 46 (.bin .lss .no (.t 42) (.t 45))]
def v9z:List XO:=[O1 49 (.fldA 7 (.tf 1)),O1 50 (.load false 1 (.tf 49)),O3 51 6,O7 52 4 50 51,O6 53 4 52,O1 7 (.alloc [(.int .i64 0),(.int .i64 0),(.bool false),(.slice none 0 0)]),O2 (.store 4 (.t 7) (.t 53))]
def v90:List XO:=[O5 54 0 7,O4 55 1 54,O5 56 1 7,O4 57 1 56,O1 58 (.call "newel/newelref10.from" [.t 55,(c9 0),.t 57]),O1 59 (.un .not (.t 58)),O3 60 59,O9 61 60 false (.fldA 1 (.t 7)),O9 62 60 false (.load false 1 (.t 61)),O9 63 60 false (.fldA 6 (.tf 1)),O9 64 60 false (.load false 1 (.tf 63)),O9 65 60 false (.bin .geq .no (.t 62) (.t 64)),O1 66 (.pick (.t 60) (.c (.bool true)) (.t 65))]
def v91:List XO:=[O1 2 (.mv (c9 102))]
def v92:List XO:=[O3 47 6,O1 48 (.bin .add .no (.t 47) (c9 1)),O3 6 48]
def u5y:XCode :=
 (.seq (.seq (.reg v9y) (.cond (.t 46) .skip (.exit 2))) (.seq (.block 3 (.seq (.reg v9z) (.seq (.reg v90) (.cond (.t 66) (.seq (.reg v91) .ret) .skip)))) (.reg v92)))
def v94:List XO:=[O1 2 (.mv (c9 0))]
def x_r10_CheckAccident:XFunc:={ np:=1,res:=[.t 2],body :=
 (.seq (.reg v9r) (.seq (.reg v9s) (.seq (.seq (.reg v93) (.block 0 (.loop u5z))) (.seq (.reg v98) (.seq (.seq (.reg v99) (.cond (.t 32) (.seq (.reg w0a) .ret) .skip)) (.seq (.seq (.reg v9t) (.cond (.t 37) (.seq (.reg v9u) .ret) .skip)) (.seq (.seq (.reg v9v) (.cond (.t 41) (.seq (.reg v9w) .ret) .skip)) (.seq (.seq (.reg v9x) (.block 2 (.loop u5y))) (.seq (.reg v94) .ret))))))))) }
def v3n:List XO:=[O1 2 (.boxF (.t 0)),O1 3 (.boxF (.t 1)),O1 4 (.mv (.c (.bool false))),O1 5 (.mv (c9 0))]
def v3o:List XO:=[O1 9 (.load true 8 (.tf 2)),O1 10 (.load true 3 (.tf 3)),O1 11 (.call "newel/faults.both" [.t 9,.t 10]),O3 6 11]
def v3p:List XO:=[O3 12 6,O1 13 (.bin .neq .no (.t 12) (c9 0))]
def v3q:List XO:=[O3 14 6,O1 4 (.mv (.c (.bool false))),O3 5 14]
def v3r:List XO:=[O1 16 (.load true 8 (.tf 2)),O1 17 (.load true 3 (.tf 3)),O1 18 (.call "newel/faults.search" [.t 16,.t 17,(.c (.slice none 0 0))]),O3 15 18,O1 19 (.ext (.t 15) 0),O1 20 (.ext (.t 15) 1),O3 7 19,O3 8 20]
def v3s:List XO:=[O3 21 8,O3 4 21,O1 5 (.mv (c9 0))]
def x_faults_Possible:XFunc:={ np:=2,res:=[.t 4,.t 5],body :=
 (.seq (.reg v3n) (.seq (.seq (.reg v3o) (.seq (.reg v3p) (.cond (.t 13) (.seq (.reg v3q) .ret) .skip))) (.seq (.reg v3r) (.seq (.reg v3s) .ret)))) }
def v2v:List XO:=[O1 2 (.boxF (.t 0)),O1 3 (.boxF (.t 1)),O1 4 (.mv (.c (.slice none 0 0))),O1 5 (.mv (c9 0))]
def v2w:List XO:=[O1 9 (.load true 8 (.tf 2)),O1 10 (.load true 3 (.tf 3)),O1 11 (.call "newel/faults.both" [.t 9,.t 10]),O3 6 11]
def v2x:List XO:=[O3 12 6,O1 13 (.bin .neq .no (.t 12) (c9 0))]
def v2y:List XO:=[O3 14 6,O1 4 (.mv (.c (.slice none 0 0))),O3 5 14]
def v2z:List XO:=[O1 16 (.load true 8 (.tf 2)),O1 17 (.load true 3 (.tf 3)),O1 18 (.call "newel/faults.search" [.t 16,.t 17,(.c (.slice none 0 0))]),O3 15 18,O1 19 (.ext (.t 15) 0),O1 20 (.ext (.t 15) 1),O3 7 19,O3 8 20]
def v21:List XO:=[O3 21 8,O1 22 (.un .not (.t 21))]
def v22:List XO:=[O1 4 (.mv (.c (.slice none 0 0))),O1 5 (.mv (c9 3))]
def v23:List XO:=[O3 23 7,O3 4 23,O1 5 (.mv (c9 0))]
def x_faults_Course:XFunc:={ np:=2,res:=[.t 4,.t 5],body :=
 (.seq (.reg v2v) (.seq (.seq (.reg v2w) (.seq (.reg v2x) (.cond (.t 13) (.seq (.reg v2y) .ret) .skip))) (.seq (.reg v2z) (.seq (.seq (.reg v21) (.cond (.t 22) (.seq (.reg v22) .ret) .skip)) (.seq (.reg v23) .ret))))) }
def w08:List XO:=[O1 2 (.boxF (.t 0)),O1 3 (.boxF (.t 1)),O1 4 (.mv (.c (.bool false)))]
def w09:List XO:=[O1 5 (.fldA 0 (.tf 3)),O1 6 (.load false 1 (.tf 5)),O1 7 (.bin .eql .no (.t 6) (.c (.int .i64 (-1))))]
def w1a:List XO:=[O1 8 (.fldA 1 (.tf 3)),O1 9 (.load false 1 (.tf 8)),O1 10 (.bin .eql .no (.t 9) (c9 0)),O3 11 10,O9 12 11 true (.fldA 2 (.tf 3)),O9 13 11 true (.load false 1 (.tf 12)),O9 14 11 true (.bin .eql .no (.t 13) (c9 0)),O1 15 (.pick (.t 11) (.t 14) (.c (.bool false))),O3 4 15]
def w1b:List XO:=[O1 16 (.fldA 0 (.tf 3)),O1 17 (.load false 1 (.tf 16)),O1 18 (.fldA 0 (.tf 2)),O1 19 (.fldA 0 (.tf 18)),O1 20 (.load false 1 (.tf 19)),O8 21 20,O1 22 (.bin .sub .no (.t 21) (c9 1)),O1 23 (.call "newel/newelref10.from" [.t 17,(c9 0),.t 22]),O3 24 23,O9 25 24 true (.fldA 1 (.tf 3)),O9 26 24 true (.load false 1 (.tf 25)),O9 27 24 true (.call "newel/newelref10.from" [.t 26,(c9 0),(c9 1)]),O1 28 (.pick (.t 24) (.t 27) (.c (.bool false))),O3 29 28,O9 30 29 true (.fldA 2 (.tf 3)),O9 31 29 true (.load false 1 (.tf 30)),O9 32 29 true (.fldA 6 (.tf 2)),O9 33 29 true (.load false 1 (.tf 32)),O9 34 29 true (.bin .sub .no (.t 33) (c9 1)),O9 35 29 true (.call "newel/newelref10.from" [.t 31,(c9 0),.t 34]),O1 36 (.pick (.t 29) (.t 35) (.c (.bool false))),O3 4 36]
def x_r10_IsTheory:XFunc:={ np:=2,res:=[.t 4],body :=
 (.seq (.reg w08) (.seq (.seq (.reg w09) (.cond (.t 7) (.seq (.reg w1a) .ret) .skip)) (.seq (.reg w1b) .ret))) }
def L3z:List XO:=[O1 2 (.mv (.c (.bool false)))]
def L30:List XO:=[O1 3 (.mv (c9 0))]
def L32:List XO:=[O3 5 3,O3 6 0,O8 7 6,O1 8 (.bin .lss .no (.t 5) (.t 7))]
def L33:List XO:=[O1 4 (.mv (c9 0))]
def L34:List XO:=[O3 11 4,O3 12 0,O3 13 3,O7 14 1 12 13,O4 15 1 14,O8 16 15,O1 17 (.bin .lss .no (.t 11) (.t 16))]
def L35:List XO:=[O3 20 0,O3 21 3,O7 22 1 20 21,O4 23 1 22,O3 24 4,O7 25 4 23 24,O5 26 0 25,O4 27 1 26,O1 28 (.bin .neq .no (.t 27) (c9 1)),O3 29 28,O9 30 29 true (.mv (.t 0)),O9 31 29 true (.mv (.t 3)),O9 32 29 true (.ixA 1 (.t 30) (.t 31)),O9 33 29 true (.load false 1 (.t 32)),O9 34 29 true (.mv (.t 4)),O9 35 29 true (.ixA 4 (.t 33) (.t 34)),O9 36 29 true (.fldA 0 (.t 35)),O9 37 29 true (.load false 1 (.t 36)),O9 38 29 true (.bin .neq .no (.t 37) (c9 4)),O1 39 (.pick (.t 29) (.t 38) (.c (.bool false)))]
def L36:List XO:=[O1 2 (.mv (.c (.bool false)))]
def L37:List XO:=[O3 18 4,O1 19 (.bin .add .no (.t 18) (c9 1)),O3 4 19]
def L2j:XCode :=
 (.seq (.seq (.reg L34) (.cond (.t 17) .skip (.exit 2))) (.seq (.block 3 (.seq (.reg L35) (.cond (.t 39) (.seq (.reg L36) .ret) .skip))) (.reg L37)))
def L38:List XO:=[O3 9 3,O1 10 (.bin .add .no (.t 9) (c9 1)),O3 3 10]
def L2i:XCode :=
 (.seq (.seq (.reg L32) (.cond (.t 8) .skip (.exit 0))) (.seq (.block 1 (.seq (.reg L33) (.block 2 (.loop L2j)))) (.reg L38)))
def L31:List XO:=[O1 2 (.mv (.c (.bool true)))]
def x_neweltop_shown:XFunc:={ np:=1,res:=[.t 2],body :=
 (.seq (.reg L3z) (.seq (.seq (.reg L30) (.block 0 (.loop L2i))) (.seq (.reg L31) .ret))) }
def r44:List XO:=[O1 3 (.boxF (.t 0)),O1 4 (.boxF (.t 1)),O1 6 (.mv (.c (.slice none 0 0))),O1 7 (.mv (.c (.bool false))),O1 8 (.mv (c9 0))]
def r45:List XO:=[O1 20 (.load true 5 (.tf 3)),O1 21 (.call "newel/control.Check" [.t 20]),O3 8 21]
def r5g:List XO:=[O3 22 8,O1 23 (.bin .neq .no (.t 22) (c9 0))]
def r5r:List XO:=[O3 24 8,O1 6 (.mv (.c (.slice none 0 0))),O1 7 (.mv (.c (.bool false))),O3 8 24]
def r5w:List XO:=[O1 25 (.load true 5 (.tf 4)),O1 26 (.call "newel/control.Check" [.t 25]),O3 8 26]
def r5x:List XO:=[O3 27 8,O1 28 (.bin .neq .no (.t 27) (c9 0))]
def r5y:List XO:=[O3 29 8,O1 6 (.mv (.c (.slice none 0 0))),O1 7 (.mv (.c (.bool false))),O3 8 29]
def r5z:List XO:=[O1 30 (.load true 5 (.tf 3)),O3 31 2,O1 32 (.bsl 1 [.t 31]),O1 33 (.call "newel/control.check" [.t 30,.t 32]),O3 8 33]
def r50:List XO:=[O3 34 8,O1 35 (.bin .neq .no (.t 34) (c9 0))]
def r51:List XO:=[O3 36 8,O1 6 (.mv (.c (.slice none 0 0))),O1 7 (.mv (.c (.bool false))),O3 8 36]
def r46:List XO:=[O1 37 (.fldA 0 (.tf 3)),O1 38 (.load false 1 (.tf 37)),O1 39 (.fldA 0 (.tf 4)),O1 40 (.load false 1 (.tf 39)),O1 41 (.call "slices.Equal[[]string,string]" [.t 38,.t 40]),O1 42 (.un .not (.t 41)),O3 43 42,O9 44 43 false (.fldA 1 (.tf 3)),O9 45 43 false (.load false 1 (.tf 44)),O9 46 43 false (.fldA 1 (.tf 4)),O9 47 43 false (.load false 1 (.tf 46)),O9 48 43 false (.call "slices.Equal[[]string,string]" [.t 45,.t 47]),O9 49 43 false (.un .not (.t 48)),O1 50 (.pick (.t 43) (.c (.bool true)) (.t 49))]
def r47:List XO:=[O1 6 (.mv (.c (.slice none 0 0))),O1 7 (.mv (.c (.bool false))),O1 8 (.mv (c9 1))]
def r48:List XO:=[O1 51 (.load true 5 (.tf 3)),O1 52 (.call "newel/control.of" [.t 51]),O1 53 (.load true 5 (.tf 4)),O1 54 (.call "newel/control.of" [.t 53]),O1 9 (.alloc [(.slice none 0 0),(.slice none 0 0),(.slice none 0 0),(.slice none 0 0),(.slice none 0 0)]),O1 10 (.alloc [(.slice none 0 0),(.slice none 0 0),(.slice none 0 0),(.slice none 0 0),(.slice none 0 0)]),O2 (.store 5 (.t 9) (.t 52)),O2 (.store 5 (.t 10) (.t 54))]
def r49:List XO:=[O1 55 (.bsl 1 [(.c (.slice none 0 0))]),O3 11 55]
def r5a:List XO:=[O1 56 (.build [(.int .i64 0),(.int .i64 0),(.int .i64 0),(.int .i64 0),(.int .i64 0),(.int .i64 0)] []),O1 57 (.bsl 6 [.t 56]),O3 12 57]
def r5b:List XO:=[O1 58 (.callw "#mk" []),O1 59 (.build [(.int .i64 0),(.int .i64 0),(.int .i64 0),(.int .i64 0),(.int .i64 0),(.int .i64 0)] []),O2 (.callw "#pi" [.t 58,.t 59,(c9 0),(c9 6)]),O3 60 58,O3 13 60]
def r5c:List XO:=[O1 14 (.mv (c9 0))]
def r5d:List XO:=[O3 61 14,O3 62 12,O8 63 62,O1 64 (.bin .lss .no (.t 61) (.t 63))]
def r5e:List XO:=[O3 67 12,O3 68 14,O7 69 6 67 68,O6 70 6 69,O1 15 (.alloc [(.int .i64 0),(.int .i64 0),(.int .i64 0),(.int .i64 0),(.int .i64 0),(.int .i64 0)]),O2 (.store 6 (.t 15) (.t 70))]
def r5f:List XO:=[O1 71 (.fldA 3 (.tf 3)),O1 72 (.load false 1 (.tf 71)),O5 73 0 15,O5 74 0 73,O4 75 1 74,O7 76 2 72 75,O5 77 1 76,O4 78 1 77,O1 79 (.fldA 3 (.tf 4)),O1 80 (.load false 1 (.tf 79)),O5 81 3 15,O5 82 0 81,O4 83 1 82,O7 84 2 80 83,O5 85 1 84,O4 86 1 85,O1 87 (.bin .neq .no (.t 78) (.t 86))]
def r5h:List XO:=[O3 88 11,O3 89 14,O7 90 1 88 89,O4 91 1 90,O3 6 91,O1 7 (.mv (.c (.bool false))),O1 8 (.mv (c9 0))]
def r5i:List XO:=[O5 92 0 9,O6 93 5 92,O1 94 (.call "(newel/situation.Plant).All" [.t 93]),O1 95 (.mv (c9 0))]
def r5j:List XO:=[O1 96 (.bin .lss .no (.t 95) (.t 94))]
def r5k:List XO:=[O3 97 95,O3 16 97]
def r5l:List XO:=[O5 98 0 9,O6 99 5 98,O3 100 2,O5 101 0 15,O6 102 3 101,O3 103 16,O1 104 (.call "(newel/situation.Plant).Allowed" [.t 99,.t 100,.t 102,.t 103]),O1 105 (.un .not (.t 104))]
def r5m:List XO:=[O5 106 0 9,O6 107 5 106,O5 108 0 15,O6 109 3 108,O3 110 16,O1 111 (.call "(newel/situation.Plant).Step" [.t 107,.t 109,.t 110]),O5 112 0 10,O6 113 5 112,O5 114 3 15,O6 115 3 114,O3 116 16,O1 117 (.call "(newel/situation.Plant).Step" [.t 113,.t 115,.t 116]),O1 118 (.build [(.int .i64 0),(.int .i64 0),(.int .i64 0),(.int .i64 0),(.int .i64 0),(.int .i64 0)] [(0,3,(.t 111)),(3,3,(.t 117))]),O1 17 (.alloc [(.int .i64 0),(.int .i64 0),(.int .i64 0),(.int .i64 0),(.int .i64 0),(.int .i64 0)]),O2 (.store 6 (.t 17) (.t 118))]
def r5n:List XO:=[O3 120 13,O6 121 6 17,O1 122 (.callw "#lj" [.t 120,.t 121,(c9 0),(c9 6)]),O3 119 122,O1 123 (.ext (.t 119) 0),O1 124 (.ext (.t 119) 1),O3 18 123,O3 19 124]
def r5o:List XO:=[O3 125 19,O1 126 (.un .not (.t 125))]
def r5p:List XO:=[O3 127 13,O6 128 6 17,O3 129 12,O8 130 129,O2 (.callw "#pi" [.t 127,.t 128,.t 130,(c9 6)])]
def r5q:List XO:=[O3 131 12,O6 132 6 17,O1 133 (.bsl 6 [.t 132]),O1 134 (.app 6 48 (.t 131) (.t 133)),O3 12 134]
def r5s:List XO:=[O3 135 11,O3 136 11,O3 137 14,O7 138 1 136 137,O4 139 1 138,O1 140 (.call "slices.Clone[[]int,int]" [.t 139]),O3 141 16,O1 142 (.bsl 1 [.t 141]),O1 143 (.app 1 8 (.t 140) (.t 142)),O1 144 (.bsl 1 [.t 143]),O1 145 (.app 1 24 (.t 135) (.t 144)),O3 11 145]
def r5t:List XO:=[O1 146 (.bin .add .no (.t 95) (c9 1)),O3 95 146]
def r3d:XCode :=
 (.seq (.reg r5j) (.seq (.cond (.t 96) .skip (.exit 2)) (.seq (.block 3 (.seq (.reg r5k) (.seq (.seq (.reg r5l) (.cond (.t 105) (.exit 3) .skip)) (.seq (.reg r5m) (.seq (.reg r5n) (.seq (.reg r5o) (.cond (.t 126) (.seq (.reg r5p) (.seq (.reg r5q) (.seq (.reg r5s) .ghost))) .skip))))))) (.reg r5t))))
def r5u:List XO:=[O3 65 14,O1 66 (.bin .add .no (.t 65) (c9 1)),O3 14 66]
def r3e:XCode :=
 (.seq (.seq (.reg r5d) (.cond (.t 64) .skip (.exit 0))) (.seq (.block 1 (.seq (.reg r5e) (.seq (.seq (.reg r5f) (.cond (.t 87) (.seq (.reg r5h) .ret) .skip)) (.seq (.reg r5i) (.block 2 (.loop r3d)))))) (.reg r5u)))
def r5v:List XO:=[O1 6 (.mv (.c (.slice none 0 0))),O1 7 (.mv (.c (.bool true))),O1 8 (.mv (c9 0))]
def x_control_Same:XFunc:={ np:=3,res:=[.t 6,.t 7,.t 8],body :=
 (.seq (.reg r44) (.seq (.seq (.reg r45) (.seq (.reg r5g) (.cond (.t 23) (.seq (.reg r5r) .ret) .skip))) (.seq (.seq (.reg r5w) (.seq (.reg r5x) (.cond (.t 28) (.seq (.reg r5y) .ret) .skip))) (.seq (.seq (.reg r5z) (.seq (.reg r50) (.cond (.t 35) (.seq (.reg r51) .ret) .skip))) (.seq (.seq (.reg r46) (.cond (.t 50) (.seq (.reg r47) .ret) .skip)) (.seq (.reg r48) (.seq (.seq (.reg r49) .ghost) (.seq (.reg r5a) (.seq (.reg r5b) (.seq (.seq (.reg r5c) (.block 0 (.loop r3e))) (.seq (.reg r5v) .ret))))))))))) }
def m4i:List XO:=[O1 2 (.boxF (.t 0)),O1 4 (.mv (c9 0))]
def m4j:List XO:=[O1 7 (.load true 5 (.tf 2)),O1 8 (.call "newel/newelref04.Check" [.t 7]),O3 5 8]
def m4l:List XO:=[O3 9 5,O1 10 (.bin .neq .no (.t 9) (c9 0))]
def m4m:List XO:=[O3 11 5,O3 4 11]
def m4n:List XO:=[O1 6 (.mv (c9 0))]
def m4o:List XO:=[O3 12 6,O3 13 1,O8 14 13,O1 15 (.bin .lss .no (.t 12) (.t 14))]
def m4p:List XO:=[O1 18 (.load true 5 (.tf 2)),O3 19 1,O3 20 6,O7 21 1 19 20,O4 22 1 21,O1 23 (.call "newel/newelref04.condition" [.t 18,.t 22,(.c (.bool true))]),O1 24 (.un .not (.t 23))]
def m4q:List XO:=[O1 4 (.mv (c9 42))]
def m4r:List XO:=[O3 16 6,O1 17 (.bin .add .no (.t 16) (c9 1)),O3 6 17]
def g4e:XCode :=
 (.seq (.seq (.reg m4o) (.cond (.t 15) .skip (.exit 0))) (.seq (.block 1 (.seq (.reg m4p) (.cond (.t 24) (.seq (.reg m4q) .ret) .skip))) (.reg m4r)))
def m4k:List XO:=[O1 4 (.mv (c9 0))]
def x_r04_CheckConds:XFunc:={ np:=2,res:=[.t 4],body :=
 (.seq (.reg m4i) (.seq (.reg m4j) (.seq (.seq (.reg m4l) (.cond (.t 10) (.seq (.reg m4m) .ret) .skip)) (.seq (.seq (.reg m4n) (.block 0 (.loop g4e))) (.seq (.reg m4k) .ret))))) }
def w1o:List XO:=[O1 6 (.mv (.c (.bool false)))]
def w1p:List XO:=[O3 7 0,O3 8 1,O1 9 (.bin .geq .no (.t 7) (.t 8)),O3 10 9,O9 11 10 true (.mv (.t 0)),O9 12 10 true (.mv (.t 2)),O9 13 10 true (.bin .leq .no (.t 11) (.t 12)),O1 14 (.pick (.t 10) (.t 13) (.c (.bool false))),O3 6 14]
def x_r10_from:XFunc:={ np:=3,res:=[.t 6],body :=
 (.seq (.reg w1o) (.seq (.reg w1p) .ret)) }
def m0l:List XO:=[O1 1 (.boxF (.t 0)),O1 2 (.mv (c9 0))]
def m0m:List XO:=[O1 3 (.load true 5 (.tf 1)),O1 4 (.call "newel/situation.Check" [.t 3]),O3 2 4]
def x_control_Check:XFunc:={ np:=1,res:=[.t 2],body :=
 (.seq (.reg m0l) (.seq (.reg m0m) .ret)) }
def m2z:List XO:=[O1 1 (.boxF (.t 0)),O1 2 (.alloc [(.slice none 0 0),(.slice none 0 0),(.slice none 0 0),(.slice none 0 0),(.slice none 0 0)])]
def m20:List XO:=[O1 3 (.load true 5 (.tf 1)),O1 4 (.build [(.slice none 0 0),(.slice none 0 0),(.slice none 0 0),(.slice none 0 0),(.slice none 0 0)] [(0,5,(.t 3))]),O1 5 (.build [(.slice none 0 0),(.slice none 0 0),(.slice none 0 0),(.slice none 0 0),(.slice none 0 0)] [(0,5,(.t 4))]),O2 (.store 5 (.t 2) (.t 5))]
def x_control_of:XFunc:={ np:=1,res:=[.cell 2 true 5],body :=
 (.seq (.reg m2z) (.seq (.reg m20) .ret)) }
def l9h:List XO:=[O1 3 (.boxF (.t 0)),O1 4 (.box (.t 1)),O1 6 (.alloc [(.int .i64 0),(.int .i64 0),(.int .i64 0)])]
def l9i:List XO:=[O1 11 (.fldA 0 (.tf 3)),O1 12 (.fldA 4 (.tf 11)),O1 13 (.load false 1 (.tf 12)),O8 14 13,O1 15 (.mv (c9 0))]
def l9m:List XO:=[O1 16 (.bin .lss .no (.t 15) (.t 14))]
def l9n:List XO:=[O7 17 4 13 15,O6 18 4 17,O1 8 (.alloc [(.int .i64 0),(.int .i64 0),(.slice none 0 0),(.slice none 0 0)]),O2 (.store 4 (.t 8) (.t 18))]
def l9o:List XO:=[O5 19 0 8,O4 20 1 19,O1 21 (.bin .neq .no (.t 20) (.c (.int .i64 (-1)))),O3 22 21,O9 23 22 true (.fldA 0 (.t 8)),O9 24 22 true (.load false 1 (.t 23)),O9 25 22 true (.fldA 0 (.t 4)),O9 26 22 true (.load false 1 (.t 25)),O9 27 22 true (.bin .neq .no (.t 24) (.t 26)),O1 28 (.pick (.t 22) (.t 27) (.c (.bool false))),O3 29 28,O9 30 29 false (.load true 5 (.tf 3)),O9 31 29 false (.fldA 2 (.t 8)),O9 32 29 false (.load false 1 (.t 31)),O9 33 29 false (.load true 3 (.t 4)),O9 34 29 false (.mv (.t 2)),O9 35 29 false (.call "(newel/situation.Plant).Holds" [.t 30,.t 32,.t 33,.t 34]),O9 36 29 false (.un .not (.t 35)),O1 37 (.pick (.t 29) (.c (.bool true)) (.t 36))]
def l9p:List XO:=[O5 38 3 8,O4 39 1 38,O8 40 39,O1 41 (.mv (c9 0))]
def l9q:List XO:=[O1 42 (.bin .lss .no (.t 41) (.t 40))]
def l9r:List XO:=[O7 43 2 39 41,O6 44 2 43,O1 10 (.alloc [(.int .i64 0),(.int .i64 0)]),O2 (.store 2 (.t 10) (.t 44))]
def l9s:List XO:=[O1 45 (.load true 5 (.tf 3)),O6 46 2 10,O1 47 (.callw "(newel/situation.Plant).set" [.t 45,.t 46,.t 4])]
def l9t:List XO:=[O1 48 (.bin .add .no (.t 41) (c9 1)),O3 41 48]
def g36:XCode :=
 (.seq (.reg l9q) (.seq (.cond (.t 42) .skip (.exit 2)) (.seq (.block 3 (.seq (.reg l9r) (.reg l9s))) (.reg l9t))))
def l9j:List XO:=[O5 49 1 8,O4 50 1 49,O5 51 0 4,O2 (.store 1 (.t 51) (.t 50))]
def l9k:List XO:=[O1 52 (.bin .add .no (.t 15) (c9 1)),O3 15 52]
def g37:XCode :=
 (.seq (.reg l9m) (.seq (.cond (.t 16) .skip (.exit 0)) (.seq (.block 1 (.seq (.reg l9n) (.seq (.seq (.reg l9o) (.cond (.t 37) (.exit 1) .skip)) (.seq (.seq (.reg l9p) (.block 2 (.loop g36))) (.seq (.reg l9j) (.exit 0)))))) (.reg l9k))))
def l9l:List XO:=[O6 53 3 4,O2 (.store 3 (.t 6) (.t 53))]
def x__situation_Plant__Step:XFunc:={ np:=3,res:=[.cell 6 true 3],body :=
 (.seq (.reg l9h) (.seq (.seq (.reg l9i) (.block 0 (.loop g37))) (.seq (.reg l9l) .ret))) }
def m9n:List XO:=[O1 6 (.mv (.c (.bool false)))]
def m9o:List XO:=[O3 7 0,O3 8 1,O1 9 (.bin .geq .no (.t 7) (.t 8)),O3 10 9,O9 11 10 true (.mv (.t 0)),O9 12 10 true (.mv (.t 2)),O9 13 10 true (.bin .leq .no (.t 11) (.t 12)),O1 14 (.pick (.t 10) (.t 13) (.c (.bool false))),O3 6 14]
def x_r04_from:XFunc:={ np:=3,res:=[.t 6],body :=
 (.seq (.reg m9n) (.seq (.reg m9o) .ret)) }
def v4g:List XO:=[O1 2 (.boxF (.t 0)),O1 3 (.boxF (.t 1)),O1 4 (.mv (c9 0))]
def v4h:List XO:=[O1 6 (.load true 8 (.tf 2)),O1 7 (.call "newel/faults.accident" [.t 6]),O3 5 7]
def v4i:List XO:=[O3 8 5,O1 9 (.bin .neq .no (.t 8) (c9 0))]
def v4j:List XO:=[O3 10 5,O3 4 10]
def v4k:List XO:=[O1 11 (.load true 8 (.tf 2)),O1 12 (.load true 3 (.tf 3)),O1 13 (.call "newel/faults.theory" [.t 11,.t 12]),O1 14 (.un .not (.t 13))]
def v4l:List XO:=[O1 4 (.mv (c9 1))]
def v4m:List XO:=[O1 4 (.mv (c9 0))]
def x_faults_both:XFunc:={ np:=2,res:=[.t 4],body :=
 (.seq (.reg v4g) (.seq (.seq (.reg v4h) (.seq (.reg v4i) (.cond (.t 9) (.seq (.reg v4j) .ret) .skip))) (.seq (.seq (.reg v4k) (.cond (.t 14) (.seq (.reg v4l) .ret) .skip)) (.seq (.reg v4m) .ret)))) }
def v62:List XO:=[O1 3 (.boxF (.t 0)),O1 4 (.boxF (.t 1)),O1 6 (.mv (.c (.slice none 0 0))),O1 7 (.mv (.c (.bool false)))]
def v63:List XO:=[O1 11 (.load true 8 (.tf 3)),O1 12 (.fldA 0 (.tf 3)),O1 13 (.load true 5 (.tf 12)),O1 14 (.build [(.slice none 0 0),(.slice none 0 0),(.slice none 0 0),(.slice none 0 0),(.slice none 0 0)] [(0,5,(.t 13))]),O1 15 (.load true 3 (.tf 4)),O1 16 (.callw "#mk" []),O1 17 (.build [(.slice none 0 0),(.slice none 0 0),(.slice none 0 0),(.slice none 0 0),(.slice none 0 0),(.slice none 0 0),(.int .i64 0),(.slice none 0 0),(.slice none 0 0),(.slice none 0 0),(.slice none 0 0),(.slice none 0 0),(.slice none 0 0),(.int .i64 0),(.int .i64 0),(.int .i64 0),(.nilFunc),(.nilFunc),(.map none),(.slice none 0 0)] [(0,8,(.t 11)),(8,5,(.t 14)),(13,3,(.t 15)),(18,1,(.t 16))]),O1 18 (.box (.t 17)),O3 8 18]
def v64:List XO:=[O3 19 8,O1 20 (.nilck (.t 19)),O5 21 16 20,O2 (.store 1 (.t 21) (.f "newel/faults.search$1"))]
def v65:List XO:=[O3 22 8,O1 23 (.nilck (.t 22)),O5 24 17 23,O2 (.store 1 (.t 24) (.f "newel/faults.search$2"))]
def v66:List XO:=[O3 25 2,O8 26 25,O1 27 (.mv (c9 0))]
def v67:List XO:=[O1 28 (.bin .lss .no (.t 27) (.t 26))]
def v68:List XO:=[O7 29 1 25 27,O4 30 1 29,O3 10 30]
def v69:List XO:=[O3 31 10,O3 32 8,O1 33 (.callw "#v" [.t 31,.t 32])]
def v7a:List XO:=[O1 34 (.bin .add .no (.t 27) (c9 1)),O3 27 34]
def u5v:XCode :=
 (.seq (.reg v67) (.seq (.cond (.t 28) .skip (.exit 0)) (.seq (.block 1 (.seq (.reg v68) (.reg v69))) (.reg v7a))))
def u5s:List XO:=[O3 35 8,O1 36 (.build [(.int .i64 0),(.int .i64 0),(.int .i64 0),(.int .i64 0),(.int .i64 0)] []),O1 37 (.callw "(*newel/faults.inquiry).course" [.t 35,.t 36]),O1 38 (.un .not (.t 37))]
def u5t:List XO:=[O1 6 (.mv (.c (.slice none 0 0))),O1 7 (.mv (.c (.bool false)))]
def u5u:List XO:=[O3 39 8,O1 40 (.nilck (.t 39)),O5 41 19 40,O4 42 1 41,O3 6 42,O1 7 (.mv (.c (.bool true)))]
def x_faults_search:XFunc:={ np:=3,res:=[.t 6,.t 7],body :=
 (.seq (.reg v62) (.seq (.reg v63) (.seq (.reg v64) (.seq (.reg v65) (.seq (.seq (.reg v66) (.block 0 (.loop u5v))) (.seq (.seq (.reg u5s) (.cond (.t 38) (.seq (.reg u5t) .ret) .skip)) (.seq (.reg u5u) .ret))))))) }
def v3t:List XO:=[O1 1 (.boxF (.t 0)),O1 2 (.mv (c9 0))]
def v3u:List XO:=[O1 8 (.fldA 0 (.tf 1)),O1 9 (.load true 5 (.tf 8)),O1 10 (.call "newel/situation.Check" [.t 9]),O3 3 10]
def v34:List XO:=[O3 11 3,O1 12 (.bin .neq .no (.t 11) (c9 0))]
def v39:List XO:=[O3 13 3,O3 2 13]
def v4a:List XO:=[O1 14 (.fldA 0 (.tf 1)),O1 15 (.load true 5 (.tf 14)),O1 16 (.fldA 5 (.tf 1)),O1 17 (.load false 1 (.tf 16)),O1 18 (.call "newel/situation.Asked" [.t 15,.t 17]),O1 19 (.un .not (.t 18))]
def v4b:List XO:=[O1 2 (.mv (c9 42))]
def v4c:List XO:=[O1 20 (.fldA 7 (.tf 1)),O1 21 (.load false 1 (.tf 20)),O8 22 21,O1 23 (.mv (c9 0))]
def v4d:List XO:=[O1 24 (.bin .lss .no (.t 23) (.t 22))]
def v4e:List XO:=[O7 25 4 21 23,O6 26 4 25,O1 5 (.alloc [(.int .i64 0),(.int .i64 0),(.bool false),(.slice none 0 0)]),O2 (.store 4 (.t 5) (.t 26))]
def v4f:List XO:=[O1 27 (.fldA 0 (.tf 1)),O1 28 (.load true 5 (.tf 27)),O5 29 3 5,O4 30 1 29,O1 31 (.call "newel/situation.Asked" [.t 28,.t 30]),O1 32 (.un .not (.t 31))]
def v3v:List XO:=[O1 2 (.mv (c9 42))]
def v3w:List XO:=[O1 33 (.bin .add .no (.t 23) (c9 1)),O3 23 33]
def u5q:XCode :=
 (.seq (.reg v4d) (.seq (.cond (.t 24) .skip (.exit 0)) (.seq (.block 1 (.seq (.reg v4e) (.seq (.reg v4f) (.cond (.t 32) (.seq (.reg v3v) .ret) .skip)))) (.reg v3w))))
def v3x:List XO:=[O1 34 (.fldA 6 (.tf 1)),O1 35 (.load false 1 (.tf 34)),O1 36 (.call "newel/faults.within" [.t 35,(c9 0),(c9 40)]),O1 37 (.un .not (.t 36))]
def v3y:List XO:=[O1 2 (.mv (c9 1))]
def v3z:List XO:=[O1 38 (.fldA 7 (.tf 1)),O1 39 (.load false 1 (.tf 38)),O8 40 39,O1 41 (.bin .gtr .no (.t 40) (c9 8))]
def v30:List XO:=[O1 2 (.mv (c9 2))]
def v31:List XO:=[O1 42 (.fldA 7 (.tf 1)),O1 43 (.load false 1 (.tf 42)),O8 44 43,O1 45 (.mv (c9 0))]
def v32:List XO:=[O1 46 (.bin .lss .no (.t 45) (.t 44))]
def v33:List XO:=[O7 47 4 43 45,O6 48 4 47,O1 7 (.alloc [(.int .i64 0),(.int .i64 0),(.bool false),(.slice none 0 0)]),O2 (.store 4 (.t 7) (.t 48))]
def v35:List XO:=[O5 49 0 7,O4 50 1 49,O1 51 (.bin .lss .no (.t 50) (c9 0)),O3 52 51,O9 53 52 false (.fldA 1 (.t 7)),O9 54 52 false (.load false 1 (.t 53)),O9 55 52 false (.fldA 0 (.t 7)),O9 56 52 false (.load false 1 (.t 55)),O9 57 52 false (.bin .lss .no (.t 54) (.t 56)),O1 58 (.pick (.t 52) (.c (.bool true)) (.t 57)),O3 59 58,O9 60 59 false (.fldA 1 (.t 7)),O9 61 59 false (.load false 1 (.t 60)),O9 62 59 false (.fldA 6 (.tf 1)),O9 63 59 false (.load false 1 (.tf 62)),O9 64 59 false (.bin .geq .no (.t 61) (.t 63)),O1 65 (.pick (.t 59) (.c (.bool true)) (.t 64))]
def v36:List XO:=[O1 2 (.mv (c9 102))]
def v37:List XO:=[O1 66 (.bin .add .no (.t 45) (c9 1)),O3 45 66]
def u5r:XCode :=
 (.seq (.reg v32) (.seq (.cond (.t 46) .skip (.exit 2)) (.seq (.block 3 (.seq (.reg v33) (.seq (.reg v35) (.cond (.t 65) (.seq (.reg v36) .ret) .skip)))) (.reg v37))))
def v38:List XO:=[O1 2 (.mv (c9 0))]
def x_faults_accident:XFunc:={ np:=1,res:=[.t 2],body :=
 (.seq (.reg v3t) (.seq (.seq (.reg v3u) (.seq (.reg v34) (.cond (.t 12) (.seq (.reg v39) .ret) .skip))) (.seq (.seq (.reg v4a) (.cond (.t 19) (.seq (.reg v4b) .ret) .skip)) (.seq (.seq (.reg v4c) (.block 0 (.loop u5q))) (.seq (.seq (.reg v3x) (.cond (.t 37) (.seq (.reg v3y) .ret) .skip)) (.seq (.seq (.reg v3z) (.cond (.t 41) (.seq (.reg v30) .ret) .skip)) (.seq (.seq (.reg v31) (.block 2 (.loop u5r))) (.seq (.reg v38) .ret)))))))) }
def o0l:List XO:=[O1 2 (.boxF (.t 0)),O1 4 (.mv (.c (.bool false)))]
def o0m:List XO:=[O3 7 1,O8 8 7,O1 9 (.bin .gtr .no (.t 8) (c9 6))]
def o0o:List XO:=[O1 4 (.mv (.c (.bool false)))]
def o0p:List XO:=[O3 10 1,O8 11 10,O1 12 (.mv (c9 0))]
def o0q:List XO:=[O1 13 (.bin .lss .no (.t 12) (.t 11))]
def o0r:List XO:=[O7 14 1 10 12,O4 15 1 14,O3 6 15]
def o0s:List XO:=[O3 16 6,O8 17 16,O1 18 (.bin .gtr .no (.t 17) (c9 6)),O3 19 18,O9 20 19 false (.mv (.t 6)),O9 21 19 false (.mkfn "newel/situation.Asked$1" [] [.t 2]),O9 22 19 false (.call "slices.ContainsFunc[newel/api.Term,newel/api.Literal]" [.t 20,.t 21]),O1 23 (.pick (.t 19) (.c (.bool true)) (.t 22))]
def o0t:List XO:=[O1 4 (.mv (.c (.bool false)))]
def o0u:List XO:=[O1 24 (.bin .add .no (.t 12) (c9 1)),O3 12 24]
def g45:XCode :=
 (.seq (.reg o0q) (.seq (.cond (.t 13) .skip (.exit 0)) (.seq (.block 1 (.seq (.reg o0r) (.seq (.reg o0s) (.cond (.t 23) (.seq (.reg o0t) .ret) .skip)))) (.reg o0u))))
def o0n:List XO:=[O1 4 (.mv (.c (.bool true)))]
def x_situation_Asked:XFunc:={ np:=2,res:=[.t 4],body :=
 (.seq (.reg o0l) (.seq (.seq (.reg o0m) (.cond (.t 9) (.seq (.reg o0o) .ret) .skip)) (.seq (.seq (.reg o0p) (.block 0 (.loop g45))) (.seq (.reg o0n) .ret)))) }
def v7b:List XO:=[O1 2 (.boxF (.t 0)),O1 3 (.boxF (.t 1)),O1 4 (.mv (.c (.bool false)))]
def v7c:List XO:=[O1 5 (.fldA 0 (.tf 3)),O1 6 (.load false 1 (.tf 5)),O1 7 (.bin .eql .no (.t 6) (.c (.int .i64 (-1))))]
def v7d:List XO:=[O1 8 (.fldA 1 (.tf 3)),O1 9 (.load false 1 (.tf 8)),O1 10 (.bin .eql .no (.t 9) (c9 0)),O3 11 10,O9 12 11 true (.fldA 2 (.tf 3)),O9 13 11 true (.load false 1 (.tf 12)),O9 14 11 true (.bin .eql .no (.t 13) (c9 0)),O1 15 (.pick (.t 11) (.t 14) (.c (.bool false))),O3 4 15]
def v7e:List XO:=[O1 16 (.fldA 0 (.tf 3)),O1 17 (.load false 1 (.tf 16)),O1 18 (.fldA 0 (.tf 2)),O1 19 (.fldA 0 (.tf 18)),O1 20 (.load false 1 (.tf 19)),O8 21 20,O1 22 (.bin .sub .no (.t 21) (c9 1)),O1 23 (.call "newel/faults.within" [.t 17,(c9 0),.t 22]),O3 24 23,O9 25 24 true (.fldA 1 (.tf 3)),O9 26 24 true (.load false 1 (.tf 25)),O9 27 24 true (.call "newel/faults.within" [.t 26,(c9 0),(c9 1)]),O1 28 (.pick (.t 24) (.t 27) (.c (.bool false))),O3 29 28,O9 30 29 true (.fldA 2 (.tf 3)),O9 31 29 true (.load false 1 (.tf 30)),O9 32 29 true (.fldA 6 (.tf 2)),O9 33 29 true (.load false 1 (.tf 32)),O9 34 29 true (.bin .sub .no (.t 33) (c9 1)),O9 35 29 true (.call "newel/faults.within" [.t 31,(c9 0),.t 34]),O1 36 (.pick (.t 29) (.t 35) (.c (.bool false))),O3 4 36]
def x_faults_theory:XFunc:={ np:=2,res:=[.t 4],body :=
 (.seq (.reg v7b) (.seq (.seq (.reg v7c) (.cond (.t 7) (.seq (.reg v7d) .ret) .skip)) (.seq (.reg v7e) .ret))) }
def v7f:List XO:=[O1 6 (.mv (.c (.bool false)))]
def v7g:List XO:=[O3 7 0,O3 8 1,O1 9 (.bin .geq .no (.t 7) (.t 8)),O3 10 9,O9 11 10 true (.mv (.t 0)),O9 12 10 true (.mv (.t 2)),O9 13 10 true (.bin .leq .no (.t 11) (.t 12)),O1 14 (.pick (.t 10) (.t 13) (.c (.bool false))),O3 6 14]
def x_faults_within:XFunc:={ np:=3,res:=[.t 6],body :=
 (.seq (.reg v7f) (.seq (.reg v7g) .ret)) }
def w9u:List XO:=[O1 1 (.box (.t 0)),O1 2 (.mv (.c (.nilFunc)))]
def w9v:List XO:=[O1 3 (.mkfn "newel/faults.with$1" [] [.t 1]),O3 2 3]
def l9f:List XO:=[O1 4 (.boxF (.t 0)),O1 6 (.boxF (.t 2)),O1 7 (.boxF (.t 3)),O1 8 (.mv (.c (.bool false)))]
def l9g:List XO:=[O3 9 1,O1 10 (.mkfn "(newel/situation.Plant).Holds$1" [] [.t 4,.t 6,.t 7]),O1 11 (.call "slices.ContainsFunc[newel/api.Cond,newel/api.Term]" [.t 9,.t 10]),O3 8 11]
def x__situation_Plant__Holds:XFunc:={ np:=4,res:=[.t 8],body :=
 (.seq (.reg l9f) (.seq (.reg l9g) .ret)) }
def m2o:List XO:=[O1 2 (.boxF (.t 0)),O1 4 (.mv (c9 0))]
def m2p:List XO:=[O1 8 (.load true 5 (.tf 2)),O1 9 (.call "newel/control.Check" [.t 8]),O3 5 9]
def m2r:List XO:=[O3 10 5,O1 11 (.bin .neq .no (.t 10) (c9 0))]
def m2s:List XO:=[O3 12 5,O3 4 12]
def m2t:List XO:=[O3 13 1,O8 14 13,O1 15 (.mv (c9 0))]
def m2u:List XO:=[O1 16 (.bin .lss .no (.t 15) (.t 14))]
def m2v:List XO:=[O7 17 1 13 15,O4 18 1 17,O3 7 18]
def m2w:List XO:=[O1 19 (.load true 5 (.tf 2)),O3 20 7,O1 21 (.call "newel/situation.Asked" [.t 19,.t 20]),O1 22 (.un .not (.t 21))]
def m2x:List XO:=[O1 4 (.mv (c9 42))]
def m2y:List XO:=[O1 23 (.bin .add .no (.t 15) (c9 1)),O3 15 23]
def g4b:XCode :=
 (.seq (.reg m2u) (.seq (.cond (.t 16) .skip (.exit 0)) (.seq (.block 1 (.seq (.reg m2v) (.seq (.reg m2w) (.cond (.t 22) (.seq (.reg m2x) .ret) .skip)))) (.reg m2y))))
def m2q:List XO:=[O1 4 (.mv (c9 0))]
def x_control_check:XFunc:={ np:=2,res:=[.t 4],body :=
 (.seq (.reg m2o) (.seq (.seq (.reg m2p) (.seq (.reg m2r) (.cond (.t 11) (.seq (.reg m2s) .ret) .skip))) (.seq (.seq (.reg m2t) (.block 0 (.loop g4b))) (.seq (.reg m2q) .ret)))) }
def w9r:List XO:=[O1 1 (.box (.t 0)),O1 2 (.mv (.c (.nilFunc)))]
def w9s:List XO:=[O1 3 (.mkfn "newel/faults.but$1" [] [.t 1]),O3 2 3]
def r66:List XO:=[O1 4 (.mv (.c (.bool false)))]
def r67:List XO:=[O3 6 0,O8 7 6,O3 8 1,O8 9 8,O1 10 (.bin .neq .no (.t 7) (.t 9))]
def r69:List XO:=[O1 4 (.mv (.c (.bool false)))]
def r7a:List XO:=[O3 11 0,O8 12 11,O1 13 (.mv (c9 0))]
def r7b:List XO:=[O1 14 (.bin .lss .no (.t 13) (.t 12))]
def r7c:List XO:=[O3 15 13,O3 5 15]
def r7d:List XO:=[O3 16 0,O3 17 5,O7 18 1 16 17,O4 19 1 18,O3 20 1,O3 21 5,O7 22 1 20 21,O4 23 1 22,O1 24 (.bin .neq .no (.t 19) (.t 23))]
def r7e:List XO:=[O1 4 (.mv (.c (.bool false)))]
def r7f:List XO:=[O1 25 (.bin .add .no (.t 13) (c9 1)),O3 13 25]
def r3g:XCode :=
 (.seq (.reg r7b) (.seq (.cond (.t 14) .skip (.exit 0)) (.seq (.block 1 (.seq (.reg r7c) (.seq (.reg r7d) (.cond (.t 24) (.seq (.reg r7e) .ret) .skip)))) (.reg r7f))))
def r68:List XO:=[O1 4 (.mv (.c (.bool true)))]
def x_slices_Equal___string_string_:XFunc:={ np:=2,res:=[.t 4],body :=
 (.seq (.reg r66) (.seq (.seq (.reg r67) (.cond (.t 10) (.seq (.reg r69) .ret) .skip)) (.seq (.seq (.reg r7a) (.block 0 (.loop r3g))) (.seq (.reg r68) .ret)))) }
def l87:List XO:=[O1 1 (.boxF (.t 0)),O1 2 (.mv (c9 0))]
def l88:List XO:=[O1 3 (.fldA 0 (.tf 1)),O1 4 (.fldA 0 (.tf 3)),O1 5 (.load false 1 (.tf 4)),O8 6 5,O1 7 (.bin .shl .no (c9 1) (.t 6)),O3 2 7]
def x__situation_Plant__All:XFunc:={ np:=1,res:=[.t 2],body :=
 (.seq (.reg l87) (.seq (.reg l88) .ret)) }
def l89:List XO:=[O1 4 (.boxF (.t 0)),O1 6 (.boxF (.t 2)),O1 8 (.mv (.c (.bool false)))]
def l9a:List XO:=[O3 9 1,O8 10 9,O1 11 (.bin .eql .no (.t 10) (c9 0)),O3 12 11,O9 13 12 false (.load true 5 (.tf 4)),O9 14 12 false (.mv (.t 1)),O9 15 12 false (.load true 3 (.tf 6)),O9 16 12 false (.mv (.t 3)),O9 17 12 false (.call "(newel/situation.Plant).Holds" [.t 13,.t 14,.t 15,.t 16]),O1 18 (.pick (.t 12) (.c (.bool true)) (.t 17)),O3 8 18]
def x__situation_Plant__Allowed:XFunc:={ np:=4,res:=[.t 8],body :=
 (.seq (.reg l89) (.seq (.reg l9a) .ret)) }
def r62:List XO:=[O1 2 (.mv (.c (.slice none 0 0)))]
def r63:List XO:=[O3 3 0,O1 4 (.bin .eql .slice (.t 3) (.c (.slice none 0 0)))]
def r64:List XO:=[O1 2 (.mv (.c (.slice none 0 0)))]
def r65:List XO:=[O1 5 (.bsl 1 []),O3 6 0,O1 7 (.app 1 8 (.t 5) (.t 6)),O3 2 7]
def x_slices_Clone___int_int_:XFunc:={ np:=1,res:=[.t 2],body :=
 (.seq (.reg r62) (.seq (.seq (.reg r63) (.cond (.t 4) (.seq (.reg r64) .ret) .skip)) (.seq (.reg r65) .ret))) }
def K87:List XO:=[O1 1 (.boxF (.t 0)),O1 2 (.mv (.c (.nilFunc)))]
def K89:List XO:=[O1 3 (.mkfn "newel/faults.theories$1" [] [.t 1]),O3 2 3]
def x_faults_theories:XFunc:={ np:=1,res:=[.t 2],body :=
 (.seq (.reg K87) (.seq (.reg K89) .ret)) }
def m4s:List XO:=[O1 1 (.boxF (.t 0)),O1 2 (.mv (c9 0))]
def m4t:List XO:=[O1 11 (.fldA 0 (.tf 1)),O1 12 (.load false 1 (.tf 11)),O8 13 12,O1 14 (.bin .gtr .no (.t 13) (c9 4)),O3 15 14,O9 16 15 false (.fldA 1 (.tf 1)),O9 17 15 false (.load false 1 (.tf 16)),O9 18 15 false (.len false (.t 17)),O9 19 15 false (.bin .gtr .no (.t 18) (c9 6)),O1 20 (.pick (.t 15) (.c (.bool true)) (.t 19)),O3 21 20,O9 22 21 false (.fldA 2 (.tf 1)),O9 23 21 false (.load false 1 (.tf 22)),O9 24 21 false (.len false (.t 23)),O9 25 21 false (.bin .gtr .no (.t 24) (c9 2)),O1 26 (.pick (.t 21) (.c (.bool true)) (.t 25)),O3 27 26,O9 28 27 false (.fldA 3 (.tf 1)),O9 29 27 false (.load false 1 (.tf 28)),O9 30 27 false (.len false (.t 29)),O9 31 27 false (.call "newel/newelref04.from" [.t 30,(c9 1),(c9 12)]),O9 32 27 false (.un .not (.t 31)),O1 33 (.pick (.t 27) (.c (.bool true)) (.t 32)),O3 34 33,O9 35 34 false (.fldA 4 (.tf 1)),O9 36 34 false (.load false 1 (.tf 35)),O9 37 34 false (.len false (.t 36)),O9 38 34 false (.bin .gtr .no (.t 37) (c9 40)),O1 39 (.pick (.t 34) (.c (.bool true)) (.t 38))]
def m42:List XO:=[O1 2 (.mv (c9 41))]
def m5b:List XO:=[O1 40 (.load true 5 (.tf 1)),O1 41 (.call "newel/newelref04.names" [.t 40]),O3 3 41]
def m5l:List XO:=[O1 4 (.mv (c9 0))]
def m5n:List XO:=[O3 42 4,O3 43 3,O8 44 43,O1 45 (.bin .lss .no (.t 42) (.t 44))]
def m5o:List XO:=[O3 48 3,O3 49 4,O7 50 1 48 49,O4 51 1 50,O1 52 (.len true (.t 51)),O1 53 (.bin .gtr .no (.t 52) (c9 8)),O3 54 53,O9 55 54 false (.mv (.t 3)),O9 56 54 false (.mv (.t 4)),O9 57 54 false (.ixA 1 (.t 55) (.t 56)),O9 58 54 false (.load false 1 (.t 57)),O9 59 54 false (.call "newel/newelref04.Word" [.t 58]),O9 60 54 false (.un .not (.t 59)),O1 61 (.pick (.t 54) (.c (.bool true)) (.t 60))]
def m5p:List XO:=[O1 2 (.mv (c9 41))]
def m5q:List XO:=[O1 5 (.mv (c9 0))]
def m5r:List XO:=[O3 62 5,O3 63 4,O1 64 (.bin .lss .no (.t 62) (.t 63))]
def m4u:List XO:=[O3 67 3,O3 68 5,O7 69 1 67 68,O4 70 1 69,O3 71 3,O3 72 4,O7 73 1 71 72,O4 74 1 73,O1 75 (.bin .eql .no (.t 70) (.t 74))]
def m4v:List XO:=[O1 2 (.mv (c9 41))]
def m4w:List XO:=[O3 65 5,O1 66 (.bin .add .no (.t 65) (c9 1)),O3 5 66]
def g4f:XCode :=
 (.seq (.seq (.reg m5r) (.cond (.t 64) .skip (.exit 2))) (.seq (.block 3 (.seq (.reg m4u) (.cond (.t 75) (.seq (.reg m4v) .ret) .skip))) (.reg m4w)))
def m4x:List XO:=[O3 46 4,O1 47 (.bin .add .no (.t 46) (c9 1)),O3 4 47]
def g4g:XCode :=
 (.seq (.seq (.reg m5n) (.cond (.t 45) .skip (.exit 0))) (.seq (.block 1 (.seq (.seq (.reg m5o) (.cond (.t 61) (.seq (.reg m5p) .ret) .skip)) (.seq (.reg m5q) (.block 2 (.loop g4f))))) (.reg m4x)))
def m4y:List XO:=[O1 6 (.mv (c9 0))]
def m4z:List XO:=[O3 76 6,O1 77 (.fldA 2 (.tf 1)),O1 78 (.load false 1 (.tf 77)),O8 79 78,O1 80 (.bin .lss .no (.t 76) (.t 79))]
def m40:List XO:=[O1 83 (.fldA 2 (.tf 1)),O1 84 (.load false 1 (.tf 83)),O3 85 6,O7 86 2 84 85,O5 87 1 86,O4 88 1 87,O1 89 (.call "newel/newelref04.from" [.t 88,(c9 1),(c9 7)]),O1 90 (.un .not (.t 89))]
def m41:List XO:=[O1 2 (.mv (c9 41))]
def m43:List XO:=[O3 81 6,O1 82 (.bin .add .no (.t 81) (c9 1)),O3 6 82]
def g4h:XCode :=
 (.seq (.seq (.reg m4z) (.cond (.t 80) .skip (.exit 4))) (.seq (.block 5 (.seq (.reg m40) (.cond (.t 90) (.seq (.reg m41) .ret) .skip))) (.reg m43)))
def m44:List XO:=[O1 7 (.mv (c9 0))]
def m45:List XO:=[O3 91 7,O1 92 (.fldA 3 (.tf 1)),O1 93 (.load false 1 (.tf 92)),O8 94 93,O1 95 (.bin .lss .no (.t 91) (.t 94))]
def m46:List XO:=[O1 98 (.fldA 3 (.tf 1)),O1 99 (.load false 1 (.tf 98)),O3 100 7,O7 101 2 99 100,O5 102 1 101,O4 103 1 102,O1 104 (.fldA 1 (.tf 1)),O1 105 (.load false 1 (.tf 104)),O8 106 105,O1 107 (.cvtI .u64 (.t 106)),O1 108 (.bin .shl .no (c9 1) (.t 107)),O1 109 (.bin .sub .no (.t 108) (c9 1)),O1 110 (.call "newel/newelref04.from" [.t 103,(c9 0),.t 109]),O1 111 (.un .not (.t 110))]
def m47:List XO:=[O1 2 (.mv (c9 41))]
def m48:List XO:=[O3 96 7,O1 97 (.bin .add .no (.t 96) (c9 1)),O3 7 97]
def g4i:XCode :=
 (.seq (.seq (.reg m45) (.cond (.t 95) .skip (.exit 6))) (.seq (.block 7 (.seq (.reg m46) (.cond (.t 111) (.seq (.reg m47) .ret) .skip))) (.reg m48)))
def m49:List XO:=[O1 8 (.mv (c9 0))]
def m5a:List XO:=[O3 112 8,O1 113 (.fldA 4 (.tf 1)),O1 114 (.load false 1 (.tf 113)),O8 115 114,O1 116 (.bin .lss .no (.t 112) (.t 115))]
def m5c:List XO:=[O1 119 (.fldA 4 (.tf 1)),O1 120 (.load false 1 (.tf 119)),O3 121 8,O7 122 4 120 121,O6 123 4 122,O1 9 (.alloc [(.int .i64 0),(.int .i64 0),(.slice none 0 0),(.slice none 0 0)]),O2 (.store 4 (.t 9) (.t 123))]
def m5d:List XO:=[O5 124 0 9,O4 125 1 124,O1 126 (.fldA 3 (.tf 1)),O1 127 (.load false 1 (.tf 126)),O8 128 127,O1 129 (.bin .sub .no (.t 128) (c9 1)),O1 130 (.call "newel/newelref04.from" [.t 125,(.c (.int .i64 (-1))),.t 129]),O1 131 (.un .not (.t 130)),O3 132 131,O9 133 132 false (.fldA 1 (.t 9)),O9 134 132 false (.load false 1 (.t 133)),O9 135 132 false (.fldA 3 (.tf 1)),O9 136 132 false (.load false 1 (.tf 135)),O9 137 132 false (.len false (.t 136)),O9 138 132 false (.bin .sub .no (.t 137) (c9 1)),O9 139 132 false (.call "newel/newelref04.from" [.t 134,(c9 0),.t 138]),O9 140 132 false (.un .not (.t 139)),O1 141 (.pick (.t 132) (.c (.bool true)) (.t 140)),O3 142 141,O9 143 142 false (.load true 5 (.tf 1)),O9 144 142 false (.fldA 2 (.t 9)),O9 145 142 false (.load false 1 (.t 144)),O9 146 142 false (.call "newel/newelref04.condition" [.t 143,.t 145,(.c (.bool false))]),O9 147 142 false (.un .not (.t 146)),O1 148 (.pick (.t 142) (.c (.bool true)) (.t 147)),O3 149 148,O9 150 149 false (.fldA 3 (.t 9)),O9 151 149 false (.load false 1 (.t 150)),O9 152 149 false (.len false (.t 151)),O9 153 149 false (.bin .gtr .no (.t 152) (c9 4)),O1 154 (.pick (.t 149) (.c (.bool true)) (.t 153))]
def m5e:List XO:=[O1 2 (.mv (c9 41))]
def m5f:List XO:=[O1 10 (.mv (c9 0))]
def m5g:List XO:=[O3 155 10,O5 156 3 9,O4 157 1 156,O8 158 157,O1 159 (.bin .lss .no (.t 155) (.t 158))]
def m5h:List XO:=[O5 162 3 9,O4 163 1 162,O3 164 10,O7 165 2 163 164,O5 166 0 165,O4 167 1 166,O1 168 (.call "newel/newelref04.from" [.t 167,(c9 1),(c9 3)]),O1 169 (.un .not (.t 168)),O3 170 169,O9 171 170 false (.fldA 3 (.t 9)),O9 172 170 false (.load false 1 (.t 171)),O9 173 170 false (.mv (.t 10)),O9 174 170 false (.ixA 2 (.t 172) (.t 173)),O9 175 170 false (.fldA 1 (.t 174)),O9 176 170 false (.load false 1 (.t 175)),O9 177 170 false (.fldA 2 (.tf 1)),O9 178 170 false (.load false 1 (.tf 177)),O9 179 170 false (.len false (.t 178)),O9 180 170 false (.bin .sub .no (.t 179) (c9 1)),O9 181 170 false (.call "newel/newelref04.from" [.t 176,(c9 0),.t 180]),O9 182 170 false (.un .not (.t 181)),O1 183 (.pick (.t 170) (.c (.bool true)) (.t 182))]
def m5i:List XO:=[O1 2 (.mv (c9 41))]
def m5j:List XO:=[O3 160 10,O1 161 (.bin .add .no (.t 160) (c9 1)),O3 10 161]
def g4j:XCode :=
 (.seq (.seq (.reg m5g) (.cond (.t 159) .skip (.exit 10))) (.seq (.block 11 (.seq (.reg m5h) (.cond (.t 183) (.seq (.reg m5i) .ret) .skip))) (.reg m5j)))
def m5k:List XO:=[O3 117 8,O1 118 (.bin .add .no (.t 117) (c9 1)),O3 8 118]
def g4k:XCode :=
 (.seq (.seq (.reg m5a) (.cond (.t 116) .skip (.exit 8))) (.seq (.block 9 (.seq (.reg m5c) (.seq (.seq (.reg m5d) (.cond (.t 154) (.seq (.reg m5e) .ret) .skip)) (.seq (.reg m5f) (.block 10 (.loop g4j)))))) (.reg m5k)))
def m5m:List XO:=[O1 2 (.mv (c9 0))]
def x_r04_Check:XFunc:={ np:=1,res:=[.t 2],body :=
 (.seq (.reg m4s) (.seq (.seq (.reg m4t) (.cond (.t 39) (.seq (.reg m42) .ret) .skip)) (.seq (.reg m5b) (.seq (.seq (.reg m5l) (.block 0 (.loop g4g))) (.seq (.seq (.reg m4y) (.block 4 (.loop g4h))) (.seq (.seq (.reg m44) (.block 6 (.loop g4i))) (.seq (.seq (.reg m49) (.block 8 (.loop g4k))) (.seq (.reg m5m) .ret)))))))) }
def m8j:List XO:=[O1 3 (.boxF (.t 0)),O1 6 (.mv (.c (.bool false)))]
def m8k:List XO:=[O3 11 1,O8 12 11,O1 13 (.bin .gtr .no (.t 12) (c9 6))]
def m8v:List XO:=[O1 6 (.mv (.c (.bool false)))]
def m81:List XO:=[O1 7 (.mv (c9 0))]
def m82:List XO:=[O3 14 7,O3 15 1,O8 16 15,O1 17 (.bin .lss .no (.t 14) (.t 16))]
def m83:List XO:=[O3 20 1,O3 21 7,O7 22 1 20 21,O4 23 1 22,O8 24 23,O1 25 (.bin .gtr .no (.t 24) (c9 6))]
def m84:List XO:=[O1 6 (.mv (.c (.bool false)))]
def m85:List XO:=[O1 8 (.mv (c9 0))]
def m86:List XO:=[O3 26 8,O3 27 1,O3 28 7,O7 29 1 27 28,O4 30 1 29,O8 31 30,O1 32 (.bin .lss .no (.t 26) (.t 31))]
def m87:List XO:=[O3 35 1,O3 36 7,O7 37 1 35 36,O4 38 1 37,O3 39 8,O7 40 4 38 39,O6 41 4 40,O1 9 (.alloc [(.int .i64 0),(.int .i64 0),(.int .i64 0),(.bool false)]),O2 (.store 4 (.t 9) (.t 41))]
def m8l:List XO:=[O1 10 (.mv (.c (.bool false)))]
def m8m:List XO:=[O5 42 0 9,O4 43 1 42]
def m8n:List XO:=[O1 45 (.bin .eql .no (.t 43) (c9 1)),O3 44 45]
def m8o:List XO:=[O5 46 1 9,O4 47 1 46,O1 48 (.fldA 0 (.tf 3)),O1 49 (.load false 1 (.tf 48)),O8 50 49,O1 51 (.bin .sub .no (.t 50) (c9 1)),O1 52 (.call "newel/newelref04.from" [.t 47,(c9 0),.t 51]),O3 53 52,O9 54 53 true (.fldA 2 (.t 9)),O9 55 53 true (.load false 1 (.t 54)),O9 56 53 true (.bin .eql .no (.t 55) (c9 0)),O1 57 (.pick (.t 53) (.t 56) (.c (.bool false))),O3 10 57]
def m8p:List XO:=[O1 59 (.bin .eql .no (.t 43) (c9 2)),O3 58 59]
def m8q:List XO:=[O5 60 1 9,O4 61 1 60,O1 62 (.fldA 2 (.tf 3)),O1 63 (.load false 1 (.tf 62)),O8 64 63,O1 65 (.bin .sub .no (.t 64) (c9 1)),O1 66 (.call "newel/newelref04.from" [.t 61,(c9 0),.t 65]),O3 67 66,O9 68 67 true (.fldA 2 (.t 9)),O9 69 67 true (.load false 1 (.t 68)),O9 70 67 true (.fldA 2 (.tf 3)),O9 71 67 true (.load false 1 (.tf 70)),O9 72 67 true (.fldA 1 (.t 9)),O9 73 67 true (.load false 1 (.t 72)),O9 74 67 true (.ixA 2 (.t 71) (.t 73)),O9 75 67 true (.fldA 1 (.t 74)),O9 76 67 true (.load false 1 (.t 75)),O9 77 67 true (.call "newel/newelref04.from" [.t 69,(c9 0),.t 76]),O1 78 (.pick (.t 67) (.t 77) (.c (.bool false))),O3 10 78]
def m8r:List XO:=[O1 80 (.bin .eql .no (.t 43) (c9 3)),O3 79 80]
def m8s:List XO:=[O3 81 2,O3 82 81,O9 83 82 true (.fldA 1 (.t 9)),O9 84 82 true (.load false 1 (.t 83)),O9 85 82 true (.fldA 3 (.tf 3)),O9 86 82 true (.load false 1 (.tf 85)),O9 87 82 true (.len false (.t 86)),O9 88 82 true (.bin .sub .no (.t 87) (c9 1)),O9 89 82 true (.call "newel/newelref04.from" [.t 84,(c9 0),.t 88]),O1 90 (.pick (.t 82) (.t 89) (.c (.bool false))),O3 91 90,O9 92 91 true (.fldA 2 (.t 9)),O9 93 91 true (.load false 1 (.t 92)),O9 94 91 true (.bin .eql .no (.t 93) (c9 0)),O1 95 (.pick (.t 91) (.t 94) (.c (.bool false))),O3 10 95]
def m8t:List XO:=[O1 97 (.bin .eql .no (.t 43) (c9 4)),O3 96 97]
def m8u:List XO:=[O5 98 1 9,O4 99 1 98,O1 100 (.fldA 1 (.tf 3)),O1 101 (.load false 1 (.tf 100)),O8 102 101,O1 103 (.bin .sub .no (.t 102) (c9 1)),O1 104 (.call "newel/newelref04.from" [.t 99,(c9 0),.t 103]),O3 105 104,O9 106 105 true (.fldA 2 (.t 9)),O9 107 105 true (.load false 1 (.t 106)),O9 108 105 true (.bin .eql .no (.t 107) (c9 0)),O1 109 (.pick (.t 105) (.t 108) (.c (.bool false))),O3 10 109]
def m8w:List XO:=[O3 110 10,O1 111 (.un .not (.t 110))]
def m8x:List XO:=[O1 6 (.mv (.c (.bool false)))]
def m8y:List XO:=[O3 33 8,O1 34 (.bin .add .no (.t 33) (c9 1)),O3 8 34]
def g4y:XCode :=
 (.seq (.seq (.reg m86) (.cond (.t 32) .skip (.exit 2))) (.seq (.block 3 (.seq (.reg m87) (.seq (.reg m8l) (.seq (.seq (.reg m8m) (.block 4 (.seq (.reg m8n) (.cond (.t 44) (.reg m8o) (.seq (.reg m8p) (.cond (.t 58) (.reg m8q) (.seq (.reg m8r) (.cond (.t 79) (.reg m8s) (.seq (.reg m8t) (.cond (.t 96) (.reg m8u) .skip)))))))))) (.seq (.reg m8w) (.cond (.t 111) (.seq (.reg m8x) .ret) .skip)))))) (.reg m8y)))
def m8z:List XO:=[O3 18 7,O1 19 (.bin .add .no (.t 18) (c9 1)),O3 7 19]
def g4z:XCode :=
 (.seq (.seq (.reg m82) (.cond (.t 17) .skip (.exit 0))) (.seq (.block 1 (.seq (.seq (.reg m83) (.cond (.t 25) (.seq (.reg m84) .ret) .skip)) (.seq (.reg m85) (.block 2 (.loop g4y))))) (.reg m8z)))
def m80:List XO:=[O1 6 (.mv (.c (.bool true)))]
def x_r04_condition:XFunc:={ np:=3,res:=[.t 6],body :=
 (.seq (.reg m8j) (.seq (.seq (.reg m8k) (.cond (.t 13) (.seq (.reg m8v) .ret) .skip)) (.seq (.seq (.reg m81) (.block 0 (.loop g4z))) (.seq (.reg m80) .ret)))) }
def o0x:List XO:=[O1 1 (.boxF (.t 0)),O1 2 (.mv (c9 0))]
def o0y:List XO:=[O1 13 (.fldA 0 (.tf 1)),O1 14 (.load false 1 (.tf 13)),O8 15 14,O1 16 (.bin .gtr .no (.t 15) (c9 4)),O3 17 16,O9 18 17 false (.fldA 1 (.tf 1)),O9 19 17 false (.load false 1 (.tf 18)),O9 20 17 false (.len false (.t 19)),O9 21 17 false (.bin .gtr .no (.t 20) (c9 6)),O1 22 (.pick (.t 17) (.c (.bool true)) (.t 21)),O3 23 22,O9 24 23 false (.fldA 2 (.tf 1)),O9 25 23 false (.load false 1 (.tf 24)),O9 26 23 false (.len false (.t 25)),O9 27 23 false (.bin .gtr .no (.t 26) (c9 2)),O1 28 (.pick (.t 23) (.c (.bool true)) (.t 27)),O3 29 28,O9 30 29 false (.fldA 3 (.tf 1)),O9 31 29 false (.load false 1 (.tf 30)),O9 32 29 false (.len false (.t 31)),O9 33 29 false (.call "newel/situation.within" [.t 32,(c9 1),(c9 12)]),O9 34 29 false (.un .not (.t 33)),O1 35 (.pick (.t 29) (.c (.bool true)) (.t 34)),O3 36 35,O9 37 36 false (.fldA 4 (.tf 1)),O9 38 36 false (.load false 1 (.tf 37)),O9 39 36 false (.len false (.t 38)),O9 40 36 false (.bin .gtr .no (.t 39) (c9 40)),O1 41 (.pick (.t 36) (.c (.bool true)) (.t 40)),O3 42 41,O9 43 42 false (.load true 5 (.tf 1)),O9 44 42 false (.call "newel/situation.named" [.t 43]),O9 45 42 false (.un .not (.t 44)),O1 46 (.pick (.t 42) (.c (.bool true)) (.t 45))]
def o08:List XO:=[O1 2 (.mv (c9 41))]
def o1i:List XO:=[O1 47 (.fldA 2 (.tf 1)),O1 48 (.load false 1 (.tf 47)),O8 49 48,O1 50 (.mv (c9 0))]
def o1q:List XO:=[O1 51 (.bin .lss .no (.t 50) (.t 49))]
def o1r:List XO:=[O7 52 2 48 50,O6 53 2 52,O1 4 (.alloc [(.string (ByteArray.mk #[])),(.int .i64 0)]),O2 (.store 2 (.t 4) (.t 53))]
def o1s:List XO:=[O5 54 1 4,O4 55 1 54,O1 56 (.call "newel/situation.within" [.t 55,(c9 1),(c9 7)]),O1 57 (.un .not (.t 56))]
def o1t:List XO:=[O1 2 (.mv (c9 41))]
def o1u:List XO:=[O1 58 (.bin .add .no (.t 50) (c9 1)),O3 50 58]
def g5a:XCode :=
 (.seq (.reg o1q) (.seq (.cond (.t 51) .skip (.exit 0)) (.seq (.block 1 (.seq (.reg o1r) (.seq (.reg o1s) (.cond (.t 57) (.seq (.reg o1t) .ret) .skip)))) (.reg o1u))))
def o0z:List XO:=[O1 59 (.fldA 3 (.tf 1)),O1 60 (.load false 1 (.tf 59)),O8 61 60,O1 62 (.mv (c9 0))]
def o00:List XO:=[O1 63 (.bin .lss .no (.t 62) (.t 61))]
def o01:List XO:=[O7 64 2 60 62,O6 65 2 64,O1 6 (.alloc [(.string (ByteArray.mk #[])),(.int .i64 0)]),O2 (.store 2 (.t 6) (.t 65))]
def o02:List XO:=[O5 66 1 6,O4 67 1 66,O1 68 (.fldA 1 (.tf 1)),O1 69 (.load false 1 (.tf 68)),O8 70 69,O1 71 (.bin .shl .no (c9 1) (.t 70)),O1 72 (.bin .sub .no (.t 71) (c9 1)),O1 73 (.call "newel/situation.within" [.t 67,(c9 0),.t 72]),O1 74 (.un .not (.t 73))]
def o03:List XO:=[O1 2 (.mv (c9 41))]
def o04:List XO:=[O1 75 (.bin .add .no (.t 62) (c9 1)),O3 62 75]
def g46:XCode :=
 (.seq (.reg o00) (.seq (.cond (.t 63) .skip (.exit 2)) (.seq (.block 3 (.seq (.reg o01) (.seq (.reg o02) (.cond (.t 74) (.seq (.reg o03) .ret) .skip)))) (.reg o04))))
def o05:List XO:=[O1 76 (.fldA 4 (.tf 1)),O1 77 (.load false 1 (.tf 76)),O8 78 77,O1 79 (.mv (c9 0))]
def o06:List XO:=[O1 80 (.bin .lss .no (.t 79) (.t 78))]
def o07:List XO:=[O7 81 4 77 79,O6 82 4 81,O1 8 (.alloc [(.int .i64 0),(.int .i64 0),(.slice none 0 0),(.slice none 0 0)]),O2 (.store 4 (.t 8) (.t 82))]
def o09:List XO:=[O5 83 0 8,O4 84 1 83,O1 85 (.fldA 3 (.tf 1)),O1 86 (.load false 1 (.tf 85)),O8 87 86,O1 88 (.bin .sub .no (.t 87) (c9 1)),O1 89 (.call "newel/situation.within" [.t 84,(.c (.int .i64 (-1))),.t 88]),O1 90 (.un .not (.t 89)),O3 91 90,O9 92 91 false (.fldA 1 (.t 8)),O9 93 91 false (.load false 1 (.t 92)),O9 94 91 false (.fldA 3 (.tf 1)),O9 95 91 false (.load false 1 (.tf 94)),O9 96 91 false (.len false (.t 95)),O9 97 91 false (.bin .sub .no (.t 96) (c9 1)),O9 98 91 false (.call "newel/situation.within" [.t 93,(c9 0),.t 97]),O9 99 91 false (.un .not (.t 98)),O1 100 (.pick (.t 91) (.c (.bool true)) (.t 99)),O3 101 100,O9 102 101 false (.load true 5 (.tf 1)),O9 103 101 false (.fldA 2 (.t 8)),O9 104 101 false (.load false 1 (.t 103)),O9 105 101 false (.call "newel/situation.Asked" [.t 102,.t 104]),O9 106 101 false (.un .not (.t 105)),O1 107 (.pick (.t 101) (.c (.bool true)) (.t 106)),O3 108 107,O9 109 108 false (.fldA 3 (.t 8)),O9 110 108 false (.load false 1 (.t 109)),O9 111 108 false (.len false (.t 110)),O9 112 108 false (.bin .gtr .no (.t 111) (c9 4)),O1 113 (.pick (.t 108) (.c (.bool true)) (.t 112))]
def o1a:List XO:=[O1 2 (.mv (c9 41))]
def o1b:List XO:=[O5 114 2 8,O4 115 1 114,O8 116 115,O1 117 (.mv (c9 0))]
def o1c:List XO:=[O1 118 (.bin .lss .no (.t 117) (.t 116))]
def o1d:List XO:=[O7 119 1 115 117,O4 120 1 119,O3 10 120]
def o1e:List XO:=[O3 121 10,O1 122 (.call "slices.ContainsFunc[newel/api.Term,newel/api.Literal]" [.t 121,(.f "newel/situation.Check$1")])]
def o1f:List XO:=[O1 2 (.mv (c9 41))]
def o1g:List XO:=[O1 123 (.bin .add .no (.t 117) (c9 1)),O3 117 123]
def g47:XCode :=
 (.seq (.reg o1c) (.seq (.cond (.t 118) .skip (.exit 6)) (.seq (.block 7 (.seq (.reg o1d) (.seq (.reg o1e) (.cond (.t 122) (.seq (.reg o1f) .ret) .skip)))) (.reg o1g))))
def o1h:List XO:=[O5 124 3 8,O4 125 1 124,O8 126 125,O1 127 (.mv (c9 0))]
def o1j:List XO:=[O1 128 (.bin .lss .no (.t 127) (.t 126))]
def o1k:List XO:=[O7 129 2 125 127,O6 130 2 129,O1 12 (.alloc [(.int .i64 0),(.int .i64 0)]),O2 (.store 2 (.t 12) (.t 130))]
def o1l:List XO:=[O5 131 0 12,O4 132 1 131,O1 133 (.call "newel/situation.within" [.t 132,(c9 1),(c9 3)]),O1 134 (.un .not (.t 133)),O3 135 134,O9 136 135 false (.fldA 1 (.t 12)),O9 137 135 false (.load false 1 (.t 136)),O9 138 135 false (.fldA 2 (.tf 1)),O9 139 135 false (.load false 1 (.tf 138)),O9 140 135 false (.len false (.t 139)),O9 141 135 false (.bin .sub .no (.t 140) (c9 1)),O9 142 135 false (.call "newel/situation.within" [.t 137,(c9 0),.t 141]),O9 143 135 false (.un .not (.t 142)),O1 144 (.pick (.t 135) (.c (.bool true)) (.t 143))]
def o1m:List XO:=[O1 2 (.mv (c9 41))]
def o1n:List XO:=[O1 145 (.bin .add .no (.t 127) (c9 1)),O3 127 145]
def g48:XCode :=
 (.seq (.reg o1j) (.seq (.cond (.t 128) .skip (.exit 8)) (.seq (.block 9 (.seq (.reg o1k) (.seq (.reg o1l) (.cond (.t 144) (.seq (.reg o1m) .ret) .skip)))) (.reg o1n))))
def o1o:List XO:=[O1 146 (.bin .add .no (.t 79) (c9 1)),O3 79 146]
def g49:XCode :=
 (.seq (.reg o06) (.seq (.cond (.t 80) .skip (.exit 4)) (.seq (.block 5 (.seq (.reg o07) (.seq (.seq (.reg o09) (.cond (.t 113) (.seq (.reg o1a) .ret) .skip)) (.seq (.seq (.reg o1b) (.block 6 (.loop g47))) (.seq (.reg o1h) (.block 8 (.loop g48))))))) (.reg o1o))))
def o1p:List XO:=[O1 2 (.mv (c9 0))]
def x_situation_Check:XFunc:={ np:=1,res:=[.t 2],body :=
 (.seq (.reg o0x) (.seq (.seq (.reg o0y) (.cond (.t 46) (.seq (.reg o08) .ret) .skip)) (.seq (.seq (.reg o1i) (.block 0 (.loop g5a))) (.seq (.seq (.reg o0z) (.block 2 (.loop g46))) (.seq (.seq (.reg o05) (.block 4 (.loop g49))) (.seq (.reg o1p) .ret)))))) }
def o3d:List XO:=[O1 6 (.mv (.c (.bool false)))]
def o3e:List XO:=[O3 7 0,O3 8 1,O1 9 (.bin .geq .no (.t 7) (.t 8)),O3 10 9,O9 11 10 true (.mv (.t 0)),O9 12 10 true (.mv (.t 2)),O9 13 10 true (.bin .leq .no (.t 11) (.t 12)),O1 14 (.pick (.t 10) (.t 13) (.c (.bool false))),O3 6 14]
def x_situation_within:XFunc:={ np:=3,res:=[.t 6],body :=
 (.seq (.reg o3d) (.seq (.reg o3e) .ret)) }
def l96:List XO:=[O1 3 (.boxF (.t 0)),O1 4 (.boxF (.t 1))]
def s2c:List XO:=[O3 7 2,O1 8 (.fldA 1 (.tf 4)),O1 9 (.load false 1 (.tf 8)),O1 10 (.nilck (.t 7)),O5 11 1 10,O1 12 (.ixP 1 2 (.t 11) (.t 9)),O3 6 12]
def l98:List XO:=[O1 13 (.fldA 0 (.tf 4)),O1 14 (.load false 1 (.tf 13))]
def l99:List XO:=[O1 16 (.bin .eql .no (.t 14) (c9 1)),O3 15 16]
def m0a:List XO:=[O3 17 6,O1 18 (.nilck (.t 17)),O2 (.store 1 (.t 18) (c9 0))]
def m0b:List XO:=[O1 20 (.bin .eql .no (.t 14) (c9 2)),O3 19 20]
def m0c:List XO:=[O3 21 6,O3 22 6,O1 23 (.nilck (.t 22)),O4 24 1 23,O1 25 (.bin .add .no (.t 24) (c9 1)),O1 26 (.fldA 0 (.tf 3)),O1 27 (.fldA 2 (.tf 26)),O1 28 (.load false 1 (.tf 27)),O1 29 (.fldA 1 (.tf 4)),O1 30 (.load false 1 (.tf 29)),O7 31 2 28 30,O5 32 1 31,O4 33 1 32,O1 34 (.min [.t 25,.t 33]),O1 35 (.nilck (.t 21)),O2 (.store 1 (.t 35) (.t 34))]
def m0d:List XO:=[O1 37 (.bin .eql .no (.t 14) (c9 3)),O3 36 37]
def m0e:List XO:=[O3 38 6,O3 39 6,O1 40 (.nilck (.t 39)),O4 41 1 40,O1 42 (.bin .sub .no (.t 41) (c9 1)),O1 43 (.max [.t 42,(c9 0)]),O1 44 (.nilck (.t 38)),O2 (.store 1 (.t 44) (.t 43))]
def x__situation_Plant__set:XFunc:={ np:=3,res:=[],body :=
 (.seq (.reg l96) (.seq (.reg s2c) (.seq (.reg l98) (.block 0 (.seq (.reg l99) (.cond (.t 15) (.reg m0a) (.seq (.reg m0b) (.cond (.t 19) (.reg m0c) (.seq (.reg m0d) (.cond (.t 36) (.reg m0e) .skip)))))))))) }
def v6y:List XO:=[O1 2 (.mv (.c (.bool false)))]
def v6z:List XO:=[O1 2 (.mv (.c (.bool true)))]
def x_faults_searchD1:XFunc:={ np:=1,res:=[.t 2],body :=
 (.seq (.reg v6y) (.seq (.reg v6z) .ret)) }
def v60:List XO:=[O1 4 (.boxF (.t 1)),O1 6 (.mv (.c (.bool false)))]
def v61:List XO:=[O1 6 (.mv (.c (.bool true)))]
def x_faults_searchD2:XFunc:={ np:=3,res:=[.t 6],body :=
 (.seq (.reg v60) (.seq (.reg v61) .ret)) }
def v03:List XO:=[O1 3 (.boxF (.t 1)),O1 4 (.mv (.c (.bool false)))]
def v04:List XO:=[O1 8 (.fldA 0 (.tf 3)),O1 9 (.load false 1 (.tf 8)),O3 10 0,O1 11 (.nilck (.t 10)),O5 12 0 11,O5 13 6 12,O4 14 1 13,O1 15 (.bin .eql .no (.t 9) (.t 14))]
def v1d:List XO:=[O1 4 (.mv (.c (.bool true)))]
def v1e:List XO:=[O3 16 0,O1 17 (.nilck (.t 16)),O5 18 18 17,O4 19 1 18,O1 20 (.load true 5 (.tf 3)),O1 21 (.callw "#li" [.t 19,.t 20,(.c (.bool false)),(c9 5)])]
def v1f:List XO:=[O1 4 (.mv (.c (.bool false)))]
def v1g:List XO:=[O3 22 0,O1 23 (.nilck (.t 22)),O5 24 8 23,O6 25 5 24,O1 26 (.call "(newel/situation.Plant).All" [.t 25]),O1 27 (.mv (c9 0))]
def v1h:List XO:=[O1 28 (.bin .lss .no (.t 27) (.t 26))]
def v1i:List XO:=[O3 29 27,O3 5 29]
def v1j:List XO:=[O3 30 0,O1 31 (.nilck (.t 30)),O5 32 8 31,O6 33 5 32,O3 34 0,O1 35 (.nilck (.t 34)),O5 36 0 35,O5 37 5 36,O4 38 1 37,O1 39 (.fldA 1 (.tf 3)),O1 40 (.load true 3 (.tf 39)),O3 41 5,O1 42 (.call "(newel/situation.Plant).Allowed" [.t 33,.t 38,.t 40,.t 41]),O1 43 (.un .not (.t 42)),O3 44 43,O9 45 44 false (.mv (.t 0)),O9 46 44 false (.nilck (.t 45)),O9 47 44 false (.fldA 17 (.t 46)),O9 48 44 false (.load false 1 (.t 47)),O9 49 44 false (.fldA 0 (.tf 3)),O9 50 44 false (.load false 1 (.tf 49)),O9 51 44 false (.fldA 1 (.tf 3)),O9 52 44 false (.load true 3 (.tf 51)),O9 53 44 false (.mv (.t 5)),O9 54 44 false (.callv (.t 48) [.t 50,.t 52,.t 53]),O9 55 44 false (.un .not (.t 54)),O1 56 (.pick (.t 44) (.c (.bool true)) (.t 55))]
def v1k:List XO:=[O3 58 0,O1 59 (.load true 5 (.tf 3)),O3 60 5,O1 61 (.callw "(*newel/faults.inquiry).seen" [.t 58,.t 59,.t 60]),O3 57 61,O1 62 (.ext (.t 57) 0),O1 63 (.ext (.t 57) 1),O3 6 62,O3 7 63]
def v05:List XO:=[O3 64 7,O1 65 (.un .not (.t 64))]
def v06:List XO:=[O3 66 0,O3 67 0,O1 68 (.nilck (.t 67)),O5 69 19 68,O4 70 1 69,O3 71 5,O1 72 (.bsl 1 [.t 71]),O1 73 (.app 1 8 (.t 70) (.t 72)),O1 74 (.nilck (.t 66)),O5 75 19 74,O2 (.store 1 (.t 75) (.t 73))]
def v07:List XO:=[O3 76 0,O1 77 (.fldA 0 (.tf 3)),O1 78 (.load false 1 (.tf 77)),O1 79 (.bin .add .no (.t 78) (c9 1)),O3 80 0,O1 81 (.nilck (.t 80)),O5 82 8 81,O6 83 5 82,O1 84 (.fldA 1 (.tf 3)),O1 85 (.load true 3 (.tf 84)),O3 86 0,O1 87 (.fldA 0 (.tf 3)),O1 88 (.load false 1 (.tf 87)),O3 89 5,O1 90 (.callw "(*newel/faults.inquiry).heard" [.t 86,.t 88,.t 89]),O1 91 (.call "(newel/situation.Plant).Step" [.t 83,.t 85,.t 90]),O3 92 6,O1 93 (.build [(.int .i64 0),(.int .i64 0),(.int .i64 0),(.int .i64 0),(.int .i64 0)] [(0,1,(.t 79)),(1,3,(.t 91)),(4,1,(.t 92))]),O1 94 (.callw "(*newel/faults.inquiry).course" [.t 76,.t 93])]
def v08:List XO:=[O1 4 (.mv (.c (.bool true)))]
def v09:List XO:=[O3 95 0,O3 96 0,O1 97 (.nilck (.t 96)),O5 98 19 97,O4 99 1 98,O3 100 0,O1 101 (.nilck (.t 100)),O5 102 19 101,O4 103 1 102,O8 104 103,O1 105 (.bin .sub .no (.t 104) (c9 1)),O1 106 (.slc 1 (.t 99) none (some (.t 105))),O1 107 (.nilck (.t 95)),O5 108 19 107,O2 (.store 1 (.t 108) (.t 106))]
def v1a:List XO:=[O1 109 (.bin .add .no (.t 27) (c9 1)),O3 27 109]
def u5o:XCode :=
 (.seq (.reg v1h) (.seq (.cond (.t 28) .skip (.exit 0)) (.seq (.block 1 (.seq (.reg v1i) (.seq (.seq (.reg v1j) (.cond (.t 56) (.exit 1) .skip)) (.seq (.reg v1k) (.seq (.seq (.reg v05) (.cond (.t 65) (.exit 1) .skip)) (.seq (.reg v06) (.seq (.seq (.regW v07 [(7,14),(6,14),(5,14)]) (.cond (.t 94) (.seq (.reg v08) .ret) .skip)) (.reg v09)))))))) (.reg v1a))))
def v1b:List XO:=[O3 110 0,O1 111 (.nilck (.t 110)),O5 112 18 111,O4 113 1 112,O1 114 (.load true 5 (.tf 3)),O2 (.callw "#pi" [.t 113,.t 114,(.c (.bool true)),(c9 5)])]
def v1c:List XO:=[O1 4 (.mv (.c (.bool false)))]
def x___faults_inquiry__course:XFunc:={ np:=2,res:=[.t 4],body :=
 (.seq (.reg v03) (.seq (.seq (.reg v04) (.cond (.t 15) (.seq (.reg v1d) .ret) .skip)) (.seq (.seq (.reg v1e) (.cond (.t 21) (.seq (.reg v1f) .ret) .skip)) (.seq (.seq (.reg v1g) (.block 0 (.loop u5o))) (.seq (.reg v1b) (.seq (.reg v1c) .ret)))))) }
def o3z:List XO:=[O1 4 (.mv (.c (.bool false)))]
def o30:List XO:=[O3 5 0,O3 6 1,O1 7 (.call "slices.IndexFunc[newel/api.Term,newel/api.Literal]" [.t 5,.t 6]),O1 8 (.bin .geq .no (.t 7) (c9 0)),O3 4 8]
def x_slices_ContainsFunc_api_Term_api_Literal_:XFunc:={ np:=2,res:=[.t 4],body :=
 (.seq (.reg o3z) (.seq (.reg o30) .ret)) }
def o0j:List XO:=[O1 2 (.boxF (.t 0)),O1 3 (.mv (.c (.bool false)))]
def o0k:List XO:=[O6 4 5 1,O1 5 (.load true 4 (.tf 2)),O1 6 (.call "newel/situation.asks" [.t 4,.t 5]),O1 7 (.un .not (.t 6)),O3 3 7]
def x_situation_AskedD1:XFunc:={ np:=2,res:=[.t 3],body :=
 (.seq (.reg o0j) (.seq (.reg o0k) .ret)) }
def o2f:List XO:=[O1 2 (.boxF (.t 0)),O1 3 (.boxF (.t 1)),O1 4 (.mv (.c (.bool false)))]
def o2g:List XO:=[O1 5 (.fldA 0 (.tf 3)),O1 6 (.load false 1 (.tf 5))]
def o2i:List XO:=[O1 8 (.bin .eql .no (.t 6) (c9 1)),O3 7 8]
def o2j:List XO:=[O1 9 (.fldA 1 (.tf 3)),O1 10 (.load false 1 (.tf 9)),O1 11 (.fldA 0 (.tf 2)),O1 12 (.load false 1 (.tf 11)),O8 13 12,O1 14 (.bin .sub .no (.t 13) (c9 1)),O1 15 (.call "newel/situation.within" [.t 10,(c9 0),.t 14]),O3 16 15,O9 17 16 true (.fldA 2 (.tf 3)),O9 18 16 true (.load false 1 (.tf 17)),O9 19 16 true (.bin .eql .no (.t 18) (c9 0)),O1 20 (.pick (.t 16) (.t 19) (.c (.bool false))),O3 4 20]
def o2k:List XO:=[O1 22 (.bin .eql .no (.t 6) (c9 2)),O3 21 22]
def o2l:List XO:=[O1 23 (.fldA 1 (.tf 3)),O1 24 (.load false 1 (.tf 23)),O1 25 (.fldA 2 (.tf 2)),O1 26 (.load false 1 (.tf 25)),O8 27 26,O1 28 (.bin .sub .no (.t 27) (c9 1)),O1 29 (.call "newel/situation.within" [.t 24,(c9 0),.t 28]),O3 30 29,O9 31 30 true (.fldA 2 (.tf 3)),O9 32 30 true (.load false 1 (.tf 31)),O9 33 30 true (.fldA 2 (.tf 2)),O9 34 30 true (.load false 1 (.tf 33)),O9 35 30 true (.fldA 1 (.tf 3)),O9 36 30 true (.load false 1 (.tf 35)),O9 37 30 true (.ixA 2 (.t 34) (.t 36)),O9 38 30 true (.fldA 1 (.t 37)),O9 39 30 true (.load false 1 (.t 38)),O9 40 30 true (.call "newel/situation.within" [.t 32,(c9 0),.t 39]),O1 41 (.pick (.t 30) (.t 40) (.c (.bool false))),O3 4 41]
def o2m:List XO:=[O1 43 (.bin .eql .no (.t 6) (c9 3)),O3 42 43]
def o2n:List XO:=[O1 44 (.fldA 1 (.tf 3)),O1 45 (.load false 1 (.tf 44)),O1 46 (.fldA 3 (.tf 2)),O1 47 (.load false 1 (.tf 46)),O8 48 47,O1 49 (.bin .sub .no (.t 48) (c9 1)),O1 50 (.call "newel/situation.within" [.t 45,(c9 0),.t 49]),O3 51 50,O9 52 51 true (.fldA 2 (.tf 3)),O9 53 51 true (.load false 1 (.tf 52)),O9 54 51 true (.bin .eql .no (.t 53) (c9 0)),O1 55 (.pick (.t 51) (.t 54) (.c (.bool false))),O3 4 55]
def o2o:List XO:=[O1 57 (.bin .eql .no (.t 6) (c9 4)),O3 56 57]
def o2p:List XO:=[O1 58 (.fldA 1 (.tf 3)),O1 59 (.load false 1 (.tf 58)),O1 60 (.fldA 1 (.tf 2)),O1 61 (.load false 1 (.tf 60)),O8 62 61,O1 63 (.bin .sub .no (.t 62) (c9 1)),O1 64 (.call "newel/situation.within" [.t 59,(c9 0),.t 63]),O3 65 64,O9 66 65 true (.fldA 2 (.tf 3)),O9 67 65 true (.load false 1 (.tf 66)),O9 68 65 true (.bin .eql .no (.t 67) (c9 0)),O1 69 (.pick (.t 65) (.t 68) (.c (.bool false))),O3 4 69]
def o2h:List XO:=[O1 4 (.mv (.c (.bool false)))]
def x_situation_asks:XFunc:={ np:=2,res:=[.t 4],body :=
 (.seq (.reg o2f) (.seq (.seq (.reg o2g) (.block 0 (.seq (.reg o2i) (.cond (.t 7) (.seq (.reg o2j) .ret) (.seq (.reg o2k) (.cond (.t 21) (.seq (.reg o2l) .ret) (.seq (.reg o2m) (.cond (.t 42) (.seq (.reg o2n) .ret) (.seq (.reg o2o) (.cond (.t 56) (.seq (.reg o2p) .ret) .skip)))))))))) (.seq (.reg o2h) .ret))) }
def w9t:List XO:=[O3 3 0,O4 4 1 1,O1 5 (.nilck (.t 3)),O5 6 17 5,O2 (.store 1 (.t 6) (.t 4))]
def o3x:List XO:=[O1 4 (.mv (.c (.bool false)))]
def o3y:List XO:=[O3 5 0,O3 6 1,O1 7 (.call "slices.IndexFunc[newel/api.Cond,newel/api.Term]" [.t 5,.t 6]),O1 8 (.bin .geq .no (.t 7) (c9 0)),O3 4 8]
def x_slices_ContainsFunc_api_Cond_api_Term_:XFunc:={ np:=2,res:=[.t 4],body :=
 (.seq (.reg o3x) (.seq (.reg o3y) .ret)) }
def l9d:List XO:=[O1 5 (.mv (.c (.bool false)))]
def l9e:List XO:=[O3 6 0,O1 7 (.mkfn "(newel/situation.Plant).Holds$1$1" [] [.t 1,.t 2,.t 3]),O1 8 (.call "slices.ContainsFunc[newel/api.Term,newel/api.Literal]" [.t 6,.t 7]),O1 9 (.un .not (.t 8)),O3 5 9]
def x__situation_Plant__HoldsD1:XFunc:={ np:=4,res:=[.t 5],body :=
 (.seq (.reg l9d) (.seq (.reg l9e) .ret)) }
def l9b:List XO:=[O1 4 (.boxF (.t 0)),O1 5 (.mv (.c (.bool false)))]
def l9c:List XO:=[O6 6 5 1,O1 7 (.load true 4 (.tf 4)),O6 8 3 2,O4 9 1 3,O1 10 (.call "(newel/situation.Plant).literal" [.t 6,.t 7,.t 8,.t 9]),O1 11 (.un .not (.t 10)),O3 5 11]
def x__situation_Plant__HoldsD1D1:XFunc:={ np:=4,res:=[.t 5],body :=
 (.seq (.reg l9b) (.seq (.reg l9c) .ret)) }
def l9u:List XO:=[O1 4 (.boxF (.t 0)),O1 5 (.boxF (.t 1)),O1 6 (.boxF (.t 2)),O1 8 (.mv (.c (.bool false)))]
def l9v:List XO:=[O1 9 (.mv (.c (.bool false)))]
def l9y:List XO:=[O1 10 (.fldA 0 (.tf 5)),O1 11 (.load false 1 (.tf 10))]
def l9z:List XO:=[O1 13 (.bin .eql .no (.t 11) (c9 1)),O3 12 13]
def l90:List XO:=[O3 14 3,O1 15 (.fldA 1 (.tf 5)),O1 16 (.load false 1 (.tf 15)),O1 17 (.bin .shr .no (.t 14) (.t 16)),O1 18 (.bin .and .no (.t 17) (c9 1)),O1 19 (.bin .eql .no (.t 18) (c9 1)),O3 9 19]
def l91:List XO:=[O1 21 (.bin .eql .no (.t 11) (c9 2)),O3 20 21]
def l92:List XO:=[O1 22 (.fldA 1 (.tf 5)),O1 23 (.load false 1 (.tf 22)),O1 24 (.fldA 1 (.tf 6)),O1 25 (.ixP 1 2 (.t 24) (.t 23)),O1 26 (.load false 1 (.tf 25)),O1 27 (.fldA 2 (.tf 5)),O1 28 (.load false 1 (.tf 27)),O1 29 (.bin .geq .no (.t 26) (.t 28)),O3 9 29]
def v2e:List XO:=[O1 31 (.bin .eql .no (.t 11) (c9 3)),O3 30 31]
def l94:List XO:=[O1 32 (.fldA 0 (.tf 6)),O1 33 (.load false 1 (.tf 32)),O1 34 (.fldA 1 (.tf 5)),O1 35 (.load false 1 (.tf 34)),O1 36 (.bin .eql .no (.t 33) (.t 35)),O3 9 36]
def l95:List XO:=[O1 38 (.bin .eql .no (.t 11) (c9 4)),O3 37 38]
def l9w:List XO:=[O1 39 (.fldA 0 (.tf 4)),O1 40 (.fldA 3 (.tf 39)),O1 41 (.load false 1 (.tf 40)),O1 42 (.fldA 0 (.tf 6)),O1 43 (.load false 1 (.tf 42)),O7 44 2 41 43,O5 45 1 44,O4 46 1 45,O1 47 (.fldA 1 (.tf 5)),O1 48 (.load false 1 (.tf 47)),O1 49 (.bin .shr .no (.t 46) (.t 48)),O1 50 (.bin .and .no (.t 49) (c9 1)),O1 51 (.bin .eql .no (.t 50) (c9 1)),O3 9 51]
def l9x:List XO:=[O3 52 9,O1 53 (.fldA 3 (.tf 5)),O1 54 (.load false 1 (.tf 53)),O1 55 (.bin .neq .bool (.t 52) (.t 54)),O3 8 55]
def x__situation_Plant__literal:XFunc:={ np:=4,res:=[.t 8],body :=
 (.seq (.reg l9u) (.seq (.reg l9v) (.seq (.seq (.reg l9y) (.block 0 (.seq (.reg l9z) (.cond (.t 12) (.reg l90) (.seq (.reg l91) (.cond (.t 20) (.reg l92) (.seq (.reg v2e) (.cond (.t 30) (.reg l94) (.seq (.reg l95) (.cond (.t 37) (.reg l9w) .skip)))))))))) (.seq (.reg l9x) .ret)))) }
def w9q:List XO:=[O3 3 0,O4 4 1 1,O1 5 (.nilck (.t 3)),O5 6 16 5,O2 (.store 1 (.t 6) (.t 4))]
def m98:List XO:=[O1 1 (.boxF (.t 0)),O1 2 (.mv (.c (.slice none 0 0)))]
def m99:List XO:=[O1 6 (.bsl 1 []),O1 7 (.fldA 0 (.tf 1)),O1 8 (.load false 1 (.tf 7)),O1 9 (.app 1 16 (.t 6) (.t 8)),O1 10 (.fldA 1 (.tf 1)),O1 11 (.load false 1 (.tf 10)),O1 12 (.app 1 16 (.t 9) (.t 11)),O3 3 12]
def o0c:List XO:=[O1 4 (.mv (c9 0))]
def o0d:List XO:=[O3 13 4,O1 14 (.fldA 2 (.tf 1)),O1 15 (.load false 1 (.tf 14)),O8 16 15,O1 17 (.bin .lss .no (.t 13) (.t 16))]
def o0e:List XO:=[O3 20 3,O1 21 (.fldA 2 (.tf 1)),O1 22 (.load false 1 (.tf 21)),O3 23 4,O7 24 2 22 23,O5 25 0 24,O4 26 1 25,O1 27 (.bsl 1 [.t 26]),O1 28 (.app 1 16 (.t 20) (.t 27)),O3 3 28]
def o0f:List XO:=[O3 18 4,O1 19 (.bin .add .no (.t 18) (c9 1)),O3 4 19]
def g44:XCode :=
 (.seq (.seq (.reg o0d) (.cond (.t 17) .skip (.exit 0))) (.seq (.block 1 (.reg o0e)) (.reg o0f)))
def o0g:List XO:=[O1 5 (.mv (c9 0))]
def o0h:List XO:=[O3 29 5,O1 30 (.fldA 3 (.tf 1)),O1 31 (.load false 1 (.tf 30)),O8 32 31,O1 33 (.bin .lss .no (.t 29) (.t 32))]
def o0i:List XO:=[O3 36 3,O1 37 (.fldA 3 (.tf 1)),O1 38 (.load false 1 (.tf 37)),O3 39 5,O7 40 2 38 39,O5 41 0 40,O4 42 1 41,O1 43 (.bsl 1 [.t 42]),O1 44 (.app 1 16 (.t 36) (.t 43)),O3 3 44]
def o0a:List XO:=[O3 34 5,O1 35 (.bin .add .no (.t 34) (c9 1)),O3 5 35]
def g43:XCode :=
 (.seq (.seq (.reg o0h) (.cond (.t 33) .skip (.exit 2))) (.seq (.block 3 (.reg o0i)) (.reg o0a)))
def o0b:List XO:=[O3 45 3,O3 2 45]
def x_r04_names:XFunc:={ np:=1,res:=[.t 2],body :=
 (.seq (.reg m98) (.seq (.reg m99) (.seq (.seq (.reg o0c) (.block 0 (.loop g44))) (.seq (.seq (.reg o0g) (.block 2 (.loop g43))) (.seq (.reg o0b) .ret))))) }
def m75:List XO:=[O1 2 (.mv (.c (.bool false)))]
def m76:List XO:=[O1 3 (.mv (c9 0))]
def m8a:List XO:=[O3 5 3,O1 6 (.load false 1 (.g 0 b6h)),O8 7 6,O1 8 (.bin .lss .no (.t 5) (.t 7))]
def m8b:List XO:=[O3 11 0,O1 12 (.load false 1 (.g 0 b6h)),O3 13 3,O7 14 1 12 13,O4 15 1 14,O1 16 (.bin .eql .no (.t 11) (.t 15))]
def m8c:List XO:=[O1 2 (.mv (.c (.bool false)))]
def m8d:List XO:=[O3 9 3,O1 10 (.bin .add .no (.t 9) (c9 1)),O3 3 10]
def g4x:XCode :=
 (.seq (.seq (.reg m8a) (.cond (.t 8) .skip (.exit 0))) (.seq (.block 1 (.seq (.reg m8b) (.cond (.t 16) (.seq (.reg m8c) .ret) .skip))) (.reg m8d)))
def m8e:List XO:=[O1 4 (.mv (c9 0))]
def m8f:List XO:=[O3 17 4,O3 18 0,O1 19 (.len true (.t 18)),O1 20 (.bin .lss .no (.t 17) (.t 19))]
def m8g:List XO:=[O3 23 0,O3 24 4,O1 25 (.ixS (.t 23) (.t 24)),O1 26 (.bin .lss .no (.t 25) (.c (.int .u8 97))),O3 27 26,O9 28 27 false (.mv (.t 0)),O9 29 27 false (.mv (.t 4)),O9 30 27 false (.ixS (.t 28) (.t 29)),O9 31 27 false (.bin .gtr .no (.t 30) (.c (.int .u8 122))),O1 32 (.pick (.t 27) (.c (.bool true)) (.t 31))]
def m77:List XO:=[O1 2 (.mv (.c (.bool false)))]
def m78:List XO:=[O3 21 4,O1 22 (.bin .add .no (.t 21) (c9 1)),O3 4 22]
def g4w:XCode :=
 (.seq (.seq (.reg m8f) (.cond (.t 20) .skip (.exit 2))) (.seq (.block 3 (.seq (.reg m8g) (.cond (.t 32) (.seq (.reg m77) .ret) .skip))) (.reg m78)))
def m79:List XO:=[O3 33 0,O1 34 (.len true (.t 33)),O1 35 (.bin .gtr .no (.t 34) (c9 0)),O3 2 35]
def x_r04_Word:XFunc:={ np:=1,res:=[.t 2],body :=
 (.seq (.reg m75) (.seq (.seq (.reg m76) (.block 0 (.loop g4x))) (.seq (.seq (.reg m8e) (.block 2 (.loop g4w))) (.seq (.reg m79) .ret)))) }
def o2q:List XO:=[O1 1 (.boxF (.t 0)),O1 2 (.mv (.c (.bool false)))]
def o2r:List XO:=[O1 6 (.callw "#mk" []),O3 3 6]
def o2t:List XO:=[O1 7 (.load true 5 (.tf 1)),O1 8 (.call "newel/situation.names" [.t 7]),O8 9 8,O1 10 (.mv (c9 0))]
def o2u:List XO:=[O1 11 (.bin .lss .no (.t 10) (.t 9))]
def o2v:List XO:=[O7 12 1 8 10,O4 13 1 12,O3 5 13]
def o2w:List XO:=[O3 14 3,O3 15 5,O1 16 (.callw "#ls" [.t 14,.t 15,(c9 0),(c9 0)]),O1 17 (.bin .add .no (.t 16) (c9 1)),O2 (.callw "#ps" [.t 14,.t 15,.t 17,(c9 0)])]
def o2x:List XO:=[O3 18 5,O1 19 (.call "newel/situation.Plain" [.t 18]),O1 20 (.un .not (.t 19)),O3 21 20,O9 22 21 false (.mv (.t 5)),O9 23 21 false (.len true (.t 22)),O9 24 21 false (.bin .gtr .no (.t 23) (c9 8)),O1 25 (.pick (.t 21) (.c (.bool true)) (.t 24)),O3 26 25,O9 27 26 false (.mv (.t 5)),O9 28 26 false (.call "newel/situation.Reserved" [.t 27]),O1 29 (.pick (.t 26) (.c (.bool true)) (.t 28)),O3 30 29,O9 31 30 false (.mv (.t 3)),O9 32 30 false (.mv (.t 5)),O9 33 30 false (.callw "#ls" [.t 31,.t 32,(c9 0),(c9 0)]),O9 34 30 false (.bin .gtr .no (.t 33) (c9 1)),O1 35 (.pick (.t 30) (.c (.bool true)) (.t 34))]
def o2y:List XO:=[O1 2 (.mv (.c (.bool false)))]
def o2z:List XO:=[O1 36 (.bin .add .no (.t 10) (c9 1)),O3 10 36]
def g5c:XCode :=
 (.seq (.reg o2u) (.seq (.cond (.t 11) .skip (.exit 0)) (.seq (.block 1 (.seq (.reg o2v) (.seq (.reg o2w) (.seq (.reg o2x) (.cond (.t 35) (.seq (.reg o2y) .ret) .skip))))) (.reg o2z))))
def o2s:List XO:=[O1 2 (.mv (.c (.bool true)))]
def x_situation_named:XFunc:={ np:=1,res:=[.t 2],body :=
 (.seq (.reg o2q) (.seq (.reg o2r) (.seq (.seq (.reg o2t) (.block 0 (.loop g5c))) (.seq (.reg o2s) .ret)))) }
def o0v:List XO:=[O1 1 (.boxF (.t 0)),O1 2 (.mv (.c (.bool false)))]
def o0w:List XO:=[O1 3 (.fldA 0 (.tf 1)),O1 4 (.load false 1 (.tf 3)),O1 5 (.bin .eql .no (.t 4) (c9 3)),O3 2 5]
def x_situation_CheckD1:XFunc:={ np:=1,res:=[.t 2],body :=
 (.seq (.reg o0v) (.seq (.reg o0w) .ret)) }
def v1p:List XO:=[O1 4 (.boxF (.t 1)),O1 6 (.mv (c9 0)),O1 7 (.mv (.c (.bool false)))]
def v1q:List XO:=[O1 12 (.fldA 4 (.tf 4)),O1 13 (.load false 1 (.tf 12)),O3 8 13]
def v1z:List XO:=[O3 14 0,O1 15 (.nilck (.t 14)),O5 16 0 15,O5 17 7 16,O4 18 1 17,O8 19 18,O1 20 (.mv (c9 0))]
def x1l:List XO:=[O1 21 (.bin .lss .no (.t 20) (.t 19))]
def v12:List XO:=[O3 22 20,O7 23 4 18 20,O6 24 4 23,O1 10 (.alloc [(.int .i64 0),(.int .i64 0),(.bool false),(.slice none 0 0)]),O3 9 22,O2 (.store 4 (.t 10) (.t 24))]
def v13:List XO:=[O3 25 0,O1 26 (.nilck (.t 25)),O5 27 16 26,O4 28 1 27,O3 29 9,O1 30 (.callv (.t 28) [.t 29]),O1 31 (.un .not (.t 30)),O3 32 31,O9 33 32 false (.fldA 0 (.tf 4)),O9 34 32 false (.load false 1 (.tf 33)),O9 35 32 false (.fldA 0 (.t 10)),O9 36 32 false (.load false 1 (.t 35)),O9 37 32 false (.bin .lss .no (.t 34) (.t 36)),O1 38 (.pick (.t 32) (.c (.bool true)) (.t 37)),O3 39 38,O9 40 39 false (.fldA 0 (.tf 4)),O9 41 39 false (.load false 1 (.tf 40)),O9 42 39 false (.fldA 1 (.t 10)),O9 43 39 false (.load false 1 (.t 42)),O9 44 39 false (.bin .gtr .no (.t 41) (.t 43)),O1 45 (.pick (.t 39) (.c (.bool true)) (.t 44))]
def v14:List XO:=[O3 46 0,O1 47 (.nilck (.t 46)),O5 48 8 47,O6 49 5 48,O5 50 3 10,O4 51 1 50,O1 52 (.fldA 1 (.tf 4)),O1 53 (.load true 3 (.tf 52)),O3 54 2,O1 55 (.call "(newel/situation.Plant).Holds" [.t 49,.t 51,.t 53,.t 54]),O3 11 55]
def v15:List XO:=[O5 57 2 10,O4 58 1 57,O3 59 58,O9 60 59 true (.mv (.t 11)),O9 61 59 true (.un .not (.t 60)),O1 62 (.pick (.t 59) (.t 61) (.c (.bool false))),O3 56 62]
def v16:List XO:=[O1 6 (.mv (c9 0)),O1 7 (.mv (.c (.bool false)))]
def v18:List XO:=[O5 64 2 10,O4 65 1 64,O3 63 65]
def v1r:List XO:=[O3 67 11,O3 68 67,O9 69 68 true (.fldA 0 (.tf 4)),O9 70 68 true (.load false 1 (.tf 69)),O9 71 68 true (.fldA 1 (.t 10)),O9 72 68 true (.load false 1 (.t 71)),O9 73 68 true (.bin .lss .no (.t 70) (.t 72)),O1 74 (.pick (.t 68) (.t 73) (.c (.bool false))),O3 66 74]
def v1s:List XO:=[O3 75 8,O3 76 9,O1 77 (.bin .shl .no (c9 1) (.t 76)),O1 78 (.bin .or .no (.t 75) (.t 77)),O3 8 78]
def v1t:List XO:=[O3 80 11,O1 81 (.un .not (.t 80)),O3 82 81,O9 83 82 true (.fldA 0 (.tf 4)),O9 84 82 true (.load false 1 (.tf 83)),O9 85 82 true (.fldA 1 (.t 10)),O9 86 82 true (.load false 1 (.t 85)),O9 87 82 true (.bin .eql .no (.t 84) (.t 86)),O1 88 (.pick (.t 82) (.t 87) (.c (.bool false))),O3 89 88,O9 90 89 true (.mv (.t 8)),O9 91 89 true (.mv (.t 9)),O9 92 89 true (.bin .shr .no (.t 90) (.t 91)),O9 93 89 true (.bin .and .no (.t 92) (c9 1)),O9 94 89 true (.bin .eql .no (.t 93) (c9 0)),O1 95 (.pick (.t 89) (.t 94) (.c (.bool false))),O3 79 95]
def v1u:List XO:=[O1 6 (.mv (c9 0)),O1 7 (.mv (.c (.bool false)))]
def v1v:List XO:=[O1 96 (.fldA 0 (.tf 4)),O1 97 (.load false 1 (.tf 96)),O5 98 1 10,O4 99 1 98,O1 100 (.bin .eql .no (.t 97) (.t 99))]
def v1w:List XO:=[O3 101 8,O3 102 9,O1 103 (.bin .shl .no (c9 1) (.t 102)),O1 104 (.bin .andNot .no (.t 101) (.t 103)),O3 8 104]
def v1x:List XO:=[O1 105 (.bin .add .no (.t 20) (c9 1)),O3 20 105]
def u5p:XCode :=
 (.seq (.reg x1l) (.seq (.cond (.t 21) .skip (.exit 0)) (.seq (.block 1 (.seq (.reg v12) (.seq (.seq (.reg v13) (.cond (.t 45) (.exit 1) .skip)) (.seq (.reg v14) (.seq (.block 2 (.seq (.reg v15) (.cond (.t 56) (.seq (.reg v16) .ret) (.seq (.reg v18) (.cond (.t 63) .skip (.seq (.reg v1r) (.cond (.t 66) (.reg v1s) (.seq (.reg v1t) (.cond (.t 79) (.seq (.reg v1u) .ret) .skip))))))))) (.seq (.reg v1v) (.cond (.t 100) (.reg v1w) .skip))))))) (.reg v1x))))
def v1y:List XO:=[O3 106 8,O3 6 106,O1 7 (.mv (.c (.bool true)))]
def x___faults_inquiry__seen:XFunc:={ np:=3,res:=[.t 6,.t 7],body :=
 (.seq (.reg v1p) (.seq (.reg v1q) (.seq (.seq (.reg v1z) (.block 0 (.loop u5p))) (.seq (.reg v1y) .ret)))) }
def v1l:List XO:=[O1 6 (.mv (c9 0))]
def v1m:List XO:=[O3 7 0,O1 8 (.nilck (.t 7)),O5 9 13 8,O5 10 0 9,O4 11 1 10,O1 12 (.bin .lss .no (.t 11) (c9 0)),O3 13 12,O9 14 13 false (.mv (.t 1)),O9 15 13 false (.mv (.t 0)),O9 16 13 false (.nilck (.t 15)),O9 17 13 false (.fldA 13 (.t 16)),O9 18 13 false (.fldA 2 (.t 17)),O9 19 13 false (.load false 1 (.t 18)),O9 20 13 false (.bin .lss .no (.t 14) (.t 19)),O1 21 (.pick (.t 13) (.c (.bool true)) (.t 20))]
def v1n:List XO:=[O3 22 2,O3 6 22]
def v1o:List XO:=[O3 23 2,O3 24 0,O1 25 (.nilck (.t 24)),O5 26 13 25,O5 27 0 26,O4 28 1 27,O1 29 (.bin .shl .no (c9 1) (.t 28)),O1 30 (.bin .andNot .no (.t 23) (.t 29)),O3 31 0,O1 32 (.nilck (.t 31)),O5 33 13 32,O5 34 1 33,O4 35 1 34,O3 36 0,O1 37 (.nilck (.t 36)),O5 38 13 37,O5 39 0 38,O4 40 1 39,O1 41 (.bin .shl .no (.t 35) (.t 40)),O1 42 (.bin .or .no (.t 30) (.t 41)),O3 6 42]
def x___faults_inquiry__heard:XFunc:={ np:=3,res:=[.t 6],body :=
 (.seq (.reg v1l) (.seq (.seq (.reg v1m) (.cond (.t 21) (.seq (.reg v1n) .ret) .skip)) (.seq (.reg v1o) .ret))) }
def o4z:List XO:=[O1 4 (.mv (c9 0))]
def o40:List XO:=[O3 6 0,O8 7 6,O1 8 (.mv (c9 0))]
def o41:List XO:=[O1 9 (.bin .lss .no (.t 8) (.t 7))]
def o42:List XO:=[O3 10 8,O3 5 10]
def o43:List XO:=[O3 11 1,O3 12 0,O3 13 5,O7 14 4 12 13,O6 15 4 14,O1 16 (.callv (.t 11) [.t 15])]
def o44:List XO:=[O3 17 5,O3 4 17]
def o45:List XO:=[O1 18 (.bin .add .no (.t 8) (c9 1)),O3 8 18]
def g5f:XCode :=
 (.seq (.reg o41) (.seq (.cond (.t 9) .skip (.exit 0)) (.seq (.block 1 (.seq (.reg o42) (.seq (.reg o43) (.cond (.t 16) (.seq (.reg o44) .ret) .skip)))) (.reg o45))))
def o46:List XO:=[O1 4 (.mv (.c (.int .i64 (-1))))]
def x_slices_IndexFunc_api_Term_api_Literal_:XFunc:={ np:=2,res:=[.t 4],body :=
 (.seq (.reg o4z) (.seq (.seq (.reg o40) (.block 0 (.loop g5f))) (.seq (.reg o46) .ret))) }
def o4r:List XO:=[O1 4 (.mv (c9 0))]
def o4s:List XO:=[O3 6 0,O8 7 6,O1 8 (.mv (c9 0))]
def o4t:List XO:=[O1 9 (.bin .lss .no (.t 8) (.t 7))]
def o4u:List XO:=[O3 10 8,O3 5 10]
def o4v:List XO:=[O3 11 1,O3 12 0,O3 13 5,O7 14 1 12 13,O4 15 1 14,O1 16 (.callv (.t 11) [.t 15])]
def o4w:List XO:=[O3 17 5,O3 4 17]
def o4x:List XO:=[O1 18 (.bin .add .no (.t 8) (c9 1)),O3 8 18]
def g5e:XCode :=
 (.seq (.reg o4t) (.seq (.cond (.t 9) .skip (.exit 0)) (.seq (.block 1 (.seq (.reg o4u) (.seq (.reg o4v) (.cond (.t 16) (.seq (.reg o4w) .ret) .skip)))) (.reg o4x))))
def o4y:List XO:=[O1 4 (.mv (.c (.int .i64 (-1))))]
def x_slices_IndexFunc_api_Cond_api_Term_:XFunc:={ np:=2,res:=[.t 4],body :=
 (.seq (.reg o4r) (.seq (.seq (.reg o4s) (.block 0 (.loop g5e))) (.seq (.reg o4y) .ret))) }
def o20:List XO:=[O1 1 (.boxF (.t 0)),O1 2 (.mv (.c (.slice none 0 0)))]
def o21:List XO:=[O1 8 (.fldA 0 (.tf 1)),O1 9 (.load false 1 (.tf 8)),O1 10 (.fldA 1 (.tf 1)),O1 11 (.load false 1 (.tf 10)),O1 12 (.bsl 1 [.t 9,.t 11]),O1 13 (.call "slices.Concat[[]string,string]" [.t 12]),O3 3 13]
def o26:List XO:=[O1 14 (.fldA 2 (.tf 1)),O1 15 (.load false 1 (.tf 14)),O8 16 15,O1 17 (.mv (c9 0))]
def o27:List XO:=[O1 18 (.bin .lss .no (.t 17) (.t 16))]
def o28:List XO:=[O7 19 2 15 17,O6 20 2 19,O1 5 (.alloc [(.string (ByteArray.mk #[])),(.int .i64 0)]),O2 (.store 2 (.t 5) (.t 20))]
def o29:List XO:=[O3 21 3,O5 22 0 5,O4 23 1 22,O1 24 (.bsl 1 [.t 23]),O1 25 (.app 1 16 (.t 21) (.t 24)),O3 3 25]
def o3a:List XO:=[O1 26 (.bin .add .no (.t 17) (c9 1)),O3 17 26]
def d5l:XCode :=
 (.seq (.reg o27) (.seq (.cond (.t 18) .skip (.exit 0)) (.seq (.block 1 (.seq (.reg o28) (.reg o29))) (.reg o3a))))
def o3b:List XO:=[O1 27 (.fldA 3 (.tf 1)),O1 28 (.load false 1 (.tf 27)),O8 29 28,O1 30 (.mv (c9 0))]
def o3c:List XO:=[O1 31 (.bin .lss .no (.t 30) (.t 29))]
def o22:List XO:=[O7 32 2 28 30,O6 33 2 32,O1 7 (.alloc [(.string (ByteArray.mk #[])),(.int .i64 0)]),O2 (.store 2 (.t 7) (.t 33))]
def o23:List XO:=[O3 34 3,O5 35 0 7,O4 36 1 35,O1 37 (.bsl 1 [.t 36]),O1 38 (.app 1 16 (.t 34) (.t 37)),O3 3 38]
def o24:List XO:=[O1 39 (.bin .add .no (.t 30) (c9 1)),O3 30 39]
def d5k:XCode :=
 (.seq (.reg o3c) (.seq (.cond (.t 31) .skip (.exit 2)) (.seq (.block 3 (.seq (.reg o22) (.reg o23))) (.reg o24))))
def o25:List XO:=[O3 40 3,O3 2 40]
def x_situation_names:XFunc:={ np:=1,res:=[.t 2],body :=
 (.seq (.reg o20) (.seq (.reg o21) (.seq (.seq (.reg o26) (.block 0 (.loop d5l))) (.seq (.seq (.reg o3b) (.block 2 (.loop d5k))) (.seq (.reg o25) .ret))))) }
def o1v:List XO:=[O1 2 (.mv (.c (.bool false)))]
def o1w:List XO:=[O3 5 0,O1 6 (.callw "#sb" [.t 5]),O8 7 6,O1 8 (.mv (c9 0))]
def o1x:List XO:=[O1 9 (.bin .lss .no (.t 8) (.t 7))]
def o1y:List XO:=[O7 10 1 6 8,O4 11 1 10,O3 4 11]
def o1z:List XO:=[O3 12 4,O1 13 (.bin .lss .no (.t 12) (.c (.int .u8 97))),O3 14 13,O9 15 14 false (.mv (.t 4)),O9 16 14 false (.bin .gtr .no (.t 15) (.c (.int .u8 122))),O1 17 (.pick (.t 14) (.c (.bool true)) (.t 16))]
def o10:List XO:=[O1 2 (.mv (.c (.bool false)))]
def o11:List XO:=[O1 18 (.bin .add .no (.t 8) (c9 1)),O3 8 18]
def g5b:XCode :=
 (.seq (.reg o1x) (.seq (.cond (.t 9) .skip (.exit 0)) (.seq (.block 1 (.seq (.reg o1y) (.seq (.reg o1z) (.cond (.t 17) (.seq (.reg o10) .ret) .skip)))) (.reg o11))))
def o12:List XO:=[O3 19 0,O1 20 (.bin .neq .no (.t 19) (.c (.string (ByteArray.mk #[])))),O3 2 20]
def x_situation_Plain:XFunc:={ np:=1,res:=[.t 2],body :=
 (.seq (.reg o1v) (.seq (.seq (.reg o1w) (.block 0 (.loop g5b))) (.seq (.reg o12) .ret))) }
def o13:List XO:=[O1 2 (.mv (.c (.bool false)))]
def o14:List XO:=[O3 3 0]
def o17:List XO:=[O1 5 (.bin .eql .no (.t 3) (.c (.string (ByteArray.mk #[97,110,121])))),O3 4 5]
def o18:List XO:=[O1 6 (.bin .eql .no (.t 3) (.c (.string (ByteArray.mk #[116,111])))),O3 4 6]
def o19:List XO:=[O1 7 (.bin .eql .no (.t 3) (.c (.string (ByteArray.mk #[122,101,114,111])))),O3 4 7]
def o2a:List XO:=[O1 8 (.bin .eql .no (.t 3) (.c (.string (ByteArray.mk #[109,111,114,101])))),O3 4 8]
def o2b:List XO:=[O1 9 (.bin .eql .no (.t 3) (.c (.string (ByteArray.mk #[108,101,115,115])))),O3 4 9]
def o2c:List XO:=[O1 10 (.bin .eql .no (.t 3) (.c (.string (ByteArray.mk #[105,102])))),O3 4 10]
def o2d:List XO:=[O1 11 (.bin .eql .no (.t 3) (.c (.string (ByteArray.mk #[121,101,115])))),O3 4 11]
def o2e:List XO:=[O1 12 (.bin .eql .no (.t 3) (.c (.string (ByteArray.mk #[110,111])))),O3 4 12]
def o15:List XO:=[O1 2 (.mv (.c (.bool true)))]
def o16:List XO:=[O1 2 (.mv (.c (.bool false)))]
def x_situation_Reserved:XFunc:={ np:=1,res:=[.t 2],body :=
 (.seq (.reg o13) (.seq (.seq (.reg o14) (.block 0 (.seq (.seq (.reg o17) (.cond (.t 4) .skip (.seq (.reg o18) (.cond (.t 4) .skip (.seq (.reg o19) (.cond (.t 4) .skip (.seq (.reg o2a) (.cond (.t 4) .skip (.seq (.reg o2b) (.cond (.t 4) .skip (.seq (.reg o2c) (.cond (.t 4) .skip (.seq (.reg o2d) (.cond (.t 4) .skip (.reg o2e))))))))))))))) (.cond (.t 4) (.seq (.reg o15) .ret) .skip)))) (.seq (.reg o16) .ret))) }
def o3f:List XO:=[O1 2 (.mv (.c (.slice none 0 0)))]
def o3g:List XO:=[O1 3 (.mv (c9 0))]
def o3o:List XO:=[O3 9 0,O8 10 9,O1 11 (.mv (c9 0))]
def o3p:List XO:=[O1 12 (.bin .lss .no (.t 11) (.t 10))]
def o3q:List XO:=[O7 13 1 9 11,O4 14 1 13,O3 5 14]
def o3r:List XO:=[O3 15 3,O3 16 5,O8 17 16,O1 18 (.bin .add .no (.t 15) (.t 17)),O3 3 18]
def o3s:List XO:=[O3 19 3,O1 20 (.bin .lss .no (.t 19) (c9 0))]
def o3t:List XO:=[O1 21 (.callw "#no" []),O2 (.callw "#no" [])]
def o3u:List XO:=[O1 22 (.bin .add .no (.t 11) (c9 1)),O3 11 22]
def d5n:XCode :=
 (.seq (.reg o3p) (.seq (.cond (.t 12) .skip (.exit 0)) (.seq (.block 1 (.seq (.reg o3q) (.seq (.reg o3r) (.seq (.reg o3s) (.cond (.t 20) (.reg o3t) .skip))))) (.reg o3u))))
def o3h:List XO:=[O3 23 3,O1 24 (.call "slices.Grow[[]string,string]" [(.c (.slice none 0 0)),.t 23]),O3 6 24]
def o3i:List XO:=[O3 25 0,O8 26 25,O1 27 (.mv (c9 0))]
def o3j:List XO:=[O1 28 (.bin .lss .no (.t 27) (.t 26))]
def o3k:List XO:=[O7 29 1 25 27,O4 30 1 29,O3 8 30]
def o3l:List XO:=[O3 31 6,O3 32 8,O1 33 (.app 1 16 (.t 31) (.t 32)),O3 6 33]
def o3m:List XO:=[O1 34 (.bin .add .no (.t 27) (c9 1)),O3 27 34]
def d5m:XCode :=
 (.seq (.reg o3j) (.seq (.cond (.t 28) .skip (.exit 2)) (.seq (.block 3 (.seq (.reg o3k) (.reg o3l))) (.reg o3m))))
def o3n:List XO:=[O3 35 6,O3 2 35]
def x_slices_Concat___string_string_:XFunc:={ np:=1,res:=[.t 2],body :=
 (.seq (.reg o3f) (.seq (.reg o3g) (.seq (.seq (.reg o3o) (.block 0 (.loop d5n))) (.seq (.reg o3h) (.seq (.seq (.reg o3i) (.block 2 (.loop d5m))) (.seq (.reg o3n) .ret)))))) }
def o4c:List XO:=[O1 4 (.mv (.c (.slice none 0 0)))]
def o4d:List XO:=[O3 5 1,O1 6 (.bin .lss .no (.t 5) (c9 0))]
def o4e:List XO:=[O1 7 (.callw "#no" []),O2 (.callw "#no" [])]
def o4f:List XO:=[O3 8 1,O3 9 0,O1 10 (.callw "#cap" [.t 9]),O3 11 0,O8 12 11,O1 13 (.bin .sub .no (.t 10) (.t 12)),O1 14 (.bin .sub .no (.t 8) (.t 13)),O3 1 14]
def o4g:List XO:=[O3 15 1,O1 16 (.bin .gtr .no (.t 15) (c9 0))]
def o4h:List XO:=[O3 17 0,O3 18 0,O1 19 (.callw "#cap" [.t 18]),O1 20 (.slc 1 (.t 17) none (some (.t 19))),O3 21 1,O1 22 (.callw "#ax" [.t 20,.t 21,(.c (.string (ByteArray.mk #[])))]),O3 23 0,O8 24 23,O1 25 (.slc 1 (.t 22) none (some (.t 24))),O3 0 25]
def o4i:List XO:=[O3 26 0,O3 4 26]
def x_slices_Grow___string_string_:XFunc:={ np:=2,res:=[.t 4],body :=
 (.seq (.reg o4c) (.seq (.seq (.reg o4d) (.cond (.t 6) (.reg o4e) .skip)) (.seq (.seq (.reg o4f) (.seq (.reg o4g) (.cond (.t 16) (.reg o4h) .skip))) (.seq (.reg o4i) .ret)))) }
attribute [go_sem] L2z L20 L3a L3k L3t L3u L3v L3w L3x L3y L21 L22 L23 L24 L25 L26 L27 L28 L29 L3b L3c L3d L3e L3f L3g L3h L3i L3j L3l L3m L3n L3o L3p L3q L3r L3s v7h v7i v7k v7l v7m v7n v7o v7p v7q v7r v7j v9r v9s v93 v95 v96 v97 v98 v99 w0a v9t v9u v9v v9w v9x v9y v9z v90 v91 v92 v94 v3n v3o v3p v3q v3r v3s v2v v2w v2x v2y v2z v21 v22 v23 w08 w09 w1a w1b L3z L30 L32 L33 L34 L35 L36 L37 L38 L31 r44 r45 r5g r5r r5w r5x r5y r5z r50 r51 r46 r47 r48 r49 r5a r5b r5c r5d r5e r5f r5h r5i r5j r5k r5l r5m r5n r5o r5p r5q r5s r5t r5u r5v m4i m4j m4l m4m m4n m4o m4p m4q m4r m4k w1o w1p m0l m0m m2z m20 l9h l9i l9m l9n l9o l9p l9q l9r l9s l9t l9j l9k l9l m9n m9o v4g v4h v4i v4j v4k v4l v4m v62 v63 v64 v65 v66 v67 v68 v69 v7a u5s u5t u5u v3t v3u v34 v39 v4a v4b v4c v4d v4e v4f v3v v3w v3x v3y v3z v30 v31 v32 v33 v35 v36 v37 v38 o0l o0m o0o o0p o0q o0r o0s o0t o0u o0n v7b v7c v7d v7e v7f v7g w9u w9v l9f l9g m2o m2p m2r m2s m2t m2u m2v m2w m2x m2y m2q w9r w9s r66 r67 r69 r7a r7b r7c r7d r7e r7f r68 l87 l88 l89 l9a r62 r63 r64 r65 K87 K89 m4s m4t m42 m5b m5l m5n m5o m5p m5q m5r m4u m4v m4w m4x m4y m4z m40 m41 m43 m44 m45 m46 m47 m48 m49 m5a m5c m5d m5e m5f m5g m5h m5i m5j m5k m5m m8j m8k m8v m81 m82 m83 m84 m85 m86 m87 m8l m8m m8n m8o m8p m8q m8r m8s m8t m8u m8w m8x m8y m8z m80 o0x o0y o08 o1i o1q o1r o1s o1t o1u o0z o00 o01 o02 o03 o04 o05 o06 o07 o09 o1a o1b o1c o1d o1e o1f o1g o1h o1j o1k o1l o1m o1n o1o o1p o3d o3e l96 s2c l98 l99 m0a m0b m0c m0d m0e v6y v6z v60 v61 v03 v04 v1d v1e v1f v1g v1h v1i v1j v1k v05 v06 v07 v08 v09 v1a v1b v1c o3z o30 o0j o0k o2f o2g o2i o2j o2k o2l o2m o2n o2o o2p o2h w9t o3x o3y l9d l9e l9b l9c l9u l9v l9y l9z l90 l91 l92 v2e l94 l95 l9w l9x w9q m98 m99 o0c o0d o0e o0f o0g o0h o0i o0a o0b m75 m76 m8a m8b m8c m8d m8e m8f m8g m77 m78 m79 o2q o2r o2t o2u o2v o2w o2x o2y o2z o2s o0v o0w v1p v1q v1z x1l v12 v13 v14 v15 v16 v18 v1r v1s v1t v1u v1v v1w v1x v1y v1l v1m v1n v1o o4z o40 o41 o42 o43 o44 o45 o46 o4r o4s o4t o4u o4v o4w o4x o4y o20 o21 o26 o27 o28 o29 o3a o3b o3c o22 o23 o24 o25 o1v o1w o1x o1y o1z o10 o11 o12 o13 o14 o17 o18 o19 o2a o2b o2c o2d o2e o15 o16 o3f o3g o3o o3p o3q o3r o3s o3t o3u o3h o3i o3j o3k o3l o3m o3n o4c o4d o4e o4f o4g o4h o4i
end Go.Nw.Tp2
