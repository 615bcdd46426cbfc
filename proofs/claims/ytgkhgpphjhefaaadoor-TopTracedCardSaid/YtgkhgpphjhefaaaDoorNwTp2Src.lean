/- The functions of a seat, as the abstract machine has them. -/
import Derived.Test.YtgkhgpphjhefaaaDoorNwI
set_option linter.all false
namespace Go.Nw.Tp2
@[go_sem] def O3 (d a : Nat) : XO := ⟨some d,none,.mv (.t a)⟩
@[go_sem] def O4 (d n a : Nat) : XO := ⟨some d,none,.load false n (.t a)⟩
@[go_sem] def O5 (d n a : Nat) : XO := ⟨some d,none,.fldA n (.t a)⟩
@[go_sem] def O6 (d n a : Nat) : XO := ⟨some d,none,.load true n (.t a)⟩
@[go_sem] def O7 (d n a b : Nat) : XO := ⟨some d,none,.ixA n (.t a) (.t b)⟩
@[go_sem] def O8 (d a : Nat) : XO := ⟨some d,none,.len false (.t a)⟩
@[go_sem] def O9 (d g : Nat) (p : Bool) (x : XOp) : XO := ⟨some d,some (g,p),x⟩
@[go_sem] def c9 (n : Int) : X := .c (.int .i64 n)
@[go_sem] def O1 (d : Nat) (x : XOp) : XO := ⟨some d,none,x⟩
@[go_sem] def O2 (x : XOp) : XO := ⟨none,none,x⟩
def b50 : List (List UInt8) := [[97, 110, 121], [116, 111], [122, 101, 114, 111], [109, 111, 114, 101], [108, 101, 115, 115], [105, 102], [121, 101, 115], [110, 111]]
def b6h : List GC := [.sl 1 (b50.map fun s => [.string ⟨s.toArray⟩])]
def z03 : List XO := [O1 3 (.boxF (.t 0)),O1 6 (.mv (.c (.bool false)))]
def z04 : List XO := [O1 19 (.load true 5 (.tf 3)),O3 20 1,O3 21 2,O8 22 21,O1 23 (.build [(.slice none 0 0), (.slice none 0 0), (.slice none 0 0), (.slice none 0 0), (.slice none 0 0), (.slice none 0 0), (.int .i64 0), (.slice none 0 0)] [(0, 5, (.t 19)), (5, 1, (.t 20)), (6, 1, (.t 22))]),O1 7 (.alloc [(.slice none 0 0), (.slice none 0 0), (.slice none 0 0), (.slice none 0 0), (.slice none 0 0), (.slice none 0 0), (.int .i64 0), (.slice none 0 0)]),O2 (.store 8 (.t 7) (.t 23))]
def z1e : List XO := [O3 24 2,O8 25 24,O1 26 (.bin .gtr .no (.t 25) (c9 5)),O3 27 26,O9 28 27 false (.load true 8 (.t 7)),O9 29 27 false (.call "newel/newellaw10.Deep" [.t 28]),O1 30 (.pick (.t 27) (.c (.bool true)) (.t 29)),O3 31 30,O9 32 31 false (.load true 8 (.t 7)),O9 33 31 false (.call "newel/newelref10.CheckAccident" [.t 32]),O9 34 31 false (.bin .neq .no (.t 33) (c9 0)),O1 35 (.pick (.t 31) (.c (.bool true)) (.t 34))]
def z1k : List XO := [O1 36 (.call "newel/neweltop.measures" []),O3 6 36]
def z1l : List XO := [O1 37 (.build [(.int .i64 0), (.int .i64 0), (.int .i64 0)] []),O1 8 (.alloc [(.int .i64 0), (.int .i64 0), (.int .i64 0)]),O2 (.store 3 (.t 8) (.t 37))]
def z1m : List XO := [O1 9 (.mv (c9 0))]
def z1n : List XO := [O3 38 9,O3 39 2,O8 40 39,O1 41 (.bin .lss .no (.t 38) (.t 40))]
def z1o : List XO := [O3 44 2,O3 45 9,O7 46 1 44 45,O4 47 1 46,O1 48 (.bin .lss .no (.t 47) (c9 0)),O3 49 48,O9 50 49 false (.mv (.t 2)),O9 51 49 false (.mv (.t 9)),O9 52 49 false (.ixA 1 (.t 50) (.t 51)),O9 53 49 false (.load false 1 (.t 52)),O9 54 49 false (.fldA 0 (.tf 3)),O9 55 49 false (.load false 1 (.tf 54)),O9 56 49 false (.len false (.t 55)),O9 57 49 false (.cvtI .u64 (.t 56)),O9 58 49 false (.bin .shl .no (c9 1) (.t 57)),O9 59 49 false (.bin .geq .no (.t 53) (.t 58)),O1 60 (.pick (.t 49) (.c (.bool true)) (.t 59)),O3 61 60,O9 62 61 false (.load true 5 (.tf 3)),O9 63 61 false (.load true 3 (.t 8)),O9 64 61 false (.mv (.t 2)),O9 65 61 false (.mv (.t 9)),O9 66 61 false (.ixA 1 (.t 64) (.t 65)),O9 67 61 false (.load false 1 (.t 66)),O9 68 61 false (.mv (.t 1)),O9 69 61 false (.call "newel/newelref04.Allows" [.t 62, .t 63, .t 67, .t 68]),O9 70 61 false (.un .not (.t 69)),O1 71 (.pick (.t 61) (.c (.bool true)) (.t 70))]
def z1p : List XO := [O1 72 (.call "newel/neweltop.measures" []),O3 6 72]
def z1q : List XO := [O1 73 (.bsl 4 []),O3 10 73]
def z05 : List XO := [O1 11 (.mv (c9 0))]
def z06 : List XO := [O3 74 11,O1 75 (.fldA 1 (.tf 3)),O1 76 (.load false 1 (.tf 75)),O8 77 76,O1 78 (.bin .lss .no (.t 74) (.t 77))]
def z07 : List XO := [O3 81 10,O3 82 11,O1 83 (.fldA 3 (.tf 3)),O1 84 (.load false 1 (.tf 83)),O5 85 0 8,O4 86 1 85,O7 87 2 84 86,O5 88 1 87,O4 89 1 88,O3 90 11,O1 91 (.cvtI .u64 (.t 90)),O1 92 (.bin .shr .no (.t 89) (.t 91)),O1 93 (.bin .and .no (.t 92) (c9 1)),O1 94 (.bin .eql .no (.t 93) (c9 0)),O1 95 (.build [(.int .i64 0), (.int .i64 0), (.int .i64 0), (.bool false)] [(0, 1, (c9 4)), (1, 1, (.t 82)), (3, 1, (.t 94))]),O1 96 (.bsl 4 [.t 95]),O1 97 (.app 4 32 (.t 81) (.t 96)),O3 10 97]
def z08 : List XO := [O3 79 11,O1 80 (.bin .add .no (.t 79) (c9 1)),O3 11 80]
def y13 : XCode :=
 (.seq (.seq (.reg z06) (.cond (.t 78) .skip (.exit 2))) (.seq (.block 3 (.reg z07)) (.reg z08)))
def z09 : List XO := [O5 98 7 7,O4 99 1 98,O3 100 9,O3 101 9,O3 102 10,O1 103 (.bsl 1 [.t 102]),O1 104 (.build [(.int .i64 0), (.int .i64 0), (.bool false), (.slice none 0 0)] [(0, 1, (.t 100)), (1, 1, (.t 101)), (2, 1, (.c (.bool true))), (3, 1, (.t 103))]),O1 105 (.bsl 4 [.t 104]),O1 106 (.app 4 48 (.t 99) (.t 105)),O5 107 7 7,O2 (.store 1 (.t 107) (.t 106))]
def z1a : List XO := [O1 109 (.load true 5 (.tf 3)),O6 110 3 8,O3 111 2,O3 112 9,O7 113 1 111 112,O4 114 1 113,O1 115 (.call "newel/control.Step" [.t 109, .t 110, .t 114]),O3 108 115,O1 116 (.ext (.t 108) 0),O1 117 (.ext (.t 108) 1),O1 12 (.alloc [(.int .i64 0), (.int .i64 0), (.int .i64 0)]),O2 (.store 3 (.t 12) (.t 116)),O3 13 117]
def z1b : List XO := [O3 118 13,O1 119 (.bin .neq .no (.t 118) (c9 0)),O3 120 119,O9 121 120 false (.load true 5 (.tf 3)),O9 122 120 false (.load true 3 (.t 12)),O9 123 120 false (.call "newel/newelref04.IsPlace" [.t 121, .t 122]),O9 124 120 false (.un .not (.t 123)),O1 125 (.pick (.t 120) (.c (.bool true)) (.t 124))]
def z1c : List XO := [O1 6 (.mv (.c (.bool false)))]
def z1d : List XO := [O6 126 3 12,O2 (.store 3 (.t 8) (.t 126))]
def z1f : List XO := [O3 42 9,O1 43 (.bin .add .no (.t 42) (c9 1)),O3 9 43]
def y19 : XCode :=
 (.seq (.seq (.reg z1n) (.cond (.t 41) .skip (.exit 0))) (.seq (.block 1 (.seq (.seq (.reg z1o) (.cond (.t 71) (.seq (.reg z1p) .ret) .skip)) (.seq (.reg z1q) (.seq (.seq (.reg z05) (.block 2 (.loop y13))) (.seq (.seq .ghost (.seq (.reg z09) .ghost)) (.seq (.reg z1a) (.seq (.seq (.reg z1b) (.cond (.t 125) (.seq (.reg z1c) .ret) .skip)) (.reg z1d)))))))) (.reg z1f)))
def z1g : List XO := [O1 127 (.build [(.int .i64 0), (.int .i64 0), (.int .i64 0)] [(0, 1, (.c (.int .i64 (-1))))]),O1 14 (.alloc [(.int .i64 0), (.int .i64 0), (.int .i64 0)]),O2 (.store 3 (.t 14) (.t 127))]
def z1h : List XO := [O6 129 8 7,O6 130 3 14,O1 131 (.call "newel/faults.Possible" [.t 129, .t 130]),O3 128 131,O1 132 (.ext (.t 128) 0),O1 133 (.ext (.t 128) 1),O3 15 132,O3 16 133]
def z1i : List XO := [O6 135 8 7,O6 136 3 14,O1 137 (.call "newel/faults.Course" [.t 135, .t 136]),O3 134 137,O1 138 (.ext (.t 134) 0),O1 139 (.ext (.t 134) 1),O3 17 138,O3 18 139]
def z1j : List XO := [O3 140 16,O1 141 (.bin .eql .no (.t 140) (c9 0)),O3 142 141,O9 143 142 true (.mv (.t 18)),O9 144 142 true (.bin .eql .no (.t 143) (c9 0)),O1 145 (.pick (.t 142) (.t 144) (.c (.bool false))),O3 146 145,O9 147 146 true (.mv (.t 15)),O1 148 (.pick (.t 146) (.t 147) (.c (.bool false))),O3 149 148,O9 150 149 true (.mv (.t 17)),O9 151 149 true (.len false (.t 150)),O9 152 149 true (.mv (.t 2)),O9 153 149 true (.len false (.t 152)),O9 154 149 true (.bin .eql .no (.t 151) (.t 153)),O1 155 (.pick (.t 149) (.t 154) (.c (.bool false))),O3 156 155,O9 157 156 true (.mv (.t 2)),O9 158 156 true (.mv (.t 17)),O9 159 156 true (.call "newel/newelref10.Less" [.t 157, .t 158]),O9 160 156 true (.un .not (.t 159)),O1 161 (.pick (.t 156) (.t 160) (.c (.bool false))),O3 162 161,O9 163 162 true (.call "newel/neweltop.measures" []),O1 164 (.pick (.t 162) (.t 163) (.c (.bool false))),O3 6 164]
def x_neweltop_TopTraced : XFunc := { np := 3, res := [.t 6], body :=
 (.seq (.reg z03) (.seq (.reg z04) (.seq (.seq (.reg z1e) (.cond (.t 35) (.seq (.reg z1k) .ret) .skip)) (.seq (.reg z1l) (.seq (.seq (.reg z1m) (.block 0 (.loop y19))) (.seq (.seq .ghost (.reg z1g)) (.seq (.reg z1h) (.seq (.reg z1i) (.seq (.reg z1j) .ret))))))))) }
def v7h : List XO := [O1 1 (.boxF (.t 0)),O1 2 (.mv (.c (.bool false)))]
def v7i : List XO := [O1 5 (.fldA 7 (.tf 1)),O1 6 (.load false 1 (.tf 5)),O8 7 6,O1 8 (.bin .gtr .no (.t 7) (c9 10))]
def v7k : List XO := [O1 2 (.mv (.c (.bool true)))]
def v7l : List XO := [O1 9 (.load true 8 (.tf 1)),O1 10 (.call "newel/newelref10.CheckAccident" [.t 9]),O1 11 (.bin .neq .no (.t 10) (c9 0))]
def v7m : List XO := [O1 2 (.mv (.c (.bool false)))]
def v7n : List XO := [O1 12 (.fldA 0 (.tf 1)),O1 13 (.fldA 3 (.tf 12)),O1 14 (.load false 1 (.tf 13)),O8 15 14,O3 3 15]
def v7o : List XO := [O1 4 (.mv (c9 0))]
def v7p : List XO := [O3 16 4,O1 17 (.fldA 0 (.tf 1)),O1 18 (.fldA 2 (.tf 17)),O1 19 (.load false 1 (.tf 18)),O8 20 19,O1 21 (.bin .lss .no (.t 16) (.t 20))]
def v7q : List XO := [O3 24 3,O1 25 (.fldA 0 (.tf 1)),O1 26 (.fldA 2 (.tf 25)),O1 27 (.load false 1 (.tf 26)),O3 28 4,O7 29 2 27 28,O5 30 1 29,O4 31 1 30,O1 32 (.bin .add .no (.t 31) (c9 1)),O1 33 (.bin .mul .no (.t 24) (.t 32)),O3 3 33]
def v7r : List XO := [O3 22 4,O1 23 (.bin .add .no (.t 22) (c9 1)),O3 4 23]
def u5w : XCode :=
 (.seq (.seq (.reg v7p) (.cond (.t 21) .skip (.exit 0))) (.seq (.block 1 (.reg v7q)) (.reg v7r)))
def v7j : List XO := [O1 34 (.fldA 0 (.tf 1)),O1 35 (.fldA 0 (.tf 34)),O1 36 (.load false 1 (.tf 35)),O8 37 36,O1 38 (.bin .gtr .no (.t 37) (c9 2)),O3 39 38,O9 40 39 false (.mv (.t 3)),O9 41 39 false (.bin .gtr .no (.t 40) (c9 24)),O1 42 (.pick (.t 39) (.c (.bool true)) (.t 41)),O3 43 42,O9 44 43 false (.fldA 6 (.tf 1)),O9 45 43 false (.load false 1 (.tf 44)),O9 46 43 false (.bin .gtr .no (.t 45) (c9 6)),O1 47 (.pick (.t 43) (.c (.bool true)) (.t 46)),O3 48 47,O9 49 48 false (.fldA 7 (.tf 1)),O9 50 48 false (.load false 1 (.tf 49)),O9 51 48 false (.len false (.t 50)),O9 52 48 false (.bin .gtr .no (.t 51) (c9 5)),O1 53 (.pick (.t 48) (.c (.bool true)) (.t 52)),O3 2 53]
def x_l10_Deep : XFunc := { np := 1, res := [.t 2], body :=
 (.seq (.reg v7h) (.seq (.seq (.reg v7i) (.cond (.t 8) (.seq (.reg v7k) .ret) .skip)) (.seq (.seq (.reg v7l) (.cond (.t 11) (.seq (.reg v7m) .ret) .skip)) (.seq (.reg v7n) (.seq (.seq (.reg v7o) (.block 0 (.loop u5w))) (.seq (.reg v7j) .ret)))))) }
def v9r : List XO := [O1 1 (.boxF (.t 0)),O1 2 (.mv (c9 0))]
def v9s : List XO := [O1 8 (.fldA 5 (.tf 1)),O1 9 (.load false 1 (.tf 8)),O1 10 (.bsl 1 [.t 9]),O3 3 10]
def v93 : List XO := [O1 4 (.mv (c9 0))]
def v95 : List XO := [O3 11 4,O1 12 (.fldA 7 (.tf 1)),O1 13 (.load false 1 (.tf 12)),O8 14 13,O1 15 (.bin .lss .no (.t 11) (.t 14))]
def v96 : List XO := [O3 18 3,O1 19 (.fldA 7 (.tf 1)),O1 20 (.load false 1 (.tf 19)),O3 21 4,O7 22 4 20 21,O5 23 3 22,O4 24 1 23,O1 25 (.bsl 1 [.t 24]),O1 26 (.app 1 24 (.t 18) (.t 25)),O3 3 26]
def v97 : List XO := [O3 16 4,O1 17 (.bin .add .no (.t 16) (c9 1)),O3 4 17]
def u5z : XCode :=
 (.seq (.seq (.reg v95) (.cond (.t 15) .skip (.exit 0))) (.seq (.block 1 (.reg v96)) (.reg v97)))
def v98 : List XO := [O1 27 (.fldA 0 (.tf 1)),O1 28 (.load true 5 (.tf 27)),O3 29 3,O1 30 (.call "newel/newelref04.CheckConds" [.t 28, .t 29]),O3 5 30]
def v99 : List XO := [O3 31 5,O1 32 (.bin .neq .no (.t 31) (c9 0))]
def w0a : List XO := [O3 33 5,O3 2 33]
def v9t : List XO := [O1 34 (.fldA 6 (.tf 1)),O1 35 (.load false 1 (.tf 34)),O1 36 (.call "newel/newelref10.from" [.t 35, (c9 0), (c9 40)]),O1 37 (.un .not (.t 36))]
def v9u : List XO := [O1 2 (.mv (c9 1))]
def v9v : List XO := [O1 38 (.fldA 7 (.tf 1)),O1 39 (.load false 1 (.tf 38)),O8 40 39,O1 41 (.bin .gtr .no (.t 40) (c9 8))]
def v9w : List XO := [O1 2 (.mv (c9 2))]
def v9x : List XO := [O1 6 (.mv (c9 0))]
def v9y : List XO := [O3 42 6,O1 43 (.fldA 7 (.tf 1)),O1 44 (.load false 1 (.tf 43)),O8 45 44,O1 46 (.bin .lss .no (.t 42) (.t 45))]
def v9z : List XO := [O1 49 (.fldA 7 (.tf 1)),O1 50 (.load false 1 (.tf 49)),O3 51 6,O7 52 4 50 51,O6 53 4 52,O1 7 (.alloc [(.int .i64 0), (.int .i64 0), (.bool false), (.slice none 0 0)]),O2 (.store 4 (.t 7) (.t 53))]
def v90 : List XO := [O5 54 0 7,O4 55 1 54,O5 56 1 7,O4 57 1 56,O1 58 (.call "newel/newelref10.from" [.t 55, (c9 0), .t 57]),O1 59 (.un .not (.t 58)),O3 60 59,O9 61 60 false (.fldA 1 (.t 7)),O9 62 60 false (.load false 1 (.t 61)),O9 63 60 false (.fldA 6 (.tf 1)),O9 64 60 false (.load false 1 (.tf 63)),O9 65 60 false (.bin .geq .no (.t 62) (.t 64)),O1 66 (.pick (.t 60) (.c (.bool true)) (.t 65))]
def v91 : List XO := [O1 2 (.mv (c9 102))]
def v92 : List XO := [O3 47 6,O1 48 (.bin .add .no (.t 47) (c9 1)),O3 6 48]
def u5y : XCode :=
 (.seq (.seq (.reg v9y) (.cond (.t 46) .skip (.exit 2))) (.seq (.block 3 (.seq (.reg v9z) (.seq (.reg v90) (.cond (.t 66) (.seq (.reg v91) .ret) .skip)))) (.reg v92)))
def v94 : List XO := [O1 2 (.mv (c9 0))]
def x_r10_CheckAccident : XFunc := { np := 1, res := [.t 2], body :=
 (.seq (.reg v9r) (.seq (.reg v9s) (.seq (.seq (.reg v93) (.block 0 (.loop u5z))) (.seq (.reg v98) (.seq (.seq (.reg v99) (.cond (.t 32) (.seq (.reg w0a) .ret) .skip)) (.seq (.seq (.reg v9t) (.cond (.t 37) (.seq (.reg v9u) .ret) .skip)) (.seq (.seq (.reg v9v) (.cond (.t 41) (.seq (.reg v9w) .ret) .skip)) (.seq (.seq (.reg v9x) (.block 2 (.loop u5y))) (.seq (.reg v94) .ret))))))))) }
def y6y : List XO := [O1 0 (.mv (.c (.bool false)))]
def y6z : List XO := [O1 9 (.build [(.int .i64 0), (.int .i64 0)] [(1, 1, (c9 500))]),O1 10 (.build [(.int .i64 0), (.int .i64 0), (.int .i64 0), (.int .i64 0)] [(0, 1, (c9 60)), (1, 2, (.t 9))]),O1 1 (.alloc [(.int .i64 0), (.int .i64 0), (.int .i64 0), (.int .i64 0)]),O2 (.store 4 (.t 1) (.t 10))]
def y60 : List XO := [O1 12 (.call "newel/newellaw01.Example" []),O6 13 4 1,O1 14 (.call "newel/drive.Distance" [.t 12, .t 13]),O3 11 14,O1 15 (.ext (.t 11) 0),O1 16 (.ext (.t 11) 1),O1 17 (.ext (.t 11) 2),O1 2 (.alloc [(.int .i64 0), (.int .i64 0)]),O1 3 (.alloc [(.int .i64 0), (.int .i64 0)]),O2 (.store 2 (.t 2) (.t 15)),O2 (.store 2 (.t 3) (.t 16)),O3 4 17]
def y61 : List XO := [O1 19 (.call "newel/newellaw03.Example" []),O3 18 19,O1 20 (.ext (.t 18) 0),O1 21 (.ext (.t 18) 1),O1 5 (.alloc [(.int .i64 0), (.slice none 0 0), (.slice none 0 0)]),O2 (.store 3 (.t 5) (.t 20)),O3 6 21]
def z1r : List XO := [O6 23 3 5,O1 24 (.call "newel/circuit.Pairs" [.t 23]),O3 22 24,O1 25 (.ext (.t 22) 0),O1 26 (.ext (.t 22) 1),O3 7 25,O3 8 26]
def y63 : List XO := [O3 27 4,O1 28 (.bin .eql .no (.t 27) (c9 0)),O3 29 28,O9 30 29 true (.mv (.t 8)),O9 31 29 true (.bin .eql .no (.t 30) (c9 0)),O1 32 (.pick (.t 29) (.t 31) (.c (.bool false))),O3 33 32,O9 34 33 true (.load true 2 (.t 2)),O9 35 33 true (.build [(.int .i64 0), (.int .i64 0)] [(0, 1, (c9 108)), (1, 1, (c9 135))]),O9 36 33 true (.bin .eql (.flat [.i, .i]) (.t 34) (.t 35)),O1 37 (.pick (.t 33) (.t 36) (.c (.bool false))),O3 38 37,O9 39 38 true (.mv (.t 7)),O9 40 38 true (.len false (.t 39)),O9 41 38 true (.bin .eql .no (.t 40) (c9 2)),O1 42 (.pick (.t 38) (.t 41) (.c (.bool false))),O3 0 42]
def x_neweltop_measures : XFunc := { np := 0, res := [.t 0], body :=
 (.seq (.reg y6y) (.seq (.reg y6z) (.seq (.reg y60) (.seq (.reg y61) (.seq (.reg z1r) (.seq (.reg y63) .ret)))))) }
def m4a : List XO := [O1 4 (.boxF (.t 0)),O1 5 (.boxF (.t 1)),O1 8 (.mv (.c (.bool false)))]
def m4b : List XO := [O3 9 3,O8 10 9,O1 11 (.bin .eql .no (.t 10) (c9 0)),O3 12 11,O9 13 12 false (.load true 5 (.tf 4)),O9 14 12 false (.load true 3 (.tf 5)),O9 15 12 false (.mv (.t 2)),O9 16 12 false (.mv (.t 3)),O9 17 12 false (.call "newel/newelref04.Holds" [.t 13, .t 14, .t 15, .t 16]),O1 18 (.pick (.t 12) (.c (.bool true)) (.t 17)),O3 8 18]
def x_r04_Allows : XFunc := { np := 4, res := [.t 8], body :=
 (.seq (.reg m4a) (.seq (.reg m4b) .ret)) }
def p4i : List XO := [O1 3 (.boxF (.t 0)),O1 4 (.boxF (.t 1)),O1 6 (.alloc [(.int .i64 0), (.int .i64 0), (.int .i64 0)]),O1 7 (.mv (c9 0))]
def p4j : List XO := [O1 10 (.load true 5 (.tf 3)),O1 11 (.call "newel/control.Check" [.t 10]),O3 8 11]
def p4k : List XO := [O3 12 8,O1 13 (.bin .neq .no (.t 12) (c9 0))]
def p4l : List XO := [O1 14 (.build [(.int .i64 0), (.int .i64 0), (.int .i64 0)] []),O3 15 8,O2 (.store 3 (.t 6) (.t 14)),O3 7 15]
def p4m : List XO := [O1 16 (.load true 5 (.tf 3)),O1 17 (.call "newel/control.of" [.t 16]),O1 9 (.alloc [(.slice none 0 0), (.slice none 0 0), (.slice none 0 0), (.slice none 0 0), (.slice none 0 0)]),O2 (.store 5 (.t 9) (.t 17))]
def p4n : List XO := [O5 18 0 9,O6 19 5 18,O1 20 (.load true 3 (.tf 4)),O1 21 (.call "(newel/situation.Plant).Place" [.t 19, .t 20]),O1 22 (.un .not (.t 21)),O3 23 22,O9 24 23 false (.fldA 0 (.t 9)),O9 25 23 false (.load true 5 (.t 24)),O9 26 23 false (.mv (.t 2)),O9 27 23 false (.call "(newel/situation.Plant).Input" [.t 25, .t 26]),O9 28 23 false (.un .not (.t 27)),O1 29 (.pick (.t 23) (.c (.bool true)) (.t 28))]
def p4o : List XO := [O1 30 (.build [(.int .i64 0), (.int .i64 0), (.int .i64 0)] []),O2 (.store 3 (.t 6) (.t 30)),O1 7 (.mv (c9 1))]
def p4p : List XO := [O5 31 0 9,O6 32 5 31,O1 33 (.load true 3 (.tf 4)),O3 34 2,O1 35 (.call "(newel/situation.Plant).Step" [.t 32, .t 33, .t 34]),O2 (.store 3 (.t 6) (.t 35)),O1 7 (.mv (c9 0))]
def x_control_Step : XFunc := { np := 3, res := [.cell 6 true 3, .t 7], body :=
 (.seq (.reg p4i) (.seq (.seq (.reg p4j) (.seq (.reg p4k) (.cond (.t 13) (.seq (.reg p4l) .ret) .skip))) (.seq (.reg p4m) (.seq (.seq (.reg p4n) (.cond (.t 29) (.seq (.reg p4o) .ret) .skip)) (.seq (.reg p4p) .ret))))) }
def p05 : List XO := [O1 2 (.boxF (.t 0)),O1 3 (.boxF (.t 1)),O1 4 (.mv (.c (.bool false)))]
def p06 : List XO := [O1 7 (.fldA 0 (.tf 3)),O1 8 (.load false 1 (.tf 7)),O1 9 (.fldA 3 (.tf 2)),O1 10 (.load false 1 (.tf 9)),O8 11 10,O1 12 (.bin .sub .no (.t 11) (c9 1)),O1 13 (.call "newel/newelref04.from" [.t 8, (c9 0), .t 12]),O1 14 (.un .not (.t 13))]
def p09 : List XO := [O1 4 (.mv (.c (.bool false)))]
def p1a : List XO := [O1 5 (.mv (c9 0))]
def p1b : List XO := [O3 15 5,O1 16 (.bin .lss .no (.t 15) (c9 2))]
def p1c : List XO := [O1 6 (.mv (c9 0))]
def p1d : List XO := [O3 19 5,O1 20 (.fldA 2 (.tf 2)),O1 21 (.load false 1 (.tf 20)),O8 22 21,O1 23 (.bin .lss .no (.t 19) (.t 22))]
def p1e : List XO := [O1 24 (.fldA 2 (.tf 2)),O1 25 (.load false 1 (.tf 24)),O3 26 5,O7 27 2 25 26,O5 28 1 27,O4 29 1 28,O3 6 29]
def p1f : List XO := [O3 30 5,O1 31 (.fldA 1 (.tf 3)),O1 32 (.ixP 1 2 (.t 31) (.t 30)),O1 33 (.load false 1 (.tf 32)),O3 34 6,O1 35 (.call "newel/newelref04.from" [.t 33, (c9 0), .t 34]),O1 36 (.un .not (.t 35))]
def p1g : List XO := [O1 4 (.mv (.c (.bool false)))]
def p07 : List XO := [O3 17 5,O1 18 (.bin .add .no (.t 17) (c9 1)),O3 5 18]
def o8y : XCode :=
 (.seq (.seq (.reg p1b) (.cond (.t 16) .skip (.exit 0))) (.seq (.block 1 (.seq (.reg p1c) (.seq (.seq (.reg p1d) (.cond (.t 23) (.reg p1e) .skip)) (.seq (.reg p1f) (.cond (.t 36) (.seq (.reg p1g) .ret) .skip))))) (.reg p07)))
def p08 : List XO := [O1 4 (.mv (.c (.bool true)))]
def x_r04_IsPlace : XFunc := { np := 2, res := [.t 4], body :=
 (.seq (.reg p05) (.seq (.seq (.reg p06) (.cond (.t 14) (.seq (.reg p09) .ret) .skip)) (.seq (.seq (.reg p1a) (.block 0 (.loop o8y))) (.seq (.reg p08) .ret)))) }
def v3n : List XO := [O1 2 (.boxF (.t 0)),O1 3 (.boxF (.t 1)),O1 4 (.mv (.c (.bool false))),O1 5 (.mv (c9 0))]
def v3o : List XO := [O1 9 (.load true 8 (.tf 2)),O1 10 (.load true 3 (.tf 3)),O1 11 (.call "newel/faults.both" [.t 9, .t 10]),O3 6 11]
def v3p : List XO := [O3 12 6,O1 13 (.bin .neq .no (.t 12) (c9 0))]
def v3q : List XO := [O3 14 6,O1 4 (.mv (.c (.bool false))),O3 5 14]
def v3r : List XO := [O1 16 (.load true 8 (.tf 2)),O1 17 (.load true 3 (.tf 3)),O1 18 (.call "newel/faults.search" [.t 16, .t 17, (.c (.slice none 0 0))]),O3 15 18,O1 19 (.ext (.t 15) 0),O1 20 (.ext (.t 15) 1),O3 7 19,O3 8 20]
def v3s : List XO := [O3 21 8,O3 4 21,O1 5 (.mv (c9 0))]
def x_faults_Possible : XFunc := { np := 2, res := [.t 4, .t 5], body :=
 (.seq (.reg v3n) (.seq (.seq (.reg v3o) (.seq (.reg v3p) (.cond (.t 13) (.seq (.reg v3q) .ret) .skip))) (.seq (.reg v3r) (.seq (.reg v3s) .ret)))) }
def v2v : List XO := [O1 2 (.boxF (.t 0)),O1 3 (.boxF (.t 1)),O1 4 (.mv (.c (.slice none 0 0))),O1 5 (.mv (c9 0))]
def v2w : List XO := [O1 9 (.load true 8 (.tf 2)),O1 10 (.load true 3 (.tf 3)),O1 11 (.call "newel/faults.both" [.t 9, .t 10]),O3 6 11]
def v2x : List XO := [O3 12 6,O1 13 (.bin .neq .no (.t 12) (c9 0))]
def v2y : List XO := [O3 14 6,O1 4 (.mv (.c (.slice none 0 0))),O3 5 14]
def v2z : List XO := [O1 16 (.load true 8 (.tf 2)),O1 17 (.load true 3 (.tf 3)),O1 18 (.call "newel/faults.search" [.t 16, .t 17, (.c (.slice none 0 0))]),O3 15 18,O1 19 (.ext (.t 15) 0),O1 20 (.ext (.t 15) 1),O3 7 19,O3 8 20]
def v21 : List XO := [O3 21 8,O1 22 (.un .not (.t 21))]
def v22 : List XO := [O1 4 (.mv (.c (.slice none 0 0))),O1 5 (.mv (c9 3))]
def v23 : List XO := [O3 23 7,O3 4 23,O1 5 (.mv (c9 0))]
def x_faults_Course : XFunc := { np := 2, res := [.t 4, .t 5], body :=
 (.seq (.reg v2v) (.seq (.seq (.reg v2w) (.seq (.reg v2x) (.cond (.t 13) (.seq (.reg v2y) .ret) .skip))) (.seq (.reg v2z) (.seq (.seq (.reg v21) (.cond (.t 22) (.seq (.reg v22) .ret) .skip)) (.seq (.reg v23) .ret))))) }
def y64 : List XO := [O1 4 (.mv (.c (.bool false)))]
def z1s : List XO := [O1 5 (.mv (c9 0))]
def y66 : List XO := [O3 6 5,O3 7 0,O8 8 7,O1 9 (.bin .lss .no (.t 6) (.t 8)),O3 10 9,O9 11 10 true (.mv (.t 5)),O9 12 10 true (.mv (.t 1)),O9 13 10 true (.len false (.t 12)),O9 14 10 true (.bin .lss .no (.t 11) (.t 13)),O1 15 (.pick (.t 10) (.t 14) (.c (.bool false)))]
def y67 : List XO := [O3 18 0,O3 19 5,O7 20 1 18 19,O4 21 1 20,O3 22 1,O3 23 5,O7 24 1 22 23,O4 25 1 24,O1 26 (.bin .neq .no (.t 21) (.t 25))]
def y68 : List XO := [O3 27 0,O3 28 5,O7 29 1 27 28,O4 30 1 29,O3 31 1,O3 32 5,O7 33 1 31 32,O4 34 1 33,O1 35 (.bin .lss .no (.t 30) (.t 34)),O3 4 35]
def y69 : List XO := [O3 16 5,O1 17 (.bin .add .no (.t 16) (c9 1)),O3 5 17]
def x9f : XCode :=
 (.seq (.seq (.reg y66) (.cond (.t 15) .skip (.exit 0))) (.seq (.block 1 (.seq (.reg y67) (.cond (.t 26) (.seq (.reg y68) .ret) .skip))) (.reg y69)))
def y7a : List XO := [O3 36 0,O8 37 36,O3 38 1,O8 39 38,O1 40 (.bin .lss .no (.t 37) (.t 39)),O3 4 40]
def x_r10_Less : XFunc := { np := 2, res := [.t 4], body :=
 (.seq (.reg y64) (.seq (.seq (.reg z1s) (.block 0 (.loop x9f))) (.seq (.reg y7a) .ret))) }
def m4i : List XO := [O1 2 (.boxF (.t 0)),O1 4 (.mv (c9 0))]
def m4j : List XO := [O1 7 (.load true 5 (.tf 2)),O1 8 (.call "newel/newelref04.Check" [.t 7]),O3 5 8]
def m4l : List XO := [O3 9 5,O1 10 (.bin .neq .no (.t 9) (c9 0))]
def m4m : List XO := [O3 11 5,O3 4 11]
def m4n : List XO := [O1 6 (.mv (c9 0))]
def m4o : List XO := [O3 12 6,O3 13 1,O8 14 13,O1 15 (.bin .lss .no (.t 12) (.t 14))]
def m4p : List XO := [O1 18 (.load true 5 (.tf 2)),O3 19 1,O3 20 6,O7 21 1 19 20,O4 22 1 21,O1 23 (.call "newel/newelref04.condition" [.t 18, .t 22, (.c (.bool true))]),O1 24 (.un .not (.t 23))]
def m4q : List XO := [O1 4 (.mv (c9 42))]
def m4r : List XO := [O3 16 6,O1 17 (.bin .add .no (.t 16) (c9 1)),O3 6 17]
def g4e : XCode :=
 (.seq (.seq (.reg m4o) (.cond (.t 15) .skip (.exit 0))) (.seq (.block 1 (.seq (.reg m4p) (.cond (.t 24) (.seq (.reg m4q) .ret) .skip))) (.reg m4r)))
def m4k : List XO := [O1 4 (.mv (c9 0))]
def x_r04_CheckConds : XFunc := { np := 2, res := [.t 4], body :=
 (.seq (.reg m4i) (.seq (.reg m4j) (.seq (.seq (.reg m4l) (.cond (.t 10) (.seq (.reg m4m) .ret) .skip)) (.seq (.seq (.reg m4n) (.block 0 (.loop g4e))) (.seq (.reg m4k) .ret))))) }
def w1o : List XO := [O1 6 (.mv (.c (.bool false)))]
def w1p : List XO := [O3 7 0,O3 8 1,O1 9 (.bin .geq .no (.t 7) (.t 8)),O3 10 9,O9 11 10 true (.mv (.t 0)),O9 12 10 true (.mv (.t 2)),O9 13 10 true (.bin .leq .no (.t 11) (.t 12)),O1 14 (.pick (.t 10) (.t 13) (.c (.bool false))),O3 6 14]
def x_r10_from : XFunc := { np := 3, res := [.t 6], body :=
 (.seq (.reg w1o) (.seq (.reg w1p) .ret)) }
def y4z : List XO := [O1 2 (.boxF (.t 0)),O1 3 (.boxF (.t 1)),O1 4 (.alloc [(.int .i64 0), (.int .i64 0)]),O1 5 (.alloc [(.int .i64 0), (.int .i64 0)]),O1 6 (.mv (c9 0))]
def y8p : List XO := [O1 9 (.load true 6 (.tf 2)),O1 10 (.load true 4 (.tf 3)),O1 11 (.call "newel/drive.checkStop" [.t 9, .t 10]),O3 6 11]
def y41 : List XO := [O3 12 6,O1 13 (.bin .neq .no (.t 12) (c9 0))]
def y42 : List XO := [O1 14 (.load true 2 (.tf 4)),O1 15 (.load true 2 (.tf 5)),O3 16 6,O2 (.store 2 (.t 4) (.t 14)),O2 (.store 2 (.t 5) (.t 15)),O3 6 16]
def y8q : List XO := [O1 17 (.load true 6 (.tf 2)),O1 18 (.load true 4 (.tf 3)),O1 19 (.call "newel/drive.run" [.t 17, .t 18, (.c (.bool true))]),O1 20 (.load true 6 (.tf 2)),O1 21 (.load true 4 (.tf 3)),O1 22 (.call "newel/drive.run" [.t 20, .t 21, (.c (.bool false))]),O1 7 (.alloc [(.int .i64 0), (.slice none 0 0), (.bool false)]),O1 8 (.alloc [(.int .i64 0), (.slice none 0 0), (.bool false)]),O2 (.store 3 (.t 7) (.t 19)),O2 (.store 3 (.t 8) (.t 22))]
def y44 : List XO := [O5 23 2 7,O4 24 1 23,O1 25 (.un .not (.t 24))]
def y45 : List XO := [O1 26 (.load true 2 (.tf 4)),O1 27 (.load true 2 (.tf 5)),O2 (.store 2 (.t 4) (.t 26)),O2 (.store 2 (.t 5) (.t 27)),O1 6 (.mv (c9 12))]
def y46 : List XO := [O1 28 (.fldA 0 (.tf 8)),O1 29 (.load false 1 (.tf 28)),O1 30 (.fldA 0 (.tf 7)),O1 31 (.load false 1 (.tf 30)),O1 32 (.build [(.int .i64 0), (.int .i64 0)] [(0, 1, (.t 29)), (1, 1, (.t 31))]),O1 33 (.fldA 1 (.tf 8)),O1 34 (.load false 1 (.tf 33)),O8 35 34,O1 36 (.fldA 1 (.tf 7)),O1 37 (.load false 1 (.tf 36)),O8 38 37,O1 39 (.build [(.int .i64 0), (.int .i64 0)] [(0, 1, (.t 35)), (1, 1, (.t 38))]),O2 (.store 2 (.t 4) (.t 32)),O2 (.store 2 (.t 5) (.t 39)),O1 6 (.mv (c9 0))]
def x_drive_Distance : XFunc := { np := 2, res := [.cell 4 true 2, .cell 5 true 2, .t 6], body :=
 (.seq (.reg y4z) (.seq (.seq (.reg y8p) (.seq (.reg y41) (.cond (.t 13) (.seq (.reg y42) .ret) .skip))) (.seq (.reg y8q) (.seq (.seq (.reg y44) (.cond (.t 25) (.seq (.reg y45) .ret) .skip)) (.seq (.seq .ghost (.seq .ghost (.seq .ghost (.seq .ghost (.reg y46))))) .ret))))) }
def y6a : List XO := [O1 0 (.alloc [(.bool false), (.int .i64 0), (.int .i64 0), (.int .i64 0), (.int .i64 0), (.slice none 0 0)])]
def y6b : List XO := [O1 1 (.build [(.int .i64 0), (.int .i64 0)] [(0, 1, (c9 12000)), (1, 1, (c9 1))]),O1 2 (.build [(.int .i64 0), (.int .i64 0)] [(0, 1, (c9 16000)), (1, 1, (c9 3))]),O1 3 (.bsl 2 [.t 1, .t 2]),O1 4 (.build [(.bool false), (.int .i64 0), (.int .i64 0), (.int .i64 0), (.int .i64 0), (.slice none 0 0)] [(0, 1, (.c (.bool true))), (1, 1, (c9 1000)), (2, 1, (c9 20)), (3, 1, (c9 2000)), (4, 1, (c9 20000)), (5, 1, (.t 3))]),O2 (.store 6 (.t 0) (.t 4))]
def x_l01_Example : XFunc := { np := 0, res := [.cell 0 true 6], body :=
 (.seq (.reg y6a) (.seq (.reg y6b) .ret)) }
def y6c : List XO := [O1 0 (.alloc [(.int .i64 0), (.slice none 0 0), (.slice none 0 0)]),O1 1 (.mv (.c (.slice none 0 0)))]
def y6d : List XO := [O1 3 (.bsl 1 [(c9 1), (c9 1), (c9 2), (c9 2)]),O1 4 (.bsl 1 [(c9 1), (c9 2), (c9 3), (c9 4)]),O1 5 (.build [(.int .i64 0), (.slice none 0 0)] [(0, 1, (c9 2)), (1, 1, (.t 4))]),O1 6 (.bsl 1 [(c9 0)]),O1 7 (.build [(.int .i64 0), (.slice none 0 0)] [(0, 1, (c9 1)), (1, 1, (.t 6))]),O1 8 (.bsl 1 [(c9 1)]),O1 9 (.build [(.int .i64 0), (.slice none 0 0)] [(0, 1, (c9 1)), (1, 1, (.t 8))]),O1 10 (.bsl 1 [(c9 2)]),O1 11 (.build [(.int .i64 0), (.slice none 0 0)] [(0, 1, (c9 1)), (1, 1, (.t 10))]),O1 12 (.bsl 1 [(c9 3)]),O1 13 (.build [(.int .i64 0), (.slice none 0 0)] [(0, 1, (c9 1)), (1, 1, (.t 12))]),O1 14 (.bsl 2 [.t 5, .t 7, .t 9, .t 11, .t 13]),O1 15 (.build [(.int .i64 0), (.slice none 0 0), (.slice none 0 0)] [(0, 1, (c9 2)), (1, 1, (.t 3)), (2, 1, (.t 14))]),O1 2 (.alloc [(.int .i64 0), (.slice none 0 0), (.slice none 0 0)]),O2 (.store 3 (.t 2) (.t 15))]
def y6e : List XO := [O6 16 3 2,O1 17 (.build [(.int .i64 0), (.int .i64 0)] [(0, 1, (c9 1)), (1, 1, (c9 1))]),O1 18 (.build [(.int .i64 0), (.int .i64 0)] [(0, 1, (c9 1)), (1, 1, (c9 2))]),O1 19 (.build [(.int .i64 0), (.int .i64 0)] [(0, 1, (c9 2)), (1, 1, (c9 3))]),O1 20 (.build [(.int .i64 0), (.int .i64 0)] [(0, 1, (c9 2)), (1, 1, (c9 4))]),O1 21 (.bsl 2 [.t 17, .t 18, .t 19, .t 20]),O2 (.store 3 (.t 0) (.t 16)),O3 1 21]
def x_l03_Example : XFunc := { np := 0, res := [.cell 0 true 3, .t 1], body :=
 (.seq (.reg y6c) (.seq (.reg y6d) (.seq (.reg y6e) .ret))) }
def y3g : List XO := [O1 1 (.boxF (.t 0)),O1 2 (.mv (.c (.slice none 0 0))),O1 3 (.mv (c9 0))]
def y3h : List XO := [O1 10 (.load true 3 (.tf 1)),O1 11 (.call "newel/circuit.Critical" [.t 10]),O3 9 11,O1 12 (.ext (.t 9) 0),O1 13 (.ext (.t 9) 1),O3 4 12,O3 5 13]
def y3n : List XO := [O3 14 5,O1 15 (.bin .neq .no (.t 14) (c9 0))]
def y3o : List XO := [O3 16 5,O1 2 (.mv (.c (.slice none 0 0))),O3 3 16]
def y3p : List XO := [O1 6 (.mv (.c (.slice none 0 0)))]
def y3q : List XO := [O1 17 (.fldA 1 (.tf 1)),O1 18 (.load false 1 (.tf 17)),O8 19 18,O1 20 (.mv (c9 0))]
def y3r : List XO := [O1 21 (.bin .lss .no (.t 20) (.t 19))]
def y3s : List XO := [O3 22 20,O3 7 22]
def y3t : List XO := [O3 23 7,O1 24 (.bin .add .no (.t 23) (c9 1)),O3 8 24]
def y3u : List XO := [O3 25 8,O1 26 (.fldA 1 (.tf 1)),O1 27 (.load false 1 (.tf 26)),O8 28 27,O1 29 (.bin .lss .no (.t 25) (.t 28))]
def y3i : List XO := [O3 32 4,O3 33 7,O1 34 (.call "slices.Contains[[]int,int]" [.t 32, .t 33]),O1 35 (.un .not (.t 34)),O3 36 35,O9 37 36 true (.mv (.t 4)),O9 38 36 true (.mv (.t 8)),O9 39 36 true (.call "slices.Contains[[]int,int]" [.t 37, .t 38]),O9 40 36 true (.un .not (.t 39)),O1 41 (.pick (.t 36) (.t 40) (.c (.bool false))),O3 42 41,O9 43 42 true (.load true 3 (.tf 1)),O9 44 42 true (.mv (.t 7)),O9 45 42 true (.bin .shl .no (c9 1) (.t 44)),O9 46 42 true (.mv (.t 8)),O9 47 42 true (.bin .shl .no (c9 1) (.t 46)),O9 48 42 true (.bin .or .no (.t 45) (.t 47)),O9 49 42 true (.call "newel/circuit.weak" [.t 43, .t 48]),O9 50 42 true (.len false (.t 49)),O9 51 42 true (.bin .gtr .no (.t 50) (c9 0)),O1 52 (.pick (.t 42) (.t 51) (.c (.bool false)))]
def y3j : List XO := [O3 53 6,O3 54 7,O3 55 8,O1 56 (.build [(.int .i64 0), (.int .i64 0)] [(0, 1, (.t 54)), (1, 1, (.t 55))]),O1 57 (.bsl 2 [.t 56]),O1 58 (.app 2 16 (.t 53) (.t 57)),O3 6 58]
def y3k : List XO := [O3 30 8,O1 31 (.bin .add .no (.t 30) (c9 1)),O3 8 31]
def y3v : XCode :=
 (.seq (.seq (.reg y3u) (.cond (.t 29) .skip (.exit 2))) (.seq (.block 3 (.seq (.reg y3i) (.cond (.t 52) (.reg y3j) .skip))) (.reg y3k)))
def y3l : List XO := [O1 59 (.bin .add .no (.t 20) (c9 1)),O3 20 59]
def y3w : XCode :=
 (.seq (.reg y3r) (.seq (.cond (.t 21) .skip (.exit 0)) (.seq (.block 1 (.seq (.reg y3s) (.seq (.reg y3t) (.block 2 (.loop y3v))))) (.reg y3l))))
def y3m : List XO := [O3 60 6,O3 2 60,O1 3 (.mv (c9 0))]
def x_circuit_Pairs : XFunc := { np := 1, res := [.t 2, .t 3], body :=
 (.seq (.reg y3g) (.seq (.reg y3h) (.seq (.seq (.reg y3n) (.cond (.t 15) (.seq (.reg y3o) .ret) .skip)) (.seq (.reg y3p) (.seq (.seq (.reg y3q) (.block 0 (.loop y3w))) (.seq (.reg y3m) .ret)))))) }
def m6g : List XO := [O1 4 (.boxF (.t 0)),O1 5 (.boxF (.t 1)),O1 8 (.mv (.c (.bool false)))]
def m6h : List XO := [O1 9 (.mv (c9 0))]
def m6l : List XO := [O3 12 9,O3 13 3,O8 14 13,O1 15 (.bin .lss .no (.t 12) (.t 14))]
def m6m : List XO := [O1 10 (.mv (.c (.bool true)))]
def m6n : List XO := [O1 11 (.mv (c9 0))]
def m6o : List XO := [O3 18 11,O3 19 3,O3 20 9,O7 21 1 19 20,O4 22 1 21,O8 23 22,O1 24 (.bin .lss .no (.t 18) (.t 23))]
def m6p : List XO := [O3 27 10,O3 28 27,O9 29 28 true (.load true 5 (.tf 4)),O9 30 28 true (.load true 3 (.tf 5)),O9 31 28 true (.mv (.t 2)),O9 32 28 true (.mv (.t 3)),O9 33 28 true (.mv (.t 9)),O9 34 28 true (.ixA 1 (.t 32) (.t 33)),O9 35 28 true (.load false 1 (.t 34)),O9 36 28 true (.mv (.t 11)),O9 37 28 true (.ixA 4 (.t 35) (.t 36)),O9 38 28 true (.load true 4 (.t 37)),O9 39 28 true (.call "newel/newelref04.literal" [.t 29, .t 30, .t 31, .t 38]),O1 40 (.pick (.t 28) (.t 39) (.c (.bool false))),O3 10 40]
def m6q : List XO := [O3 25 11,O1 26 (.bin .add .no (.t 25) (c9 1)),O3 11 26]
def g4o : XCode :=
 (.seq (.seq (.reg m6o) (.cond (.t 24) .skip (.exit 2))) (.seq (.block 3 (.reg m6p)) (.reg m6q)))
def m6r : List XO := [O3 41 10]
def m6i : List XO := [O1 8 (.mv (.c (.bool true)))]
def m6j : List XO := [O3 16 9,O1 17 (.bin .add .no (.t 16) (c9 1)),O3 9 17]
def g4n : XCode :=
 (.seq (.seq (.reg m6l) (.cond (.t 15) .skip (.exit 0))) (.seq (.block 1 (.seq (.reg m6m) (.seq (.seq (.reg m6n) (.block 2 (.loop g4o))) (.seq (.reg m6r) (.cond (.t 41) (.seq (.reg m6i) .ret) .skip))))) (.reg m6j)))
def m6k : List XO := [O1 8 (.mv (.c (.bool false)))]
def x_r04_Holds : XFunc := { np := 4, res := [.t 8], body :=
 (.seq (.reg m6g) (.seq (.seq (.reg m6h) (.block 0 (.loop g4n))) (.seq (.reg m6k) .ret))) }
def m0l : List XO := [O1 1 (.boxF (.t 0)),O1 2 (.mv (c9 0))]
def m0m : List XO := [O1 3 (.load true 5 (.tf 1)),O1 4 (.call "newel/situation.Check" [.t 3]),O3 2 4]
def x_control_Check : XFunc := { np := 1, res := [.t 2], body :=
 (.seq (.reg m0l) (.seq (.reg m0m) .ret)) }
def m2z : List XO := [O1 1 (.boxF (.t 0)),O1 2 (.alloc [(.slice none 0 0), (.slice none 0 0), (.slice none 0 0), (.slice none 0 0), (.slice none 0 0)])]
def m20 : List XO := [O1 3 (.load true 5 (.tf 1)),O1 4 (.build [(.slice none 0 0), (.slice none 0 0), (.slice none 0 0), (.slice none 0 0), (.slice none 0 0)] [(0, 5, (.t 3))]),O1 5 (.build [(.slice none 0 0), (.slice none 0 0), (.slice none 0 0), (.slice none 0 0), (.slice none 0 0)] [(0, 5, (.t 4))]),O2 (.store 5 (.t 2) (.t 5))]
def x_control_of : XFunc := { np := 1, res := [.cell 2 true 5], body :=
 (.seq (.reg m2z) (.seq (.reg m20) .ret)) }
def o9r : List XO := [O1 2 (.boxF (.t 0)),O1 3 (.boxF (.t 1)),O1 4 (.mv (.c (.bool false)))]
def o9s : List XO := [O1 8 (.fldA 1 (.tf 3)),O1 9 (.load true 2 (.tf 8)),O1 10 (.mv (c9 0))]
def o9u : List XO := [O1 11 (.bin .lss .no (.t 10) (c9 2))]
def o9v : List XO := [O3 12 10,O1 13 (.ixV 1 2 false (.t 9) (.t 10)),O3 5 12,O3 6 13]
def o9w : List XO := [O1 7 (.mv (c9 0))]
def o9x : List XO := [O3 14 5,O1 15 (.fldA 0 (.tf 2)),O1 16 (.fldA 2 (.tf 15)),O1 17 (.load false 1 (.tf 16)),O8 18 17,O1 19 (.bin .lss .no (.t 14) (.t 18))]
def o9y : List XO := [O1 20 (.fldA 0 (.tf 2)),O1 21 (.fldA 2 (.tf 20)),O1 22 (.load false 1 (.tf 21)),O3 23 5,O7 24 2 22 23,O5 25 1 24,O4 26 1 25,O3 7 26]
def o9z : List XO := [O3 27 6,O3 28 7,O1 29 (.call "newel/situation.within" [.t 27, (c9 0), .t 28]),O1 30 (.un .not (.t 29))]
def o90 : List XO := [O1 4 (.mv (.c (.bool false)))]
def o91 : List XO := [O1 31 (.bin .add .no (.t 10) (c9 1)),O3 10 31]
def o8u : XCode :=
 (.seq (.reg o9u) (.seq (.cond (.t 11) .skip (.exit 0)) (.seq (.block 1 (.seq (.reg o9v) (.seq (.reg o9w) (.seq (.seq (.reg o9x) (.cond (.t 19) (.reg o9y) .skip)) (.seq (.reg o9z) (.cond (.t 30) (.seq (.reg o90) .ret) .skip)))))) (.reg o91))))
def o9t : List XO := [O1 32 (.fldA 0 (.tf 3)),O1 33 (.load false 1 (.tf 32)),O1 34 (.fldA 0 (.tf 2)),O1 35 (.fldA 3 (.tf 34)),O1 36 (.load false 1 (.tf 35)),O8 37 36,O1 38 (.bin .sub .no (.t 37) (c9 1)),O1 39 (.call "newel/situation.within" [.t 33, (c9 0), .t 38]),O3 4 39]
def x__situation_Plant__Place : XFunc := { np := 2, res := [.t 4], body :=
 (.seq (.reg o9r) (.seq (.seq (.reg o9s) (.block 0 (.loop o8u))) (.seq (.reg o9t) .ret))) }
def p4b : List XO := [O1 2 (.boxF (.t 0)),O1 4 (.mv (.c (.bool false)))]
def p4c : List XO := [O3 5 1,O1 6 (.load true 5 (.tf 2)),O1 7 (.call "(newel/situation.Plant).All" [.t 6]),O1 8 (.bin .sub .no (.t 7) (c9 1)),O1 9 (.call "newel/situation.within" [.t 5, (c9 0), .t 8]),O3 4 9]
def x__situation_Plant__Input : XFunc := { np := 2, res := [.t 4], body :=
 (.seq (.reg p4b) (.seq (.reg p4c) .ret)) }
def l9h : List XO := [O1 3 (.boxF (.t 0)),O1 4 (.box (.t 1)),O1 6 (.alloc [(.int .i64 0), (.int .i64 0), (.int .i64 0)])]
def l9i : List XO := [O1 11 (.fldA 0 (.tf 3)),O1 12 (.fldA 4 (.tf 11)),O1 13 (.load false 1 (.tf 12)),O8 14 13,O1 15 (.mv (c9 0))]
def l9m : List XO := [O1 16 (.bin .lss .no (.t 15) (.t 14))]
def l9n : List XO := [O7 17 4 13 15,O6 18 4 17,O1 8 (.alloc [(.int .i64 0), (.int .i64 0), (.slice none 0 0), (.slice none 0 0)]),O2 (.store 4 (.t 8) (.t 18))]
def l9o : List XO := [O5 19 0 8,O4 20 1 19,O1 21 (.bin .neq .no (.t 20) (.c (.int .i64 (-1)))),O3 22 21,O9 23 22 true (.fldA 0 (.t 8)),O9 24 22 true (.load false 1 (.t 23)),O9 25 22 true (.fldA 0 (.t 4)),O9 26 22 true (.load false 1 (.t 25)),O9 27 22 true (.bin .neq .no (.t 24) (.t 26)),O1 28 (.pick (.t 22) (.t 27) (.c (.bool false))),O3 29 28,O9 30 29 false (.load true 5 (.tf 3)),O9 31 29 false (.fldA 2 (.t 8)),O9 32 29 false (.load false 1 (.t 31)),O9 33 29 false (.load true 3 (.t 4)),O9 34 29 false (.mv (.t 2)),O9 35 29 false (.call "(newel/situation.Plant).Holds" [.t 30, .t 32, .t 33, .t 34]),O9 36 29 false (.un .not (.t 35)),O1 37 (.pick (.t 29) (.c (.bool true)) (.t 36))]
def l9p : List XO := [O5 38 3 8,O4 39 1 38,O8 40 39,O1 41 (.mv (c9 0))]
def l9q : List XO := [O1 42 (.bin .lss .no (.t 41) (.t 40))]
def l9r : List XO := [O7 43 2 39 41,O6 44 2 43,O1 10 (.alloc [(.int .i64 0), (.int .i64 0)]),O2 (.store 2 (.t 10) (.t 44))]
def l9s : List XO := [O1 45 (.load true 5 (.tf 3)),O6 46 2 10,O1 47 (.callw "(newel/situation.Plant).set" [.t 45, .t 46, .t 4])]
def l9t : List XO := [O1 48 (.bin .add .no (.t 41) (c9 1)),O3 41 48]
def g36 : XCode :=
 (.seq (.reg l9q) (.seq (.cond (.t 42) .skip (.exit 2)) (.seq (.block 3 (.seq (.reg l9r) (.reg l9s))) (.reg l9t))))
def l9j : List XO := [O5 49 1 8,O4 50 1 49,O5 51 0 4,O2 (.store 1 (.t 51) (.t 50))]
def l9k : List XO := [O1 52 (.bin .add .no (.t 15) (c9 1)),O3 15 52]
def g37 : XCode :=
 (.seq (.reg l9m) (.seq (.cond (.t 16) .skip (.exit 0)) (.seq (.block 1 (.seq (.reg l9n) (.seq (.seq (.reg l9o) (.cond (.t 37) (.exit 1) .skip)) (.seq (.seq (.reg l9p) (.block 2 (.loop g36))) (.seq (.reg l9j) (.exit 0)))))) (.reg l9k))))
def l9l : List XO := [O6 53 3 4,O2 (.store 3 (.t 6) (.t 53))]
def x__situation_Plant__Step : XFunc := { np := 3, res := [.cell 6 true 3], body :=
 (.seq (.reg l9h) (.seq (.seq (.reg l9i) (.block 0 (.loop g37))) (.seq (.reg l9l) .ret))) }
def m9n : List XO := [O1 6 (.mv (.c (.bool false)))]
def m9o : List XO := [O3 7 0,O3 8 1,O1 9 (.bin .geq .no (.t 7) (.t 8)),O3 10 9,O9 11 10 true (.mv (.t 0)),O9 12 10 true (.mv (.t 2)),O9 13 10 true (.bin .leq .no (.t 11) (.t 12)),O1 14 (.pick (.t 10) (.t 13) (.c (.bool false))),O3 6 14]
def x_r04_from : XFunc := { np := 3, res := [.t 6], body :=
 (.seq (.reg m9n) (.seq (.reg m9o) .ret)) }
def v4g : List XO := [O1 2 (.boxF (.t 0)),O1 3 (.boxF (.t 1)),O1 4 (.mv (c9 0))]
def v4h : List XO := [O1 6 (.load true 8 (.tf 2)),O1 7 (.call "newel/faults.accident" [.t 6]),O3 5 7]
def v4i : List XO := [O3 8 5,O1 9 (.bin .neq .no (.t 8) (c9 0))]
def v4j : List XO := [O3 10 5,O3 4 10]
def v4k : List XO := [O1 11 (.load true 8 (.tf 2)),O1 12 (.load true 3 (.tf 3)),O1 13 (.call "newel/faults.theory" [.t 11, .t 12]),O1 14 (.un .not (.t 13))]
def v4l : List XO := [O1 4 (.mv (c9 1))]
def v4m : List XO := [O1 4 (.mv (c9 0))]
def x_faults_both : XFunc := { np := 2, res := [.t 4], body :=
 (.seq (.reg v4g) (.seq (.seq (.reg v4h) (.seq (.reg v4i) (.cond (.t 9) (.seq (.reg v4j) .ret) .skip))) (.seq (.seq (.reg v4k) (.cond (.t 14) (.seq (.reg v4l) .ret) .skip)) (.seq (.reg v4m) .ret)))) }
def v62 : List XO := [O1 3 (.boxF (.t 0)),O1 4 (.boxF (.t 1)),O1 6 (.mv (.c (.slice none 0 0))),O1 7 (.mv (.c (.bool false)))]
def v63 : List XO := [O1 11 (.load true 8 (.tf 3)),O1 12 (.fldA 0 (.tf 3)),O1 13 (.load true 5 (.tf 12)),O1 14 (.build [(.slice none 0 0), (.slice none 0 0), (.slice none 0 0), (.slice none 0 0), (.slice none 0 0)] [(0, 5, (.t 13))]),O1 15 (.load true 3 (.tf 4)),O1 16 (.callw "#mk" []),O1 17 (.build [(.slice none 0 0), (.slice none 0 0), (.slice none 0 0), (.slice none 0 0), (.slice none 0 0), (.slice none 0 0), (.int .i64 0), (.slice none 0 0), (.slice none 0 0), (.slice none 0 0), (.slice none 0 0), (.slice none 0 0), (.slice none 0 0), (.int .i64 0), (.int .i64 0), (.int .i64 0), (.nilFunc), (.nilFunc), (.map none), (.slice none 0 0)] [(0, 8, (.t 11)), (8, 5, (.t 14)), (13, 3, (.t 15)), (18, 1, (.t 16))]),O1 18 (.box (.t 17)),O3 8 18]
def v64 : List XO := [O3 19 8,O1 20 (.nilck (.t 19)),O5 21 16 20,O2 (.store 1 (.t 21) (.f "newel/faults.search$1"))]
def v65 : List XO := [O3 22 8,O1 23 (.nilck (.t 22)),O5 24 17 23,O2 (.store 1 (.t 24) (.f "newel/faults.search$2"))]
def v66 : List XO := [O3 25 2,O8 26 25,O1 27 (.mv (c9 0))]
def v67 : List XO := [O1 28 (.bin .lss .no (.t 27) (.t 26))]
def v68 : List XO := [O7 29 1 25 27,O4 30 1 29,O3 10 30]
def v69 : List XO := [O3 31 10,O3 32 8,O1 33 (.callw "#v" [.t 31, .t 32])]
def v7a : List XO := [O1 34 (.bin .add .no (.t 27) (c9 1)),O3 27 34]
def u5v : XCode :=
 (.seq (.reg v67) (.seq (.cond (.t 28) .skip (.exit 0)) (.seq (.block 1 (.seq (.reg v68) (.reg v69))) (.reg v7a))))
def u5s : List XO := [O3 35 8,O1 36 (.build [(.int .i64 0), (.int .i64 0), (.int .i64 0), (.int .i64 0), (.int .i64 0)] []),O1 37 (.callw "(*newel/faults.inquiry).course" [.t 35, .t 36]),O1 38 (.un .not (.t 37))]
def u5t : List XO := [O1 6 (.mv (.c (.slice none 0 0))),O1 7 (.mv (.c (.bool false)))]
def u5u : List XO := [O3 39 8,O1 40 (.nilck (.t 39)),O5 41 19 40,O4 42 1 41,O3 6 42,O1 7 (.mv (.c (.bool true)))]
def x_faults_search : XFunc := { np := 3, res := [.t 6, .t 7], body :=
 (.seq (.reg v62) (.seq (.reg v63) (.seq (.reg v64) (.seq (.reg v65) (.seq (.seq (.reg v66) (.block 0 (.loop u5v))) (.seq (.seq (.reg u5s) (.cond (.t 38) (.seq (.reg u5t) .ret) .skip)) (.seq (.reg u5u) .ret))))))) }
def v3t : List XO := [O1 1 (.boxF (.t 0)),O1 2 (.mv (c9 0))]
def v3u : List XO := [O1 8 (.fldA 0 (.tf 1)),O1 9 (.load true 5 (.tf 8)),O1 10 (.call "newel/situation.Check" [.t 9]),O3 3 10]
def v34 : List XO := [O3 11 3,O1 12 (.bin .neq .no (.t 11) (c9 0))]
def v39 : List XO := [O3 13 3,O3 2 13]
def v4a : List XO := [O1 14 (.fldA 0 (.tf 1)),O1 15 (.load true 5 (.tf 14)),O1 16 (.fldA 5 (.tf 1)),O1 17 (.load false 1 (.tf 16)),O1 18 (.call "newel/situation.Asked" [.t 15, .t 17]),O1 19 (.un .not (.t 18))]
def v4b : List XO := [O1 2 (.mv (c9 42))]
def v4c : List XO := [O1 20 (.fldA 7 (.tf 1)),O1 21 (.load false 1 (.tf 20)),O8 22 21,O1 23 (.mv (c9 0))]
def v4d : List XO := [O1 24 (.bin .lss .no (.t 23) (.t 22))]
def v4e : List XO := [O7 25 4 21 23,O6 26 4 25,O1 5 (.alloc [(.int .i64 0), (.int .i64 0), (.bool false), (.slice none 0 0)]),O2 (.store 4 (.t 5) (.t 26))]
def v4f : List XO := [O1 27 (.fldA 0 (.tf 1)),O1 28 (.load true 5 (.tf 27)),O5 29 3 5,O4 30 1 29,O1 31 (.call "newel/situation.Asked" [.t 28, .t 30]),O1 32 (.un .not (.t 31))]
def v3v : List XO := [O1 2 (.mv (c9 42))]
def v3w : List XO := [O1 33 (.bin .add .no (.t 23) (c9 1)),O3 23 33]
def u5q : XCode :=
 (.seq (.reg v4d) (.seq (.cond (.t 24) .skip (.exit 0)) (.seq (.block 1 (.seq (.reg v4e) (.seq (.reg v4f) (.cond (.t 32) (.seq (.reg v3v) .ret) .skip)))) (.reg v3w))))
def v3x : List XO := [O1 34 (.fldA 6 (.tf 1)),O1 35 (.load false 1 (.tf 34)),O1 36 (.call "newel/faults.within" [.t 35, (c9 0), (c9 40)]),O1 37 (.un .not (.t 36))]
def v3y : List XO := [O1 2 (.mv (c9 1))]
def v3z : List XO := [O1 38 (.fldA 7 (.tf 1)),O1 39 (.load false 1 (.tf 38)),O8 40 39,O1 41 (.bin .gtr .no (.t 40) (c9 8))]
def v30 : List XO := [O1 2 (.mv (c9 2))]
def v31 : List XO := [O1 42 (.fldA 7 (.tf 1)),O1 43 (.load false 1 (.tf 42)),O8 44 43,O1 45 (.mv (c9 0))]
def v32 : List XO := [O1 46 (.bin .lss .no (.t 45) (.t 44))]
def v33 : List XO := [O7 47 4 43 45,O6 48 4 47,O1 7 (.alloc [(.int .i64 0), (.int .i64 0), (.bool false), (.slice none 0 0)]),O2 (.store 4 (.t 7) (.t 48))]
def v35 : List XO := [O5 49 0 7,O4 50 1 49,O1 51 (.bin .lss .no (.t 50) (c9 0)),O3 52 51,O9 53 52 false (.fldA 1 (.t 7)),O9 54 52 false (.load false 1 (.t 53)),O9 55 52 false (.fldA 0 (.t 7)),O9 56 52 false (.load false 1 (.t 55)),O9 57 52 false (.bin .lss .no (.t 54) (.t 56)),O1 58 (.pick (.t 52) (.c (.bool true)) (.t 57)),O3 59 58,O9 60 59 false (.fldA 1 (.t 7)),O9 61 59 false (.load false 1 (.t 60)),O9 62 59 false (.fldA 6 (.tf 1)),O9 63 59 false (.load false 1 (.tf 62)),O9 64 59 false (.bin .geq .no (.t 61) (.t 63)),O1 65 (.pick (.t 59) (.c (.bool true)) (.t 64))]
def v36 : List XO := [O1 2 (.mv (c9 102))]
def v37 : List XO := [O1 66 (.bin .add .no (.t 45) (c9 1)),O3 45 66]
def u5r : XCode :=
 (.seq (.reg v32) (.seq (.cond (.t 46) .skip (.exit 2)) (.seq (.block 3 (.seq (.reg v33) (.seq (.reg v35) (.cond (.t 65) (.seq (.reg v36) .ret) .skip)))) (.reg v37))))
def v38 : List XO := [O1 2 (.mv (c9 0))]
def x_faults_accident : XFunc := { np := 1, res := [.t 2], body :=
 (.seq (.reg v3t) (.seq (.seq (.reg v3u) (.seq (.reg v34) (.cond (.t 12) (.seq (.reg v39) .ret) .skip))) (.seq (.seq (.reg v4a) (.cond (.t 19) (.seq (.reg v4b) .ret) .skip)) (.seq (.seq (.reg v4c) (.block 0 (.loop u5q))) (.seq (.seq (.reg v3x) (.cond (.t 37) (.seq (.reg v3y) .ret) .skip)) (.seq (.seq (.reg v3z) (.cond (.t 41) (.seq (.reg v30) .ret) .skip)) (.seq (.seq (.reg v31) (.block 2 (.loop u5r))) (.seq (.reg v38) .ret)))))))) }
def o0l : List XO := [O1 2 (.boxF (.t 0)),O1 4 (.mv (.c (.bool false)))]
def o0m : List XO := [O3 7 1,O8 8 7,O1 9 (.bin .gtr .no (.t 8) (c9 6))]
def o0o : List XO := [O1 4 (.mv (.c (.bool false)))]
def o0p : List XO := [O3 10 1,O8 11 10,O1 12 (.mv (c9 0))]
def o0q : List XO := [O1 13 (.bin .lss .no (.t 12) (.t 11))]
def o0r : List XO := [O7 14 1 10 12,O4 15 1 14,O3 6 15]
def o0s : List XO := [O3 16 6,O8 17 16,O1 18 (.bin .gtr .no (.t 17) (c9 6)),O3 19 18,O9 20 19 false (.mv (.t 6)),O9 21 19 false (.mkfn "newel/situation.Asked$1" [] [.t 2]),O9 22 19 false (.call "slices.ContainsFunc[newel/api.Term,newel/api.Literal]" [.t 20, .t 21]),O1 23 (.pick (.t 19) (.c (.bool true)) (.t 22))]
def o0t : List XO := [O1 4 (.mv (.c (.bool false)))]
def o0u : List XO := [O1 24 (.bin .add .no (.t 12) (c9 1)),O3 12 24]
def g45 : XCode :=
 (.seq (.reg o0q) (.seq (.cond (.t 13) .skip (.exit 0)) (.seq (.block 1 (.seq (.reg o0r) (.seq (.reg o0s) (.cond (.t 23) (.seq (.reg o0t) .ret) .skip)))) (.reg o0u))))
def o0n : List XO := [O1 4 (.mv (.c (.bool true)))]
def x_situation_Asked : XFunc := { np := 2, res := [.t 4], body :=
 (.seq (.reg o0l) (.seq (.seq (.reg o0m) (.cond (.t 9) (.seq (.reg o0o) .ret) .skip)) (.seq (.seq (.reg o0p) (.block 0 (.loop g45))) (.seq (.reg o0n) .ret)))) }
def v7b : List XO := [O1 2 (.boxF (.t 0)),O1 3 (.boxF (.t 1)),O1 4 (.mv (.c (.bool false)))]
def v7c : List XO := [O1 5 (.fldA 0 (.tf 3)),O1 6 (.load false 1 (.tf 5)),O1 7 (.bin .eql .no (.t 6) (.c (.int .i64 (-1))))]
def v7d : List XO := [O1 8 (.fldA 1 (.tf 3)),O1 9 (.load false 1 (.tf 8)),O1 10 (.bin .eql .no (.t 9) (c9 0)),O3 11 10,O9 12 11 true (.fldA 2 (.tf 3)),O9 13 11 true (.load false 1 (.tf 12)),O9 14 11 true (.bin .eql .no (.t 13) (c9 0)),O1 15 (.pick (.t 11) (.t 14) (.c (.bool false))),O3 4 15]
def v7e : List XO := [O1 16 (.fldA 0 (.tf 3)),O1 17 (.load false 1 (.tf 16)),O1 18 (.fldA 0 (.tf 2)),O1 19 (.fldA 0 (.tf 18)),O1 20 (.load false 1 (.tf 19)),O8 21 20,O1 22 (.bin .sub .no (.t 21) (c9 1)),O1 23 (.call "newel/faults.within" [.t 17, (c9 0), .t 22]),O3 24 23,O9 25 24 true (.fldA 1 (.tf 3)),O9 26 24 true (.load false 1 (.tf 25)),O9 27 24 true (.call "newel/faults.within" [.t 26, (c9 0), (c9 1)]),O1 28 (.pick (.t 24) (.t 27) (.c (.bool false))),O3 29 28,O9 30 29 true (.fldA 2 (.tf 3)),O9 31 29 true (.load false 1 (.tf 30)),O9 32 29 true (.fldA 6 (.tf 2)),O9 33 29 true (.load false 1 (.tf 32)),O9 34 29 true (.bin .sub .no (.t 33) (c9 1)),O9 35 29 true (.call "newel/faults.within" [.t 31, (c9 0), .t 34]),O1 36 (.pick (.t 29) (.t 35) (.c (.bool false))),O3 4 36]
def x_faults_theory : XFunc := { np := 2, res := [.t 4], body :=
 (.seq (.reg v7b) (.seq (.seq (.reg v7c) (.cond (.t 7) (.seq (.reg v7d) .ret) .skip)) (.seq (.reg v7e) .ret))) }
def v7f : List XO := [O1 6 (.mv (.c (.bool false)))]
def v7g : List XO := [O3 7 0,O3 8 1,O1 9 (.bin .geq .no (.t 7) (.t 8)),O3 10 9,O9 11 10 true (.mv (.t 0)),O9 12 10 true (.mv (.t 2)),O9 13 10 true (.bin .leq .no (.t 11) (.t 12)),O1 14 (.pick (.t 10) (.t 13) (.c (.bool false))),O3 6 14]
def x_faults_within : XFunc := { np := 3, res := [.t 6], body :=
 (.seq (.reg v7f) (.seq (.reg v7g) .ret)) }
def w9u : List XO := [O1 1 (.box (.t 0)),O1 2 (.mv (.c (.nilFunc)))]
def w9v : List XO := [O1 3 (.mkfn "newel/faults.with$1" [] [.t 1]),O3 2 3]
def l9f : List XO := [O1 4 (.boxF (.t 0)),O1 6 (.boxF (.t 2)),O1 7 (.boxF (.t 3)),O1 8 (.mv (.c (.bool false)))]
def l9g : List XO := [O3 9 1,O1 10 (.mkfn "(newel/situation.Plant).Holds$1" [] [.t 4, .t 6, .t 7]),O1 11 (.call "slices.ContainsFunc[newel/api.Cond,newel/api.Term]" [.t 9, .t 10]),O3 8 11]
def x__situation_Plant__Holds : XFunc := { np := 4, res := [.t 8], body :=
 (.seq (.reg l9f) (.seq (.reg l9g) .ret)) }
def w9r : List XO := [O1 1 (.box (.t 0)),O1 2 (.mv (.c (.nilFunc)))]
def w9s : List XO := [O1 3 (.mkfn "newel/faults.but$1" [] [.t 1]),O3 2 3]
def l87 : List XO := [O1 1 (.boxF (.t 0)),O1 2 (.mv (c9 0))]
def l88 : List XO := [O1 3 (.fldA 0 (.tf 1)),O1 4 (.fldA 0 (.tf 3)),O1 5 (.load false 1 (.tf 4)),O8 6 5,O1 7 (.bin .shl .no (c9 1) (.t 6)),O3 2 7]
def x__situation_Plant__All : XFunc := { np := 1, res := [.t 2], body :=
 (.seq (.reg l87) (.seq (.reg l88) .ret)) }
def l89 : List XO := [O1 4 (.boxF (.t 0)),O1 6 (.boxF (.t 2)),O1 8 (.mv (.c (.bool false)))]
def l9a : List XO := [O3 9 1,O8 10 9,O1 11 (.bin .eql .no (.t 10) (c9 0)),O3 12 11,O9 13 12 false (.load true 5 (.tf 4)),O9 14 12 false (.mv (.t 1)),O9 15 12 false (.load true 3 (.tf 6)),O9 16 12 false (.mv (.t 3)),O9 17 12 false (.call "(newel/situation.Plant).Holds" [.t 13, .t 14, .t 15, .t 16]),O1 18 (.pick (.t 12) (.c (.bool true)) (.t 17)),O3 8 18]
def x__situation_Plant__Allowed : XFunc := { np := 4, res := [.t 8], body :=
 (.seq (.reg l89) (.seq (.reg l9a) .ret)) }
def m4s : List XO := [O1 1 (.boxF (.t 0)),O1 2 (.mv (c9 0))]
def m4t : List XO := [O1 11 (.fldA 0 (.tf 1)),O1 12 (.load false 1 (.tf 11)),O8 13 12,O1 14 (.bin .gtr .no (.t 13) (c9 4)),O3 15 14,O9 16 15 false (.fldA 1 (.tf 1)),O9 17 15 false (.load false 1 (.tf 16)),O9 18 15 false (.len false (.t 17)),O9 19 15 false (.bin .gtr .no (.t 18) (c9 6)),O1 20 (.pick (.t 15) (.c (.bool true)) (.t 19)),O3 21 20,O9 22 21 false (.fldA 2 (.tf 1)),O9 23 21 false (.load false 1 (.tf 22)),O9 24 21 false (.len false (.t 23)),O9 25 21 false (.bin .gtr .no (.t 24) (c9 2)),O1 26 (.pick (.t 21) (.c (.bool true)) (.t 25)),O3 27 26,O9 28 27 false (.fldA 3 (.tf 1)),O9 29 27 false (.load false 1 (.tf 28)),O9 30 27 false (.len false (.t 29)),O9 31 27 false (.call "newel/newelref04.from" [.t 30, (c9 1), (c9 12)]),O9 32 27 false (.un .not (.t 31)),O1 33 (.pick (.t 27) (.c (.bool true)) (.t 32)),O3 34 33,O9 35 34 false (.fldA 4 (.tf 1)),O9 36 34 false (.load false 1 (.tf 35)),O9 37 34 false (.len false (.t 36)),O9 38 34 false (.bin .gtr .no (.t 37) (c9 40)),O1 39 (.pick (.t 34) (.c (.bool true)) (.t 38))]
def m42 : List XO := [O1 2 (.mv (c9 41))]
def m5b : List XO := [O1 40 (.load true 5 (.tf 1)),O1 41 (.call "newel/newelref04.names" [.t 40]),O3 3 41]
def m5l : List XO := [O1 4 (.mv (c9 0))]
def m5n : List XO := [O3 42 4,O3 43 3,O8 44 43,O1 45 (.bin .lss .no (.t 42) (.t 44))]
def m5o : List XO := [O3 48 3,O3 49 4,O7 50 1 48 49,O4 51 1 50,O1 52 (.len true (.t 51)),O1 53 (.bin .gtr .no (.t 52) (c9 8)),O3 54 53,O9 55 54 false (.mv (.t 3)),O9 56 54 false (.mv (.t 4)),O9 57 54 false (.ixA 1 (.t 55) (.t 56)),O9 58 54 false (.load false 1 (.t 57)),O9 59 54 false (.call "newel/newelref04.Word" [.t 58]),O9 60 54 false (.un .not (.t 59)),O1 61 (.pick (.t 54) (.c (.bool true)) (.t 60))]
def m5p : List XO := [O1 2 (.mv (c9 41))]
def m5q : List XO := [O1 5 (.mv (c9 0))]
def m5r : List XO := [O3 62 5,O3 63 4,O1 64 (.bin .lss .no (.t 62) (.t 63))]
def m4u : List XO := [O3 67 3,O3 68 5,O7 69 1 67 68,O4 70 1 69,O3 71 3,O3 72 4,O7 73 1 71 72,O4 74 1 73,O1 75 (.bin .eql .no (.t 70) (.t 74))]
def m4v : List XO := [O1 2 (.mv (c9 41))]
def m4w : List XO := [O3 65 5,O1 66 (.bin .add .no (.t 65) (c9 1)),O3 5 66]
def g4f : XCode :=
 (.seq (.seq (.reg m5r) (.cond (.t 64) .skip (.exit 2))) (.seq (.block 3 (.seq (.reg m4u) (.cond (.t 75) (.seq (.reg m4v) .ret) .skip))) (.reg m4w)))
def m4x : List XO := [O3 46 4,O1 47 (.bin .add .no (.t 46) (c9 1)),O3 4 47]
def g4g : XCode :=
 (.seq (.seq (.reg m5n) (.cond (.t 45) .skip (.exit 0))) (.seq (.block 1 (.seq (.seq (.reg m5o) (.cond (.t 61) (.seq (.reg m5p) .ret) .skip)) (.seq (.reg m5q) (.block 2 (.loop g4f))))) (.reg m4x)))
def m4y : List XO := [O1 6 (.mv (c9 0))]
def m4z : List XO := [O3 76 6,O1 77 (.fldA 2 (.tf 1)),O1 78 (.load false 1 (.tf 77)),O8 79 78,O1 80 (.bin .lss .no (.t 76) (.t 79))]
def m40 : List XO := [O1 83 (.fldA 2 (.tf 1)),O1 84 (.load false 1 (.tf 83)),O3 85 6,O7 86 2 84 85,O5 87 1 86,O4 88 1 87,O1 89 (.call "newel/newelref04.from" [.t 88, (c9 1), (c9 7)]),O1 90 (.un .not (.t 89))]
def m41 : List XO := [O1 2 (.mv (c9 41))]
def m43 : List XO := [O3 81 6,O1 82 (.bin .add .no (.t 81) (c9 1)),O3 6 82]
def g4h : XCode :=
 (.seq (.seq (.reg m4z) (.cond (.t 80) .skip (.exit 4))) (.seq (.block 5 (.seq (.reg m40) (.cond (.t 90) (.seq (.reg m41) .ret) .skip))) (.reg m43)))
def m44 : List XO := [O1 7 (.mv (c9 0))]
def m45 : List XO := [O3 91 7,O1 92 (.fldA 3 (.tf 1)),O1 93 (.load false 1 (.tf 92)),O8 94 93,O1 95 (.bin .lss .no (.t 91) (.t 94))]
def m46 : List XO := [O1 98 (.fldA 3 (.tf 1)),O1 99 (.load false 1 (.tf 98)),O3 100 7,O7 101 2 99 100,O5 102 1 101,O4 103 1 102,O1 104 (.fldA 1 (.tf 1)),O1 105 (.load false 1 (.tf 104)),O8 106 105,O1 107 (.cvtI .u64 (.t 106)),O1 108 (.bin .shl .no (c9 1) (.t 107)),O1 109 (.bin .sub .no (.t 108) (c9 1)),O1 110 (.call "newel/newelref04.from" [.t 103, (c9 0), .t 109]),O1 111 (.un .not (.t 110))]
def m47 : List XO := [O1 2 (.mv (c9 41))]
def m48 : List XO := [O3 96 7,O1 97 (.bin .add .no (.t 96) (c9 1)),O3 7 97]
def g4i : XCode :=
 (.seq (.seq (.reg m45) (.cond (.t 95) .skip (.exit 6))) (.seq (.block 7 (.seq (.reg m46) (.cond (.t 111) (.seq (.reg m47) .ret) .skip))) (.reg m48)))
def m49 : List XO := [O1 8 (.mv (c9 0))]
def m5a : List XO := [O3 112 8,O1 113 (.fldA 4 (.tf 1)),O1 114 (.load false 1 (.tf 113)),O8 115 114,O1 116 (.bin .lss .no (.t 112) (.t 115))]
def m5c : List XO := [O1 119 (.fldA 4 (.tf 1)),O1 120 (.load false 1 (.tf 119)),O3 121 8,O7 122 4 120 121,O6 123 4 122,O1 9 (.alloc [(.int .i64 0), (.int .i64 0), (.slice none 0 0), (.slice none 0 0)]),O2 (.store 4 (.t 9) (.t 123))]
def m5d : List XO := [O5 124 0 9,O4 125 1 124,O1 126 (.fldA 3 (.tf 1)),O1 127 (.load false 1 (.tf 126)),O8 128 127,O1 129 (.bin .sub .no (.t 128) (c9 1)),O1 130 (.call "newel/newelref04.from" [.t 125, (.c (.int .i64 (-1))), .t 129]),O1 131 (.un .not (.t 130)),O3 132 131,O9 133 132 false (.fldA 1 (.t 9)),O9 134 132 false (.load false 1 (.t 133)),O9 135 132 false (.fldA 3 (.tf 1)),O9 136 132 false (.load false 1 (.tf 135)),O9 137 132 false (.len false (.t 136)),O9 138 132 false (.bin .sub .no (.t 137) (c9 1)),O9 139 132 false (.call "newel/newelref04.from" [.t 134, (c9 0), .t 138]),O9 140 132 false (.un .not (.t 139)),O1 141 (.pick (.t 132) (.c (.bool true)) (.t 140)),O3 142 141,O9 143 142 false (.load true 5 (.tf 1)),O9 144 142 false (.fldA 2 (.t 9)),O9 145 142 false (.load false 1 (.t 144)),O9 146 142 false (.call "newel/newelref04.condition" [.t 143, .t 145, (.c (.bool false))]),O9 147 142 false (.un .not (.t 146)),O1 148 (.pick (.t 142) (.c (.bool true)) (.t 147)),O3 149 148,O9 150 149 false (.fldA 3 (.t 9)),O9 151 149 false (.load false 1 (.t 150)),O9 152 149 false (.len false (.t 151)),O9 153 149 false (.bin .gtr .no (.t 152) (c9 4)),O1 154 (.pick (.t 149) (.c (.bool true)) (.t 153))]
def m5e : List XO := [O1 2 (.mv (c9 41))]
def m5f : List XO := [O1 10 (.mv (c9 0))]
def m5g : List XO := [O3 155 10,O5 156 3 9,O4 157 1 156,O8 158 157,O1 159 (.bin .lss .no (.t 155) (.t 158))]
def m5h : List XO := [O5 162 3 9,O4 163 1 162,O3 164 10,O7 165 2 163 164,O5 166 0 165,O4 167 1 166,O1 168 (.call "newel/newelref04.from" [.t 167, (c9 1), (c9 3)]),O1 169 (.un .not (.t 168)),O3 170 169,O9 171 170 false (.fldA 3 (.t 9)),O9 172 170 false (.load false 1 (.t 171)),O9 173 170 false (.mv (.t 10)),O9 174 170 false (.ixA 2 (.t 172) (.t 173)),O9 175 170 false (.fldA 1 (.t 174)),O9 176 170 false (.load false 1 (.t 175)),O9 177 170 false (.fldA 2 (.tf 1)),O9 178 170 false (.load false 1 (.tf 177)),O9 179 170 false (.len false (.t 178)),O9 180 170 false (.bin .sub .no (.t 179) (c9 1)),O9 181 170 false (.call "newel/newelref04.from" [.t 176, (c9 0), .t 180]),O9 182 170 false (.un .not (.t 181)),O1 183 (.pick (.t 170) (.c (.bool true)) (.t 182))]
def m5i : List XO := [O1 2 (.mv (c9 41))]
def m5j : List XO := [O3 160 10,O1 161 (.bin .add .no (.t 160) (c9 1)),O3 10 161]
def g4j : XCode :=
 (.seq (.seq (.reg m5g) (.cond (.t 159) .skip (.exit 10))) (.seq (.block 11 (.seq (.reg m5h) (.cond (.t 183) (.seq (.reg m5i) .ret) .skip))) (.reg m5j)))
def m5k : List XO := [O3 117 8,O1 118 (.bin .add .no (.t 117) (c9 1)),O3 8 118]
def g4k : XCode :=
 (.seq (.seq (.reg m5a) (.cond (.t 116) .skip (.exit 8))) (.seq (.block 9 (.seq (.reg m5c) (.seq (.seq (.reg m5d) (.cond (.t 154) (.seq (.reg m5e) .ret) .skip)) (.seq (.reg m5f) (.block 10 (.loop g4j)))))) (.reg m5k)))
def m5m : List XO := [O1 2 (.mv (c9 0))]
def x_r04_Check : XFunc := { np := 1, res := [.t 2], body :=
 (.seq (.reg m4s) (.seq (.seq (.reg m4t) (.cond (.t 39) (.seq (.reg m42) .ret) .skip)) (.seq (.reg m5b) (.seq (.seq (.reg m5l) (.block 0 (.loop g4g))) (.seq (.seq (.reg m4y) (.block 4 (.loop g4h))) (.seq (.seq (.reg m44) (.block 6 (.loop g4i))) (.seq (.seq (.reg m49) (.block 8 (.loop g4k))) (.seq (.reg m5m) .ret)))))))) }
def m8j : List XO := [O1 3 (.boxF (.t 0)),O1 6 (.mv (.c (.bool false)))]
def m8k : List XO := [O3 11 1,O8 12 11,O1 13 (.bin .gtr .no (.t 12) (c9 6))]
def m8v : List XO := [O1 6 (.mv (.c (.bool false)))]
def m81 : List XO := [O1 7 (.mv (c9 0))]
def m82 : List XO := [O3 14 7,O3 15 1,O8 16 15,O1 17 (.bin .lss .no (.t 14) (.t 16))]
def m83 : List XO := [O3 20 1,O3 21 7,O7 22 1 20 21,O4 23 1 22,O8 24 23,O1 25 (.bin .gtr .no (.t 24) (c9 6))]
def m84 : List XO := [O1 6 (.mv (.c (.bool false)))]
def m85 : List XO := [O1 8 (.mv (c9 0))]
def m86 : List XO := [O3 26 8,O3 27 1,O3 28 7,O7 29 1 27 28,O4 30 1 29,O8 31 30,O1 32 (.bin .lss .no (.t 26) (.t 31))]
def m87 : List XO := [O3 35 1,O3 36 7,O7 37 1 35 36,O4 38 1 37,O3 39 8,O7 40 4 38 39,O6 41 4 40,O1 9 (.alloc [(.int .i64 0), (.int .i64 0), (.int .i64 0), (.bool false)]),O2 (.store 4 (.t 9) (.t 41))]
def m8l : List XO := [O1 10 (.mv (.c (.bool false)))]
def m8m : List XO := [O5 42 0 9,O4 43 1 42]
def m8n : List XO := [O1 45 (.bin .eql .no (.t 43) (c9 1)),O3 44 45]
def m8o : List XO := [O5 46 1 9,O4 47 1 46,O1 48 (.fldA 0 (.tf 3)),O1 49 (.load false 1 (.tf 48)),O8 50 49,O1 51 (.bin .sub .no (.t 50) (c9 1)),O1 52 (.call "newel/newelref04.from" [.t 47, (c9 0), .t 51]),O3 53 52,O9 54 53 true (.fldA 2 (.t 9)),O9 55 53 true (.load false 1 (.t 54)),O9 56 53 true (.bin .eql .no (.t 55) (c9 0)),O1 57 (.pick (.t 53) (.t 56) (.c (.bool false))),O3 10 57]
def m8p : List XO := [O1 59 (.bin .eql .no (.t 43) (c9 2)),O3 58 59]
def m8q : List XO := [O5 60 1 9,O4 61 1 60,O1 62 (.fldA 2 (.tf 3)),O1 63 (.load false 1 (.tf 62)),O8 64 63,O1 65 (.bin .sub .no (.t 64) (c9 1)),O1 66 (.call "newel/newelref04.from" [.t 61, (c9 0), .t 65]),O3 67 66,O9 68 67 true (.fldA 2 (.t 9)),O9 69 67 true (.load false 1 (.t 68)),O9 70 67 true (.fldA 2 (.tf 3)),O9 71 67 true (.load false 1 (.tf 70)),O9 72 67 true (.fldA 1 (.t 9)),O9 73 67 true (.load false 1 (.t 72)),O9 74 67 true (.ixA 2 (.t 71) (.t 73)),O9 75 67 true (.fldA 1 (.t 74)),O9 76 67 true (.load false 1 (.t 75)),O9 77 67 true (.call "newel/newelref04.from" [.t 69, (c9 0), .t 76]),O1 78 (.pick (.t 67) (.t 77) (.c (.bool false))),O3 10 78]
def m8r : List XO := [O1 80 (.bin .eql .no (.t 43) (c9 3)),O3 79 80]
def m8s : List XO := [O3 81 2,O3 82 81,O9 83 82 true (.fldA 1 (.t 9)),O9 84 82 true (.load false 1 (.t 83)),O9 85 82 true (.fldA 3 (.tf 3)),O9 86 82 true (.load false 1 (.tf 85)),O9 87 82 true (.len false (.t 86)),O9 88 82 true (.bin .sub .no (.t 87) (c9 1)),O9 89 82 true (.call "newel/newelref04.from" [.t 84, (c9 0), .t 88]),O1 90 (.pick (.t 82) (.t 89) (.c (.bool false))),O3 91 90,O9 92 91 true (.fldA 2 (.t 9)),O9 93 91 true (.load false 1 (.t 92)),O9 94 91 true (.bin .eql .no (.t 93) (c9 0)),O1 95 (.pick (.t 91) (.t 94) (.c (.bool false))),O3 10 95]
def m8t : List XO := [O1 97 (.bin .eql .no (.t 43) (c9 4)),O3 96 97]
def m8u : List XO := [O5 98 1 9,O4 99 1 98,O1 100 (.fldA 1 (.tf 3)),O1 101 (.load false 1 (.tf 100)),O8 102 101,O1 103 (.bin .sub .no (.t 102) (c9 1)),O1 104 (.call "newel/newelref04.from" [.t 99, (c9 0), .t 103]),O3 105 104,O9 106 105 true (.fldA 2 (.t 9)),O9 107 105 true (.load false 1 (.t 106)),O9 108 105 true (.bin .eql .no (.t 107) (c9 0)),O1 109 (.pick (.t 105) (.t 108) (.c (.bool false))),O3 10 109]
def m8w : List XO := [O3 110 10,O1 111 (.un .not (.t 110))]
def m8x : List XO := [O1 6 (.mv (.c (.bool false)))]
def m8y : List XO := [O3 33 8,O1 34 (.bin .add .no (.t 33) (c9 1)),O3 8 34]
def g4y : XCode :=
 (.seq (.seq (.reg m86) (.cond (.t 32) .skip (.exit 2))) (.seq (.block 3 (.seq (.reg m87) (.seq (.reg m8l) (.seq (.seq (.reg m8m) (.block 4 (.seq (.reg m8n) (.cond (.t 44) (.reg m8o) (.seq (.reg m8p) (.cond (.t 58) (.reg m8q) (.seq (.reg m8r) (.cond (.t 79) (.reg m8s) (.seq (.reg m8t) (.cond (.t 96) (.reg m8u) .skip)))))))))) (.seq (.reg m8w) (.cond (.t 111) (.seq (.reg m8x) .ret) .skip)))))) (.reg m8y)))
def m8z : List XO := [O3 18 7,O1 19 (.bin .add .no (.t 18) (c9 1)),O3 7 19]
def g4z : XCode :=
 (.seq (.seq (.reg m82) (.cond (.t 17) .skip (.exit 0))) (.seq (.block 1 (.seq (.seq (.reg m83) (.cond (.t 25) (.seq (.reg m84) .ret) .skip)) (.seq (.reg m85) (.block 2 (.loop g4y))))) (.reg m8z)))
def m80 : List XO := [O1 6 (.mv (.c (.bool true)))]
def x_r04_condition : XFunc := { np := 3, res := [.t 6], body :=
 (.seq (.reg m8j) (.seq (.seq (.reg m8k) (.cond (.t 13) (.seq (.reg m8v) .ret) .skip)) (.seq (.seq (.reg m81) (.block 0 (.loop g4z))) (.seq (.reg m80) .ret)))) }
def y5b : List XO := [O1 2 (.boxF (.t 0)),O1 3 (.boxF (.t 1)),O1 4 (.mv (c9 0))]
def y5c : List XO := [O1 6 (.load true 6 (.tf 2)),O1 7 (.call "newel/drive.Check" [.t 6]),O3 5 7]
def y5d : List XO := [O3 8 5,O1 9 (.bin .neq .no (.t 8) (c9 0))]
def y5e : List XO := [O3 10 5,O3 4 10]
def y5f : List XO := [O1 11 (.fldA 0 (.tf 3)),O1 12 (.load false 1 (.tf 11)),O1 13 (.call "newel/drive.to" [(c9 1000)]),O1 14 (.call "newel/drive.in" [.t 12, .t 13]),O1 15 (.un .not (.t 14)),O3 16 15,O9 17 16 false (.fldA 1 (.tf 3)),O9 18 16 false (.fldA 0 (.tf 17)),O9 19 16 false (.load false 1 (.tf 18)),O9 20 16 false (.bin .lss .no (.t 19) (c9 0)),O1 21 (.pick (.t 16) (.c (.bool true)) (.t 20)),O3 22 21,O9 23 22 false (.fldA 1 (.tf 3)),O9 24 22 false (.fldA 0 (.tf 23)),O9 25 22 false (.load false 1 (.tf 24)),O9 26 22 false (.fldA 1 (.tf 3)),O9 27 22 false (.fldA 1 (.tf 26)),O9 28 22 false (.load false 1 (.tf 27)),O9 29 22 false (.bin .gtr .no (.t 25) (.t 28)),O1 30 (.pick (.t 22) (.c (.bool true)) (.t 29)),O3 31 30,O9 32 31 false (.fldA 1 (.tf 3)),O9 33 31 false (.fldA 1 (.tf 32)),O9 34 31 false (.load false 1 (.tf 33)),O9 35 31 false (.bin .gtr .no (.t 34) (c9 100000)),O1 36 (.pick (.t 31) (.c (.bool true)) (.t 35)),O3 37 36,O9 38 37 false (.fldA 3 (.tf 3)),O9 39 37 false (.load false 1 (.tf 38)),O9 40 37 false (.bin .lss .no (.t 39) (c9 0)),O1 41 (.pick (.t 37) (.c (.bool true)) (.t 40)),O3 42 41,O9 43 42 false (.fldA 3 (.tf 3)),O9 44 42 false (.load false 1 (.tf 43)),O9 45 42 false (.fldA 5 (.tf 2)),O9 46 42 false (.load false 1 (.tf 45)),O9 47 42 false (.len false (.t 46)),O9 48 42 false (.bin .shl .no (c9 1) (.t 47)),O9 49 42 false (.bin .geq .no (.t 44) (.t 48)),O1 50 (.pick (.t 42) (.c (.bool true)) (.t 49))]
def y5g : List XO := [O1 4 (.mv (c9 11))]
def y5h : List XO := [O1 4 (.mv (c9 0))]
def x_drive_checkStop : XFunc := { np := 2, res := [.t 4], body :=
 (.seq (.reg y5b) (.seq (.seq (.reg y5c) (.seq (.reg y5d) (.cond (.t 9) (.seq (.reg y5e) .ret) .skip))) (.seq (.seq (.reg y5f) (.cond (.t 50) (.seq (.reg y5g) .ret) .skip)) (.seq (.reg y5h) .ret)))) }
def y5p : List XO := [O1 3 (.boxF (.t 0)),O1 4 (.boxF (.t 1)),O1 6 (.alloc [(.int .i64 0), (.slice none 0 0), (.bool false)])]
def y5q : List XO := [O1 9 (.load true 6 (.tf 3)),O1 10 (.load true 4 (.tf 4)),O1 11 (.fldA 0 (.tf 4)),O1 12 (.load false 1 (.tf 11)),O1 13 (.build [(.bool false), (.int .i64 0), (.int .i64 0), (.int .i64 0), (.int .i64 0), (.slice none 0 0), (.int .i64 0), (.int .i64 0), (.int .i64 0), (.int .i64 0), (.int .i64 0), (.int .i64 0)] [(0, 6, (.t 9)), (6, 4, (.t 10)), (10, 1, (.t 12))]),O1 7 (.alloc [(.bool false), (.int .i64 0), (.int .i64 0), (.int .i64 0), (.int .i64 0), (.slice none 0 0), (.int .i64 0), (.int .i64 0), (.int .i64 0), (.int .i64 0), (.int .i64 0), (.int .i64 0)]),O2 (.store 12 (.t 7) (.t 13))]
def y5r : List XO := [O1 14 (.fldA 0 (.tf 4)),O1 15 (.load false 1 (.tf 14)),O1 16 (.bin .eql .no (.t 15) (c9 0)),O1 17 (.build [(.int .i64 0), (.slice none 0 0), (.bool false)] [(2, 1, (.t 16))]),O1 8 (.alloc [(.int .i64 0), (.slice none 0 0), (.bool false)]),O2 (.store 3 (.t 8) (.t 17))]
def y5s : List XO := [O5 18 2 8,O4 19 1 18,O1 20 (.un .not (.t 19)),O3 21 20,O9 22 21 true (.fldA 11 (.t 7)),O9 23 21 true (.load false 1 (.t 22)),O9 24 21 true (.bin .lss .no (.t 23) (c9 100)),O1 25 (.pick (.t 21) (.t 24) (.c (.bool false)))]
def y5t : List XO := [O5 26 1 8,O4 27 1 26,O3 28 2,O1 29 (.callw "(*newel/drive.motion).extreme" [.t 7, .t 28]),O1 30 (.bsl 1 [.t 29]),O1 31 (.app 1 8 (.t 27) (.t 30)),O5 32 1 8,O2 (.store 1 (.t 32) (.t 31))]
def y5u : List XO := [O5 33 0 8,O4 34 1 33,O5 35 10 7,O4 36 1 35,O1 37 (.bin .add .no (.t 34) (.t 36)),O5 38 0 8,O2 (.store 1 (.t 38) (.t 37))]
def y5v : List XO := [O5 39 10 7,O4 40 1 39,O1 41 (.bin .eql .no (.t 40) (c9 0)),O5 42 2 8,O2 (.store 1 (.t 42) (.t 41))]
def y5x : XCode :=
 (.seq (.seq (.reg y5s) (.cond (.t 25) .skip (.exit 0))) (.block 1 (.seq (.regW y5t [(1, 3), (0, 3)]) (.seq (.reg y5u) (.reg y5v)))))
def y5w : List XO := [O6 43 3 8,O2 (.store 3 (.t 6) (.t 43))]
def x_drive_run : XFunc := { np := 3, res := [.cell 6 true 3], body :=
 (.seq (.reg y5p) (.seq (.reg y5q) (.seq (.reg y5r) (.seq (.block 0 (.loop y5x)) (.seq (.reg y5w) .ret))))) }
def y2w : List XO := [O1 1 (.boxF (.t 0)),O1 2 (.mv (.c (.slice none 0 0))),O1 3 (.mv (c9 0))]
def y2x : List XO := [O1 7 (.load true 3 (.tf 1)),O1 8 (.call "newel/circuit.Check" [.t 7]),O3 4 8]
def y96 : List XO := [O3 9 4,O1 10 (.bin .neq .no (.t 9) (c9 0))]
def y8i : List XO := [O3 11 4,O1 2 (.mv (.c (.slice none 0 0))),O3 3 11]
def y8j : List XO := [O1 5 (.mv (.c (.slice none 0 0)))]
def y3a : List XO := [O1 12 (.fldA 1 (.tf 1)),O1 13 (.load false 1 (.tf 12)),O8 14 13,O1 15 (.mv (c9 0))]
def y3b : List XO := [O1 16 (.bin .lss .no (.t 15) (.t 14))]
def y3c : List XO := [O3 17 15,O3 6 17]
def y3d : List XO := [O1 18 (.load true 3 (.tf 1)),O3 19 6,O1 20 (.bin .shl .no (c9 1) (.t 19)),O1 21 (.call "newel/circuit.weak" [.t 18, .t 20]),O8 22 21,O1 23 (.bin .gtr .no (.t 22) (c9 0))]
def y3e : List XO := [O3 24 5,O3 25 6,O1 26 (.bsl 1 [.t 25]),O1 27 (.app 1 8 (.t 24) (.t 26)),O3 5 27]
def y2y : List XO := [O1 28 (.bin .add .no (.t 15) (c9 1)),O3 15 28]
def y3f : XCode :=
 (.seq (.reg y3b) (.seq (.cond (.t 16) .skip (.exit 0)) (.seq (.block 1 (.seq (.reg y3c) (.seq (.reg y3d) (.cond (.t 23) (.reg y3e) .skip)))) (.reg y2y))))
def y2z : List XO := [O3 29 5,O3 2 29,O1 3 (.mv (c9 0))]
def x_circuit_Critical : XFunc := { np := 1, res := [.t 2, .t 3], body :=
 (.seq (.reg y2w) (.seq (.seq (.reg y2x) (.seq (.reg y96) (.cond (.t 10) (.seq (.reg y8i) .ret) .skip))) (.seq (.reg y8j) (.seq (.seq (.reg y3a) (.block 0 (.loop y3f))) (.seq (.reg y2z) .ret))))) }
def y7d : List XO := [O1 4 (.mv (.c (.bool false)))]
def y7e : List XO := [O3 5 0,O3 6 1,O1 7 (.call "slices.Index[[]int,int]" [.t 5, .t 6]),O1 8 (.bin .geq .no (.t 7) (c9 0)),O3 4 8]
def x_slices_Contains___int_int_ : XFunc := { np := 2, res := [.t 4], body :=
 (.seq (.reg y7d) (.seq (.reg y7e) .ret)) }
def y4c : List XO := [O1 2 (.boxF (.t 0)),O1 4 (.mv (.c (.slice none 0 0)))]
def y4d : List XO := [O1 6 (.fldA 0 (.tf 2)),O1 7 (.load false 1 (.tf 6)),O1 8 (.mv (c9 0))]
def y4e : List XO := [O1 9 (.bin .lss .no (.t 8) (.t 7))]
def y4f : List XO := [O3 10 8,O3 5 10]
def y4g : List XO := [O1 11 (.load true 3 (.tf 2)),O3 12 5,O1 13 (.bin .shl .no (c9 1) (.t 12)),O3 14 1,O1 15 (.build [(.int .i64 0), (.slice none 0 0), (.slice none 0 0), (.int .i64 0), (.int .i64 0), (.int .i64 0)] [(0, 3, (.t 11)), (3, 1, (.t 13)), (4, 1, (.t 14))]),O1 16 (.call "(newel/circuit.state).wire" [.t 15, (c9 0)])]
def y4h : List XO := [O3 17 4,O3 18 5,O1 19 (.bsl 1 [.t 18]),O1 20 (.app 1 8 (.t 17) (.t 19)),O3 4 20]
def y4i : List XO := [O1 21 (.bin .add .no (.t 8) (c9 1)),O3 8 21]
def y4k : XCode :=
 (.seq (.reg y4e) (.seq (.cond (.t 9) .skip (.exit 0)) (.seq (.block 1 (.seq (.reg y4f) (.seq (.reg y4g) (.cond (.t 16) (.reg y4h) .skip)))) (.reg y4i))))
def y4j : List XO := [O3 22 4,O3 4 22]
def x_circuit_weak : XFunc := { np := 2, res := [.t 4], body :=
 (.seq (.reg y4c) (.seq (.seq (.reg y4d) (.block 0 (.loop y4k))) (.seq (.reg y4j) .ret))) }
def m9w : List XO := [O1 4 (.boxF (.t 0)),O1 5 (.boxF (.t 1)),O1 7 (.boxF (.t 3)),O1 8 (.mv (.c (.bool false)))]
def m9x : List XO := [O1 9 (.mv (.c (.bool false)))]
def m90 : List XO := [O1 10 (.fldA 0 (.tf 7)),O1 11 (.load false 1 (.tf 10))]
def m91 : List XO := [O1 13 (.bin .eql .no (.t 11) (c9 1)),O3 12 13]
def m92 : List XO := [O3 14 2,O1 15 (.fldA 1 (.tf 7)),O1 16 (.load false 1 (.tf 15)),O1 17 (.cvtI .u64 (.t 16)),O1 18 (.bin .shr .no (.t 14) (.t 17)),O1 19 (.bin .and .no (.t 18) (c9 1)),O1 20 (.bin .eql .no (.t 19) (c9 1)),O3 9 20]
def m93 : List XO := [O1 22 (.bin .eql .no (.t 11) (c9 2)),O3 21 22]
def m94 : List XO := [O1 23 (.fldA 1 (.tf 7)),O1 24 (.load false 1 (.tf 23)),O1 25 (.fldA 1 (.tf 5)),O1 26 (.ixP 1 2 (.t 25) (.t 24)),O1 27 (.load false 1 (.tf 26)),O1 28 (.fldA 2 (.tf 7)),O1 29 (.load false 1 (.tf 28)),O1 30 (.bin .geq .no (.t 27) (.t 29)),O3 9 30]
def m95 : List XO := [O1 32 (.bin .eql .no (.t 11) (c9 3)),O3 31 32]
def m96 : List XO := [O1 33 (.fldA 0 (.tf 5)),O1 34 (.load false 1 (.tf 33)),O1 35 (.fldA 1 (.tf 7)),O1 36 (.load false 1 (.tf 35)),O1 37 (.bin .eql .no (.t 34) (.t 36)),O3 9 37]
def m97 : List XO := [O1 39 (.bin .eql .no (.t 11) (c9 4)),O3 38 39]
def m9y : List XO := [O1 40 (.fldA 3 (.tf 4)),O1 41 (.load false 1 (.tf 40)),O1 42 (.fldA 0 (.tf 5)),O1 43 (.load false 1 (.tf 42)),O7 44 2 41 43,O5 45 1 44,O4 46 1 45,O1 47 (.fldA 1 (.tf 7)),O1 48 (.load false 1 (.tf 47)),O1 49 (.cvtI .u64 (.t 48)),O1 50 (.bin .shr .no (.t 46) (.t 49)),O1 51 (.bin .and .no (.t 50) (c9 1)),O1 52 (.bin .eql .no (.t 51) (c9 1)),O3 9 52]
def m9z : List XO := [O3 53 9,O1 54 (.fldA 3 (.tf 7)),O1 55 (.load false 1 (.tf 54)),O1 56 (.bin .neq .bool (.t 53) (.t 55)),O3 8 56]
def x_r04_literal : XFunc := { np := 4, res := [.t 8], body :=
 (.seq (.reg m9w) (.seq (.reg m9x) (.seq (.seq (.reg m90) (.block 0 (.seq (.reg m91) (.cond (.t 12) (.reg m92) (.seq (.reg m93) (.cond (.t 21) (.reg m94) (.seq (.reg m95) (.cond (.t 31) (.reg m96) (.seq (.reg m97) (.cond (.t 38) (.reg m9y) .skip)))))))))) (.seq (.reg m9z) .ret)))) }
def o0x : List XO := [O1 1 (.boxF (.t 0)),O1 2 (.mv (c9 0))]
def o0y : List XO := [O1 13 (.fldA 0 (.tf 1)),O1 14 (.load false 1 (.tf 13)),O8 15 14,O1 16 (.bin .gtr .no (.t 15) (c9 4)),O3 17 16,O9 18 17 false (.fldA 1 (.tf 1)),O9 19 17 false (.load false 1 (.tf 18)),O9 20 17 false (.len false (.t 19)),O9 21 17 false (.bin .gtr .no (.t 20) (c9 6)),O1 22 (.pick (.t 17) (.c (.bool true)) (.t 21)),O3 23 22,O9 24 23 false (.fldA 2 (.tf 1)),O9 25 23 false (.load false 1 (.tf 24)),O9 26 23 false (.len false (.t 25)),O9 27 23 false (.bin .gtr .no (.t 26) (c9 2)),O1 28 (.pick (.t 23) (.c (.bool true)) (.t 27)),O3 29 28,O9 30 29 false (.fldA 3 (.tf 1)),O9 31 29 false (.load false 1 (.tf 30)),O9 32 29 false (.len false (.t 31)),O9 33 29 false (.call "newel/situation.within" [.t 32, (c9 1), (c9 12)]),O9 34 29 false (.un .not (.t 33)),O1 35 (.pick (.t 29) (.c (.bool true)) (.t 34)),O3 36 35,O9 37 36 false (.fldA 4 (.tf 1)),O9 38 36 false (.load false 1 (.tf 37)),O9 39 36 false (.len false (.t 38)),O9 40 36 false (.bin .gtr .no (.t 39) (c9 40)),O1 41 (.pick (.t 36) (.c (.bool true)) (.t 40)),O3 42 41,O9 43 42 false (.load true 5 (.tf 1)),O9 44 42 false (.call "newel/situation.named" [.t 43]),O9 45 42 false (.un .not (.t 44)),O1 46 (.pick (.t 42) (.c (.bool true)) (.t 45))]
def o08 : List XO := [O1 2 (.mv (c9 41))]
def o1i : List XO := [O1 47 (.fldA 2 (.tf 1)),O1 48 (.load false 1 (.tf 47)),O8 49 48,O1 50 (.mv (c9 0))]
def o1q : List XO := [O1 51 (.bin .lss .no (.t 50) (.t 49))]
def o1r : List XO := [O7 52 2 48 50,O6 53 2 52,O1 4 (.alloc [(.string (ByteArray.mk #[])), (.int .i64 0)]),O2 (.store 2 (.t 4) (.t 53))]
def o1s : List XO := [O5 54 1 4,O4 55 1 54,O1 56 (.call "newel/situation.within" [.t 55, (c9 1), (c9 7)]),O1 57 (.un .not (.t 56))]
def o1t : List XO := [O1 2 (.mv (c9 41))]
def o1u : List XO := [O1 58 (.bin .add .no (.t 50) (c9 1)),O3 50 58]
def g5a : XCode :=
 (.seq (.reg o1q) (.seq (.cond (.t 51) .skip (.exit 0)) (.seq (.block 1 (.seq (.reg o1r) (.seq (.reg o1s) (.cond (.t 57) (.seq (.reg o1t) .ret) .skip)))) (.reg o1u))))
def o0z : List XO := [O1 59 (.fldA 3 (.tf 1)),O1 60 (.load false 1 (.tf 59)),O8 61 60,O1 62 (.mv (c9 0))]
def o00 : List XO := [O1 63 (.bin .lss .no (.t 62) (.t 61))]
def o01 : List XO := [O7 64 2 60 62,O6 65 2 64,O1 6 (.alloc [(.string (ByteArray.mk #[])), (.int .i64 0)]),O2 (.store 2 (.t 6) (.t 65))]
def o02 : List XO := [O5 66 1 6,O4 67 1 66,O1 68 (.fldA 1 (.tf 1)),O1 69 (.load false 1 (.tf 68)),O8 70 69,O1 71 (.bin .shl .no (c9 1) (.t 70)),O1 72 (.bin .sub .no (.t 71) (c9 1)),O1 73 (.call "newel/situation.within" [.t 67, (c9 0), .t 72]),O1 74 (.un .not (.t 73))]
def o03 : List XO := [O1 2 (.mv (c9 41))]
def o04 : List XO := [O1 75 (.bin .add .no (.t 62) (c9 1)),O3 62 75]
def g46 : XCode :=
 (.seq (.reg o00) (.seq (.cond (.t 63) .skip (.exit 2)) (.seq (.block 3 (.seq (.reg o01) (.seq (.reg o02) (.cond (.t 74) (.seq (.reg o03) .ret) .skip)))) (.reg o04))))
def o05 : List XO := [O1 76 (.fldA 4 (.tf 1)),O1 77 (.load false 1 (.tf 76)),O8 78 77,O1 79 (.mv (c9 0))]
def o06 : List XO := [O1 80 (.bin .lss .no (.t 79) (.t 78))]
def o07 : List XO := [O7 81 4 77 79,O6 82 4 81,O1 8 (.alloc [(.int .i64 0), (.int .i64 0), (.slice none 0 0), (.slice none 0 0)]),O2 (.store 4 (.t 8) (.t 82))]
def o09 : List XO := [O5 83 0 8,O4 84 1 83,O1 85 (.fldA 3 (.tf 1)),O1 86 (.load false 1 (.tf 85)),O8 87 86,O1 88 (.bin .sub .no (.t 87) (c9 1)),O1 89 (.call "newel/situation.within" [.t 84, (.c (.int .i64 (-1))), .t 88]),O1 90 (.un .not (.t 89)),O3 91 90,O9 92 91 false (.fldA 1 (.t 8)),O9 93 91 false (.load false 1 (.t 92)),O9 94 91 false (.fldA 3 (.tf 1)),O9 95 91 false (.load false 1 (.tf 94)),O9 96 91 false (.len false (.t 95)),O9 97 91 false (.bin .sub .no (.t 96) (c9 1)),O9 98 91 false (.call "newel/situation.within" [.t 93, (c9 0), .t 97]),O9 99 91 false (.un .not (.t 98)),O1 100 (.pick (.t 91) (.c (.bool true)) (.t 99)),O3 101 100,O9 102 101 false (.load true 5 (.tf 1)),O9 103 101 false (.fldA 2 (.t 8)),O9 104 101 false (.load false 1 (.t 103)),O9 105 101 false (.call "newel/situation.Asked" [.t 102, .t 104]),O9 106 101 false (.un .not (.t 105)),O1 107 (.pick (.t 101) (.c (.bool true)) (.t 106)),O3 108 107,O9 109 108 false (.fldA 3 (.t 8)),O9 110 108 false (.load false 1 (.t 109)),O9 111 108 false (.len false (.t 110)),O9 112 108 false (.bin .gtr .no (.t 111) (c9 4)),O1 113 (.pick (.t 108) (.c (.bool true)) (.t 112))]
def o1a : List XO := [O1 2 (.mv (c9 41))]
def o1b : List XO := [O5 114 2 8,O4 115 1 114,O8 116 115,O1 117 (.mv (c9 0))]
def o1c : List XO := [O1 118 (.bin .lss .no (.t 117) (.t 116))]
def o1d : List XO := [O7 119 1 115 117,O4 120 1 119,O3 10 120]
def o1e : List XO := [O3 121 10,O1 122 (.call "slices.ContainsFunc[newel/api.Term,newel/api.Literal]" [.t 121, (.f "newel/situation.Check$1")])]
def o1f : List XO := [O1 2 (.mv (c9 41))]
def o1g : List XO := [O1 123 (.bin .add .no (.t 117) (c9 1)),O3 117 123]
def g47 : XCode :=
 (.seq (.reg o1c) (.seq (.cond (.t 118) .skip (.exit 6)) (.seq (.block 7 (.seq (.reg o1d) (.seq (.reg o1e) (.cond (.t 122) (.seq (.reg o1f) .ret) .skip)))) (.reg o1g))))
def o1h : List XO := [O5 124 3 8,O4 125 1 124,O8 126 125,O1 127 (.mv (c9 0))]
def o1j : List XO := [O1 128 (.bin .lss .no (.t 127) (.t 126))]
def o1k : List XO := [O7 129 2 125 127,O6 130 2 129,O1 12 (.alloc [(.int .i64 0), (.int .i64 0)]),O2 (.store 2 (.t 12) (.t 130))]
def o1l : List XO := [O5 131 0 12,O4 132 1 131,O1 133 (.call "newel/situation.within" [.t 132, (c9 1), (c9 3)]),O1 134 (.un .not (.t 133)),O3 135 134,O9 136 135 false (.fldA 1 (.t 12)),O9 137 135 false (.load false 1 (.t 136)),O9 138 135 false (.fldA 2 (.tf 1)),O9 139 135 false (.load false 1 (.tf 138)),O9 140 135 false (.len false (.t 139)),O9 141 135 false (.bin .sub .no (.t 140) (c9 1)),O9 142 135 false (.call "newel/situation.within" [.t 137, (c9 0), .t 141]),O9 143 135 false (.un .not (.t 142)),O1 144 (.pick (.t 135) (.c (.bool true)) (.t 143))]
def o1m : List XO := [O1 2 (.mv (c9 41))]
def o1n : List XO := [O1 145 (.bin .add .no (.t 127) (c9 1)),O3 127 145]
def g48 : XCode :=
 (.seq (.reg o1j) (.seq (.cond (.t 128) .skip (.exit 8)) (.seq (.block 9 (.seq (.reg o1k) (.seq (.reg o1l) (.cond (.t 144) (.seq (.reg o1m) .ret) .skip)))) (.reg o1n))))
def o1o : List XO := [O1 146 (.bin .add .no (.t 79) (c9 1)),O3 79 146]
def g49 : XCode :=
 (.seq (.reg o06) (.seq (.cond (.t 80) .skip (.exit 4)) (.seq (.block 5 (.seq (.reg o07) (.seq (.seq (.reg o09) (.cond (.t 113) (.seq (.reg o1a) .ret) .skip)) (.seq (.seq (.reg o1b) (.block 6 (.loop g47))) (.seq (.reg o1h) (.block 8 (.loop g48))))))) (.reg o1o))))
def o1p : List XO := [O1 2 (.mv (c9 0))]
def x_situation_Check : XFunc := { np := 1, res := [.t 2], body :=
 (.seq (.reg o0x) (.seq (.seq (.reg o0y) (.cond (.t 46) (.seq (.reg o08) .ret) .skip)) (.seq (.seq (.reg o1i) (.block 0 (.loop g5a))) (.seq (.seq (.reg o0z) (.block 2 (.loop g46))) (.seq (.seq (.reg o05) (.block 4 (.loop g49))) (.seq (.reg o1p) .ret)))))) }
def o3d : List XO := [O1 6 (.mv (.c (.bool false)))]
def o3e : List XO := [O3 7 0,O3 8 1,O1 9 (.bin .geq .no (.t 7) (.t 8)),O3 10 9,O9 11 10 true (.mv (.t 0)),O9 12 10 true (.mv (.t 2)),O9 13 10 true (.bin .leq .no (.t 11) (.t 12)),O1 14 (.pick (.t 10) (.t 13) (.c (.bool false))),O3 6 14]
def x_situation_within : XFunc := { np := 3, res := [.t 6], body :=
 (.seq (.reg o3d) (.seq (.reg o3e) .ret)) }
def l96 : List XO := [O1 3 (.boxF (.t 0)),O1 4 (.boxF (.t 1))]
def s2c : List XO := [O3 7 2,O1 8 (.fldA 1 (.tf 4)),O1 9 (.load false 1 (.tf 8)),O1 10 (.nilck (.t 7)),O5 11 1 10,O1 12 (.ixP 1 2 (.t 11) (.t 9)),O3 6 12]
def l98 : List XO := [O1 13 (.fldA 0 (.tf 4)),O1 14 (.load false 1 (.tf 13))]
def l99 : List XO := [O1 16 (.bin .eql .no (.t 14) (c9 1)),O3 15 16]
def m0a : List XO := [O3 17 6,O1 18 (.nilck (.t 17)),O2 (.store 1 (.t 18) (c9 0))]
def m0b : List XO := [O1 20 (.bin .eql .no (.t 14) (c9 2)),O3 19 20]
def m0c : List XO := [O3 21 6,O3 22 6,O1 23 (.nilck (.t 22)),O4 24 1 23,O1 25 (.bin .add .no (.t 24) (c9 1)),O1 26 (.fldA 0 (.tf 3)),O1 27 (.fldA 2 (.tf 26)),O1 28 (.load false 1 (.tf 27)),O1 29 (.fldA 1 (.tf 4)),O1 30 (.load false 1 (.tf 29)),O7 31 2 28 30,O5 32 1 31,O4 33 1 32,O1 34 (.min [.t 25, .t 33]),O1 35 (.nilck (.t 21)),O2 (.store 1 (.t 35) (.t 34))]
def m0d : List XO := [O1 37 (.bin .eql .no (.t 14) (c9 3)),O3 36 37]
def m0e : List XO := [O3 38 6,O3 39 6,O1 40 (.nilck (.t 39)),O4 41 1 40,O1 42 (.bin .sub .no (.t 41) (c9 1)),O1 43 (.max [.t 42, (c9 0)]),O1 44 (.nilck (.t 38)),O2 (.store 1 (.t 44) (.t 43))]
def x__situation_Plant__set : XFunc := { np := 3, res := [], body :=
 (.seq (.reg l96) (.seq (.reg s2c) (.seq (.reg l98) (.block 0 (.seq (.reg l99) (.cond (.t 15) (.reg m0a) (.seq (.reg m0b) (.cond (.t 19) (.reg m0c) (.seq (.reg m0d) (.cond (.t 36) (.reg m0e) .skip)))))))))) }
def v6y : List XO := [O1 2 (.mv (.c (.bool false)))]
def v6z : List XO := [O1 2 (.mv (.c (.bool true)))]
def x_faults_searchD1 : XFunc := { np := 1, res := [.t 2], body :=
 (.seq (.reg v6y) (.seq (.reg v6z) .ret)) }
def v60 : List XO := [O1 4 (.boxF (.t 1)),O1 6 (.mv (.c (.bool false)))]
def v61 : List XO := [O1 6 (.mv (.c (.bool true)))]
def x_faults_searchD2 : XFunc := { np := 3, res := [.t 6], body :=
 (.seq (.reg v60) (.seq (.reg v61) .ret)) }
def v03 : List XO := [O1 3 (.boxF (.t 1)),O1 4 (.mv (.c (.bool false)))]
def v04 : List XO := [O1 8 (.fldA 0 (.tf 3)),O1 9 (.load false 1 (.tf 8)),O3 10 0,O1 11 (.nilck (.t 10)),O5 12 0 11,O5 13 6 12,O4 14 1 13,O1 15 (.bin .eql .no (.t 9) (.t 14))]
def v1d : List XO := [O1 4 (.mv (.c (.bool true)))]
def v1e : List XO := [O3 16 0,O1 17 (.nilck (.t 16)),O5 18 18 17,O4 19 1 18,O1 20 (.load true 5 (.tf 3)),O1 21 (.callw "#li" [.t 19, .t 20, (.c (.bool false)), (c9 5)])]
def v1f : List XO := [O1 4 (.mv (.c (.bool false)))]
def v1g : List XO := [O3 22 0,O1 23 (.nilck (.t 22)),O5 24 8 23,O6 25 5 24,O1 26 (.call "(newel/situation.Plant).All" [.t 25]),O1 27 (.mv (c9 0))]
def v1h : List XO := [O1 28 (.bin .lss .no (.t 27) (.t 26))]
def v1i : List XO := [O3 29 27,O3 5 29]
def v1j : List XO := [O3 30 0,O1 31 (.nilck (.t 30)),O5 32 8 31,O6 33 5 32,O3 34 0,O1 35 (.nilck (.t 34)),O5 36 0 35,O5 37 5 36,O4 38 1 37,O1 39 (.fldA 1 (.tf 3)),O1 40 (.load true 3 (.tf 39)),O3 41 5,O1 42 (.call "(newel/situation.Plant).Allowed" [.t 33, .t 38, .t 40, .t 41]),O1 43 (.un .not (.t 42)),O3 44 43,O9 45 44 false (.mv (.t 0)),O9 46 44 false (.nilck (.t 45)),O9 47 44 false (.fldA 17 (.t 46)),O9 48 44 false (.load false 1 (.t 47)),O9 49 44 false (.fldA 0 (.tf 3)),O9 50 44 false (.load false 1 (.tf 49)),O9 51 44 false (.fldA 1 (.tf 3)),O9 52 44 false (.load true 3 (.tf 51)),O9 53 44 false (.mv (.t 5)),O9 54 44 false (.callv (.t 48) [.t 50, .t 52, .t 53]),O9 55 44 false (.un .not (.t 54)),O1 56 (.pick (.t 44) (.c (.bool true)) (.t 55))]
def v1k : List XO := [O3 58 0,O1 59 (.load true 5 (.tf 3)),O3 60 5,O1 61 (.callw "(*newel/faults.inquiry).seen" [.t 58, .t 59, .t 60]),O3 57 61,O1 62 (.ext (.t 57) 0),O1 63 (.ext (.t 57) 1),O3 6 62,O3 7 63]
def v05 : List XO := [O3 64 7,O1 65 (.un .not (.t 64))]
def v06 : List XO := [O3 66 0,O3 67 0,O1 68 (.nilck (.t 67)),O5 69 19 68,O4 70 1 69,O3 71 5,O1 72 (.bsl 1 [.t 71]),O1 73 (.app 1 8 (.t 70) (.t 72)),O1 74 (.nilck (.t 66)),O5 75 19 74,O2 (.store 1 (.t 75) (.t 73))]
def v07 : List XO := [O3 76 0,O1 77 (.fldA 0 (.tf 3)),O1 78 (.load false 1 (.tf 77)),O1 79 (.bin .add .no (.t 78) (c9 1)),O3 80 0,O1 81 (.nilck (.t 80)),O5 82 8 81,O6 83 5 82,O1 84 (.fldA 1 (.tf 3)),O1 85 (.load true 3 (.tf 84)),O3 86 0,O1 87 (.fldA 0 (.tf 3)),O1 88 (.load false 1 (.tf 87)),O3 89 5,O1 90 (.callw "(*newel/faults.inquiry).heard" [.t 86, .t 88, .t 89]),O1 91 (.call "(newel/situation.Plant).Step" [.t 83, .t 85, .t 90]),O3 92 6,O1 93 (.build [(.int .i64 0), (.int .i64 0), (.int .i64 0), (.int .i64 0), (.int .i64 0)] [(0, 1, (.t 79)), (1, 3, (.t 91)), (4, 1, (.t 92))]),O1 94 (.callw "(*newel/faults.inquiry).course" [.t 76, .t 93])]
def v08 : List XO := [O1 4 (.mv (.c (.bool true)))]
def v09 : List XO := [O3 95 0,O3 96 0,O1 97 (.nilck (.t 96)),O5 98 19 97,O4 99 1 98,O3 100 0,O1 101 (.nilck (.t 100)),O5 102 19 101,O4 103 1 102,O8 104 103,O1 105 (.bin .sub .no (.t 104) (c9 1)),O1 106 (.slc 1 (.t 99) none (some (.t 105))),O1 107 (.nilck (.t 95)),O5 108 19 107,O2 (.store 1 (.t 108) (.t 106))]
def v1a : List XO := [O1 109 (.bin .add .no (.t 27) (c9 1)),O3 27 109]
def u5o : XCode :=
 (.seq (.reg v1h) (.seq (.cond (.t 28) .skip (.exit 0)) (.seq (.block 1 (.seq (.reg v1i) (.seq (.seq (.reg v1j) (.cond (.t 56) (.exit 1) .skip)) (.seq (.reg v1k) (.seq (.seq (.reg v05) (.cond (.t 65) (.exit 1) .skip)) (.seq (.reg v06) (.seq (.seq (.regW v07 [(7, 14), (6, 14), (5, 14)]) (.cond (.t 94) (.seq (.reg v08) .ret) .skip)) (.reg v09)))))))) (.reg v1a))))
def v1b : List XO := [O3 110 0,O1 111 (.nilck (.t 110)),O5 112 18 111,O4 113 1 112,O1 114 (.load true 5 (.tf 3)),O2 (.callw "#pi" [.t 113, .t 114, (.c (.bool true)), (c9 5)])]
def v1c : List XO := [O1 4 (.mv (.c (.bool false)))]
def x___faults_inquiry__course : XFunc := { np := 2, res := [.t 4], body :=
 (.seq (.reg v03) (.seq (.seq (.reg v04) (.cond (.t 15) (.seq (.reg v1d) .ret) .skip)) (.seq (.seq (.reg v1e) (.cond (.t 21) (.seq (.reg v1f) .ret) .skip)) (.seq (.seq (.reg v1g) (.block 0 (.loop u5o))) (.seq (.reg v1b) (.seq (.reg v1c) .ret)))))) }
def o3z : List XO := [O1 4 (.mv (.c (.bool false)))]
def o30 : List XO := [O3 5 0,O3 6 1,O1 7 (.call "slices.IndexFunc[newel/api.Term,newel/api.Literal]" [.t 5, .t 6]),O1 8 (.bin .geq .no (.t 7) (c9 0)),O3 4 8]
def x_slices_ContainsFunc_api_Term_api_Literal_ : XFunc := { np := 2, res := [.t 4], body :=
 (.seq (.reg o3z) (.seq (.reg o30) .ret)) }
def o0j : List XO := [O1 2 (.boxF (.t 0)),O1 3 (.mv (.c (.bool false)))]
def o0k : List XO := [O6 4 5 1,O1 5 (.load true 4 (.tf 2)),O1 6 (.call "newel/situation.asks" [.t 4, .t 5]),O1 7 (.un .not (.t 6)),O3 3 7]
def x_situation_AskedD1 : XFunc := { np := 2, res := [.t 3], body :=
 (.seq (.reg o0j) (.seq (.reg o0k) .ret)) }
def o2f : List XO := [O1 2 (.boxF (.t 0)),O1 3 (.boxF (.t 1)),O1 4 (.mv (.c (.bool false)))]
def o2g : List XO := [O1 5 (.fldA 0 (.tf 3)),O1 6 (.load false 1 (.tf 5))]
def o2i : List XO := [O1 8 (.bin .eql .no (.t 6) (c9 1)),O3 7 8]
def o2j : List XO := [O1 9 (.fldA 1 (.tf 3)),O1 10 (.load false 1 (.tf 9)),O1 11 (.fldA 0 (.tf 2)),O1 12 (.load false 1 (.tf 11)),O8 13 12,O1 14 (.bin .sub .no (.t 13) (c9 1)),O1 15 (.call "newel/situation.within" [.t 10, (c9 0), .t 14]),O3 16 15,O9 17 16 true (.fldA 2 (.tf 3)),O9 18 16 true (.load false 1 (.tf 17)),O9 19 16 true (.bin .eql .no (.t 18) (c9 0)),O1 20 (.pick (.t 16) (.t 19) (.c (.bool false))),O3 4 20]
def o2k : List XO := [O1 22 (.bin .eql .no (.t 6) (c9 2)),O3 21 22]
def o2l : List XO := [O1 23 (.fldA 1 (.tf 3)),O1 24 (.load false 1 (.tf 23)),O1 25 (.fldA 2 (.tf 2)),O1 26 (.load false 1 (.tf 25)),O8 27 26,O1 28 (.bin .sub .no (.t 27) (c9 1)),O1 29 (.call "newel/situation.within" [.t 24, (c9 0), .t 28]),O3 30 29,O9 31 30 true (.fldA 2 (.tf 3)),O9 32 30 true (.load false 1 (.tf 31)),O9 33 30 true (.fldA 2 (.tf 2)),O9 34 30 true (.load false 1 (.tf 33)),O9 35 30 true (.fldA 1 (.tf 3)),O9 36 30 true (.load false 1 (.tf 35)),O9 37 30 true (.ixA 2 (.t 34) (.t 36)),O9 38 30 true (.fldA 1 (.t 37)),O9 39 30 true (.load false 1 (.t 38)),O9 40 30 true (.call "newel/situation.within" [.t 32, (c9 0), .t 39]),O1 41 (.pick (.t 30) (.t 40) (.c (.bool false))),O3 4 41]
def o2m : List XO := [O1 43 (.bin .eql .no (.t 6) (c9 3)),O3 42 43]
def o2n : List XO := [O1 44 (.fldA 1 (.tf 3)),O1 45 (.load false 1 (.tf 44)),O1 46 (.fldA 3 (.tf 2)),O1 47 (.load false 1 (.tf 46)),O8 48 47,O1 49 (.bin .sub .no (.t 48) (c9 1)),O1 50 (.call "newel/situation.within" [.t 45, (c9 0), .t 49]),O3 51 50,O9 52 51 true (.fldA 2 (.tf 3)),O9 53 51 true (.load false 1 (.tf 52)),O9 54 51 true (.bin .eql .no (.t 53) (c9 0)),O1 55 (.pick (.t 51) (.t 54) (.c (.bool false))),O3 4 55]
def o2o : List XO := [O1 57 (.bin .eql .no (.t 6) (c9 4)),O3 56 57]
def o2p : List XO := [O1 58 (.fldA 1 (.tf 3)),O1 59 (.load false 1 (.tf 58)),O1 60 (.fldA 1 (.tf 2)),O1 61 (.load false 1 (.tf 60)),O8 62 61,O1 63 (.bin .sub .no (.t 62) (c9 1)),O1 64 (.call "newel/situation.within" [.t 59, (c9 0), .t 63]),O3 65 64,O9 66 65 true (.fldA 2 (.tf 3)),O9 67 65 true (.load false 1 (.tf 66)),O9 68 65 true (.bin .eql .no (.t 67) (c9 0)),O1 69 (.pick (.t 65) (.t 68) (.c (.bool false))),O3 4 69]
def o2h : List XO := [O1 4 (.mv (.c (.bool false)))]
def x_situation_asks : XFunc := { np := 2, res := [.t 4], body :=
 (.seq (.reg o2f) (.seq (.seq (.reg o2g) (.block 0 (.seq (.reg o2i) (.cond (.t 7) (.seq (.reg o2j) .ret) (.seq (.reg o2k) (.cond (.t 21) (.seq (.reg o2l) .ret) (.seq (.reg o2m) (.cond (.t 42) (.seq (.reg o2n) .ret) (.seq (.reg o2o) (.cond (.t 56) (.seq (.reg o2p) .ret) .skip)))))))))) (.seq (.reg o2h) .ret))) }
def w9t : List XO := [O3 3 0,O4 4 1 1,O1 5 (.nilck (.t 3)),O5 6 17 5,O2 (.store 1 (.t 6) (.t 4))]
def o3x : List XO := [O1 4 (.mv (.c (.bool false)))]
def o3y : List XO := [O3 5 0,O3 6 1,O1 7 (.call "slices.IndexFunc[newel/api.Cond,newel/api.Term]" [.t 5, .t 6]),O1 8 (.bin .geq .no (.t 7) (c9 0)),O3 4 8]
def x_slices_ContainsFunc_api_Cond_api_Term_ : XFunc := { np := 2, res := [.t 4], body :=
 (.seq (.reg o3x) (.seq (.reg o3y) .ret)) }
def l9d : List XO := [O1 5 (.mv (.c (.bool false)))]
def l9e : List XO := [O3 6 0,O1 7 (.mkfn "(newel/situation.Plant).Holds$1$1" [] [.t 1, .t 2, .t 3]),O1 8 (.call "slices.ContainsFunc[newel/api.Term,newel/api.Literal]" [.t 6, .t 7]),O1 9 (.un .not (.t 8)),O3 5 9]
def x__situation_Plant__HoldsD1 : XFunc := { np := 4, res := [.t 5], body :=
 (.seq (.reg l9d) (.seq (.reg l9e) .ret)) }
def l9b : List XO := [O1 4 (.boxF (.t 0)),O1 5 (.mv (.c (.bool false)))]
def l9c : List XO := [O6 6 5 1,O1 7 (.load true 4 (.tf 4)),O6 8 3 2,O4 9 1 3,O1 10 (.call "(newel/situation.Plant).literal" [.t 6, .t 7, .t 8, .t 9]),O1 11 (.un .not (.t 10)),O3 5 11]
def x__situation_Plant__HoldsD1D1 : XFunc := { np := 4, res := [.t 5], body :=
 (.seq (.reg l9b) (.seq (.reg l9c) .ret)) }
def l9u : List XO := [O1 4 (.boxF (.t 0)),O1 5 (.boxF (.t 1)),O1 6 (.boxF (.t 2)),O1 8 (.mv (.c (.bool false)))]
def l9v : List XO := [O1 9 (.mv (.c (.bool false)))]
def l9y : List XO := [O1 10 (.fldA 0 (.tf 5)),O1 11 (.load false 1 (.tf 10))]
def l9z : List XO := [O1 13 (.bin .eql .no (.t 11) (c9 1)),O3 12 13]
def l90 : List XO := [O3 14 3,O1 15 (.fldA 1 (.tf 5)),O1 16 (.load false 1 (.tf 15)),O1 17 (.bin .shr .no (.t 14) (.t 16)),O1 18 (.bin .and .no (.t 17) (c9 1)),O1 19 (.bin .eql .no (.t 18) (c9 1)),O3 9 19]
def l91 : List XO := [O1 21 (.bin .eql .no (.t 11) (c9 2)),O3 20 21]
def l92 : List XO := [O1 22 (.fldA 1 (.tf 5)),O1 23 (.load false 1 (.tf 22)),O1 24 (.fldA 1 (.tf 6)),O1 25 (.ixP 1 2 (.t 24) (.t 23)),O1 26 (.load false 1 (.tf 25)),O1 27 (.fldA 2 (.tf 5)),O1 28 (.load false 1 (.tf 27)),O1 29 (.bin .geq .no (.t 26) (.t 28)),O3 9 29]
def v2e : List XO := [O1 31 (.bin .eql .no (.t 11) (c9 3)),O3 30 31]
def l94 : List XO := [O1 32 (.fldA 0 (.tf 6)),O1 33 (.load false 1 (.tf 32)),O1 34 (.fldA 1 (.tf 5)),O1 35 (.load false 1 (.tf 34)),O1 36 (.bin .eql .no (.t 33) (.t 35)),O3 9 36]
def l95 : List XO := [O1 38 (.bin .eql .no (.t 11) (c9 4)),O3 37 38]
def l9w : List XO := [O1 39 (.fldA 0 (.tf 4)),O1 40 (.fldA 3 (.tf 39)),O1 41 (.load false 1 (.tf 40)),O1 42 (.fldA 0 (.tf 6)),O1 43 (.load false 1 (.tf 42)),O7 44 2 41 43,O5 45 1 44,O4 46 1 45,O1 47 (.fldA 1 (.tf 5)),O1 48 (.load false 1 (.tf 47)),O1 49 (.bin .shr .no (.t 46) (.t 48)),O1 50 (.bin .and .no (.t 49) (c9 1)),O1 51 (.bin .eql .no (.t 50) (c9 1)),O3 9 51]
def l9x : List XO := [O3 52 9,O1 53 (.fldA 3 (.tf 5)),O1 54 (.load false 1 (.tf 53)),O1 55 (.bin .neq .bool (.t 52) (.t 54)),O3 8 55]
def x__situation_Plant__literal : XFunc := { np := 4, res := [.t 8], body :=
 (.seq (.reg l9u) (.seq (.reg l9v) (.seq (.seq (.reg l9y) (.block 0 (.seq (.reg l9z) (.cond (.t 12) (.reg l90) (.seq (.reg l91) (.cond (.t 20) (.reg l92) (.seq (.reg v2e) (.cond (.t 30) (.reg l94) (.seq (.reg l95) (.cond (.t 37) (.reg l9w) .skip)))))))))) (.seq (.reg l9x) .ret)))) }
def w9q : List XO := [O3 3 0,O4 4 1 1,O1 5 (.nilck (.t 3)),O5 6 16 5,O2 (.store 1 (.t 6) (.t 4))]
def m98 : List XO := [O1 1 (.boxF (.t 0)),O1 2 (.mv (.c (.slice none 0 0)))]
def m99 : List XO := [O1 6 (.bsl 1 []),O1 7 (.fldA 0 (.tf 1)),O1 8 (.load false 1 (.tf 7)),O1 9 (.app 1 16 (.t 6) (.t 8)),O1 10 (.fldA 1 (.tf 1)),O1 11 (.load false 1 (.tf 10)),O1 12 (.app 1 16 (.t 9) (.t 11)),O3 3 12]
def o0c : List XO := [O1 4 (.mv (c9 0))]
def o0d : List XO := [O3 13 4,O1 14 (.fldA 2 (.tf 1)),O1 15 (.load false 1 (.tf 14)),O8 16 15,O1 17 (.bin .lss .no (.t 13) (.t 16))]
def o0e : List XO := [O3 20 3,O1 21 (.fldA 2 (.tf 1)),O1 22 (.load false 1 (.tf 21)),O3 23 4,O7 24 2 22 23,O5 25 0 24,O4 26 1 25,O1 27 (.bsl 1 [.t 26]),O1 28 (.app 1 16 (.t 20) (.t 27)),O3 3 28]
def o0f : List XO := [O3 18 4,O1 19 (.bin .add .no (.t 18) (c9 1)),O3 4 19]
def g44 : XCode :=
 (.seq (.seq (.reg o0d) (.cond (.t 17) .skip (.exit 0))) (.seq (.block 1 (.reg o0e)) (.reg o0f)))
def o0g : List XO := [O1 5 (.mv (c9 0))]
def o0h : List XO := [O3 29 5,O1 30 (.fldA 3 (.tf 1)),O1 31 (.load false 1 (.tf 30)),O8 32 31,O1 33 (.bin .lss .no (.t 29) (.t 32))]
def o0i : List XO := [O3 36 3,O1 37 (.fldA 3 (.tf 1)),O1 38 (.load false 1 (.tf 37)),O3 39 5,O7 40 2 38 39,O5 41 0 40,O4 42 1 41,O1 43 (.bsl 1 [.t 42]),O1 44 (.app 1 16 (.t 36) (.t 43)),O3 3 44]
def o0a : List XO := [O3 34 5,O1 35 (.bin .add .no (.t 34) (c9 1)),O3 5 35]
def g43 : XCode :=
 (.seq (.seq (.reg o0h) (.cond (.t 33) .skip (.exit 2))) (.seq (.block 3 (.reg o0i)) (.reg o0a)))
def o0b : List XO := [O3 45 3,O3 2 45]
def x_r04_names : XFunc := { np := 1, res := [.t 2], body :=
 (.seq (.reg m98) (.seq (.reg m99) (.seq (.seq (.reg o0c) (.block 0 (.loop g44))) (.seq (.seq (.reg o0g) (.block 2 (.loop g43))) (.seq (.reg o0b) .ret))))) }
def m75 : List XO := [O1 2 (.mv (.c (.bool false)))]
def m76 : List XO := [O1 3 (.mv (c9 0))]
def m8a : List XO := [O3 5 3,O1 6 (.load false 1 (.g 0 b6h)),O8 7 6,O1 8 (.bin .lss .no (.t 5) (.t 7))]
def m8b : List XO := [O3 11 0,O1 12 (.load false 1 (.g 0 b6h)),O3 13 3,O7 14 1 12 13,O4 15 1 14,O1 16 (.bin .eql .no (.t 11) (.t 15))]
def m8c : List XO := [O1 2 (.mv (.c (.bool false)))]
def m8d : List XO := [O3 9 3,O1 10 (.bin .add .no (.t 9) (c9 1)),O3 3 10]
def g4x : XCode :=
 (.seq (.seq (.reg m8a) (.cond (.t 8) .skip (.exit 0))) (.seq (.block 1 (.seq (.reg m8b) (.cond (.t 16) (.seq (.reg m8c) .ret) .skip))) (.reg m8d)))
def m8e : List XO := [O1 4 (.mv (c9 0))]
def m8f : List XO := [O3 17 4,O3 18 0,O1 19 (.len true (.t 18)),O1 20 (.bin .lss .no (.t 17) (.t 19))]
def m8g : List XO := [O3 23 0,O3 24 4,O1 25 (.ixS (.t 23) (.t 24)),O1 26 (.bin .lss .no (.t 25) (.c (.int .u8 97))),O3 27 26,O9 28 27 false (.mv (.t 0)),O9 29 27 false (.mv (.t 4)),O9 30 27 false (.ixS (.t 28) (.t 29)),O9 31 27 false (.bin .gtr .no (.t 30) (.c (.int .u8 122))),O1 32 (.pick (.t 27) (.c (.bool true)) (.t 31))]
def m77 : List XO := [O1 2 (.mv (.c (.bool false)))]
def m78 : List XO := [O3 21 4,O1 22 (.bin .add .no (.t 21) (c9 1)),O3 4 22]
def g4w : XCode :=
 (.seq (.seq (.reg m8f) (.cond (.t 20) .skip (.exit 2))) (.seq (.block 3 (.seq (.reg m8g) (.cond (.t 32) (.seq (.reg m77) .ret) .skip))) (.reg m78)))
def m79 : List XO := [O3 33 0,O1 34 (.len true (.t 33)),O1 35 (.bin .gtr .no (.t 34) (c9 0)),O3 2 35]
def x_r04_Word : XFunc := { np := 1, res := [.t 2], body :=
 (.seq (.reg m75) (.seq (.seq (.reg m76) (.block 0 (.loop g4x))) (.seq (.seq (.reg m8e) (.block 2 (.loop g4w))) (.seq (.reg m79) .ret)))) }
def y4n : List XO := [O1 1 (.boxF (.t 0)),O1 2 (.mv (c9 0))]
def y4o : List XO := [O1 3 (.mv (.f "newel/drive.Check$1"))]
def y4q : List XO := [O1 6 (.fldA 1 (.tf 1)),O1 7 (.load false 1 (.tf 6)),O1 8 (.bin .lss .no (.t 7) (c9 1)),O3 9 8,O9 10 9 false (.fldA 1 (.tf 1)),O9 11 9 false (.load false 1 (.tf 10)),O9 12 9 false (.bin .gtr .no (.t 11) (c9 100000)),O1 13 (.pick (.t 9) (.c (.bool true)) (.t 12)),O3 14 13,O9 15 14 false (.fldA 2 (.tf 1)),O9 16 14 false (.load false 1 (.tf 15)),O9 17 14 false (.call "newel/drive.to" [(c9 100)]),O9 18 14 false (.call "newel/drive.in" [.t 16, .t 17]),O9 19 14 false (.un .not (.t 18)),O1 20 (.pick (.t 14) (.c (.bool true)) (.t 19)),O3 21 20,O9 22 21 false (.fldA 3 (.tf 1)),O9 23 21 false (.load false 1 (.tf 22)),O9 24 21 false (.call "newel/drive.to" [(c9 10000000)]),O9 25 21 false (.call "newel/drive.in" [.t 23, .t 24]),O9 26 21 false (.un .not (.t 25)),O1 27 (.pick (.t 21) (.c (.bool true)) (.t 26)),O3 28 27,O9 29 28 false (.fldA 4 (.tf 1)),O9 30 28 false (.load false 1 (.tf 29)),O9 31 28 false (.call "newel/drive.to" [(c9 10000000)]),O9 32 28 false (.call "newel/drive.in" [.t 30, .t 31]),O9 33 28 false (.un .not (.t 32)),O1 34 (.pick (.t 28) (.c (.bool true)) (.t 33)),O3 35 34,O9 36 35 false (.fldA 5 (.tf 1)),O9 37 35 false (.load false 1 (.tf 36)),O9 38 35 false (.len false (.t 37)),O9 39 35 false (.bin .gtr .no (.t 38) (c9 3)),O1 40 (.pick (.t 35) (.c (.bool true)) (.t 39))]
def y4r : List XO := [O1 2 (.mv (c9 10))]
def y4s : List XO := [O1 41 (.fldA 5 (.tf 1)),O1 42 (.load false 1 (.tf 41)),O8 43 42,O1 44 (.mv (c9 0))]
def y4t : List XO := [O1 45 (.bin .lss .no (.t 44) (.t 43))]
def y4u : List XO := [O7 46 2 42 44,O6 47 2 46,O1 5 (.alloc [(.int .i64 0), (.int .i64 0)]),O2 (.store 2 (.t 5) (.t 47))]
def y4v : List XO := [O3 48 3,O6 49 2 5,O1 50 (.callv (.t 48) [.t 49]),O1 51 (.un .not (.t 50))]
def y4w : List XO := [O1 2 (.mv (c9 10))]
def y4x : List XO := [O1 52 (.bin .add .no (.t 44) (c9 1)),O3 44 52]
def y4y : XCode :=
 (.seq (.reg y4t) (.seq (.cond (.t 45) .skip (.exit 0)) (.seq (.block 1 (.seq (.reg y4u) (.seq (.reg y4v) (.cond (.t 51) (.seq (.reg y4w) .ret) .skip)))) (.reg y4x))))
def y4p : List XO := [O1 2 (.mv (c9 0))]
def x_drive_Check : XFunc := { np := 1, res := [.t 2], body :=
 (.seq (.reg y4n) (.seq (.reg y4o) (.seq (.seq (.reg y4q) (.cond (.t 40) (.seq (.reg y4r) .ret) .skip)) (.seq (.seq (.reg y4s) (.block 0 (.loop y4y))) (.seq (.reg y4p) .ret))))) }
def y5n : List XO := [O1 3 (.boxF (.t 1)),O1 4 (.mv (.c (.bool false)))]
def y5o : List XO := [O1 5 (.fldA 0 (.tf 3)),O1 6 (.load false 1 (.tf 5)),O3 7 0,O1 8 (.bin .leq .no (.t 6) (.t 7)),O3 9 8,O9 10 9 true (.mv (.t 0)),O9 11 9 true (.fldA 1 (.tf 3)),O9 12 9 true (.load false 1 (.tf 11)),O9 13 9 true (.bin .leq .no (.t 10) (.t 12)),O1 14 (.pick (.t 9) (.t 13) (.c (.bool false))),O3 4 14]
def x_drive_in : XFunc := { np := 2, res := [.t 4], body :=
 (.seq (.reg y5n) (.seq (.reg y5o) .ret)) }
def y58 : List XO := [O1 2 (.alloc [(.int .i64 0), (.int .i64 0)])]
def y59 : List XO := [O3 3 0,O1 4 (.build [(.int .i64 0), (.int .i64 0)] [(1, 1, (.t 3))]),O2 (.store 2 (.t 2) (.t 4))]
def x_drive_to : XFunc := { np := 1, res := [.cell 2 true 2], body :=
 (.seq (.reg y58) (.seq (.reg y59) .ret)) }
def y0w : List XO := [O1 4 (.mv (c9 0))]
def y0x : List XO := [O3 9 0,O1 10 (.nilck (.t 9)),O6 11 12 10,O3 12 0,O1 13 (.nilck (.t 12)),O6 14 12 13,O1 5 (.alloc [(.bool false), (.int .i64 0), (.int .i64 0), (.int .i64 0), (.int .i64 0), (.slice none 0 0), (.int .i64 0), (.int .i64 0), (.int .i64 0), (.int .i64 0), (.int .i64 0), (.int .i64 0)]),O1 6 (.alloc [(.bool false), (.int .i64 0), (.int .i64 0), (.int .i64 0), (.int .i64 0), (.slice none 0 0), (.int .i64 0), (.int .i64 0), (.int .i64 0), (.int .i64 0), (.int .i64 0), (.int .i64 0)]),O2 (.store 12 (.t 5) (.t 11)),O2 (.store 12 (.t 6) (.t 14))]
def y0y : List XO := [O3 15 0,O1 16 (.nilck (.t 15)),O5 17 6 16,O5 18 1 17,O5 19 0 18,O4 20 1 19,O1 21 (.callw "(*newel/drive.motion).with" [.t 5, .t 20]),O3 22 0,O1 23 (.nilck (.t 22)),O5 24 6 23,O5 25 1 24,O5 26 1 25,O4 27 1 26,O1 28 (.callw "(*newel/drive.motion).with" [.t 6, .t 27]),O3 7 21,O3 8 28]
def y0z : List XO := [O3 29 1,O3 30 29,O9 31 30 true (.mv (.t 8)),O9 32 30 true (.mv (.t 7)),O9 33 30 true (.bin .gtr .no (.t 31) (.t 32)),O1 34 (.pick (.t 30) (.t 33) (.c (.bool false))),O3 35 34,O9 36 35 false (.mv (.t 1)),O9 37 35 false (.un .not (.t 36)),O9 38 35 false (.mv (.t 37)),O9 39 38 true (.mv (.t 8)),O9 40 38 true (.mv (.t 7)),O9 41 38 true (.bin .lss .no (.t 39) (.t 40)),O9 42 35 false (.pick (.t 38) (.t 41) (.c (.bool false))),O1 43 (.pick (.t 35) (.c (.bool true)) (.t 42))]
def y00 : List XO := [O3 44 0,O6 45 12 6,O1 46 (.nilck (.t 44)),O2 (.store 12 (.t 46) (.t 45))]
def y01 : List XO := [O3 47 0,O1 48 (.nilck (.t 47)),O5 49 6 48,O5 50 1 49,O5 51 1 50,O4 52 1 51,O3 4 52]
def y02 : List XO := [O3 53 0,O6 54 12 5,O1 55 (.nilck (.t 53)),O2 (.store 12 (.t 55) (.t 54))]
def y03 : List XO := [O3 56 0,O1 57 (.nilck (.t 56)),O5 58 6 57,O5 59 1 58,O5 60 0 59,O4 61 1 60,O3 4 61]
def x___drive_motion__extreme : XFunc := { np := 2, res := [.t 4], body :=
 (.seq (.reg y0w) (.seq (.reg y0x) (.seq (.regW y0y [(8, 6), (9, 6), (10, 6), (11, 6), (12, 6)]) (.seq (.seq (.reg y0z) (.cond (.t 43) (.seq (.reg y00) (.seq (.reg y01) .ret)) .skip)) (.seq (.reg y02) (.seq (.reg y03) .ret)))))) }
def y1x : List XO := [O1 1 (.boxF (.t 0)),O1 2 (.mv (c9 0))]
def y1y : List XO := [O1 9 (.fldA 0 (.tf 1)),O1 10 (.load false 1 (.tf 9)),O1 11 (.bin .geq .no (.t 10) (c9 1)),O3 12 11,O9 13 12 true (.fldA 0 (.tf 1)),O9 14 12 true (.load false 1 (.tf 13)),O9 15 12 true (.bin .leq .no (.t 14) (c9 8)),O1 16 (.pick (.t 12) (.t 15) (.c (.bool false))),O1 17 (.fldA 1 (.tf 1)),O1 18 (.load false 1 (.tf 17)),O8 19 18,O1 20 (.bin .geq .no (.t 19) (c9 1)),O3 21 20,O9 22 21 true (.fldA 1 (.tf 1)),O9 23 21 true (.load false 1 (.tf 22)),O9 24 21 true (.len false (.t 23)),O9 25 21 true (.bin .leq .no (.t 24) (c9 12)),O1 26 (.pick (.t 21) (.t 25) (.c (.bool false))),O1 27 (.fldA 2 (.tf 1)),O1 28 (.load false 1 (.tf 27)),O8 29 28,O1 30 (.bin .geq .no (.t 29) (c9 1)),O3 31 30,O9 32 31 true (.fldA 2 (.tf 1)),O9 33 31 true (.load false 1 (.tf 32)),O9 34 31 true (.len false (.t 33)),O9 35 31 true (.bin .leq .no (.t 34) (c9 24)),O1 36 (.pick (.t 31) (.t 35) (.c (.bool false))),O1 37 (.bsl 1 [.t 16, .t 26, .t 36]),O3 3 37]
def y2g : List XO := [O3 38 3,O1 39 (.call "slices.Contains[[]bool,bool]" [.t 38, (.c (.bool false))]),O3 40 39,O9 41 40 false (.fldA 1 (.tf 1)),O9 42 40 false (.load false 1 (.tf 41)),O9 43 40 false (.mkfn "newel/circuit.Check$1" [] [.t 1]),O9 44 40 false (.call "slices.ContainsFunc[[]int,int]" [.t 42, .t 43]),O1 45 (.pick (.t 40) (.c (.bool true)) (.t 44))]
def y2n : List XO := [O1 2 (.mv (c9 30))]
def y2o : List XO := [O1 46 (.fldA 2 (.tf 1)),O1 47 (.load false 1 (.tf 46)),O8 48 47,O1 49 (.mksl 1 [(.int .i64 0)] 8 (.t 48) (.t 48)),O3 4 49]
def y2p : List XO := [O1 50 (.fldA 2 (.tf 1)),O1 51 (.load false 1 (.tf 50)),O8 52 51,O1 53 (.mv (c9 0))]
def y2q : List XO := [O1 54 (.bin .lss .no (.t 53) (.t 52))]
def y2r : List XO := [O3 55 53,O7 56 2 51 53,O6 57 2 56,O1 6 (.alloc [(.int .i64 0), (.slice none 0 0)]),O3 5 55,O2 (.store 2 (.t 6) (.t 57))]
def y2s : List XO := [O5 58 0 6,O4 59 1 58]
def y2t : List XO := [O1 61 (.bin .eql .no (.t 59) (c9 1)),O3 60 61]
def y1z : List XO := [O5 62 1 6,O4 63 1 62,O8 64 63,O1 65 (.bin .neq .no (.t 64) (c9 1)),O3 66 65,O9 67 66 false (.fldA 1 (.t 6)),O9 68 66 false (.load false 1 (.t 67)),O9 69 66 false (.fldA 1 (.tf 1)),O9 70 66 false (.load false 1 (.tf 69)),O9 71 66 false (.len false (.t 70)),O9 72 66 false (.call "newel/circuit.ascending" [.t 68, (c9 0), .t 71]),O9 73 66 false (.un .not (.t 72)),O1 74 (.pick (.t 66) (.c (.bool true)) (.t 73))]
def y16 : List XO := [O1 2 (.mv (c9 30))]
def y8h : List XO := [O1 76 (.bin .eql .no (.t 59) (c9 2)),O3 75 76]
def y95 : List XO := [O1 77 (.bin .eql .no (.t 59) (c9 3)),O3 75 77]
def y2a : List XO := [O5 78 1 6,O4 79 1 78,O8 80 79,O1 81 (.bin .lss .no (.t 80) (c9 1)),O3 82 81,O9 83 82 false (.fldA 1 (.t 6)),O9 84 82 false (.load false 1 (.t 83)),O9 85 82 false (.len false (.t 84)),O9 86 82 false (.bin .gtr .no (.t 85) (c9 8)),O1 87 (.pick (.t 82) (.c (.bool true)) (.t 86)),O3 88 87,O9 89 88 false (.fldA 1 (.t 6)),O9 90 88 false (.load false 1 (.t 89)),O9 91 88 false (.mv (.t 5)),O9 92 88 false (.bin .add .no (.t 91) (c9 1)),O9 93 88 false (.fldA 2 (.tf 1)),O9 94 88 false (.load false 1 (.tf 93)),O9 95 88 false (.len false (.t 94)),O9 96 88 false (.call "newel/circuit.ascending" [.t 90, .t 92, .t 95]),O9 97 88 false (.un .not (.t 96)),O1 98 (.pick (.t 88) (.c (.bool true)) (.t 97))]
def y2b : List XO := [O1 2 (.mv (c9 30))]
def y2c : List XO := [O5 99 1 6,O4 100 1 99,O8 101 100,O1 102 (.mv (c9 0))]
def y2d : List XO := [O1 103 (.bin .lss .no (.t 102) (.t 101))]
def y2e : List XO := [O7 104 1 100 102,O4 105 1 104,O3 8 105]
def y2f : List XO := [O3 106 4,O3 107 8,O7 108 1 106 107,O4 109 1 108,O1 110 (.bin .add .no (.t 109) (c9 1)),O7 111 1 106 107,O2 (.store 1 (.t 111) (.t 110))]
def y2h : List XO := [O1 112 (.bin .add .no (.t 102) (c9 1)),O3 102 112]
def y2u : XCode :=
 (.seq (.reg y2d) (.seq (.cond (.t 103) .skip (.exit 3)) (.seq (.block 4 (.seq (.reg y2e) (.reg y2f))) (.reg y2h))))
def y2i : List XO := [O1 2 (.mv (c9 30))]
def y2j : List XO := [O1 113 (.bin .add .no (.t 53) (c9 1)),O3 53 113]
def y2v : XCode :=
 (.seq (.reg y2q) (.seq (.cond (.t 54) .skip (.exit 0)) (.seq (.block 1 (.seq (.reg y2r) (.seq (.reg y2s) (.block 2 (.seq (.reg y2t) (.cond (.t 60) (.seq (.reg y1z) (.cond (.t 74) (.seq (.reg y16) .ret) .skip)) (.seq (.seq (.reg y8h) (.cond (.t 75) .skip (.reg y95))) (.cond (.t 75) (.seq (.seq (.reg y2a) (.cond (.t 98) (.seq (.reg y2b) .ret) .skip)) (.seq (.reg y2c) (.block 3 (.loop y2u)))) (.seq (.reg y2i) .ret))))))))) (.reg y2j))))
def y2k : List XO := [O3 114 4,O1 115 (.ixA 1 (.t 114) (c9 0)),O4 116 1 115,O1 117 (.bin .neq .no (.t 116) (c9 0)),O3 118 117,O9 119 118 false (.mv (.t 4)),O9 120 118 false (.slc 1 (.t 119) (some (c9 1)) none),O9 121 118 false (.call "slices.ContainsFunc[[]int,int]" [.t 120, (.f "newel/circuit.Check$2")]),O1 122 (.pick (.t 118) (.c (.bool true)) (.t 121))]
def y2l : List XO := [O1 2 (.mv (c9 30))]
def y2m : List XO := [O1 2 (.mv (c9 0))]
def x_circuit_Check : XFunc := { np := 1, res := [.t 2], body :=
 (.seq (.reg y1x) (.seq (.reg y1y) (.seq (.seq (.reg y2g) (.cond (.t 45) (.seq (.reg y2n) .ret) .skip)) (.seq (.reg y2o) (.seq (.seq (.reg y2p) (.block 0 (.loop y2v))) (.seq (.seq (.reg y2k) (.cond (.t 122) (.seq (.reg y2l) .ret) .skip)) (.seq (.reg y2m) .ret))))))) }
def y7o : List XO := [O1 4 (.mv (c9 0))]
def y7p : List XO := [O3 6 0,O8 7 6,O1 8 (.mv (c9 0))]
def y7q : List XO := [O1 9 (.bin .lss .no (.t 8) (.t 7))]
def y7r : List XO := [O3 10 8,O3 5 10]
def y7s : List XO := [O3 11 1,O3 12 0,O3 13 5,O7 14 1 12 13,O4 15 1 14,O1 16 (.bin .eql .no (.t 11) (.t 15))]
def y7t : List XO := [O3 17 5,O3 4 17]
def y7u : List XO := [O1 18 (.bin .add .no (.t 8) (c9 1)),O3 8 18]
def y7w : XCode :=
 (.seq (.reg y7q) (.seq (.cond (.t 9) .skip (.exit 0)) (.seq (.block 1 (.seq (.reg y7r) (.seq (.reg y7s) (.cond (.t 16) (.seq (.reg y7t) .ret) .skip)))) (.reg y7u))))
def y7v : List XO := [O1 4 (.mv (.c (.int .i64 (-1))))]
def x_slices_Index___int_int_ : XFunc := { np := 2, res := [.t 4], body :=
 (.seq (.reg y7o) (.seq (.seq (.reg y7p) (.block 0 (.loop y7w))) (.seq (.reg y7v) .ret))) }
def y1l : List XO := [O1 2 (.boxF (.t 0)),O1 4 (.mv (.c (.bool false)))]
def y1m : List XO := [O1 6 (.fldA 0 (.tf 2)),O1 7 (.fldA 2 (.tf 6)),O1 8 (.load false 1 (.tf 7)),O3 9 1,O7 10 2 8 9,O6 11 2 10,O1 5 (.alloc [(.int .i64 0), (.slice none 0 0)]),O2 (.store 2 (.t 5) (.t 11))]
def y1n : List XO := [O5 12 0 5,O4 13 1 12]
def y1o : List XO := [O1 15 (.bin .eql .no (.t 13) (c9 1)),O3 14 15]
def y1p : List XO := [O1 16 (.load true 6 (.tf 2)),O5 17 1 5,O4 18 1 17,O1 19 (.ixA 1 (.t 18) (c9 0)),O4 20 1 19,O1 21 (.call "(newel/circuit.state).conducts" [.t 16, .t 20]),O3 4 21]
def y1q : List XO := [O1 23 (.bin .eql .no (.t 13) (c9 3)),O3 22 23]
def y1r : List XO := [O5 24 1 5,O4 25 1 24,O1 26 (.load true 6 (.tf 2)),O1 27 (.mkfn "(newel/circuit.state).wire" [.t 26] []),O1 28 (.call "slices.ContainsFunc[[]int,int]" [.t 25, .t 27]),O3 4 28]
def y1s : List XO := [O5 29 1 5,O4 30 1 29,O1 31 (.mkfn "(newel/circuit.state).wire$1" [] [.t 2]),O1 32 (.call "slices.ContainsFunc[[]int,int]" [.t 30, .t 31]),O1 33 (.un .not (.t 32)),O3 4 33]
def x__circuit_state__wire : XFunc := { np := 2, res := [.t 4], body :=
 (.seq (.reg y1l) (.seq (.reg y1m) (.seq (.seq (.reg y1n) (.block 0 (.seq (.reg y1o) (.cond (.t 14) (.seq (.reg y1p) .ret) (.seq (.reg y1q) (.cond (.t 22) (.seq (.reg y1r) .ret) .skip)))))) (.seq (.reg y1s) .ret)))) }
def o2q : List XO := [O1 1 (.boxF (.t 0)),O1 2 (.mv (.c (.bool false)))]
def o2r : List XO := [O1 6 (.callw "#mk" []),O3 3 6]
def o2t : List XO := [O1 7 (.load true 5 (.tf 1)),O1 8 (.call "newel/situation.names" [.t 7]),O8 9 8,O1 10 (.mv (c9 0))]
def o2u : List XO := [O1 11 (.bin .lss .no (.t 10) (.t 9))]
def o2v : List XO := [O7 12 1 8 10,O4 13 1 12,O3 5 13]
def o2w : List XO := [O3 14 3,O3 15 5,O1 16 (.callw "#ls" [.t 14, .t 15, (c9 0), (c9 0)]),O1 17 (.bin .add .no (.t 16) (c9 1)),O2 (.callw "#ps" [.t 14, .t 15, .t 17, (c9 0)])]
def o2x : List XO := [O3 18 5,O1 19 (.call "newel/situation.Plain" [.t 18]),O1 20 (.un .not (.t 19)),O3 21 20,O9 22 21 false (.mv (.t 5)),O9 23 21 false (.len true (.t 22)),O9 24 21 false (.bin .gtr .no (.t 23) (c9 8)),O1 25 (.pick (.t 21) (.c (.bool true)) (.t 24)),O3 26 25,O9 27 26 false (.mv (.t 5)),O9 28 26 false (.call "newel/situation.Reserved" [.t 27]),O1 29 (.pick (.t 26) (.c (.bool true)) (.t 28)),O3 30 29,O9 31 30 false (.mv (.t 3)),O9 32 30 false (.mv (.t 5)),O9 33 30 false (.callw "#ls" [.t 31, .t 32, (c9 0), (c9 0)]),O9 34 30 false (.bin .gtr .no (.t 33) (c9 1)),O1 35 (.pick (.t 30) (.c (.bool true)) (.t 34))]
def o2y : List XO := [O1 2 (.mv (.c (.bool false)))]
def o2z : List XO := [O1 36 (.bin .add .no (.t 10) (c9 1)),O3 10 36]
def g5c : XCode :=
 (.seq (.reg o2u) (.seq (.cond (.t 11) .skip (.exit 0)) (.seq (.block 1 (.seq (.reg o2v) (.seq (.reg o2w) (.seq (.reg o2x) (.cond (.t 35) (.seq (.reg o2y) .ret) .skip))))) (.reg o2z))))
def o2s : List XO := [O1 2 (.mv (.c (.bool true)))]
def x_situation_named : XFunc := { np := 1, res := [.t 2], body :=
 (.seq (.reg o2q) (.seq (.reg o2r) (.seq (.seq (.reg o2t) (.block 0 (.loop g5c))) (.seq (.reg o2s) .ret)))) }
def o0v : List XO := [O1 1 (.boxF (.t 0)),O1 2 (.mv (.c (.bool false)))]
def o0w : List XO := [O1 3 (.fldA 0 (.tf 1)),O1 4 (.load false 1 (.tf 3)),O1 5 (.bin .eql .no (.t 4) (c9 3)),O3 2 5]
def x_situation_CheckD1 : XFunc := { np := 1, res := [.t 2], body :=
 (.seq (.reg o0v) (.seq (.reg o0w) .ret)) }
def v1p : List XO := [O1 4 (.boxF (.t 1)),O1 6 (.mv (c9 0)),O1 7 (.mv (.c (.bool false)))]
def v1q : List XO := [O1 12 (.fldA 4 (.tf 4)),O1 13 (.load false 1 (.tf 12)),O3 8 13]
def v1z : List XO := [O3 14 0,O1 15 (.nilck (.t 14)),O5 16 0 15,O5 17 7 16,O4 18 1 17,O8 19 18,O1 20 (.mv (c9 0))]
def x1l : List XO := [O1 21 (.bin .lss .no (.t 20) (.t 19))]
def v12 : List XO := [O3 22 20,O7 23 4 18 20,O6 24 4 23,O1 10 (.alloc [(.int .i64 0), (.int .i64 0), (.bool false), (.slice none 0 0)]),O3 9 22,O2 (.store 4 (.t 10) (.t 24))]
def v13 : List XO := [O3 25 0,O1 26 (.nilck (.t 25)),O5 27 16 26,O4 28 1 27,O3 29 9,O1 30 (.callv (.t 28) [.t 29]),O1 31 (.un .not (.t 30)),O3 32 31,O9 33 32 false (.fldA 0 (.tf 4)),O9 34 32 false (.load false 1 (.tf 33)),O9 35 32 false (.fldA 0 (.t 10)),O9 36 32 false (.load false 1 (.t 35)),O9 37 32 false (.bin .lss .no (.t 34) (.t 36)),O1 38 (.pick (.t 32) (.c (.bool true)) (.t 37)),O3 39 38,O9 40 39 false (.fldA 0 (.tf 4)),O9 41 39 false (.load false 1 (.tf 40)),O9 42 39 false (.fldA 1 (.t 10)),O9 43 39 false (.load false 1 (.t 42)),O9 44 39 false (.bin .gtr .no (.t 41) (.t 43)),O1 45 (.pick (.t 39) (.c (.bool true)) (.t 44))]
def v14 : List XO := [O3 46 0,O1 47 (.nilck (.t 46)),O5 48 8 47,O6 49 5 48,O5 50 3 10,O4 51 1 50,O1 52 (.fldA 1 (.tf 4)),O1 53 (.load true 3 (.tf 52)),O3 54 2,O1 55 (.call "(newel/situation.Plant).Holds" [.t 49, .t 51, .t 53, .t 54]),O3 11 55]
def v15 : List XO := [O5 57 2 10,O4 58 1 57,O3 59 58,O9 60 59 true (.mv (.t 11)),O9 61 59 true (.un .not (.t 60)),O1 62 (.pick (.t 59) (.t 61) (.c (.bool false))),O3 56 62]
def v16 : List XO := [O1 6 (.mv (c9 0)),O1 7 (.mv (.c (.bool false)))]
def v18 : List XO := [O5 64 2 10,O4 65 1 64,O3 63 65]
def v1r : List XO := [O3 67 11,O3 68 67,O9 69 68 true (.fldA 0 (.tf 4)),O9 70 68 true (.load false 1 (.tf 69)),O9 71 68 true (.fldA 1 (.t 10)),O9 72 68 true (.load false 1 (.t 71)),O9 73 68 true (.bin .lss .no (.t 70) (.t 72)),O1 74 (.pick (.t 68) (.t 73) (.c (.bool false))),O3 66 74]
def v1s : List XO := [O3 75 8,O3 76 9,O1 77 (.bin .shl .no (c9 1) (.t 76)),O1 78 (.bin .or .no (.t 75) (.t 77)),O3 8 78]
def v1t : List XO := [O3 80 11,O1 81 (.un .not (.t 80)),O3 82 81,O9 83 82 true (.fldA 0 (.tf 4)),O9 84 82 true (.load false 1 (.tf 83)),O9 85 82 true (.fldA 1 (.t 10)),O9 86 82 true (.load false 1 (.t 85)),O9 87 82 true (.bin .eql .no (.t 84) (.t 86)),O1 88 (.pick (.t 82) (.t 87) (.c (.bool false))),O3 89 88,O9 90 89 true (.mv (.t 8)),O9 91 89 true (.mv (.t 9)),O9 92 89 true (.bin .shr .no (.t 90) (.t 91)),O9 93 89 true (.bin .and .no (.t 92) (c9 1)),O9 94 89 true (.bin .eql .no (.t 93) (c9 0)),O1 95 (.pick (.t 89) (.t 94) (.c (.bool false))),O3 79 95]
def v1u : List XO := [O1 6 (.mv (c9 0)),O1 7 (.mv (.c (.bool false)))]
def v1v : List XO := [O1 96 (.fldA 0 (.tf 4)),O1 97 (.load false 1 (.tf 96)),O5 98 1 10,O4 99 1 98,O1 100 (.bin .eql .no (.t 97) (.t 99))]
def v1w : List XO := [O3 101 8,O3 102 9,O1 103 (.bin .shl .no (c9 1) (.t 102)),O1 104 (.bin .andNot .no (.t 101) (.t 103)),O3 8 104]
def v1x : List XO := [O1 105 (.bin .add .no (.t 20) (c9 1)),O3 20 105]
def u5p : XCode :=
 (.seq (.reg x1l) (.seq (.cond (.t 21) .skip (.exit 0)) (.seq (.block 1 (.seq (.reg v12) (.seq (.seq (.reg v13) (.cond (.t 45) (.exit 1) .skip)) (.seq (.reg v14) (.seq (.block 2 (.seq (.reg v15) (.cond (.t 56) (.seq (.reg v16) .ret) (.seq (.reg v18) (.cond (.t 63) .skip (.seq (.reg v1r) (.cond (.t 66) (.reg v1s) (.seq (.reg v1t) (.cond (.t 79) (.seq (.reg v1u) .ret) .skip))))))))) (.seq (.reg v1v) (.cond (.t 100) (.reg v1w) .skip))))))) (.reg v1x))))
def v1y : List XO := [O3 106 8,O3 6 106,O1 7 (.mv (.c (.bool true)))]
def x___faults_inquiry__seen : XFunc := { np := 3, res := [.t 6, .t 7], body :=
 (.seq (.reg v1p) (.seq (.reg v1q) (.seq (.seq (.reg v1z) (.block 0 (.loop u5p))) (.seq (.reg v1y) .ret)))) }
def v1l : List XO := [O1 6 (.mv (c9 0))]
def v1m : List XO := [O3 7 0,O1 8 (.nilck (.t 7)),O5 9 13 8,O5 10 0 9,O4 11 1 10,O1 12 (.bin .lss .no (.t 11) (c9 0)),O3 13 12,O9 14 13 false (.mv (.t 1)),O9 15 13 false (.mv (.t 0)),O9 16 13 false (.nilck (.t 15)),O9 17 13 false (.fldA 13 (.t 16)),O9 18 13 false (.fldA 2 (.t 17)),O9 19 13 false (.load false 1 (.t 18)),O9 20 13 false (.bin .lss .no (.t 14) (.t 19)),O1 21 (.pick (.t 13) (.c (.bool true)) (.t 20))]
def v1n : List XO := [O3 22 2,O3 6 22]
def v1o : List XO := [O3 23 2,O3 24 0,O1 25 (.nilck (.t 24)),O5 26 13 25,O5 27 0 26,O4 28 1 27,O1 29 (.bin .shl .no (c9 1) (.t 28)),O1 30 (.bin .andNot .no (.t 23) (.t 29)),O3 31 0,O1 32 (.nilck (.t 31)),O5 33 13 32,O5 34 1 33,O4 35 1 34,O3 36 0,O1 37 (.nilck (.t 36)),O5 38 13 37,O5 39 0 38,O4 40 1 39,O1 41 (.bin .shl .no (.t 35) (.t 40)),O1 42 (.bin .or .no (.t 30) (.t 41)),O3 6 42]
def x___faults_inquiry__heard : XFunc := { np := 3, res := [.t 6], body :=
 (.seq (.reg v1l) (.seq (.seq (.reg v1m) (.cond (.t 21) (.seq (.reg v1n) .ret) .skip)) (.seq (.reg v1o) .ret))) }
def o4z : List XO := [O1 4 (.mv (c9 0))]
def o40 : List XO := [O3 6 0,O8 7 6,O1 8 (.mv (c9 0))]
def o41 : List XO := [O1 9 (.bin .lss .no (.t 8) (.t 7))]
def o42 : List XO := [O3 10 8,O3 5 10]
def o43 : List XO := [O3 11 1,O3 12 0,O3 13 5,O7 14 4 12 13,O6 15 4 14,O1 16 (.callv (.t 11) [.t 15])]
def o44 : List XO := [O3 17 5,O3 4 17]
def o45 : List XO := [O1 18 (.bin .add .no (.t 8) (c9 1)),O3 8 18]
def g5f : XCode :=
 (.seq (.reg o41) (.seq (.cond (.t 9) .skip (.exit 0)) (.seq (.block 1 (.seq (.reg o42) (.seq (.reg o43) (.cond (.t 16) (.seq (.reg o44) .ret) .skip)))) (.reg o45))))
def o46 : List XO := [O1 4 (.mv (.c (.int .i64 (-1))))]
def x_slices_IndexFunc_api_Term_api_Literal_ : XFunc := { np := 2, res := [.t 4], body :=
 (.seq (.reg o4z) (.seq (.seq (.reg o40) (.block 0 (.loop g5f))) (.seq (.reg o46) .ret))) }
def o4r : List XO := [O1 4 (.mv (c9 0))]
def o4s : List XO := [O3 6 0,O8 7 6,O1 8 (.mv (c9 0))]
def o4t : List XO := [O1 9 (.bin .lss .no (.t 8) (.t 7))]
def o4u : List XO := [O3 10 8,O3 5 10]
def o4v : List XO := [O3 11 1,O3 12 0,O3 13 5,O7 14 1 12 13,O4 15 1 14,O1 16 (.callv (.t 11) [.t 15])]
def o4w : List XO := [O3 17 5,O3 4 17]
def o4x : List XO := [O1 18 (.bin .add .no (.t 8) (c9 1)),O3 8 18]
def g5e : XCode :=
 (.seq (.reg o4t) (.seq (.cond (.t 9) .skip (.exit 0)) (.seq (.block 1 (.seq (.reg o4u) (.seq (.reg o4v) (.cond (.t 16) (.seq (.reg o4w) .ret) .skip)))) (.reg o4x))))
def o4y : List XO := [O1 4 (.mv (.c (.int .i64 (-1))))]
def x_slices_IndexFunc_api_Cond_api_Term_ : XFunc := { np := 2, res := [.t 4], body :=
 (.seq (.reg o4r) (.seq (.seq (.reg o4s) (.block 0 (.loop g5e))) (.seq (.reg o4y) .ret))) }
def y4l : List XO := [O1 1 (.boxF (.t 0)),O1 2 (.mv (.c (.bool false)))]
def y4m : List XO := [O1 3 (.fldA 0 (.tf 1)),O1 4 (.load false 1 (.tf 3)),O1 5 (.call "newel/drive.to" [(c9 10000000)]),O1 6 (.call "newel/drive.in" [.t 4, .t 5]),O3 7 6,O9 8 7 true (.fldA 1 (.tf 1)),O9 9 7 true (.load false 1 (.tf 8)),O9 10 7 true (.call "newel/drive.to" [(c9 20)]),O9 11 7 true (.call "newel/drive.in" [.t 9, .t 10]),O1 12 (.pick (.t 7) (.t 11) (.c (.bool false))),O3 2 12]
def x_drive_CheckD1 : XFunc := { np := 1, res := [.t 2], body :=
 (.seq (.reg y4l) (.seq (.reg y4m) .ret)) }
def y1d : List XO := [O1 4 (.mv (c9 0))]
def y1e : List XO := [O3 5 0,O3 6 0,O1 7 (.nilck (.t 6)),O5 8 0 7,O6 9 6 8,O3 10 0,O1 11 (.nilck (.t 10)),O5 12 10 11,O4 13 1 12,O3 14 1,O3 15 0,O1 16 (.call "(*newel/drive.motion).grip" [.t 15]),O1 17 (.call "newel/drive.tick" [.t 9, .t 13, .t 14, .t 16]),O1 18 (.nilck (.t 5)),O5 19 10 18,O2 (.store 1 (.t 19) (.t 17))]
def y1f : List XO := [O3 20 0,O1 21 (.nilck (.t 20)),O5 22 11 21,O4 23 1 22,O1 24 (.bin .add .no (.t 23) (c9 1)),O1 25 (.nilck (.t 20)),O5 26 11 25,O2 (.store 1 (.t 26) (.t 24))]
def y1g : List XO := [O3 27 0,O1 28 (.nilck (.t 27)),O5 29 10 28,O4 30 1 29,O3 4 30]
def x___drive_motion__with : XFunc := { np := 2, res := [.t 4], body :=
 (.seq (.reg y1d) (.seq (.reg y1e) (.seq (.reg y1f) (.seq (.reg y1g) .ret)))) }
def y7b : List XO := [O1 4 (.mv (.c (.bool false)))]
def y7c : List XO := [O3 5 0,O3 6 1,O1 7 (.call "slices.Index[[]bool,bool]" [.t 5, .t 6]),O1 8 (.bin .geq .no (.t 7) (c9 0)),O3 4 8]
def x_slices_Contains___bool_bool_ : XFunc := { np := 2, res := [.t 4], body :=
 (.seq (.reg y7b) (.seq (.reg y7c) .ret)) }
def o3v : List XO := [O1 4 (.mv (.c (.bool false)))]
def o3w : List XO := [O3 5 0,O3 6 1,O1 7 (.call "slices.IndexFunc[[]int,int]" [.t 5, .t 6]),O1 8 (.bin .geq .no (.t 7) (c9 0)),O3 4 8]
def x_slices_ContainsFunc___int_int_ : XFunc := { np := 2, res := [.t 4], body :=
 (.seq (.reg o3v) (.seq (.reg o3w) .ret)) }
def y1t : List XO := [O1 3 (.mv (.c (.bool false)))]
def y1u : List XO := [O3 4 0,O5 5 0 1,O4 6 1 5,O1 7 (.call "newel/circuit.isSet" [.t 4, .t 6]),O1 8 (.un .not (.t 7)),O3 3 8]
def x_circuit_CheckD1 : XFunc := { np := 2, res := [.t 3], body :=
 (.seq (.reg y1t) (.seq (.reg y1u) .ret)) }
def y4a : List XO := [O1 4 (.mv (.c (.bool false)))]
def y4b : List XO := [O3 5 0,O1 6 (.bin .geq .no (.t 5) (c9 0)),O3 7 6,O9 8 7 true (.mv (.t 0)),O9 9 7 true (.mv (.t 1)),O9 10 7 true (.bin .shl .no (c9 1) (.t 9)),O9 11 7 true (.bin .lss .no (.t 8) (.t 10)),O1 12 (.pick (.t 7) (.t 11) (.c (.bool false))),O3 4 12]
def x_circuit_isSet : XFunc := { np := 2, res := [.t 4], body :=
 (.seq (.reg y4a) (.seq (.reg y4b) .ret)) }
def y3x : List XO := [O1 6 (.mv (.c (.bool false)))]
def y3y : List XO := [O3 9 0,O8 10 9,O1 11 (.mv (c9 0))]
def y3z : List XO := [O1 12 (.bin .lss .no (.t 11) (.t 10))]
def y30 : List XO := [O7 13 1 9 11,O4 14 1 13,O3 8 14]
def y8k : List XO := [O3 15 8,O3 16 1,O1 17 (.bin .lss .no (.t 15) (.t 16)),O3 18 17,O9 19 18 false (.mv (.t 8)),O9 20 18 false (.mv (.t 2)),O9 21 18 false (.bin .geq .no (.t 19) (.t 20)),O1 22 (.pick (.t 18) (.c (.bool true)) (.t 21))]
def y8l : List XO := [O1 6 (.mv (.c (.bool false)))]
def y8m : List XO := [O3 23 8,O1 24 (.bin .add .no (.t 23) (c9 1)),O3 1 24]
def y97 : List XO := [O1 25 (.bin .add .no (.t 11) (c9 1)),O3 11 25]
def y8o : XCode :=
 (.seq (.reg y3z) (.seq (.cond (.t 12) .skip (.exit 0)) (.seq (.block 1 (.seq (.reg y30) (.seq (.seq (.reg y8k) (.cond (.t 22) (.seq (.reg y8l) .ret) .skip)) (.reg y8m)))) (.reg y97))))
def y8n : List XO := [O1 6 (.mv (.c (.bool true)))]
def x_circuit_ascending : XFunc := { np := 3, res := [.t 6], body :=
 (.seq (.reg y3x) (.seq (.seq (.reg y3y) (.block 0 (.loop y8o))) (.seq (.reg y8n) .ret))) }
def y1v : List XO := [O1 2 (.mv (.c (.bool false)))]
def y1w : List XO := [O3 3 0,O1 4 (.bin .neq .no (.t 3) (c9 1)),O3 2 4]
def x_circuit_CheckD2 : XFunc := { np := 1, res := [.t 2], body :=
 (.seq (.reg y1v) (.seq (.reg y1w) .ret)) }
def y1h : List XO := [O1 2 (.boxF (.t 0)),O1 4 (.mv (.c (.bool false)))]
def y1i : List XO := [O1 5 (.fldA 5 (.tf 2)),O1 6 (.load false 1 (.tf 5)),O3 7 1,O1 8 (.bin .shr .no (.t 6) (.t 7)),O1 9 (.bin .and .no (.t 8) (c9 1)),O1 10 (.bin .eql .no (.t 9) (c9 0)),O3 11 10,O9 12 11 true (.fldA 4 (.tf 2)),O9 13 11 true (.load false 1 (.tf 12)),O9 14 11 true (.mv (.t 1)),O9 15 11 true (.bin .shr .no (.t 13) (.t 14)),O9 16 11 true (.bin .and .no (.t 15) (c9 1)),O9 17 11 true (.bin .eql .no (.t 16) (c9 1)),O9 18 11 true (.mv (.t 17)),O9 19 18 false (.fldA 0 (.tf 2)),O9 20 18 false (.fldA 1 (.tf 19)),O9 21 18 false (.load false 1 (.tf 20)),O9 22 18 false (.mv (.t 1)),O9 23 18 false (.ixA 1 (.t 21) (.t 22)),O9 24 18 false (.load false 1 (.t 23)),O9 25 18 false (.fldA 3 (.tf 2)),O9 26 18 false (.load false 1 (.tf 25)),O9 27 18 false (.bin .and .no (.t 24) (.t 26)),O9 28 18 false (.bin .eql .no (.t 27) (c9 0)),O9 29 11 true (.pick (.t 18) (.c (.bool true)) (.t 28)),O1 30 (.pick (.t 11) (.t 29) (.c (.bool false))),O3 4 30]
def x__circuit_state__conducts : XFunc := { np := 2, res := [.t 4], body :=
 (.seq (.reg y1h) (.seq (.reg y1i) .ret)) }
def y1j : List XO := [O1 3 (.mv (.c (.bool false)))]
def y1k : List XO := [O6 4 6 1,O3 5 0,O1 6 (.call "(newel/circuit.state).wire" [.t 4, .t 5]),O1 7 (.un .not (.t 6)),O3 3 7]
def x__circuit_state__wireD1 : XFunc := { np := 2, res := [.t 3], body :=
 (.seq (.reg y1j) (.seq (.reg y1k) .ret)) }
def o20 : List XO := [O1 1 (.boxF (.t 0)),O1 2 (.mv (.c (.slice none 0 0)))]
def o21 : List XO := [O1 8 (.fldA 0 (.tf 1)),O1 9 (.load false 1 (.tf 8)),O1 10 (.fldA 1 (.tf 1)),O1 11 (.load false 1 (.tf 10)),O1 12 (.bsl 1 [.t 9, .t 11]),O1 13 (.call "slices.Concat[[]string,string]" [.t 12]),O3 3 13]
def o26 : List XO := [O1 14 (.fldA 2 (.tf 1)),O1 15 (.load false 1 (.tf 14)),O8 16 15,O1 17 (.mv (c9 0))]
def o27 : List XO := [O1 18 (.bin .lss .no (.t 17) (.t 16))]
def o28 : List XO := [O7 19 2 15 17,O6 20 2 19,O1 5 (.alloc [(.string (ByteArray.mk #[])), (.int .i64 0)]),O2 (.store 2 (.t 5) (.t 20))]
def o29 : List XO := [O3 21 3,O5 22 0 5,O4 23 1 22,O1 24 (.bsl 1 [.t 23]),O1 25 (.app 1 16 (.t 21) (.t 24)),O3 3 25]
def o3a : List XO := [O1 26 (.bin .add .no (.t 17) (c9 1)),O3 17 26]
def d5l : XCode :=
 (.seq (.reg o27) (.seq (.cond (.t 18) .skip (.exit 0)) (.seq (.block 1 (.seq (.reg o28) (.reg o29))) (.reg o3a))))
def o3b : List XO := [O1 27 (.fldA 3 (.tf 1)),O1 28 (.load false 1 (.tf 27)),O8 29 28,O1 30 (.mv (c9 0))]
def o3c : List XO := [O1 31 (.bin .lss .no (.t 30) (.t 29))]
def o22 : List XO := [O7 32 2 28 30,O6 33 2 32,O1 7 (.alloc [(.string (ByteArray.mk #[])), (.int .i64 0)]),O2 (.store 2 (.t 7) (.t 33))]
def o23 : List XO := [O3 34 3,O5 35 0 7,O4 36 1 35,O1 37 (.bsl 1 [.t 36]),O1 38 (.app 1 16 (.t 34) (.t 37)),O3 3 38]
def o24 : List XO := [O1 39 (.bin .add .no (.t 30) (c9 1)),O3 30 39]
def d5k : XCode :=
 (.seq (.reg o3c) (.seq (.cond (.t 31) .skip (.exit 2)) (.seq (.block 3 (.seq (.reg o22) (.reg o23))) (.reg o24))))
def o25 : List XO := [O3 40 3,O3 2 40]
def x_situation_names : XFunc := { np := 1, res := [.t 2], body :=
 (.seq (.reg o20) (.seq (.reg o21) (.seq (.seq (.reg o26) (.block 0 (.loop d5l))) (.seq (.seq (.reg o3b) (.block 2 (.loop d5k))) (.seq (.reg o25) .ret))))) }
def o1v : List XO := [O1 2 (.mv (.c (.bool false)))]
def o1w : List XO := [O3 5 0,O1 6 (.callw "#sb" [.t 5]),O8 7 6,O1 8 (.mv (c9 0))]
def o1x : List XO := [O1 9 (.bin .lss .no (.t 8) (.t 7))]
def o1y : List XO := [O7 10 1 6 8,O4 11 1 10,O3 4 11]
def o1z : List XO := [O3 12 4,O1 13 (.bin .lss .no (.t 12) (.c (.int .u8 97))),O3 14 13,O9 15 14 false (.mv (.t 4)),O9 16 14 false (.bin .gtr .no (.t 15) (.c (.int .u8 122))),O1 17 (.pick (.t 14) (.c (.bool true)) (.t 16))]
def o10 : List XO := [O1 2 (.mv (.c (.bool false)))]
def o11 : List XO := [O1 18 (.bin .add .no (.t 8) (c9 1)),O3 8 18]
def g5b : XCode :=
 (.seq (.reg o1x) (.seq (.cond (.t 9) .skip (.exit 0)) (.seq (.block 1 (.seq (.reg o1y) (.seq (.reg o1z) (.cond (.t 17) (.seq (.reg o10) .ret) .skip)))) (.reg o11))))
def o12 : List XO := [O3 19 0,O1 20 (.bin .neq .no (.t 19) (.c (.string (ByteArray.mk #[])))),O3 2 20]
def x_situation_Plain : XFunc := { np := 1, res := [.t 2], body :=
 (.seq (.reg o1v) (.seq (.seq (.reg o1w) (.block 0 (.loop g5b))) (.seq (.reg o12) .ret))) }
def o13 : List XO := [O1 2 (.mv (.c (.bool false)))]
def o14 : List XO := [O3 3 0]
def o17 : List XO := [O1 5 (.bin .eql .no (.t 3) (.c (.string (ByteArray.mk #[97, 110, 121])))),O3 4 5]
def o18 : List XO := [O1 6 (.bin .eql .no (.t 3) (.c (.string (ByteArray.mk #[116, 111])))),O3 4 6]
def o19 : List XO := [O1 7 (.bin .eql .no (.t 3) (.c (.string (ByteArray.mk #[122, 101, 114, 111])))),O3 4 7]
def o2a : List XO := [O1 8 (.bin .eql .no (.t 3) (.c (.string (ByteArray.mk #[109, 111, 114, 101])))),O3 4 8]
def o2b : List XO := [O1 9 (.bin .eql .no (.t 3) (.c (.string (ByteArray.mk #[108, 101, 115, 115])))),O3 4 9]
def o2c : List XO := [O1 10 (.bin .eql .no (.t 3) (.c (.string (ByteArray.mk #[105, 102])))),O3 4 10]
def o2d : List XO := [O1 11 (.bin .eql .no (.t 3) (.c (.string (ByteArray.mk #[121, 101, 115])))),O3 4 11]
def o2e : List XO := [O1 12 (.bin .eql .no (.t 3) (.c (.string (ByteArray.mk #[110, 111])))),O3 4 12]
def o15 : List XO := [O1 2 (.mv (.c (.bool true)))]
def o16 : List XO := [O1 2 (.mv (.c (.bool false)))]
def x_situation_Reserved : XFunc := { np := 1, res := [.t 2], body :=
 (.seq (.reg o13) (.seq (.seq (.reg o14) (.block 0 (.seq (.seq (.reg o17) (.cond (.t 4) .skip (.seq (.reg o18) (.cond (.t 4) .skip (.seq (.reg o19) (.cond (.t 4) .skip (.seq (.reg o2a) (.cond (.t 4) .skip (.seq (.reg o2b) (.cond (.t 4) .skip (.seq (.reg o2c) (.cond (.t 4) .skip (.seq (.reg o2d) (.cond (.t 4) .skip (.reg o2e))))))))))))))) (.cond (.t 4) (.seq (.reg o15) .ret) .skip)))) (.seq (.reg o16) .ret))) }
def y5y : List XO := [O1 4 (.boxF (.t 0)),O1 8 (.mv (c9 0))]
def y5z : List XO := [O1 12 (.fldA 2 (.tf 4)),O1 13 (.load false 1 (.tf 12)),O3 14 2,O1 15 (.bin .mul .no (.t 13) (.t 14)),O1 16 (.fldA 3 (.tf 4)),O1 17 (.load false 1 (.tf 16)),O3 18 3,O1 19 (.bin .add .no (.t 17) (.t 18)),O1 20 (.fldA 1 (.tf 4)),O1 21 (.load false 1 (.tf 20)),O3 22 2,O1 23 (.bin .add .no (.t 21) (.t 22)),O3 9 15,O3 10 19,O3 11 23]
def y50 : List XO := [O1 24 (.fldA 0 (.tf 4)),O1 25 (.load false 1 (.tf 24))]
def y51 : List XO := [O3 26 9,O1 27 (.un .neg (.t 26)),O3 9 27]
def y55 : List XO := [O3 28 1,O1 29 (.bin .lss .no (.t 28) (c9 0)),O3 30 29,O9 31 30 false (.mv (.t 1)),O9 32 30 false (.bin .eql .no (.t 31) (c9 0)),O9 33 30 false (.mv (.t 32)),O9 34 33 true (.mv (.t 9)),O9 35 33 true (.bin .lss .no (.t 34) (c9 0)),O9 36 30 false (.pick (.t 33) (.t 35) (.c (.bool false))),O1 37 (.pick (.t 30) (.c (.bool true)) (.t 36))]
def y56 : List XO := [O3 38 1,O1 39 (.un .neg (.t 38)),O3 40 9,O1 41 (.un .neg (.t 40)),O3 42 10,O3 43 11,O1 44 (.call "newel/drive.ahead" [.t 39, .t 41, .t 42, .t 43]),O1 45 (.un .neg (.t 44)),O3 8 45]
def y57 : List XO := [O3 46 1,O3 47 9,O3 48 10,O3 49 11,O1 50 (.call "newel/drive.ahead" [.t 46, .t 47, .t 48, .t 49]),O3 8 50]
def x_drive_tick : XFunc := { np := 4, res := [.t 8], body :=
 (.seq (.reg y5y) (.seq (.reg y5z) (.seq (.seq (.reg y50) (.cond (.t 25) (.reg y51) .skip)) (.seq (.seq (.reg y55) (.cond (.t 37) (.seq (.reg y56) .ret) .skip)) (.seq (.reg y57) .ret))))) }
def y04 : List XO := [O1 2 (.mv (c9 0))]
def y05 : List XO := [O3 5 0,O1 6 (.nilck (.t 5)),O5 7 0 6,O5 8 5 7,O4 9 1 8,O8 10 9,O1 11 (.mv (c9 0))]
def y06 : List XO := [O1 12 (.bin .lss .no (.t 11) (.t 10))]
def y07 : List XO := [O3 13 11,O7 14 2 9 11,O6 15 2 14,O1 4 (.alloc [(.int .i64 0), (.int .i64 0)]),O3 3 13,O2 (.store 2 (.t 4) (.t 15))]
def y08 : List XO := [O3 16 0,O1 17 (.nilck (.t 16)),O5 18 6 17,O5 19 3 18,O4 20 1 19,O3 21 3,O1 22 (.bin .shr .no (.t 20) (.t 21)),O1 23 (.bin .and .no (.t 22) (c9 1)),O1 24 (.bin .eql .no (.t 23) (c9 0)),O3 25 24,O9 26 25 true (.fldA 1 (.t 4)),O9 27 25 true (.load false 1 (.t 26)),O9 28 25 true (.mv (.t 0)),O9 29 25 true (.nilck (.t 28)),O9 30 25 true (.fldA 11 (.t 29)),O9 31 25 true (.load false 1 (.t 30)),O9 32 25 true (.bin .leq .no (.t 27) (.t 31)),O1 33 (.pick (.t 25) (.t 32) (.c (.bool false)))]
def y09 : List XO := [O3 34 2,O5 35 0 4,O4 36 1 35,O1 37 (.bin .add .no (.t 34) (.t 36)),O3 2 37]
def y1a : List XO := [O1 38 (.bin .add .no (.t 11) (c9 1)),O3 11 38]
def y1c : XCode :=
 (.seq (.reg y06) (.seq (.cond (.t 12) .skip (.exit 0)) (.seq (.block 1 (.seq (.reg y07) (.seq (.reg y08) (.cond (.t 33) (.reg y09) .skip)))) (.reg y1a))))
def y1b : List XO := [O3 39 2,O3 2 39]
def x___drive_motion__grip : XFunc := { np := 1, res := [.t 2], body :=
 (.seq (.reg y04) (.seq (.seq (.reg y05) (.block 0 (.loop y1c))) (.seq (.reg y1b) .ret))) }
def y7f : List XO := [O1 4 (.mv (c9 0))]
def y7g : List XO := [O3 6 0,O8 7 6,O1 8 (.mv (c9 0))]
def y7h : List XO := [O1 9 (.bin .lss .no (.t 8) (.t 7))]
def y7i : List XO := [O3 10 8,O3 5 10]
def y7j : List XO := [O3 11 1,O3 12 0,O3 13 5,O7 14 1 12 13,O4 15 1 14,O1 16 (.bin .eql .bool (.t 11) (.t 15))]
def y7k : List XO := [O3 17 5,O3 4 17]
def y7l : List XO := [O1 18 (.bin .add .no (.t 8) (c9 1)),O3 8 18]
def y7n : XCode :=
 (.seq (.reg y7h) (.seq (.cond (.t 9) .skip (.exit 0)) (.seq (.block 1 (.seq (.reg y7i) (.seq (.reg y7j) (.cond (.t 16) (.seq (.reg y7k) .ret) .skip)))) (.reg y7l))))
def y7m : List XO := [O1 4 (.mv (.c (.int .i64 (-1))))]
def x_slices_Index___bool_bool_ : XFunc := { np := 2, res := [.t 4], body :=
 (.seq (.reg y7f) (.seq (.seq (.reg y7g) (.block 0 (.loop y7n))) (.seq (.reg y7m) .ret))) }
def o4j : List XO := [O1 4 (.mv (c9 0))]
def o4k : List XO := [O3 6 0,O8 7 6,O1 8 (.mv (c9 0))]
def o4l : List XO := [O1 9 (.bin .lss .no (.t 8) (.t 7))]
def o4m : List XO := [O3 10 8,O3 5 10]
def o4n : List XO := [O3 11 1,O3 12 0,O3 13 5,O7 14 1 12 13,O4 15 1 14,O1 16 (.callv (.t 11) [.t 15])]
def o4o : List XO := [O3 17 5,O3 4 17]
def o4p : List XO := [O1 18 (.bin .add .no (.t 8) (c9 1)),O3 8 18]
def g5d : XCode :=
 (.seq (.reg o4l) (.seq (.cond (.t 9) .skip (.exit 0)) (.seq (.block 1 (.seq (.reg o4m) (.seq (.reg o4n) (.cond (.t 16) (.seq (.reg o4o) .ret) .skip)))) (.reg o4p))))
def o4q : List XO := [O1 4 (.mv (.c (.int .i64 (-1))))]
def x_slices_IndexFunc___int_int_ : XFunc := { np := 2, res := [.t 4], body :=
 (.seq (.reg o4j) (.seq (.seq (.reg o4k) (.block 0 (.loop g5d))) (.seq (.reg o4q) .ret))) }
def o3f : List XO := [O1 2 (.mv (.c (.slice none 0 0)))]
def o3g : List XO := [O1 3 (.mv (c9 0))]
def o3o : List XO := [O3 9 0,O8 10 9,O1 11 (.mv (c9 0))]
def o3p : List XO := [O1 12 (.bin .lss .no (.t 11) (.t 10))]
def o3q : List XO := [O7 13 1 9 11,O4 14 1 13,O3 5 14]
def o3r : List XO := [O3 15 3,O3 16 5,O8 17 16,O1 18 (.bin .add .no (.t 15) (.t 17)),O3 3 18]
def o3s : List XO := [O3 19 3,O1 20 (.bin .lss .no (.t 19) (c9 0))]
def o3t : List XO := [O1 21 (.callw "#no" []),O2 (.callw "#no" [])]
def o3u : List XO := [O1 22 (.bin .add .no (.t 11) (c9 1)),O3 11 22]
def d5n : XCode :=
 (.seq (.reg o3p) (.seq (.cond (.t 12) .skip (.exit 0)) (.seq (.block 1 (.seq (.reg o3q) (.seq (.reg o3r) (.seq (.reg o3s) (.cond (.t 20) (.reg o3t) .skip))))) (.reg o3u))))
def o3h : List XO := [O3 23 3,O1 24 (.call "slices.Grow[[]string,string]" [(.c (.slice none 0 0)), .t 23]),O3 6 24]
def o3i : List XO := [O3 25 0,O8 26 25,O1 27 (.mv (c9 0))]
def o3j : List XO := [O1 28 (.bin .lss .no (.t 27) (.t 26))]
def o3k : List XO := [O7 29 1 25 27,O4 30 1 29,O3 8 30]
def o3l : List XO := [O3 31 6,O3 32 8,O1 33 (.app 1 16 (.t 31) (.t 32)),O3 6 33]
def o3m : List XO := [O1 34 (.bin .add .no (.t 27) (c9 1)),O3 27 34]
def d5m : XCode :=
 (.seq (.reg o3j) (.seq (.cond (.t 28) .skip (.exit 2)) (.seq (.block 3 (.seq (.reg o3k) (.reg o3l))) (.reg o3m))))
def o3n : List XO := [O3 35 6,O3 2 35]
def x_slices_Concat___string_string_ : XFunc := { np := 1, res := [.t 2], body :=
 (.seq (.reg o3f) (.seq (.reg o3g) (.seq (.seq (.reg o3o) (.block 0 (.loop d5n))) (.seq (.reg o3h) (.seq (.seq (.reg o3i) (.block 2 (.loop d5m))) (.seq (.reg o3n) .ret)))))) }
def y8r : List XO := [O1 8 (.mv (c9 0))]
def y5a : List XO := [O3 9 0,O3 10 1,O3 11 2,O1 12 (.bin .sub .no (.t 10) (.t 11)),O3 13 3,O1 14 (.call "newel/drive.floor" [.t 12, .t 13]),O1 15 (.bin .add .no (.t 9) (.t 14)),O1 16 (.max [(c9 0), .t 15]),O3 8 16]
def x_drive_ahead : XFunc := { np := 4, res := [.t 8], body :=
 (.seq (.reg y8r) (.seq (.reg y5a) .ret)) }
def o4c : List XO := [O1 4 (.mv (.c (.slice none 0 0)))]
def o4d : List XO := [O3 5 1,O1 6 (.bin .lss .no (.t 5) (c9 0))]
def o4e : List XO := [O1 7 (.callw "#no" []),O2 (.callw "#no" [])]
def o4f : List XO := [O3 8 1,O3 9 0,O1 10 (.callw "#cap" [.t 9]),O3 11 0,O8 12 11,O1 13 (.bin .sub .no (.t 10) (.t 12)),O1 14 (.bin .sub .no (.t 8) (.t 13)),O3 1 14]
def o4g : List XO := [O3 15 1,O1 16 (.bin .gtr .no (.t 15) (c9 0))]
def o4h : List XO := [O3 17 0,O3 18 0,O1 19 (.callw "#cap" [.t 18]),O1 20 (.slc 1 (.t 17) none (some (.t 19))),O3 21 1,O1 22 (.callw "#ax" [.t 20, .t 21, (.c (.string (ByteArray.mk #[])))]),O3 23 0,O8 24 23,O1 25 (.slc 1 (.t 22) none (some (.t 24))),O3 0 25]
def o4i : List XO := [O3 26 0,O3 4 26]
def x_slices_Grow___string_string_ : XFunc := { np := 2, res := [.t 4], body :=
 (.seq (.reg o4c) (.seq (.seq (.reg o4d) (.cond (.t 6) (.reg o4e) .skip)) (.seq (.seq (.reg o4f) (.seq (.reg o4g) (.cond (.t 16) (.reg o4h) .skip))) (.seq (.reg o4i) .ret)))) }
def y5i : List XO := [O1 4 (.mv (c9 0))]
def y5j : List XO := [O3 7 0,O3 8 1,O1 9 (.bin .quo .no (.t 7) (.t 8)),O3 10 0,O3 11 1,O1 12 (.bin .rem .no (.t 10) (.t 11)),O3 5 9,O3 6 12]
def y5k : List XO := [O3 13 6,O1 14 (.bin .lss .no (.t 13) (c9 0))]
def y5l : List XO := [O3 15 5,O1 16 (.bin .sub .no (.t 15) (c9 1)),O3 5 16]
def y5m : List XO := [O3 17 5,O3 4 17]
def x_drive_floor : XFunc := { np := 2, res := [.t 4], body :=
 (.seq (.reg y5i) (.seq (.reg y5j) (.seq (.seq (.reg y5k) (.cond (.t 14) (.reg y5l) .skip)) (.seq (.reg y5m) .ret)))) }
attribute [go_sem] z03 z04 z1e z1k z1l z1m z1n z1o z1p z1q z05 z06 z07 z08 z09 z1a z1b z1c z1d z1f z1g z1h z1i z1j v7h v7i v7k v7l v7m v7n v7o v7p v7q v7r v7j v9r v9s v93 v95 v96 v97 v98 v99 w0a v9t v9u v9v v9w v9x v9y v9z v90 v91 v92 v94 y6y y6z y60 y61 z1r y63 m4a m4b p4i p4j p4k p4l p4m p4n p4o p4p p05 p06 p09 p1a p1b p1c p1d p1e p1f p1g p07 p08 v3n v3o v3p v3q v3r v3s v2v v2w v2x v2y v2z v21 v22 v23 y64 z1s y66 y67 y68 y69 y7a m4i m4j m4l m4m m4n m4o m4p m4q m4r m4k w1o w1p y4z y8p y41 y42 y8q y44 y45 y46 y6a y6b y6c y6d y6e y3g y3h y3n y3o y3p y3q y3r y3s y3t y3u y3i y3j y3k y3l y3m m6g m6h m6l m6m m6n m6o m6p m6q m6r m6i m6j m6k m0l m0m m2z m20 o9r o9s o9u o9v o9w o9x o9y o9z o90 o91 o9t p4b p4c l9h l9i l9m l9n l9o l9p l9q l9r l9s l9t l9j l9k l9l m9n m9o v4g v4h v4i v4j v4k v4l v4m v62 v63 v64 v65 v66 v67 v68 v69 v7a u5s u5t u5u v3t v3u v34 v39 v4a v4b v4c v4d v4e v4f v3v v3w v3x v3y v3z v30 v31 v32 v33 v35 v36 v37 v38 o0l o0m o0o o0p o0q o0r o0s o0t o0u o0n v7b v7c v7d v7e v7f v7g w9u w9v l9f l9g w9r w9s l87 l88 l89 l9a m4s m4t m42 m5b m5l m5n m5o m5p m5q m5r m4u m4v m4w m4x m4y m4z m40 m41 m43 m44 m45 m46 m47 m48 m49 m5a m5c m5d m5e m5f m5g m5h m5i m5j m5k m5m m8j m8k m8v m81 m82 m83 m84 m85 m86 m87 m8l m8m m8n m8o m8p m8q m8r m8s m8t m8u m8w m8x m8y m8z m80 y5b y5c y5d y5e y5f y5g y5h y5p y5q y5r y5s y5t y5u y5v y5w y2w y2x y96 y8i y8j y3a y3b y3c y3d y3e y2y y2z y7d y7e y4c y4d y4e y4f y4g y4h y4i y4j m9w m9x m90 m91 m92 m93 m94 m95 m96 m97 m9y m9z o0x o0y o08 o1i o1q o1r o1s o1t o1u o0z o00 o01 o02 o03 o04 o05 o06 o07 o09 o1a o1b o1c o1d o1e o1f o1g o1h o1j o1k o1l o1m o1n o1o o1p o3d o3e l96 s2c l98 l99 m0a m0b m0c m0d m0e v6y v6z v60 v61 v03 v04 v1d v1e v1f v1g v1h v1i v1j v1k v05 v06 v07 v08 v09 v1a v1b v1c o3z o30 o0j o0k o2f o2g o2i o2j o2k o2l o2m o2n o2o o2p o2h w9t o3x o3y l9d l9e l9b l9c l9u l9v l9y l9z l90 l91 l92 v2e l94 l95 l9w l9x w9q m98 m99 o0c o0d o0e o0f o0g o0h o0i o0a o0b m75 m76 m8a m8b m8c m8d m8e m8f m8g m77 m78 m79 y4n y4o y4q y4r y4s y4t y4u y4v y4w y4x y4p y5n y5o y58 y59 y0w y0x y0y y0z y00 y01 y02 y03 y1x y1y y2g y2n y2o y2p y2q y2r y2s y2t y1z y16 y8h y95 y2a y2b y2c y2d y2e y2f y2h y2i y2j y2k y2l y2m y7o y7p y7q y7r y7s y7t y7u y7v y1l y1m y1n y1o y1p y1q y1r y1s o2q o2r o2t o2u o2v o2w o2x o2y o2z o2s o0v o0w v1p v1q v1z x1l v12 v13 v14 v15 v16 v18 v1r v1s v1t v1u v1v v1w v1x v1y v1l v1m v1n v1o o4z o40 o41 o42 o43 o44 o45 o46 o4r o4s o4t o4u o4v o4w o4x o4y y4l y4m y1d y1e y1f y1g y7b y7c o3v o3w y1t y1u y4a y4b y3x y3y y3z y30 y8k y8l y8m y97 y8n y1v y1w y1h y1i y1j y1k o20 o21 o26 o27 o28 o29 o3a o3b o3c o22 o23 o24 o25 o1v o1w o1x o1y o1z o10 o11 o12 o13 o14 o17 o18 o19 o2a o2b o2c o2d o2e o15 o16 y5y y5z y50 y51 y55 y56 y57 y04 y05 y06 y07 y08 y09 y1a y1b y7f y7g y7h y7i y7j y7k y7l y7m o4j o4k o4l o4m o4n o4o o4p o4q o3f o3g o3o o3p o3q o3r o3s o3t o3u o3h o3i o3j o3k o3l o3m o3n y8r y5a o4c o4d o4e o4f o4g o4h o4i y5i y5j y5k y5l y5m
end Go.Nw.Tp2
