/- The functions of a seat, as the abstract machine has them. -/
import Derived.Test.YtinmifhfkkjccaaNwI
set_option linter.all false
namespace Go.Nw.Tp3
@[go_sem] def O3 (d a : Nat) : XO := ⟨some d,none,.mv (.t a)⟩
@[go_sem] def O4 (d n a : Nat) : XO := ⟨some d,none,.load false n (.t a)⟩
@[go_sem] def O5 (d n a : Nat) : XO := ⟨some d,none,.fldA n (.t a)⟩
@[go_sem] def O6 (d n a : Nat) : XO := ⟨some d,none,.load true n (.t a)⟩
@[go_sem] def O7 (d n a b : Nat) : XO := ⟨some d,none,.ixA n (.t a) (.t b)⟩
@[go_sem] def O8 (d a : Nat) : XO := ⟨some d,none,.len false (.t a)⟩
@[go_sem] def O9 (d g : Nat) (p : Bool) (x : XOp) : XO := ⟨some d,some (g,p),x⟩
@[go_sem] def c9 (n : Int) : X := .c (.int .i64 n)
@[go_sem] def O1 (d : Nat) (x : XOp) : XO := ⟨some d,none,x⟩
@[go_sem] def O2 (x : XOp) : XO := ⟨none,none,x⟩
def K3u : List XO := [O1 3 (.boxF (.t 0)),O1 4 (.boxF (.t 1)),O1 6 (.mv (.c (.bool false)))]
def K3v : List XO := [O1 22 (.load true 6 (.tf 3)),O1 23 (.call "newel/newellaw01.Far" [.t 22]),O3 24 23,O9 25 24 false (.mv (.t 2)),O9 26 24 false (.len false (.t 25)),O9 27 24 false (.bin .gtr .no (.t 26) (c9 100)),O1 28 (.pick (.t 24) (.c (.bool true)) (.t 27)),O3 29 28,O9 30 29 false (.load true 6 (.tf 3)),O9 31 29 false (.load true 4 (.tf 4)),O9 32 29 false (.call "newel/newelref01.CheckStop" [.t 30, .t 31]),O9 33 29 false (.bin .neq .no (.t 32) (c9 0)),O1 34 (.pick (.t 29) (.c (.bool true)) (.t 33)),O3 35 34,O9 36 35 false (.load true 4 (.tf 4)),O9 37 35 false (.mv (.t 2)),O9 38 35 false (.call "newel/newelref01.History" [.t 36, .t 37]),O9 39 35 false (.un .not (.t 38)),O1 40 (.pick (.t 35) (.c (.bool true)) (.t 39))]
def K4b : List XO := [O1 41 (.call "newel/neweltop.measures" []),O3 6 41]
def K4l : List XO := [O1 43 (.load true 6 (.tf 3)),O1 44 (.load true 4 (.tf 4)),O1 45 (.call "newel/drive.Distance" [.t 43, .t 44]),O3 42 45,O1 46 (.ext (.t 42) 0),O1 47 (.ext (.t 42) 1),O1 48 (.ext (.t 42) 2),O1 7 (.alloc [(.int .i64 0), (.int .i64 0)]),O1 8 (.alloc [(.int .i64 0), (.int .i64 0)]),O2 (.store 2 (.t 7) (.t 46)),O2 (.store 2 (.t 8) (.t 47)),O3 9 48]
def K4n : List XO := [O3 49 9,O1 50 (.bin .neq .no (.t 49) (c9 0))]
def K4o : List XO := [O3 51 9,O1 52 (.bin .eql .no (.t 51) (c9 12)),O3 53 52,O9 54 53 true (.call "newel/neweltop.measures" []),O1 55 (.pick (.t 53) (.t 54) (.c (.bool false))),O3 6 55]
def K4p : List XO := [O5 56 1 8,O4 57 1 56,O1 58 (.bin .lss .no (.t 57) (c9 1)),O3 59 58,O9 60 59 false (.fldA 1 (.t 8)),O9 61 59 false (.load false 1 (.t 60)),O9 62 59 false (.bin .gtr .no (.t 61) (c9 7)),O1 63 (.pick (.t 59) (.c (.bool true)) (.t 62))]
def K4q : List XO := [O1 64 (.call "newel/neweltop.measures" []),O3 6 64]
def K4r : List XO := [O1 66 (.load true 6 (.tf 3)),O1 67 (.load true 4 (.tf 4)),O3 68 2,O1 69 (.call "newel/drive.Play" [.t 66, .t 67, .t 68]),O3 65 69,O1 70 (.ext (.t 65) 0),O1 71 (.ext (.t 65) 1),O3 10 70,O3 11 71]
def K4s : List XO := [O3 72 11,O1 73 (.bin .neq .no (.t 72) (c9 0)),O3 74 73,O9 75 74 false (.mv (.t 10)),O9 76 74 false (.len false (.t 75)),O9 77 74 false (.mv (.t 2)),O9 78 74 false (.len false (.t 77)),O9 79 74 false (.bin .neq .no (.t 76) (.t 78)),O1 80 (.pick (.t 74) (.c (.bool true)) (.t 79))]
def K3w : List XO := [O1 6 (.mv (.c (.bool false)))]
def K3x : List XO := [O1 12 (.mv (.c (.slice none 0 0)))]
def K3y : List XO := [O1 13 (.mv (c9 0))]
def K3z : List XO := [O3 81 13,O3 82 10,O8 83 82,O1 84 (.bin .lss .no (.t 81) (.t 83)),O3 85 84,O9 86 85 true (.mv (.t 10)),O9 87 85 true (.mv (.t 13)),O9 88 85 true (.ixA 1 (.t 86) (.t 87)),O9 89 85 true (.load false 1 (.t 88)),O9 90 85 true (.bin .geq .no (.t 89) (c9 0)),O1 91 (.pick (.t 85) (.t 90) (.c (.bool false)))]
def K30 : List XO := [O3 94 12,O3 95 10,O3 96 13,O7 97 1 95 96,O4 98 1 97,O1 99 (.min [(c9 1), .t 98]),O1 100 (.bsl 1 [.t 99]),O1 101 (.app 1 8 (.t 94) (.t 100)),O3 12 101]
def K31 : List XO := [O3 92 13,O1 93 (.bin .add .no (.t 92) (c9 1)),O3 13 93]
def K0o : XCode :=
 (.seq (.seq (.reg K3z) (.cond (.t 91) .skip (.exit 0))) (.seq (.block 1 (.reg K30)) (.reg K31)))
def K36 : List XO := [O5 102 1 8,O4 103 1 102,O1 104 (.call "newel/neweltop.watch" [.t 103]),O1 14 (.alloc [(.slice none 0 0), (.slice none 0 0), (.slice none 0 0), (.slice none 0 0), (.slice none 0 0)]),O2 (.store 5 (.t 14) (.t 104))]
def K38 : List XO := [O6 106 5 14,O3 107 12,O1 108 (.call "newel/control.Run" [.t 106, .t 107]),O3 105 108,O1 109 (.ext (.t 105) 0),O1 110 (.ext (.t 105) 1),O3 15 109,O3 16 110]
def K4a : List XO := [O6 112 5 14,O1 113 (.build [(.int .i64 0), (.int .i64 0), (.int .i64 0), (.bool false)] [(0, 1, (c9 4))]),O1 114 (.bslF 4 [.t 113]),O1 115 (.bslF 1 [.t 114]),O1 116 (.call "newel/control.Breach" [.t 112, (.c (.slice none 0 0)), .t 115]),O3 111 116,O1 117 (.ext (.t 111) 0),O1 118 (.ext (.t 111) 1),O1 119 (.ext (.t 111) 2),O3 17 117,O3 18 118,O3 19 119]
def K4c : List XO := [O3 120 16,O1 121 (.bin .neq .no (.t 120) (c9 0)),O3 122 121,O9 123 122 false (.mv (.t 19)),O9 124 122 false (.bin .neq .no (.t 123) (c9 0)),O1 125 (.pick (.t 122) (.c (.bool true)) (.t 124)),O3 126 125,O9 127 126 false (.mv (.t 18)),O9 128 126 false (.un .not (.t 127)),O1 129 (.pick (.t 126) (.c (.bool true)) (.t 128)),O3 130 129,O9 131 130 false (.mv (.t 17)),O9 132 130 false (.len false (.t 131)),O9 133 130 false (.fldA 1 (.t 8)),O9 134 130 false (.load false 1 (.t 133)),O9 135 130 false (.bin .add .no (.t 134) (c9 1)),O9 136 130 false (.bin .neq .no (.t 132) (.t 135)),O1 137 (.pick (.t 130) (.c (.bool true)) (.t 136)),O3 138 137,O9 139 138 false (.mv (.t 15)),O9 140 138 false (.len false (.t 139)),O9 141 138 false (.mv (.t 12)),O9 142 138 false (.len false (.t 141)),O9 143 138 false (.bin .neq .no (.t 140) (.t 142)),O1 144 (.pick (.t 138) (.c (.bool true)) (.t 143))]
def K4d : List XO := [O1 6 (.mv (.c (.bool false)))]
def K4e : List XO := [O1 20 (.mv (.c (.bool false)))]
def K4f : List XO := [O1 21 (.mv (c9 0))]
def K4g : List XO := [O3 145 21,O3 146 15,O8 147 146,O1 148 (.bin .lss .no (.t 145) (.t 147))]
def K4h : List XO := [O3 151 20,O3 152 151,O9 153 152 false (.mv (.t 12)),O9 154 152 false (.mv (.t 21)),O9 155 152 false (.ixA 1 (.t 153) (.t 154)),O9 156 152 false (.load false 1 (.t 155)),O9 157 152 false (.bin .eql .no (.t 156) (c9 0)),O1 158 (.pick (.t 152) (.c (.bool true)) (.t 157)),O3 20 158]
def K4i : List XO := [O3 159 20,O1 160 (.un .not (.t 159)),O3 161 160,O9 162 161 true (.mv (.t 15)),O9 163 161 true (.mv (.t 21)),O9 164 161 true (.ixA 3 (.t 162) (.t 163)),O9 165 161 true (.fldA 0 (.t 164)),O9 166 161 true (.load false 1 (.t 165)),O9 167 161 true (.bin .neq .no (.t 166) (c9 0)),O1 168 (.pick (.t 161) (.t 167) (.c (.bool false)))]
def K4j : List XO := [O1 6 (.mv (.c (.bool false)))]
def K4k : List XO := [O3 149 21,O1 150 (.bin .add .no (.t 149) (c9 1)),O3 21 150]
def K0p : XCode :=
 (.seq (.seq (.reg K4g) (.cond (.t 148) .skip (.exit 2))) (.seq (.block 3 (.seq (.reg K4h) (.seq (.reg K4i) (.cond (.t 168) (.seq (.reg K4j) .ret) .skip)))) (.reg K4k)))
def K4m : List XO := [O1 169 (.call "newel/neweltop.measures" []),O3 6 169]
def x_neweltop_TopWatched : XFunc := { np := 3, res := [.t 6], body :=
 (.seq (.reg K3u) (.seq (.seq (.reg K3v) (.cond (.t 40) (.seq (.reg K4b) .ret) .skip)) (.seq (.reg K4l) (.seq (.seq (.reg K4n) (.cond (.t 50) (.seq (.reg K4o) .ret) .skip)) (.seq (.seq (.reg K4p) (.cond (.t 63) (.seq (.reg K4q) .ret) .skip)) (.seq (.reg K4r) (.seq (.seq (.reg K4s) (.cond (.t 80) (.seq (.reg K3w) .ret) .skip)) (.seq (.reg K3x) (.seq (.seq (.reg K3y) (.block 0 (.loop K0o))) (.seq (.reg K36) (.seq (.seq .ghost (.reg K38)) (.seq (.reg K4a) (.seq (.seq (.reg K4c) (.cond (.t 144) (.seq (.reg K4d) .ret) .skip)) (.seq (.reg K4e) (.seq (.seq (.reg K4f) (.block 2 (.loop K0p))) (.seq (.reg K4m) .ret)))))))))))))))) }
def K3s : List XO := [O1 1 (.boxF (.t 0)),O1 2 (.mv (.c (.bool false)))]
def K3t : List XO := [O1 3 (.fldA 5 (.tf 1)),O1 4 (.load false 1 (.tf 3)),O8 5 4,O1 6 (.bin .gtr .no (.t 5) (c9 10)),O3 2 6]
def x_l01_Far : XFunc := { np := 1, res := [.t 2], body :=
 (.seq (.reg K3s) (.seq (.reg K3t) .ret)) }
def K4z : List XO := [O1 2 (.boxF (.t 0)),O1 3 (.boxF (.t 1)),O1 4 (.mv (c9 0))]
def K40 : List XO := [O1 5 (.load true 6 (.tf 2)),O1 6 (.call "newel/newelref01.Check" [.t 5]),O1 7 (.bin .neq .no (.t 6) (c9 0))]
def K41 : List XO := [O1 4 (.mv (c9 10))]
def K42 : List XO := [O1 8 (.fldA 0 (.tf 3)),O1 9 (.load false 1 (.tf 8)),O1 10 (.call "newel/newelref01.within" [.t 9, (c9 0), (c9 1000)]),O1 11 (.un .not (.t 10)),O3 12 11,O9 13 12 false (.fldA 1 (.tf 3)),O9 14 12 false (.fldA 0 (.tf 13)),O9 15 12 false (.load false 1 (.tf 14)),O9 16 12 false (.bin .lss .no (.t 15) (c9 0)),O1 17 (.pick (.t 12) (.c (.bool true)) (.t 16)),O3 18 17,O9 19 18 false (.fldA 1 (.tf 3)),O9 20 18 false (.fldA 1 (.tf 19)),O9 21 18 false (.load false 1 (.tf 20)),O9 22 18 false (.fldA 1 (.tf 3)),O9 23 18 false (.fldA 0 (.tf 22)),O9 24 18 false (.load false 1 (.tf 23)),O9 25 18 false (.bin .lss .no (.t 21) (.t 24)),O1 26 (.pick (.t 18) (.c (.bool true)) (.t 25)),O3 27 26,O9 28 27 false (.fldA 1 (.tf 3)),O9 29 27 false (.fldA 1 (.tf 28)),O9 30 27 false (.load false 1 (.tf 29)),O9 31 27 false (.bin .gtr .no (.t 30) (c9 100000)),O1 32 (.pick (.t 27) (.c (.bool true)) (.t 31)),O3 33 32,O9 34 33 false (.fldA 3 (.tf 3)),O9 35 33 false (.load false 1 (.tf 34)),O9 36 33 false (.fldA 5 (.tf 2)),O9 37 33 false (.load false 1 (.tf 36)),O9 38 33 false (.len false (.t 37)),O9 39 33 false (.cvtI .u64 (.t 38)),O9 40 33 false (.bin .shl .no (c9 1) (.t 39)),O9 41 33 false (.bin .sub .no (.t 40) (c9 1)),O9 42 33 false (.call "newel/newelref01.within" [.t 35, (c9 0), .t 41]),O9 43 33 false (.un .not (.t 42)),O1 44 (.pick (.t 33) (.c (.bool true)) (.t 43))]
def K43 : List XO := [O1 4 (.mv (c9 11))]
def K44 : List XO := [O1 4 (.mv (c9 0))]
def x_r01_CheckStop : XFunc := { np := 2, res := [.t 4], body :=
 (.seq (.reg K4z) (.seq (.seq (.reg K40) (.cond (.t 7) (.seq (.reg K41) .ret) .skip)) (.seq (.seq (.reg K42) (.cond (.t 44) (.seq (.reg K43) .ret) .skip)) (.seq (.reg K44) .ret)))) }
def K5i : List XO := [O1 2 (.boxF (.t 0)),O1 4 (.mv (.c (.bool false)))]
def K5j : List XO := [O1 5 (.mv (c9 0))]
def K5k : List XO := [O3 6 5,O3 7 1,O8 8 7,O1 9 (.bin .lss .no (.t 6) (.t 8))]
def K5l : List XO := [O3 12 1,O3 13 5,O7 14 1 12 13,O4 15 1 14,O1 16 (.fldA 1 (.tf 2)),O1 17 (.fldA 0 (.tf 16)),O1 18 (.load false 1 (.tf 17)),O1 19 (.fldA 1 (.tf 2)),O1 20 (.fldA 1 (.tf 19)),O1 21 (.load false 1 (.tf 20)),O1 22 (.call "newel/newelref01.within" [.t 15, .t 18, .t 21]),O1 23 (.un .not (.t 22))]
def K5m : List XO := [O1 4 (.mv (.c (.bool false)))]
def K5n : List XO := [O3 10 5,O1 11 (.bin .add .no (.t 10) (c9 1)),O3 5 11]
def K0r : XCode :=
 (.seq (.seq (.reg K5k) (.cond (.t 9) .skip (.exit 0))) (.seq (.block 1 (.seq (.reg K5l) (.cond (.t 23) (.seq (.reg K5m) .ret) .skip))) (.reg K5n)))
def K5o : List XO := [O3 24 1,O8 25 24,O1 26 (.bin .leq .no (.t 25) (c9 100)),O3 4 26]
def x_r01_History : XFunc := { np := 2, res := [.t 4], body :=
 (.seq (.reg K5i) (.seq (.seq (.reg K5j) (.block 0 (.loop K0r))) (.seq (.reg K5o) .ret))) }
def y4z : List XO := [O1 2 (.boxF (.t 0)),O1 3 (.boxF (.t 1)),O1 4 (.alloc [(.int .i64 0), (.int .i64 0)]),O1 5 (.alloc [(.int .i64 0), (.int .i64 0)]),O1 6 (.mv (c9 0))]
def y8p : List XO := [O1 9 (.load true 6 (.tf 2)),O1 10 (.load true 4 (.tf 3)),O1 11 (.call "newel/drive.checkStop" [.t 9, .t 10]),O3 6 11]
def y41 : List XO := [O3 12 6,O1 13 (.bin .neq .no (.t 12) (c9 0))]
def y42 : List XO := [O6 14 2 4,O6 15 2 5,O3 16 6,O2 (.store 2 (.t 4) (.t 14)),O2 (.store 2 (.t 5) (.t 15)),O3 6 16]
def y8q : List XO := [O1 17 (.load true 6 (.tf 2)),O1 18 (.load true 4 (.tf 3)),O1 19 (.call "newel/drive.run" [.t 17, .t 18, (.c (.bool true))]),O1 20 (.load true 6 (.tf 2)),O1 21 (.load true 4 (.tf 3)),O1 22 (.call "newel/drive.run" [.t 20, .t 21, (.c (.bool false))]),O1 7 (.alloc [(.int .i64 0), (.slice none 0 0), (.bool false)]),O1 8 (.alloc [(.int .i64 0), (.slice none 0 0), (.bool false)]),O2 (.store 3 (.t 7) (.t 19)),O2 (.store 3 (.t 8) (.t 22))]
def y44 : List XO := [O5 23 2 7,O4 24 1 23,O1 25 (.un .not (.t 24))]
def y45 : List XO := [O6 26 2 4,O6 27 2 5,O2 (.store 2 (.t 4) (.t 26)),O2 (.store 2 (.t 5) (.t 27)),O1 6 (.mv (c9 12))]
def y46 : List XO := [O1 28 (.fldA 0 (.tf 8)),O1 29 (.load false 1 (.tf 28)),O1 30 (.fldA 0 (.tf 7)),O1 31 (.load false 1 (.tf 30)),O1 32 (.build [(.int .i64 0), (.int .i64 0)] [(0, 1, (.t 29)), (1, 1, (.t 31))]),O1 33 (.fldA 1 (.tf 8)),O1 34 (.load false 1 (.tf 33)),O8 35 34,O1 36 (.fldA 1 (.tf 7)),O1 37 (.load false 1 (.tf 36)),O8 38 37,O1 39 (.build [(.int .i64 0), (.int .i64 0)] [(0, 1, (.t 35)), (1, 1, (.t 38))]),O2 (.store 2 (.t 4) (.t 32)),O2 (.store 2 (.t 5) (.t 39)),O1 6 (.mv (c9 0))]
def x_drive_Distance : XFunc := { np := 2, res := [.cell 4 true 2, .cell 5 true 2, .t 6], body :=
 (.seq (.reg y4z) (.seq (.seq (.reg y8p) (.seq (.reg y41) (.cond (.t 13) (.seq (.regW y42 [(1, 3)]) .ret) .skip))) (.seq (.reg y8q) (.seq (.seq (.reg y44) (.cond (.t 25) (.seq (.regW y45 [(1, 2)]) .ret) .skip)) (.seq (.seq .ghost (.seq .ghost (.reg y46))) .ret))))) }
def K3d : List XO := [O1 3 (.boxF (.t 0)),O1 4 (.boxF (.t 1)),O1 6 (.mv (.c (.slice none 0 0))),O1 7 (.mv (c9 0))]
def K3e : List XO := [O1 13 (.load true 6 (.tf 3)),O1 14 (.load true 4 (.tf 4)),O1 15 (.call "newel/drive.checkStop" [.t 13, .t 14]),O3 8 15]
def K3j : List XO := [O3 16 8,O1 17 (.bin .neq .no (.t 16) (c9 0))]
def K3k : List XO := [O3 18 8,O1 6 (.mv (.c (.slice none 0 0))),O3 7 18]
def K3l : List XO := [O3 19 2,O8 20 19,O1 21 (.bin .gtr .no (.t 20) (c9 100)),O3 22 21,O9 23 22 false (.mv (.t 2)),O9 24 22 false (.mkfn "newel/drive.Play$1" [] [.t 4]),O9 25 22 false (.call "slices.ContainsFunc[[]int,int]" [.t 23, .t 24]),O1 26 (.pick (.t 22) (.c (.bool true)) (.t 25))]
def K3m : List XO := [O1 6 (.mv (.c (.slice none 0 0))),O1 7 (.mv (c9 1))]
def K3n : List XO := [O1 27 (.load true 6 (.tf 3)),O1 28 (.load true 4 (.tf 4)),O1 29 (.fldA 0 (.tf 4)),O1 30 (.load false 1 (.tf 29)),O1 31 (.build [(.bool false), (.int .i64 0), (.int .i64 0), (.int .i64 0), (.int .i64 0), (.slice none 0 0), (.int .i64 0), (.int .i64 0), (.int .i64 0), (.int .i64 0), (.int .i64 0), (.int .i64 0)] [(0, 6, (.t 27)), (6, 4, (.t 28)), (10, 1, (.t 30))]),O1 9 (.alloc [(.bool false), (.int .i64 0), (.int .i64 0), (.int .i64 0), (.int .i64 0), (.slice none 0 0), (.int .i64 0), (.int .i64 0), (.int .i64 0), (.int .i64 0), (.int .i64 0), (.int .i64 0)]),O2 (.store 12 (.t 9) (.t 31))]
def K3o : List XO := [O1 10 (.mv (.c (.slice none 0 0)))]
def K3p : List XO := [O3 32 2,O8 33 32,O1 34 (.mv (c9 0))]
def K3q : List XO := [O1 35 (.bin .lss .no (.t 34) (.t 33))]
def K3f : List XO := [O7 36 1 32 34,O4 37 1 36,O3 12 37]
def K3g : List XO := [O3 38 10,O3 39 12,O1 40 (.callw "(*newel/drive.motion).with" [.t 9, .t 39]),O1 41 (.bsl 1 [.t 40]),O1 42 (.app 1 8 (.t 38) (.t 41)),O3 10 42]
def K3h : List XO := [O1 43 (.bin .add .no (.t 34) (c9 1)),O3 34 43]
def K0n : XCode :=
 (.seq (.reg K3q) (.seq (.cond (.t 35) .skip (.exit 0)) (.seq (.block 1 (.seq (.reg K3f) (.reg K3g))) (.reg K3h))))
def K3i : List XO := [O3 44 10,O3 6 44,O1 7 (.mv (c9 0))]
def x_drive_Play : XFunc := { np := 3, res := [.t 6, .t 7], body :=
 (.seq (.reg K3d) (.seq (.seq (.reg K3e) (.seq (.reg K3j) (.cond (.t 17) (.seq (.reg K3k) .ret) .skip))) (.seq (.seq (.reg K3l) (.cond (.t 26) (.seq (.reg K3m) .ret) .skip)) (.seq (.reg K3n) (.seq (.reg K3o) (.seq (.seq (.reg K3p) (.block 0 (.loop K0n))) (.seq (.reg K3i) .ret))))))) }
def K4t : List XO := [O1 2 (.alloc [(.slice none 0 0), (.slice none 0 0), (.slice none 0 0), (.slice none 0 0), (.slice none 0 0)])]
def K4u : List XO := [O1 6 (.build [(.int .i64 0), (.int .i64 0), (.int .i64 0), (.bool false)] [(0, 1, (c9 1))]),O1 3 (.alloc [(.int .i64 0), (.int .i64 0), (.int .i64 0), (.bool false)]),O2 (.store 4 (.t 3) (.t 6))]
def K4v : List XO := [O6 7 4 3,O1 4 (.alloc [(.int .i64 0), (.int .i64 0), (.int .i64 0), (.bool false)]),O2 (.store 4 (.t 4) (.t 7))]
def K4w : List XO := [O5 8 3 4,O2 (.store 1 (.t 8) (.c (.bool true)))]
def K4x : List XO := [O3 9 0,O1 10 (.build [(.int .i64 0), (.int .i64 0), (.int .i64 0), (.bool false)] [(0, 1, (c9 2)), (2, 1, (.t 9))]),O1 5 (.alloc [(.int .i64 0), (.int .i64 0), (.int .i64 0), (.bool false)]),O2 (.store 4 (.t 5) (.t 10))]
def K4y : List XO := [O1 11 (.bsl 1 [(.c (.string (ByteArray.mk #[109, 111, 118, 101, 115])))]),O1 12 (.bsl 1 [(.c (.string (ByteArray.mk #[97, 108, 97, 114, 109])))]),O1 13 (.build [(.string (ByteArray.mk #[])), (.int .i64 0)] [(0, 1, (.c (.string (ByteArray.mk #[110])))), (1, 1, (c9 7))]),O1 14 (.bsl 2 [.t 13]),O1 15 (.build [(.string (ByteArray.mk #[])), (.int .i64 0)] [(0, 1, (.c (.string (ByteArray.mk #[119, 97, 116, 99, 104]))))]),O1 16 (.build [(.string (ByteArray.mk #[])), (.int .i64 0)] [(0, 1, (.c (.string (ByteArray.mk #[108, 97, 116, 101])))), (1, 1, (c9 1))]),O1 17 (.bsl 2 [.t 15, .t 16]),O6 18 4 3,O6 19 4 5,O1 20 (.bsl 4 [.t 18, .t 19]),O1 21 (.bsl 1 [.t 20]),O1 22 (.build [(.int .i64 0), (.int .i64 0), (.slice none 0 0), (.slice none 0 0)] [(0, 1, (c9 0)), (1, 1, (c9 1)), (2, 1, (.t 21))]),O6 23 4 3,O1 24 (.bsl 4 [.t 23]),O1 25 (.bsl 1 [.t 24]),O1 26 (.build [(.int .i64 0), (.int .i64 0)] [(0, 1, (c9 2))]),O1 27 (.bsl 2 [.t 26]),O1 28 (.build [(.int .i64 0), (.int .i64 0), (.slice none 0 0), (.slice none 0 0)] [(0, 1, (c9 0)), (1, 1, (c9 0)), (2, 1, (.t 25)), (3, 1, (.t 27))]),O6 29 4 4,O1 30 (.bsl 4 [.t 29]),O1 31 (.bsl 1 [.t 30]),O1 32 (.build [(.int .i64 0), (.int .i64 0)] [(0, 1, (c9 1))]),O1 33 (.bsl 2 [.t 32]),O1 34 (.build [(.int .i64 0), (.int .i64 0), (.slice none 0 0), (.slice none 0 0)] [(0, 1, (c9 0)), (1, 1, (c9 0)), (2, 1, (.t 31)), (3, 1, (.t 33))]),O1 35 (.bsl 4 [.t 22, .t 28, .t 34]),O1 36 (.build [(.slice none 0 0), (.slice none 0 0), (.slice none 0 0), (.slice none 0 0), (.slice none 0 0)] [(0, 1, (.t 11)), (1, 1, (.t 12)), (2, 1, (.t 14)), (3, 1, (.t 17)), (4, 1, (.t 35))]),O2 (.store 5 (.t 2) (.t 36))]
def x_neweltop_watch : XFunc := { np := 1, res := [.cell 2 true 5], body :=
 (.seq (.reg K4t) (.seq (.reg K4u) (.seq (.reg K4v) (.seq (.reg K4w) (.seq (.reg K4x) (.seq (.reg K4y) .ret)))))) }
def r4m : List XO := [O1 2 (.boxF (.t 0)),O1 4 (.mv (.c (.slice none 0 0))),O1 5 (.mv (c9 0))]
def r4n : List XO := [O1 12 (.load true 5 (.tf 2)),O1 13 (.call "newel/control.Check" [.t 12]),O3 6 13]
def r4w : List XO := [O3 14 6,O1 15 (.bin .neq .no (.t 14) (c9 0))]
def r4x : List XO := [O3 16 6,O1 4 (.mv (.c (.slice none 0 0))),O3 5 16]
def r4y : List XO := [O3 17 1,O8 18 17,O1 19 (.bin .gtr .no (.t 18) (c9 200))]
def r4z : List XO := [O1 4 (.mv (.c (.slice none 0 0))),O1 5 (.mv (c9 2))]
def r40 : List XO := [O1 20 (.load true 5 (.tf 2)),O1 21 (.call "newel/control.of" [.t 20]),O1 7 (.alloc [(.slice none 0 0), (.slice none 0 0), (.slice none 0 0), (.slice none 0 0), (.slice none 0 0)]),O2 (.store 5 (.t 7) (.t 21))]
def r41 : List XO := [O1 8 (.alloc [(.int .i64 0), (.int .i64 0), (.int .i64 0)])]
def r42 : List XO := [O1 9 (.mv (.c (.slice none 0 0)))]
def r43 : List XO := [O3 22 1,O8 23 22,O1 24 (.mv (c9 0))]
def r4o : List XO := [O1 25 (.bin .lss .no (.t 24) (.t 23))]
def r4p : List XO := [O7 26 1 22 24,O4 27 1 26,O3 11 27]
def r4q : List XO := [O5 28 0 7,O6 29 5 28,O3 30 11,O1 31 (.call "(newel/situation.Plant).Input" [.t 29, .t 30]),O1 32 (.un .not (.t 31))]
def r4r : List XO := [O1 4 (.mv (.c (.slice none 0 0))),O1 5 (.mv (c9 1))]
def r4s : List XO := [O5 33 0 7,O6 34 5 33,O6 35 3 8,O3 36 11,O1 37 (.call "(newel/situation.Plant).Step" [.t 34, .t 35, .t 36]),O2 (.store 3 (.t 8) (.t 37))]
def r4t : List XO := [O3 38 9,O6 39 3 8,O1 40 (.bsl 3 [.t 39]),O1 41 (.app 3 24 (.t 38) (.t 40)),O3 9 41]
def r4u : List XO := [O1 42 (.bin .add .no (.t 24) (c9 1)),O3 24 42]
def r3c : XCode :=
 (.seq (.reg r4o) (.seq (.cond (.t 25) .skip (.exit 0)) (.seq (.block 1 (.seq (.reg r4p) (.seq (.seq (.reg r4q) (.cond (.t 32) (.seq (.reg r4r) .ret) .skip)) (.seq (.reg r4s) (.reg r4t))))) (.reg r4u))))
def r4v : List XO := [O3 43 9,O3 4 43,O1 5 (.mv (c9 0))]
def x_control_Run : XFunc := { np := 2, res := [.t 4, .t 5], body :=
 (.seq (.reg r4m) (.seq (.seq (.reg r4n) (.seq (.reg r4w) (.cond (.t 15) (.seq (.reg r4x) .ret) .skip))) (.seq (.seq (.reg r4y) (.cond (.t 19) (.seq (.reg r4z) .ret) .skip)) (.seq (.reg r40) (.seq (.reg r41) (.seq (.reg r42) (.seq (.seq (.reg r43) (.block 0 (.loop r3c))) (.seq (.reg r4v) .ret)))))))) }
def m0f : List XO := [O1 3 (.boxF (.t 0)),O1 6 (.mv (.c (.slice none 0 0))),O1 7 (.mv (.c (.bool false))),O1 8 (.mv (c9 0))]
def m0g : List XO := [O1 9 (.load true 5 (.tf 3)),O3 10 1,O3 11 2,O1 12 (.bsl 1 [.t 10, .t 11]),O1 13 (.call "newel/control.check" [.t 9, .t 12]),O3 8 13]
def m0h : List XO := [O3 14 8,O1 15 (.bin .neq .no (.t 14) (c9 0))]
def m0i : List XO := [O3 16 8,O1 6 (.mv (.c (.slice none 0 0))),O1 7 (.mv (.c (.bool false))),O3 8 16]
def m0j : List XO := [O1 18 (.load true 5 (.tf 3)),O1 19 (.call "newel/control.of" [.t 18]),O3 20 1,O3 21 2,O1 22 (.call "(newel/control.plant).breach" [.t 19, .t 20, .t 21, (.f "newel/control.same")]),O3 17 22,O1 23 (.ext (.t 17) 0),O1 24 (.ext (.t 17) 1),O3 6 23,O3 7 24]
def m0k : List XO := [O3 25 6,O3 26 7,O3 6 25,O3 7 26,O1 8 (.mv (c9 0))]
def x_control_Breach : XFunc := { np := 3, res := [.t 6, .t 7, .t 8], body :=
 (.seq (.reg m0f) (.seq (.seq (.reg m0g) (.seq (.reg m0h) (.cond (.t 15) (.seq (.reg m0i) .ret) .skip))) (.seq (.reg m0j) (.seq (.reg m0k) .ret)))) }
def K49 : List XO := [O1 1 (.boxF (.t 0)),O1 2 (.mv (c9 0))]
def K5a : List XO := [O1 4 (.fldA 1 (.tf 1)),O1 5 (.load false 1 (.tf 4)),O1 6 (.call "newel/newelref01.within" [.t 5, (c9 1), (c9 100000)]),O1 7 (.un .not (.t 6)),O3 8 7,O9 9 8 false (.fldA 2 (.tf 1)),O9 10 8 false (.load false 1 (.tf 9)),O9 11 8 false (.call "newel/newelref01.within" [.t 10, (c9 0), (c9 100)]),O9 12 8 false (.un .not (.t 11)),O1 13 (.pick (.t 8) (.c (.bool true)) (.t 12)),O3 14 13,O9 15 14 false (.fldA 3 (.tf 1)),O9 16 14 false (.load false 1 (.tf 15)),O9 17 14 false (.call "newel/newelref01.within" [.t 16, (c9 0), (c9 10000000)]),O9 18 14 false (.un .not (.t 17)),O1 19 (.pick (.t 14) (.c (.bool true)) (.t 18)),O3 20 19,O9 21 20 false (.fldA 4 (.tf 1)),O9 22 20 false (.load false 1 (.tf 21)),O9 23 20 false (.call "newel/newelref01.within" [.t 22, (c9 0), (c9 10000000)]),O9 24 20 false (.un .not (.t 23)),O1 25 (.pick (.t 20) (.c (.bool true)) (.t 24)),O3 26 25,O9 27 26 false (.fldA 5 (.tf 1)),O9 28 26 false (.load false 1 (.tf 27)),O9 29 26 false (.len false (.t 28)),O9 30 26 false (.bin .gtr .no (.t 29) (c9 3)),O1 31 (.pick (.t 26) (.c (.bool true)) (.t 30))]
def K5b : List XO := [O1 2 (.mv (c9 10))]
def K5c : List XO := [O1 3 (.mv (c9 0))]
def K5d : List XO := [O3 32 3,O1 33 (.fldA 5 (.tf 1)),O1 34 (.load false 1 (.tf 33)),O8 35 34,O1 36 (.bin .lss .no (.t 32) (.t 35))]
def K5e : List XO := [O1 39 (.fldA 5 (.tf 1)),O1 40 (.load false 1 (.tf 39)),O3 41 3,O7 42 2 40 41,O5 43 0 42,O4 44 1 43,O1 45 (.call "newel/newelref01.within" [.t 44, (c9 0), (c9 10000000)]),O1 46 (.un .not (.t 45)),O3 47 46,O9 48 47 false (.fldA 5 (.tf 1)),O9 49 47 false (.load false 1 (.tf 48)),O9 50 47 false (.mv (.t 3)),O9 51 47 false (.ixA 2 (.t 49) (.t 50)),O9 52 47 false (.fldA 1 (.t 51)),O9 53 47 false (.load false 1 (.t 52)),O9 54 47 false (.call "newel/newelref01.within" [.t 53, (c9 0), (c9 20)]),O9 55 47 false (.un .not (.t 54)),O1 56 (.pick (.t 47) (.c (.bool true)) (.t 55))]
def K5f : List XO := [O1 2 (.mv (c9 10))]
def K5g : List XO := [O3 37 3,O1 38 (.bin .add .no (.t 37) (c9 1)),O3 3 38]
def K0q : XCode :=
 (.seq (.seq (.reg K5d) (.cond (.t 36) .skip (.exit 0))) (.seq (.block 1 (.seq (.reg K5e) (.cond (.t 56) (.seq (.reg K5f) .ret) .skip))) (.reg K5g)))
def K5h : List XO := [O1 2 (.mv (c9 0))]
def x_r01_Check : XFunc := { np := 1, res := [.t 2], body :=
 (.seq (.reg K49) (.seq (.seq (.reg K5a) (.cond (.t 31) (.seq (.reg K5b) .ret) .skip)) (.seq (.seq (.reg K5c) (.block 0 (.loop K0q))) (.seq (.reg K5h) .ret)))) }
def K5p : List XO := [O1 6 (.mv (.c (.bool false)))]
def K5q : List XO := [O3 7 0,O3 8 1,O1 9 (.bin .geq .no (.t 7) (.t 8)),O3 10 9,O9 11 10 true (.mv (.t 0)),O9 12 10 true (.mv (.t 2)),O9 13 10 true (.bin .leq .no (.t 11) (.t 12)),O1 14 (.pick (.t 10) (.t 13) (.c (.bool false))),O3 6 14]
def x_r01_within : XFunc := { np := 3, res := [.t 6], body :=
 (.seq (.reg K5p) (.seq (.reg K5q) .ret)) }
def y5b : List XO := [O1 2 (.boxF (.t 0)),O1 3 (.boxF (.t 1)),O1 4 (.mv (c9 0))]
def y5c : List XO := [O1 6 (.load true 6 (.tf 2)),O1 7 (.call "newel/drive.Check" [.t 6]),O3 5 7]
def y5d : List XO := [O3 8 5,O1 9 (.bin .neq .no (.t 8) (c9 0))]
def y5e : List XO := [O3 10 5,O3 4 10]
def y5f : List XO := [O1 11 (.fldA 0 (.tf 3)),O1 12 (.load false 1 (.tf 11)),O1 13 (.call "newel/drive.to" [(c9 1000)]),O1 14 (.call "newel/drive.in" [.t 12, .t 13]),O1 15 (.un .not (.t 14)),O3 16 15,O9 17 16 false (.fldA 1 (.tf 3)),O9 18 16 false (.fldA 0 (.tf 17)),O9 19 16 false (.load false 1 (.tf 18)),O9 20 16 false (.bin .lss .no (.t 19) (c9 0)),O1 21 (.pick (.t 16) (.c (.bool true)) (.t 20)),O3 22 21,O9 23 22 false (.fldA 1 (.tf 3)),O9 24 22 false (.fldA 0 (.tf 23)),O9 25 22 false (.load false 1 (.tf 24)),O9 26 22 false (.fldA 1 (.tf 3)),O9 27 22 false (.fldA 1 (.tf 26)),O9 28 22 false (.load false 1 (.tf 27)),O9 29 22 false (.bin .gtr .no (.t 25) (.t 28)),O1 30 (.pick (.t 22) (.c (.bool true)) (.t 29)),O3 31 30,O9 32 31 false (.fldA 1 (.tf 3)),O9 33 31 false (.fldA 1 (.tf 32)),O9 34 31 false (.load false 1 (.tf 33)),O9 35 31 false (.bin .gtr .no (.t 34) (c9 100000)),O1 36 (.pick (.t 31) (.c (.bool true)) (.t 35)),O3 37 36,O9 38 37 false (.fldA 3 (.tf 3)),O9 39 37 false (.load false 1 (.tf 38)),O9 40 37 false (.bin .lss .no (.t 39) (c9 0)),O1 41 (.pick (.t 37) (.c (.bool true)) (.t 40)),O3 42 41,O9 43 42 false (.fldA 3 (.tf 3)),O9 44 42 false (.load false 1 (.tf 43)),O9 45 42 false (.fldA 5 (.tf 2)),O9 46 42 false (.load false 1 (.tf 45)),O9 47 42 false (.len false (.t 46)),O9 48 42 false (.bin .shl .no (c9 1) (.t 47)),O9 49 42 false (.bin .geq .no (.t 44) (.t 48)),O1 50 (.pick (.t 42) (.c (.bool true)) (.t 49))]
def y5g : List XO := [O1 4 (.mv (c9 11))]
def y5h : List XO := [O1 4 (.mv (c9 0))]
def x_drive_checkStop : XFunc := { np := 2, res := [.t 4], body :=
 (.seq (.reg y5b) (.seq (.seq (.reg y5c) (.seq (.reg y5d) (.cond (.t 9) (.seq (.reg y5e) .ret) .skip))) (.seq (.seq (.reg y5f) (.cond (.t 50) (.seq (.reg y5g) .ret) .skip)) (.seq (.reg y5h) .ret)))) }
def y5p : List XO := [O1 3 (.boxF (.t 0)),O1 4 (.boxF (.t 1)),O1 6 (.alloc [(.int .i64 0), (.slice none 0 0), (.bool false)])]
def y5q : List XO := [O1 9 (.load true 6 (.tf 3)),O1 10 (.load true 4 (.tf 4)),O1 11 (.fldA 0 (.tf 4)),O1 12 (.load false 1 (.tf 11)),O1 13 (.build [(.bool false), (.int .i64 0), (.int .i64 0), (.int .i64 0), (.int .i64 0), (.slice none 0 0), (.int .i64 0), (.int .i64 0), (.int .i64 0), (.int .i64 0), (.int .i64 0), (.int .i64 0)] [(0, 6, (.t 9)), (6, 4, (.t 10)), (10, 1, (.t 12))]),O1 7 (.alloc [(.bool false), (.int .i64 0), (.int .i64 0), (.int .i64 0), (.int .i64 0), (.slice none 0 0), (.int .i64 0), (.int .i64 0), (.int .i64 0), (.int .i64 0), (.int .i64 0), (.int .i64 0)]),O2 (.store 12 (.t 7) (.t 13))]
def y5r : List XO := [O1 14 (.fldA 0 (.tf 4)),O1 15 (.load false 1 (.tf 14)),O1 16 (.bin .eql .no (.t 15) (c9 0)),O1 17 (.build [(.int .i64 0), (.slice none 0 0), (.bool false)] [(2, 1, (.t 16))]),O1 8 (.alloc [(.int .i64 0), (.slice none 0 0), (.bool false)]),O2 (.store 3 (.t 8) (.t 17))]
def y5s : List XO := [O5 18 2 8,O4 19 1 18,O1 20 (.un .not (.t 19)),O3 21 20,O9 22 21 true (.fldA 11 (.t 7)),O9 23 21 true (.load false 1 (.t 22)),O9 24 21 true (.bin .lss .no (.t 23) (c9 100)),O1 25 (.pick (.t 21) (.t 24) (.c (.bool false)))]
def y5t : List XO := [O5 26 1 8,O4 27 1 26,O3 28 2,O1 29 (.callw "(*newel/drive.motion).extreme" [.t 7, .t 28]),O1 30 (.bsl 1 [.t 29]),O1 31 (.app 1 8 (.t 27) (.t 30)),O5 32 1 8,O2 (.store 1 (.t 32) (.t 31))]
def y5u : List XO := [O5 33 0 8,O4 34 1 33,O5 35 10 7,O4 36 1 35,O1 37 (.bin .add .no (.t 34) (.t 36)),O5 38 0 8,O2 (.store 1 (.t 38) (.t 37))]
def y5v : List XO := [O5 39 10 7,O4 40 1 39,O1 41 (.bin .eql .no (.t 40) (c9 0)),O5 42 2 8,O2 (.store 1 (.t 42) (.t 41))]
def y5x : XCode :=
 (.seq (.seq (.reg y5s) (.cond (.t 25) .skip (.exit 0))) (.block 1 (.seq (.regW y5t [(1, 3), (0, 3)]) (.seq (.reg y5u) (.reg y5v)))))
def y5w : List XO := [O6 43 3 8,O2 (.store 3 (.t 6) (.t 43))]
def x_drive_run : XFunc := { np := 3, res := [.cell 6 true 3], body :=
 (.seq (.reg y5p) (.seq (.reg y5q) (.seq (.reg y5r) (.seq (.block 0 (.loop y5x)) (.seq (.reg y5w) .ret))))) }
def o3v : List XO := [O1 4 (.mv (.c (.bool false)))]
def o3w : List XO := [O3 5 0,O3 6 1,O1 7 (.call "slices.IndexFunc[[]int,int]" [.t 5, .t 6]),O1 8 (.bin .geq .no (.t 7) (c9 0)),O3 4 8]
def x_slices_ContainsFunc___int_int_ : XFunc := { np := 2, res := [.t 4], body :=
 (.seq (.reg o3v) (.seq (.reg o3w) .ret)) }
def K3b : List XO := [O1 3 (.mv (.c (.bool false)))]
def K3c : List XO := [O3 4 0,O5 5 1 1,O6 6 2 5,O1 7 (.call "newel/drive.in" [.t 4, .t 6]),O1 8 (.un .not (.t 7)),O3 3 8]
def x_drive_PlayD1 : XFunc := { np := 2, res := [.t 3], body :=
 (.seq (.reg K3b) (.seq (.reg K3c) .ret)) }
def y5n : List XO := [O1 3 (.boxF (.t 1)),O1 4 (.mv (.c (.bool false)))]
def y5o : List XO := [O1 5 (.fldA 0 (.tf 3)),O1 6 (.load false 1 (.tf 5)),O3 7 0,O1 8 (.bin .leq .no (.t 6) (.t 7)),O3 9 8,O9 10 9 true (.mv (.t 0)),O9 11 9 true (.fldA 1 (.tf 3)),O9 12 9 true (.load false 1 (.tf 11)),O9 13 9 true (.bin .leq .no (.t 10) (.t 12)),O1 14 (.pick (.t 9) (.t 13) (.c (.bool false))),O3 4 14]
def x_drive_in : XFunc := { np := 2, res := [.t 4], body :=
 (.seq (.reg y5n) (.seq (.reg y5o) .ret)) }
def y1d : List XO := [O1 4 (.mv (c9 0))]
def y1e : List XO := [O3 5 0,O3 6 0,O1 7 (.nilck (.t 6)),O5 8 0 7,O6 9 6 8,O3 10 0,O1 11 (.nilck (.t 10)),O5 12 10 11,O4 13 1 12,O3 14 1,O3 15 0,O1 16 (.call "(*newel/drive.motion).grip" [.t 15]),O1 17 (.call "newel/drive.tick" [.t 9, .t 13, .t 14, .t 16]),O1 18 (.nilck (.t 5)),O5 19 10 18,O2 (.store 1 (.t 19) (.t 17))]
def y1f : List XO := [O3 20 0,O1 21 (.nilck (.t 20)),O5 22 11 21,O4 23 1 22,O1 24 (.bin .add .no (.t 23) (c9 1)),O1 25 (.nilck (.t 20)),O5 26 11 25,O2 (.store 1 (.t 26) (.t 24))]
def y1g : List XO := [O3 27 0,O1 28 (.nilck (.t 27)),O5 29 10 28,O4 30 1 29,O3 4 30]
def x___drive_motion__with : XFunc := { np := 2, res := [.t 4], body :=
 (.seq (.reg y1d) (.seq (.reg y1e) (.seq (.reg y1f) (.seq (.reg y1g) .ret)))) }
def m0l : List XO := [O1 1 (.boxF (.t 0)),O1 2 (.mv (c9 0))]
def m0m : List XO := [O1 3 (.load true 5 (.tf 1)),O1 4 (.call "newel/situation.Check" [.t 3]),O3 2 4]
def x_control_Check : XFunc := { np := 1, res := [.t 2], body :=
 (.seq (.reg m0l) (.seq (.reg m0m) .ret)) }
def m2z : List XO := [O1 1 (.boxF (.t 0)),O1 2 (.alloc [(.slice none 0 0), (.slice none 0 0), (.slice none 0 0), (.slice none 0 0), (.slice none 0 0)])]
def m20 : List XO := [O1 3 (.load true 5 (.tf 1)),O1 4 (.build [(.slice none 0 0), (.slice none 0 0), (.slice none 0 0), (.slice none 0 0), (.slice none 0 0)] [(0, 5, (.t 3))]),O1 5 (.build [(.slice none 0 0), (.slice none 0 0), (.slice none 0 0), (.slice none 0 0), (.slice none 0 0)] [(0, 5, (.t 4))]),O2 (.store 5 (.t 2) (.t 5))]
def x_control_of : XFunc := { np := 1, res := [.cell 2 true 5], body :=
 (.seq (.reg m2z) (.seq (.reg m20) .ret)) }
def p4b : List XO := [O1 2 (.boxF (.t 0)),O1 4 (.mv (.c (.bool false)))]
def p4c : List XO := [O3 5 1,O1 6 (.load true 5 (.tf 2)),O1 7 (.call "(newel/situation.Plant).All" [.t 6]),O1 8 (.bin .sub .no (.t 7) (c9 1)),O1 9 (.call "newel/situation.within" [.t 5, (c9 0), .t 8]),O3 4 9]
def x__situation_Plant__Input : XFunc := { np := 2, res := [.t 4], body :=
 (.seq (.reg p4b) (.seq (.reg p4c) .ret)) }
def l9h : List XO := [O1 3 (.boxF (.t 0)),O1 4 (.box (.t 1)),O1 6 (.alloc [(.int .i64 0), (.int .i64 0), (.int .i64 0)])]
def l9i : List XO := [O1 11 (.fldA 0 (.tf 3)),O1 12 (.fldA 4 (.tf 11)),O1 13 (.load false 1 (.tf 12)),O8 14 13,O1 15 (.mv (c9 0))]
def l9m : List XO := [O1 16 (.bin .lss .no (.t 15) (.t 14))]
def l9n : List XO := [O7 17 4 13 15,O6 18 4 17,O1 8 (.alloc [(.int .i64 0), (.int .i64 0), (.slice none 0 0), (.slice none 0 0)]),O2 (.store 4 (.t 8) (.t 18))]
def l9o : List XO := [O5 19 0 8,O4 20 1 19,O1 21 (.bin .neq .no (.t 20) (.c (.int .i64 (-1)))),O3 22 21,O9 23 22 true (.fldA 0 (.t 8)),O9 24 22 true (.load false 1 (.t 23)),O9 25 22 true (.fldA 0 (.t 4)),O9 26 22 true (.load false 1 (.t 25)),O9 27 22 true (.bin .neq .no (.t 24) (.t 26)),O1 28 (.pick (.t 22) (.t 27) (.c (.bool false))),O3 29 28,O9 30 29 false (.load true 5 (.tf 3)),O9 31 29 false (.fldA 2 (.t 8)),O9 32 29 false (.load false 1 (.t 31)),O9 33 29 false (.load true 3 (.t 4)),O9 34 29 false (.mv (.t 2)),O9 35 29 false (.call "(newel/situation.Plant).Holds" [.t 30, .t 32, .t 33, .t 34]),O9 36 29 false (.un .not (.t 35)),O1 37 (.pick (.t 29) (.c (.bool true)) (.t 36))]
def l9p : List XO := [O5 38 3 8,O4 39 1 38,O8 40 39,O1 41 (.mv (c9 0))]
def l9q : List XO := [O1 42 (.bin .lss .no (.t 41) (.t 40))]
def l9r : List XO := [O7 43 2 39 41,O6 44 2 43,O1 10 (.alloc [(.int .i64 0), (.int .i64 0)]),O2 (.store 2 (.t 10) (.t 44))]
def l9s : List XO := [O1 45 (.load true 5 (.tf 3)),O6 46 2 10,O1 47 (.callw "(newel/situation.Plant).set" [.t 45, .t 46, .t 4])]
def l9t : List XO := [O1 48 (.bin .add .no (.t 41) (c9 1)),O3 41 48]
def g36 : XCode :=
 (.seq (.reg l9q) (.seq (.cond (.t 42) .skip (.exit 2)) (.seq (.block 3 (.seq (.reg l9r) (.reg l9s))) (.reg l9t))))
def l9j : List XO := [O5 49 1 8,O4 50 1 49,O5 51 0 4,O2 (.store 1 (.t 51) (.t 50))]
def l9k : List XO := [O1 52 (.bin .add .no (.t 15) (c9 1)),O3 15 52]
def g37 : XCode :=
 (.seq (.reg l9m) (.seq (.cond (.t 16) .skip (.exit 0)) (.seq (.block 1 (.seq (.reg l9n) (.seq (.seq (.reg l9o) (.cond (.t 37) (.exit 1) .skip)) (.seq (.seq (.reg l9p) (.block 2 (.loop g36))) (.seq (.reg l9j) (.exit 0)))))) (.reg l9k))))
def l9l : List XO := [O6 53 3 4,O2 (.store 3 (.t 6) (.t 53))]
def x__situation_Plant__Step : XFunc := { np := 3, res := [.cell 6 true 3], body :=
 (.seq (.reg l9h) (.seq (.seq (.reg l9i) (.block 0 (.loop g37))) (.seq (.reg l9l) .ret))) }
def m2o : List XO := [O1 2 (.boxF (.t 0)),O1 4 (.mv (c9 0))]
def m2p : List XO := [O1 8 (.load true 5 (.tf 2)),O1 9 (.call "newel/control.Check" [.t 8]),O3 5 9]
def m2r : List XO := [O3 10 5,O1 11 (.bin .neq .no (.t 10) (c9 0))]
def m2s : List XO := [O3 12 5,O3 4 12]
def m2t : List XO := [O3 13 1,O8 14 13,O1 15 (.mv (c9 0))]
def m2u : List XO := [O1 16 (.bin .lss .no (.t 15) (.t 14))]
def m2v : List XO := [O7 17 1 13 15,O4 18 1 17,O3 7 18]
def m2w : List XO := [O1 19 (.load true 5 (.tf 2)),O3 20 7,O1 21 (.call "newel/situation.Asked" [.t 19, .t 20]),O1 22 (.un .not (.t 21))]
def m2x : List XO := [O1 4 (.mv (c9 42))]
def m2y : List XO := [O1 23 (.bin .add .no (.t 15) (c9 1)),O3 15 23]
def g4b : XCode :=
 (.seq (.reg m2u) (.seq (.cond (.t 16) .skip (.exit 0)) (.seq (.block 1 (.seq (.reg m2v) (.seq (.reg m2w) (.cond (.t 22) (.seq (.reg m2x) .ret) .skip)))) (.reg m2y))))
def m2q : List XO := [O1 4 (.mv (c9 0))]
def x_control_check : XFunc := { np := 2, res := [.t 4], body :=
 (.seq (.reg m2o) (.seq (.seq (.reg m2p) (.seq (.reg m2r) (.cond (.t 11) (.seq (.reg m2s) .ret) .skip))) (.seq (.seq (.reg m2t) (.block 0 (.loop g4b))) (.seq (.reg m2q) .ret)))) }
def J4x : List XO := [O1 4 (.boxF (.t 0)),O1 6 (.boxF (.t 2)),O1 8 (.mv (.c (.slice none 0 0))),O1 9 (.mv (.c (.bool false)))]
def l75 : List XO := [O1 11 (.load true 5 (.tf 4)),O3 12 1,O3 13 3,O1 14 (.call "(newel/control.plant).explore" [.t 11, .t 12, .t 13]),O1 10 (.alloc [(.pointer none)]),O2 (.store 1 (.t 10) (.t 14))]
def l76 : List XO := [O4 15 1 10,O1 16 (.mkfn "(newel/control.plant).breach$1" [] [.t 4, .t 6, .t 10]),O1 17 (.call "(*newel/control.walk).first" [.t 15, .t 16]),O1 18 (.ext (.t 17) 0),O1 19 (.ext (.t 17) 1),O3 8 18,O3 9 19]
def x__control_plant__breach : XFunc := { np := 4, res := [.t 8, .t 9], body :=
 (.seq (.reg J4x) (.seq (.reg l75) (.seq (.seq .ghost (.reg l76)) .ret))) }
def m21 : List XO := [O1 2 (.mv (c9 0))]
def m22 : List XO := [O3 3 0,O3 2 3]
def x_control_same : XFunc := { np := 1, res := [.t 2], body :=
 (.seq (.reg m21) (.seq (.reg m22) .ret)) }
def y4n : List XO := [O1 1 (.boxF (.t 0)),O1 2 (.mv (c9 0))]
def y4o : List XO := [O1 3 (.mv (.f "newel/drive.Check$1"))]
def y4q : List XO := [O1 6 (.fldA 1 (.tf 1)),O1 7 (.load false 1 (.tf 6)),O1 8 (.bin .lss .no (.t 7) (c9 1)),O3 9 8,O9 10 9 false (.fldA 1 (.tf 1)),O9 11 9 false (.load false 1 (.tf 10)),O9 12 9 false (.bin .gtr .no (.t 11) (c9 100000)),O1 13 (.pick (.t 9) (.c (.bool true)) (.t 12)),O3 14 13,O9 15 14 false (.fldA 2 (.tf 1)),O9 16 14 false (.load false 1 (.tf 15)),O9 17 14 false (.call "newel/drive.to" [(c9 100)]),O9 18 14 false (.call "newel/drive.in" [.t 16, .t 17]),O9 19 14 false (.un .not (.t 18)),O1 20 (.pick (.t 14) (.c (.bool true)) (.t 19)),O3 21 20,O9 22 21 false (.fldA 3 (.tf 1)),O9 23 21 false (.load false 1 (.tf 22)),O9 24 21 false (.call "newel/drive.to" [(c9 10000000)]),O9 25 21 false (.call "newel/drive.in" [.t 23, .t 24]),O9 26 21 false (.un .not (.t 25)),O1 27 (.pick (.t 21) (.c (.bool true)) (.t 26)),O3 28 27,O9 29 28 false (.fldA 4 (.tf 1)),O9 30 28 false (.load false 1 (.tf 29)),O9 31 28 false (.call "newel/drive.to" [(c9 10000000)]),O9 32 28 false (.call "newel/drive.in" [.t 30, .t 31]),O9 33 28 false (.un .not (.t 32)),O1 34 (.pick (.t 28) (.c (.bool true)) (.t 33)),O3 35 34,O9 36 35 false (.fldA 5 (.tf 1)),O9 37 35 false (.load false 1 (.tf 36)),O9 38 35 false (.len false (.t 37)),O9 39 35 false (.bin .gtr .no (.t 38) (c9 3)),O1 40 (.pick (.t 35) (.c (.bool true)) (.t 39))]
def y4r : List XO := [O1 2 (.mv (c9 10))]
def y4s : List XO := [O1 41 (.fldA 5 (.tf 1)),O1 42 (.load false 1 (.tf 41)),O8 43 42,O1 44 (.mv (c9 0))]
def y4t : List XO := [O1 45 (.bin .lss .no (.t 44) (.t 43))]
def y4u : List XO := [O7 46 2 42 44,O6 47 2 46,O1 5 (.alloc [(.int .i64 0), (.int .i64 0)]),O2 (.store 2 (.t 5) (.t 47))]
def y4v : List XO := [O3 48 3,O6 49 2 5,O1 50 (.callv (.t 48) [.t 49]),O1 51 (.un .not (.t 50))]
def y4w : List XO := [O1 2 (.mv (c9 10))]
def y4x : List XO := [O1 52 (.bin .add .no (.t 44) (c9 1)),O3 44 52]
def y4y : XCode :=
 (.seq (.reg y4t) (.seq (.cond (.t 45) .skip (.exit 0)) (.seq (.block 1 (.seq (.reg y4u) (.seq (.reg y4v) (.cond (.t 51) (.seq (.reg y4w) .ret) .skip)))) (.reg y4x))))
def y4p : List XO := [O1 2 (.mv (c9 0))]
def x_drive_Check : XFunc := { np := 1, res := [.t 2], body :=
 (.seq (.reg y4n) (.seq (.reg y4o) (.seq (.seq (.reg y4q) (.cond (.t 40) (.seq (.reg y4r) .ret) .skip)) (.seq (.seq (.reg y4s) (.block 0 (.loop y4y))) (.seq (.reg y4p) .ret))))) }
def y58 : List XO := [O1 2 (.alloc [(.int .i64 0), (.int .i64 0)])]
def y59 : List XO := [O3 3 0,O1 4 (.build [(.int .i64 0), (.int .i64 0)] [(1, 1, (.t 3))]),O2 (.store 2 (.t 2) (.t 4))]
def x_drive_to : XFunc := { np := 1, res := [.cell 2 true 2], body :=
 (.seq (.reg y58) (.seq (.reg y59) .ret)) }
def y0w : List XO := [O1 4 (.mv (c9 0))]
def y0x : List XO := [O3 9 0,O1 10 (.nilck (.t 9)),O6 11 12 10,O3 12 0,O1 13 (.nilck (.t 12)),O6 14 12 13,O1 5 (.alloc [(.bool false), (.int .i64 0), (.int .i64 0), (.int .i64 0), (.int .i64 0), (.slice none 0 0), (.int .i64 0), (.int .i64 0), (.int .i64 0), (.int .i64 0), (.int .i64 0), (.int .i64 0)]),O1 6 (.alloc [(.bool false), (.int .i64 0), (.int .i64 0), (.int .i64 0), (.int .i64 0), (.slice none 0 0), (.int .i64 0), (.int .i64 0), (.int .i64 0), (.int .i64 0), (.int .i64 0), (.int .i64 0)]),O2 (.store 12 (.t 5) (.t 11)),O2 (.store 12 (.t 6) (.t 14))]
def y0y : List XO := [O3 15 0,O1 16 (.nilck (.t 15)),O5 17 6 16,O5 18 1 17,O5 19 0 18,O4 20 1 19,O1 21 (.callw "(*newel/drive.motion).with" [.t 5, .t 20]),O3 22 0,O1 23 (.nilck (.t 22)),O5 24 6 23,O5 25 1 24,O5 26 1 25,O4 27 1 26,O1 28 (.callw "(*newel/drive.motion).with" [.t 6, .t 27]),O3 7 21,O3 8 28]
def y0z : List XO := [O3 29 1,O3 30 29,O9 31 30 true (.mv (.t 8)),O9 32 30 true (.mv (.t 7)),O9 33 30 true (.bin .gtr .no (.t 31) (.t 32)),O1 34 (.pick (.t 30) (.t 33) (.c (.bool false))),O3 35 34,O9 36 35 false (.mv (.t 1)),O9 37 35 false (.un .not (.t 36)),O9 38 35 false (.mv (.t 37)),O9 39 38 true (.mv (.t 8)),O9 40 38 true (.mv (.t 7)),O9 41 38 true (.bin .lss .no (.t 39) (.t 40)),O9 42 35 false (.pick (.t 38) (.t 41) (.c (.bool false))),O1 43 (.pick (.t 35) (.c (.bool true)) (.t 42))]
def y00 : List XO := [O3 44 0,O6 45 12 6,O1 46 (.nilck (.t 44)),O2 (.store 12 (.t 46) (.t 45))]
def y01 : List XO := [O3 47 0,O1 48 (.nilck (.t 47)),O5 49 6 48,O5 50 1 49,O5 51 1 50,O4 52 1 51,O3 4 52]
def y02 : List XO := [O3 53 0,O6 54 12 5,O1 55 (.nilck (.t 53)),O2 (.store 12 (.t 55) (.t 54))]
def y03 : List XO := [O3 56 0,O1 57 (.nilck (.t 56)),O5 58 6 57,O5 59 1 58,O5 60 0 59,O4 61 1 60,O3 4 61]
def x___drive_motion__extreme : XFunc := { np := 2, res := [.t 4], body :=
 (.seq (.reg y0w) (.seq (.reg y0x) (.seq (.regW y0y [(8, 6), (9, 6), (10, 6), (11, 6), (12, 6)]) (.seq (.seq (.reg y0z) (.cond (.t 43) (.seq (.reg y00) (.seq (.reg y01) .ret)) .skip)) (.seq (.reg y02) (.seq (.reg y03) .ret)))))) }
def o4j : List XO := [O1 4 (.mv (c9 0))]
def o4k : List XO := [O3 6 0,O8 7 6,O1 8 (.mv (c9 0))]
def o4l : List XO := [O1 9 (.bin .lss .no (.t 8) (.t 7))]
def o4m : List XO := [O3 10 8,O3 5 10]
def o4n : List XO := [O3 11 1,O3 12 0,O3 13 5,O7 14 1 12 13,O4 15 1 14,O1 16 (.callv (.t 11) [.t 15])]
def o4o : List XO := [O3 17 5,O3 4 17]
def o4p : List XO := [O1 18 (.bin .add .no (.t 8) (c9 1)),O3 8 18]
def g5d : XCode :=
 (.seq (.reg o4l) (.seq (.cond (.t 9) .skip (.exit 0)) (.seq (.block 1 (.seq (.reg o4m) (.seq (.reg o4n) (.cond (.t 16) (.seq (.reg o4o) .ret) .skip)))) (.reg o4p))))
def o4q : List XO := [O1 4 (.mv (.c (.int .i64 (-1))))]
def x_slices_IndexFunc___int_int_ : XFunc := { np := 2, res := [.t 4], body :=
 (.seq (.reg o4j) (.seq (.seq (.reg o4k) (.block 0 (.loop g5d))) (.seq (.reg o4q) .ret))) }
def y5y : List XO := [O1 4 (.boxF (.t 0)),O1 8 (.mv (c9 0))]
def y5z : List XO := [O1 12 (.fldA 2 (.tf 4)),O1 13 (.load false 1 (.tf 12)),O3 14 2,O1 15 (.bin .mul .no (.t 13) (.t 14)),O1 16 (.fldA 3 (.tf 4)),O1 17 (.load false 1 (.tf 16)),O3 18 3,O1 19 (.bin .add .no (.t 17) (.t 18)),O1 20 (.fldA 1 (.tf 4)),O1 21 (.load false 1 (.tf 20)),O3 22 2,O1 23 (.bin .add .no (.t 21) (.t 22)),O3 9 15,O3 10 19,O3 11 23]
def K3r : List XO := [O1 24 (.fldA 0 (.tf 4)),O1 25 (.load false 1 (.tf 24))]
def y51 : List XO := [O3 26 9,O1 27 (.un .neg (.t 26)),O3 9 27]
def y55 : List XO := [O3 28 1,O1 29 (.bin .lss .no (.t 28) (c9 0)),O3 30 29,O9 31 30 false (.mv (.t 1)),O9 32 30 false (.bin .eql .no (.t 31) (c9 0)),O9 33 30 false (.mv (.t 32)),O9 34 33 true (.mv (.t 9)),O9 35 33 true (.bin .lss .no (.t 34) (c9 0)),O9 36 30 false (.pick (.t 33) (.t 35) (.c (.bool false))),O1 37 (.pick (.t 30) (.c (.bool true)) (.t 36))]
def y56 : List XO := [O3 38 1,O1 39 (.un .neg (.t 38)),O3 40 9,O1 41 (.un .neg (.t 40)),O3 42 10,O3 43 11,O1 44 (.call "newel/drive.ahead" [.t 39, .t 41, .t 42, .t 43]),O1 45 (.un .neg (.t 44)),O3 8 45]
def y57 : List XO := [O3 46 1,O3 47 9,O3 48 10,O3 49 11,O1 50 (.call "newel/drive.ahead" [.t 46, .t 47, .t 48, .t 49]),O3 8 50]
def x_drive_tick : XFunc := { np := 4, res := [.t 8], body :=
 (.seq (.reg y5y) (.seq (.reg y5z) (.seq (.seq (.reg K3r) (.cond (.t 25) (.reg y51) .skip)) (.seq (.seq (.reg y55) (.cond (.t 37) (.seq (.reg y56) .ret) .skip)) (.seq (.reg y57) .ret))))) }
def y04 : List XO := [O1 2 (.mv (c9 0))]
def y05 : List XO := [O3 5 0,O1 6 (.nilck (.t 5)),O5 7 0 6,O5 8 5 7,O4 9 1 8,O8 10 9,O1 11 (.mv (c9 0))]
def y06 : List XO := [O1 12 (.bin .lss .no (.t 11) (.t 10))]
def y07 : List XO := [O3 13 11,O7 14 2 9 11,O6 15 2 14,O1 4 (.alloc [(.int .i64 0), (.int .i64 0)]),O3 3 13,O2 (.store 2 (.t 4) (.t 15))]
def y08 : List XO := [O3 16 0,O1 17 (.nilck (.t 16)),O5 18 6 17,O5 19 3 18,O4 20 1 19,O3 21 3,O1 22 (.bin .shr .no (.t 20) (.t 21)),O1 23 (.bin .and .no (.t 22) (c9 1)),O1 24 (.bin .eql .no (.t 23) (c9 0)),O3 25 24,O9 26 25 true (.fldA 1 (.t 4)),O9 27 25 true (.load false 1 (.t 26)),O9 28 25 true (.mv (.t 0)),O9 29 25 true (.nilck (.t 28)),O9 30 25 true (.fldA 11 (.t 29)),O9 31 25 true (.load false 1 (.t 30)),O9 32 25 true (.bin .leq .no (.t 27) (.t 31)),O1 33 (.pick (.t 25) (.t 32) (.c (.bool false)))]
def y09 : List XO := [O3 34 2,O5 35 0 4,O4 36 1 35,O1 37 (.bin .add .no (.t 34) (.t 36)),O3 2 37]
def y1a : List XO := [O1 38 (.bin .add .no (.t 11) (c9 1)),O3 11 38]
def y1c : XCode :=
 (.seq (.reg y06) (.seq (.cond (.t 12) .skip (.exit 0)) (.seq (.block 1 (.seq (.reg y07) (.seq (.reg y08) (.cond (.t 33) (.reg y09) .skip)))) (.reg y1a))))
def y1b : List XO := [O3 39 2,O3 2 39]
def x___drive_motion__grip : XFunc := { np := 1, res := [.t 2], body :=
 (.seq (.reg y04) (.seq (.seq (.reg y05) (.block 0 (.loop y1c))) (.seq (.reg y1b) .ret))) }
def o0x : List XO := [O1 1 (.boxF (.t 0)),O1 2 (.mv (c9 0))]
def o0y : List XO := [O1 13 (.fldA 0 (.tf 1)),O1 14 (.load false 1 (.tf 13)),O8 15 14,O1 16 (.bin .gtr .no (.t 15) (c9 4)),O3 17 16,O9 18 17 false (.fldA 1 (.tf 1)),O9 19 17 false (.load false 1 (.tf 18)),O9 20 17 false (.len false (.t 19)),O9 21 17 false (.bin .gtr .no (.t 20) (c9 6)),O1 22 (.pick (.t 17) (.c (.bool true)) (.t 21)),O3 23 22,O9 24 23 false (.fldA 2 (.tf 1)),O9 25 23 false (.load false 1 (.tf 24)),O9 26 23 false (.len false (.t 25)),O9 27 23 false (.bin .gtr .no (.t 26) (c9 2)),O1 28 (.pick (.t 23) (.c (.bool true)) (.t 27)),O3 29 28,O9 30 29 false (.fldA 3 (.tf 1)),O9 31 29 false (.load false 1 (.tf 30)),O9 32 29 false (.len false (.t 31)),O9 33 29 false (.call "newel/situation.within" [.t 32, (c9 1), (c9 12)]),O9 34 29 false (.un .not (.t 33)),O1 35 (.pick (.t 29) (.c (.bool true)) (.t 34)),O3 36 35,O9 37 36 false (.fldA 4 (.tf 1)),O9 38 36 false (.load false 1 (.tf 37)),O9 39 36 false (.len false (.t 38)),O9 40 36 false (.bin .gtr .no (.t 39) (c9 40)),O1 41 (.pick (.t 36) (.c (.bool true)) (.t 40)),O3 42 41,O9 43 42 false (.load true 5 (.tf 1)),O9 44 42 false (.call "newel/situation.named" [.t 43]),O9 45 42 false (.un .not (.t 44)),O1 46 (.pick (.t 42) (.c (.bool true)) (.t 45))]
def o08 : List XO := [O1 2 (.mv (c9 41))]
def o1i : List XO := [O1 47 (.fldA 2 (.tf 1)),O1 48 (.load false 1 (.tf 47)),O8 49 48,O1 50 (.mv (c9 0))]
def o1q : List XO := [O1 51 (.bin .lss .no (.t 50) (.t 49))]
def o1r : List XO := [O7 52 2 48 50,O6 53 2 52,O1 4 (.alloc [(.string (ByteArray.mk #[])), (.int .i64 0)]),O2 (.store 2 (.t 4) (.t 53))]
def o1s : List XO := [O5 54 1 4,O4 55 1 54,O1 56 (.call "newel/situation.within" [.t 55, (c9 1), (c9 7)]),O1 57 (.un .not (.t 56))]
def o1t : List XO := [O1 2 (.mv (c9 41))]
def o1u : List XO := [O1 58 (.bin .add .no (.t 50) (c9 1)),O3 50 58]
def g5a : XCode :=
 (.seq (.reg o1q) (.seq (.cond (.t 51) .skip (.exit 0)) (.seq (.block 1 (.seq (.reg o1r) (.seq (.reg o1s) (.cond (.t 57) (.seq (.reg o1t) .ret) .skip)))) (.reg o1u))))
def o0z : List XO := [O1 59 (.fldA 3 (.tf 1)),O1 60 (.load false 1 (.tf 59)),O8 61 60,O1 62 (.mv (c9 0))]
def o00 : List XO := [O1 63 (.bin .lss .no (.t 62) (.t 61))]
def o01 : List XO := [O7 64 2 60 62,O6 65 2 64,O1 6 (.alloc [(.string (ByteArray.mk #[])), (.int .i64 0)]),O2 (.store 2 (.t 6) (.t 65))]
def o02 : List XO := [O5 66 1 6,O4 67 1 66,O1 68 (.fldA 1 (.tf 1)),O1 69 (.load false 1 (.tf 68)),O8 70 69,O1 71 (.bin .shl .no (c9 1) (.t 70)),O1 72 (.bin .sub .no (.t 71) (c9 1)),O1 73 (.call "newel/situation.within" [.t 67, (c9 0), .t 72]),O1 74 (.un .not (.t 73))]
def o03 : List XO := [O1 2 (.mv (c9 41))]
def o04 : List XO := [O1 75 (.bin .add .no (.t 62) (c9 1)),O3 62 75]
def g46 : XCode :=
 (.seq (.reg o00) (.seq (.cond (.t 63) .skip (.exit 2)) (.seq (.block 3 (.seq (.reg o01) (.seq (.reg o02) (.cond (.t 74) (.seq (.reg o03) .ret) .skip)))) (.reg o04))))
def o05 : List XO := [O1 76 (.fldA 4 (.tf 1)),O1 77 (.load false 1 (.tf 76)),O8 78 77,O1 79 (.mv (c9 0))]
def o06 : List XO := [O1 80 (.bin .lss .no (.t 79) (.t 78))]
def o07 : List XO := [O7 81 4 77 79,O6 82 4 81,O1 8 (.alloc [(.int .i64 0), (.int .i64 0), (.slice none 0 0), (.slice none 0 0)]),O2 (.store 4 (.t 8) (.t 82))]
def o09 : List XO := [O5 83 0 8,O4 84 1 83,O1 85 (.fldA 3 (.tf 1)),O1 86 (.load false 1 (.tf 85)),O8 87 86,O1 88 (.bin .sub .no (.t 87) (c9 1)),O1 89 (.call "newel/situation.within" [.t 84, (.c (.int .i64 (-1))), .t 88]),O1 90 (.un .not (.t 89)),O3 91 90,O9 92 91 false (.fldA 1 (.t 8)),O9 93 91 false (.load false 1 (.t 92)),O9 94 91 false (.fldA 3 (.tf 1)),O9 95 91 false (.load false 1 (.tf 94)),O9 96 91 false (.len false (.t 95)),O9 97 91 false (.bin .sub .no (.t 96) (c9 1)),O9 98 91 false (.call "newel/situation.within" [.t 93, (c9 0), .t 97]),O9 99 91 false (.un .not (.t 98)),O1 100 (.pick (.t 91) (.c (.bool true)) (.t 99)),O3 101 100,O9 102 101 false (.load true 5 (.tf 1)),O9 103 101 false (.fldA 2 (.t 8)),O9 104 101 false (.load false 1 (.t 103)),O9 105 101 false (.call "newel/situation.Asked" [.t 102, .t 104]),O9 106 101 false (.un .not (.t 105)),O1 107 (.pick (.t 101) (.c (.bool true)) (.t 106)),O3 108 107,O9 109 108 false (.fldA 3 (.t 8)),O9 110 108 false (.load false 1 (.t 109)),O9 111 108 false (.len false (.t 110)),O9 112 108 false (.bin .gtr .no (.t 111) (c9 4)),O1 113 (.pick (.t 108) (.c (.bool true)) (.t 112))]
def o1a : List XO := [O1 2 (.mv (c9 41))]
def o1b : List XO := [O5 114 2 8,O4 115 1 114,O8 116 115,O1 117 (.mv (c9 0))]
def o1c : List XO := [O1 118 (.bin .lss .no (.t 117) (.t 116))]
def o1d : List XO := [O7 119 1 115 117,O4 120 1 119,O3 10 120]
def o1e : List XO := [O3 121 10,O1 122 (.call "slices.ContainsFunc[newel/api.Term,newel/api.Literal]" [.t 121, (.f "newel/situation.Check$1")])]
def o1f : List XO := [O1 2 (.mv (c9 41))]
def o1g : List XO := [O1 123 (.bin .add .no (.t 117) (c9 1)),O3 117 123]
def g47 : XCode :=
 (.seq (.reg o1c) (.seq (.cond (.t 118) .skip (.exit 6)) (.seq (.block 7 (.seq (.reg o1d) (.seq (.reg o1e) (.cond (.t 122) (.seq (.reg o1f) .ret) .skip)))) (.reg o1g))))
def o1h : List XO := [O5 124 3 8,O4 125 1 124,O8 126 125,O1 127 (.mv (c9 0))]
def o1j : List XO := [O1 128 (.bin .lss .no (.t 127) (.t 126))]
def o1k : List XO := [O7 129 2 125 127,O6 130 2 129,O1 12 (.alloc [(.int .i64 0), (.int .i64 0)]),O2 (.store 2 (.t 12) (.t 130))]
def o1l : List XO := [O5 131 0 12,O4 132 1 131,O1 133 (.call "newel/situation.within" [.t 132, (c9 1), (c9 3)]),O1 134 (.un .not (.t 133)),O3 135 134,O9 136 135 false (.fldA 1 (.t 12)),O9 137 135 false (.load false 1 (.t 136)),O9 138 135 false (.fldA 2 (.tf 1)),O9 139 135 false (.load false 1 (.tf 138)),O9 140 135 false (.len false (.t 139)),O9 141 135 false (.bin .sub .no (.t 140) (c9 1)),O9 142 135 false (.call "newel/situation.within" [.t 137, (c9 0), .t 141]),O9 143 135 false (.un .not (.t 142)),O1 144 (.pick (.t 135) (.c (.bool true)) (.t 143))]
def o1m : List XO := [O1 2 (.mv (c9 41))]
def o1n : List XO := [O1 145 (.bin .add .no (.t 127) (c9 1)),O3 127 145]
def g48 : XCode :=
 (.seq (.reg o1j) (.seq (.cond (.t 128) .skip (.exit 8)) (.seq (.block 9 (.seq (.reg o1k) (.seq (.reg o1l) (.cond (.t 144) (.seq (.reg o1m) .ret) .skip)))) (.reg o1n))))
def o1o : List XO := [O1 146 (.bin .add .no (.t 79) (c9 1)),O3 79 146]
def g49 : XCode :=
 (.seq (.reg o06) (.seq (.cond (.t 80) .skip (.exit 4)) (.seq (.block 5 (.seq (.reg o07) (.seq (.seq (.reg o09) (.cond (.t 113) (.seq (.reg o1a) .ret) .skip)) (.seq (.seq (.reg o1b) (.block 6 (.loop g47))) (.seq (.reg o1h) (.block 8 (.loop g48))))))) (.reg o1o))))
def o1p : List XO := [O1 2 (.mv (c9 0))]
def x_situation_Check : XFunc := { np := 1, res := [.t 2], body :=
 (.seq (.reg o0x) (.seq (.seq (.reg o0y) (.cond (.t 46) (.seq (.reg o08) .ret) .skip)) (.seq (.seq (.reg o1i) (.block 0 (.loop g5a))) (.seq (.seq (.reg o0z) (.block 2 (.loop g46))) (.seq (.seq (.reg o05) (.block 4 (.loop g49))) (.seq (.reg o1p) .ret)))))) }
def o3d : List XO := [O1 6 (.mv (.c (.bool false)))]
def o3e : List XO := [O3 7 0,O3 8 1,O1 9 (.bin .geq .no (.t 7) (.t 8)),O3 10 9,O9 11 10 true (.mv (.t 0)),O9 12 10 true (.mv (.t 2)),O9 13 10 true (.bin .leq .no (.t 11) (.t 12)),O1 14 (.pick (.t 10) (.t 13) (.c (.bool false))),O3 6 14]
def x_situation_within : XFunc := { np := 3, res := [.t 6], body :=
 (.seq (.reg o3d) (.seq (.reg o3e) .ret)) }
def l87 : List XO := [O1 1 (.boxF (.t 0)),O1 2 (.mv (c9 0))]
def l88 : List XO := [O1 3 (.fldA 0 (.tf 1)),O1 4 (.fldA 0 (.tf 3)),O1 5 (.load false 1 (.tf 4)),O8 6 5,O1 7 (.bin .shl .no (c9 1) (.t 6)),O3 2 7]
def x__situation_Plant__All : XFunc := { np := 1, res := [.t 2], body :=
 (.seq (.reg l87) (.seq (.reg l88) .ret)) }
def l9f : List XO := [O1 4 (.boxF (.t 0)),O1 6 (.boxF (.t 2)),O1 7 (.boxF (.t 3)),O1 8 (.mv (.c (.bool false)))]
def l9g : List XO := [O3 9 1,O1 10 (.mkfn "(newel/situation.Plant).Holds$1" [] [.t 4, .t 6, .t 7]),O1 11 (.call "slices.ContainsFunc[newel/api.Cond,newel/api.Term]" [.t 9, .t 10]),O3 8 11]
def x__situation_Plant__Holds : XFunc := { np := 4, res := [.t 8], body :=
 (.seq (.reg l9f) (.seq (.reg l9g) .ret)) }
def l96 : List XO := [O1 3 (.boxF (.t 0)),O1 4 (.boxF (.t 1))]
def s2c : List XO := [O3 7 2,O1 8 (.fldA 1 (.tf 4)),O1 9 (.load false 1 (.tf 8)),O1 10 (.nilck (.t 7)),O5 11 1 10,O1 12 (.ixP 1 2 (.t 11) (.t 9)),O3 6 12]
def l98 : List XO := [O1 13 (.fldA 0 (.tf 4)),O1 14 (.load false 1 (.tf 13))]
def l99 : List XO := [O1 16 (.bin .eql .no (.t 14) (c9 1)),O3 15 16]
def m0a : List XO := [O3 17 6,O1 18 (.nilck (.t 17)),O2 (.store 1 (.t 18) (c9 0))]
def m0b : List XO := [O1 20 (.bin .eql .no (.t 14) (c9 2)),O3 19 20]
def m0c : List XO := [O3 21 6,O3 22 6,O1 23 (.nilck (.t 22)),O4 24 1 23,O1 25 (.bin .add .no (.t 24) (c9 1)),O1 26 (.fldA 0 (.tf 3)),O1 27 (.fldA 2 (.tf 26)),O1 28 (.load false 1 (.tf 27)),O1 29 (.fldA 1 (.tf 4)),O1 30 (.load false 1 (.tf 29)),O7 31 2 28 30,O5 32 1 31,O4 33 1 32,O1 34 (.min [.t 25, .t 33]),O1 35 (.nilck (.t 21)),O2 (.store 1 (.t 35) (.t 34))]
def m0d : List XO := [O1 37 (.bin .eql .no (.t 14) (c9 3)),O3 36 37]
def m0e : List XO := [O3 38 6,O3 39 6,O1 40 (.nilck (.t 39)),O4 41 1 40,O1 42 (.bin .sub .no (.t 41) (c9 1)),O1 43 (.max [.t 42, (c9 0)]),O1 44 (.nilck (.t 38)),O2 (.store 1 (.t 44) (.t 43))]
def x__situation_Plant__set : XFunc := { np := 3, res := [], body :=
 (.seq (.reg l96) (.seq (.reg s2c) (.seq (.reg l98) (.block 0 (.seq (.reg l99) (.cond (.t 15) (.reg m0a) (.seq (.reg m0b) (.cond (.t 19) (.reg m0c) (.seq (.reg m0d) (.cond (.t 36) (.reg m0e) .skip)))))))))) }
def o0l : List XO := [O1 2 (.boxF (.t 0)),O1 4 (.mv (.c (.bool false)))]
def o0m : List XO := [O3 7 1,O8 8 7,O1 9 (.bin .gtr .no (.t 8) (c9 6))]
def o0o : List XO := [O1 4 (.mv (.c (.bool false)))]
def o0p : List XO := [O3 10 1,O8 11 10,O1 12 (.mv (c9 0))]
def o0q : List XO := [O1 13 (.bin .lss .no (.t 12) (.t 11))]
def o0r : List XO := [O7 14 1 10 12,O4 15 1 14,O3 6 15]
def o0s : List XO := [O3 16 6,O8 17 16,O1 18 (.bin .gtr .no (.t 17) (c9 6)),O3 19 18,O9 20 19 false (.mv (.t 6)),O9 21 19 false (.mkfn "newel/situation.Asked$1" [] [.t 2]),O9 22 19 false (.call "slices.ContainsFunc[newel/api.Term,newel/api.Literal]" [.t 20, .t 21]),O1 23 (.pick (.t 19) (.c (.bool true)) (.t 22))]
def o0t : List XO := [O1 4 (.mv (.c (.bool false)))]
def o0u : List XO := [O1 24 (.bin .add .no (.t 12) (c9 1)),O3 12 24]
def g45 : XCode :=
 (.seq (.reg o0q) (.seq (.cond (.t 13) .skip (.exit 0)) (.seq (.block 1 (.seq (.reg o0r) (.seq (.reg o0s) (.cond (.t 23) (.seq (.reg o0t) .ret) .skip)))) (.reg o0u))))
def o0n : List XO := [O1 4 (.mv (.c (.bool true)))]
def x_situation_Asked : XFunc := { np := 2, res := [.t 4], body :=
 (.seq (.reg o0l) (.seq (.seq (.reg o0m) (.cond (.t 9) (.seq (.reg o0o) .ret) .skip)) (.seq (.seq (.reg o0p) (.block 0 (.loop g45))) (.seq (.reg o0n) .ret)))) }
def l77 : List XO := [O1 3 (.boxF (.t 0)),O1 6 (.mv (.c (.pointer none)))]
def l78 : List XO := [O1 16 (.build [(.int .i64 0), (.int .i64 0), (.int .i64 0)] []),O1 17 (.bsl 3 [.t 16]),O1 18 (.bsl 1 [(.c (.int .i64 (-1)))]),O1 19 (.bsl 1 [(c9 0)]),O1 20 (.build [(.slice none 0 0), (.slice none 0 0), (.slice none 0 0), (.slice none 0 0)] [(0, 1, (.t 17)), (1, 1, (.t 18)), (2, 1, (.t 19))]),O1 21 (.box (.t 20)),O3 7 21]
def l8j : List XO := [O1 22 (.callw "#mk" []),O1 23 (.build [(.int .i64 0), (.int .i64 0), (.int .i64 0)] []),O2 (.callw "#pi" [.t 22, .t 23, (c9 0), (c9 3)]),O3 24 22,O3 8 24]
def l8n : List XO := [O1 9 (.mv (c9 0))]
def l8o : List XO := [O3 25 9,O3 26 7,O1 27 (.nilck (.t 26)),O5 28 0 27,O4 29 1 28,O8 30 29,O1 31 (.bin .lss .no (.t 25) (.t 30))]
def l8p : List XO := [O3 34 7,O1 35 (.nilck (.t 34)),O5 36 0 35,O4 37 1 36,O3 38 9,O7 39 3 37 38,O6 40 3 39,O1 10 (.alloc [(.int .i64 0), (.int .i64 0), (.int .i64 0)]),O2 (.store 3 (.t 10) (.t 40))]
def l8q : List XO := [O1 41 (.fldA 0 (.tf 3)),O1 42 (.load true 5 (.tf 41)),O1 43 (.call "(newel/situation.Plant).All" [.t 42]),O1 44 (.mksl 1 [(.int .i64 0)] 8 (.t 43) (.t 43)),O3 11 44]
def l8r : List XO := [O3 45 11,O8 46 45,O1 47 (.mv (c9 0))]
def l8s : List XO := [O1 48 (.bin .lss .no (.t 47) (.t 46))]
def l8t : List XO := [O3 49 47,O3 12 49]
def s2b : List XO := [O3 50 11,O3 51 12,O7 52 1 50 51,O2 (.store 1 (.t 52) (.c (.int .i64 (-1))))]
def l8a : List XO := [O1 53 (.fldA 0 (.tf 3)),O1 54 (.load true 5 (.tf 53)),O3 55 1,O6 56 3 10,O3 57 12,O1 58 (.call "(newel/situation.Plant).Allowed" [.t 54, .t 55, .t 56, .t 57]),O1 59 (.un .not (.t 58))]
def l8b : List XO := [O1 60 (.fldA 0 (.tf 3)),O1 61 (.load true 5 (.tf 60)),O6 62 3 10,O3 63 2,O3 64 12,O1 65 (.callv (.t 63) [.t 64]),O1 66 (.call "(newel/situation.Plant).Step" [.t 61, .t 62, .t 65]),O1 13 (.alloc [(.int .i64 0), (.int .i64 0), (.int .i64 0)]),O2 (.store 3 (.t 13) (.t 66))]
def l8c : List XO := [O3 68 8,O6 69 3 13,O1 70 (.callw "#lj" [.t 68, .t 69, (c9 0), (c9 3)]),O3 67 70,O1 71 (.ext (.t 67) 0),O1 72 (.ext (.t 67) 1),O3 14 71,O3 15 72]
def l8d : List XO := [O3 73 15,O1 74 (.un .not (.t 73))]
def l8e : List XO := [O3 75 7,O1 76 (.nilck (.t 75)),O5 77 0 76,O4 78 1 77,O8 79 78,O3 14 79]
def l8f : List XO := [O3 80 8,O6 81 3 13,O3 82 14,O2 (.callw "#pi" [.t 80, .t 81, .t 82, (c9 3)])]
def l8g : List XO := [O3 83 7,O3 84 7,O3 85 7,O3 86 7,O1 87 (.nilck (.t 86)),O5 88 0 87,O4 89 1 88,O6 90 3 13,O1 91 (.bsl 3 [.t 90]),O1 92 (.app 3 24 (.t 89) (.t 91)),O3 93 7,O1 94 (.nilck (.t 93)),O5 95 1 94,O4 96 1 95,O3 97 9,O1 98 (.bsl 1 [.t 97]),O1 99 (.app 1 8 (.t 96) (.t 98)),O3 100 7,O1 101 (.nilck (.t 100)),O5 102 2 101,O4 103 1 102,O3 104 12,O1 105 (.bsl 1 [.t 104]),O1 106 (.app 1 8 (.t 103) (.t 105)),O1 107 (.nilck (.t 83)),O5 108 0 107,O2 (.store 1 (.t 108) (.t 92)),O1 109 (.nilck (.t 84)),O5 110 1 109,O2 (.store 1 (.t 110) (.t 99)),O1 111 (.nilck (.t 85)),O5 112 2 111,O2 (.store 1 (.t 112) (.t 106))]
def l8h : List XO := [O3 113 11,O3 114 12,O3 115 14,O7 116 1 113 114,O2 (.store 1 (.t 116) (.t 115))]
def l8i : List XO := [O1 117 (.bin .add .no (.t 47) (c9 1)),O3 47 117]
def g32 : XCode :=
 (.seq (.reg l8s) (.seq (.cond (.t 48) .skip (.exit 2)) (.seq (.block 3 (.seq (.reg l8t) (.seq (.reg s2b) (.seq (.seq (.reg l8a) (.cond (.t 59) (.exit 3) .skip)) (.seq (.reg l8b) (.seq (.reg l8c) (.seq (.seq (.reg l8d) (.cond (.t 74) (.seq (.reg l8e) (.seq (.reg l8f) (.reg l8g))) .skip)) (.reg l8h)))))))) (.reg l8i))))
def l8k : List XO := [O3 118 7,O3 119 7,O1 120 (.nilck (.t 119)),O5 121 3 120,O4 122 1 121,O3 123 11,O1 124 (.bsl 1 [.t 123]),O1 125 (.app 1 24 (.t 122) (.t 124)),O1 126 (.nilck (.t 118)),O5 127 3 126,O2 (.store 1 (.t 127) (.t 125))]
def l8l : List XO := [O3 32 9,O1 33 (.bin .add .no (.t 32) (c9 1)),O3 9 33]
def g33 : XCode :=
 (.seq (.seq (.reg l8o) (.cond (.t 31) .skip (.exit 0))) (.seq (.block 1 (.seq (.reg l8p) (.seq (.reg l8q) (.seq (.seq (.reg l8r) (.block 2 (.loop g32))) (.seq .ghost (.reg l8k)))))) (.reg l8l)))
def l8m : List XO := [O3 128 7,O3 6 128]
def x__control_plant__explore : XFunc := { np := 3, res := [.t 6], body :=
 (.seq (.reg l77) (.seq (.reg l78) (.seq (.reg l8j) (.seq (.seq (.reg l8n) (.block 0 (.loop g33))) (.seq (.reg l8m) .ret))))) }
def l7n : List XO := [O1 4 (.mv (.c (.slice none 0 0))),O1 5 (.mv (.c (.bool false)))]
def l7o : List XO := [O3 7 0,O1 8 (.nilck (.t 7)),O5 9 0 8,O4 10 1 9,O8 11 10,O1 12 (.mv (c9 0))]
def l7p : List XO := [O1 13 (.bin .lss .no (.t 12) (.t 11))]
def l7q : List XO := [O3 14 12,O3 6 14]
def l7r : List XO := [O3 15 1,O3 16 6,O1 17 (.callv (.t 15) [.t 16])]
def l7s : List XO := [O3 18 0,O3 19 6,O1 20 (.call "(*newel/control.walk).run" [.t 18, .t 19]),O3 4 20,O1 5 (.mv (.c (.bool true)))]
def l7t : List XO := [O1 21 (.bin .add .no (.t 12) (c9 1)),O3 12 21]
def g30 : XCode :=
 (.seq (.reg l7p) (.seq (.cond (.t 13) .skip (.exit 0)) (.seq (.block 1 (.seq (.reg l7q) (.seq (.reg l7r) (.cond (.t 17) (.seq (.reg l7s) .ret) .skip)))) (.reg l7t))))
def l7u : List XO := [O1 4 (.mv (.c (.slice none 0 0))),O1 5 (.mv (.c (.bool false)))]
def x___control_walk__first : XFunc := { np := 2, res := [.t 4, .t 5], body :=
 (.seq (.reg l7n) (.seq (.seq (.reg l7o) (.block 0 (.loop g30))) (.seq (.reg l7u) .ret))) }
def l72 : List XO := [O1 5 (.mv (.c (.bool false)))]
def l73 : List XO := [O5 6 0 1,O6 7 5 6,O4 8 1 2,O4 9 1 3,O1 10 (.nilck (.t 9)),O5 11 0 10,O4 12 1 11,O3 13 0,O7 14 3 12 13,O6 15 3 14,O1 16 (.call "(newel/situation.Plant).Holds" [.t 7, .t 8, .t 15, (c9 0)]),O3 5 16]
def x__control_plant__breachD1 : XFunc := { np := 4, res := [.t 5], body :=
 (.seq (.reg l72) (.seq (.reg l73) .ret)) }
def y4l : List XO := [O1 1 (.boxF (.t 0)),O1 2 (.mv (.c (.bool false)))]
def y4m : List XO := [O1 3 (.fldA 0 (.tf 1)),O1 4 (.load false 1 (.tf 3)),O1 5 (.call "newel/drive.to" [(c9 10000000)]),O1 6 (.call "newel/drive.in" [.t 4, .t 5]),O3 7 6,O9 8 7 true (.fldA 1 (.tf 1)),O9 9 7 true (.load false 1 (.tf 8)),O9 10 7 true (.call "newel/drive.to" [(c9 20)]),O9 11 7 true (.call "newel/drive.in" [.t 9, .t 10]),O1 12 (.pick (.t 7) (.t 11) (.c (.bool false))),O3 2 12]
def x_drive_CheckD1 : XFunc := { np := 1, res := [.t 2], body :=
 (.seq (.reg y4l) (.seq (.reg y4m) .ret)) }
def y8r : List XO := [O1 8 (.mv (c9 0))]
def y5a : List XO := [O3 9 0,O3 10 1,O3 11 2,O1 12 (.bin .sub .no (.t 10) (.t 11)),O3 13 3,O1 14 (.call "newel/drive.floor" [.t 12, .t 13]),O1 15 (.bin .add .no (.t 9) (.t 14)),O1 16 (.max [(c9 0), .t 15]),O3 8 16]
def x_drive_ahead : XFunc := { np := 4, res := [.t 8], body :=
 (.seq (.reg y8r) (.seq (.reg y5a) .ret)) }
def o2q : List XO := [O1 1 (.boxF (.t 0)),O1 2 (.mv (.c (.bool false)))]
def o2r : List XO := [O1 6 (.callw "#mk" []),O3 3 6]
def o2t : List XO := [O1 7 (.load true 5 (.tf 1)),O1 8 (.call "newel/situation.names" [.t 7]),O8 9 8,O1 10 (.mv (c9 0))]
def o2u : List XO := [O1 11 (.bin .lss .no (.t 10) (.t 9))]
def o2v : List XO := [O7 12 1 8 10,O4 13 1 12,O3 5 13]
def o2w : List XO := [O3 14 3,O3 15 5,O1 16 (.callw "#ls" [.t 14, .t 15, (c9 0), (c9 0)]),O1 17 (.bin .add .no (.t 16) (c9 1)),O2 (.callw "#ps" [.t 14, .t 15, .t 17, (c9 0)])]
def o2x : List XO := [O3 18 5,O1 19 (.call "newel/situation.Plain" [.t 18]),O1 20 (.un .not (.t 19)),O3 21 20,O9 22 21 false (.mv (.t 5)),O9 23 21 false (.len true (.t 22)),O9 24 21 false (.bin .gtr .no (.t 23) (c9 8)),O1 25 (.pick (.t 21) (.c (.bool true)) (.t 24)),O3 26 25,O9 27 26 false (.mv (.t 5)),O9 28 26 false (.call "newel/situation.Reserved" [.t 27]),O1 29 (.pick (.t 26) (.c (.bool true)) (.t 28)),O3 30 29,O9 31 30 false (.mv (.t 3)),O9 32 30 false (.mv (.t 5)),O9 33 30 false (.callw "#ls" [.t 31, .t 32, (c9 0), (c9 0)]),O9 34 30 false (.bin .gtr .no (.t 33) (c9 1)),O1 35 (.pick (.t 30) (.c (.bool true)) (.t 34))]
def o2y : List XO := [O1 2 (.mv (.c (.bool false)))]
def o2z : List XO := [O1 36 (.bin .add .no (.t 10) (c9 1)),O3 10 36]
def g5c : XCode :=
 (.seq (.reg o2u) (.seq (.cond (.t 11) .skip (.exit 0)) (.seq (.block 1 (.seq (.reg o2v) (.seq (.reg o2w) (.seq (.reg o2x) (.cond (.t 35) (.seq (.reg o2y) .ret) .skip))))) (.reg o2z))))
def o2s : List XO := [O1 2 (.mv (.c (.bool true)))]
def x_situation_named : XFunc := { np := 1, res := [.t 2], body :=
 (.seq (.reg o2q) (.seq (.reg o2r) (.seq (.seq (.reg o2t) (.block 0 (.loop g5c))) (.seq (.reg o2s) .ret)))) }
def o3z : List XO := [O1 4 (.mv (.c (.bool false)))]
def o30 : List XO := [O3 5 0,O3 6 1,O1 7 (.call "slices.IndexFunc[newel/api.Term,newel/api.Literal]" [.t 5, .t 6]),O1 8 (.bin .geq .no (.t 7) (c9 0)),O3 4 8]
def x_slices_ContainsFunc_api_Term_api_Literal_ : XFunc := { np := 2, res := [.t 4], body :=
 (.seq (.reg o3z) (.seq (.reg o30) .ret)) }
def o0v : List XO := [O1 1 (.boxF (.t 0)),O1 2 (.mv (.c (.bool false)))]
def o0w : List XO := [O1 3 (.fldA 0 (.tf 1)),O1 4 (.load false 1 (.tf 3)),O1 5 (.bin .eql .no (.t 4) (c9 3)),O3 2 5]
def x_situation_CheckD1 : XFunc := { np := 1, res := [.t 2], body :=
 (.seq (.reg o0v) (.seq (.reg o0w) .ret)) }
def o3x : List XO := [O1 4 (.mv (.c (.bool false)))]
def o3y : List XO := [O3 5 0,O3 6 1,O1 7 (.call "slices.IndexFunc[newel/api.Cond,newel/api.Term]" [.t 5, .t 6]),O1 8 (.bin .geq .no (.t 7) (c9 0)),O3 4 8]
def x_slices_ContainsFunc_api_Cond_api_Term_ : XFunc := { np := 2, res := [.t 4], body :=
 (.seq (.reg o3x) (.seq (.reg o3y) .ret)) }
def l9d : List XO := [O1 5 (.mv (.c (.bool false)))]
def l9e : List XO := [O3 6 0,O1 7 (.mkfn "(newel/situation.Plant).Holds$1$1" [] [.t 1, .t 2, .t 3]),O1 8 (.call "slices.ContainsFunc[newel/api.Term,newel/api.Literal]" [.t 6, .t 7]),O1 9 (.un .not (.t 8)),O3 5 9]
def x__situation_Plant__HoldsD1 : XFunc := { np := 4, res := [.t 5], body :=
 (.seq (.reg l9d) (.seq (.reg l9e) .ret)) }
def l9b : List XO := [O1 4 (.boxF (.t 0)),O1 5 (.mv (.c (.bool false)))]
def l9c : List XO := [O6 6 5 1,O1 7 (.load true 4 (.tf 4)),O6 8 3 2,O4 9 1 3,O1 10 (.call "(newel/situation.Plant).literal" [.t 6, .t 7, .t 8, .t 9]),O1 11 (.un .not (.t 10)),O3 5 11]
def x__situation_Plant__HoldsD1D1 : XFunc := { np := 4, res := [.t 5], body :=
 (.seq (.reg l9b) (.seq (.reg l9c) .ret)) }
def l9u : List XO := [O1 4 (.boxF (.t 0)),O1 5 (.boxF (.t 1)),O1 6 (.boxF (.t 2)),O1 8 (.mv (.c (.bool false)))]
def l9v : List XO := [O1 9 (.mv (.c (.bool false)))]
def l9y : List XO := [O1 10 (.fldA 0 (.tf 5)),O1 11 (.load false 1 (.tf 10))]
def l9z : List XO := [O1 13 (.bin .eql .no (.t 11) (c9 1)),O3 12 13]
def l90 : List XO := [O3 14 3,O1 15 (.fldA 1 (.tf 5)),O1 16 (.load false 1 (.tf 15)),O1 17 (.bin .shr .no (.t 14) (.t 16)),O1 18 (.bin .and .no (.t 17) (c9 1)),O1 19 (.bin .eql .no (.t 18) (c9 1)),O3 9 19]
def l91 : List XO := [O1 21 (.bin .eql .no (.t 11) (c9 2)),O3 20 21]
def l92 : List XO := [O1 22 (.fldA 1 (.tf 5)),O1 23 (.load false 1 (.tf 22)),O1 24 (.fldA 1 (.tf 6)),O1 25 (.ixP 1 2 (.t 24) (.t 23)),O1 26 (.load false 1 (.tf 25)),O1 27 (.fldA 2 (.tf 5)),O1 28 (.load false 1 (.tf 27)),O1 29 (.bin .geq .no (.t 26) (.t 28)),O3 9 29]
def v2e : List XO := [O1 31 (.bin .eql .no (.t 11) (c9 3)),O3 30 31]
def l94 : List XO := [O1 32 (.fldA 0 (.tf 6)),O1 33 (.load false 1 (.tf 32)),O1 34 (.fldA 1 (.tf 5)),O1 35 (.load false 1 (.tf 34)),O1 36 (.bin .eql .no (.t 33) (.t 35)),O3 9 36]
def l95 : List XO := [O1 38 (.bin .eql .no (.t 11) (c9 4)),O3 37 38]
def l9w : List XO := [O1 39 (.fldA 0 (.tf 4)),O1 40 (.fldA 3 (.tf 39)),O1 41 (.load false 1 (.tf 40)),O1 42 (.fldA 0 (.tf 6)),O1 43 (.load false 1 (.tf 42)),O7 44 2 41 43,O5 45 1 44,O4 46 1 45,O1 47 (.fldA 1 (.tf 5)),O1 48 (.load false 1 (.tf 47)),O1 49 (.bin .shr .no (.t 46) (.t 48)),O1 50 (.bin .and .no (.t 49) (c9 1)),O1 51 (.bin .eql .no (.t 50) (c9 1)),O3 9 51]
def l9x : List XO := [O3 52 9,O1 53 (.fldA 3 (.tf 5)),O1 54 (.load false 1 (.tf 53)),O1 55 (.bin .neq .bool (.t 52) (.t 54)),O3 8 55]
def x__situation_Plant__literal : XFunc := { np := 4, res := [.t 8], body :=
 (.seq (.reg l9u) (.seq (.reg l9v) (.seq (.seq (.reg l9y) (.block 0 (.seq (.reg l9z) (.cond (.t 12) (.reg l90) (.seq (.reg l91) (.cond (.t 20) (.reg l92) (.seq (.reg v2e) (.cond (.t 30) (.reg l94) (.seq (.reg l95) (.cond (.t 37) (.reg l9w) .skip)))))))))) (.seq (.reg l9x) .ret)))) }
def o0j : List XO := [O1 2 (.boxF (.t 0)),O1 3 (.mv (.c (.bool false)))]
def o0k : List XO := [O6 4 5 1,O1 5 (.load true 4 (.tf 2)),O1 6 (.call "newel/situation.asks" [.t 4, .t 5]),O1 7 (.un .not (.t 6)),O3 3 7]
def x_situation_AskedD1 : XFunc := { np := 2, res := [.t 3], body :=
 (.seq (.reg o0j) (.seq (.reg o0k) .ret)) }
def o2f : List XO := [O1 2 (.boxF (.t 0)),O1 3 (.boxF (.t 1)),O1 4 (.mv (.c (.bool false)))]
def o2g : List XO := [O1 5 (.fldA 0 (.tf 3)),O1 6 (.load false 1 (.tf 5))]
def o2i : List XO := [O1 8 (.bin .eql .no (.t 6) (c9 1)),O3 7 8]
def o2j : List XO := [O1 9 (.fldA 1 (.tf 3)),O1 10 (.load false 1 (.tf 9)),O1 11 (.fldA 0 (.tf 2)),O1 12 (.load false 1 (.tf 11)),O8 13 12,O1 14 (.bin .sub .no (.t 13) (c9 1)),O1 15 (.call "newel/situation.within" [.t 10, (c9 0), .t 14]),O3 16 15,O9 17 16 true (.fldA 2 (.tf 3)),O9 18 16 true (.load false 1 (.tf 17)),O9 19 16 true (.bin .eql .no (.t 18) (c9 0)),O1 20 (.pick (.t 16) (.t 19) (.c (.bool false))),O3 4 20]
def o2k : List XO := [O1 22 (.bin .eql .no (.t 6) (c9 2)),O3 21 22]
def o2l : List XO := [O1 23 (.fldA 1 (.tf 3)),O1 24 (.load false 1 (.tf 23)),O1 25 (.fldA 2 (.tf 2)),O1 26 (.load false 1 (.tf 25)),O8 27 26,O1 28 (.bin .sub .no (.t 27) (c9 1)),O1 29 (.call "newel/situation.within" [.t 24, (c9 0), .t 28]),O3 30 29,O9 31 30 true (.fldA 2 (.tf 3)),O9 32 30 true (.load false 1 (.tf 31)),O9 33 30 true (.fldA 2 (.tf 2)),O9 34 30 true (.load false 1 (.tf 33)),O9 35 30 true (.fldA 1 (.tf 3)),O9 36 30 true (.load false 1 (.tf 35)),O9 37 30 true (.ixA 2 (.t 34) (.t 36)),O9 38 30 true (.fldA 1 (.t 37)),O9 39 30 true (.load false 1 (.t 38)),O9 40 30 true (.call "newel/situation.within" [.t 32, (c9 0), .t 39]),O1 41 (.pick (.t 30) (.t 40) (.c (.bool false))),O3 4 41]
def o2m : List XO := [O1 43 (.bin .eql .no (.t 6) (c9 3)),O3 42 43]
def o2n : List XO := [O1 44 (.fldA 1 (.tf 3)),O1 45 (.load false 1 (.tf 44)),O1 46 (.fldA 3 (.tf 2)),O1 47 (.load false 1 (.tf 46)),O8 48 47,O1 49 (.bin .sub .no (.t 48) (c9 1)),O1 50 (.call "newel/situation.within" [.t 45, (c9 0), .t 49]),O3 51 50,O9 52 51 true (.fldA 2 (.tf 3)),O9 53 51 true (.load false 1 (.tf 52)),O9 54 51 true (.bin .eql .no (.t 53) (c9 0)),O1 55 (.pick (.t 51) (.t 54) (.c (.bool false))),O3 4 55]
def o2o : List XO := [O1 57 (.bin .eql .no (.t 6) (c9 4)),O3 56 57]
def o2p : List XO := [O1 58 (.fldA 1 (.tf 3)),O1 59 (.load false 1 (.tf 58)),O1 60 (.fldA 1 (.tf 2)),O1 61 (.load false 1 (.tf 60)),O8 62 61,O1 63 (.bin .sub .no (.t 62) (c9 1)),O1 64 (.call "newel/situation.within" [.t 59, (c9 0), .t 63]),O3 65 64,O9 66 65 true (.fldA 2 (.tf 3)),O9 67 65 true (.load false 1 (.tf 66)),O9 68 65 true (.bin .eql .no (.t 67) (c9 0)),O1 69 (.pick (.t 65) (.t 68) (.c (.bool false))),O3 4 69]
def o2h : List XO := [O1 4 (.mv (.c (.bool false)))]
def x_situation_asks : XFunc := { np := 2, res := [.t 4], body :=
 (.seq (.reg o2f) (.seq (.seq (.reg o2g) (.block 0 (.seq (.reg o2i) (.cond (.t 7) (.seq (.reg o2j) .ret) (.seq (.reg o2k) (.cond (.t 21) (.seq (.reg o2l) .ret) (.seq (.reg o2m) (.cond (.t 42) (.seq (.reg o2n) .ret) (.seq (.reg o2o) (.cond (.t 56) (.seq (.reg o2p) .ret) .skip)))))))))) (.seq (.reg o2h) .ret))) }
def l89 : List XO := [O1 4 (.boxF (.t 0)),O1 6 (.boxF (.t 2)),O1 8 (.mv (.c (.bool false)))]
def l9a : List XO := [O3 9 1,O8 10 9,O1 11 (.bin .eql .no (.t 10) (c9 0)),O3 12 11,O9 13 12 false (.load true 5 (.tf 4)),O9 14 12 false (.mv (.t 1)),O9 15 12 false (.load true 3 (.tf 6)),O9 16 12 false (.mv (.t 3)),O9 17 12 false (.call "(newel/situation.Plant).Holds" [.t 13, .t 14, .t 15, .t 16]),O1 18 (.pick (.t 12) (.c (.bool true)) (.t 17)),O3 8 18]
def x__situation_Plant__Allowed : XFunc := { np := 4, res := [.t 8], body :=
 (.seq (.reg l89) (.seq (.reg l9a) .ret)) }
def l7v : List XO := [O1 4 (.mv (.c (.slice none 0 0)))]
def l7w : List XO := [O1 5 (.mv (.c (.slice none 0 0)))]
def l7x : List XO := [O3 6 0,O1 7 (.nilck (.t 6)),O5 8 1 7,O4 9 1 8,O3 10 1,O7 11 1 9 10,O4 12 1 11,O1 13 (.bin .geq .no (.t 12) (c9 0))]
def l7y : List XO := [O3 21 5,O3 22 0,O1 23 (.nilck (.t 22)),O5 24 2 23,O4 25 1 24,O3 26 1,O7 27 1 25 26,O4 28 1 27,O1 29 (.bsl 1 [.t 28]),O1 30 (.app 1 8 (.t 21) (.t 29)),O3 5 30]
def l7z : List XO := [O3 14 0,O1 15 (.nilck (.t 14)),O5 16 1 15,O4 17 1 16,O3 18 1,O7 19 1 17 18,O4 20 1 19,O3 1 20]
def g31 : XCode :=
 (.seq (.seq (.reg l7x) (.cond (.t 13) .skip (.exit 0))) (.seq (.block 1 (.reg l7y)) (.reg l7z)))
def y94 : List XO := [O3 31 5,O1 32 (.callw "slices.Reverse[[]int,int]" [.t 31])]
def l71 : List XO := [O3 33 5,O3 4 33]
def x___control_walk__run : XFunc := { np := 2, res := [.t 4], body :=
 (.seq (.reg l7v) (.seq (.reg l7w) (.seq (.block 0 (.loop g31)) (.seq (.reg y94) (.seq (.reg l71) .ret))))) }
def y5i : List XO := [O1 4 (.mv (c9 0))]
def y5j : List XO := [O3 7 0,O3 8 1,O1 9 (.bin .quo .no (.t 7) (.t 8)),O3 10 0,O3 11 1,O1 12 (.bin .rem .no (.t 10) (.t 11)),O3 5 9,O3 6 12]
def y5k : List XO := [O3 13 6,O1 14 (.bin .lss .no (.t 13) (c9 0))]
def y5l : List XO := [O3 15 5,O1 16 (.bin .sub .no (.t 15) (c9 1)),O3 5 16]
def y5m : List XO := [O3 17 5,O3 4 17]
def x_drive_floor : XFunc := { np := 2, res := [.t 4], body :=
 (.seq (.reg y5i) (.seq (.reg y5j) (.seq (.seq (.reg y5k) (.cond (.t 14) (.reg y5l) .skip)) (.seq (.reg y5m) .ret)))) }
def o20 : List XO := [O1 1 (.boxF (.t 0)),O1 2 (.mv (.c (.slice none 0 0)))]
def o21 : List XO := [O1 8 (.fldA 0 (.tf 1)),O1 9 (.load false 1 (.tf 8)),O1 10 (.fldA 1 (.tf 1)),O1 11 (.load false 1 (.tf 10)),O1 12 (.bsl 1 [.t 9, .t 11]),O1 13 (.call "slices.Concat[[]string,string]" [.t 12]),O3 3 13]
def o26 : List XO := [O1 14 (.fldA 2 (.tf 1)),O1 15 (.load false 1 (.tf 14)),O8 16 15,O1 17 (.mv (c9 0))]
def o27 : List XO := [O1 18 (.bin .lss .no (.t 17) (.t 16))]
def o28 : List XO := [O7 19 2 15 17,O6 20 2 19,O1 5 (.alloc [(.string (ByteArray.mk #[])), (.int .i64 0)]),O2 (.store 2 (.t 5) (.t 20))]
def o29 : List XO := [O3 21 3,O5 22 0 5,O4 23 1 22,O1 24 (.bsl 1 [.t 23]),O1 25 (.app 1 16 (.t 21) (.t 24)),O3 3 25]
def o3a : List XO := [O1 26 (.bin .add .no (.t 17) (c9 1)),O3 17 26]
def d5l : XCode :=
 (.seq (.reg o27) (.seq (.cond (.t 18) .skip (.exit 0)) (.seq (.block 1 (.seq (.reg o28) (.reg o29))) (.reg o3a))))
def o3b : List XO := [O1 27 (.fldA 3 (.tf 1)),O1 28 (.load false 1 (.tf 27)),O8 29 28,O1 30 (.mv (c9 0))]
def o3c : List XO := [O1 31 (.bin .lss .no (.t 30) (.t 29))]
def o22 : List XO := [O7 32 2 28 30,O6 33 2 32,O1 7 (.alloc [(.string (ByteArray.mk #[])), (.int .i64 0)]),O2 (.store 2 (.t 7) (.t 33))]
def o23 : List XO := [O3 34 3,O5 35 0 7,O4 36 1 35,O1 37 (.bsl 1 [.t 36]),O1 38 (.app 1 16 (.t 34) (.t 37)),O3 3 38]
def o24 : List XO := [O1 39 (.bin .add .no (.t 30) (c9 1)),O3 30 39]
def d5k : XCode :=
 (.seq (.reg o3c) (.seq (.cond (.t 31) .skip (.exit 2)) (.seq (.block 3 (.seq (.reg o22) (.reg o23))) (.reg o24))))
def o25 : List XO := [O3 40 3,O3 2 40]
def x_situation_names : XFunc := { np := 1, res := [.t 2], body :=
 (.seq (.reg o20) (.seq (.reg o21) (.seq (.seq (.reg o26) (.block 0 (.loop d5l))) (.seq (.seq (.reg o3b) (.block 2 (.loop d5k))) (.seq (.reg o25) .ret))))) }
def o1v : List XO := [O1 2 (.mv (.c (.bool false)))]
def o1w : List XO := [O3 5 0,O1 6 (.callw "#sb" [.t 5]),O8 7 6,O1 8 (.mv (c9 0))]
def o1x : List XO := [O1 9 (.bin .lss .no (.t 8) (.t 7))]
def o1y : List XO := [O7 10 1 6 8,O4 11 1 10,O3 4 11]
def o1z : List XO := [O3 12 4,O1 13 (.bin .lss .no (.t 12) (.c (.int .u8 97))),O3 14 13,O9 15 14 false (.mv (.t 4)),O9 16 14 false (.bin .gtr .no (.t 15) (.c (.int .u8 122))),O1 17 (.pick (.t 14) (.c (.bool true)) (.t 16))]
def o10 : List XO := [O1 2 (.mv (.c (.bool false)))]
def o11 : List XO := [O1 18 (.bin .add .no (.t 8) (c9 1)),O3 8 18]
def g5b : XCode :=
 (.seq (.reg o1x) (.seq (.cond (.t 9) .skip (.exit 0)) (.seq (.block 1 (.seq (.reg o1y) (.seq (.reg o1z) (.cond (.t 17) (.seq (.reg o10) .ret) .skip)))) (.reg o11))))
def o12 : List XO := [O3 19 0,O1 20 (.bin .neq .no (.t 19) (.c (.string (ByteArray.mk #[])))),O3 2 20]
def x_situation_Plain : XFunc := { np := 1, res := [.t 2], body :=
 (.seq (.reg o1v) (.seq (.seq (.reg o1w) (.block 0 (.loop g5b))) (.seq (.reg o12) .ret))) }
def o13 : List XO := [O1 2 (.mv (.c (.bool false)))]
def o14 : List XO := [O3 3 0]
def o17 : List XO := [O1 5 (.bin .eql .no (.t 3) (.c (.string (ByteArray.mk #[97, 110, 121])))),O3 4 5]
def o18 : List XO := [O1 6 (.bin .eql .no (.t 3) (.c (.string (ByteArray.mk #[116, 111])))),O3 4 6]
def o19 : List XO := [O1 7 (.bin .eql .no (.t 3) (.c (.string (ByteArray.mk #[122, 101, 114, 111])))),O3 4 7]
def o2a : List XO := [O1 8 (.bin .eql .no (.t 3) (.c (.string (ByteArray.mk #[109, 111, 114, 101])))),O3 4 8]
def o2b : List XO := [O1 9 (.bin .eql .no (.t 3) (.c (.string (ByteArray.mk #[108, 101, 115, 115])))),O3 4 9]
def o2c : List XO := [O1 10 (.bin .eql .no (.t 3) (.c (.string (ByteArray.mk #[105, 102])))),O3 4 10]
def o2d : List XO := [O1 11 (.bin .eql .no (.t 3) (.c (.string (ByteArray.mk #[121, 101, 115])))),O3 4 11]
def o2e : List XO := [O1 12 (.bin .eql .no (.t 3) (.c (.string (ByteArray.mk #[110, 111])))),O3 4 12]
def o15 : List XO := [O1 2 (.mv (.c (.bool true)))]
def o16 : List XO := [O1 2 (.mv (.c (.bool false)))]
def x_situation_Reserved : XFunc := { np := 1, res := [.t 2], body :=
 (.seq (.reg o13) (.seq (.seq (.reg o14) (.block 0 (.seq (.seq (.reg o17) (.cond (.t 4) .skip (.seq (.reg o18) (.cond (.t 4) .skip (.seq (.reg o19) (.cond (.t 4) .skip (.seq (.reg o2a) (.cond (.t 4) .skip (.seq (.reg o2b) (.cond (.t 4) .skip (.seq (.reg o2c) (.cond (.t 4) .skip (.seq (.reg o2d) (.cond (.t 4) .skip (.reg o2e))))))))))))))) (.cond (.t 4) (.seq (.reg o15) .ret) .skip)))) (.seq (.reg o16) .ret))) }
def o4z : List XO := [O1 4 (.mv (c9 0))]
def o40 : List XO := [O3 6 0,O8 7 6,O1 8 (.mv (c9 0))]
def o41 : List XO := [O1 9 (.bin .lss .no (.t 8) (.t 7))]
def o42 : List XO := [O3 10 8,O3 5 10]
def o43 : List XO := [O3 11 1,O3 12 0,O3 13 5,O7 14 4 12 13,O6 15 4 14,O1 16 (.callv (.t 11) [.t 15])]
def o44 : List XO := [O3 17 5,O3 4 17]
def o45 : List XO := [O1 18 (.bin .add .no (.t 8) (c9 1)),O3 8 18]
def g5f : XCode :=
 (.seq (.reg o41) (.seq (.cond (.t 9) .skip (.exit 0)) (.seq (.block 1 (.seq (.reg o42) (.seq (.reg o43) (.cond (.t 16) (.seq (.reg o44) .ret) .skip)))) (.reg o45))))
def o46 : List XO := [O1 4 (.mv (.c (.int .i64 (-1))))]
def x_slices_IndexFunc_api_Term_api_Literal_ : XFunc := { np := 2, res := [.t 4], body :=
 (.seq (.reg o4z) (.seq (.seq (.reg o40) (.block 0 (.loop g5f))) (.seq (.reg o46) .ret))) }
def o4r : List XO := [O1 4 (.mv (c9 0))]
def o4s : List XO := [O3 6 0,O8 7 6,O1 8 (.mv (c9 0))]
def o4t : List XO := [O1 9 (.bin .lss .no (.t 8) (.t 7))]
def o4u : List XO := [O3 10 8,O3 5 10]
def o4v : List XO := [O3 11 1,O3 12 0,O3 13 5,O7 14 1 12 13,O4 15 1 14,O1 16 (.callv (.t 11) [.t 15])]
def o4w : List XO := [O3 17 5,O3 4 17]
def o4x : List XO := [O1 18 (.bin .add .no (.t 8) (c9 1)),O3 8 18]
def g5e : XCode :=
 (.seq (.reg o4t) (.seq (.cond (.t 9) .skip (.exit 0)) (.seq (.block 1 (.seq (.reg o4u) (.seq (.reg o4v) (.cond (.t 16) (.seq (.reg o4w) .ret) .skip)))) (.reg o4x))))
def o4y : List XO := [O1 4 (.mv (.c (.int .i64 (-1))))]
def x_slices_IndexFunc_api_Cond_api_Term_ : XFunc := { np := 2, res := [.t 4], body :=
 (.seq (.reg o4r) (.seq (.seq (.reg o4s) (.block 0 (.loop g5e))) (.seq (.reg o4y) .ret))) }
def o47 : List XO := [O3 4 0,O8 5 4,O1 6 (.bin .sub .no (.t 5) (c9 1)),O1 2 (.mv (c9 0)),O3 3 6]
def o48 : List XO := [O3 7 2,O3 8 3,O1 9 (.bin .lss .no (.t 7) (.t 8))]
def o49 : List XO := [O3 14 0,O3 15 2,O3 16 0,O3 17 3,O3 18 0,O3 19 3,O7 20 1 18 19,O4 21 1 20,O3 22 0,O3 23 2,O7 24 1 22 23,O4 25 1 24,O7 26 1 14 15,O2 (.store 1 (.t 26) (.t 21)),O7 27 1 16 17,O2 (.store 1 (.t 27) (.t 25))]
def o5a : List XO := [O3 10 2,O1 11 (.bin .add .no (.t 10) (c9 1)),O3 12 3,O1 13 (.bin .sub .no (.t 12) (c9 1)),O3 2 11,O3 3 13]
def g5g : XCode :=
 (.seq (.seq (.reg o48) (.cond (.t 9) .skip (.exit 0))) (.seq (.block 1 (.reg o49)) (.reg o5a)))
def x_slices_Reverse___int_int_ : XFunc := { np := 1, res := [], body :=
 (.seq (.reg o47) (.block 0 (.loop g5g))) }
def o3f : List XO := [O1 2 (.mv (.c (.slice none 0 0)))]
def o3g : List XO := [O1 3 (.mv (c9 0))]
def o3o : List XO := [O3 9 0,O8 10 9,O1 11 (.mv (c9 0))]
def o3p : List XO := [O1 12 (.bin .lss .no (.t 11) (.t 10))]
def o3q : List XO := [O7 13 1 9 11,O4 14 1 13,O3 5 14]
def o3r : List XO := [O3 15 3,O3 16 5,O8 17 16,O1 18 (.bin .add .no (.t 15) (.t 17)),O3 3 18]
def o3s : List XO := [O3 19 3,O1 20 (.bin .lss .no (.t 19) (c9 0))]
def o3t : List XO := [O1 21 (.callw "#no" []),O2 (.callw "#no" [])]
def o3u : List XO := [O1 22 (.bin .add .no (.t 11) (c9 1)),O3 11 22]
def d5n : XCode :=
 (.seq (.reg o3p) (.seq (.cond (.t 12) .skip (.exit 0)) (.seq (.block 1 (.seq (.reg o3q) (.seq (.reg o3r) (.seq (.reg o3s) (.cond (.t 20) (.reg o3t) .skip))))) (.reg o3u))))
def o3h : List XO := [O3 23 3,O1 24 (.call "slices.Grow[[]string,string]" [(.c (.slice none 0 0)), .t 23]),O3 6 24]
def o3i : List XO := [O3 25 0,O8 26 25,O1 27 (.mv (c9 0))]
def o3j : List XO := [O1 28 (.bin .lss .no (.t 27) (.t 26))]
def o3k : List XO := [O7 29 1 25 27,O4 30 1 29,O3 8 30]
def o3l : List XO := [O3 31 6,O3 32 8,O1 33 (.app 1 16 (.t 31) (.t 32)),O3 6 33]
def o3m : List XO := [O1 34 (.bin .add .no (.t 27) (c9 1)),O3 27 34]
def d5m : XCode :=
 (.seq (.reg o3j) (.seq (.cond (.t 28) .skip (.exit 2)) (.seq (.block 3 (.seq (.reg o3k) (.reg o3l))) (.reg o3m))))
def o3n : List XO := [O3 35 6,O3 2 35]
def x_slices_Concat___string_string_ : XFunc := { np := 1, res := [.t 2], body :=
 (.seq (.reg o3f) (.seq (.reg o3g) (.seq (.seq (.reg o3o) (.block 0 (.loop d5n))) (.seq (.reg o3h) (.seq (.seq (.reg o3i) (.block 2 (.loop d5m))) (.seq (.reg o3n) .ret)))))) }
def o4c : List XO := [O1 4 (.mv (.c (.slice none 0 0)))]
def o4d : List XO := [O3 5 1,O1 6 (.bin .lss .no (.t 5) (c9 0))]
def o4e : List XO := [O1 7 (.callw "#no" []),O2 (.callw "#no" [])]
def o4f : List XO := [O3 8 1,O3 9 0,O1 10 (.callw "#cap" [.t 9]),O3 11 0,O8 12 11,O1 13 (.bin .sub .no (.t 10) (.t 12)),O1 14 (.bin .sub .no (.t 8) (.t 13)),O3 1 14]
def o4g : List XO := [O3 15 1,O1 16 (.bin .gtr .no (.t 15) (c9 0))]
def o4h : List XO := [O3 17 0,O3 18 0,O1 19 (.callw "#cap" [.t 18]),O1 20 (.slc 1 (.t 17) none (some (.t 19))),O3 21 1,O1 22 (.callw "#ax" [.t 20, .t 21, (.c (.string (ByteArray.mk #[])))]),O3 23 0,O8 24 23,O1 25 (.slc 1 (.t 22) none (some (.t 24))),O3 0 25]
def o4i : List XO := [O3 26 0,O3 4 26]
def x_slices_Grow___string_string_ : XFunc := { np := 2, res := [.t 4], body :=
 (.seq (.reg o4c) (.seq (.seq (.reg o4d) (.cond (.t 6) (.reg o4e) .skip)) (.seq (.seq (.reg o4f) (.seq (.reg o4g) (.cond (.t 16) (.reg o4h) .skip))) (.seq (.reg o4i) .ret)))) }
attribute [go_sem] K3u K3v K4b K4l K4n K4o K4p K4q K4r K4s K3w K3x K3y K3z K30 K31 K36 K38 K4a K4c K4d K4e K4f K4g K4h K4i K4j K4k K4m K3s K3t K4z K40 K41 K42 K43 K44 K5i K5j K5k K5l K5m K5n K5o y4z y8p y41 y42 y8q y44 y45 y46 K3d K3e K3j K3k K3l K3m K3n K3o K3p K3q K3f K3g K3h K3i K4t K4u K4v K4w K4x K4y r4m r4n r4w r4x r4y r4z r40 r41 r42 r43 r4o r4p r4q r4r r4s r4t r4u r4v m0f m0g m0h m0i m0j m0k K49 K5a K5b K5c K5d K5e K5f K5g K5h K5p K5q y5b y5c y5d y5e y5f y5g y5h y5p y5q y5r y5s y5t y5u y5v y5w o3v o3w K3b K3c y5n y5o y1d y1e y1f y1g m0l m0m m2z m20 p4b p4c l9h l9i l9m l9n l9o l9p l9q l9r l9s l9t l9j l9k l9l m2o m2p m2r m2s m2t m2u m2v m2w m2x m2y m2q J4x l75 l76 m21 m22 y4n y4o y4q y4r y4s y4t y4u y4v y4w y4x y4p y58 y59 y0w y0x y0y y0z y00 y01 y02 y03 o4j o4k o4l o4m o4n o4o o4p o4q y5y y5z K3r y51 y55 y56 y57 y04 y05 y06 y07 y08 y09 y1a y1b o0x o0y o08 o1i o1q o1r o1s o1t o1u o0z o00 o01 o02 o03 o04 o05 o06 o07 o09 o1a o1b o1c o1d o1e o1f o1g o1h o1j o1k o1l o1m o1n o1o o1p o3d o3e l87 l88 l9f l9g l96 s2c l98 l99 m0a m0b m0c m0d m0e o0l o0m o0o o0p o0q o0r o0s o0t o0u o0n l77 l78 l8j l8n l8o l8p l8q l8r l8s l8t s2b l8a l8b l8c l8d l8e l8f l8g l8h l8i l8k l8l l8m l7n l7o l7p l7q l7r l7s l7t l7u l72 l73 y4l y4m y8r y5a o2q o2r o2t o2u o2v o2w o2x o2y o2z o2s o3z o30 o0v o0w o3x o3y l9d l9e l9b l9c l9u l9v l9y l9z l90 l91 l92 v2e l94 l95 l9w l9x o0j o0k o2f o2g o2i o2j o2k o2l o2m o2n o2o o2p o2h l89 l9a l7v l7w l7x l7y l7z y94 l71 y5i y5j y5k y5l y5m o20 o21 o26 o27 o28 o29 o3a o3b o3c o22 o23 o24 o25 o1v o1w o1x o1y o1z o10 o11 o12 o13 o14 o17 o18 o19 o2a o2b o2c o2d o2e o15 o16 o4z o40 o41 o42 o43 o44 o45 o46 o4r o4s o4t o4u o4v o4w o4x o4y o47 o48 o49 o5a o3f o3g o3o o3p o3q o3r o3s o3t o3u o3h o3i o3j o3k o3l o3m o3n o4c o4d o4e o4f o4g o4h o4i
end Go.Nw.Tp3
