/- The functions of a seat, as the abstract machine has them. -/
import Derived.Test.YtjpgklcdlklhbaaDoorNwI
set_option linter.all false
namespace Go.Nw.Tp4
@[go_sem] def O3 (d a : Nat) : XO := ⟨some d,none,.mv (.t a)⟩
@[go_sem] def O4 (d n a : Nat) : XO := ⟨some d,none,.load false n (.t a)⟩
@[go_sem] def O5 (d n a : Nat) : XO := ⟨some d,none,.fldA n (.t a)⟩
@[go_sem] def O6 (d n a : Nat) : XO := ⟨some d,none,.load true n (.t a)⟩
@[go_sem] def O7 (d n a b : Nat) : XO := ⟨some d,none,.ixA n (.t a) (.t b)⟩
@[go_sem] def O8 (d a : Nat) : XO := ⟨some d,none,.len false (.t a)⟩
@[go_sem] def O9 (d g : Nat) (p : Bool) (x : XOp) : XO := ⟨some d,some (g,p),x⟩
@[go_sem] def c9 (n : Int) : X := .c (.int .i64 n)
@[go_sem] def O1 (d : Nat) (x : XOp) : XO := ⟨some d,none,x⟩
@[go_sem] def O2 (x : XOp) : XO := ⟨none,none,x⟩
def b50 : List Int := [0, 1, 28, 2, 29, 14, 24, 3, 30, 22, 20, 15, 25, 17, 4, 8, 31, 27, 13, 23, 21, 19, 16, 7, 26, 12, 18, 6, 11, 5, 10, 9]
def b6h : List GC := List.map (fun n => GC.v (.int .u8 n)) b50
def u3d : List Int := [0, 1, 56, 2, 57, 49, 28, 3, 61, 58, 42, 50, 38, 29, 17, 4, 62, 47, 59, 36, 45, 43, 51, 22, 53, 39, 33, 30, 24, 18, 12, 5, 63, 55, 48, 27, 60, 41, 37, 16, 46, 35, 44, 21, 52, 32, 23, 11, 54, 26, 40, 15, 34, 20, 31, 10, 25, 14, 19, 9, 13, 8, 7, 6]
def u0n : List GC := List.map (fun n => GC.v (.int .u8 n)) u3d
theorem B18 : List.map GC.av u0n = List.map AV.v (List.map (Value.int .u8) u3d) := by unfold u0n; rw [List.map_map, List.map_map]; rfl
def B5y : List XO := [O1 3 (.boxF (.t 0)),O1 6 (.mv (.c (.bool false)))]
def B5z : List XO := [O1 19 (.fldA 2 (.tf 3)),O1 20 (.load false 1 (.tf 19)),O8 21 20,O1 22 (.bin .gtr .no (.t 21) (c9 24)),O3 23 22,O9 24 23 false (.load true 3 (.tf 3)),O9 25 23 false (.mv (.t 1)),O9 26 23 false (.call "newel/newelref03.CheckTrials" [.t 24, .t 25]),O9 27 23 false (.bin .neq .no (.t 26) (c9 0)),O1 28 (.pick (.t 23) (.c (.bool true)) (.t 27)),O3 29 28,O9 30 29 false (.mv (.t 2)),O9 31 29 false (.bin .lss .no (.t 30) (c9 0)),O1 32 (.pick (.t 29) (.c (.bool true)) (.t 31)),O3 33 32,O9 34 33 false (.mv (.t 2)),O9 35 33 false (.fldA 1 (.tf 3)),O9 36 33 false (.load false 1 (.tf 35)),O9 37 33 false (.len false (.t 36)),O9 38 33 false (.bin .geq .no (.t 34) (.t 37)),O1 39 (.pick (.t 33) (.c (.bool true)) (.t 38)),O3 40 39,O9 41 40 false (.fldA 1 (.tf 3)),O9 42 40 false (.load false 1 (.tf 41)),O9 43 40 false (.len false (.t 42)),O9 44 40 false (.bin .gtr .no (.t 43) (c9 10)),O1 45 (.pick (.t 40) (.c (.bool true)) (.t 44)),O3 46 45,O9 47 46 false (.mv (.t 1)),O9 48 46 false (.len false (.t 47)),O9 49 46 false (.bin .gtr .no (.t 48) (c9 10)),O1 50 (.pick (.t 46) (.c (.bool true)) (.t 49))]
def B59 : List XO := [O1 51 (.call "newel/neweltop.measures" []),O3 6 51]
def B6j : List XO := [O1 52 (.fldA 1 (.tf 3)),O1 53 (.load false 1 (.tf 52)),O8 54 53,O1 55 (.build [(.int .i64 0), (.slice none 0 0)] [(0, 1, (.t 54))]),O1 7 (.alloc [(.int .i64 0), (.slice none 0 0)]),O2 (.store 2 (.t 7) (.t 55))]
def B6n : List XO := [O1 8 (.mv (.c (.slice none 0 0)))]
def B6o : List XO := [O1 9 (.mv (.c (.bool false)))]
def B6p : List XO := [O1 10 (.mv (c9 0))]
def B6q : List XO := [O3 56 10,O3 57 1,O8 58 57,O1 59 (.bin .lss .no (.t 56) (.t 58))]
def B6r : List XO := [O1 63 (.load true 3 (.tf 3)),O3 64 1,O3 65 10,O1 66 (.call "newel/circuit.Shows" [.t 63, .t 64, .t 65]),O3 62 66,O1 67 (.ext (.t 62) 0),O1 68 (.ext (.t 62) 1),O3 11 67,O3 12 68]
def B6s : List XO := [O3 69 12,O1 70 (.bin .neq .no (.t 69) (c9 0))]
def B50 : List XO := [O1 6 (.mv (.c (.bool false)))]
def B51 : List XO := [O1 13 (.mv (.c (.bool false)))]
def B52 : List XO := [O1 14 (.mv (c9 0))]
def B53 : List XO := [O3 71 14,O3 72 11,O8 73 72,O1 74 (.bin .lss .no (.t 71) (.t 73))]
def B54 : List XO := [O3 77 13,O3 78 77,O9 79 78 false (.mv (.t 11)),O9 80 78 false (.mv (.t 14)),O9 81 78 false (.ixA 1 (.t 79) (.t 80)),O9 82 78 false (.load false 1 (.t 81)),O9 83 78 false (.mv (.t 2)),O9 84 78 false (.bin .eql .no (.t 82) (.t 83)),O1 85 (.pick (.t 78) (.c (.bool true)) (.t 84)),O3 13 85]
def B55 : List XO := [O3 75 14,O1 76 (.bin .add .no (.t 75) (c9 1)),O3 14 76]
def B0a : XCode :=
 (.seq (.seq (.reg B53) (.cond (.t 74) .skip (.exit 2))) (.seq (.block 3 (.reg B54)) (.reg B55)))
def B56 : List XO := [O5 86 1 7,O4 87 1 86,O3 88 11,O1 89 (.bsl 1 [.t 88]),O1 90 (.app 1 24 (.t 87) (.t 89)),O5 91 1 7,O2 (.store 1 (.t 91) (.t 90))]
def B57 : List XO := [O3 92 8,O3 93 13,O1 94 (.bsl 1 [.t 93]),O1 95 (.app 1 1 (.t 92) (.t 94)),O3 8 95]
def B58 : List XO := [O3 96 9,O3 97 96,O9 98 97 false (.mv (.t 13)),O1 99 (.pick (.t 97) (.c (.bool true)) (.t 98)),O3 9 99]
def B6a : List XO := [O3 60 10,O1 61 (.bin .add .no (.t 60) (c9 1)),O3 10 61]
def B0b : XCode :=
 (.seq (.seq (.reg B6q) (.cond (.t 59) .skip (.exit 0))) (.seq (.block 1 (.seq (.reg B6r) (.seq (.seq (.reg B6s) (.cond (.t 70) (.seq (.reg B50) .ret) .skip)) (.seq (.reg B51) (.seq (.seq (.reg B52) (.block 2 (.loop B0a))) (.seq (.reg B56) (.seq (.reg B57) (.reg B58)))))))) (.reg B6a)))
def B6b : List XO := [O6 101 2 7,O3 102 8,O1 103 (.call "newel/faults.All" [.t 101, .t 102]),O3 100 103,O1 104 (.ext (.t 100) 0),O1 105 (.ext (.t 100) 1),O3 15 104,O3 16 105]
def B6c : List XO := [O3 106 16,O1 107 (.bin .neq .no (.t 106) (c9 0)),O3 108 107,O9 109 108 false (.mv (.t 15)),O9 110 108 false (.len false (.t 109)),O9 111 108 false (.bin .eql .no (.t 110) (c9 0)),O1 112 (.pick (.t 108) (.c (.bool true)) (.t 111))]
def B6d : List XO := [O1 6 (.mv (.c (.bool false)))]
def B6e : List XO := [O1 17 (.mv (.c (.bool false)))]
def B6f : List XO := [O1 18 (.mv (c9 0))]
def B6g : List XO := [O3 113 18,O3 114 15,O8 115 114,O1 116 (.bin .lss .no (.t 113) (.t 115))]
def B6h : List XO := [O3 119 9,O3 120 119,O9 121 120 true (.mv (.t 15)),O9 122 120 true (.mv (.t 18)),O9 123 120 true (.ixA 1 (.t 121) (.t 122)),O9 124 120 true (.load false 1 (.t 123)),O9 125 120 true (.len false (.t 124)),O9 126 120 true (.bin .neq .no (.t 125) (c9 1)),O1 127 (.pick (.t 120) (.t 126) (.c (.bool false))),O3 128 127,O9 129 128 false (.mv (.t 9)),O9 130 128 false (.un .not (.t 129)),O9 131 128 false (.mv (.t 130)),O9 132 131 true (.mv (.t 15)),O9 133 131 true (.mv (.t 18)),O9 134 131 true (.ixA 1 (.t 132) (.t 133)),O9 135 131 true (.load false 1 (.t 134)),O9 136 131 true (.len false (.t 135)),O9 137 131 true (.bin .neq .no (.t 136) (c9 0)),O9 138 128 false (.pick (.t 131) (.t 137) (.c (.bool false))),O1 139 (.pick (.t 128) (.c (.bool true)) (.t 138))]
def B6i : List XO := [O1 6 (.mv (.c (.bool false)))]
def B6k : List XO := [O3 140 17,O3 141 140,O9 142 141 false (.mv (.t 9)),O9 143 141 false (.mv (.t 142)),O9 144 143 true (.mv (.t 15)),O9 145 143 true (.mv (.t 18)),O9 146 143 true (.ixA 1 (.t 144) (.t 145)),O9 147 143 true (.load false 1 (.t 146)),O9 148 143 true (.ixA 1 (.t 147) (c9 0)),O9 149 143 true (.load false 1 (.t 148)),O9 150 143 true (.mv (.t 2)),O9 151 143 true (.bin .eql .no (.t 149) (.t 150)),O9 152 141 false (.pick (.t 143) (.t 151) (.c (.bool false))),O1 153 (.pick (.t 141) (.c (.bool true)) (.t 152)),O3 17 153]
def B6l : List XO := [O3 117 18,O1 118 (.bin .add .no (.t 117) (c9 1)),O3 18 118]
def B0c : XCode :=
 (.seq (.seq (.reg B6g) (.cond (.t 116) .skip (.exit 4))) (.seq (.block 5 (.seq (.seq (.reg B6h) (.cond (.t 139) (.seq (.reg B6i) .ret) .skip)) (.reg B6k))) (.reg B6l)))
def B6m : List XO := [O3 154 17,O3 155 9,O1 156 (.bin .eql .bool (.t 154) (.t 155)),O3 157 156,O9 158 157 true (.call "newel/neweltop.measures" []),O1 159 (.pick (.t 157) (.t 158) (.c (.bool false))),O3 6 159]
def x_neweltop_TopTold : XFunc := { np := 3, res := [.t 6], body :=
 (.seq (.reg B5y) (.seq (.seq (.reg B5z) (.cond (.t 50) (.seq (.reg B59) .ret) .skip)) (.seq (.reg B6j) (.seq (.reg B6n) (.seq (.reg B6o) (.seq (.seq (.reg B6p) (.block 0 (.loop B0b))) (.seq (.seq .ghost (.seq .ghost (.reg B6b))) (.seq (.seq (.reg B6c) (.cond (.t 112) (.seq (.reg B6d) .ret) .skip)) (.seq (.reg B6e) (.seq (.seq (.reg B6f) (.block 4 (.loop B0c))) (.seq (.reg B6m) .ret))))))))))) }
def B6t : List XO := [O1 2 (.boxF (.t 0)),O1 4 (.mv (c9 0))]
def B6u : List XO := [O1 6 (.load true 3 (.tf 2)),O1 7 (.call "newel/newelref03.Check" [.t 6]),O1 8 (.bin .neq .no (.t 7) (c9 0))]
def B6w : List XO := [O1 4 (.mv (c9 30))]
def B6x : List XO := [O3 9 1,O8 10 9,O1 11 (.bin .gtr .no (.t 10) (c9 12))]
def B6y : List XO := [O1 4 (.mv (c9 2))]
def B6z : List XO := [O1 5 (.mv (c9 0))]
def B60 : List XO := [O3 12 5,O3 13 1,O8 14 13,O1 15 (.bin .lss .no (.t 12) (.t 14))]
def B61 : List XO := [O1 18 (.load true 3 (.tf 2)),O3 19 1,O3 20 5,O7 21 2 19 20,O5 22 0 21,O4 23 1 22,O1 24 (.call "newel/newelref03.Hazards" [.t 18, .t 23]),O1 25 (.un .not (.t 24)),O3 26 25,O9 27 26 false (.mv (.t 1)),O9 28 26 false (.mv (.t 5)),O9 29 26 false (.ixA 2 (.t 27) (.t 28)),O9 30 26 false (.fldA 1 (.t 29)),O9 31 26 false (.load false 1 (.t 30)),O9 32 26 false (.fldA 2 (.tf 2)),O9 33 26 false (.load false 1 (.tf 32)),O9 34 26 false (.len false (.t 33)),O9 35 26 false (.bin .sub .no (.t 34) (c9 1)),O9 36 26 false (.call "newel/newelref03.within" [.t 31, (c9 0), .t 35]),O9 37 26 false (.un .not (.t 36)),O1 38 (.pick (.t 26) (.c (.bool true)) (.t 37))]
def B62 : List XO := [O1 4 (.mv (c9 31))]
def B63 : List XO := [O3 16 5,O1 17 (.bin .add .no (.t 16) (c9 1)),O3 5 17]
def B0d : XCode :=
 (.seq (.seq (.reg B60) (.cond (.t 15) .skip (.exit 0))) (.seq (.block 1 (.seq (.reg B61) (.cond (.t 38) (.seq (.reg B62) .ret) .skip))) (.reg B63)))
def B6v : List XO := [O1 4 (.mv (c9 0))]
def x_r03_CheckTrials : XFunc := { np := 2, res := [.t 4], body :=
 (.seq (.reg B6t) (.seq (.seq (.reg B6u) (.cond (.t 8) (.seq (.reg B6w) .ret) .skip)) (.seq (.seq (.reg B6x) (.cond (.t 11) (.seq (.reg B6y) .ret) .skip)) (.seq (.seq (.reg B6z) (.block 0 (.loop B0d))) (.seq (.reg B6v) .ret))))) }
def B4n : List XO := [O1 3 (.boxF (.t 0)),O1 6 (.mv (.c (.slice none 0 0))),O1 7 (.mv (c9 0))]
def B4o : List XO := [O1 9 (.load true 3 (.tf 3)),O3 10 1,O1 11 (.call "newel/circuit.check" [.t 9, .t 10]),O3 8 11]
def B4p : List XO := [O3 12 8,O1 13 (.bin .neq .no (.t 12) (c9 0))]
def B4q : List XO := [O3 14 8,O1 6 (.mv (.c (.slice none 0 0))),O3 7 14]
def B4r : List XO := [O3 15 2,O1 16 (.bin .lss .no (.t 15) (c9 0)),O3 17 16,O9 18 17 false (.mv (.t 2)),O9 19 17 false (.mv (.t 1)),O9 20 17 false (.len false (.t 19)),O9 21 17 false (.bin .geq .no (.t 18) (.t 20)),O1 22 (.pick (.t 17) (.c (.bool true)) (.t 21))]
def B4s : List XO := [O1 6 (.mv (.c (.slice none 0 0))),O1 7 (.mv (c9 1))]
def B4t : List XO := [O1 23 (.load true 3 (.tf 3)),O3 24 1,O3 25 2,O7 26 2 24 25,O6 27 2 26,O1 28 (.call "newel/circuit.shown" [.t 23, .t 27]),O1 29 (.call "newel/circuit.elements" [.t 28]),O3 6 29,O1 7 (.mv (c9 0))]
def x_circuit_Shows : XFunc := { np := 3, res := [.t 6, .t 7], body :=
 (.seq (.reg B4n) (.seq (.seq (.reg B4o) (.seq (.reg B4p) (.cond (.t 13) (.seq (.reg B4q) .ret) .skip))) (.seq (.seq (.reg B4r) (.cond (.t 22) (.seq (.reg B4s) .ret) .skip)) (.seq (.reg B4t) .ret)))) }
def B5n : List XO := [O1 2 (.boxF (.t 0)),O1 4 (.mv (.c (.slice none 0 0))),O1 5 (.mv (c9 0))]
def B5o : List XO := [O1 10 (.load true 2 (.tf 2)),O3 11 1,O1 12 (.call "newel/faults.plant" [.t 10, .t 11]),O3 6 12]
def B5q : List XO := [O3 13 6,O1 14 (.bin .neq .no (.t 13) (c9 0))]
def B5r : List XO := [O3 15 6,O1 4 (.mv (.c (.slice none 0 0))),O3 5 15]
def B5s : List XO := [O1 7 (.mv (.c (.slice none 0 0)))]
def B5t : List XO := [O1 16 (.load true 2 (.tf 2)),O3 17 1,O1 18 (.call "newel/faults.fewest" [.t 16, .t 17]),O8 19 18,O1 20 (.mv (c9 0))]
def B5u : List XO := [O1 21 (.bin .lss .no (.t 20) (.t 19))]
def B5v : List XO := [O7 22 1 18 20,O4 23 1 22,O3 9 23]
def B5w : List XO := [O3 24 7,O3 25 9,O1 26 (.call "newel/faults.members" [.t 25]),O1 27 (.bsl 1 [.t 26]),O1 28 (.app 1 24 (.t 24) (.t 27)),O3 7 28]
def B5x : List XO := [O1 29 (.bin .add .no (.t 20) (c9 1)),O3 20 29]
def z99 : XCode :=
 (.seq (.reg B5u) (.seq (.cond (.t 21) .skip (.exit 0)) (.seq (.block 1 (.seq (.reg B5v) (.reg B5w))) (.reg B5x))))
def B5p : List XO := [O3 30 7,O3 4 30,O1 5 (.mv (c9 0))]
def x_faults_All : XFunc := { np := 2, res := [.t 4, .t 5], body :=
 (.seq (.reg B5n) (.seq (.seq (.reg B5o) (.seq (.reg B5q) (.cond (.t 14) (.seq (.reg B5r) .ret) .skip))) (.seq (.reg B5s) (.seq (.seq (.reg B5t) (.block 0 (.loop z99))) (.seq (.reg B5p) .ret))))) }
def B64 : List XO := [O1 1 (.boxF (.t 0)),O1 2 (.mv (c9 0))]
def B65 : List XO := [O1 10 (.fldA 0 (.tf 1)),O1 11 (.load false 1 (.tf 10)),O1 12 (.call "newel/newelref03.within" [.t 11, (c9 1), (c9 8)]),O1 13 (.un .not (.t 12)),O3 14 13,O9 15 14 false (.fldA 1 (.tf 1)),O9 16 14 false (.load false 1 (.tf 15)),O9 17 14 false (.len false (.t 16)),O9 18 14 false (.call "newel/newelref03.within" [.t 17, (c9 1), (c9 12)]),O9 19 14 false (.un .not (.t 18)),O1 20 (.pick (.t 14) (.c (.bool true)) (.t 19)),O3 21 20,O9 22 21 false (.fldA 2 (.tf 1)),O9 23 21 false (.load false 1 (.tf 22)),O9 24 21 false (.len false (.t 23)),O9 25 21 false (.call "newel/newelref03.within" [.t 24, (c9 1), (c9 24)]),O9 26 21 false (.un .not (.t 25)),O1 27 (.pick (.t 21) (.c (.bool true)) (.t 26))]
def B7g : List XO := [O1 2 (.mv (c9 30))]
def B7q : List XO := [O1 3 (.mv (c9 0))]
def B7z : List XO := [O3 28 3,O1 29 (.fldA 1 (.tf 1)),O1 30 (.load false 1 (.tf 29)),O8 31 30,O1 32 (.bin .lss .no (.t 28) (.t 31))]
def B70 : List XO := [O1 35 (.fldA 1 (.tf 1)),O1 36 (.load false 1 (.tf 35)),O3 37 3,O7 38 1 36 37,O4 39 1 38,O1 40 (.fldA 0 (.tf 1)),O1 41 (.load false 1 (.tf 40)),O1 42 (.cvtI .u64 (.t 41)),O1 43 (.bin .shl .no (c9 1) (.t 42)),O1 44 (.bin .sub .no (.t 43) (c9 1)),O1 45 (.call "newel/newelref03.within" [.t 39, (c9 0), .t 44]),O1 46 (.un .not (.t 45))]
def B71 : List XO := [O1 2 (.mv (c9 30))]
def B72 : List XO := [O3 33 3,O1 34 (.bin .add .no (.t 33) (c9 1)),O3 3 34]
def B0h : XCode :=
 (.seq (.seq (.reg B7z) (.cond (.t 32) .skip (.exit 0))) (.seq (.block 1 (.seq (.reg B70) (.cond (.t 46) (.seq (.reg B71) .ret) .skip))) (.reg B72)))
def B73 : List XO := [O1 47 (.fldA 2 (.tf 1)),O1 48 (.load false 1 (.tf 47)),O8 49 48,O1 50 (.mksl 1 [(.int .i64 0)] 8 (.t 49) (.t 49)),O3 4 50]
def B66 : List XO := [O1 5 (.mv (c9 0))]
def B67 : List XO := [O3 51 5,O1 52 (.fldA 2 (.tf 1)),O1 53 (.load false 1 (.tf 52)),O8 54 53,O1 55 (.bin .lss .no (.t 51) (.t 54))]
def B68 : List XO := [O1 58 (.fldA 2 (.tf 1)),O1 59 (.load false 1 (.tf 58)),O3 60 5,O7 61 2 59 60,O6 62 2 61,O1 6 (.alloc [(.int .i64 0), (.slice none 0 0)]),O2 (.store 2 (.t 6) (.t 62))]
def B69 : List XO := [O5 63 0 6,O4 64 1 63]
def B7a : List XO := [O1 66 (.bin .eql .no (.t 64) (c9 1)),O3 65 66]
def B7b : List XO := [O5 67 1 6,O4 68 1 67,O8 69 68,O1 70 (.bin .neq .no (.t 69) (c9 1)),O3 71 70,O9 72 71 false (.fldA 1 (.t 6)),O9 73 71 false (.load false 1 (.t 72)),O9 74 71 false (.ixA 1 (.t 73) (c9 0)),O9 75 71 false (.load false 1 (.t 74)),O9 76 71 false (.fldA 1 (.tf 1)),O9 77 71 false (.load false 1 (.tf 76)),O9 78 71 false (.len false (.t 77)),O9 79 71 false (.bin .sub .no (.t 78) (c9 1)),O9 80 71 false (.call "newel/newelref03.within" [.t 75, (c9 0), .t 79]),O9 81 71 false (.un .not (.t 80)),O1 82 (.pick (.t 71) (.c (.bool true)) (.t 81))]
def B7c : List XO := [O1 2 (.mv (c9 30))]
def B7d : List XO := [O1 84 (.bin .eql .no (.t 64) (c9 2)),O3 83 84]
def B7e : List XO := [O1 85 (.bin .eql .no (.t 64) (c9 3)),O3 83 85]
def B7f : List XO := [O5 86 1 6,O4 87 1 86,O8 88 87,O1 89 (.call "newel/newelref03.within" [.t 88, (c9 1), (c9 8)]),O1 90 (.un .not (.t 89))]
def B7h : List XO := [O1 2 (.mv (c9 30))]
def B7i : List XO := [O3 91 5,O3 7 91]
def B7j : List XO := [O1 8 (.mv (c9 0))]
def B7k : List XO := [O3 92 8,O5 93 1 6,O4 94 1 93,O8 95 94,O1 96 (.bin .lss .no (.t 92) (.t 95))]
def B7l : List XO := [O5 99 1 6,O4 100 1 99,O3 101 8,O7 102 1 100 101,O4 103 1 102,O3 104 7,O1 105 (.bin .add .no (.t 104) (c9 1)),O1 106 (.fldA 2 (.tf 1)),O1 107 (.load false 1 (.tf 106)),O8 108 107,O1 109 (.bin .sub .no (.t 108) (c9 1)),O1 110 (.call "newel/newelref03.within" [.t 103, .t 105, .t 109]),O1 111 (.un .not (.t 110))]
def B7m : List XO := [O1 2 (.mv (c9 30))]
def B7n : List XO := [O5 112 1 6,O4 113 1 112,O3 114 8,O7 115 1 113 114,O4 116 1 115,O3 7 116]
def B7o : List XO := [O3 117 4,O3 118 7,O7 119 1 117 118,O4 120 1 119,O1 121 (.bin .add .no (.t 120) (c9 1)),O7 122 1 117 118,O2 (.store 1 (.t 122) (.t 121))]
def B7p : List XO := [O3 97 8,O1 98 (.bin .add .no (.t 97) (c9 1)),O3 8 98]
def B0e : XCode :=
 (.seq (.seq (.reg B7k) (.cond (.t 96) .skip (.exit 5))) (.seq (.block 6 (.seq (.seq (.reg B7l) (.cond (.t 111) (.seq (.reg B7m) .ret) .skip)) (.seq (.reg B7n) (.reg B7o)))) (.reg B7p)))
def B7r : List XO := [O1 2 (.mv (c9 30))]
def B7s : List XO := [O3 56 5,O1 57 (.bin .add .no (.t 56) (c9 1)),O3 5 57]
def B0f : XCode :=
 (.seq (.seq (.reg B67) (.cond (.t 55) .skip (.exit 2))) (.seq (.block 3 (.seq (.reg B68) (.seq (.reg B69) (.block 4 (.seq (.reg B7a) (.cond (.t 65) (.seq (.reg B7b) (.cond (.t 82) (.seq (.reg B7c) .ret) .skip)) (.seq (.seq (.reg B7d) (.cond (.t 83) .skip (.reg B7e))) (.cond (.t 83) (.seq (.seq (.reg B7f) (.cond (.t 90) (.seq (.reg B7h) .ret) .skip)) (.seq (.reg B7i) (.seq (.reg B7j) (.block 5 (.loop B0e))))) (.seq (.reg B7r) .ret))))))))) (.reg B7s)))
def B7t : List XO := [O1 9 (.mv (c9 1))]
def B7u : List XO := [O3 123 9,O3 124 4,O8 125 124,O1 126 (.bin .lss .no (.t 123) (.t 125))]
def B7v : List XO := [O3 129 4,O3 130 9,O7 131 1 129 130,O4 132 1 131,O1 133 (.bin .neq .no (.t 132) (c9 1))]
def B7w : List XO := [O1 2 (.mv (c9 30))]
def B7x : List XO := [O3 127 9,O1 128 (.bin .add .no (.t 127) (c9 1)),O3 9 128]
def B0g : XCode :=
 (.seq (.seq (.reg B7u) (.cond (.t 126) .skip (.exit 7))) (.seq (.block 8 (.seq (.reg B7v) (.cond (.t 133) (.seq (.reg B7w) .ret) .skip))) (.reg B7x)))
def B7y : List XO := [O1 2 (.mv (c9 0))]
def x_r03_Check : XFunc := { np := 1, res := [.t 2], body :=
 (.seq (.reg B64) (.seq (.seq (.reg B65) (.cond (.t 27) (.seq (.reg B7g) .ret) .skip)) (.seq (.seq (.reg B7q) (.block 0 (.loop B0h))) (.seq (.reg B73) (.seq (.seq (.reg B66) (.block 2 (.loop B0f))) (.seq (.seq (.reg B7t) (.block 7 (.loop B0g))) (.seq (.reg B7y) .ret))))))) }
def B74 : List XO := [O1 2 (.boxF (.t 0)),O1 4 (.mv (.c (.bool false)))]
def B75 : List XO := [O3 5 1,O1 6 (.fldA 0 (.tf 2)),O1 7 (.load false 1 (.tf 6)),O1 8 (.cvtI .u64 (.t 7)),O1 9 (.bin .shl .no (c9 1) (.t 8)),O1 10 (.bin .sub .no (.t 9) (c9 1)),O1 11 (.call "newel/newelref03.within" [.t 5, (c9 0), .t 10]),O3 4 11]
def x_r03_Hazards : XFunc := { np := 2, res := [.t 4], body :=
 (.seq (.reg B74) (.seq (.reg B75) .ret)) }
def B76 : List XO := [O1 6 (.mv (.c (.bool false)))]
def B77 : List XO := [O3 7 0,O3 8 1,O1 9 (.bin .geq .no (.t 7) (.t 8)),O3 10 9,O9 11 10 true (.mv (.t 0)),O9 12 10 true (.mv (.t 2)),O9 13 10 true (.bin .leq .no (.t 11) (.t 12)),O1 14 (.pick (.t 10) (.t 13) (.c (.bool false))),O3 6 14]
def x_r03_within : XFunc := { np := 3, res := [.t 6], body :=
 (.seq (.reg B76) (.seq (.reg B77) .ret)) }
def B4u : List XO := [O1 2 (.boxF (.t 0)),O1 4 (.mv (c9 0))]
def B4v : List XO := [O1 8 (.load true 3 (.tf 2)),O1 9 (.call "newel/circuit.Check" [.t 8]),O3 5 9]
def B4z : List XO := [O3 10 5,O1 11 (.bin .neq .no (.t 10) (c9 0))]
def B40 : List XO := [O3 12 5,O3 4 12]
def B41 : List XO := [O3 13 1,O8 14 13,O1 15 (.bin .gtr .no (.t 14) (c9 12))]
def B42 : List XO := [O1 4 (.mv (c9 2))]
def B43 : List XO := [O3 16 1,O8 17 16,O1 18 (.mv (c9 0))]
def B44 : List XO := [O1 19 (.bin .lss .no (.t 18) (.t 17))]
def B45 : List XO := [O7 20 2 16 18,O6 21 2 20,O1 7 (.alloc [(.int .i64 0), (.int .i64 0)]),O2 (.store 2 (.t 7) (.t 21))]
def B46 : List XO := [O5 22 0 7,O4 23 1 22,O1 24 (.fldA 0 (.tf 2)),O1 25 (.load false 1 (.tf 24)),O1 26 (.call "newel/circuit.isSet" [.t 23, .t 25]),O1 27 (.un .not (.t 26)),O3 28 27,O9 29 28 false (.fldA 1 (.t 7)),O9 30 28 false (.load false 1 (.t 29)),O9 31 28 false (.bin .lss .no (.t 30) (c9 0)),O1 32 (.pick (.t 28) (.c (.bool true)) (.t 31)),O3 33 32,O9 34 33 false (.fldA 1 (.t 7)),O9 35 33 false (.load false 1 (.t 34)),O9 36 33 false (.fldA 2 (.tf 2)),O9 37 33 false (.load false 1 (.tf 36)),O9 38 33 false (.len false (.t 37)),O9 39 33 false (.bin .geq .no (.t 35) (.t 38)),O1 40 (.pick (.t 33) (.c (.bool true)) (.t 39))]
def B4w : List XO := [O1 4 (.mv (c9 31))]
def B4x : List XO := [O1 41 (.bin .add .no (.t 18) (c9 1)),O3 18 41]
def z96 : XCode :=
 (.seq (.reg B44) (.seq (.cond (.t 19) .skip (.exit 0)) (.seq (.block 1 (.seq (.reg B45) (.seq (.reg B46) (.cond (.t 40) (.seq (.reg B4w) .ret) .skip)))) (.reg B4x))))
def B4y : List XO := [O1 4 (.mv (c9 0))]
def x_circuit_check : XFunc := { np := 2, res := [.t 4], body :=
 (.seq (.reg B4u) (.seq (.seq (.reg B4v) (.seq (.reg B4z) (.cond (.t 11) (.seq (.reg B40) .ret) .skip))) (.seq (.seq (.reg B41) (.cond (.t 15) (.seq (.reg B42) .ret) .skip)) (.seq (.seq (.reg B43) (.block 0 (.loop z96))) (.seq (.reg B4y) .ret))))) }
def B47 : List XO := [O1 2 (.mv (.c (.slice none 0 0)))]
def B48 : List XO := [O3 3 0,O1 4 (.bin .neq .no (.t 3) (c9 0))]
def B49 : List XO := [O3 9 2,O3 10 0,O1 11 (.cvtI .u64 (.t 10)),O1 12 (.call "math/bits.TrailingZeros" [.t 11]),O1 13 (.bsl 1 [.t 12]),O1 14 (.app 1 8 (.t 9) (.t 13)),O3 2 14]
def B5a : List XO := [O3 5 0,O3 6 0,O1 7 (.bin .sub .no (.t 6) (c9 1)),O1 8 (.bin .and .no (.t 5) (.t 7)),O3 0 8]
def z97 : XCode :=
 (.seq (.seq (.reg B48) (.cond (.t 4) .skip (.exit 0))) (.seq (.block 1 (.reg B49)) (.reg B5a)))
def B5b : List XO := [O3 15 2,O3 2 15]
def x_circuit_elements : XFunc := { np := 1, res := [.t 2], body :=
 (.seq (.reg B47) (.seq (.block 0 (.loop z97)) (.seq (.reg B5b) .ret))) }
def B5c : List XO := [O1 2 (.boxF (.t 0)),O1 3 (.boxF (.t 1)),O1 4 (.mv (c9 0))]
def B5d : List XO := [O1 6 (.fldA 1 (.tf 2)),O1 7 (.load false 1 (.tf 6)),O8 8 7,O1 9 (.mv (c9 0))]
def B5e : List XO := [O1 10 (.bin .lss .no (.t 9) (.t 8))]
def B5f : List XO := [O3 11 9,O3 5 11]
def B5g : List XO := [O1 12 (.load true 3 (.tf 2)),O1 13 (.load true 2 (.tf 3)),O3 14 5,O1 15 (.bin .shl .no (c9 1) (.t 14)),O1 16 (.call "newel/circuit.shows" [.t 12, .t 13, .t 15])]
def B5h : List XO := [O3 17 4,O3 18 5,O1 19 (.bin .shl .no (c9 1) (.t 18)),O1 20 (.bin .or .no (.t 17) (.t 19)),O3 4 20]
def B5i : List XO := [O1 21 (.bin .add .no (.t 9) (c9 1)),O3 9 21]
def z98 : XCode :=
 (.seq (.reg B5e) (.seq (.cond (.t 10) .skip (.exit 0)) (.seq (.block 1 (.seq (.reg B5f) (.seq (.reg B5g) (.cond (.t 16) (.reg B5h) .skip)))) (.reg B5i))))
def B5j : List XO := [O3 22 4,O3 4 22]
def x_circuit_shown : XFunc := { np := 2, res := [.t 4], body :=
 (.seq (.reg B5c) (.seq (.seq (.reg B5d) (.block 0 (.loop z98))) (.seq (.reg B5j) .ret))) }
def v53 : List XO := [O1 2 (.boxF (.t 0)),O1 4 (.mv (c9 0))]
def v54 : List XO := [O1 10 (.fldA 0 (.tf 2)),O1 11 (.load false 1 (.tf 10)),O1 12 (.call "newel/faults.within" [.t 11, (c9 0), (c9 10)]),O1 13 (.un .not (.t 12)),O3 14 13,O9 15 14 false (.fldA 1 (.tf 2)),O9 16 14 false (.load false 1 (.tf 15)),O9 17 14 false (.len false (.t 16)),O9 18 14 false (.bin .gtr .no (.t 17) (c9 10)),O1 19 (.pick (.t 14) (.c (.bool true)) (.t 18))]
def v6d : List XO := [O1 4 (.mv (c9 101))]
def v6e : List XO := [O1 20 (.fldA 1 (.tf 2)),O1 21 (.load false 1 (.tf 20)),O8 22 21,O1 23 (.mv (c9 0))]
def v6f : List XO := [O1 24 (.bin .lss .no (.t 23) (.t 22))]
def v6g : List XO := [O7 25 1 21 23,O4 26 1 25,O3 6 26]
def v6h : List XO := [O1 7 (.mv (.c (.int .i64 (-1))))]
def v6i : List XO := [O3 27 6,O8 28 27,O1 29 (.mv (c9 0))]
def v6j : List XO := [O1 30 (.bin .lss .no (.t 29) (.t 28))]
def v6k : List XO := [O7 31 1 27 29,O4 32 1 31,O3 9 32]
def v55 : List XO := [O3 33 9,O3 34 7,O1 35 (.bin .add .no (.t 34) (c9 1)),O1 36 (.fldA 0 (.tf 2)),O1 37 (.load false 1 (.tf 36)),O1 38 (.bin .sub .no (.t 37) (c9 1)),O1 39 (.call "newel/faults.within" [.t 33, .t 35, .t 38]),O1 40 (.un .not (.t 39))]
def v56 : List XO := [O1 4 (.mv (c9 101))]
def v57 : List XO := [O3 41 9,O3 7 41]
def v58 : List XO := [O1 42 (.bin .add .no (.t 29) (c9 1)),O3 29 42]
def v6l : XCode :=
 (.seq (.reg v6j) (.seq (.cond (.t 30) .skip (.exit 2)) (.seq (.block 3 (.seq (.reg v6k) (.seq (.seq (.reg v55) (.cond (.t 40) (.seq (.reg v56) .ret) .skip)) (.reg v57)))) (.reg v58))))
def v59 : List XO := [O1 43 (.bin .add .no (.t 23) (c9 1)),O3 23 43]
def v6m : XCode :=
 (.seq (.reg v6f) (.seq (.cond (.t 24) .skip (.exit 0)) (.seq (.block 1 (.seq (.reg v6g) (.seq (.reg v6h) (.seq (.reg v6i) (.block 2 (.loop v6l)))))) (.reg v59))))
def v6a : List XO := [O3 44 1,O8 45 44,O1 46 (.fldA 1 (.tf 2)),O1 47 (.load false 1 (.tf 46)),O8 48 47,O1 49 (.bin .neq .no (.t 45) (.t 48))]
def v6b : List XO := [O1 4 (.mv (c9 1))]
def v6c : List XO := [O1 4 (.mv (c9 0))]
def x_faults_plant : XFunc := { np := 2, res := [.t 4], body :=
 (.seq (.reg v53) (.seq (.seq (.reg v54) (.cond (.t 19) (.seq (.reg v6d) .ret) .skip)) (.seq (.seq (.reg v6e) (.block 0 (.loop v6m))) (.seq (.seq (.reg v6a) (.cond (.t 49) (.seq (.reg v6b) .ret) .skip)) (.seq (.reg v6c) .ret))))) }
def v5i : List XO := [O1 2 (.boxF (.t 0)),O1 4 (.mv (.c (.slice none 0 0)))]
def v5j : List XO := [O1 5 (.mv (.c (.slice none 0 0)))]
def v5n : List XO := [O1 8 (.fldA 0 (.tf 2)),O1 9 (.load false 1 (.tf 8)),O1 10 (.bin .shl .no (c9 1) (.t 9)),O1 11 (.mv (c9 0))]
def v5o : List XO := [O1 12 (.bin .lss .no (.t 11) (.t 10))]
def v5p : List XO := [O3 13 11,O3 6 13]
def v5q : List XO := [O1 14 (.load true 2 (.tf 2)),O3 15 1,O3 16 6,O1 17 (.call "newel/faults.explained" [.t 14, .t 15, .t 16]),O3 7 17]
def v5r : List XO := [O3 19 5,O8 20 19,O1 21 (.bin .eql .no (.t 20) (c9 0)),O3 22 21,O9 23 22 false (.mv (.t 7)),O9 24 22 false (.cvtI .u64 (.t 23)),O9 25 22 false (.call "math/bits.OnesCount" [.t 24]),O9 26 22 false (.mv (.t 5)),O9 27 22 false (.ixA 1 (.t 26) (c9 0)),O9 28 22 false (.load false 1 (.t 27)),O9 29 22 false (.cvtI .u64 (.t 28)),O9 30 22 false (.call "math/bits.OnesCount" [.t 29]),O9 31 22 false (.bin .lss .no (.t 25) (.t 30)),O1 32 (.pick (.t 22) (.c (.bool true)) (.t 31)),O3 18 32]
def v5s : List XO := [O3 33 7,O1 34 (.bsl 1 [.t 33]),O3 5 34]
def v5t : List XO := [O3 36 7,O1 37 (.cvtI .u64 (.t 36)),O1 38 (.call "math/bits.OnesCount" [.t 37]),O3 39 5,O1 40 (.ixA 1 (.t 39) (c9 0)),O4 41 1 40,O1 42 (.cvtI .u64 (.t 41)),O1 43 (.call "math/bits.OnesCount" [.t 42]),O1 44 (.bin .eql .no (.t 38) (.t 43)),O3 35 44]
def v5u : List XO := [O3 45 5,O3 46 7,O1 47 (.bsl 1 [.t 46]),O1 48 (.app 1 8 (.t 45) (.t 47)),O3 5 48]
def v5k : List XO := [O1 49 (.bin .add .no (.t 11) (c9 1)),O3 11 49]
def v5v : XCode :=
 (.seq (.reg v5o) (.seq (.cond (.t 12) .skip (.exit 0)) (.seq (.block 1 (.seq (.reg v5p) (.seq (.reg v5q) (.block 2 (.seq (.reg v5r) (.cond (.t 18) (.reg v5s) (.seq (.reg v5t) (.cond (.t 35) (.reg v5u) .skip)))))))) (.reg v5k))))
def v5l : List XO := [O3 50 5,O1 51 (.callw "slices.SortFunc[[]int,int]" [.t 50, (.f "newel/faults.fewest$1")])]
def v5m : List XO := [O3 52 5,O3 4 52]
def x_faults_fewest : XFunc := { np := 2, res := [.t 4], body :=
 (.seq (.reg v5i) (.seq (.reg v5j) (.seq (.seq (.reg v5n) (.block 0 (.loop v5v))) (.seq (.reg v5l) (.seq (.reg v5m) .ret))))) }
def v5w : List XO := [O1 2 (.mv (.c (.slice none 0 0)))]
def v5x : List XO := [O1 3 (.mv (.c (.slice none 0 0)))]
def v5y : List XO := [O3 4 0,O1 5 (.bin .neq .no (.t 4) (c9 0))]
def v5z : List XO := [O3 10 3,O3 11 0,O1 12 (.cvtI .u64 (.t 11)),O1 13 (.call "math/bits.TrailingZeros" [.t 12]),O1 14 (.bsl 1 [.t 13]),O1 15 (.app 1 8 (.t 10) (.t 14)),O3 3 15]
def v50 : List XO := [O3 6 0,O3 7 0,O1 8 (.bin .sub .no (.t 7) (c9 1)),O1 9 (.bin .and .no (.t 6) (.t 8)),O3 0 9]
def v52 : XCode :=
 (.seq (.seq (.reg v5y) (.cond (.t 5) .skip (.exit 0))) (.seq (.block 1 (.reg v5z)) (.reg v50)))
def v51 : List XO := [O3 16 3,O3 2 16]
def x_faults_members : XFunc := { np := 1, res := [.t 2], body :=
 (.seq (.reg v5w) (.seq (.reg v5x) (.seq (.block 0 (.loop v52)) (.seq (.reg v51) .ret)))) }
def y1x : List XO := [O1 1 (.boxF (.t 0)),O1 2 (.mv (c9 0))]
def y1y : List XO := [O1 9 (.fldA 0 (.tf 1)),O1 10 (.load false 1 (.tf 9)),O1 11 (.bin .geq .no (.t 10) (c9 1)),O3 12 11,O9 13 12 true (.fldA 0 (.tf 1)),O9 14 12 true (.load false 1 (.tf 13)),O9 15 12 true (.bin .leq .no (.t 14) (c9 8)),O1 16 (.pick (.t 12) (.t 15) (.c (.bool false))),O1 17 (.fldA 1 (.tf 1)),O1 18 (.load false 1 (.tf 17)),O8 19 18,O1 20 (.bin .geq .no (.t 19) (c9 1)),O3 21 20,O9 22 21 true (.fldA 1 (.tf 1)),O9 23 21 true (.load false 1 (.tf 22)),O9 24 21 true (.len false (.t 23)),O9 25 21 true (.bin .leq .no (.t 24) (c9 12)),O1 26 (.pick (.t 21) (.t 25) (.c (.bool false))),O1 27 (.fldA 2 (.tf 1)),O1 28 (.load false 1 (.tf 27)),O8 29 28,O1 30 (.bin .geq .no (.t 29) (c9 1)),O3 31 30,O9 32 31 true (.fldA 2 (.tf 1)),O9 33 31 true (.load false 1 (.tf 32)),O9 34 31 true (.len false (.t 33)),O9 35 31 true (.bin .leq .no (.t 34) (c9 24)),O1 36 (.pick (.t 31) (.t 35) (.c (.bool false))),O1 37 (.bsl 1 [.t 16, .t 26, .t 36]),O3 3 37]
def y2g : List XO := [O3 38 3,O1 39 (.call "slices.Contains[[]bool,bool]" [.t 38, (.c (.bool false))]),O3 40 39,O9 41 40 false (.fldA 1 (.tf 1)),O9 42 40 false (.load false 1 (.tf 41)),O9 43 40 false (.mkfn "newel/circuit.Check$1" [] [.t 1]),O9 44 40 false (.call "slices.ContainsFunc[[]int,int]" [.t 42, .t 43]),O1 45 (.pick (.t 40) (.c (.bool true)) (.t 44))]
def y2n : List XO := [O1 2 (.mv (c9 30))]
def y2o : List XO := [O1 46 (.fldA 2 (.tf 1)),O1 47 (.load false 1 (.tf 46)),O8 48 47,O1 49 (.mksl 1 [(.int .i64 0)] 8 (.t 48) (.t 48)),O3 4 49]
def y2p : List XO := [O1 50 (.fldA 2 (.tf 1)),O1 51 (.load false 1 (.tf 50)),O8 52 51,O1 53 (.mv (c9 0))]
def y2q : List XO := [O1 54 (.bin .lss .no (.t 53) (.t 52))]
def y2r : List XO := [O3 55 53,O7 56 2 51 53,O6 57 2 56,O1 6 (.alloc [(.int .i64 0), (.slice none 0 0)]),O3 5 55,O2 (.store 2 (.t 6) (.t 57))]
def y2s : List XO := [O5 58 0 6,O4 59 1 58]
def y2t : List XO := [O1 61 (.bin .eql .no (.t 59) (c9 1)),O3 60 61]
def y1z : List XO := [O5 62 1 6,O4 63 1 62,O8 64 63,O1 65 (.bin .neq .no (.t 64) (c9 1)),O3 66 65,O9 67 66 false (.fldA 1 (.t 6)),O9 68 66 false (.load false 1 (.t 67)),O9 69 66 false (.fldA 1 (.tf 1)),O9 70 66 false (.load false 1 (.tf 69)),O9 71 66 false (.len false (.t 70)),O9 72 66 false (.call "newel/circuit.ascending" [.t 68, (c9 0), .t 71]),O9 73 66 false (.un .not (.t 72)),O1 74 (.pick (.t 66) (.c (.bool true)) (.t 73))]
def B4m : List XO := [O1 2 (.mv (c9 30))]
def y8h : List XO := [O1 76 (.bin .eql .no (.t 59) (c9 2)),O3 75 76]
def y95 : List XO := [O1 77 (.bin .eql .no (.t 59) (c9 3)),O3 75 77]
def y2a : List XO := [O5 78 1 6,O4 79 1 78,O8 80 79,O1 81 (.bin .lss .no (.t 80) (c9 1)),O3 82 81,O9 83 82 false (.fldA 1 (.t 6)),O9 84 82 false (.load false 1 (.t 83)),O9 85 82 false (.len false (.t 84)),O9 86 82 false (.bin .gtr .no (.t 85) (c9 8)),O1 87 (.pick (.t 82) (.c (.bool true)) (.t 86)),O3 88 87,O9 89 88 false (.fldA 1 (.t 6)),O9 90 88 false (.load false 1 (.t 89)),O9 91 88 false (.mv (.t 5)),O9 92 88 false (.bin .add .no (.t 91) (c9 1)),O9 93 88 false (.fldA 2 (.tf 1)),O9 94 88 false (.load false 1 (.tf 93)),O9 95 88 false (.len false (.t 94)),O9 96 88 false (.call "newel/circuit.ascending" [.t 90, .t 92, .t 95]),O9 97 88 false (.un .not (.t 96)),O1 98 (.pick (.t 88) (.c (.bool true)) (.t 97))]
def y2b : List XO := [O1 2 (.mv (c9 30))]
def y2c : List XO := [O5 99 1 6,O4 100 1 99,O8 101 100,O1 102 (.mv (c9 0))]
def y2d : List XO := [O1 103 (.bin .lss .no (.t 102) (.t 101))]
def y2e : List XO := [O7 104 1 100 102,O4 105 1 104,O3 8 105]
def y2f : List XO := [O3 106 4,O3 107 8,O7 108 1 106 107,O4 109 1 108,O1 110 (.bin .add .no (.t 109) (c9 1)),O7 111 1 106 107,O2 (.store 1 (.t 111) (.t 110))]
def y2h : List XO := [O1 112 (.bin .add .no (.t 102) (c9 1)),O3 102 112]
def y2u : XCode :=
 (.seq (.reg y2d) (.seq (.cond (.t 103) .skip (.exit 3)) (.seq (.block 4 (.seq (.reg y2e) (.reg y2f))) (.reg y2h))))
def y2i : List XO := [O1 2 (.mv (c9 30))]
def y2j : List XO := [O1 113 (.bin .add .no (.t 53) (c9 1)),O3 53 113]
def y2v : XCode :=
 (.seq (.reg y2q) (.seq (.cond (.t 54) .skip (.exit 0)) (.seq (.block 1 (.seq (.reg y2r) (.seq (.reg y2s) (.block 2 (.seq (.reg y2t) (.cond (.t 60) (.seq (.reg y1z) (.cond (.t 74) (.seq (.reg B4m) .ret) .skip)) (.seq (.seq (.reg y8h) (.cond (.t 75) .skip (.reg y95))) (.cond (.t 75) (.seq (.seq (.reg y2a) (.cond (.t 98) (.seq (.reg y2b) .ret) .skip)) (.seq (.reg y2c) (.block 3 (.loop y2u)))) (.seq (.reg y2i) .ret))))))))) (.reg y2j))))
def y2k : List XO := [O3 114 4,O1 115 (.ixA 1 (.t 114) (c9 0)),O4 116 1 115,O1 117 (.bin .neq .no (.t 116) (c9 0)),O3 118 117,O9 119 118 false (.mv (.t 4)),O9 120 118 false (.slc 1 (.t 119) (some (c9 1)) none),O9 121 118 false (.call "slices.ContainsFunc[[]int,int]" [.t 120, (.f "newel/circuit.Check$2")]),O1 122 (.pick (.t 118) (.c (.bool true)) (.t 121))]
def y2l : List XO := [O1 2 (.mv (c9 30))]
def y2m : List XO := [O1 2 (.mv (c9 0))]
def x_circuit_Check : XFunc := { np := 1, res := [.t 2], body :=
 (.seq (.reg y1x) (.seq (.reg y1y) (.seq (.seq (.reg y2g) (.cond (.t 45) (.seq (.reg y2n) .ret) .skip)) (.seq (.reg y2o) (.seq (.seq (.reg y2p) (.block 0 (.loop y2v))) (.seq (.seq (.seq .ghost (.reg y2k)) (.cond (.t 122) (.seq (.reg y2l) .ret) .skip)) (.seq (.reg y2m) .ret))))))) }
def y4a : List XO := [O1 4 (.mv (.c (.bool false)))]
def y4b : List XO := [O3 5 0,O1 6 (.bin .geq .no (.t 5) (c9 0)),O3 7 6,O9 8 7 true (.mv (.t 0)),O9 9 7 true (.mv (.t 1)),O9 10 7 true (.bin .shl .no (c9 1) (.t 9)),O9 11 7 true (.bin .lss .no (.t 8) (.t 10)),O1 12 (.pick (.t 7) (.t 11) (.c (.bool false))),O3 4 12]
def x_circuit_isSet : XFunc := { np := 2, res := [.t 4], body :=
 (.seq (.reg y4a) (.seq (.reg y4b) .ret)) }
def v9o : List XO := [O1 2 (.mv (c9 0))]
def v9p : List XO := [O3 3 0,O1 4 (.cvtI .u32 (.t 3)),O1 5 (.call "math/bits.TrailingZeros32" [.t 4]),O3 2 5]
def v9q : List XO := [O3 6 0,O1 7 (.call "math/bits.TrailingZeros64" [.t 6]),O3 2 7]
def x_math_bits_TrailingZeros : XFunc := { np := 1, res := [.t 2], body :=
 (.seq (.reg v9o) (.seq (.cond (.c (.bool false)) (.seq (.reg v9p) .ret) .skip) (.seq (.reg v9q) .ret))) }
def B5k : List XO := [O1 3 (.boxF (.t 0)),O1 4 (.boxF (.t 1)),O1 6 (.mv (.c (.bool false)))]
def B5l : List XO := [O1 9 (.load true 3 (.tf 3)),O1 10 (.fldA 0 (.tf 4)),O1 11 (.load false 1 (.tf 10)),O3 12 2,O1 13 (.build [(.int .i64 0), (.slice none 0 0), (.slice none 0 0), (.int .i64 0), (.int .i64 0), (.int .i64 0)] [(0, 3, (.t 9)), (3, 1, (.t 11)), (4, 1, (.t 12))]),O1 14 (.load true 3 (.tf 3)),O1 15 (.fldA 0 (.tf 4)),O1 16 (.load false 1 (.tf 15)),O1 17 (.build [(.int .i64 0), (.slice none 0 0), (.slice none 0 0), (.int .i64 0), (.int .i64 0), (.int .i64 0)] [(0, 3, (.t 14)), (3, 1, (.t 16))]),O1 7 (.alloc [(.int .i64 0), (.slice none 0 0), (.slice none 0 0), (.int .i64 0), (.int .i64 0), (.int .i64 0)]),O1 8 (.alloc [(.int .i64 0), (.slice none 0 0), (.slice none 0 0), (.int .i64 0), (.int .i64 0), (.int .i64 0)]),O2 (.store 6 (.t 7) (.t 13)),O2 (.store 6 (.t 8) (.t 17))]
def B5m : List XO := [O6 18 6 7,O1 19 (.fldA 1 (.tf 4)),O1 20 (.load false 1 (.tf 19)),O1 21 (.call "(newel/circuit.state).wire" [.t 18, .t 20]),O3 22 21,O9 23 22 true (.load true 6 (.t 8)),O9 24 22 true (.fldA 1 (.tf 4)),O9 25 22 true (.load false 1 (.tf 24)),O9 26 22 true (.call "(newel/circuit.state).wire" [.t 23, .t 25]),O9 27 22 true (.un .not (.t 26)),O1 28 (.pick (.t 22) (.t 27) (.c (.bool false))),O3 6 28]
def x_circuit_shows : XFunc := { np := 3, res := [.t 6], body :=
 (.seq (.reg B5k) (.seq (.reg B5l) (.seq (.reg B5m) .ret))) }
def v7f : List XO := [O1 6 (.mv (.c (.bool false)))]
def v7g : List XO := [O3 7 0,O3 8 1,O1 9 (.bin .geq .no (.t 7) (.t 8)),O3 10 9,O9 11 10 true (.mv (.t 0)),O9 12 10 true (.mv (.t 2)),O9 13 10 true (.bin .leq .no (.t 11) (.t 12)),O1 14 (.pick (.t 10) (.t 13) (.c (.bool false))),O3 6 14]
def x_faults_within : XFunc := { np := 3, res := [.t 6], body :=
 (.seq (.reg v7f) (.seq (.reg v7g) .ret)) }
def v40 : List XO := [O1 3 (.boxF (.t 0)),O1 5 (.boxF (.t 2)),O1 6 (.mv (c9 0))]
def v41 : List XO := [O1 11 (.load false 1 (.tf 5)),O3 7 11]
def v43 : List XO := [O1 12 (.fldA 1 (.tf 3)),O1 13 (.load false 1 (.tf 12)),O8 14 13,O1 15 (.mv (c9 0))]
def v44 : List XO := [O1 16 (.bin .lss .no (.t 15) (.t 14))]
def v45 : List XO := [O3 17 15,O7 18 1 13 15,O4 19 1 18,O3 8 17,O3 9 19]
def v46 : List XO := [O3 20 9,O1 21 (.mkfn "newel/faults.explained$1" [] [.t 5]),O1 22 (.call "slices.ContainsFunc[[]int,int]" [.t 20, .t 21]),O3 10 22]
def v47 : List XO := [O3 23 10,O3 24 1,O3 25 8,O7 26 1 24 25,O4 27 1 26,O1 28 (.bin .neq .bool (.t 23) (.t 27))]
def v48 : List XO := [O3 29 7,O1 30 (.fldA 0 (.tf 3)),O1 31 (.load false 1 (.tf 30)),O3 32 8,O1 33 (.bin .add .no (.t 31) (.t 32)),O1 34 (.bin .shl .no (c9 1) (.t 33)),O1 35 (.bin .or .no (.t 29) (.t 34)),O3 7 35]
def v49 : List XO := [O1 36 (.bin .add .no (.t 15) (c9 1)),O3 15 36]
def v5a : XCode :=
 (.seq (.reg v44) (.seq (.cond (.t 16) .skip (.exit 0)) (.seq (.block 1 (.seq (.reg v45) (.seq (.reg v46) (.seq (.reg v47) (.cond (.t 28) (.reg v48) .skip))))) (.reg v49))))
def v42 : List XO := [O3 37 7,O3 6 37]
def x_faults_explained : XFunc := { np := 3, res := [.t 6], body :=
 (.seq (.reg v40) (.seq (.reg v41) (.seq (.seq (.reg v43) (.block 0 (.loop v5a))) (.seq (.reg v42) .ret)))) }
def v9d : List XO := [O1 2 (.mv (c9 0))]
def v9e : List XO := [O3 3 0,O1 4 (.cvtI .u32 (.t 3)),O1 5 (.call "math/bits.OnesCount32" [.t 4]),O3 2 5]
def v9f : List XO := [O3 6 0,O1 7 (.call "math/bits.OnesCount64" [.t 6]),O3 2 7]
def x_math_bits_OnesCount : XFunc := { np := 1, res := [.t 2], body :=
 (.seq (.reg v9d) (.seq (.cond (.c (.bool false)) (.seq (.reg v9e) .ret) .skip) (.seq (.reg v9f) .ret))) }
def w4b : List XO := [O3 5 0,O8 6 5,O3 4 6]
def w4c : List XO := [O3 7 0,O3 8 4,O3 9 4,O1 10 (.cvtI .u64 (.t 9)),O1 11 (.call "math/bits.Len" [.t 10]),O3 12 1,O1 13 (.callw "slices.pdqsortCmpFunc[int]" [.t 7, (c9 0), .t 8, .t 11, .t 12])]
def x_slices_SortFunc___int_int_ : XFunc := { np := 2, res := [], body :=
 (.seq (.reg w4b) (.reg w4c)) }
def v5g : List XO := [O1 4 (.mv (c9 0))]
def v5h : List XO := [O3 5 0,O1 6 (.call "newel/faults.members" [.t 5]),O3 7 1,O1 8 (.call "newel/faults.members" [.t 7]),O1 9 (.call "slices.Compare[[]int,int]" [.t 6, .t 8]),O3 4 9]
def x_faults_fewestD1 : XFunc := { np := 2, res := [.t 4], body :=
 (.seq (.reg v5g) (.seq (.reg v5h) .ret)) }
def w3w : List XO := [O1 4 (.mv (c9 0))]
def w3x : List XO := [O3 9 0,O8 10 9,O1 11 (.mv (c9 0))]
def w32 : List XO := [O1 12 (.bin .lss .no (.t 11) (.t 10))]
def w33 : List XO := [O3 13 11,O7 14 1 9 11,O4 15 1 14,O3 5 13,O3 6 15]
def w34 : List XO := [O3 16 5,O3 17 1,O8 18 17,O1 19 (.bin .geq .no (.t 16) (.t 18))]
def w35 : List XO := [O1 4 (.mv (c9 1))]
def w36 : List XO := [O3 20 1,O3 21 5,O7 22 1 20 21,O4 23 1 22,O3 7 23]
def w37 : List XO := [O3 24 6,O3 25 7,O1 26 (.call "cmp.Compare[int]" [.t 24, .t 25]),O3 8 26]
def w38 : List XO := [O3 27 8,O1 28 (.bin .neq .no (.t 27) (c9 0))]
def w39 : List XO := [O3 29 8,O3 4 29]
def w3y : List XO := [O1 30 (.bin .add .no (.t 11) (c9 1)),O3 11 30]
def w4a : XCode :=
 (.seq (.reg w32) (.seq (.cond (.t 12) .skip (.exit 0)) (.seq (.block 1 (.seq (.reg w33) (.seq (.seq (.reg w34) (.cond (.t 19) (.seq (.reg w35) .ret) .skip)) (.seq (.reg w36) (.seq (.reg w37) (.seq (.reg w38) (.cond (.t 28) (.seq (.reg w39) .ret) .skip))))))) (.reg w3y))))
def w3z : List XO := [O3 31 0,O8 32 31,O3 33 1,O8 34 33,O1 35 (.bin .lss .no (.t 32) (.t 34))]
def w30 : List XO := [O1 4 (.mv (.c (.int .i64 (-1))))]
def w31 : List XO := [O1 4 (.mv (c9 0))]
def x_slices_Compare___int_int_ : XFunc := { np := 2, res := [.t 4], body :=
 (.seq (.reg w3w) (.seq (.seq (.reg w3x) (.block 0 (.loop w4a))) (.seq (.seq (.reg w3z) (.cond (.t 35) (.seq (.reg w30) .ret) .skip)) (.seq (.reg w31) .ret)))) }
def y1l : List XO := [O1 2 (.boxF (.t 0)),O1 4 (.mv (.c (.bool false)))]
def y1m : List XO := [O1 6 (.fldA 0 (.tf 2)),O1 7 (.fldA 2 (.tf 6)),O1 8 (.load false 1 (.tf 7)),O3 9 1,O7 10 2 8 9,O6 11 2 10,O1 5 (.alloc [(.int .i64 0), (.slice none 0 0)]),O2 (.store 2 (.t 5) (.t 11))]
def y1n : List XO := [O5 12 0 5,O4 13 1 12]
def y1o : List XO := [O1 15 (.bin .eql .no (.t 13) (c9 1)),O3 14 15]
def y1p : List XO := [O1 16 (.load true 6 (.tf 2)),O5 17 1 5,O4 18 1 17,O1 19 (.ixA 1 (.t 18) (c9 0)),O4 20 1 19,O1 21 (.call "(newel/circuit.state).conducts" [.t 16, .t 20]),O3 4 21]
def y1q : List XO := [O1 23 (.bin .eql .no (.t 13) (c9 3)),O3 22 23]
def y1r : List XO := [O5 24 1 5,O4 25 1 24,O1 26 (.load true 6 (.tf 2)),O1 27 (.mkfn "(newel/circuit.state).wire" [.t 26] []),O1 28 (.call "slices.ContainsFunc[[]int,int]" [.t 25, .t 27]),O3 4 28]
def y1s : List XO := [O5 29 1 5,O4 30 1 29,O1 31 (.mkfn "(newel/circuit.state).wire$1" [] [.t 2]),O1 32 (.call "slices.ContainsFunc[[]int,int]" [.t 30, .t 31]),O1 33 (.un .not (.t 32)),O3 4 33]
def x__circuit_state__wire : XFunc := { np := 2, res := [.t 4], body :=
 (.seq (.reg y1l) (.seq (.reg y1m) (.seq (.seq (.reg y1n) (.block 0 (.seq (.reg y1o) (.cond (.t 14) (.seq (.reg y1p) .ret) (.seq (.reg y1q) (.cond (.t 22) (.seq (.reg y1r) .ret) .skip)))))) (.seq (.reg y1s) .ret)))) }
def y7b : List XO := [O1 4 (.mv (.c (.bool false)))]
def y7c : List XO := [O3 5 0,O3 6 1,O1 7 (.call "slices.Index[[]bool,bool]" [.t 5, .t 6]),O1 8 (.bin .geq .no (.t 7) (c9 0)),O3 4 8]
def x_slices_Contains___bool_bool_ : XFunc := { np := 2, res := [.t 4], body :=
 (.seq (.reg y7b) (.seq (.reg y7c) .ret)) }
def o3v : List XO := [O1 4 (.mv (.c (.bool false)))]
def o3w : List XO := [O3 5 0,O3 6 1,O1 7 (.call "slices.IndexFunc[[]int,int]" [.t 5, .t 6]),O1 8 (.bin .geq .no (.t 7) (c9 0)),O3 4 8]
def x_slices_ContainsFunc___int_int_ : XFunc := { np := 2, res := [.t 4], body :=
 (.seq (.reg o3v) (.seq (.reg o3w) .ret)) }
def y1t : List XO := [O1 3 (.mv (.c (.bool false)))]
def y1u : List XO := [O3 4 0,O5 5 0 1,O4 6 1 5,O1 7 (.call "newel/circuit.isSet" [.t 4, .t 6]),O1 8 (.un .not (.t 7)),O3 3 8]
def x_circuit_CheckD1 : XFunc := { np := 2, res := [.t 3], body :=
 (.seq (.reg y1t) (.seq (.reg y1u) .ret)) }
def y3x : List XO := [O1 6 (.mv (.c (.bool false)))]
def y3y : List XO := [O3 9 0,O8 10 9,O1 11 (.mv (c9 0))]
def y3z : List XO := [O1 12 (.bin .lss .no (.t 11) (.t 10))]
def y30 : List XO := [O7 13 1 9 11,O4 14 1 13,O3 8 14]
def y8k : List XO := [O3 15 8,O3 16 1,O1 17 (.bin .lss .no (.t 15) (.t 16)),O3 18 17,O9 19 18 false (.mv (.t 8)),O9 20 18 false (.mv (.t 2)),O9 21 18 false (.bin .geq .no (.t 19) (.t 20)),O1 22 (.pick (.t 18) (.c (.bool true)) (.t 21))]
def y8l : List XO := [O1 6 (.mv (.c (.bool false)))]
def y8m : List XO := [O3 23 8,O1 24 (.bin .add .no (.t 23) (c9 1)),O3 1 24]
def y97 : List XO := [O1 25 (.bin .add .no (.t 11) (c9 1)),O3 11 25]
def y8o : XCode :=
 (.seq (.reg y3z) (.seq (.cond (.t 12) .skip (.exit 0)) (.seq (.block 1 (.seq (.reg y30) (.seq (.seq (.reg y8k) (.cond (.t 22) (.seq (.reg y8l) .ret) .skip)) (.reg y8m)))) (.reg y97))))
def y8n : List XO := [O1 6 (.mv (.c (.bool true)))]
def x_circuit_ascending : XFunc := { np := 3, res := [.t 6], body :=
 (.seq (.reg y3x) (.seq (.seq (.reg y3y) (.block 0 (.loop y8o))) (.seq (.reg y8n) .ret))) }
def y1v : List XO := [O1 2 (.mv (.c (.bool false)))]
def y1w : List XO := [O3 3 0,O1 4 (.bin .neq .no (.t 3) (c9 1)),O3 2 4]
def x_circuit_CheckD2 : XFunc := { np := 1, res := [.t 2], body :=
 (.seq (.reg y1v) (.seq (.reg y1w) .ret)) }
def v9k : List XO := [O1 2 (.mv (c9 0))]
def v9l : List XO := [O3 3 0,O1 4 (.bin .eql .no (.t 3) (.c (.int .u64 0)))]
def v9m : List XO := [O1 2 (.mv (c9 64))]
def v9n : List XO := [O3 5 0,O3 6 0,O1 7 (.un .neg (.t 6)),O1 8 (.bin .and .no (.t 5) (.t 7)),O1 9 (.bin .mul .no (.t 8) (.c (.int .u64 285870213051353865))),O1 10 (.bin .shr .no (.t 9) (.c (.int .u64 58))),O1 11 (.ixP 1 64 (.g 1 u0n) (.t 10)),O4 12 1 11,O1 13 (.cvtI .i64 (.t 12)),O3 2 13]
def x_math_bits_TrailingZeros64 : XFunc := { np := 1, res := [.t 2], body :=
 (.seq (.reg v9k) (.seq (.seq (.reg v9l) (.cond (.t 4) (.seq (.reg v9m) .ret) .skip)) (.seq (.reg v9n) .ret))) }
def v4y : List XO := [O1 3 (.mv (.c (.bool false)))]
def v4z : List XO := [O4 4 1 1,O3 5 0,O1 6 (.bin .shr .no (.t 4) (.t 5)),O1 7 (.bin .and .no (.t 6) (c9 1)),O1 8 (.bin .eql .no (.t 7) (c9 1)),O3 3 8]
def x_faults_explainedD1 : XFunc := { np := 2, res := [.t 3], body :=
 (.seq (.reg v4y) (.seq (.reg v4z) .ret)) }
def v85 : List XO := [O1 2 (.mv (c9 0))]
def v86 : List XO := [O3 3 0,O1 4 (.bin .shr .no (.t 3) (.c (.int .u64 1))),O1 5 (.bin .and .no (.t 4) (.c (.int .u64 6148914691236517205))),O3 6 0,O1 7 (.bin .and .no (.t 6) (.c (.int .u64 6148914691236517205))),O1 8 (.bin .add .no (.t 5) (.t 7)),O3 0 8]
def v87 : List XO := [O3 9 0,O1 10 (.bin .shr .no (.t 9) (.c (.int .u64 2))),O1 11 (.bin .and .no (.t 10) (.c (.int .u64 3689348814741910323))),O3 12 0,O1 13 (.bin .and .no (.t 12) (.c (.int .u64 3689348814741910323))),O1 14 (.bin .add .no (.t 11) (.t 13)),O3 0 14]
def v88 : List XO := [O3 15 0,O1 16 (.bin .shr .no (.t 15) (.c (.int .u64 4))),O3 17 0,O1 18 (.bin .add .no (.t 16) (.t 17)),O1 19 (.bin .and .no (.t 18) (.c (.int .u64 1085102592571150095))),O3 0 19]
def v89 : List XO := [O3 20 0,O3 21 0,O1 22 (.bin .shr .no (.t 21) (.c (.int .u64 8))),O1 23 (.bin .add .no (.t 20) (.t 22)),O3 0 23]
def v9a : List XO := [O3 24 0,O3 25 0,O1 26 (.bin .shr .no (.t 25) (.c (.int .u64 16))),O1 27 (.bin .add .no (.t 24) (.t 26)),O3 0 27]
def v9b : List XO := [O3 28 0,O3 29 0,O1 30 (.bin .shr .no (.t 29) (.c (.int .u64 32))),O1 31 (.bin .add .no (.t 28) (.t 30)),O3 0 31]
def v9c : List XO := [O3 32 0,O1 33 (.cvtI .i64 (.t 32)),O1 34 (.bin .and .no (.t 33) (c9 127)),O3 2 34]
def x_math_bits_OnesCount64 : XFunc := { np := 1, res := [.t 2], body :=
 (.seq (.reg v85) (.seq (.reg v86) (.seq (.reg v87) (.seq (.reg v88) (.seq (.reg v89) (.seq (.reg v9a) (.seq (.reg v9b) (.seq (.reg v9c) .ret)))))))) }
def w78 : List XO := [O1 10 (.mv (.c (.bool true)))]
def w79 : List XO := [O1 11 (.mv (.c (.bool true)))]
def w8k : List XO := [O3 21 2,O3 22 1,O1 23 (.bin .sub .no (.t 21) (.t 22)),O3 12 23]
def w8v : List XO := [O3 24 12,O1 25 (.bin .leq .no (.t 24) (c9 12))]
def w8x : List XO := [O3 26 0,O3 27 1,O3 28 2,O3 29 4,O1 30 (.callw "slices.insertionSortCmpFunc[int]" [.t 26, .t 27, .t 28, .t 29])]
def w8y : List XO := [O3 31 3,O1 32 (.bin .eql .no (.t 31) (c9 0))]
def w8z : List XO := [O3 33 0,O3 34 1,O3 35 2,O3 36 4,O1 37 (.callw "slices.heapSortCmpFunc[int]" [.t 33, .t 34, .t 35, .t 36])]
def w80 : List XO := [O3 38 10,O1 39 (.un .not (.t 38))]
def w81 : List XO := [O3 40 0,O3 41 1,O3 42 2,O3 43 4,O1 44 (.callw "slices.breakPatternsCmpFunc[int]" [.t 40, .t 41, .t 42, .t 43])]
def w82 : List XO := [O3 45 3,O1 46 (.bin .sub .no (.t 45) (c9 1)),O3 3 46]
def w8a : List XO := [O3 48 0,O3 49 1,O3 50 2,O3 51 4,O1 52 (.call "slices.choosePivotCmpFunc[int]" [.t 48, .t 49, .t 50, .t 51]),O3 47 52,O1 53 (.ext (.t 47) 0),O1 54 (.ext (.t 47) 1),O3 13 53,O3 14 54]
def w8b : List XO := [O3 55 14,O1 56 (.bin .eql .no (.t 55) (c9 2))]
def w8c : List XO := [O3 57 0,O3 58 1,O3 59 2,O3 60 4,O1 61 (.callw "slices.reverseRangeCmpFunc[int]" [.t 57, .t 58, .t 59, .t 60])]
def w8d : List XO := [O3 62 2,O1 63 (.bin .sub .no (.t 62) (c9 1)),O3 64 13,O3 65 1,O1 66 (.bin .sub .no (.t 64) (.t 65)),O1 67 (.bin .sub .no (.t 63) (.t 66)),O3 13 67]
def w8e : List XO := [O1 14 (.mv (c9 1))]
def w8f : List XO := [O3 68 10,O3 69 68,O9 70 69 true (.mv (.t 11)),O1 71 (.pick (.t 69) (.t 70) (.c (.bool false))),O3 72 71,O9 73 72 true (.mv (.t 14)),O9 74 72 true (.bin .eql .no (.t 73) (c9 1)),O1 75 (.pick (.t 72) (.t 74) (.c (.bool false)))]
def w8g : List XO := [O3 76 0,O3 77 1,O3 78 2,O3 79 4,O1 80 (.callw "slices.partialInsertionSortCmpFunc[int]" [.t 76, .t 77, .t 78, .t 79])]
def w8h : List XO := [O3 81 1,O1 82 (.bin .gtr .no (.t 81) (c9 0)),O3 83 82,O9 84 83 true (.mv (.t 4)),O9 85 83 true (.mv (.t 0)),O9 86 83 true (.mv (.t 1)),O9 87 83 true (.bin .sub .no (.t 86) (c9 1)),O9 88 83 true (.ixA 1 (.t 85) (.t 87)),O9 89 83 true (.load false 1 (.t 88)),O9 90 83 true (.mv (.t 0)),O9 91 83 true (.mv (.t 13)),O9 92 83 true (.ixA 1 (.t 90) (.t 91)),O9 93 83 true (.load false 1 (.t 92)),O9 94 83 true (.callv (.t 84) [.t 89, .t 93]),O9 95 83 true (.bin .lss .no (.t 94) (c9 0)),O9 96 83 true (.un .not (.t 95)),O1 97 (.pick (.t 83) (.t 96) (.c (.bool false)))]
def w8i : List XO := [O3 98 0,O3 99 1,O3 100 2,O3 101 13,O3 102 4,O1 103 (.callw "slices.partitionEqualCmpFunc[int]" [.t 98, .t 99, .t 100, .t 101, .t 102]),O3 15 103]
def w8j : List XO := [O3 104 15,O3 1 104]
def w8l : List XO := [O3 106 0,O3 107 1,O3 108 2,O3 109 13,O3 110 4,O1 111 (.callw "slices.partitionCmpFunc[int]" [.t 106, .t 107, .t 108, .t 109, .t 110]),O3 105 111,O1 112 (.ext (.t 105) 0),O1 113 (.ext (.t 105) 1),O3 16 112,O3 17 113]
def w8m : List XO := [O3 114 17,O3 11 114]
def w8n : List XO := [O3 115 16,O3 116 1,O1 117 (.bin .sub .no (.t 115) (.t 116)),O3 118 2,O3 119 16,O1 120 (.bin .sub .no (.t 118) (.t 119)),O3 18 117,O3 19 120]
def w8o : List XO := [O3 121 12,O1 122 (.bin .quo .no (.t 121) (c9 8)),O3 20 122]
def w8p : List XO := [O3 123 18,O3 124 19,O1 125 (.bin .lss .no (.t 123) (.t 124))]
def w8q : List XO := [O3 126 18,O3 127 20,O1 128 (.bin .geq .no (.t 126) (.t 127)),O3 10 128]
def w8r : List XO := [O3 129 0,O3 130 1,O3 131 16,O3 132 3,O3 133 4,O1 134 (.callw "slices.pdqsortCmpFunc[int]" [.t 129, .t 130, .t 131, .t 132, .t 133])]
def w8s : List XO := [O3 135 16,O1 136 (.bin .add .no (.t 135) (c9 1)),O3 1 136]
def w8t : List XO := [O3 137 19,O3 138 20,O1 139 (.bin .geq .no (.t 137) (.t 138)),O3 10 139]
def w8u : List XO := [O3 140 0,O3 141 16,O1 142 (.bin .add .no (.t 141) (c9 1)),O3 143 2,O3 144 3,O3 145 4,O1 146 (.callw "slices.pdqsortCmpFunc[int]" [.t 140, .t 142, .t 143, .t 144, .t 145])]
def w8w : List XO := [O3 147 16,O3 2 147]
def w83 : XCode :=
 (.block 1 (.seq (.reg w8k) (.seq (.seq (.reg w8v) (.cond (.t 25) (.seq (.reg w8x) .ret) .skip)) (.seq (.seq (.reg w8y) (.cond (.t 32) (.seq (.reg w8z) .ret) .skip)) (.seq (.seq (.reg w80) (.cond (.t 39) (.seq (.reg w81) (.reg w82)) .skip)) (.seq (.reg w8a) (.seq (.seq (.reg w8b) (.cond (.t 56) (.seq (.reg w8c) (.seq (.reg w8d) (.reg w8e))) .skip)) (.seq (.seq (.reg w8f) (.cond (.t 75) (.seq (.reg w8g) (.cond (.t 80) .ret .skip)) .skip)) (.seq (.seq (.reg w8h) (.cond (.t 97) (.seq (.reg w8i) (.seq (.reg w8j) (.exit 1))) .skip)) (.seq (.reg w8l) (.seq (.reg w8m) (.seq (.reg w8n) (.seq (.reg w8o) (.seq (.reg w8p) (.cond (.t 125) (.seq (.reg w8q) (.seq (.reg w8r) (.reg w8s))) (.seq (.reg w8t) (.seq (.reg w8u) (.reg w8w))))))))))))))))))
def x_slices_pdqsortCmpFunc_int_ : XFunc := { np := 5, res := [], body :=
 (.seq (.reg w78) (.seq (.reg w79) (.block 0 (.loop w83)))) }
def v80 : List XO := [O1 2 (.mv (c9 0))]
def v81 : List XO := [O3 3 0,O1 4 (.cvtI .u32 (.t 3)),O1 5 (.call "math/bits.Len32" [.t 4]),O3 2 5]
def v82 : List XO := [O3 6 0,O1 7 (.call "math/bits.Len64" [.t 6]),O3 2 7]
def x_math_bits_Len : XFunc := { np := 1, res := [.t 2], body :=
 (.seq (.reg v80) (.seq (.cond (.c (.bool false)) (.seq (.reg v81) .ret) .skip) (.seq (.reg v82) .ret))) }
def v2f : List XO := [O1 4 (.mv (c9 0))]
def v2g : List XO := [O3 7 0,O1 8 (.call "cmp.isNaN[int]" [.t 7]),O3 5 8]
def v2l : List XO := [O3 9 1,O1 10 (.call "cmp.isNaN[int]" [.t 9]),O3 6 10]
def v2m : List XO := [O3 11 5]
def v2n : List XO := [O3 12 6]
def v2o : List XO := [O1 4 (.mv (c9 0))]
def v2p : List XO := [O1 4 (.mv (.c (.int .i64 (-1))))]
def v2q : List XO := [O3 13 6]
def v2r : List XO := [O1 4 (.mv (c9 1))]
def v2s : List XO := [O3 14 0,O3 15 1,O1 16 (.bin .lss .no (.t 14) (.t 15))]
def v2h : List XO := [O1 4 (.mv (.c (.int .i64 (-1))))]
def v2i : List XO := [O3 17 0,O3 18 1,O1 19 (.bin .gtr .no (.t 17) (.t 18))]
def v2j : List XO := [O1 4 (.mv (c9 1))]
def v2k : List XO := [O1 4 (.mv (c9 0))]
def x_cmp_Compare_int_ : XFunc := { np := 2, res := [.t 4], body :=
 (.seq (.reg v2f) (.seq (.reg v2g) (.seq (.reg v2l) (.seq (.seq (.reg v2m) (.cond (.t 11) (.seq (.seq (.reg v2n) (.cond (.t 12) (.seq (.reg v2o) .ret) .skip)) (.seq (.reg v2p) .ret)) .skip)) (.seq (.seq (.reg v2q) (.cond (.t 13) (.seq (.reg v2r) .ret) .skip)) (.seq (.seq (.reg v2s) (.cond (.t 16) (.seq (.reg v2h) .ret) .skip)) (.seq (.seq (.reg v2i) (.cond (.t 19) (.seq (.reg v2j) .ret) .skip)) (.seq (.reg v2k) .ret)))))))) }
def y1h : List XO := [O1 2 (.boxF (.t 0)),O1 4 (.mv (.c (.bool false)))]
def y1i : List XO := [O1 5 (.fldA 5 (.tf 2)),O1 6 (.load false 1 (.tf 5)),O3 7 1,O1 8 (.bin .shr .no (.t 6) (.t 7)),O1 9 (.bin .and .no (.t 8) (c9 1)),O1 10 (.bin .eql .no (.t 9) (c9 0)),O3 11 10,O9 12 11 true (.fldA 4 (.tf 2)),O9 13 11 true (.load false 1 (.tf 12)),O9 14 11 true (.mv (.t 1)),O9 15 11 true (.bin .shr .no (.t 13) (.t 14)),O9 16 11 true (.bin .and .no (.t 15) (c9 1)),O9 17 11 true (.bin .eql .no (.t 16) (c9 1)),O9 18 11 true (.mv (.t 17)),O9 19 18 false (.fldA 0 (.tf 2)),O9 20 18 false (.fldA 1 (.tf 19)),O9 21 18 false (.load false 1 (.tf 20)),O9 22 18 false (.mv (.t 1)),O9 23 18 false (.ixA 1 (.t 21) (.t 22)),O9 24 18 false (.load false 1 (.t 23)),O9 25 18 false (.fldA 3 (.tf 2)),O9 26 18 false (.load false 1 (.tf 25)),O9 27 18 false (.bin .and .no (.t 24) (.t 26)),O9 28 18 false (.bin .eql .no (.t 27) (c9 0)),O9 29 11 true (.pick (.t 18) (.c (.bool true)) (.t 28)),O1 30 (.pick (.t 11) (.t 29) (.c (.bool false))),O3 4 30]
def x__circuit_state__conducts : XFunc := { np := 2, res := [.t 4], body :=
 (.seq (.reg y1h) (.seq (.reg y1i) .ret)) }
def y1j : List XO := [O1 3 (.mv (.c (.bool false)))]
def y1k : List XO := [O6 4 6 1,O3 5 0,O1 6 (.call "(newel/circuit.state).wire" [.t 4, .t 5]),O1 7 (.un .not (.t 6)),O3 3 7]
def x__circuit_state__wireD1 : XFunc := { np := 2, res := [.t 3], body :=
 (.seq (.reg y1j) (.seq (.reg y1k) .ret)) }
def y7f : List XO := [O1 4 (.mv (c9 0))]
def y7g : List XO := [O3 6 0,O8 7 6,O1 8 (.mv (c9 0))]
def y7h : List XO := [O1 9 (.bin .lss .no (.t 8) (.t 7))]
def y7i : List XO := [O3 10 8,O3 5 10]
def y7j : List XO := [O3 11 1,O3 12 0,O3 13 5,O7 14 1 12 13,O4 15 1 14,O1 16 (.bin .eql .bool (.t 11) (.t 15))]
def y7k : List XO := [O3 17 5,O3 4 17]
def y7l : List XO := [O1 18 (.bin .add .no (.t 8) (c9 1)),O3 8 18]
def y7n : XCode :=
 (.seq (.reg y7h) (.seq (.cond (.t 9) .skip (.exit 0)) (.seq (.block 1 (.seq (.reg y7i) (.seq (.reg y7j) (.cond (.t 16) (.seq (.reg y7k) .ret) .skip)))) (.reg y7l))))
def y7m : List XO := [O1 4 (.mv (.c (.int .i64 (-1))))]
def x_slices_Index___bool_bool_ : XFunc := { np := 2, res := [.t 4], body :=
 (.seq (.reg y7f) (.seq (.seq (.reg y7g) (.block 0 (.loop y7n))) (.seq (.reg y7m) .ret))) }
def o4j : List XO := [O1 4 (.mv (c9 0))]
def o4k : List XO := [O3 6 0,O8 7 6,O1 8 (.mv (c9 0))]
def o4l : List XO := [O1 9 (.bin .lss .no (.t 8) (.t 7))]
def o4m : List XO := [O3 10 8,O3 5 10]
def o4n : List XO := [O3 11 1,O3 12 0,O3 13 5,O7 14 1 12 13,O4 15 1 14,O1 16 (.callv (.t 11) [.t 15])]
def o4o : List XO := [O3 17 5,O3 4 17]
def o4p : List XO := [O1 18 (.bin .add .no (.t 8) (c9 1)),O3 8 18]
def g5d : XCode :=
 (.seq (.reg o4l) (.seq (.cond (.t 9) .skip (.exit 0)) (.seq (.block 1 (.seq (.reg o4m) (.seq (.reg o4n) (.cond (.t 16) (.seq (.reg o4o) .ret) .skip)))) (.reg o4p))))
def o4q : List XO := [O1 4 (.mv (.c (.int .i64 (-1))))]
def x_slices_IndexFunc___int_int_ : XFunc := { np := 2, res := [.t 4], body :=
 (.seq (.reg o4j) (.seq (.seq (.reg o4k) (.block 0 (.loop g5d))) (.seq (.reg o4q) .ret))) }
def w5l : List XO := [O3 10 1,O1 11 (.bin .add .no (.t 10) (c9 1)),O3 8 11]
def w5m : List XO := [O3 12 8,O3 13 2,O1 14 (.bin .lss .no (.t 12) (.t 13))]
def w5n : List XO := [O3 17 8,O3 9 17]
def w5o : List XO := [O3 18 9,O3 19 1,O1 20 (.bin .gtr .no (.t 18) (.t 19)),O3 21 20,O9 22 21 true (.mv (.t 3)),O9 23 21 true (.mv (.t 0)),O9 24 21 true (.mv (.t 9)),O9 25 21 true (.ixA 1 (.t 23) (.t 24)),O9 26 21 true (.load false 1 (.t 25)),O9 27 21 true (.mv (.t 0)),O9 28 21 true (.mv (.t 9)),O9 29 21 true (.bin .sub .no (.t 28) (c9 1)),O9 30 21 true (.ixA 1 (.t 27) (.t 29)),O9 31 21 true (.load false 1 (.t 30)),O9 32 21 true (.callv (.t 22) [.t 26, .t 31]),O9 33 21 true (.bin .lss .no (.t 32) (c9 0)),O1 34 (.pick (.t 21) (.t 33) (.c (.bool false)))]
def w5p : List XO := [O3 37 0,O3 38 9,O3 39 0,O3 40 9,O1 41 (.bin .sub .no (.t 40) (c9 1)),O3 42 0,O3 43 9,O1 44 (.bin .sub .no (.t 43) (c9 1)),O7 45 1 42 44,O4 46 1 45,O3 47 0,O3 48 9,O7 49 1 47 48,O4 50 1 49,O7 51 1 37 38,O2 (.store 1 (.t 51) (.t 46)),O7 52 1 39 41,O2 (.store 1 (.t 52) (.t 50))]
def w5q : List XO := [O3 35 9,O1 36 (.bin .sub .no (.t 35) (c9 1)),O3 9 36]
def w5s : XCode :=
 (.seq (.seq (.reg w5o) (.cond (.t 34) .skip (.exit 2))) (.seq (.block 3 (.reg w5p)) (.reg w5q)))
def w5r : List XO := [O3 15 8,O1 16 (.bin .add .no (.t 15) (c9 1)),O3 8 16]
def w5t : XCode :=
 (.seq (.seq (.reg w5m) (.cond (.t 14) .skip (.exit 0))) (.seq (.block 1 (.seq (.reg w5n) (.block 2 (.loop w5s)))) (.reg w5r)))
def x_slices_insertionSortCmpFunc_int_ : XFunc := { np := 4, res := [], body :=
 (.seq (.reg w5l) (.block 0 (.loop w5t))) }
def v8p : List XO := [O1 2 (.mv (c9 0))]
def v8q : List XO := [O3 3 0,O1 4 (.bin .geq .no (.t 3) (.c (.int .u64 4294967296)))]
def v8s : List XO := [O3 5 0,O1 6 (.bin .shr .no (.t 5) (.c (.int .u64 32))),O3 0 6]
def v8t : List XO := [O1 2 (.mv (c9 32))]
def v8u : List XO := [O3 7 0,O1 8 (.bin .geq .no (.t 7) (.c (.int .u64 65536)))]
def v8v : List XO := [O3 9 0,O1 10 (.bin .shr .no (.t 9) (.c (.int .u64 16))),O3 0 10]
def v8w : List XO := [O3 11 2,O1 12 (.bin .add .no (.t 11) (c9 16)),O3 2 12]
def v8x : List XO := [O3 13 0,O1 14 (.bin .geq .no (.t 13) (.c (.int .u64 256)))]
def v8y : List XO := [O3 15 0,O1 16 (.bin .shr .no (.t 15) (.c (.int .u64 8))),O3 0 16]
def v8z : List XO := [O3 17 2,O1 18 (.bin .add .no (.t 17) (c9 8)),O3 2 18]
def v8r : List XO := [O3 19 2,O3 20 0,O1 21 (.cvtI .u8 (.t 20)),O1 22 (.ixS (.c (.string (ByteArray.mk #[0, 1, 2, 2, 3, 3, 3, 3, 4, 4, 4, 4, 4, 4, 4, 4, 5, 5, 5, 5, 5, 5, 5, 5, 5, 5, 5, 5, 5, 5, 5, 5, 6, 6, 6, 6, 6, 6, 6, 6, 6, 6, 6, 6, 6, 6, 6, 6, 6, 6, 6, 6, 6, 6, 6, 6, 6, 6, 6, 6, 6, 6, 6, 6, 7, 7, 7, 7, 7, 7, 7, 7, 7, 7, 7, 7, 7, 7, 7, 7, 7, 7, 7, 7, 7, 7, 7, 7, 7, 7, 7, 7, 7, 7, 7, 7, 7, 7, 7, 7, 7, 7, 7, 7, 7, 7, 7, 7, 7, 7, 7, 7, 7, 7, 7, 7, 7, 7, 7, 7, 7, 7, 7, 7, 7, 7, 7, 7, 8, 8, 8, 8, 8, 8, 8, 8, 8, 8, 8, 8, 8, 8, 8, 8, 8, 8, 8, 8, 8, 8, 8, 8, 8, 8, 8, 8, 8, 8, 8, 8, 8, 8, 8, 8, 8, 8, 8, 8, 8, 8, 8, 8, 8, 8, 8, 8, 8, 8, 8, 8, 8, 8, 8, 8, 8, 8, 8, 8, 8, 8, 8, 8, 8, 8, 8, 8, 8, 8, 8, 8, 8, 8, 8, 8, 8, 8, 8, 8, 8, 8, 8, 8, 8, 8, 8, 8, 8, 8, 8, 8, 8, 8, 8, 8, 8, 8, 8, 8, 8, 8, 8, 8, 8, 8, 8, 8, 8, 8, 8, 8, 8, 8, 8, 8, 8, 8, 8, 8, 8, 8, 8, 8, 8, 8, 8, 8]))) (.t 21)),O1 23 (.cvtI .i64 (.t 22)),O1 24 (.bin .add .no (.t 19) (.t 23)),O3 2 24]
def x_math_bits_Len64 : XFunc := { np := 1, res := [.t 2], body :=
 (.seq (.reg v8p) (.seq (.seq (.reg v8q) (.cond (.t 4) (.seq (.reg v8s) (.reg v8t)) .skip)) (.seq (.seq (.reg v8u) (.cond (.t 8) (.seq (.reg v8v) (.reg v8w)) .skip)) (.seq (.seq (.reg v8x) (.cond (.t 14) (.seq (.reg v8y) (.reg v8z)) .skip)) (.seq (.reg v8r) .ret))))) }
def v2t : List XO := [O1 2 (.mv (.c (.bool false)))]
def v2u : List XO := [O3 3 0,O3 4 0,O1 5 (.bin .neq .no (.t 3) (.t 4)),O3 2 5]
def x_cmp_isNaN_int_ : XFunc := { np := 1, res := [.t 2], body :=
 (.seq (.reg v2t) (.seq (.reg v2u) .ret)) }
attribute [go_sem] B5y B5z B59 B6j B6n B6o B6p B6q B6r B6s B50 B51 B52 B53 B54 B55 B56 B57 B58 B6a B6b B6c B6d B6e B6f B6g B6h B6i B6k B6l B6m B6t B6u B6w B6x B6y B6z B60 B61 B62 B63 B6v B4n B4o B4p B4q B4r B4s B4t B5n B5o B5q B5r B5s B5t B5u B5v B5w B5x B5p B64 B65 B7g B7q B7z B70 B71 B72 B73 B66 B67 B68 B69 B7a B7b B7c B7d B7e B7f B7h B7i B7j B7k B7l B7m B7n B7o B7p B7r B7s B7t B7u B7v B7w B7x B7y B74 B75 B76 B77 B4u B4v B4z B40 B41 B42 B43 B44 B45 B46 B4w B4x B4y B47 B48 B49 B5a B5b B5c B5d B5e B5f B5g B5h B5i B5j v53 v54 v6d v6e v6f v6g v6h v6i v6j v6k v55 v56 v57 v58 v59 v6a v6b v6c v5i v5j v5n v5o v5p v5q v5r v5s v5t v5u v5k v5l v5m v5w v5x v5y v5z v50 v51 y1x y1y y2g y2n y2o y2p y2q y2r y2s y2t y1z B4m y8h y95 y2a y2b y2c y2d y2e y2f y2h y2i y2j y2k y2l y2m y4a y4b v9o v9p v9q B5k B5l B5m v7f v7g v40 v41 v43 v44 v45 v46 v47 v48 v49 v42 v9d v9e v9f w4b w4c v5g v5h w3w w3x w32 w33 w34 w35 w36 w37 w38 w39 w3y w3z w30 w31 y1l y1m y1n y1o y1p y1q y1r y1s y7b y7c o3v o3w y1t y1u y3x y3y y3z y30 y8k y8l y8m y97 y8n y1v y1w v9k v9l v9m v9n v4y v4z v85 v86 v87 v88 v89 v9a v9b v9c w78 w79 w8k w8v w8x w8y w8z w80 w81 w82 w8a w8b w8c w8d w8e w8f w8g w8h w8i w8j w8l w8m w8n w8o w8p w8q w8r w8s w8t w8u w8w v80 v81 v82 v2f v2g v2l v2m v2n v2o v2p v2q v2r v2s v2h v2i v2j v2k y1h y1i y1j y1k y7f y7g y7h y7i y7j y7k y7l y7m o4j o4k o4l o4m o4n o4o o4p o4q w5l w5m w5n w5o w5p w5q w5r v8p v8q v8s v8t v8u v8v v8w v8x v8y v8z v8r v2t v2u
end Go.Nw.Tp4
