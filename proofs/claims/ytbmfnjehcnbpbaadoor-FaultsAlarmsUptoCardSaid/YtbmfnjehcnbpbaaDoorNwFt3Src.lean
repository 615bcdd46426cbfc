/- The functions of a seat, as the abstract machine has them. -/
import Derived.Test.YtbmfnjehcnbpbaaDoorNwI
set_option linter.all false
namespace Go.Nw.Ft3
@[go_sem] def O3 (d a : Nat) : XO := ⟨some d,none,.mv (.t a)⟩
@[go_sem] def O4 (d n a : Nat) : XO := ⟨some d,none,.load false n (.t a)⟩
@[go_sem] def O5 (d n a : Nat) : XO := ⟨some d,none,.fldA n (.t a)⟩
@[go_sem] def O6 (d n a : Nat) : XO := ⟨some d,none,.load true n (.t a)⟩
@[go_sem] def O7 (d n a b : Nat) : XO := ⟨some d,none,.ixA n (.t a) (.t b)⟩
@[go_sem] def O8 (d a : Nat) : XO := ⟨some d,none,.len false (.t a)⟩
@[go_sem] def O9 (d g : Nat) (p : Bool) (x : XOp) : XO := ⟨some d,some (g,p),x⟩
@[go_sem] def c9 (n : Int) : X := .c (.int .i64 n)
@[go_sem] def O1 (d : Nat) (x : XOp) : XO := ⟨some d,none,x⟩
@[go_sem] def O2 (x : XOp) : XO := ⟨none,none,x⟩
def b50 : List Int := [0, 1, 28, 2, 29, 14, 24, 3, 30, 22, 20, 15, 25, 17, 4, 8, 31, 27, 13, 23, 21, 19, 16, 7, 26, 12, 18, 6, 11, 5, 10, 9]
def b6h : List GC := List.map (fun n => GC.v (.int .u8 n)) b50
def u3d : List Int := [0, 1, 56, 2, 57, 49, 28, 3, 61, 58, 42, 50, 38, 29, 17, 4, 62, 47, 59, 36, 45, 43, 51, 22, 53, 39, 33, 30, 24, 18, 12, 5, 63, 55, 48, 27, 60, 41, 37, 16, 46, 35, 44, 21, 52, 32, 23, 11, 54, 26, 40, 15, 34, 20, 31, 10, 25, 14, 19, 9, 13, 8, 7, 6]
def u0n : List GC := List.map (fun n => GC.v (.int .u8 n)) u3d
theorem B18 : List.map GC.av u0n = List.map AV.v (List.map (Value.int .u8) u3d) := by unfold u0n; rw [List.map_map, List.map_map]; rfl
def E3n : List XO := [O1 2 (.boxF (.t 0)),O1 4 (.mv (.c (.bool false)))]
def E3o : List XO := [O1 15 (.fldA 1 (.tf 2)),O1 16 (.load false 1 (.tf 15)),O8 17 16,O1 18 (.bin .gtr .no (.t 17) (c9 12))]
def E3y : List XO := [O1 19 (.call "newel/newellaw10.works" []),O3 4 19]
def E3z : List XO := [O1 20 (.load true 2 (.tf 2)),O1 21 (.call "newel/newelref10.CopyPlant" [.t 20]),O1 22 (.bsl 1 []),O3 23 1,O1 24 (.app 1 1 (.t 22) (.t 23)),O1 5 (.alloc [(.int .i64 0), (.slice none 0 0)]),O2 (.store 2 (.t 5) (.t 21)),O3 6 24]
def E30 : List XO := [O6 26 2 5,O3 27 6,O1 28 (.call "newel/faults.All" [.t 26, .t 27]),O3 25 28,O1 29 (.ext (.t 25) 0),O1 30 (.ext (.t 25) 1),O3 7 29,O3 8 30]
def E31 : List XO := [O1 32 (.load true 2 (.tf 2)),O3 33 1,O1 34 (.call "newel/newelref10.All" [.t 32, .t 33]),O3 31 34,O1 35 (.ext (.t 31) 0),O1 36 (.ext (.t 31) 1),O3 9 35,O3 10 36]
def E32 : List XO := [O3 37 8,O3 38 10,O1 39 (.bin .neq .no (.t 37) (.t 38)),O3 40 39,O9 41 40 false (.mv (.t 7)),O9 42 40 false (.mv (.t 9)),O9 43 40 false (.call "newel/newellaw10.sameLists" [.t 41, .t 42]),O9 44 40 false (.un .not (.t 43)),O1 45 (.pick (.t 40) (.c (.bool true)) (.t 44))]
def E33 : List XO := [O1 4 (.mv (.c (.bool false)))]
def E34 : List XO := [O6 47 2 5,O3 48 6,O1 49 (.call "newel/faults.Explain" [.t 47, .t 48]),O3 46 49,O1 50 (.ext (.t 46) 0),O1 51 (.ext (.t 46) 1),O3 11 50,O3 8 51]
def E35 : List XO := [O1 53 (.load true 2 (.tf 2)),O3 54 1,O1 55 (.call "newel/newelref10.Explain" [.t 53, .t 54]),O3 52 55,O1 56 (.ext (.t 52) 0),O1 57 (.ext (.t 52) 1),O3 12 56,O3 10 57]
def E3p : List XO := [O3 58 8,O3 59 10,O1 60 (.bin .neq .no (.t 58) (.t 59)),O3 61 60,O9 62 61 false (.mv (.t 11)),O9 63 61 false (.mv (.t 12)),O9 64 61 false (.call "newel/newellaw10.sameInts" [.t 62, .t 63]),O9 65 61 false (.un .not (.t 64)),O1 66 (.pick (.t 61) (.c (.bool true)) (.t 65))]
def E3q : List XO := [O1 4 (.mv (.c (.bool false)))]
def E3r : List XO := [O6 68 2 5,O3 69 6,O1 70 (.call "newel/faults.Surely" [.t 68, .t 69]),O3 67 70,O1 71 (.ext (.t 67) 0),O1 72 (.ext (.t 67) 1),O3 11 71,O3 8 72]
def E3s : List XO := [O1 74 (.load true 2 (.tf 2)),O3 75 1,O1 76 (.call "newel/newelref10.Surely" [.t 74, .t 75]),O3 73 76,O1 77 (.ext (.t 73) 0),O1 78 (.ext (.t 73) 1),O3 12 77,O3 10 78]
def E3t : List XO := [O3 79 8,O3 80 10,O1 81 (.bin .neq .no (.t 79) (.t 80)),O3 82 81,O9 83 82 false (.mv (.t 11)),O9 84 82 false (.mv (.t 12)),O9 85 82 false (.call "newel/newellaw10.sameInts" [.t 83, .t 84]),O9 86 82 false (.un .not (.t 85)),O1 87 (.pick (.t 82) (.c (.bool true)) (.t 86))]
def E3u : List XO := [O1 4 (.mv (.c (.bool false)))]
def E3v : List XO := [O6 89 2 5,O3 90 6,O1 91 (.call "newel/faults.Ask" [.t 89, .t 90]),O3 88 91,O1 92 (.ext (.t 88) 0),O1 93 (.ext (.t 88) 1),O3 13 92,O3 8 93]
def E3w : List XO := [O1 95 (.load true 2 (.tf 2)),O3 96 1,O1 97 (.call "newel/newelref10.Ask" [.t 95, .t 96]),O3 94 97,O1 98 (.ext (.t 94) 0),O1 99 (.ext (.t 94) 1),O3 14 98,O3 10 99]
def E3x : List XO := [O3 100 13,O3 101 14,O1 102 (.bin .eql .no (.t 100) (.t 101)),O3 103 102,O9 104 103 true (.mv (.t 8)),O9 105 103 true (.mv (.t 10)),O9 106 103 true (.bin .eql .no (.t 104) (.t 105)),O1 107 (.pick (.t 103) (.t 106) (.c (.bool false))),O3 108 107,O9 109 108 true (.call "newel/newellaw10.works" []),O1 110 (.pick (.t 108) (.t 109) (.c (.bool false))),O3 4 110]
def x_l10_FaultsAlarms : XFunc := { np := 2, res := [.t 4], body :=
 (.seq (.reg E3n) (.seq (.seq (.reg E3o) (.cond (.t 18) (.seq (.reg E3y) .ret) .skip)) (.seq (.reg E3z) (.seq (.seq .ghost (.reg E30)) (.seq (.reg E31) (.seq (.seq (.reg E32) (.cond (.t 45) (.seq (.reg E33) .ret) .skip)) (.seq (.reg E34) (.seq (.reg E35) (.seq (.seq (.reg E3p) (.cond (.t 66) (.seq (.reg E3q) .ret) .skip)) (.seq (.reg E3r) (.seq (.reg E3s) (.seq (.seq (.reg E3t) (.cond (.t 87) (.seq (.reg E3u) .ret) .skip)) (.seq (.reg E3v) (.seq (.reg E3w) (.seq (.reg E3x) .ret))))))))))))))) }
def D8a : List XO := [O1 2 (.boxF (.t 0)),O1 4 (.mv (c9 0))]
def D8b : List XO := [O1 7 (.fldA 0 (.tf 2)),O1 8 (.load false 1 (.tf 7)),O1 9 (.call "newel/newelref10.from" [.t 8, (c9 0), (c9 10)]),O1 10 (.un .not (.t 9)),O3 11 10,O9 12 11 false (.fldA 1 (.tf 2)),O9 13 11 false (.load false 1 (.tf 12)),O9 14 11 false (.len false (.t 13)),O9 15 11 false (.bin .gtr .no (.t 14) (c9 10)),O1 16 (.pick (.t 11) (.c (.bool true)) (.t 15))]
def D8g : List XO := [O1 4 (.mv (c9 101))]
def D8h : List XO := [O1 5 (.mv (c9 0))]
def D8i : List XO := [O3 17 5,O1 18 (.fldA 1 (.tf 2)),O1 19 (.load false 1 (.tf 18)),O8 20 19,O1 21 (.bin .lss .no (.t 17) (.t 20))]
def D8j : List XO := [O1 6 (.mv (c9 0))]
def D8k : List XO := [O3 24 6,O1 25 (.fldA 1 (.tf 2)),O1 26 (.load false 1 (.tf 25)),O3 27 5,O7 28 1 26 27,O4 29 1 28,O8 30 29,O1 31 (.bin .lss .no (.t 24) (.t 30))]
def D8l : List XO := [O1 34 (.fldA 1 (.tf 2)),O1 35 (.load false 1 (.tf 34)),O3 36 5,O7 37 1 35 36,O4 38 1 37,O3 39 6,O7 40 1 38 39,O4 41 1 40,O1 42 (.fldA 0 (.tf 2)),O1 43 (.load false 1 (.tf 42)),O1 44 (.bin .sub .no (.t 43) (c9 1)),O1 45 (.call "newel/newelref10.from" [.t 41, (c9 0), .t 44]),O1 46 (.un .not (.t 45)),O3 47 46,O9 48 47 false (.mv (.t 6)),O9 49 47 false (.bin .gtr .no (.t 48) (c9 0)),O9 50 47 false (.mv (.t 49)),O9 51 50 true (.fldA 1 (.tf 2)),O9 52 50 true (.load false 1 (.tf 51)),O9 53 50 true (.mv (.t 5)),O9 54 50 true (.ixA 1 (.t 52) (.t 53)),O9 55 50 true (.load false 1 (.t 54)),O9 56 50 true (.mv (.t 6)),O9 57 50 true (.ixA 1 (.t 55) (.t 56)),O9 58 50 true (.load false 1 (.t 57)),O9 59 50 true (.fldA 1 (.tf 2)),O9 60 50 true (.load false 1 (.tf 59)),O9 61 50 true (.mv (.t 5)),O9 62 50 true (.ixA 1 (.t 60) (.t 61)),O9 63 50 true (.load false 1 (.t 62)),O9 64 50 true (.mv (.t 6)),O9 65 50 true (.bin .sub .no (.t 64) (c9 1)),O9 66 50 true (.ixA 1 (.t 63) (.t 65)),O9 67 50 true (.load false 1 (.t 66)),O9 68 50 true (.bin .leq .no (.t 58) (.t 67)),O9 69 47 false (.pick (.t 50) (.t 68) (.c (.bool false))),O1 70 (.pick (.t 47) (.c (.bool true)) (.t 69))]
def D8m : List XO := [O1 4 (.mv (c9 101))]
def D8n : List XO := [O3 32 6,O1 33 (.bin .add .no (.t 32) (c9 1)),O3 6 33]
def D31 : XCode :=
 (.seq (.seq (.reg D8k) (.cond (.t 31) .skip (.exit 2))) (.seq (.block 3 (.seq (.reg D8l) (.cond (.t 70) (.seq (.reg D8m) .ret) .skip))) (.reg D8n)))
def D8c : List XO := [O3 22 5,O1 23 (.bin .add .no (.t 22) (c9 1)),O3 5 23]
def D32 : XCode :=
 (.seq (.seq (.reg D8i) (.cond (.t 21) .skip (.exit 0))) (.seq (.block 1 (.seq (.reg D8j) (.block 2 (.loop D31)))) (.reg D8c)))
def D8d : List XO := [O3 71 1,O8 72 71,O1 73 (.fldA 1 (.tf 2)),O1 74 (.load false 1 (.tf 73)),O8 75 74,O1 76 (.bin .neq .no (.t 72) (.t 75))]
def D8e : List XO := [O1 4 (.mv (c9 1))]
def D8f : List XO := [O1 4 (.mv (c9 0))]
def x_r10_CheckPlant : XFunc := { np := 2, res := [.t 4], body :=
 (.seq (.reg D8a) (.seq (.seq (.reg D8b) (.cond (.t 16) (.seq (.reg D8g) .ret) .skip)) (.seq (.seq (.reg D8h) (.block 0 (.loop D32))) (.seq (.seq (.reg D8d) (.cond (.t 76) (.seq (.reg D8e) .ret) .skip)) (.seq (.reg D8f) .ret))))) }
def B5n : List XO := [O1 2 (.boxF (.t 0)),O1 4 (.mv (.c (.slice none 0 0))),O1 5 (.mv (c9 0))]
def B5o : List XO := [O1 10 (.load true 2 (.tf 2)),O3 11 1,O1 12 (.call "newel/faults.plant" [.t 10, .t 11]),O3 6 12]
def B5q : List XO := [O3 13 6,O1 14 (.bin .neq .no (.t 13) (c9 0))]
def B5r : List XO := [O3 15 6,O1 4 (.mv (.c (.slice none 0 0))),O3 5 15]
def B5s : List XO := [O1 7 (.mv (.c (.slice none 0 0)))]
def B5t : List XO := [O1 16 (.load true 2 (.tf 2)),O3 17 1,O1 18 (.call "newel/faults.fewest" [.t 16, .t 17]),O8 19 18,O1 20 (.mv (c9 0))]
def B5u : List XO := [O1 21 (.bin .lss .no (.t 20) (.t 19))]
def B5v : List XO := [O7 22 1 18 20,O4 23 1 22,O3 9 23]
def B5w : List XO := [O3 24 7,O3 25 9,O1 26 (.call "newel/faults.members" [.t 25]),O1 27 (.bsl 1 [.t 26]),O1 28 (.app 1 24 (.t 24) (.t 27)),O3 7 28]
def B5x : List XO := [O1 29 (.bin .add .no (.t 20) (c9 1)),O3 20 29]
def z99 : XCode :=
 (.seq (.reg B5u) (.seq (.cond (.t 21) .skip (.exit 0)) (.seq (.block 1 (.seq (.reg B5v) (.reg B5w))) (.reg B5x))))
def B5p : List XO := [O3 30 7,O3 4 30,O1 5 (.mv (c9 0))]
def x_faults_All : XFunc := { np := 2, res := [.t 4, .t 5], body :=
 (.seq (.reg B5n) (.seq (.seq (.reg B5o) (.seq (.reg B5q) (.cond (.t 14) (.seq (.reg B5r) .ret) .skip))) (.seq (.reg B5s) (.seq (.seq (.reg B5t) (.block 0 (.loop z99))) (.seq (.reg B5p) .ret))))) }
def v24 : List XO := [O1 2 (.boxF (.t 0)),O1 4 (.mv (.c (.slice none 0 0))),O1 5 (.mv (c9 0))]
def v25 : List XO := [O1 7 (.load true 2 (.tf 2)),O3 8 1,O1 9 (.call "newel/faults.plant" [.t 7, .t 8]),O3 6 9]
def v26 : List XO := [O3 10 6,O1 11 (.bin .neq .no (.t 10) (c9 0))]
def v27 : List XO := [O3 12 6,O1 4 (.mv (.c (.slice none 0 0))),O3 5 12]
def v28 : List XO := [O1 13 (.load true 2 (.tf 2)),O3 14 1,O1 15 (.call "newel/faults.fewest" [.t 13, .t 14]),O1 16 (.ixA 1 (.t 15) (c9 0)),O4 17 1 16,O1 18 (.call "newel/faults.members" [.t 17]),O3 4 18,O1 5 (.mv (c9 0))]
def x_faults_Explain : XFunc := { np := 2, res := [.t 4, .t 5], body :=
 (.seq (.reg v24) (.seq (.seq (.reg v25) (.seq (.reg v26) (.cond (.t 11) (.seq (.reg v27) .ret) .skip))) (.seq (.reg v28) .ret))) }
def D6o : List XO := [O1 2 (.boxF (.t 0)),O1 4 (.mv (.c (.slice none 0 0))),O1 5 (.mv (c9 0))]
def D6p : List XO := [O1 10 (.load true 2 (.tf 2)),O3 11 1,O1 12 (.call "newel/faults.plant" [.t 10, .t 11]),O3 6 12]
def D6r : List XO := [O3 13 6,O1 14 (.bin .neq .no (.t 13) (c9 0))]
def D6s : List XO := [O3 15 6,O1 4 (.mv (.c (.slice none 0 0))),O3 5 15]
def D6t : List XO := [O1 7 (.mv (.c (.int .i64 (-1))))]
def D6u : List XO := [O1 16 (.load true 2 (.tf 2)),O3 17 1,O1 18 (.call "newel/faults.fewest" [.t 16, .t 17]),O8 19 18,O1 20 (.mv (c9 0))]
def D6v : List XO := [O1 21 (.bin .lss .no (.t 20) (.t 19))]
def D6w : List XO := [O7 22 1 18 20,O4 23 1 22,O3 9 23]
def D6x : List XO := [O3 24 7,O3 25 9,O1 26 (.bin .and .no (.t 24) (.t 25)),O3 7 26]
def D6y : List XO := [O1 27 (.bin .add .no (.t 20) (c9 1)),O3 20 27]
def D3u : XCode :=
 (.seq (.reg D6v) (.seq (.cond (.t 21) .skip (.exit 0)) (.seq (.block 1 (.seq (.reg D6w) (.reg D6x))) (.reg D6y))))
def D6q : List XO := [O3 28 7,O1 29 (.call "newel/faults.members" [.t 28]),O3 4 29,O1 5 (.mv (c9 0))]
def x_faults_Surely : XFunc := { np := 2, res := [.t 4, .t 5], body :=
 (.seq (.reg D6o) (.seq (.seq (.reg D6p) (.seq (.reg D6r) (.cond (.t 14) (.seq (.reg D6s) .ret) .skip))) (.seq (.reg D6t) (.seq (.seq (.reg D6u) (.block 0 (.loop D3u))) (.seq (.reg D6q) .ret))))) }
def v73 : List XO := [O1 4 (.mv (.c (.bool false)))]
def v74 : List XO := [O3 6 0,O8 7 6,O3 8 1,O8 9 8,O1 10 (.bin .neq .no (.t 7) (.t 9))]
def v75 : List XO := [O1 4 (.mv (.c (.bool false)))]
def v76 : List XO := [O1 5 (.mv (c9 0))]
def v77 : List XO := [O3 11 5,O3 12 0,O8 13 12,O1 14 (.bin .lss .no (.t 11) (.t 13))]
def v78 : List XO := [O3 17 0,O3 18 5,O7 19 1 17 18,O4 20 1 19,O3 21 1,O3 22 5,O7 23 1 21 22,O4 24 1 23,O1 25 (.bin .neq .no (.t 20) (.t 24))]
def v79 : List XO := [O1 4 (.mv (.c (.bool false)))]
def v8a : List XO := [O3 15 5,O1 16 (.bin .add .no (.t 15) (c9 1)),O3 5 16]
def u5x : XCode :=
 (.seq (.seq (.reg v77) (.cond (.t 14) .skip (.exit 0))) (.seq (.block 1 (.seq (.reg v78) (.cond (.t 25) (.seq (.reg v79) .ret) .skip))) (.reg v8a)))
def v8b : List XO := [O1 4 (.mv (.c (.bool true)))]
def x_l10_sameInts : XFunc := { np := 2, res := [.t 4], body :=
 (.seq (.reg v73) (.seq (.seq (.reg v74) (.cond (.t 10) (.seq (.reg v75) .ret) .skip)) (.seq (.seq (.reg v76) (.block 0 (.loop u5x))) (.seq (.reg v8b) .ret)))) }
def y64 : List XO := [O1 4 (.mv (.c (.bool false)))]
def z1s : List XO := [O1 5 (.mv (c9 0))]
def y66 : List XO := [O3 6 5,O3 7 0,O8 8 7,O1 9 (.bin .lss .no (.t 6) (.t 8)),O3 10 9,O9 11 10 true (.mv (.t 5)),O9 12 10 true (.mv (.t 1)),O9 13 10 true (.len false (.t 12)),O9 14 10 true (.bin .lss .no (.t 11) (.t 13)),O1 15 (.pick (.t 10) (.t 14) (.c (.bool false)))]
def y67 : List XO := [O3 18 0,O3 19 5,O7 20 1 18 19,O4 21 1 20,O3 22 1,O3 23 5,O7 24 1 22 23,O4 25 1 24,O1 26 (.bin .neq .no (.t 21) (.t 25))]
def D85 : List XO := [O3 27 0,O3 28 5,O7 29 1 27 28,O4 30 1 29,O3 31 1,O3 32 5,O7 33 1 31 32,O4 34 1 33,O1 35 (.bin .lss .no (.t 30) (.t 34)),O3 4 35]
def D86 : List XO := [O3 16 5,O1 17 (.bin .add .no (.t 16) (c9 1)),O3 5 17]
def x9f : XCode :=
 (.seq (.seq (.reg y66) (.cond (.t 15) .skip (.exit 0))) (.seq (.block 1 (.seq (.reg y67) (.cond (.t 26) (.seq (.reg D85) .ret) .skip))) (.reg D86)))
def y7a : List XO := [O3 36 0,O8 37 36,O3 38 1,O8 39 38,O1 40 (.bin .lss .no (.t 37) (.t 39)),O3 4 40]
def x_r10_Less : XFunc := { np := 2, res := [.t 4], body :=
 (.seq (.reg y64) (.seq (.seq (.reg z1s) (.block 0 (.loop x9f))) (.seq (.reg y7a) .ret))) }
def E5l : List XO := [O1 1 (.boxF (.t 0)),O1 2 (.alloc [(.int .i64 0), (.slice none 0 0)])]
def E5m : List XO := [O1 5 (.fldA 0 (.tf 1)),O1 6 (.load false 1 (.tf 5)),O1 7 (.build [(.int .i64 0), (.slice none 0 0)] [(0, 1, (.t 6))]),O1 3 (.alloc [(.int .i64 0), (.slice none 0 0)]),O2 (.store 2 (.t 3) (.t 7))]
def E5n : List XO := [O1 4 (.mv (c9 0))]
def E5o : List XO := [O3 8 4,O1 9 (.fldA 1 (.tf 1)),O1 10 (.load false 1 (.tf 9)),O8 11 10,O1 12 (.bin .lss .no (.t 8) (.t 11))]
def E5p : List XO := [O5 15 1 3,O4 16 1 15,O1 17 (.bsl 1 []),O1 18 (.fldA 1 (.tf 1)),O1 19 (.load false 1 (.tf 18)),O3 20 4,O7 21 1 19 20,O4 22 1 21,O1 23 (.app 1 8 (.t 17) (.t 22)),O1 24 (.bsl 1 [.t 23]),O1 25 (.app 1 24 (.t 16) (.t 24)),O5 26 1 3,O2 (.store 1 (.t 26) (.t 25))]
def E5q : List XO := [O3 13 4,O1 14 (.bin .add .no (.t 13) (c9 1)),O3 4 14]
def E1p : XCode :=
 (.seq (.seq (.reg E5o) (.cond (.t 12) .skip (.exit 0))) (.seq (.block 1 (.seq (.reg E5p) .ghost)) (.reg E5q)))
def E5r : List XO := [O6 27 2 3,O2 (.store 2 (.t 2) (.t 27))]
def x_r10_CopyPlant : XFunc := { np := 1, res := [.cell 2 true 2], body :=
 (.seq (.reg E5l) (.seq (.reg E5m) (.seq (.seq (.reg E5n) (.block 0 (.loop E1p))) (.seq (.reg E5r) .ret)))) }
def E4f : List XO := [O1 2 (.boxF (.t 0)),O1 4 (.mv (.c (.slice none 0 0))),O1 5 (.mv (c9 0))]
def E4g : List XO := [O1 14 (.load true 2 (.tf 2)),O3 15 1,O1 16 (.call "newel/newelref10.CheckPlant" [.t 14, .t 15]),O3 6 16]
def E4q : List XO := [O3 17 6,O1 18 (.bin .neq .no (.t 17) (c9 0))]
def E4y : List XO := [O3 19 6,O1 4 (.mv (.c (.slice none 0 0))),O3 5 19]
def E4z : List XO := [O1 7 (.mv (.c (.slice none 0 0)))]
def E40 : List XO := [O1 8 (.mv (.c (.int .i64 (-1))))]
def E41 : List XO := [O1 9 (.mv (c9 0))]
def E42 : List XO := [O3 20 9,O1 21 (.fldA 0 (.tf 2)),O1 22 (.load false 1 (.tf 21)),O1 23 (.cvtI .u64 (.t 22)),O1 24 (.bin .shl .no (c9 1) (.t 23)),O1 25 (.bin .lss .no (.t 20) (.t 24))]
def E43 : List XO := [O3 28 9,O1 29 (.callw "newel/newelref10.bits" [.t 28]),O3 10 29]
def E44 : List XO := [O1 11 (.mv (c9 0))]
def E4h : List XO := [O3 30 11,O1 31 (.fldA 1 (.tf 2)),O1 32 (.load false 1 (.tf 31)),O8 33 32,O1 34 (.bin .lss .no (.t 30) (.t 33))]
def E4i : List XO := [O1 12 (.mv (.c (.bool false)))]
def E4j : List XO := [O1 13 (.mv (c9 0))]
def E4k : List XO := [O3 37 13,O1 38 (.fldA 1 (.tf 2)),O1 39 (.load false 1 (.tf 38)),O3 40 11,O7 41 1 39 40,O4 42 1 41,O8 43 42,O1 44 (.bin .lss .no (.t 37) (.t 43))]
def E4l : List XO := [O3 47 12,O3 48 47,O9 49 48 false (.mv (.t 9)),O9 50 48 false (.fldA 1 (.tf 2)),O9 51 48 false (.load false 1 (.tf 50)),O9 52 48 false (.mv (.t 11)),O9 53 48 false (.ixA 1 (.t 51) (.t 52)),O9 54 48 false (.load false 1 (.t 53)),O9 55 48 false (.mv (.t 13)),O9 56 48 false (.ixA 1 (.t 54) (.t 55)),O9 57 48 false (.load false 1 (.t 56)),O9 58 48 false (.cvtI .u64 (.t 57)),O9 59 48 false (.bin .shr .no (.t 49) (.t 58)),O9 60 48 false (.bin .and .no (.t 59) (c9 1)),O9 61 48 false (.bin .eql .no (.t 60) (c9 1)),O1 62 (.pick (.t 48) (.c (.bool true)) (.t 61)),O3 12 62]
def E4m : List XO := [O3 45 13,O1 46 (.bin .add .no (.t 45) (c9 1)),O3 13 46]
def E1l : XCode :=
 (.seq (.seq (.reg E4k) (.cond (.t 44) .skip (.exit 4))) (.seq (.block 5 (.reg E4l)) (.reg E4m)))
def E4n : List XO := [O3 63 12,O3 64 1,O3 65 11,O7 66 1 64 65,O4 67 1 66,O1 68 (.bin .neq .bool (.t 63) (.t 67))]
def E4o : List XO := [O3 69 10,O1 70 (.fldA 0 (.tf 2)),O1 71 (.load false 1 (.tf 70)),O3 72 11,O1 73 (.bin .add .no (.t 71) (.t 72)),O1 74 (.bsl 1 [.t 73]),O1 75 (.app 1 8 (.t 69) (.t 74)),O3 10 75]
def E4p : List XO := [O3 35 11,O1 36 (.bin .add .no (.t 35) (c9 1)),O3 11 36]
def E1m : XCode :=
 (.seq (.seq (.reg E4h) (.cond (.t 34) .skip (.exit 2))) (.seq (.block 3 (.seq (.reg E4i) (.seq (.seq (.reg E4j) (.block 4 (.loop E1l))) (.seq (.reg E4n) (.cond (.t 68) (.reg E4o) .skip))))) (.reg E4p)))
def E4r : List XO := [O3 76 8,O1 77 (.bin .lss .no (.t 76) (c9 0)),O3 78 77,O9 79 78 false (.mv (.t 10)),O9 80 78 false (.len false (.t 79)),O9 81 78 false (.mv (.t 8)),O9 82 78 false (.bin .lss .no (.t 80) (.t 81)),O1 83 (.pick (.t 78) (.c (.bool true)) (.t 82))]
def E4s : List XO := [O3 84 10,O8 85 84,O3 8 85]
def E4t : List XO := [O1 7 (.mv (.c (.slice none 0 0)))]
def E4u : List XO := [O3 86 10,O8 87 86,O3 88 8,O1 89 (.bin .eql .no (.t 87) (.t 88))]
def E4v : List XO := [O3 90 7,O3 91 10,O1 92 (.call "newel/newelref10.put" [.t 90, .t 91]),O3 7 92]
def E4w : List XO := [O3 26 9,O1 27 (.bin .add .no (.t 26) (c9 1)),O3 9 27]
def E1n : XCode :=
 (.seq (.seq (.reg E42) (.cond (.t 25) .skip (.exit 0))) (.seq (.block 1 (.seq (.reg E43) (.seq (.seq (.reg E44) (.block 2 (.loop E1m))) (.seq (.seq (.reg E4r) (.cond (.t 83) (.seq (.reg E4s) (.reg E4t)) .skip)) (.seq (.reg E4u) (.cond (.t 89) (.seq .ghost (.reg E4v)) .skip)))))) (.reg E4w)))
def E4x : List XO := [O3 93 7,O3 4 93,O1 5 (.mv (c9 0))]
def x_r10_All : XFunc := { np := 2, res := [.t 4, .t 5], body :=
 (.seq (.reg E4f) (.seq (.reg E4g) (.seq (.seq (.reg E4q) (.cond (.t 18) (.seq (.reg E4y) .ret) .skip)) (.seq (.reg E4z) (.seq (.reg E40) (.seq (.seq (.reg E41) (.block 0 (.loop E1n))) (.seq (.reg E4x) .ret))))))) }
def E36 : List XO := [O1 4 (.mv (.c (.bool false)))]
def E37 : List XO := [O3 6 0,O8 7 6,O3 8 1,O8 9 8,O1 10 (.bin .neq .no (.t 7) (.t 9))]
def E38 : List XO := [O1 4 (.mv (.c (.bool false)))]
def E39 : List XO := [O1 5 (.mv (c9 0))]
def E4a : List XO := [O3 11 5,O3 12 0,O8 13 12,O1 14 (.bin .lss .no (.t 11) (.t 13))]
def E4b : List XO := [O3 17 0,O3 18 5,O7 19 1 17 18,O4 20 1 19,O3 21 1,O3 22 5,O7 23 1 21 22,O4 24 1 23,O1 25 (.call "newel/newellaw10.sameInts" [.t 20, .t 24]),O1 26 (.un .not (.t 25))]
def E4c : List XO := [O1 4 (.mv (.c (.bool false)))]
def E4d : List XO := [O3 15 5,O1 16 (.bin .add .no (.t 15) (c9 1)),O3 5 16]
def E1k : XCode :=
 (.seq (.seq (.reg E4a) (.cond (.t 14) .skip (.exit 0))) (.seq (.block 1 (.seq (.reg E4b) (.cond (.t 26) (.seq (.reg E4c) .ret) .skip))) (.reg E4d)))
def E4e : List XO := [O1 4 (.mv (.c (.bool true)))]
def x_l10_sameLists : XFunc := { np := 2, res := [.t 4], body :=
 (.seq (.reg E36) (.seq (.seq (.reg E37) (.cond (.t 10) (.seq (.reg E38) .ret) .skip)) (.seq (.seq (.reg E39) (.block 0 (.loop E1k))) (.seq (.reg E4e) .ret)))) }
def E5s : List XO := [O1 2 (.boxF (.t 0)),O1 4 (.mv (.c (.slice none 0 0))),O1 5 (.mv (c9 0))]
def E5t : List XO := [O1 9 (.load true 2 (.tf 2)),O3 10 1,O1 11 (.call "newel/newelref10.All" [.t 9, .t 10]),O3 8 11,O1 12 (.ext (.t 8) 0),O1 13 (.ext (.t 8) 1),O3 6 12,O3 7 13]
def E5u : List XO := [O3 14 7,O1 15 (.bin .neq .no (.t 14) (c9 0))]
def E5v : List XO := [O3 16 7,O1 4 (.mv (.c (.slice none 0 0))),O3 5 16]
def E5w : List XO := [O3 17 6,O1 18 (.ixA 1 (.t 17) (c9 0)),O4 19 1 18,O3 4 19,O1 5 (.mv (c9 0))]
def x_r10_Explain : XFunc := { np := 2, res := [.t 4, .t 5], body :=
 (.seq (.reg E5s) (.seq (.reg E5t) (.seq (.seq (.reg E5u) (.cond (.t 15) (.seq (.reg E5v) .ret) .skip)) (.seq (.reg E5w) .ret)))) }
def E5x : List XO := [O1 2 (.boxF (.t 0)),O1 4 (.mv (.c (.slice none 0 0))),O1 5 (.mv (c9 0))]
def E5y : List XO := [O1 11 (.load true 2 (.tf 2)),O3 12 1,O1 13 (.call "newel/newelref10.All" [.t 11, .t 12]),O3 10 13,O1 14 (.ext (.t 10) 0),O1 15 (.ext (.t 10) 1),O3 6 14,O3 7 15]
def E50 : List XO := [O3 16 7,O1 17 (.bin .neq .no (.t 16) (c9 0))]
def E51 : List XO := [O3 18 7,O1 4 (.mv (.c (.slice none 0 0))),O3 5 18]
def E52 : List XO := [O1 8 (.mv (.c (.slice none 0 0)))]
def E53 : List XO := [O1 9 (.mv (c9 0))]
def E54 : List XO := [O3 19 9,O1 20 (.fldA 0 (.tf 2)),O1 21 (.load false 1 (.tf 20)),O1 22 (.fldA 1 (.tf 2)),O1 23 (.load false 1 (.tf 22)),O8 24 23,O1 25 (.bin .add .no (.t 21) (.t 24)),O1 26 (.bin .lss .no (.t 19) (.t 25))]
def E55 : List XO := [O3 29 6,O3 30 9,O1 31 (.call "newel/newelref10.in" [.t 29, .t 30]),O3 32 6,O8 33 32,O1 34 (.bin .eql .no (.t 31) (.t 33))]
def E56 : List XO := [O3 35 8,O3 36 9,O1 37 (.bsl 1 [.t 36]),O1 38 (.app 1 8 (.t 35) (.t 37)),O3 8 38]
def E57 : List XO := [O3 27 9,O1 28 (.bin .add .no (.t 27) (c9 1)),O3 9 28]
def E1q : XCode :=
 (.seq (.seq (.reg E54) (.cond (.t 26) .skip (.exit 0))) (.seq (.block 1 (.seq (.reg E55) (.cond (.t 34) (.reg E56) .skip))) (.reg E57)))
def E5z : List XO := [O3 39 8,O3 4 39,O1 5 (.mv (c9 0))]
def x_r10_Surely : XFunc := { np := 2, res := [.t 4, .t 5], body :=
 (.seq (.reg E5x) (.seq (.reg E5y) (.seq (.seq (.reg E50) (.cond (.t 17) (.seq (.reg E51) .ret) .skip)) (.seq (.reg E52) (.seq (.seq (.reg E53) (.block 0 (.loop E1q))) (.seq (.reg E5z) .ret)))))) }
def E21 : List XO := [O1 2 (.boxF (.t 0)),O1 4 (.mv (c9 0)),O1 5 (.mv (c9 0))]
def E22 : List XO := [O1 14 (.load true 2 (.tf 2)),O3 15 1,O1 16 (.call "newel/faults.plant" [.t 14, .t 15]),O3 5 16]
def E3c : List XO := [O3 17 5,O1 18 (.bin .neq .no (.t 17) (c9 0))]
def E3g : List XO := [O3 19 5,O1 4 (.mv (c9 0)),O3 5 19]
def E3h : List XO := [O1 20 (.load true 2 (.tf 2)),O3 21 1,O1 22 (.call "newel/faults.fewest" [.t 20, .t 21]),O3 6 22]
def E3i : List XO := [O3 23 6,O8 24 23,O1 7 (.mv (.c (.int .i64 (-1)))),O3 8 24]
def E3j : List XO := [O1 25 (.fldA 0 (.tf 2)),O1 26 (.load false 1 (.tf 25)),O1 27 (.mv (c9 0))]
def E3k : List XO := [O1 28 (.bin .lss .no (.t 27) (.t 26))]
def E3l : List XO := [O3 29 27,O3 9 29]
def E3m : List XO := [O1 10 (.mv (c9 0))]
def E23 : List XO := [O3 30 6,O8 31 30,O1 32 (.mv (c9 0))]
def E24 : List XO := [O1 33 (.bin .lss .no (.t 32) (.t 31))]
def E25 : List XO := [O7 34 1 30 32,O4 35 1 34,O3 12 35]
def E26 : List XO := [O3 36 10,O3 37 12,O3 38 9,O1 39 (.bin .shr .no (.t 37) (.t 38)),O1 40 (.bin .and .no (.t 39) (c9 1)),O1 41 (.bin .add .no (.t 36) (.t 40)),O3 10 41]
def E27 : List XO := [O1 42 (.bin .add .no (.t 32) (c9 1)),O3 32 42]
def E1i : XCode :=
 (.seq (.reg E24) (.seq (.cond (.t 33) .skip (.exit 2)) (.seq (.block 3 (.seq (.reg E25) (.reg E26))) (.reg E27))))
def E28 : List XO := [O3 43 10,O3 44 6,O8 45 44,O3 46 10,O1 47 (.bin .sub .no (.t 45) (.t 46)),O1 48 (.max [.t 43, .t 47]),O3 13 48]
def E29 : List XO := [O3 49 13,O3 50 8,O1 51 (.bin .lss .no (.t 49) (.t 50))]
def E3a : List XO := [O3 52 9,O3 53 13,O3 7 52,O3 8 53]
def E3b : List XO := [O1 54 (.bin .add .no (.t 27) (c9 1)),O3 27 54]
def E1j : XCode :=
 (.seq (.reg E3k) (.seq (.cond (.t 28) .skip (.exit 0)) (.seq (.block 1 (.seq (.reg E3l) (.seq (.reg E3m) (.seq (.seq (.reg E23) (.block 2 (.loop E1i))) (.seq (.reg E28) (.seq (.reg E29) (.cond (.t 51) (.reg E3a) .skip))))))) (.reg E3b))))
def E3d : List XO := [O3 55 7,O1 56 (.bin .lss .no (.t 55) (c9 0))]
def E3e : List XO := [O1 4 (.mv (c9 0)),O1 5 (.mv (c9 3))]
def E3f : List XO := [O3 57 7,O3 4 57,O1 5 (.mv (c9 0))]
def x_faults_Ask : XFunc := { np := 2, res := [.t 4, .t 5], body :=
 (.seq (.reg E21) (.seq (.seq (.reg E22) (.seq (.reg E3c) (.cond (.t 18) (.seq (.reg E3g) .ret) .skip))) (.seq (.reg E3h) (.seq (.reg E3i) (.seq (.seq (.reg E3j) (.block 0 (.loop E1j))) (.seq (.seq (.reg E3d) (.cond (.t 56) (.seq (.reg E3e) .ret) .skip)) (.seq (.reg E3f) .ret))))))) }
def E45 : List XO := [O1 2 (.boxF (.t 0)),O1 4 (.mv (c9 0)),O1 5 (.mv (c9 0))]
def E46 : List XO := [O1 14 (.load true 2 (.tf 2)),O3 15 1,O1 16 (.call "newel/newelref10.All" [.t 14, .t 15]),O3 13 16,O1 17 (.ext (.t 13) 0),O1 18 (.ext (.t 13) 1),O3 6 17,O3 7 18]
def E5d : List XO := [O3 19 7,O1 20 (.bin .neq .no (.t 19) (c9 0))]
def E5e : List XO := [O3 21 7,O1 4 (.mv (c9 0)),O3 5 21]
def E5f : List XO := [O3 22 6,O8 23 22,O1 8 (.mv (c9 0)),O3 9 23]
def E5g : List XO := [O1 10 (.mv (c9 0))]
def E5h : List XO := [O3 24 10,O1 25 (.fldA 0 (.tf 2)),O1 26 (.load false 1 (.tf 25)),O1 27 (.bin .lss .no (.t 24) (.t 26))]
def E5i : List XO := [O3 30 6,O3 31 10,O1 32 (.call "newel/newelref10.in" [.t 30, .t 31]),O3 11 32]
def E5j : List XO := [O3 33 11,O3 34 6,O8 35 34,O3 36 11,O1 37 (.bin .sub .no (.t 35) (.t 36)),O1 38 (.max [.t 33, .t 37]),O3 12 38]
def E5k : List XO := [O3 39 12,O3 40 9,O1 41 (.bin .lss .no (.t 39) (.t 40))]
def E47 : List XO := [O3 42 12,O3 9 42]
def E48 : List XO := [O3 43 10,O3 8 43]
def E49 : List XO := [O3 28 10,O1 29 (.bin .add .no (.t 28) (c9 1)),O3 10 29]
def E1o : XCode :=
 (.seq (.seq (.reg E5h) (.cond (.t 27) .skip (.exit 0))) (.seq (.block 1 (.seq (.reg E5i) (.seq (.reg E5j) (.seq (.reg E5k) (.cond (.t 41) (.seq (.reg E47) (.reg E48)) .skip))))) (.reg E49)))
def E5a : List XO := [O3 44 9,O3 45 6,O8 46 45,O1 47 (.bin .eql .no (.t 44) (.t 46))]
def E5b : List XO := [O1 4 (.mv (c9 0)),O1 5 (.mv (c9 3))]
def E5c : List XO := [O3 48 8,O3 4 48,O1 5 (.mv (c9 0))]
def x_r10_Ask : XFunc := { np := 2, res := [.t 4, .t 5], body :=
 (.seq (.reg E45) (.seq (.reg E46) (.seq (.seq (.reg E5d) (.cond (.t 20) (.seq (.reg E5e) .ret) .skip)) (.seq (.reg E5f) (.seq (.seq (.reg E5g) (.block 0 (.loop E1o))) (.seq (.seq (.reg E5a) (.cond (.t 47) (.seq (.reg E5b) .ret) .skip)) (.seq (.reg E5c) .ret))))))) }
def w1o : List XO := [O1 6 (.mv (.c (.bool false)))]
def w1p : List XO := [O3 7 0,O3 8 1,O1 9 (.bin .geq .no (.t 7) (.t 8)),O3 10 9,O9 11 10 true (.mv (.t 0)),O9 12 10 true (.mv (.t 2)),O9 13 10 true (.bin .leq .no (.t 11) (.t 12)),O1 14 (.pick (.t 10) (.t 13) (.c (.bool false))),O3 6 14]
def x_r10_from : XFunc := { np := 3, res := [.t 6], body :=
 (.seq (.reg w1o) (.seq (.reg w1p) .ret)) }
def v53 : List XO := [O1 2 (.boxF (.t 0)),O1 4 (.mv (c9 0))]
def v54 : List XO := [O1 10 (.fldA 0 (.tf 2)),O1 11 (.load false 1 (.tf 10)),O1 12 (.call "newel/faults.within" [.t 11, (c9 0), (c9 10)]),O1 13 (.un .not (.t 12)),O3 14 13,O9 15 14 false (.fldA 1 (.tf 2)),O9 16 14 false (.load false 1 (.tf 15)),O9 17 14 false (.len false (.t 16)),O9 18 14 false (.bin .gtr .no (.t 17) (c9 10)),O1 19 (.pick (.t 14) (.c (.bool true)) (.t 18))]
def v6d : List XO := [O1 4 (.mv (c9 101))]
def v6e : List XO := [O1 20 (.fldA 1 (.tf 2)),O1 21 (.load false 1 (.tf 20)),O8 22 21,O1 23 (.mv (c9 0))]
def v6f : List XO := [O1 24 (.bin .lss .no (.t 23) (.t 22))]
def v6g : List XO := [O7 25 1 21 23,O4 26 1 25,O3 6 26]
def v6h : List XO := [O1 7 (.mv (.c (.int .i64 (-1))))]
def v6i : List XO := [O3 27 6,O8 28 27,O1 29 (.mv (c9 0))]
def v6j : List XO := [O1 30 (.bin .lss .no (.t 29) (.t 28))]
def v6k : List XO := [O7 31 1 27 29,O4 32 1 31,O3 9 32]
def v55 : List XO := [O3 33 9,O3 34 7,O1 35 (.bin .add .no (.t 34) (c9 1)),O1 36 (.fldA 0 (.tf 2)),O1 37 (.load false 1 (.tf 36)),O1 38 (.bin .sub .no (.t 37) (c9 1)),O1 39 (.call "newel/faults.within" [.t 33, .t 35, .t 38]),O1 40 (.un .not (.t 39))]
def v56 : List XO := [O1 4 (.mv (c9 101))]
def v57 : List XO := [O3 41 9,O3 7 41]
def v58 : List XO := [O1 42 (.bin .add .no (.t 29) (c9 1)),O3 29 42]
def v6l : XCode :=
 (.seq (.reg v6j) (.seq (.cond (.t 30) .skip (.exit 2)) (.seq (.block 3 (.seq (.reg v6k) (.seq (.seq (.reg v55) (.cond (.t 40) (.seq (.reg v56) .ret) .skip)) (.reg v57)))) (.reg v58))))
def v59 : List XO := [O1 43 (.bin .add .no (.t 23) (c9 1)),O3 23 43]
def v6m : XCode :=
 (.seq (.reg v6f) (.seq (.cond (.t 24) .skip (.exit 0)) (.seq (.block 1 (.seq (.reg v6g) (.seq (.reg v6h) (.seq (.reg v6i) (.block 2 (.loop v6l)))))) (.reg v59))))
def v6a : List XO := [O3 44 1,O8 45 44,O1 46 (.fldA 1 (.tf 2)),O1 47 (.load false 1 (.tf 46)),O8 48 47,O1 49 (.bin .neq .no (.t 45) (.t 48))]
def v6b : List XO := [O1 4 (.mv (c9 1))]
def v6c : List XO := [O1 4 (.mv (c9 0))]
def x_faults_plant : XFunc := { np := 2, res := [.t 4], body :=
 (.seq (.reg v53) (.seq (.seq (.reg v54) (.cond (.t 19) (.seq (.reg v6d) .ret) .skip)) (.seq (.seq (.reg v6e) (.block 0 (.loop v6m))) (.seq (.seq (.reg v6a) (.cond (.t 49) (.seq (.reg v6b) .ret) .skip)) (.seq (.reg v6c) .ret))))) }
def v5i : List XO := [O1 2 (.boxF (.t 0)),O1 4 (.mv (.c (.slice none 0 0)))]
def v5j : List XO := [O1 5 (.mv (.c (.slice none 0 0)))]
def v5n : List XO := [O1 8 (.fldA 0 (.tf 2)),O1 9 (.load false 1 (.tf 8)),O1 10 (.bin .shl .no (c9 1) (.t 9)),O1 11 (.mv (c9 0))]
def v5o : List XO := [O1 12 (.bin .lss .no (.t 11) (.t 10))]
def v5p : List XO := [O3 13 11,O3 6 13]
def v5q : List XO := [O1 14 (.load true 2 (.tf 2)),O3 15 1,O3 16 6,O1 17 (.call "newel/faults.explained" [.t 14, .t 15, .t 16]),O3 7 17]
def v5r : List XO := [O3 19 5,O8 20 19,O1 21 (.bin .eql .no (.t 20) (c9 0)),O3 22 21,O9 23 22 false (.mv (.t 7)),O9 24 22 false (.cvtI .u64 (.t 23)),O9 25 22 false (.call "math/bits.OnesCount" [.t 24]),O9 26 22 false (.mv (.t 5)),O9 27 22 false (.ixA 1 (.t 26) (c9 0)),O9 28 22 false (.load false 1 (.t 27)),O9 29 22 false (.cvtI .u64 (.t 28)),O9 30 22 false (.call "math/bits.OnesCount" [.t 29]),O9 31 22 false (.bin .lss .no (.t 25) (.t 30)),O1 32 (.pick (.t 22) (.c (.bool true)) (.t 31)),O3 18 32]
def v5s : List XO := [O3 33 7,O1 34 (.bsl 1 [.t 33]),O3 5 34]
def v5t : List XO := [O3 36 7,O1 37 (.cvtI .u64 (.t 36)),O1 38 (.call "math/bits.OnesCount" [.t 37]),O3 39 5,O1 40 (.ixA 1 (.t 39) (c9 0)),O4 41 1 40,O1 42 (.cvtI .u64 (.t 41)),O1 43 (.call "math/bits.OnesCount" [.t 42]),O1 44 (.bin .eql .no (.t 38) (.t 43)),O3 35 44]
def v5u : List XO := [O3 45 5,O3 46 7,O1 47 (.bsl 1 [.t 46]),O1 48 (.app 1 8 (.t 45) (.t 47)),O3 5 48]
def v5k : List XO := [O1 49 (.bin .add .no (.t 11) (c9 1)),O3 11 49]
def v5v : XCode :=
 (.seq (.reg v5o) (.seq (.cond (.t 12) .skip (.exit 0)) (.seq (.block 1 (.seq (.reg v5p) (.seq (.reg v5q) (.block 2 (.seq (.reg v5r) (.cond (.t 18) (.reg v5s) (.seq (.reg v5t) (.cond (.t 35) (.reg v5u) .skip)))))))) (.reg v5k))))
def v5l : List XO := [O3 50 5,O1 51 (.callw "slices.SortFunc[[]int,int]" [.t 50, (.f "newel/faults.fewest$1")])]
def v5m : List XO := [O3 52 5,O3 4 52]
def x_faults_fewest : XFunc := { np := 2, res := [.t 4], body :=
 (.seq (.reg v5i) (.seq (.reg v5j) (.seq (.seq (.reg v5n) (.block 0 (.loop v5v))) (.seq (.reg v5l) (.seq (.reg v5m) .ret))))) }
def v5w : List XO := [O1 2 (.mv (.c (.slice none 0 0)))]
def v5x : List XO := [O1 3 (.mv (.c (.slice none 0 0)))]
def v5y : List XO := [O3 4 0,O1 5 (.bin .neq .no (.t 4) (c9 0))]
def v5z : List XO := [O3 10 3,O3 11 0,O1 12 (.cvtI .u64 (.t 11)),O1 13 (.call "math/bits.TrailingZeros" [.t 12]),O1 14 (.bsl 1 [.t 13]),O1 15 (.app 1 8 (.t 10) (.t 14)),O3 3 15]
def v50 : List XO := [O3 6 0,O3 7 0,O1 8 (.bin .sub .no (.t 7) (c9 1)),O1 9 (.bin .and .no (.t 6) (.t 8)),O3 0 9]
def v52 : XCode :=
 (.seq (.seq (.reg v5y) (.cond (.t 5) .skip (.exit 0))) (.seq (.block 1 (.reg v5z)) (.reg v50)))
def v51 : List XO := [O3 16 3,O3 2 16]
def x_faults_members : XFunc := { np := 1, res := [.t 2], body :=
 (.seq (.reg v5w) (.seq (.reg v5x) (.seq (.block 0 (.loop v52)) (.seq (.reg v51) .ret)))) }
def E58 : List XO := [O1 2 (.mv (.c (.slice none 0 0)))]
def E59 : List XO := [O1 3 (.mv (.c (.slice none 0 0)))]
def E6a : List XO := [O1 4 (.mv (c9 0))]
def E6b : List XO := [O3 5 0,O3 6 4,O1 7 (.cvtI .u64 (.t 6)),O1 8 (.bin .shr .no (.t 5) (.t 7)),O1 9 (.bin .gtr .no (.t 8) (c9 0))]
def E6c : List XO := [O3 12 0,O3 13 4,O1 14 (.cvtI .u64 (.t 13)),O1 15 (.bin .shr .no (.t 12) (.t 14)),O1 16 (.bin .and .no (.t 15) (c9 1)),O1 17 (.bin .eql .no (.t 16) (c9 1))]
def E6d : List XO := [O3 18 3,O3 19 4,O1 20 (.bsl 1 [.t 19]),O1 21 (.app 1 8 (.t 18) (.t 20)),O3 3 21]
def E6e : List XO := [O3 10 4,O1 11 (.bin .add .no (.t 10) (c9 1)),O3 4 11]
def E1r : XCode :=
 (.seq (.seq (.reg E6b) (.cond (.t 9) .skip (.exit 0))) (.seq (.block 1 (.seq (.reg E6c) (.cond (.t 17) (.reg E6d) .skip))) (.reg E6e)))
def E6f : List XO := [O3 22 3,O3 2 22]
def x_r10_bits : XFunc := { np := 1, res := [.t 2], body :=
 (.seq (.reg E58) (.seq (.reg E59) (.seq (.seq (.reg E6a) (.block 0 (.loop E1r))) (.seq (.reg E6f) .ret)))) }
def E6r : List XO := [O1 4 (.mv (.c (.slice none 0 0)))]
def E6s : List XO := [O1 5 (.mv (c9 0))]
def E6t : List XO := [O3 7 5,O3 8 0,O8 9 8,O1 10 (.bin .lss .no (.t 7) (.t 9)),O3 11 10,O9 12 11 true (.mv (.t 0)),O9 13 11 true (.mv (.t 5)),O9 14 11 true (.ixA 1 (.t 12) (.t 13)),O9 15 11 true (.load false 1 (.t 14)),O9 16 11 true (.mv (.t 1)),O9 17 11 true (.call "newel/newelref10.Less" [.t 15, .t 16]),O1 18 (.pick (.t 11) (.t 17) (.c (.bool false)))]
def E6u : List XO := [O3 19 5,O1 20 (.bin .add .no (.t 19) (c9 1)),O3 5 20]
def E1u : XCode :=
 (.seq (.seq (.reg E6t) (.cond (.t 18) .skip (.exit 0))) (.block 1 (.reg E6u)))
def E6v : List XO := [O1 21 (.bsl 1 []),O3 22 0,O3 23 5,O1 24 (.slc 1 (.t 22) none (some (.t 23))),O1 25 (.app 1 24 (.t 21) (.t 24)),O3 6 25]
def E6w : List XO := [O3 26 6,O3 27 1,O1 28 (.bsl 1 [.t 27]),O1 29 (.app 1 24 (.t 26) (.t 28)),O3 6 29]
def E6x : List XO := [O3 30 6,O3 31 0,O3 32 5,O1 33 (.slc 1 (.t 31) (some (.t 32)) none),O1 34 (.app 1 24 (.t 30) (.t 33)),O3 4 34]
def x_r10_put : XFunc := { np := 2, res := [.t 4], body :=
 (.seq (.reg E6r) (.seq (.reg E6s) (.seq (.block 0 (.loop E1u)) (.seq (.reg E6v) (.seq (.reg E6w) (.seq (.reg E6x) .ret)))))) }
def E6g : List XO := [O1 4 (.mv (c9 0))]
def E6h : List XO := [O1 5 (.mv (c9 0))]
def E6k : List XO := [O1 6 (.mv (c9 0))]
def E6l : List XO := [O3 8 6,O3 9 0,O8 10 9,O1 11 (.bin .lss .no (.t 8) (.t 10))]
def E6m : List XO := [O1 7 (.mv (c9 0))]
def E6n : List XO := [O3 14 7,O3 15 0,O3 16 6,O7 17 1 15 16,O4 18 1 17,O8 19 18,O1 20 (.bin .lss .no (.t 14) (.t 19))]
def E6o : List XO := [O3 23 0,O3 24 6,O7 25 1 23 24,O4 26 1 25,O3 27 7,O7 28 1 26 27,O4 29 1 28,O3 30 1,O1 31 (.bin .eql .no (.t 29) (.t 30))]
def E6p : List XO := [O3 32 5,O1 33 (.bin .add .no (.t 32) (c9 1)),O3 5 33]
def E6q : List XO := [O3 21 7,O1 22 (.bin .add .no (.t 21) (c9 1)),O3 7 22]
def E1t : XCode :=
 (.seq (.seq (.reg E6n) (.cond (.t 20) .skip (.exit 2))) (.seq (.block 3 (.seq (.reg E6o) (.cond (.t 31) (.reg E6p) .skip))) (.reg E6q)))
def E6i : List XO := [O3 12 6,O1 13 (.bin .add .no (.t 12) (c9 1)),O3 6 13]
def E1s : XCode :=
 (.seq (.seq (.reg E6l) (.cond (.t 11) .skip (.exit 0))) (.seq (.block 1 (.seq (.reg E6m) (.block 2 (.loop E1t)))) (.reg E6i)))
def E6j : List XO := [O3 34 5,O3 4 34]
def x_r10_in : XFunc := { np := 2, res := [.t 4], body :=
 (.seq (.reg E6g) (.seq (.reg E6h) (.seq (.seq (.reg E6k) (.block 0 (.loop E1s))) (.seq (.reg E6j) .ret)))) }
def v7f : List XO := [O1 6 (.mv (.c (.bool false)))]
def v7g : List XO := [O3 7 0,O3 8 1,O1 9 (.bin .geq .no (.t 7) (.t 8)),O3 10 9,O9 11 10 true (.mv (.t 0)),O9 12 10 true (.mv (.t 2)),O9 13 10 true (.bin .leq .no (.t 11) (.t 12)),O1 14 (.pick (.t 10) (.t 13) (.c (.bool false))),O3 6 14]
def x_faults_within : XFunc := { np := 3, res := [.t 6], body :=
 (.seq (.reg v7f) (.seq (.reg v7g) .ret)) }
def v40 : List XO := [O1 3 (.boxF (.t 0)),O1 5 (.boxF (.t 2)),O1 6 (.mv (c9 0))]
def v41 : List XO := [O1 11 (.load false 1 (.tf 5)),O3 7 11]
def v43 : List XO := [O1 12 (.fldA 1 (.tf 3)),O1 13 (.load false 1 (.tf 12)),O8 14 13,O1 15 (.mv (c9 0))]
def v44 : List XO := [O1 16 (.bin .lss .no (.t 15) (.t 14))]
def v45 : List XO := [O3 17 15,O7 18 1 13 15,O4 19 1 18,O3 8 17,O3 9 19]
def v46 : List XO := [O3 20 9,O1 21 (.mkfn "newel/faults.explained$1" [] [.t 5]),O1 22 (.call "slices.ContainsFunc[[]int,int]" [.t 20, .t 21]),O3 10 22]
def v47 : List XO := [O3 23 10,O3 24 1,O3 25 8,O7 26 1 24 25,O4 27 1 26,O1 28 (.bin .neq .bool (.t 23) (.t 27))]
def v48 : List XO := [O3 29 7,O1 30 (.fldA 0 (.tf 3)),O1 31 (.load false 1 (.tf 30)),O3 32 8,O1 33 (.bin .add .no (.t 31) (.t 32)),O1 34 (.bin .shl .no (c9 1) (.t 33)),O1 35 (.bin .or .no (.t 29) (.t 34)),O3 7 35]
def v49 : List XO := [O1 36 (.bin .add .no (.t 15) (c9 1)),O3 15 36]
def v5a : XCode :=
 (.seq (.reg v44) (.seq (.cond (.t 16) .skip (.exit 0)) (.seq (.block 1 (.seq (.reg v45) (.seq (.reg v46) (.seq (.reg v47) (.cond (.t 28) (.reg v48) .skip))))) (.reg v49))))
def v42 : List XO := [O3 37 7,O3 6 37]
def x_faults_explained : XFunc := { np := 3, res := [.t 6], body :=
 (.seq (.reg v40) (.seq (.reg v41) (.seq (.seq (.reg v43) (.block 0 (.loop v5a))) (.seq (.reg v42) .ret)))) }
def v9d : List XO := [O1 2 (.mv (c9 0))]
def v9e : List XO := [O3 3 0,O1 4 (.cvtI .u32 (.t 3)),O1 5 (.call "math/bits.OnesCount32" [.t 4]),O3 2 5]
def v9f : List XO := [O3 6 0,O1 7 (.call "math/bits.OnesCount64" [.t 6]),O3 2 7]
def x_math_bits_OnesCount : XFunc := { np := 1, res := [.t 2], body :=
 (.seq (.reg v9d) (.seq (.cond (.c (.bool false)) (.seq (.reg v9e) .ret) .skip) (.seq (.reg v9f) .ret))) }
def w4b : List XO := [O3 5 0,O8 6 5,O3 4 6]
def w4c : List XO := [O3 7 0,O3 8 4,O3 9 4,O1 10 (.cvtI .u64 (.t 9)),O1 11 (.call "math/bits.Len" [.t 10]),O3 12 1,O1 13 (.callw "slices.pdqsortCmpFunc[int]" [.t 7, (c9 0), .t 8, .t 11, .t 12])]
def x_slices_SortFunc___int_int_ : XFunc := { np := 2, res := [], body :=
 (.seq (.reg w4b) (.reg w4c)) }
def v5g : List XO := [O1 4 (.mv (c9 0))]
def v5h : List XO := [O3 5 0,O1 6 (.call "newel/faults.members" [.t 5]),O3 7 1,O1 8 (.call "newel/faults.members" [.t 7]),O1 9 (.call "slices.Compare[[]int,int]" [.t 6, .t 8]),O3 4 9]
def x_faults_fewestD1 : XFunc := { np := 2, res := [.t 4], body :=
 (.seq (.reg v5g) (.seq (.reg v5h) .ret)) }
def w3w : List XO := [O1 4 (.mv (c9 0))]
def w3x : List XO := [O3 9 0,O8 10 9,O1 11 (.mv (c9 0))]
def w32 : List XO := [O1 12 (.bin .lss .no (.t 11) (.t 10))]
def w33 : List XO := [O3 13 11,O7 14 1 9 11,O4 15 1 14,O3 5 13,O3 6 15]
def w34 : List XO := [O3 16 5,O3 17 1,O8 18 17,O1 19 (.bin .geq .no (.t 16) (.t 18))]
def w35 : List XO := [O1 4 (.mv (c9 1))]
def w36 : List XO := [O3 20 1,O3 21 5,O7 22 1 20 21,O4 23 1 22,O3 7 23]
def w37 : List XO := [O3 24 6,O3 25 7,O1 26 (.call "cmp.Compare[int]" [.t 24, .t 25]),O3 8 26]
def w38 : List XO := [O3 27 8,O1 28 (.bin .neq .no (.t 27) (c9 0))]
def w39 : List XO := [O3 29 8,O3 4 29]
def w3y : List XO := [O1 30 (.bin .add .no (.t 11) (c9 1)),O3 11 30]
def w4a : XCode :=
 (.seq (.reg w32) (.seq (.cond (.t 12) .skip (.exit 0)) (.seq (.block 1 (.seq (.reg w33) (.seq (.seq (.reg w34) (.cond (.t 19) (.seq (.reg w35) .ret) .skip)) (.seq (.reg w36) (.seq (.reg w37) (.seq (.reg w38) (.cond (.t 28) (.seq (.reg w39) .ret) .skip))))))) (.reg w3y))))
def w3z : List XO := [O3 31 0,O8 32 31,O3 33 1,O8 34 33,O1 35 (.bin .lss .no (.t 32) (.t 34))]
def w30 : List XO := [O1 4 (.mv (.c (.int .i64 (-1))))]
def w31 : List XO := [O1 4 (.mv (c9 0))]
def x_slices_Compare___int_int_ : XFunc := { np := 2, res := [.t 4], body :=
 (.seq (.reg w3w) (.seq (.seq (.reg w3x) (.block 0 (.loop w4a))) (.seq (.seq (.reg w3z) (.cond (.t 35) (.seq (.reg w30) .ret) .skip)) (.seq (.reg w31) .ret)))) }
def v9o : List XO := [O1 2 (.mv (c9 0))]
def v9p : List XO := [O3 3 0,O1 4 (.cvtI .u32 (.t 3)),O1 5 (.call "math/bits.TrailingZeros32" [.t 4]),O3 2 5]
def v9q : List XO := [O3 6 0,O1 7 (.call "math/bits.TrailingZeros64" [.t 6]),O3 2 7]
def x_math_bits_TrailingZeros : XFunc := { np := 1, res := [.t 2], body :=
 (.seq (.reg v9o) (.seq (.cond (.c (.bool false)) (.seq (.reg v9p) .ret) .skip) (.seq (.reg v9q) .ret))) }
def o3v : List XO := [O1 4 (.mv (.c (.bool false)))]
def o3w : List XO := [O3 5 0,O3 6 1,O1 7 (.call "slices.IndexFunc[[]int,int]" [.t 5, .t 6]),O1 8 (.bin .geq .no (.t 7) (c9 0)),O3 4 8]
def x_slices_ContainsFunc___int_int_ : XFunc := { np := 2, res := [.t 4], body :=
 (.seq (.reg o3v) (.seq (.reg o3w) .ret)) }
def v4y : List XO := [O1 3 (.mv (.c (.bool false)))]
def v4z : List XO := [O4 4 1 1,O3 5 0,O1 6 (.bin .shr .no (.t 4) (.t 5)),O1 7 (.bin .and .no (.t 6) (c9 1)),O1 8 (.bin .eql .no (.t 7) (c9 1)),O3 3 8]
def x_faults_explainedD1 : XFunc := { np := 2, res := [.t 3], body :=
 (.seq (.reg v4y) (.seq (.reg v4z) .ret)) }
def v85 : List XO := [O1 2 (.mv (c9 0))]
def v86 : List XO := [O3 3 0,O1 4 (.bin .shr .no (.t 3) (.c (.int .u64 1))),O1 5 (.bin .and .no (.t 4) (.c (.int .u64 6148914691236517205))),O3 6 0,O1 7 (.bin .and .no (.t 6) (.c (.int .u64 6148914691236517205))),O1 8 (.bin .add .no (.t 5) (.t 7)),O3 0 8]
def v87 : List XO := [O3 9 0,O1 10 (.bin .shr .no (.t 9) (.c (.int .u64 2))),O1 11 (.bin .and .no (.t 10) (.c (.int .u64 3689348814741910323))),O3 12 0,O1 13 (.bin .and .no (.t 12) (.c (.int .u64 3689348814741910323))),O1 14 (.bin .add .no (.t 11) (.t 13)),O3 0 14]
def v88 : List XO := [O3 15 0,O1 16 (.bin .shr .no (.t 15) (.c (.int .u64 4))),O3 17 0,O1 18 (.bin .add .no (.t 16) (.t 17)),O1 19 (.bin .and .no (.t 18) (.c (.int .u64 1085102592571150095))),O3 0 19]
def v89 : List XO := [O3 20 0,O3 21 0,O1 22 (.bin .shr .no (.t 21) (.c (.int .u64 8))),O1 23 (.bin .add .no (.t 20) (.t 22)),O3 0 23]
def v9a : List XO := [O3 24 0,O3 25 0,O1 26 (.bin .shr .no (.t 25) (.c (.int .u64 16))),O1 27 (.bin .add .no (.t 24) (.t 26)),O3 0 27]
def v9b : List XO := [O3 28 0,O3 29 0,O1 30 (.bin .shr .no (.t 29) (.c (.int .u64 32))),O1 31 (.bin .add .no (.t 28) (.t 30)),O3 0 31]
def v9c : List XO := [O3 32 0,O1 33 (.cvtI .i64 (.t 32)),O1 34 (.bin .and .no (.t 33) (c9 127)),O3 2 34]
def x_math_bits_OnesCount64 : XFunc := { np := 1, res := [.t 2], body :=
 (.seq (.reg v85) (.seq (.reg v86) (.seq (.reg v87) (.seq (.reg v88) (.seq (.reg v89) (.seq (.reg v9a) (.seq (.reg v9b) (.seq (.reg v9c) .ret)))))))) }
def w78 : List XO := [O1 10 (.mv (.c (.bool true)))]
def w79 : List XO := [O1 11 (.mv (.c (.bool true)))]
def w8k : List XO := [O3 21 2,O3 22 1,O1 23 (.bin .sub .no (.t 21) (.t 22)),O3 12 23]
def w8v : List XO := [O3 24 12,O1 25 (.bin .leq .no (.t 24) (c9 12))]
def w8x : List XO := [O3 26 0,O3 27 1,O3 28 2,O3 29 4,O1 30 (.callw "slices.insertionSortCmpFunc[int]" [.t 26, .t 27, .t 28, .t 29])]
def w8y : List XO := [O3 31 3,O1 32 (.bin .eql .no (.t 31) (c9 0))]
def w8z : List XO := [O3 33 0,O3 34 1,O3 35 2,O3 36 4,O1 37 (.callw "slices.heapSortCmpFunc[int]" [.t 33, .t 34, .t 35, .t 36])]
def w80 : List XO := [O3 38 10,O1 39 (.un .not (.t 38))]
def w81 : List XO := [O3 40 0,O3 41 1,O3 42 2,O3 43 4,O1 44 (.callw "slices.breakPatternsCmpFunc[int]" [.t 40, .t 41, .t 42, .t 43])]
def w82 : List XO := [O3 45 3,O1 46 (.bin .sub .no (.t 45) (c9 1)),O3 3 46]
def w8a : List XO := [O3 48 0,O3 49 1,O3 50 2,O3 51 4,O1 52 (.callw "slices.choosePivotCmpFunc[int]" [.t 48, .t 49, .t 50, .t 51]),O3 47 52,O1 53 (.ext (.t 47) 0),O1 54 (.ext (.t 47) 1),O3 13 53,O3 14 54]
def w8b : List XO := [O3 55 14,O1 56 (.bin .eql .no (.t 55) (c9 2))]
def w8c : List XO := [O3 57 0,O3 58 1,O3 59 2,O3 60 4,O1 61 (.callw "slices.reverseRangeCmpFunc[int]" [.t 57, .t 58, .t 59, .t 60])]
def w8d : List XO := [O3 62 2,O1 63 (.bin .sub .no (.t 62) (c9 1)),O3 64 13,O3 65 1,O1 66 (.bin .sub .no (.t 64) (.t 65)),O1 67 (.bin .sub .no (.t 63) (.t 66)),O3 13 67]
def w8e : List XO := [O1 14 (.mv (c9 1))]
def w8f : List XO := [O3 68 10,O3 69 68,O9 70 69 true (.mv (.t 11)),O1 71 (.pick (.t 69) (.t 70) (.c (.bool false))),O3 72 71,O9 73 72 true (.mv (.t 14)),O9 74 72 true (.bin .eql .no (.t 73) (c9 1)),O1 75 (.pick (.t 72) (.t 74) (.c (.bool false)))]
def w8g : List XO := [O3 76 0,O3 77 1,O3 78 2,O3 79 4,O1 80 (.callw "slices.partialInsertionSortCmpFunc[int]" [.t 76, .t 77, .t 78, .t 79])]
def w8h : List XO := [O3 81 1,O1 82 (.bin .gtr .no (.t 81) (c9 0)),O3 83 82,O9 84 83 true (.mv (.t 4)),O9 85 83 true (.mv (.t 0)),O9 86 83 true (.mv (.t 1)),O9 87 83 true (.bin .sub .no (.t 86) (c9 1)),O9 88 83 true (.ixA 1 (.t 85) (.t 87)),O9 89 83 true (.load false 1 (.t 88)),O9 90 83 true (.mv (.t 0)),O9 91 83 true (.mv (.t 13)),O9 92 83 true (.ixA 1 (.t 90) (.t 91)),O9 93 83 true (.load false 1 (.t 92)),O9 94 83 true (.callv (.t 84) [.t 89, .t 93]),O9 95 83 true (.bin .lss .no (.t 94) (c9 0)),O9 96 83 true (.un .not (.t 95)),O1 97 (.pick (.t 83) (.t 96) (.c (.bool false)))]
def w8i : List XO := [O3 98 0,O3 99 1,O3 100 2,O3 101 13,O3 102 4,O1 103 (.callw "slices.partitionEqualCmpFunc[int]" [.t 98, .t 99, .t 100, .t 101, .t 102]),O3 15 103]
def w8j : List XO := [O3 104 15,O3 1 104]
def w8l : List XO := [O3 106 0,O3 107 1,O3 108 2,O3 109 13,O3 110 4,O1 111 (.callw "slices.partitionCmpFunc[int]" [.t 106, .t 107, .t 108, .t 109, .t 110]),O3 105 111,O1 112 (.ext (.t 105) 0),O1 113 (.ext (.t 105) 1),O3 16 112,O3 17 113]
def w8m : List XO := [O3 114 17,O3 11 114]
def w8n : List XO := [O3 115 16,O3 116 1,O1 117 (.bin .sub .no (.t 115) (.t 116)),O3 118 2,O3 119 16,O1 120 (.bin .sub .no (.t 118) (.t 119)),O3 18 117,O3 19 120]
def w8o : List XO := [O3 121 12,O1 122 (.bin .quo .no (.t 121) (c9 8)),O3 20 122]
def w8p : List XO := [O3 123 18,O3 124 19,O1 125 (.bin .lss .no (.t 123) (.t 124))]
def w8q : List XO := [O3 126 18,O3 127 20,O1 128 (.bin .geq .no (.t 126) (.t 127)),O3 10 128]
def w8r : List XO := [O3 129 0,O3 130 1,O3 131 16,O3 132 3,O3 133 4,O1 134 (.callw "slices.pdqsortCmpFunc[int]" [.t 129, .t 130, .t 131, .t 132, .t 133])]
def w8s : List XO := [O3 135 16,O1 136 (.bin .add .no (.t 135) (c9 1)),O3 1 136]
def w8t : List XO := [O3 137 19,O3 138 20,O1 139 (.bin .geq .no (.t 137) (.t 138)),O3 10 139]
def w8u : List XO := [O3 140 0,O3 141 16,O1 142 (.bin .add .no (.t 141) (c9 1)),O3 143 2,O3 144 3,O3 145 4,O1 146 (.callw "slices.pdqsortCmpFunc[int]" [.t 140, .t 142, .t 143, .t 144, .t 145])]
def w8w : List XO := [O3 147 16,O3 2 147]
def w83 : XCode :=
 (.block 1 (.seq (.reg w8k) (.seq (.seq (.reg w8v) (.cond (.t 25) (.seq (.reg w8x) .ret) .skip)) (.seq (.seq (.reg w8y) (.cond (.t 32) (.seq (.reg w8z) .ret) .skip)) (.seq (.seq (.reg w80) (.cond (.t 39) (.seq (.reg w81) (.reg w82)) .skip)) (.seq (.reg w8a) (.seq (.seq (.reg w8b) (.cond (.t 56) (.seq (.reg w8c) (.seq (.reg w8d) (.reg w8e))) .skip)) (.seq (.seq (.reg w8f) (.cond (.t 75) (.seq (.reg w8g) (.cond (.t 80) .ret .skip)) .skip)) (.seq (.seq (.reg w8h) (.cond (.t 97) (.seq (.reg w8i) (.seq (.reg w8j) (.exit 1))) .skip)) (.seq (.reg w8l) (.seq (.reg w8m) (.seq (.reg w8n) (.seq (.reg w8o) (.seq (.reg w8p) (.cond (.t 125) (.seq (.reg w8q) (.seq (.reg w8r) (.reg w8s))) (.seq (.reg w8t) (.seq (.reg w8u) (.reg w8w))))))))))))))))))
def x_slices_pdqsortCmpFunc_int_ : XFunc := { np := 5, res := [], body :=
 (.seq (.reg w78) (.seq (.reg w79) (.block 0 (.loop w83)))) }
def v80 : List XO := [O1 2 (.mv (c9 0))]
def v81 : List XO := [O3 3 0,O1 4 (.cvtI .u32 (.t 3)),O1 5 (.call "math/bits.Len32" [.t 4]),O3 2 5]
def v82 : List XO := [O3 6 0,O1 7 (.call "math/bits.Len64" [.t 6]),O3 2 7]
def x_math_bits_Len : XFunc := { np := 1, res := [.t 2], body :=
 (.seq (.reg v80) (.seq (.cond (.c (.bool false)) (.seq (.reg v81) .ret) .skip) (.seq (.reg v82) .ret))) }
def v2f : List XO := [O1 4 (.mv (c9 0))]
def v2g : List XO := [O3 7 0,O1 8 (.call "cmp.isNaN[int]" [.t 7]),O3 5 8]
def v2l : List XO := [O3 9 1,O1 10 (.call "cmp.isNaN[int]" [.t 9]),O3 6 10]
def v2m : List XO := [O3 11 5]
def v2n : List XO := [O3 12 6]
def v2o : List XO := [O1 4 (.mv (c9 0))]
def v2p : List XO := [O1 4 (.mv (.c (.int .i64 (-1))))]
def v2q : List XO := [O3 13 6]
def v2r : List XO := [O1 4 (.mv (c9 1))]
def v2s : List XO := [O3 14 0,O3 15 1,O1 16 (.bin .lss .no (.t 14) (.t 15))]
def v2h : List XO := [O1 4 (.mv (.c (.int .i64 (-1))))]
def v2i : List XO := [O3 17 0,O3 18 1,O1 19 (.bin .gtr .no (.t 17) (.t 18))]
def v2j : List XO := [O1 4 (.mv (c9 1))]
def v2k : List XO := [O1 4 (.mv (c9 0))]
def x_cmp_Compare_int_ : XFunc := { np := 2, res := [.t 4], body :=
 (.seq (.reg v2f) (.seq (.reg v2g) (.seq (.reg v2l) (.seq (.seq (.reg v2m) (.cond (.t 11) (.seq (.seq (.reg v2n) (.cond (.t 12) (.seq (.reg v2o) .ret) .skip)) (.seq (.reg v2p) .ret)) .skip)) (.seq (.seq (.reg v2q) (.cond (.t 13) (.seq (.reg v2r) .ret) .skip)) (.seq (.seq (.reg v2s) (.cond (.t 16) (.seq (.reg v2h) .ret) .skip)) (.seq (.seq (.reg v2i) (.cond (.t 19) (.seq (.reg v2j) .ret) .skip)) (.seq (.reg v2k) .ret)))))))) }
def v9k : List XO := [O1 2 (.mv (c9 0))]
def v9l : List XO := [O3 3 0,O1 4 (.bin .eql .no (.t 3) (.c (.int .u64 0)))]
def v9m : List XO := [O1 2 (.mv (c9 64))]
def v9n : List XO := [O3 5 0,O3 6 0,O1 7 (.un .neg (.t 6)),O1 8 (.bin .and .no (.t 5) (.t 7)),O1 9 (.bin .mul .no (.t 8) (.c (.int .u64 285870213051353865))),O1 10 (.bin .shr .no (.t 9) (.c (.int .u64 58))),O1 11 (.ixP 1 64 (.g 1 u0n) (.t 10)),O4 12 1 11,O1 13 (.cvtI .i64 (.t 12)),O3 2 13]
def x_math_bits_TrailingZeros64 : XFunc := { np := 1, res := [.t 2], body :=
 (.seq (.reg v9k) (.seq (.seq (.reg v9l) (.cond (.t 4) (.seq (.reg v9m) .ret) .skip)) (.seq (.reg v9n) .ret))) }
def o4j : List XO := [O1 4 (.mv (c9 0))]
def o4k : List XO := [O3 6 0,O8 7 6,O1 8 (.mv (c9 0))]
def o4l : List XO := [O1 9 (.bin .lss .no (.t 8) (.t 7))]
def o4m : List XO := [O3 10 8,O3 5 10]
def o4n : List XO := [O3 11 1,O3 12 0,O3 13 5,O7 14 1 12 13,O4 15 1 14,O1 16 (.callv (.t 11) [.t 15])]
def o4o : List XO := [O3 17 5,O3 4 17]
def o4p : List XO := [O1 18 (.bin .add .no (.t 8) (c9 1)),O3 8 18]
def g5d : XCode :=
 (.seq (.reg o4l) (.seq (.cond (.t 9) .skip (.exit 0)) (.seq (.block 1 (.seq (.reg o4m) (.seq (.reg o4n) (.cond (.t 16) (.seq (.reg o4o) .ret) .skip)))) (.reg o4p))))
def o4q : List XO := [O1 4 (.mv (.c (.int .i64 (-1))))]
def x_slices_IndexFunc___int_int_ : XFunc := { np := 2, res := [.t 4], body :=
 (.seq (.reg o4j) (.seq (.seq (.reg o4k) (.block 0 (.loop g5d))) (.seq (.reg o4q) .ret))) }
def w5l : List XO := [O3 10 1,O1 11 (.bin .add .no (.t 10) (c9 1)),O3 8 11]
def w5m : List XO := [O3 12 8,O3 13 2,O1 14 (.bin .lss .no (.t 12) (.t 13))]
def w5n : List XO := [O3 17 8,O3 9 17]
def w5o : List XO := [O3 18 9,O3 19 1,O1 20 (.bin .gtr .no (.t 18) (.t 19)),O3 21 20,O9 22 21 true (.mv (.t 3)),O9 23 21 true (.mv (.t 0)),O9 24 21 true (.mv (.t 9)),O9 25 21 true (.ixA 1 (.t 23) (.t 24)),O9 26 21 true (.load false 1 (.t 25)),O9 27 21 true (.mv (.t 0)),O9 28 21 true (.mv (.t 9)),O9 29 21 true (.bin .sub .no (.t 28) (c9 1)),O9 30 21 true (.ixA 1 (.t 27) (.t 29)),O9 31 21 true (.load false 1 (.t 30)),O9 32 21 true (.callv (.t 22) [.t 26, .t 31]),O9 33 21 true (.bin .lss .no (.t 32) (c9 0)),O1 34 (.pick (.t 21) (.t 33) (.c (.bool false)))]
def w5p : List XO := [O3 37 0,O3 38 9,O3 39 0,O3 40 9,O1 41 (.bin .sub .no (.t 40) (c9 1)),O3 42 0,O3 43 9,O1 44 (.bin .sub .no (.t 43) (c9 1)),O7 45 1 42 44,O4 46 1 45,O3 47 0,O3 48 9,O7 49 1 47 48,O4 50 1 49,O7 51 1 37 38,O2 (.store 1 (.t 51) (.t 46)),O7 52 1 39 41,O2 (.store 1 (.t 52) (.t 50))]
def w5q : List XO := [O3 35 9,O1 36 (.bin .sub .no (.t 35) (c9 1)),O3 9 36]
def w5s : XCode :=
 (.seq (.seq (.reg w5o) (.cond (.t 34) .skip (.exit 2))) (.seq (.block 3 (.reg w5p)) (.reg w5q)))
def w5r : List XO := [O3 15 8,O1 16 (.bin .add .no (.t 15) (c9 1)),O3 8 16]
def w5t : XCode :=
 (.seq (.seq (.reg w5m) (.cond (.t 14) .skip (.exit 0))) (.seq (.block 1 (.seq (.reg w5n) (.block 2 (.loop w5s)))) (.reg w5r)))
def x_slices_insertionSortCmpFunc_int_ : XFunc := { np := 4, res := [], body :=
 (.seq (.reg w5l) (.block 0 (.loop w5t))) }
def w47 : List XO := [O3 13 1,O3 8 13]
def w48 : List XO := [O1 9 (.mv (c9 0))]
def w5c : List XO := [O3 14 2,O3 15 1,O1 16 (.bin .sub .no (.t 14) (.t 15)),O3 10 16]
def w5d : List XO := [O3 17 10,O1 18 (.bin .sub .no (.t 17) (c9 1)),O1 19 (.bin .quo .no (.t 18) (c9 2)),O3 11 19]
def w5e : List XO := [O3 20 11,O1 21 (.bin .geq .no (.t 20) (c9 0))]
def w5f : List XO := [O3 24 0,O3 25 11,O3 26 10,O3 27 8,O3 28 3,O1 29 (.callw "slices.siftDownCmpFunc[int]" [.t 24, .t 25, .t 26, .t 27, .t 28])]
def w5g : List XO := [O3 22 11,O1 23 (.bin .sub .no (.t 22) (c9 1)),O3 11 23]
def w5k : XCode :=
 (.seq (.seq (.reg w5e) (.cond (.t 21) .skip (.exit 0))) (.seq (.block 1 (.reg w5f)) (.reg w5g)))
def w5h : List XO := [O3 30 10,O1 31 (.bin .sub .no (.t 30) (c9 1)),O3 12 31]
def w5i : List XO := [O3 32 12,O1 33 (.bin .geq .no (.t 32) (c9 0))]
def w49 : List XO := [O3 36 0,O3 37 8,O3 38 0,O3 39 8,O3 40 12,O1 41 (.bin .add .no (.t 39) (.t 40)),O3 42 0,O3 43 8,O3 44 12,O1 45 (.bin .add .no (.t 43) (.t 44)),O7 46 1 42 45,O4 47 1 46,O3 48 0,O3 49 8,O7 50 1 48 49,O4 51 1 50,O7 52 1 36 37,O2 (.store 1 (.t 52) (.t 47)),O7 53 1 38 41,O2 (.store 1 (.t 53) (.t 51))]
def w5a : List XO := [O3 54 0,O3 55 9,O3 56 12,O3 57 8,O3 58 3,O1 59 (.callw "slices.siftDownCmpFunc[int]" [.t 54, .t 55, .t 56, .t 57, .t 58])]
def w5b : List XO := [O3 34 12,O1 35 (.bin .sub .no (.t 34) (c9 1)),O3 12 35]
def w5j : XCode :=
 (.seq (.seq (.reg w5i) (.cond (.t 33) .skip (.exit 2))) (.seq (.block 3 (.seq (.reg w49) (.reg w5a))) (.reg w5b)))
def x_slices_heapSortCmpFunc_int_ : XFunc := { np := 4, res := [], body :=
 (.seq (.reg w47) (.seq (.reg w48) (.seq (.reg w5c) (.seq (.seq (.reg w5d) (.block 0 (.loop w5k))) (.seq (.reg w5h) (.block 2 (.loop w5j))))))) }
def w4d : List XO := [O3 13 2,O3 14 1,O1 15 (.bin .sub .no (.t 13) (.t 14)),O3 8 15]
def w4e : List XO := [O3 16 8,O1 17 (.bin .geq .no (.t 16) (c9 8))]
def w4g : List XO := [O3 18 8,O1 19 (.cvtI .u64 (.t 18)),O1 9 (.alloc [(.int .u64 0)]),O2 (.store 1 (.t 9) (.t 19))]
def w4h : List XO := [O3 20 8,O1 21 (.call "slices.nextPowerOfTwo" [.t 20]),O3 10 21]
def w4i : List XO := [O3 22 1,O3 23 8,O1 24 (.bin .quo .no (.t 23) (c9 4)),O1 25 (.bin .mul .no (.t 24) (c9 2)),O1 26 (.bin .add .no (.t 22) (.t 25)),O1 27 (.bin .sub .no (.t 26) (c9 1)),O3 11 27]
def w4j : List XO := [O3 28 11,O3 29 1,O3 30 8,O1 31 (.bin .quo .no (.t 30) (c9 4)),O1 32 (.bin .mul .no (.t 31) (c9 2)),O1 33 (.bin .add .no (.t 29) (.t 32)),O1 34 (.bin .add .no (.t 33) (c9 1)),O1 35 (.bin .leq .no (.t 28) (.t 34))]
def w4k : List XO := [O1 38 (.callw "(*slices.xorshift).Next" [.t 9]),O3 39 10,O1 40 (.bin .sub .no (.t 39) (.c (.int .u64 1))),O1 41 (.bin .and .no (.t 38) (.t 40)),O1 42 (.cvtI .i64 (.t 41)),O3 12 42]
def w4l : List XO := [O3 43 12,O3 44 8,O1 45 (.bin .geq .no (.t 43) (.t 44))]
def w4m : List XO := [O3 46 12,O3 47 8,O1 48 (.bin .sub .no (.t 46) (.t 47)),O3 12 48]
def w4n : List XO := [O3 49 0,O3 50 11,O3 51 0,O3 52 1,O3 53 12,O1 54 (.bin .add .no (.t 52) (.t 53)),O3 55 0,O3 56 1,O3 57 12,O1 58 (.bin .add .no (.t 56) (.t 57)),O7 59 1 55 58,O4 60 1 59,O3 61 0,O3 62 11,O7 63 1 61 62,O4 64 1 63,O7 65 1 49 50,O2 (.store 1 (.t 65) (.t 60)),O7 66 1 51 54,O2 (.store 1 (.t 66) (.t 64))]
def w4f : List XO := [O3 36 11,O1 37 (.bin .add .no (.t 36) (c9 1)),O3 11 37]
def w4o : XCode :=
 (.seq (.seq (.reg w4j) (.cond (.t 35) .skip (.exit 0))) (.seq (.block 1 (.seq (.reg w4k) (.seq (.seq (.reg w4l) (.cond (.t 45) (.reg w4m) .skip)) (.reg w4n)))) (.reg w4f)))
def x_slices_breakPatternsCmpFunc_int_ : XFunc := { np := 4, res := [], body :=
 (.seq (.reg w4d) (.seq (.reg w4e) (.cond (.t 17) (.seq (.reg w4g) (.seq (.reg w4h) (.seq (.reg w4i) (.block 0 (.loop w4o))))) .skip))) }
def w4p : List XO := [O1 8 (.mv (c9 0)),O1 9 (.mv (c9 0))]
def w4q : List XO := [O3 15 2,O3 16 1,O1 17 (.bin .sub .no (.t 15) (.t 16)),O3 10 17]
def w4z : List XO := [O1 11 (.alloc [(.int .i64 0)])]
def w40 : List XO := [O3 18 1,O3 19 10,O1 20 (.bin .quo .no (.t 19) (c9 4)),O1 21 (.bin .mul .no (.t 20) (c9 1)),O1 22 (.bin .add .no (.t 18) (.t 21)),O3 12 22]
def w41 : List XO := [O3 23 1,O3 24 10,O1 25 (.bin .quo .no (.t 24) (c9 4)),O1 26 (.bin .mul .no (.t 25) (c9 2)),O1 27 (.bin .add .no (.t 23) (.t 26)),O3 13 27]
def w42 : List XO := [O3 28 1,O3 29 10,O1 30 (.bin .quo .no (.t 29) (c9 4)),O1 31 (.bin .mul .no (.t 30) (c9 3)),O1 32 (.bin .add .no (.t 28) (.t 31)),O3 14 32]
def w43 : List XO := [O3 33 10,O1 34 (.bin .geq .no (.t 33) (c9 8))]
def w44 : List XO := [O3 35 10,O1 36 (.bin .geq .no (.t 35) (c9 50))]
def w45 : List XO := [O3 37 0,O3 38 12,O3 39 3,O1 40 (.callw "slices.medianAdjacentCmpFunc[int]" [.t 37, .t 38, .t 11, .t 39]),O3 12 40]
def w46 : List XO := [O3 41 0,O3 42 13,O3 43 3,O1 44 (.callw "slices.medianAdjacentCmpFunc[int]" [.t 41, .t 42, .t 11, .t 43]),O3 13 44]
def w4r : List XO := [O3 45 0,O3 46 14,O3 47 3,O1 48 (.callw "slices.medianAdjacentCmpFunc[int]" [.t 45, .t 46, .t 11, .t 47]),O3 14 48]
def w4s : List XO := [O3 49 0,O3 50 12,O3 51 13,O3 52 14,O3 53 3,O1 54 (.callw "slices.medianCmpFunc[int]" [.t 49, .t 50, .t 51, .t 52, .t 11, .t 53]),O3 13 54]
def w4t : List XO := [O4 55 1 11]
def w4u : List XO := [O1 58 (.bin .eql .no (.t 55) (c9 0)),O3 57 58]
def w4v : List XO := [O3 59 13,O3 8 59,O1 9 (.mv (c9 1))]
def w4w : List XO := [O1 61 (.bin .eql .no (.t 55) (c9 12)),O3 60 61]
def w4x : List XO := [O3 62 13,O3 8 62,O1 9 (.mv (c9 2))]
def w4y : List XO := [O3 56 13,O3 8 56,O1 9 (.mv (c9 0))]
def x_slices_choosePivotCmpFunc_int_ : XFunc := { np := 4, res := [.t 8, .t 9], body :=
 (.seq (.reg w4p) (.seq (.reg w4q) (.seq (.reg w4z) (.seq (.reg w40) (.seq (.reg w41) (.seq (.reg w42) (.seq (.seq (.reg w43) (.cond (.t 34) (.seq (.seq (.reg w44) (.cond (.t 36) (.seq (.reg w45) (.seq (.reg w46) (.reg w4r))) .skip)) (.reg w4s)) .skip)) (.seq (.reg w4t) (.block 0 (.seq (.reg w4u) (.cond (.t 57) (.seq (.reg w4v) .ret) (.seq (.reg w4w) (.cond (.t 60) (.seq (.reg w4x) .ret) (.seq (.reg w4y) .ret)))))))))))))) }
def w84 : List XO := [O3 10 1,O3 8 10]
def w85 : List XO := [O3 11 2,O1 12 (.bin .sub .no (.t 11) (c9 1)),O3 9 12]
def w86 : List XO := [O3 13 8,O3 14 9,O1 15 (.bin .lss .no (.t 13) (.t 14))]
def w87 : List XO := [O3 16 0,O3 17 8,O3 18 0,O3 19 9,O3 20 0,O3 21 9,O7 22 1 20 21,O4 23 1 22,O3 24 0,O3 25 8,O7 26 1 24 25,O4 27 1 26,O7 28 1 16 17,O2 (.store 1 (.t 28) (.t 23)),O7 29 1 18 19,O2 (.store 1 (.t 29) (.t 27))]
def w88 : List XO := [O3 30 8,O1 31 (.bin .add .no (.t 30) (c9 1)),O3 8 31]
def w89 : List XO := [O3 32 9,O1 33 (.bin .sub .no (.t 32) (c9 1)),O3 9 33]
def w9a : XCode :=
 (.seq (.seq (.reg w86) (.cond (.t 15) .skip (.exit 0))) (.block 1 (.seq (.reg w87) (.seq (.reg w88) (.reg w89)))))
def x_slices_reverseRangeCmpFunc_int_ : XFunc := { np := 4, res := [], body :=
 (.seq (.reg w84) (.seq (.reg w85) (.block 0 (.loop w9a)))) }
def w58 : List XO := [O1 8 (.mv (.c (.bool false)))]
def w59 : List XO := [O3 13 1,O1 14 (.bin .add .no (.t 13) (c9 1)),O3 9 14]
def w6j : List XO := [O1 10 (.mv (c9 0))]
def w6r : List XO := [O3 15 10,O1 16 (.bin .lss .no (.t 15) (c9 5))]
def w6s : List XO := [O3 19 9,O3 20 2,O1 21 (.bin .lss .no (.t 19) (.t 20)),O3 22 21,O9 23 22 true (.mv (.t 3)),O9 24 22 true (.mv (.t 0)),O9 25 22 true (.mv (.t 9)),O9 26 22 true (.ixA 1 (.t 24) (.t 25)),O9 27 22 true (.load false 1 (.t 26)),O9 28 22 true (.mv (.t 0)),O9 29 22 true (.mv (.t 9)),O9 30 22 true (.bin .sub .no (.t 29) (c9 1)),O9 31 22 true (.ixA 1 (.t 28) (.t 30)),O9 32 22 true (.load false 1 (.t 31)),O9 33 22 true (.callv (.t 23) [.t 27, .t 32]),O9 34 22 true (.bin .lss .no (.t 33) (c9 0)),O9 35 22 true (.un .not (.t 34)),O1 36 (.pick (.t 22) (.t 35) (.c (.bool false)))]
def w6t : List XO := [O3 37 9,O1 38 (.bin .add .no (.t 37) (c9 1)),O3 9 38]
def w60 : XCode :=
 (.seq (.seq (.reg w6s) (.cond (.t 36) .skip (.exit 2))) (.block 3 (.reg w6t)))
def w6u : List XO := [O3 39 9,O3 40 2,O1 41 (.bin .eql .no (.t 39) (.t 40))]
def w6v : List XO := [O1 8 (.mv (.c (.bool true)))]
def w6w : List XO := [O3 42 2,O3 43 1,O1 44 (.bin .sub .no (.t 42) (.t 43)),O1 45 (.bin .lss .no (.t 44) (c9 50))]
def w6a : List XO := [O1 8 (.mv (.c (.bool false)))]
def w6b : List XO := [O3 46 0,O3 47 9,O3 48 0,O3 49 9,O1 50 (.bin .sub .no (.t 49) (c9 1)),O3 51 0,O3 52 9,O1 53 (.bin .sub .no (.t 52) (c9 1)),O7 54 1 51 53,O4 55 1 54,O3 56 0,O3 57 9,O7 58 1 56 57,O4 59 1 58,O7 60 1 46 47,O2 (.store 1 (.t 60) (.t 55)),O7 61 1 48 50,O2 (.store 1 (.t 61) (.t 59))]
def w6c : List XO := [O3 62 9,O3 63 1,O1 64 (.bin .sub .no (.t 62) (.t 63)),O1 65 (.bin .geq .no (.t 64) (c9 2))]
def w6d : List XO := [O3 66 9,O1 67 (.bin .sub .no (.t 66) (c9 1)),O3 11 67]
def w6e : List XO := [O3 68 11,O1 69 (.bin .geq .no (.t 68) (c9 1))]
def w6f : List XO := [O3 72 3,O3 73 0,O3 74 11,O7 75 1 73 74,O4 76 1 75,O3 77 0,O3 78 11,O1 79 (.bin .sub .no (.t 78) (c9 1)),O7 80 1 77 79,O4 81 1 80,O1 82 (.callv (.t 72) [.t 76, .t 81]),O1 83 (.bin .lss .no (.t 82) (c9 0)),O1 84 (.un .not (.t 83))]
def w6g : List XO := [O3 85 0,O3 86 11,O3 87 0,O3 88 11,O1 89 (.bin .sub .no (.t 88) (c9 1)),O3 90 0,O3 91 11,O1 92 (.bin .sub .no (.t 91) (c9 1)),O7 93 1 90 92,O4 94 1 93,O3 95 0,O3 96 11,O7 97 1 95 96,O4 98 1 97,O7 99 1 85 86,O2 (.store 1 (.t 99) (.t 94)),O7 100 1 87 89,O2 (.store 1 (.t 100) (.t 98))]
def w6h : List XO := [O3 70 11,O1 71 (.bin .sub .no (.t 70) (c9 1)),O3 11 71]
def w6x : XCode :=
 (.seq (.seq (.reg w6e) (.cond (.t 69) .skip (.exit 4))) (.seq (.block 5 (.seq (.seq (.reg w6f) (.cond (.t 84) (.exit 4) .skip)) (.reg w6g))) (.reg w6h)))
def w6i : List XO := [O3 101 2,O3 102 9,O1 103 (.bin .sub .no (.t 101) (.t 102)),O1 104 (.bin .geq .no (.t 103) (c9 2))]
def w6k : List XO := [O3 105 9,O1 106 (.bin .add .no (.t 105) (c9 1)),O3 12 106]
def w6l : List XO := [O3 107 12,O3 108 2,O1 109 (.bin .lss .no (.t 107) (.t 108))]
def w6m : List XO := [O3 112 3,O3 113 0,O3 114 12,O7 115 1 113 114,O4 116 1 115,O3 117 0,O3 118 12,O1 119 (.bin .sub .no (.t 118) (c9 1)),O7 120 1 117 119,O4 121 1 120,O1 122 (.callv (.t 112) [.t 116, .t 121]),O1 123 (.bin .lss .no (.t 122) (c9 0)),O1 124 (.un .not (.t 123))]
def w6n : List XO := [O3 125 0,O3 126 12,O3 127 0,O3 128 12,O1 129 (.bin .sub .no (.t 128) (c9 1)),O3 130 0,O3 131 12,O1 132 (.bin .sub .no (.t 131) (c9 1)),O7 133 1 130 132,O4 134 1 133,O3 135 0,O3 136 12,O7 137 1 135 136,O4 138 1 137,O7 139 1 125 126,O2 (.store 1 (.t 139) (.t 134)),O7 140 1 127 129,O2 (.store 1 (.t 140) (.t 138))]
def w6o : List XO := [O3 110 12,O1 111 (.bin .add .no (.t 110) (c9 1)),O3 12 111]
def w6y : XCode :=
 (.seq (.seq (.reg w6l) (.cond (.t 109) .skip (.exit 6))) (.seq (.block 7 (.seq (.seq (.reg w6m) (.cond (.t 124) (.exit 6) .skip)) (.reg w6n))) (.reg w6o)))
def w6p : List XO := [O3 17 10,O1 18 (.bin .add .no (.t 17) (c9 1)),O3 10 18]
def w6z : XCode :=
 (.seq (.seq (.reg w6r) (.cond (.t 16) .skip (.exit 0))) (.seq (.block 1 (.seq (.block 2 (.loop w60)) (.seq (.seq (.reg w6u) (.cond (.t 41) (.seq (.reg w6v) .ret) .skip)) (.seq (.seq (.reg w6w) (.cond (.t 45) (.seq (.reg w6a) .ret) .skip)) (.seq (.reg w6b) (.seq (.seq (.reg w6c) (.cond (.t 65) (.seq (.reg w6d) (.block 4 (.loop w6x))) .skip)) (.seq (.reg w6i) (.cond (.t 104) (.seq (.reg w6k) (.block 6 (.loop w6y))) .skip)))))))) (.reg w6p)))
def w6q : List XO := [O1 8 (.mv (.c (.bool false)))]
def x_slices_partialInsertionSortCmpFunc_int_ : XFunc := { np := 4, res := [.t 8], body :=
 (.seq (.reg w58) (.seq (.reg w59) (.seq (.seq (.reg w6j) (.block 0 (.loop w6z))) (.seq (.reg w6q) .ret)))) }
def w7t : List XO := [O1 10 (.mv (c9 0))]
def w7u : List XO := [O3 13 0,O3 14 1,O3 15 0,O3 16 3,O3 17 0,O3 18 3,O7 19 1 17 18,O4 20 1 19,O3 21 0,O3 22 1,O7 23 1 21 22,O4 24 1 23,O7 25 1 13 14,O2 (.store 1 (.t 25) (.t 20)),O7 26 1 15 16,O2 (.store 1 (.t 26) (.t 24))]
def w7z : List XO := [O3 27 1,O1 28 (.bin .add .no (.t 27) (c9 1)),O3 29 2,O1 30 (.bin .sub .no (.t 29) (c9 1)),O3 11 28,O3 12 30]
def w70 : List XO := [O3 31 11,O3 32 12,O1 33 (.bin .leq .no (.t 31) (.t 32)),O3 34 33,O9 35 34 true (.mv (.t 4)),O9 36 34 true (.mv (.t 0)),O9 37 34 true (.mv (.t 1)),O9 38 34 true (.ixA 1 (.t 36) (.t 37)),O9 39 34 true (.load false 1 (.t 38)),O9 40 34 true (.mv (.t 0)),O9 41 34 true (.mv (.t 11)),O9 42 34 true (.ixA 1 (.t 40) (.t 41)),O9 43 34 true (.load false 1 (.t 42)),O9 44 34 true (.callv (.t 35) [.t 39, .t 43]),O9 45 34 true (.bin .lss .no (.t 44) (c9 0)),O9 46 34 true (.un .not (.t 45)),O1 47 (.pick (.t 34) (.t 46) (.c (.bool false)))]
def w71 : List XO := [O3 48 11,O1 49 (.bin .add .no (.t 48) (c9 1)),O3 11 49]
def w76 : XCode :=
 (.seq (.seq (.reg w70) (.cond (.t 47) .skip (.exit 2))) (.block 3 (.reg w71)))
def w72 : List XO := [O3 50 11,O3 51 12,O1 52 (.bin .leq .no (.t 50) (.t 51)),O3 53 52,O9 54 53 true (.mv (.t 4)),O9 55 53 true (.mv (.t 0)),O9 56 53 true (.mv (.t 1)),O9 57 53 true (.ixA 1 (.t 55) (.t 56)),O9 58 53 true (.load false 1 (.t 57)),O9 59 53 true (.mv (.t 0)),O9 60 53 true (.mv (.t 12)),O9 61 53 true (.ixA 1 (.t 59) (.t 60)),O9 62 53 true (.load false 1 (.t 61)),O9 63 53 true (.callv (.t 54) [.t 58, .t 62]),O9 64 53 true (.bin .lss .no (.t 63) (c9 0)),O1 65 (.pick (.t 53) (.t 64) (.c (.bool false)))]
def w73 : List XO := [O3 66 12,O1 67 (.bin .sub .no (.t 66) (c9 1)),O3 12 67]
def w77 : XCode :=
 (.seq (.seq (.reg w72) (.cond (.t 65) .skip (.exit 4))) (.block 5 (.reg w73)))
def w74 : List XO := [O3 68 11,O3 69 12,O1 70 (.bin .gtr .no (.t 68) (.t 69))]
def w7v : List XO := [O3 71 0,O3 72 11,O3 73 0,O3 74 12,O3 75 0,O3 76 12,O7 77 1 75 76,O4 78 1 77,O3 79 0,O3 80 11,O7 81 1 79 80,O4 82 1 81,O7 83 1 71 72,O2 (.store 1 (.t 83) (.t 78)),O7 84 1 73 74,O2 (.store 1 (.t 84) (.t 82))]
def w7w : List XO := [O3 85 11,O1 86 (.bin .add .no (.t 85) (c9 1)),O3 11 86]
def w7x : List XO := [O3 87 12,O1 88 (.bin .sub .no (.t 87) (c9 1)),O3 12 88]
def w75 : XCode :=
 (.block 1 (.seq (.block 2 (.loop w76)) (.seq (.block 4 (.loop w77)) (.seq (.seq (.reg w74) (.cond (.t 70) (.exit 0) .skip)) (.seq (.reg w7v) (.seq (.reg w7w) (.reg w7x)))))))
def w7y : List XO := [O3 89 11,O3 10 89]
def x_slices_partitionEqualCmpFunc_int_ : XFunc := { np := 5, res := [.t 10], body :=
 (.seq (.reg w7t) (.seq (.reg w7u) (.seq (.reg w7z) (.seq (.block 0 (.loop w75)) (.seq (.reg w7y) .ret))))) }
def w61 : List XO := [O1 10 (.mv (c9 0)),O1 11 (.mv (.c (.bool false)))]
def w62 : List XO := [O3 14 0,O3 15 1,O3 16 0,O3 17 3,O3 18 0,O3 19 3,O7 20 1 18 19,O4 21 1 20,O3 22 0,O3 23 1,O7 24 1 22 23,O4 25 1 24,O7 26 1 14 15,O2 (.store 1 (.t 26) (.t 21)),O7 27 1 16 17,O2 (.store 1 (.t 27) (.t 25))]
def w7c : List XO := [O3 28 1,O1 29 (.bin .add .no (.t 28) (c9 1)),O3 30 2,O1 31 (.bin .sub .no (.t 30) (c9 1)),O3 12 29,O3 13 31]
def w7j : List XO := [O3 32 12,O3 33 13,O1 34 (.bin .leq .no (.t 32) (.t 33)),O3 35 34,O9 36 35 true (.mv (.t 4)),O9 37 35 true (.mv (.t 0)),O9 38 35 true (.mv (.t 12)),O9 39 35 true (.ixA 1 (.t 37) (.t 38)),O9 40 35 true (.load false 1 (.t 39)),O9 41 35 true (.mv (.t 0)),O9 42 35 true (.mv (.t 1)),O9 43 35 true (.ixA 1 (.t 41) (.t 42)),O9 44 35 true (.load false 1 (.t 43)),O9 45 35 true (.callv (.t 36) [.t 40, .t 44]),O9 46 35 true (.bin .lss .no (.t 45) (c9 0)),O1 47 (.pick (.t 35) (.t 46) (.c (.bool false)))]
def w7k : List XO := [O3 48 12,O1 49 (.bin .add .no (.t 48) (c9 1)),O3 12 49]
def w7r : XCode :=
 (.seq (.seq (.reg w7j) (.cond (.t 47) .skip (.exit 0))) (.block 1 (.reg w7k)))
def w7l : List XO := [O3 50 12,O3 51 13,O1 52 (.bin .leq .no (.t 50) (.t 51)),O3 53 52,O9 54 53 true (.mv (.t 4)),O9 55 53 true (.mv (.t 0)),O9 56 53 true (.mv (.t 13)),O9 57 53 true (.ixA 1 (.t 55) (.t 56)),O9 58 53 true (.load false 1 (.t 57)),O9 59 53 true (.mv (.t 0)),O9 60 53 true (.mv (.t 1)),O9 61 53 true (.ixA 1 (.t 59) (.t 60)),O9 62 53 true (.load false 1 (.t 61)),O9 63 53 true (.callv (.t 54) [.t 58, .t 62]),O9 64 53 true (.bin .lss .no (.t 63) (c9 0)),O9 65 53 true (.un .not (.t 64)),O1 66 (.pick (.t 53) (.t 65) (.c (.bool false)))]
def w7m : List XO := [O3 67 13,O1 68 (.bin .sub .no (.t 67) (c9 1)),O3 13 68]
def w7s : XCode :=
 (.seq (.seq (.reg w7l) (.cond (.t 66) .skip (.exit 2))) (.block 3 (.reg w7m)))
def w7n : List XO := [O3 69 12,O3 70 13,O1 71 (.bin .gtr .no (.t 69) (.t 70))]
def w63 : List XO := [O3 72 0,O3 73 13,O3 74 0,O3 75 1,O3 76 0,O3 77 1,O7 78 1 76 77,O4 79 1 78,O3 80 0,O3 81 13,O7 82 1 80 81,O4 83 1 82,O7 84 1 72 73,O2 (.store 1 (.t 84) (.t 79)),O7 85 1 74 75,O2 (.store 1 (.t 85) (.t 83))]
def w64 : List XO := [O3 86 13,O3 10 86,O1 11 (.mv (.c (.bool true)))]
def w65 : List XO := [O3 87 0,O3 88 12,O3 89 0,O3 90 13,O3 91 0,O3 92 13,O7 93 1 91 92,O4 94 1 93,O3 95 0,O3 96 12,O7 97 1 95 96,O4 98 1 97,O7 99 1 87 88,O2 (.store 1 (.t 99) (.t 94)),O7 100 1 89 90,O2 (.store 1 (.t 100) (.t 98))]
def w66 : List XO := [O3 101 12,O1 102 (.bin .add .no (.t 101) (c9 1)),O3 12 102]
def w67 : List XO := [O3 103 13,O1 104 (.bin .sub .no (.t 103) (c9 1)),O3 13 104]
def w68 : List XO := [O3 105 12,O3 106 13,O1 107 (.bin .leq .no (.t 105) (.t 106)),O3 108 107,O9 109 108 true (.mv (.t 4)),O9 110 108 true (.mv (.t 0)),O9 111 108 true (.mv (.t 12)),O9 112 108 true (.ixA 1 (.t 110) (.t 111)),O9 113 108 true (.load false 1 (.t 112)),O9 114 108 true (.mv (.t 0)),O9 115 108 true (.mv (.t 1)),O9 116 108 true (.ixA 1 (.t 114) (.t 115)),O9 117 108 true (.load false 1 (.t 116)),O9 118 108 true (.callv (.t 109) [.t 113, .t 117]),O9 119 108 true (.bin .lss .no (.t 118) (c9 0)),O1 120 (.pick (.t 108) (.t 119) (.c (.bool false)))]
def w69 : List XO := [O3 121 12,O1 122 (.bin .add .no (.t 121) (c9 1)),O3 12 122]
def w7o : XCode :=
 (.seq (.seq (.reg w68) (.cond (.t 120) .skip (.exit 6))) (.block 7 (.reg w69)))
def w7a : List XO := [O3 123 12,O3 124 13,O1 125 (.bin .leq .no (.t 123) (.t 124)),O3 126 125,O9 127 126 true (.mv (.t 4)),O9 128 126 true (.mv (.t 0)),O9 129 126 true (.mv (.t 13)),O9 130 126 true (.ixA 1 (.t 128) (.t 129)),O9 131 126 true (.load false 1 (.t 130)),O9 132 126 true (.mv (.t 0)),O9 133 126 true (.mv (.t 1)),O9 134 126 true (.ixA 1 (.t 132) (.t 133)),O9 135 126 true (.load false 1 (.t 134)),O9 136 126 true (.callv (.t 127) [.t 131, .t 135]),O9 137 126 true (.bin .lss .no (.t 136) (c9 0)),O9 138 126 true (.un .not (.t 137)),O1 139 (.pick (.t 126) (.t 138) (.c (.bool false)))]
def w7b : List XO := [O3 140 13,O1 141 (.bin .sub .no (.t 140) (c9 1)),O3 13 141]
def w7p : XCode :=
 (.seq (.seq (.reg w7a) (.cond (.t 139) .skip (.exit 8))) (.block 9 (.reg w7b)))
def w7d : List XO := [O3 142 12,O3 143 13,O1 144 (.bin .gtr .no (.t 142) (.t 143))]
def w7e : List XO := [O3 145 0,O3 146 12,O3 147 0,O3 148 13,O3 149 0,O3 150 13,O7 151 1 149 150,O4 152 1 151,O3 153 0,O3 154 12,O7 155 1 153 154,O4 156 1 155,O7 157 1 145 146,O2 (.store 1 (.t 157) (.t 152)),O7 158 1 147 148,O2 (.store 1 (.t 158) (.t 156))]
def w7f : List XO := [O3 159 12,O1 160 (.bin .add .no (.t 159) (c9 1)),O3 12 160]
def w7g : List XO := [O3 161 13,O1 162 (.bin .sub .no (.t 161) (c9 1)),O3 13 162]
def w7q : XCode :=
 (.block 5 (.seq (.block 6 (.loop w7o)) (.seq (.block 8 (.loop w7p)) (.seq (.seq (.reg w7d) (.cond (.t 144) (.exit 4) .skip)) (.seq (.reg w7e) (.seq (.reg w7f) (.reg w7g)))))))
def w7h : List XO := [O3 163 0,O3 164 13,O3 165 0,O3 166 1,O3 167 0,O3 168 1,O7 169 1 167 168,O4 170 1 169,O3 171 0,O3 172 13,O7 173 1 171 172,O4 174 1 173,O7 175 1 163 164,O2 (.store 1 (.t 175) (.t 170)),O7 176 1 165 166,O2 (.store 1 (.t 176) (.t 174))]
def w7i : List XO := [O3 177 13,O3 10 177,O1 11 (.mv (.c (.bool false)))]
def x_slices_partitionCmpFunc_int_ : XFunc := { np := 5, res := [.t 10, .t 11], body :=
 (.seq (.reg w61) (.seq (.reg w62) (.seq (.reg w7c) (.seq (.block 0 (.loop w7r)) (.seq (.block 2 (.loop w7s)) (.seq (.seq (.reg w7n) (.cond (.t 71) (.seq (.reg w63) (.seq (.reg w64) .ret)) .skip)) (.seq (.reg w65) (.seq (.reg w66) (.seq (.reg w67) (.seq (.block 4 (.loop w7q)) (.seq (.reg w7h) (.seq (.reg w7i) .ret)))))))))))) }
def v8p : List XO := [O1 2 (.mv (c9 0))]
def v8q : List XO := [O3 3 0,O1 4 (.bin .geq .no (.t 3) (.c (.int .u64 4294967296)))]
def v8s : List XO := [O3 5 0,O1 6 (.bin .shr .no (.t 5) (.c (.int .u64 32))),O3 0 6]
def v8t : List XO := [O1 2 (.mv (c9 32))]
def v8u : List XO := [O3 7 0,O1 8 (.bin .geq .no (.t 7) (.c (.int .u64 65536)))]
def v8v : List XO := [O3 9 0,O1 10 (.bin .shr .no (.t 9) (.c (.int .u64 16))),O3 0 10]
def v8w : List XO := [O3 11 2,O1 12 (.bin .add .no (.t 11) (c9 16)),O3 2 12]
def v8x : List XO := [O3 13 0,O1 14 (.bin .geq .no (.t 13) (.c (.int .u64 256)))]
def v8y : List XO := [O3 15 0,O1 16 (.bin .shr .no (.t 15) (.c (.int .u64 8))),O3 0 16]
def v8z : List XO := [O3 17 2,O1 18 (.bin .add .no (.t 17) (c9 8)),O3 2 18]
def v8r : List XO := [O3 19 2,O3 20 0,O1 21 (.cvtI .u8 (.t 20)),O1 22 (.ixS (.c (.string (ByteArray.mk #[0, 1, 2, 2, 3, 3, 3, 3, 4, 4, 4, 4, 4, 4, 4, 4, 5, 5, 5, 5, 5, 5, 5, 5, 5, 5, 5, 5, 5, 5, 5, 5, 6, 6, 6, 6, 6, 6, 6, 6, 6, 6, 6, 6, 6, 6, 6, 6, 6, 6, 6, 6, 6, 6, 6, 6, 6, 6, 6, 6, 6, 6, 6, 6, 7, 7, 7, 7, 7, 7, 7, 7, 7, 7, 7, 7, 7, 7, 7, 7, 7, 7, 7, 7, 7, 7, 7, 7, 7, 7, 7, 7, 7, 7, 7, 7, 7, 7, 7, 7, 7, 7, 7, 7, 7, 7, 7, 7, 7, 7, 7, 7, 7, 7, 7, 7, 7, 7, 7, 7, 7, 7, 7, 7, 7, 7, 7, 7, 8, 8, 8, 8, 8, 8, 8, 8, 8, 8, 8, 8, 8, 8, 8, 8, 8, 8, 8, 8, 8, 8, 8, 8, 8, 8, 8, 8, 8, 8, 8, 8, 8, 8, 8, 8, 8, 8, 8, 8, 8, 8, 8, 8, 8, 8, 8, 8, 8, 8, 8, 8, 8, 8, 8, 8, 8, 8, 8, 8, 8, 8, 8, 8, 8, 8, 8, 8, 8, 8, 8, 8, 8, 8, 8, 8, 8, 8, 8, 8, 8, 8, 8, 8, 8, 8, 8, 8, 8, 8, 8, 8, 8, 8, 8, 8, 8, 8, 8, 8, 8, 8, 8, 8, 8, 8, 8, 8, 8, 8, 8, 8, 8, 8, 8, 8, 8, 8, 8, 8, 8, 8, 8, 8, 8, 8, 8, 8]))) (.t 21)),O1 23 (.cvtI .i64 (.t 22)),O1 24 (.bin .add .no (.t 19) (.t 23)),O3 2 24]
def x_math_bits_Len64 : XFunc := { np := 1, res := [.t 2], body :=
 (.seq (.reg v8p) (.seq (.seq (.reg v8q) (.cond (.t 4) (.seq (.reg v8s) (.reg v8t)) .skip)) (.seq (.seq (.reg v8u) (.cond (.t 8) (.seq (.reg v8v) (.reg v8w)) .skip)) (.seq (.seq (.reg v8x) (.cond (.t 14) (.seq (.reg v8y) (.reg v8z)) .skip)) (.seq (.reg v8r) .ret))))) }
def v2t : List XO := [O1 2 (.mv (.c (.bool false)))]
def v2u : List XO := [O3 3 0,O3 4 0,O1 5 (.bin .neq .no (.t 3) (.t 4)),O3 2 5]
def x_cmp_isNaN_int_ : XFunc := { np := 1, res := [.t 2], body :=
 (.seq (.reg v2t) (.seq (.reg v2u) .ret)) }
def w9b : List XO := [O3 12 1,O3 10 12]
def w9c : List XO := [O3 13 10,O1 14 (.bin .mul .no (c9 2) (.t 13)),O1 15 (.bin .add .no (.t 14) (c9 1)),O3 11 15]
def w9d : List XO := [O3 16 11,O3 17 2,O1 18 (.bin .geq .no (.t 16) (.t 17))]
def w9e : List XO := [O3 19 11,O1 20 (.bin .add .no (.t 19) (c9 1)),O3 21 2,O1 22 (.bin .lss .no (.t 20) (.t 21)),O3 23 22,O9 24 23 true (.mv (.t 4)),O9 25 23 true (.mv (.t 0)),O9 26 23 true (.mv (.t 3)),O9 27 23 true (.mv (.t 11)),O9 28 23 true (.bin .add .no (.t 26) (.t 27)),O9 29 23 true (.ixA 1 (.t 25) (.t 28)),O9 30 23 true (.load false 1 (.t 29)),O9 31 23 true (.mv (.t 0)),O9 32 23 true (.mv (.t 3)),O9 33 23 true (.mv (.t 11)),O9 34 23 true (.bin .add .no (.t 32) (.t 33)),O9 35 23 true (.bin .add .no (.t 34) (c9 1)),O9 36 23 true (.ixA 1 (.t 31) (.t 35)),O9 37 23 true (.load false 1 (.t 36)),O9 38 23 true (.callv (.t 24) [.t 30, .t 37]),O9 39 23 true (.bin .lss .no (.t 38) (c9 0)),O1 40 (.pick (.t 23) (.t 39) (.c (.bool false)))]
def w9f : List XO := [O3 41 11,O1 42 (.bin .add .no (.t 41) (c9 1)),O3 11 42]
def w9g : List XO := [O3 43 4,O3 44 0,O3 45 3,O3 46 10,O1 47 (.bin .add .no (.t 45) (.t 46)),O7 48 1 44 47,O4 49 1 48,O3 50 0,O3 51 3,O3 52 11,O1 53 (.bin .add .no (.t 51) (.t 52)),O7 54 1 50 53,O4 55 1 54,O1 56 (.callv (.t 43) [.t 49, .t 55]),O1 57 (.bin .lss .no (.t 56) (c9 0)),O1 58 (.un .not (.t 57))]
def w9h : List XO := [O3 59 0,O3 60 3,O3 61 10,O1 62 (.bin .add .no (.t 60) (.t 61)),O3 63 0,O3 64 3,O3 65 11,O1 66 (.bin .add .no (.t 64) (.t 65)),O3 67 0,O3 68 3,O3 69 11,O1 70 (.bin .add .no (.t 68) (.t 69)),O7 71 1 67 70,O4 72 1 71,O3 73 0,O3 74 3,O3 75 10,O1 76 (.bin .add .no (.t 74) (.t 75)),O7 77 1 73 76,O4 78 1 77,O7 79 1 59 62,O2 (.store 1 (.t 79) (.t 72)),O7 80 1 63 66,O2 (.store 1 (.t 80) (.t 78))]
def w9i : List XO := [O3 81 11,O3 10 81]
def w9j : XCode :=
 (.block 1 (.seq (.reg w9c) (.seq (.seq (.reg w9d) (.cond (.t 18) (.exit 0) .skip)) (.seq (.seq (.reg w9e) (.cond (.t 40) (.reg w9f) .skip)) (.seq (.seq (.reg w9g) (.cond (.t 58) .ret .skip)) (.seq (.reg w9h) (.reg w9i)))))))
def x_slices_siftDownCmpFunc_int_ : XFunc := { np := 5, res := [], body :=
 (.seq (.reg w9b) (.block 0 (.loop w9j))) }
def w51 : List XO := [O1 2 (.mv (.c (.int .u64 0)))]
def w52 : List XO := [O3 3 0,O1 4 (.cvtI .u64 (.t 3)),O1 5 (.call "math/bits.Len" [.t 4]),O1 6 (.bin .shl .no (.c (.int .u64 1)) (.t 5)),O3 2 6]
def x_slices_nextPowerOfTwo : XFunc := { np := 1, res := [.t 2], body :=
 (.seq (.reg w51) (.seq (.reg w52) .ret)) }
def v19 : List XO := [O1 2 (.mv (.c (.int .u64 0)))]
def v2a : List XO := [O3 3 0,O1 4 (.nilck (.t 3)),O4 5 1 4,O3 6 0,O1 7 (.nilck (.t 6)),O4 8 1 7,O1 9 (.bin .shl .no (.t 8) (.c (.int .u64 13))),O1 10 (.bin .xor .no (.t 5) (.t 9)),O1 11 (.nilck (.t 3)),O2 (.store 1 (.t 11) (.t 10))]
def v2b : List XO := [O3 12 0,O1 13 (.nilck (.t 12)),O4 14 1 13,O3 15 0,O1 16 (.nilck (.t 15)),O4 17 1 16,O1 18 (.bin .shr .no (.t 17) (.c (.int .u64 7))),O1 19 (.bin .xor .no (.t 14) (.t 18)),O1 20 (.nilck (.t 12)),O2 (.store 1 (.t 20) (.t 19))]
def v2c : List XO := [O3 21 0,O1 22 (.nilck (.t 21)),O4 23 1 22,O3 24 0,O1 25 (.nilck (.t 24)),O4 26 1 25,O1 27 (.bin .shl .no (.t 26) (.c (.int .u64 17))),O1 28 (.bin .xor .no (.t 23) (.t 27)),O1 29 (.nilck (.t 21)),O2 (.store 1 (.t 29) (.t 28))]
def v2d : List XO := [O3 30 0,O1 31 (.nilck (.t 30)),O4 32 1 31,O3 2 32]
def x___slices_xorshift__Next : XFunc := { np := 1, res := [.t 2], body :=
 (.seq (.reg v19) (.seq (.reg v2a) (.seq (.reg v2b) (.seq (.reg v2c) (.seq (.reg v2d) .ret))))) }
def w5u : List XO := [O1 8 (.mv (c9 0))]
def w5v : List XO := [O3 9 0,O3 10 1,O1 11 (.bin .sub .no (.t 10) (c9 1)),O3 12 1,O3 13 1,O1 14 (.bin .add .no (.t 13) (c9 1)),O3 15 2,O3 16 3,O1 17 (.callw "slices.medianCmpFunc[int]" [.t 9, .t 11, .t 12, .t 14, .t 15, .t 16]),O3 8 17]
def x_slices_medianAdjacentCmpFunc_int_ : XFunc := { np := 4, res := [.t 8], body :=
 (.seq (.reg w5u) (.seq (.reg w5v) .ret)) }
def w5w : List XO := [O1 12 (.mv (c9 0))]
def w5x : List XO := [O3 14 0,O3 15 1,O3 16 2,O3 17 4,O3 18 5,O1 19 (.callw "slices.order2CmpFunc[int]" [.t 14, .t 15, .t 16, .t 17, .t 18]),O3 13 19,O1 20 (.ext (.t 13) 0),O1 21 (.ext (.t 13) 1),O3 1 20,O3 2 21]
def w5y : List XO := [O3 23 0,O3 24 2,O3 25 3,O3 26 4,O3 27 5,O1 28 (.callw "slices.order2CmpFunc[int]" [.t 23, .t 24, .t 25, .t 26, .t 27]),O3 22 28,O1 29 (.ext (.t 22) 0),O1 30 (.ext (.t 22) 1),O3 2 29,O3 3 30]
def w5z : List XO := [O3 32 0,O3 33 1,O3 34 2,O3 35 4,O3 36 5,O1 37 (.callw "slices.order2CmpFunc[int]" [.t 32, .t 33, .t 34, .t 35, .t 36]),O3 31 37,O1 38 (.ext (.t 31) 0),O1 39 (.ext (.t 31) 1),O3 1 38,O3 2 39]
def w50 : List XO := [O3 40 2,O3 12 40]
def x_slices_medianCmpFunc_int_ : XFunc := { np := 6, res := [.t 12], body :=
 (.seq (.reg w5w) (.seq (.reg w5x) (.seq (.reg w5y) (.seq (.reg w5z) (.seq (.reg w50) .ret))))) }
def w53 : List XO := [O1 10 (.mv (c9 0)),O1 11 (.mv (c9 0))]
def w54 : List XO := [O3 12 4,O3 13 0,O3 14 2,O7 15 1 13 14,O4 16 1 15,O3 17 0,O3 18 1,O7 19 1 17 18,O4 20 1 19,O1 21 (.callv (.t 12) [.t 16, .t 20]),O1 22 (.bin .lss .no (.t 21) (c9 0))]
def w55 : List XO := [O3 23 3,O1 24 (.nilck (.t 23)),O4 25 1 24,O1 26 (.bin .add .no (.t 25) (c9 1)),O1 27 (.nilck (.t 23)),O2 (.store 1 (.t 27) (.t 26))]
def w56 : List XO := [O3 28 2,O3 29 1,O3 10 28,O3 11 29]
def w57 : List XO := [O3 30 1,O3 31 2,O3 10 30,O3 11 31]
def x_slices_order2CmpFunc_int_ : XFunc := { np := 5, res := [.t 10, .t 11], body :=
 (.seq (.reg w53) (.seq (.seq (.reg w54) (.cond (.t 22) (.seq (.reg w55) (.seq (.reg w56) .ret)) .skip)) (.seq (.reg w57) .ret))) }
attribute [go_sem] E3n E3o E3y E3z E30 E31 E32 E33 E34 E35 E3p E3q E3r E3s E3t E3u E3v E3w E3x D8a D8b D8g D8h D8i D8j D8k D8l D8m D8n D8c D8d D8e D8f B5n B5o B5q B5r B5s B5t B5u B5v B5w B5x B5p v24 v25 v26 v27 v28 D6o D6p D6r D6s D6t D6u D6v D6w D6x D6y D6q v73 v74 v75 v76 v77 v78 v79 v8a v8b y64 z1s y66 y67 D85 D86 y7a E5l E5m E5n E5o E5p E5q E5r E4f E4g E4q E4y E4z E40 E41 E42 E43 E44 E4h E4i E4j E4k E4l E4m E4n E4o E4p E4r E4s E4t E4u E4v E4w E4x E36 E37 E38 E39 E4a E4b E4c E4d E4e E5s E5t E5u E5v E5w E5x E5y E50 E51 E52 E53 E54 E55 E56 E57 E5z E21 E22 E3c E3g E3h E3i E3j E3k E3l E3m E23 E24 E25 E26 E27 E28 E29 E3a E3b E3d E3e E3f E45 E46 E5d E5e E5f E5g E5h E5i E5j E5k E47 E48 E49 E5a E5b E5c w1o w1p v53 v54 v6d v6e v6f v6g v6h v6i v6j v6k v55 v56 v57 v58 v59 v6a v6b v6c v5i v5j v5n v5o v5p v5q v5r v5s v5t v5u v5k v5l v5m v5w v5x v5y v5z v50 v51 E58 E59 E6a E6b E6c E6d E6e E6f E6r E6s E6t E6u E6v E6w E6x E6g E6h E6k E6l E6m E6n E6o E6p E6q E6i E6j v7f v7g v40 v41 v43 v44 v45 v46 v47 v48 v49 v42 v9d v9e v9f w4b w4c v5g v5h w3w w3x w32 w33 w34 w35 w36 w37 w38 w39 w3y w3z w30 w31 v9o v9p v9q o3v o3w v4y v4z v85 v86 v87 v88 v89 v9a v9b v9c w78 w79 w8k w8v w8x w8y w8z w80 w81 w82 w8a w8b w8c w8d w8e w8f w8g w8h w8i w8j w8l w8m w8n w8o w8p w8q w8r w8s w8t w8u w8w v80 v81 v82 v2f v2g v2l v2m v2n v2o v2p v2q v2r v2s v2h v2i v2j v2k v9k v9l v9m v9n o4j o4k o4l o4m o4n o4o o4p o4q w5l w5m w5n w5o w5p w5q w5r w47 w48 w5c w5d w5e w5f w5g w5h w5i w49 w5a w5b w4d w4e w4g w4h w4i w4j w4k w4l w4m w4n w4f w4p w4q w4z w40 w41 w42 w43 w44 w45 w46 w4r w4s w4t w4u w4v w4w w4x w4y w84 w85 w86 w87 w88 w89 w58 w59 w6j w6r w6s w6t w6u w6v w6w w6a w6b w6c w6d w6e w6f w6g w6h w6i w6k w6l w6m w6n w6o w6p w6q w7t w7u w7z w70 w71 w72 w73 w74 w7v w7w w7x w7y w61 w62 w7c w7j w7k w7l w7m w7n w63 w64 w65 w66 w67 w68 w69 w7a w7b w7d w7e w7f w7g w7h w7i v8p v8q v8s v8t v8u v8v v8w v8x v8y v8z v8r v2t v2u w9b w9c w9d w9e w9f w9g w9h w9i w51 w52 v19 v2a v2b v2c v2d w5u w5v w5w w5x w5y w5z w50 w53 w54 w55 w56 w57
end Go.Nw.Ft3
