/- The functions of a seat, as the abstract machine has them. -/
import Derived.Test.YtojneiildpnpiaaNwI
set_option linter.all false
namespace Go.Nw.Tp6
@[go_sem] def O3 (d a:Nat):XO:=⟨some d,none,.mv (.t a)⟩
@[go_sem] def O4 (d n a:Nat):XO:=⟨some d,none,.load false n (.t a)⟩
@[go_sem] def O5 (d n a:Nat):XO:=⟨some d,none,.fldA n (.t a)⟩
@[go_sem] def O6 (d n a:Nat):XO:=⟨some d,none,.load true n (.t a)⟩
@[go_sem] def O7 (d n a b:Nat):XO:=⟨some d,none,.ixA n (.t a) (.t b)⟩
@[go_sem] def O8 (d a:Nat):XO:=⟨some d,none,.len false (.t a)⟩
@[go_sem] def O9 (d g:Nat) (p:Bool) (x:XOp):XO:=⟨some d,some (g,p),x⟩
@[go_sem] def c9 (n:Int):X:=.c (.int .i64 n)
@[go_sem] def O1 (d:Nat) (x:XOp):XO:=⟨some d,none,x⟩
@[go_sem] def O2 (x:XOp):XO:=⟨none,none,x⟩
def N9j:List XO:=[O1 2 (.boxF (.t 0)),O1 4 (.mv (.c (.bool false)))]
def N9k:List XO:=[O1 14 (.fldA 0 (.tf 2)),O1 15 (.load false 1 (.tf 14)),O1 16 (.bin .lss .no (.t 15) (c9 1)),O3 17 16,O9 18 17 false (.fldA 0 (.tf 2)),O9 19 17 false (.load false 1 (.tf 18)),O9 20 17 false (.bin .gtr .no (.t 19) (c9 1000)),O1 21 (.pick (.t 17) (.c (.bool true)) (.t 20)),O3 22 21,O9 23 22 false (.fldA 1 (.tf 2)),O9 24 22 false (.load false 1 (.tf 23)),O9 25 22 false (.bin .lss .no (.t 24) (c9 1)),O1 26 (.pick (.t 22) (.c (.bool true)) (.t 25)),O3 27 26,O9 28 27 false (.fldA 1 (.tf 2)),O9 29 27 false (.load false 1 (.tf 28)),O9 30 27 false (.bin .gtr .no (.t 29) (c9 50)),O1 31 (.pick (.t 27) (.c (.bool true)) (.t 30)),O3 32 31,O9 33 32 false (.mv (.t 1)),O9 34 32 false (.bin .lss .no (.t 33) (c9 1)),O1 35 (.pick (.t 32) (.c (.bool true)) (.t 34)),O3 36 35,O9 37 36 false (.mv (.t 1)),O9 38 36 false (.bin .gtr .no (.t 37) (c9 50)),O1 39 (.pick (.t 36) (.c (.bool true)) (.t 38)),O3 40 39,O9 41 40 false (.fldA 2 (.tf 2)),O9 42 40 false (.load false 1 (.tf 41)),O9 43 40 false (.bin .lss .no (.t 42) (c9 1)),O1 44 (.pick (.t 40) (.c (.bool true)) (.t 43)),O3 45 44,O9 46 45 false (.fldA 2 (.tf 2)),O9 47 45 false (.load false 1 (.tf 46)),O9 48 45 false (.bin .gtr .no (.t 47) (c9 20)),O1 49 (.pick (.t 45) (.c (.bool true)) (.t 48)),O3 50 49,O9 51 50 false (.fldA 3 (.tf 2)),O9 52 50 false (.load false 1 (.tf 51)),O9 53 50 false (.bin .lss .no (.t 52) (c9 0)),O1 54 (.pick (.t 50) (.c (.bool true)) (.t 53)),O3 55 54,O9 56 55 false (.fldA 3 (.tf 2)),O9 57 55 false (.load false 1 (.tf 56)),O9 58 55 false (.bin .gtr .no (.t 57) (c9 60)),O1 59 (.pick (.t 55) (.c (.bool true)) (.t 58))]
def N9q:List XO:=[O1 60 (.call "newel/neweltop.measures" []),O3 4 60]
def N9r:List XO:=[O1 61 (.bslF 1 [(c9 1),(c9 2)]),O1 62 (.fldA 2 (.tf 2)),O1 63 (.load false 1 (.tf 62)),O1 64 (.fldA 1 (.tf 2)),O1 65 (.load false 1 (.tf 64)),O1 66 (.build [(.int .i64 0),(.int .i64 0),(.int .i64 0),(.int .i64 0),(.int .i64 0),(.int .i64 0),(.int .i64 0)] [(0,1,(c9 0)),(1,1,(c9 1)),(2,1,(c9 2)),(3,1,(.t 63)),(4,1,(.t 65)),(5,1,(.c (.int .i64 (-1))))]),O1 67 (.fldA 2 (.tf 2)),O1 68 (.load false 1 (.tf 67)),O3 69 1,O1 70 (.build [(.int .i64 0),(.int .i64 0),(.int .i64 0),(.int .i64 0),(.int .i64 0),(.int .i64 0),(.int .i64 0)] [(0,1,(c9 2)),(1,1,(c9 0)),(2,1,(c9 5)),(3,1,(.t 68)),(4,1,(.t 69)),(5,1,(.c (.int .i64 (-1))))]),O1 71 (.bslF 7 [.t 66,.t 70]),O1 72 (.build [(.int .i64 0),(.slice none 0 0),(.slice none 0 0)] [(0,1,(c9 3)),(2,1,(.t 61)),(1,1,(.t 71))]),O1 5 (.alloc [(.int .i64 0),(.slice none 0 0),(.slice none 0 0)]),O2 (.store 3 (.t 5) (.t 72))]
def N9s:List XO:=[O1 73 (.fldA 0 (.tf 2)),O1 74 (.load false 1 (.tf 73)),O1 75 (.fldA 0 (.tf 2)),O1 76 (.load false 1 (.tf 75)),O1 77 (.build [(.int .i64 0),(.int .i64 0)] [(0,1,(.t 74)),(1,1,(.t 76))]),O1 6 (.alloc [(.int .i64 0),(.int .i64 0)]),O2 (.store 2 (.t 6) (.t 77))]
def N9t:List XO:=[O1 78 (.fldA 1 (.tf 2)),O1 79 (.load false 1 (.tf 78)),O3 80 1,O1 81 (.bin .add .no (.t 79) (.t 80)),O1 82 (.build [(.int .i64 0),(.int .i64 0)] [(0,1,(c9 1)),(1,1,(c9 1))]),O1 83 (.build [(.int .i64 0),(.int .i64 0),(.int .i64 0),(.int .i64 0),(.int .i64 0)] [(0,1,(.t 81)),(2,1,(.c (.int .i64 (-1)))),(3,2,(.t 82))]),O1 84 (.bslF 5 [.t 83]),O6 85 2 6,O1 86 (.build [(.int .i64 0),(.int .i64 0),(.int .i64 0)] [(1,2,(.t 85))]),O1 87 (.bslF 3 [.t 86]),O1 88 (.build [(.int .i64 0),(.int .i64 0),(.slice none 0 0)] [(2,1,(.t 87))]),O1 89 (.bslF 3 [.t 88]),O1 90 (.build [(.slice none 0 0),(.slice none 0 0),(.slice none 0 0),(.int .i64 0)] [(0,1,(.t 84)),(1,1,(.t 89)),(3,1,(c9 100))]),O1 7 (.alloc [(.slice none 0 0),(.slice none 0 0),(.slice none 0 0),(.int .i64 0)]),O2 (.store 4 (.t 7) (.t 90))]
def N9u:List XO:=[O6 92 4 7,O1 93 (.call "newel/halls.Most" [.t 92,(c9 0)]),O3 91 93,O1 94 (.ext (.t 91) 0),O1 95 (.ext (.t 91) 1),O3 8 94,O3 9 95]
def N9v:List XO:=[O6 97 3 5,O1 98 (.fldA 0 (.tf 2)),O1 99 (.load false 1 (.tf 98)),O1 100 (.bslF 1 [.t 99,(c9 0),(c9 0)]),O1 101 (.fldA 3 (.tf 2)),O1 102 (.load false 1 (.tf 101)),O1 103 (.call "newel/ways.Left" [.t 97,(c9 0),.t 100,.t 102]),O3 96 103,O1 104 (.ext (.t 96) 0),O1 105 (.ext (.t 96) 1),O3 10 104,O3 11 105]
def N9w:List XO:=[O3 106 9,O1 107 (.bin .neq .no (.t 106) (c9 0)),O3 108 107,O9 109 108 false (.mv (.t 11)),O9 110 108 false (.bin .neq .no (.t 109) (c9 0)),O1 111 (.pick (.t 108) (.c (.bool true)) (.t 110)),O3 112 111,O9 113 112 false (.mv (.t 8)),O9 114 112 false (.len false (.t 113)),O9 115 112 false (.fldA 3 (.t 7)),O9 116 112 false (.load false 1 (.t 115)),O9 117 112 false (.bin .neq .no (.t 114) (.t 116)),O1 118 (.pick (.t 112) (.c (.bool true)) (.t 117))]
def N9x:List XO:=[O1 4 (.mv (.c (.bool false)))]
def N9l:List XO:=[O1 119 (.fldA 0 (.tf 2)),O1 120 (.load false 1 (.tf 119)),O3 12 120]
def N9m:List XO:=[O1 121 (.fldA 3 (.tf 2)),O1 122 (.load false 1 (.tf 121)),O1 123 (.fldA 2 (.tf 2)),O1 124 (.load false 1 (.tf 123)),O1 125 (.bin .sub .no (.t 122) (.t 124)),O3 13 125]
def N9n:List XO:=[O3 126 13,O1 127 (.bin .geq .no (.t 126) (c9 0))]
def N9o:List XO:=[O3 128 8,O3 129 13,O7 130 1 128 129,O4 131 1 130,O1 132 (.fldA 1 (.tf 2)),O1 133 (.load false 1 (.tf 132)),O1 134 (.bin .sub .no (.t 131) (.t 133)),O3 135 1,O1 136 (.bin .sub .no (.t 134) (.t 135)),O1 137 (.max [(c9 0),.t 136]),O3 12 137]
def N9p:List XO:=[O3 138 10,O1 139 (.fldA 0 (.tf 2)),O1 140 (.load false 1 (.tf 139)),O3 141 12,O1 142 (.bin .sub .no (.t 140) (.t 141)),O1 143 (.bin .eql .no (.t 138) (.t 142)),O3 144 143,O9 145 144 true (.call "newel/neweltop.measures" []),O1 146 (.pick (.t 144) (.t 145) (.c (.bool false))),O3 4 146]
def x_neweltop_TopBoth:XFunc:={ np:=2,res:=[.t 4],body :=
 (.seq (.reg N9j) (.seq (.seq (.reg N9k) (.cond (.t 59) (.seq (.reg N9q) .ret) .skip)) (.seq (.reg N9r) (.seq (.reg N9s) (.seq (.reg N9t) (.seq (.reg N9u) (.seq (.reg N9v) (.seq (.seq (.reg N9w) (.cond (.t 118) (.seq (.reg N9x) .ret) .skip)) (.seq (.reg N9l) (.seq (.seq (.reg N9m) (.seq (.reg N9n) (.cond (.t 127) (.reg N9o) .skip))) (.seq (.reg N9p) .ret))))))))))) }
def H27:List XO:=[O1 2 (.boxF (.t 0)),O1 4 (.mv (.c (.slice none 0 0))),O1 5 (.mv (c9 0))]
def H28:List XO:=[O1 7 (.load true 4 (.tf 2)),O3 8 1,O1 9 (.call "newel/halls.check" [.t 7,.t 8,(.c (.slice none 0 0))]),O3 6 9]
def H29:List XO:=[O3 10 6,O1 11 (.bin .neq .no (.t 10) (c9 0))]
def H3a:List XO:=[O3 12 6,O1 4 (.mv (.c (.slice none 0 0))),O3 5 12]
def H3b:List XO:=[O1 13 (.load true 4 (.tf 2)),O1 14 (.load true 4 (.tf 2)),O1 15 (.call "newel/halls.open" [.t 14]),O1 16 (.call "newel/halls.bounds" [.t 13,.t 15]),O3 17 1,O7 18 1 16 17,O4 19 1 18,O1 20 (.nilck (.t 19)),O5 21 2 20,O4 22 1 21,O3 4 22,O1 5 (.mv (c9 0))]
def x_halls_Most:XFunc:={ np:=2,res:=[.t 4,.t 5],body :=
 (.seq (.reg H27) (.seq (.seq (.reg H28) (.seq (.reg H29) (.cond (.t 11) (.seq (.reg H3a) .ret) .skip))) (.seq (.reg H3b) .ret))) }
def N99:List XO:=[O1 4 (.boxF (.t 0)),O1 8 (.mv (c9 0)),O1 9 (.mv (c9 0))]
def P0a:List XO:=[O1 11 (.load true 3 (.tf 4)),O3 12 1,O3 13 2,O3 14 3,O1 15 (.call "newel/ways.leaving" [.t 11,.t 12,.t 13,.t 14]),O3 10 15]
def P0b:List XO:=[O3 16 10,O1 17 (.bin .neq .no (.t 16) (c9 0))]
def P0c:List XO:=[O3 18 10,O1 8 (.mv (c9 0)),O3 9 18]
def P0d:List XO:=[O1 19 (.load true 3 (.tf 4)),O3 20 1,O3 21 2,O3 22 3,O1 23 (.callw "newel/ways.lay" [.t 19,.t 20,.t 21,.t 22]),O1 24 (.callw "(*newel/ways.net).fill" [.t 23]),O3 8 24,O1 9 (.mv (c9 0))]
def x_ways_Left:XFunc:={ np:=4,res:=[.t 8,.t 9],body :=
 (.seq (.reg N99) (.seq (.seq (.reg P0a) (.seq (.reg P0b) (.cond (.t 17) (.seq (.reg P0c) .ret) .skip))) (.seq (.reg P0d) .ret))) }
def P0v:List XO:=[O1 3 (.boxF (.t 0)),O1 6 (.mv (c9 0)),O1 7 (.mv (c9 0))]
def P0w:List XO:=[O1 10 (.load true 3 (.tf 3)),O3 11 1,O3 12 2,O1 13 (.call "newel/ways.leaving" [.t 10,.t 11,.t 12,(c9 0)]),O3 8 13]
def P0y:List XO:=[O3 14 8,O1 15 (.bin .neq .no (.t 14) (c9 0))]
def P0z:List XO:=[O3 16 8,O1 6 (.mv (c9 0)),O3 7 16]
def P00:List XO:=[O1 17 (.mv (c9 0))]
def P01:List XO:=[O1 18 (.bin .lss .no (.t 17) (c9 61))]
def P02:List XO:=[O3 19 17,O3 9 19]
def P03:List XO:=[O1 20 (.load true 3 (.tf 3)),O3 21 1,O3 22 2,O3 23 9,O1 24 (.call "newel/ways.all" [.t 20,.t 21,.t 22,.t 23])]
def P04:List XO:=[O3 25 9,O3 6 25,O1 7 (.mv (c9 0))]
def P05:List XO:=[O1 26 (.bin .add .no (.t 17) (c9 1)),O3 17 26]
def P0x:List XO:=[O1 6 (.mv (c9 0)),O1 7 (.mv (c9 3))]
def H4y:List XO:=[O1 3 (.boxF (.t 0)),O1 6 (.mv (c9 0))]
def H4z:List XO:=[O1 8 (.load true 4 (.tf 3)),O1 9 (.call "newel/halls.Check" [.t 8]),O3 7 9]
def H40:List XO:=[O3 10 7,O1 11 (.bin .neq .no (.t 10) (c9 0))]
def H41:List XO:=[O3 12 7,O3 6 12]
def H42:List XO:=[O3 13 1,O1 14 (.bin .lss .no (.t 13) (c9 0)),O3 15 14,O9 16 15 false (.mv (.t 1)),O9 17 15 false (.fldA 0 (.tf 3)),O9 18 15 false (.load false 1 (.tf 17)),O9 19 15 false (.len false (.t 18)),O9 20 15 false (.bin .geq .no (.t 16) (.t 19)),O1 21 (.pick (.t 15) (.c (.bool true)) (.t 20)),O3 22 21,O9 23 22 false (.mv (.t 2)),O9 24 22 false (.mkfn "newel/halls.check$1" [] [.t 3]),O9 25 22 false (.call "slices.ContainsFunc[[]int,int]" [.t 23,.t 24]),O1 26 (.pick (.t 22) (.c (.bool true)) (.t 25))]
def H43:List XO:=[O1 6 (.mv (c9 1))]
def H44:List XO:=[O1 6 (.mv (c9 0))]
def x_halls_check:XFunc:={ np:=3,res:=[.t 6],body :=
 (.seq (.reg H4y) (.seq (.seq (.reg H4z) (.seq (.reg H40) (.cond (.t 11) (.seq (.reg H41) .ret) .skip))) (.seq (.seq (.reg H42) (.cond (.t 26) (.seq (.reg H43) .ret) .skip)) (.seq (.reg H44) .ret)))) }
def H3h:List XO:=[O1 2 (.boxF (.t 0)),O1 4 (.mv (.c (.slice none 0 0)))]
def H3i:List XO:=[O1 5 (.mv (.c (.slice none 0 0)))]
def H3s:List XO:=[O1 16 (.fldA 0 (.tf 2)),O1 17 (.load false 1 (.tf 16)),O8 18 17,O1 19 (.mv (c9 0))]
def H31:List XO:=[O1 20 (.bin .lss .no (.t 19) (.t 18))]
def H4a:List XO:=[O3 21 19,O3 6 21]
def H4e:List XO:=[O1 22 (.bsl 1 [(c9 0)]),O1 23 (.bsl 1 [(c9 0)]),O1 24 (.build [(.slice none 0 0),(.slice none 0 0),(.slice none 0 0),(.slice none 0 0)] [(0,1,(.t 22)),(1,1,(.t 23))]),O1 25 (.box (.t 24)),O3 7 25]
def H4f:List XO:=[O1 26 (.fldA 3 (.tf 2)),O1 27 (.load false 1 (.tf 26)),O1 28 (.mv (c9 0))]
def H4g:List XO:=[O1 29 (.bin .lss .no (.t 28) (.t 27))]
def H4h:List XO:=[O3 30 28,O3 8 30]
def H4i:List XO:=[O1 31 (.fldA 3 (.tf 2)),O1 32 (.load false 1 (.tf 31)),O1 33 (.mksl 1 [(.int .i64 0)] 8 (.t 32) (.t 32)),O3 9 33]
def H3j:List XO:=[O3 34 8,O3 10 34]
def H3k:List XO:=[O3 35 10,O1 36 (.fldA 3 (.tf 2)),O1 37 (.load false 1 (.tf 36)),O1 38 (.bin .lss .no (.t 35) (.t 37))]
def H3l:List XO:=[O3 41 9,O3 42 10,O1 43 (.load true 4 (.tf 2)),O3 44 6,O3 45 8,O3 46 10,O1 47 (.call "newel/halls.brought" [.t 43,.t 44,.t 45,.t 46]),O7 48 1 41 42,O2 (.store 1 (.t 48) (.t 47))]
def H3m:List XO:=[O1 49 (.fldA 0 (.tf 2)),O1 50 (.load false 1 (.tf 49)),O3 51 6,O1 52 (.slc 5 (.t 50) none (some (.t 51))),O8 53 52,O1 54 (.mv (c9 0))]
def H3n:List XO:=[O1 55 (.bin .lss .no (.t 54) (.t 53))]
def H3o:List XO:=[O3 56 54,O7 57 5 52 54,O6 58 5 57,O1 12 (.alloc [(.int .i64 0),(.int .i64 0),(.int .i64 0),(.int .i64 0),(.int .i64 0)]),O3 11 56,O2 (.store 5 (.t 12) (.t 58))]
def H3p:List XO:=[O5 59 2 12,O4 60 1 59,O3 61 6,O1 62 (.bin .eql .no (.t 60) (.t 61))]
def H3q:List XO:=[O3 63 9,O3 64 10,O7 65 1 63 64,O4 66 1 65,O3 67 5,O3 68 11,O7 69 1 67 68,O4 70 1 69,O3 71 8,O5 72 3 12,O5 73 1 72,O4 74 1 73,O1 75 (.bin .sub .no (.t 71) (.t 74)),O3 76 10,O5 77 3 12,O5 78 0 77,O4 79 1 78,O1 80 (.bin .sub .no (.t 76) (.t 79)),O1 81 (.call "(*newel/halls.bound).passes" [.t 70,.t 75,.t 80]),O1 82 (.bin .add .no (.t 66) (.t 81)),O7 83 1 63 64,O2 (.store 1 (.t 83) (.t 82))]
def H3r:List XO:=[O1 84 (.bin .add .no (.t 54) (c9 1)),O3 54 84]
def G7j:XCode :=
 (.seq (.reg H3n) (.seq (.cond (.t 55) .skip (.exit 6)) (.seq (.block 7 (.seq (.reg H3o) (.seq (.reg H3p) (.cond (.t 62) (.reg H3q) .skip)))) (.reg H3r))))
def H3t:List XO:=[O3 39 10,O1 40 (.bin .add .no (.t 39) (c9 1)),O3 10 40]
def G7k:XCode :=
 (.seq (.seq (.reg H3k) (.cond (.t 38) .skip (.exit 4))) (.seq (.block 5 (.seq (.reg H3l) (.seq (.reg H3m) (.block 6 (.loop G7j))))) (.reg H3t)))
def H3u:List XO:=[O3 85 7,O3 86 7,O1 87 (.nilck (.t 86)),O5 88 3 87,O4 89 1 88,O3 90 9,O1 91 (.bsl 1 [.t 90]),O1 92 (.app 1 24 (.t 89) (.t 91)),O1 93 (.nilck (.t 85)),O5 94 3 93,O2 (.store 1 (.t 94) (.t 92))]
def H3v:List XO:=[O3 95 7,O3 96 7,O1 97 (.nilck (.t 96)),O5 98 0 97,O4 99 1 98,O3 100 7,O1 101 (.nilck (.t 100)),O5 102 0 101,O4 103 1 102,O3 104 8,O7 105 1 103 104,O4 106 1 105,O3 107 1,O3 108 6,O7 109 1 107 108,O4 110 1 109,O3 111 8,O7 112 1 110 111,O4 113 1 112,O1 114 (.bin .add .no (.t 106) (.t 113)),O1 115 (.bsl 1 [.t 114]),O1 116 (.app 1 8 (.t 99) (.t 115)),O1 117 (.nilck (.t 95)),O5 118 0 117,O2 (.store 1 (.t 118) (.t 116))]
def H3w:List XO:=[O1 119 (.bin .add .no (.t 28) (c9 1)),O3 28 119]
def G7l:XCode :=
 (.seq (.reg H4g) (.seq (.cond (.t 29) .skip (.exit 2)) (.seq (.block 3 (.seq (.reg H4h) (.seq (.reg H4i) (.seq (.seq (.reg H3j) (.block 4 (.loop G7k))) (.seq (.seq .ghost (.reg H3u)) (.reg H3v)))))) (.reg H3w))))
def H3x:List XO:=[O1 120 (.fldA 3 (.tf 2)),O1 121 (.load false 1 (.tf 120)),O1 122 (.mv (c9 0))]
def H3y:List XO:=[O1 123 (.bin .lss .no (.t 122) (.t 121))]
def H3z:List XO:=[O3 124 122,O3 13 124]
def H30:List XO:=[O1 14 (.mv (c9 0))]
def H32:List XO:=[O3 125 13,O1 126 (.bin .add .no (.t 125) (c9 1)),O1 127 (.mv (c9 0))]
def H33:List XO:=[O1 128 (.bin .lss .no (.t 127) (.t 126))]
def H34:List XO:=[O3 129 127,O3 15 129]
def H35:List XO:=[O3 130 14,O3 131 7,O1 132 (.nilck (.t 131)),O5 133 3 132,O4 134 1 133,O3 135 15,O7 136 1 134 135,O4 137 1 136,O3 138 13,O7 139 1 137 138,O4 140 1 139,O3 141 7,O1 142 (.nilck (.t 141)),O5 143 0 142,O4 144 1 143,O3 145 13,O7 146 1 144 145,O4 147 1 146,O3 148 7,O1 149 (.nilck (.t 148)),O5 150 0 149,O4 151 1 150,O3 152 15,O7 153 1 151 152,O4 154 1 153,O1 155 (.bin .sub .no (.t 147) (.t 154)),O1 156 (.bin .sub .no (.t 140) (.t 155)),O1 157 (.max [.t 130,.t 156]),O3 14 157]
def H36:List XO:=[O1 158 (.bin .add .no (.t 127) (c9 1)),O3 127 158]
def G7m:XCode :=
 (.seq (.reg H33) (.seq (.cond (.t 128) .skip (.exit 10)) (.seq (.block 11 (.seq (.reg H34) (.reg H35))) (.reg H36))))
def H37:List XO:=[O3 159 7,O3 160 7,O1 161 (.nilck (.t 160)),O5 162 2 161,O4 163 1 162,O3 164 14,O1 165 (.bsl 1 [.t 164]),O1 166 (.app 1 8 (.t 163) (.t 165)),O1 167 (.nilck (.t 159)),O5 168 2 167,O2 (.store 1 (.t 168) (.t 166))]
def H38:List XO:=[O3 169 7,O3 170 7,O1 171 (.nilck (.t 170)),O5 172 1 171,O4 173 1 172,O3 174 7,O1 175 (.nilck (.t 174)),O5 176 1 175,O4 177 1 176,O3 178 13,O7 179 1 177 178,O4 180 1 179,O3 181 14,O3 182 1,O3 183 6,O7 184 1 182 183,O4 185 1 184,O3 186 13,O7 187 1 185 186,O4 188 1 187,O1 189 (.min [.t 181,.t 188]),O1 190 (.bin .add .no (.t 180) (.t 189)),O1 191 (.bsl 1 [.t 190]),O1 192 (.app 1 8 (.t 173) (.t 191)),O1 193 (.nilck (.t 169)),O5 194 1 193,O2 (.store 1 (.t 194) (.t 192))]
def H39:List XO:=[O1 195 (.bin .add .no (.t 122) (c9 1)),O3 122 195]
def G7n:XCode :=
 (.seq (.reg H3y) (.seq (.cond (.t 123) .skip (.exit 8)) (.seq (.block 9 (.seq (.reg H3z) (.seq (.reg H30) (.seq (.seq (.reg H32) (.block 10 (.loop G7m))) (.seq (.reg H37) (.reg H38)))))) (.reg H39))))
def H4b:List XO:=[O3 196 5,O3 197 7,O1 198 (.bsl 1 [.t 197]),O1 199 (.app 1 8 (.t 196) (.t 198)),O3 5 199]
def H4c:List XO:=[O1 200 (.bin .add .no (.t 19) (c9 1)),O3 19 200]
def G7o:XCode :=
 (.seq (.reg H31) (.seq (.cond (.t 20) .skip (.exit 0)) (.seq (.block 1 (.seq (.reg H4a) (.seq (.reg H4e) (.seq (.seq (.reg H4f) (.block 2 (.loop G7l))) (.seq (.seq (.reg H3x) (.block 8 (.loop G7n))) (.seq .ghost (.reg H4b))))))) (.reg H4c))))
def H4d:List XO:=[O3 201 5,O3 4 201]
def x_halls_bounds:XFunc:={ np:=2,res:=[.t 4],body :=
 (.seq (.reg H3h) (.seq (.reg H3i) (.seq (.seq (.reg H3s) (.block 0 (.loop G7o))) (.seq (.reg H4d) .ret)))) }
def H5k:List XO:=[O1 1 (.boxF (.t 0)),O1 2 (.mv (.c (.slice none 0 0)))]
def H5l:List XO:=[O1 4 (.fldA 0 (.tf 1)),O1 5 (.load false 1 (.tf 4)),O8 6 5,O1 7 (.mv (c9 0))]
def H5m:List XO:=[O1 8 (.bin .lss .no (.t 7) (.t 6))]
def H5n:List XO:=[O3 9 7,O3 3 9]
def H5o:List XO:=[O3 10 2,O1 11 (.load true 4 (.tf 1)),O3 12 3,O1 13 (.call "newel/halls.rates" [.t 11,.t 12]),O1 14 (.bsl 1 [.t 13]),O1 15 (.app 1 24 (.t 10) (.t 14)),O3 2 15]
def H5p:List XO:=[O1 16 (.bin .add .no (.t 7) (c9 1)),O3 7 16]
def G7s:XCode :=
 (.seq (.reg H5m) (.seq (.cond (.t 8) .skip (.exit 0)) (.seq (.block 1 (.seq (.reg H5n) (.seq (.reg H5o) .ghost))) (.reg H5p))))
def H5q:List XO:=[O3 17 2,O3 2 17]
def x_halls_open:XFunc:={ np:=1,res:=[.t 2],body :=
 (.seq (.reg H5k) (.seq (.seq (.reg H5l) (.block 0 (.loop G7s))) (.seq (.reg H5q) .ret))) }
def P0o:List XO:=[O1 4 (.boxF (.t 0)),O1 8 (.mv (c9 0))]
def P0p:List XO:=[O1 10 (.load true 3 (.tf 4)),O1 11 (.call "newel/ways.Check" [.t 10]),O3 9 11]
def P0q:List XO:=[O3 12 9,O1 13 (.bin .neq .no (.t 12) (c9 0))]
def P0r:List XO:=[O3 14 9,O3 8 14]
def P0s:List XO:=[O3 15 1,O1 16 (.call "newel/ways.within" [.t 15,(c9 0),(c9 4095)]),O1 17 (.un .not (.t 16)),O3 18 17,O9 19 18 false (.load true 3 (.tf 4)),O9 20 18 false (.mv (.t 2)),O9 21 18 false (.call "newel/ways.crowd" [.t 19,.t 20]),O9 22 18 false (.un .not (.t 21)),O1 23 (.pick (.t 18) (.c (.bool true)) (.t 22)),O3 24 23,O9 25 24 false (.mv (.t 3)),O9 26 24 false (.call "newel/ways.within" [.t 25,(c9 0),(c9 60)]),O9 27 24 false (.un .not (.t 26)),O1 28 (.pick (.t 24) (.c (.bool true)) (.t 27))]
def P0t:List XO:=[O1 8 (.mv (c9 1))]
def P0u:List XO:=[O1 8 (.mv (c9 0))]
def x_ways_leaving:XFunc:={ np:=4,res:=[.t 8],body :=
 (.seq (.reg P0o) (.seq (.seq (.reg P0p) (.seq (.reg P0q) (.cond (.t 13) (.seq (.reg P0r) .ret) .skip))) (.seq (.seq (.reg P0s) (.cond (.t 28) (.seq (.reg P0t) .ret) .skip)) (.seq (.reg P0u) .ret)))) }
def N7x:List XO:=[O1 2 (.mv (c9 0))]
def N7y:List XO:=[O1 3 (.mv (c9 0))]
def N7z:List XO:=[O3 5 0,O1 6 (.callw "(*newel/ways.net).levels" [.t 5]),O3 4 6]
def N70:List XO:=[O3 7 4,O3 8 0,O1 9 (.nilck (.t 8)),O5 10 6 9,O4 11 1 10,O7 12 1 7 11,O4 13 1 12,O1 14 (.bin .lss .no (.t 13) (c9 0))]
def N71:List XO:=[O3 15 3,O3 2 15]
def N72:List XO:=[O3 16 3,O3 17 0,O3 18 0,O1 19 (.nilck (.t 18)),O5 20 5 19,O4 21 1 20,O3 22 4,O3 23 0,O1 24 (.nilck (.t 23)),O5 25 4 24,O4 26 1 25,O8 27 26,O1 28 (.mksl 1 [(.int .i64 0)] 8 (.t 27) (.t 27)),O1 29 (.callw "(*newel/ways.net).push" [.t 17,.t 21,(c9 1099511627776),.t 22,.t 28]),O1 30 (.bin .add .no (.t 16) (.t 29)),O3 3 30]
def N3s:XCode :=
 (.block 1 (.seq (.reg N7z) (.seq (.seq (.reg N70) (.cond (.t 14) (.seq (.reg N71) .ret) .skip)) (.reg N72))))
def x___ways_net__fill:XFunc:={ np:=1,res:=[.t 2],body :=
 (.seq (.reg N7x) (.seq (.reg N7y) (.block 0 (.loop N3s)))) }
def P06:List XO:=[O1 4 (.boxF (.t 0)),O1 8 (.mv (.c (.bool false)))]
def P07:List XO:=[O1 9 (.load true 3 (.tf 4)),O3 10 1,O3 11 2,O3 12 3,O1 13 (.callw "newel/ways.lay" [.t 9,.t 10,.t 11,.t 12]),O1 14 (.callw "(*newel/ways.net).fill" [.t 13]),O3 15 2,O1 16 (.call "newel/ways.sum" [.t 15]),O1 17 (.bin .eql .no (.t 14) (.t 16)),O3 8 17]
def H2d:List XO:=[O1 1 (.boxF (.t 0)),O1 2 (.mv (c9 0))]
def H2e:List XO:=[O1 6 (.fldA 3 (.tf 1)),O1 7 (.load false 1 (.tf 6)),O1 8 (.bin .lss .no (.t 7) (c9 1)),O3 9 8,O9 10 9 false (.fldA 3 (.tf 1)),O9 11 9 false (.load false 1 (.tf 10)),O9 12 9 false (.bin .gtr .no (.t 11) (c9 100)),O1 13 (.pick (.t 9) (.c (.bool true)) (.t 12)),O3 14 13,O9 15 14 false (.fldA 0 (.tf 1)),O9 16 14 false (.load false 1 (.tf 15)),O9 17 14 false (.len false (.t 16)),O9 18 14 false (.bin .lss .no (.t 17) (c9 1)),O1 19 (.pick (.t 14) (.c (.bool true)) (.t 18)),O3 20 19,O9 21 20 false (.fldA 0 (.tf 1)),O9 22 20 false (.load false 1 (.tf 21)),O9 23 20 false (.len false (.t 22)),O9 24 20 false (.bin .gtr .no (.t 23) (c9 8)),O1 25 (.pick (.t 20) (.c (.bool true)) (.t 24)),O3 26 25,O9 27 26 false (.fldA 1 (.tf 1)),O9 28 26 false (.load false 1 (.tf 27)),O9 29 26 false (.len false (.t 28)),O9 30 26 false (.bin .gtr .no (.t 29) (c9 12)),O1 31 (.pick (.t 26) (.c (.bool true)) (.t 30)),O3 32 31,O9 33 32 false (.fldA 2 (.tf 1)),O9 34 32 false (.load false 1 (.tf 33)),O9 35 32 false (.len false (.t 34)),O9 36 32 false (.bin .gtr .no (.t 35) (c9 20)),O1 37 (.pick (.t 32) (.c (.bool true)) (.t 36))]
def H2o:List XO:=[O1 2 (.mv (c9 60))]
def H2p:List XO:=[O1 38 (.fldA 0 (.tf 1)),O1 39 (.load false 1 (.tf 38)),O8 40 39,O1 41 (.mv (c9 0))]
def H2q:List XO:=[O1 42 (.bin .lss .no (.t 41) (.t 40))]
def H2r:List XO:=[O3 43 41,O3 3 43]
def H2s:List XO:=[O1 44 (.load true 4 (.tf 1)),O3 45 3,O1 46 (.call "newel/halls.isComb" [.t 44,.t 45]),O1 47 (.un .not (.t 46))]
def H2t:List XO:=[O1 2 (.mv (c9 60))]
def H2u:List XO:=[O1 48 (.bin .add .no (.t 41) (c9 1)),O3 41 48]
def G7h:XCode :=
 (.seq (.reg H2q) (.seq (.cond (.t 42) .skip (.exit 0)) (.seq (.block 1 (.seq (.reg H2r) (.seq (.reg H2s) (.cond (.t 47) (.seq (.reg H2t) .ret) .skip)))) (.reg H2u))))
def H2f:List XO:=[O1 49 (.fldA 1 (.tf 1)),O1 50 (.load false 1 (.tf 49)),O1 51 (.mkfn "newel/halls.Check$1" [] [.t 1]),O1 52 (.call "slices.ContainsFunc[[]newel/api.Train,newel/api.Train]" [.t 50,.t 51])]
def H2g:List XO:=[O1 2 (.mv (c9 60))]
def H2h:List XO:=[O1 53 (.fldA 2 (.tf 1)),O1 54 (.load false 1 (.tf 53)),O8 55 54,O1 56 (.mv (c9 0))]
def H2i:List XO:=[O1 57 (.bin .lss .no (.t 56) (.t 55))]
def H2j:List XO:=[O3 58 56,O7 59 3 54 56,O6 60 3 59,O1 5 (.alloc [(.int .i64 0),(.int .i64 0),(.int .i64 0)]),O3 4 58,O2 (.store 3 (.t 5) (.t 60))]
def H2k:List XO:=[O5 61 0 5,O4 62 1 61,O1 63 (.bin .lss .no (.t 62) (c9 0)),O3 64 63,O9 65 64 false (.fldA 0 (.t 5)),O9 66 64 false (.load false 1 (.t 65)),O9 67 64 false (.fldA 3 (.tf 1)),O9 68 64 false (.load false 1 (.tf 67)),O9 69 64 false (.bin .geq .no (.t 66) (.t 68)),O1 70 (.pick (.t 64) (.c (.bool true)) (.t 69)),O3 71 70,O9 72 71 false (.mv (.t 4)),O9 73 71 false (.bin .gtr .no (.t 72) (c9 0)),O9 74 71 false (.mv (.t 73)),O9 75 74 true (.fldA 0 (.t 5)),O9 76 74 true (.load false 1 (.t 75)),O9 77 74 true (.fldA 2 (.tf 1)),O9 78 74 true (.load false 1 (.tf 77)),O9 79 74 true (.mv (.t 4)),O9 80 74 true (.bin .sub .no (.t 79) (c9 1)),O9 81 74 true (.ixA 3 (.t 78) (.t 80)),O9 82 74 true (.fldA 0 (.t 81)),O9 83 74 true (.load false 1 (.t 82)),O9 84 74 true (.bin .lss .no (.t 76) (.t 83)),O9 85 71 false (.pick (.t 74) (.t 84) (.c (.bool false))),O1 86 (.pick (.t 71) (.c (.bool true)) (.t 85)),O3 87 86,O9 88 87 false (.fldA 1 (.t 5)),O9 89 87 false (.load false 1 (.t 88)),O9 90 87 false (.bin .lss .no (.t 89) (c9 0)),O1 91 (.pick (.t 87) (.c (.bool true)) (.t 90)),O3 92 91,O9 93 92 false (.fldA 1 (.t 5)),O9 94 92 false (.load false 1 (.t 93)),O9 95 92 false (.fldA 0 (.tf 1)),O9 96 92 false (.load false 1 (.tf 95)),O9 97 92 false (.len false (.t 96)),O9 98 92 false (.bin .geq .no (.t 94) (.t 97)),O1 99 (.pick (.t 92) (.c (.bool true)) (.t 98)),O3 100 99,O9 101 100 false (.fldA 2 (.t 5)),O9 102 100 false (.load false 1 (.t 101)),O9 103 100 false (.build [(.int .i64 0),(.int .i64 0)] [(1,1,(c9 1000))]),O9 104 100 false (.call "newel/halls.in" [.t 102,.t 103]),O9 105 100 false (.un .not (.t 104)),O1 106 (.pick (.t 100) (.c (.bool true)) (.t 105))]
def H2l:List XO:=[O1 2 (.mv (c9 60))]
def H2m:List XO:=[O1 107 (.bin .add .no (.t 56) (c9 1)),O3 56 107]
def G7g:XCode :=
 (.seq (.reg H2i) (.seq (.cond (.t 57) .skip (.exit 2)) (.seq (.block 3 (.seq (.reg H2j) (.seq (.reg H2k) (.cond (.t 106) (.seq (.reg H2l) .ret) .skip)))) (.reg H2m))))
def H2n:List XO:=[O1 2 (.mv (c9 0))]
def x_halls_Check:XFunc:={ np:=1,res:=[.t 2],body :=
 (.seq (.reg H2d) (.seq (.seq (.reg H2e) (.cond (.t 37) (.seq (.reg H2o) .ret) .skip)) (.seq (.seq (.reg H2p) (.block 0 (.loop G7h))) (.seq (.seq (.reg H2f) (.cond (.t 52) (.seq (.reg H2g) .ret) .skip)) (.seq (.seq (.reg H2h) (.block 2 (.loop G7g))) (.seq (.reg H2n) .ret)))))) }
def H52:List XO:=[O1 2 (.boxF (.t 0)),O1 4 (.mv (.c (.slice none 0 0)))]
def H53:List XO:=[O1 9 (.fldA 3 (.tf 2)),O1 10 (.load false 1 (.tf 9)),O1 11 (.mksl 1 [(.int .i64 0)] 8 (.t 10) (.t 10)),O3 5 11]
def H57:List XO:=[O1 12 (.fldA 0 (.tf 2)),O1 13 (.load false 1 (.tf 12)),O3 14 1,O7 15 5 13 14,O5 16 0 15,O4 17 1 16,O3 6 17,O1 7 (.mv (c9 0))]
def H58:List XO:=[O3 18 5,O8 19 18,O1 20 (.mv (c9 0))]
def H59:List XO:=[O1 21 (.bin .lss .no (.t 20) (.t 19))]
def H6a:List XO:=[O3 22 20,O3 8 22]
def H6b:List XO:=[O3 23 7,O1 24 (.fldA 2 (.tf 2)),O1 25 (.load false 1 (.tf 24)),O8 26 25,O1 27 (.bin .lss .no (.t 23) (.t 26)),O3 28 27,O9 29 28 true (.fldA 2 (.tf 2)),O9 30 28 true (.load false 1 (.tf 29)),O9 31 28 true (.mv (.t 7)),O9 32 28 true (.ixA 3 (.t 30) (.t 31)),O9 33 28 true (.fldA 0 (.t 32)),O9 34 28 true (.load false 1 (.t 33)),O9 35 28 true (.mv (.t 8)),O9 36 28 true (.bin .leq .no (.t 34) (.t 35)),O1 37 (.pick (.t 28) (.t 36) (.c (.bool false)))]
def H6c:List XO:=[O1 40 (.fldA 2 (.tf 2)),O1 41 (.load false 1 (.tf 40)),O3 42 7,O7 43 3 41 42,O5 44 1 43,O4 45 1 44,O3 46 1,O1 47 (.bin .eql .no (.t 45) (.t 46))]
def H6d:List XO:=[O1 48 (.fldA 2 (.tf 2)),O1 49 (.load false 1 (.tf 48)),O3 50 7,O7 51 3 49 50,O5 52 2 51,O4 53 1 52,O3 6 53]
def H6e:List XO:=[O3 38 7,O1 39 (.bin .add .no (.t 38) (c9 1)),O3 7 39]
def G7u:XCode :=
 (.seq (.seq (.reg H6b) (.cond (.t 37) .skip (.exit 2))) (.seq (.block 3 (.seq (.reg H6c) (.cond (.t 47) (.reg H6d) .skip))) (.reg H6e)))
def H54:List XO:=[O3 54 5,O3 55 8,O3 56 6,O7 57 1 54 55,O2 (.store 1 (.t 57) (.t 56))]
def H55:List XO:=[O1 58 (.bin .add .no (.t 20) (c9 1)),O3 20 58]
def G7v:XCode :=
 (.seq (.reg H59) (.seq (.cond (.t 21) .skip (.exit 0)) (.seq (.block 1 (.seq (.reg H6a) (.seq (.block 2 (.loop G7u)) (.reg H54)))) (.reg H55))))
def H56:List XO:=[O3 59 5,O3 4 59]
def x_halls_rates:XFunc:={ np:=2,res:=[.t 4],body :=
 (.seq (.reg H52) (.seq (.reg H53) (.seq (.reg H57) (.seq (.seq (.reg H58) (.block 0 (.loop G7v))) (.seq (.reg H56) .ret))))) }
def y7d:List XO:=[O1 4 (.mv (.c (.bool false)))]
def y7e:List XO:=[O3 5 0,O3 6 1,O1 7 (.call "slices.Index[[]int,int]" [.t 5,.t 6]),O1 8 (.bin .geq .no (.t 7) (c9 0)),O3 4 8]
def x_slices_Contains___int_int_:XFunc:={ np:=2,res:=[.t 4],body :=
 (.seq (.reg y7d) (.seq (.reg y7e) .ret)) }
def o3v:List XO:=[O1 4 (.mv (.c (.bool false)))]
def o3w:List XO:=[O3 5 0,O3 6 1,O1 7 (.call "slices.IndexFunc[[]int,int]" [.t 5,.t 6]),O1 8 (.bin .geq .no (.t 7) (c9 0)),O3 4 8]
def x_slices_ContainsFunc___int_int_:XFunc:={ np:=2,res:=[.t 4],body :=
 (.seq (.reg o3v) (.seq (.reg o3w) .ret)) }
def H4w:List XO:=[O1 3 (.mv (.c (.bool false)))]
def H4x:List XO:=[O3 4 0,O1 5 (.bin .lss .no (.t 4) (c9 0)),O3 6 5,O9 7 6 false (.mv (.t 0)),O9 8 6 false (.fldA 3 (.t 1)),O9 9 6 false (.load false 1 (.t 8)),O9 10 6 false (.bin .geq .no (.t 7) (.t 9)),O1 11 (.pick (.t 6) (.c (.bool true)) (.t 10)),O3 3 11]
def x_halls_checkD1:XFunc:={ np:=2,res:=[.t 3],body :=
 (.seq (.reg H4w) (.seq (.reg H4x) .ret)) }
def H4j:List XO:=[O1 4 (.boxF (.t 0)),O1 8 (.mv (c9 0))]
def H4k:List XO:=[O1 13 (.fldA 1 (.tf 4)),O1 14 (.load false 1 (.tf 13)),O8 15 14,O1 16 (.mv (c9 0))]
def H4o:List XO:=[O1 17 (.bin .lss .no (.t 16) (.t 15))]
def H4p:List XO:=[O7 18 3 14 16,O6 19 3 18,O1 10 (.alloc [(.int .i64 0),(.int .i64 0),(.slice none 0 0)]),O2 (.store 3 (.t 10) (.t 19))]
def H4q:List XO:=[O5 20 0 10,O5 21 1 20,O4 22 1 21,O3 23 2,O1 24 (.bin .lss .no (.t 22) (.t 23)),O3 25 24,O9 26 25 false (.fldA 0 (.t 10)),O9 27 25 false (.fldA 0 (.t 26)),O9 28 25 false (.load false 1 (.t 27)),O9 29 25 false (.mv (.t 3)),O9 30 25 false (.bin .gtr .no (.t 28) (.t 29)),O1 31 (.pick (.t 25) (.c (.bool true)) (.t 30))]
def H4r:List XO:=[O5 32 2 10,O4 33 1 32,O8 34 33,O1 35 (.mv (c9 0))]
def H4s:List XO:=[O1 36 (.bin .lss .no (.t 35) (.t 34))]
def H4t:List XO:=[O7 37 3 33 35,O6 38 3 37,O1 12 (.alloc [(.int .i64 0),(.int .i64 0),(.int .i64 0)]),O2 (.store 3 (.t 12) (.t 38))]
def H4u:List XO:=[O5 39 0 12,O4 40 1 39,O3 41 1,O1 42 (.bin .eql .no (.t 40) (.t 41))]
def H4v:List XO:=[O3 43 8,O5 44 1 12,O5 45 1 44,O4 46 1 45,O1 47 (.bin .add .no (.t 43) (.t 46)),O3 8 47]
def H4l:List XO:=[O1 48 (.bin .add .no (.t 35) (c9 1)),O3 35 48]
def G7p:XCode :=
 (.seq (.reg H4s) (.seq (.cond (.t 36) .skip (.exit 2)) (.seq (.block 3 (.seq (.reg H4t) (.seq (.reg H4u) (.cond (.t 42) (.reg H4v) .skip)))) (.reg H4l))))
def H4m:List XO:=[O1 49 (.bin .add .no (.t 16) (c9 1)),O3 16 49]
def G7q:XCode :=
 (.seq (.reg H4o) (.seq (.cond (.t 17) .skip (.exit 0)) (.seq (.block 1 (.seq (.reg H4p) (.seq (.seq (.reg H4q) (.cond (.t 31) (.exit 1) .skip)) (.seq (.reg H4r) (.block 2 (.loop G7p)))))) (.reg H4m))))
def H4n:List XO:=[O3 50 8,O3 8 50]
def x_halls_brought:XFunc:={ np:=4,res:=[.t 8],body :=
 (.seq (.reg H4j) (.seq (.seq (.reg H4k) (.block 0 (.loop G7q))) (.seq (.reg H4n) .ret))) }
def H1y:List XO:=[O1 6 (.mv (c9 0))]
def H1z:List XO:=[O3 10 2,O3 11 1,O1 12 (.bin .lss .no (.t 10) (.t 11)),O3 13 12,O9 14 13 false (.mv (.t 2)),O9 15 13 false (.bin .lss .no (.t 14) (c9 0)),O1 16 (.pick (.t 13) (.c (.bool true)) (.t 15))]
def H13:List XO:=[O1 6 (.mv (c9 0))]
def H14:List XO:=[O3 17 1,O1 18 (.max [.t 17,(c9 0)]),O3 1 18]
def H15:List XO:=[O3 19 0,O1 20 (.nilck (.t 19)),O5 21 3 20,O4 22 1 21,O1 23 (.ixA 1 (.t 22) (c9 0)),O4 24 1 23,O3 25 2,O7 26 1 24 25,O4 27 1 26,O3 28 0,O1 29 (.nilck (.t 28)),O5 30 1 29,O4 31 1 30,O3 32 2,O1 33 (.bin .add .no (.t 32) (c9 1)),O7 34 1 31 33,O4 35 1 34,O3 36 0,O1 37 (.nilck (.t 36)),O5 38 1 37,O4 39 1 38,O3 40 1,O7 41 1 39 40,O4 42 1 41,O1 43 (.bin .sub .no (.t 35) (.t 42)),O1 44 (.min [.t 27,.t 43]),O3 7 44]
def H16:List XO:=[O3 45 1,O3 8 45]
def H17:List XO:=[O3 46 8,O3 47 2,O1 48 (.bin .leq .no (.t 46) (.t 47))]
def H18:List XO:=[O1 9 (.mv (c9 0))]
def H19:List XO:=[O3 51 8,O3 52 2,O1 53 (.bin .lss .no (.t 51) (.t 52))]
def H2a:List XO:=[O3 54 0,O1 55 (.nilck (.t 54)),O5 56 3 55,O4 57 1 56,O3 58 8,O1 59 (.bin .add .no (.t 58) (c9 1)),O7 60 1 57 59,O4 61 1 60,O3 62 2,O7 63 1 61 62,O4 64 1 63,O3 9 64]
def H10:List XO:=[O3 65 7,O3 66 0,O1 67 (.nilck (.t 66)),O5 68 1 67,O4 69 1 68,O3 70 8,O7 71 1 69 70,O4 72 1 71,O3 73 0,O1 74 (.nilck (.t 73)),O5 75 1 74,O4 76 1 75,O3 77 1,O7 78 1 76 77,O4 79 1 78,O1 80 (.bin .sub .no (.t 72) (.t 79)),O3 81 0,O1 82 (.nilck (.t 81)),O5 83 2 82,O4 84 1 83,O3 85 8,O7 86 1 84 85,O4 87 1 86,O1 88 (.bin .add .no (.t 80) (.t 87)),O3 89 9,O1 90 (.bin .add .no (.t 88) (.t 89)),O1 91 (.min [.t 65,.t 90]),O3 7 91]
def H11:List XO:=[O3 49 8,O1 50 (.bin .add .no (.t 49) (c9 1)),O3 8 50]
def G7f:XCode :=
 (.seq (.seq (.reg H17) (.cond (.t 48) .skip (.exit 0))) (.seq (.block 1 (.seq (.reg H18) (.seq (.seq (.reg H19) (.cond (.t 53) (.reg H2a) .skip)) (.reg H10)))) (.reg H11)))
def H12:List XO:=[O3 92 7,O3 6 92]
def x___halls_bound__passes:XFunc:={ np:=3,res:=[.t 6],body :=
 (.seq (.reg H1y) (.seq (.seq (.reg H1z) (.cond (.t 16) (.seq (.reg H13) .ret) .skip)) (.seq (.reg H14) (.seq (.reg H15) (.seq (.seq (.reg H16) (.block 0 (.loop G7f))) (.seq (.reg H12) .ret)))))) }
def C6n:List XO:=[O1 1 (.boxF (.t 0)),O1 2 (.mv (c9 0))]
def C6o:List XO:=[O1 9 (.fldA 0 (.tf 1)),O1 10 (.load false 1 (.tf 9)),O1 11 (.call "newel/ways.within" [.t 10,(c9 1),(c9 10)]),O1 12 (.un .not (.t 11)),O3 13 12,O9 14 13 false (.fldA 1 (.tf 1)),O9 15 13 false (.load false 1 (.tf 14)),O9 16 13 false (.len false (.t 15)),O9 17 13 false (.bin .gtr .no (.t 16) (c9 24)),O1 18 (.pick (.t 13) (.c (.bool true)) (.t 17))]
def C6y:List XO:=[O1 2 (.mv (c9 80))]
def C62:List XO:=[O1 19 (.callw "#mk" []),O3 3 19]
def C63:List XO:=[O1 20 (.fldA 1 (.tf 1)),O1 21 (.load false 1 (.tf 20)),O8 22 21,O1 23 (.mv (c9 0))]
def C64:List XO:=[O1 24 (.bin .lss .no (.t 23) (.t 22))]
def C65:List XO:=[O7 25 7 21 23,O6 26 7 25,O1 5 (.alloc [(.int .i64 0),(.int .i64 0),(.int .i64 0),(.int .i64 0),(.int .i64 0),(.int .i64 0),(.int .i64 0)]),O2 (.store 7 (.t 5) (.t 26))]
def C66:List XO:=[O6 27 7 5,O1 28 (.fldA 0 (.tf 1)),O1 29 (.load false 1 (.tf 28)),O1 30 (.call "newel/ways.passage" [.t 27,.t 29]),O1 31 (.un .not (.t 30))]
def C67:List XO:=[O1 2 (.mv (c9 80))]
def C68:List XO:=[O3 32 3,O5 33 5 5,O4 34 1 33,O1 35 (.callw "#li" [.t 32,.t 34,(c9 0),(c9 0)]),O1 36 (.bin .add .no (.t 35) (c9 1)),O2 (.callw "#pi" [.t 32,.t 34,.t 36,(c9 0)])]
def C6p:List XO:=[O5 37 5 5,O4 38 1 37,O1 39 (.bin .geq .no (.t 38) (c9 0)),O3 40 39,O9 41 40 true (.mv (.t 3)),O9 42 40 true (.fldA 5 (.t 5)),O9 43 40 true (.load false 1 (.t 42)),O9 44 40 true (.callw "#li" [.t 41,.t 43,(c9 0),(c9 0)]),O9 45 40 true (.bin .gtr .no (.t 44) (c9 1)),O1 46 (.pick (.t 40) (.t 45) (.c (.bool false)))]
def C6q:List XO:=[O1 2 (.mv (c9 80))]
def C6r:List XO:=[O1 47 (.bin .add .no (.t 23) (c9 1)),O3 23 47]
def C1f:XCode :=
 (.seq (.reg C64) (.seq (.cond (.t 24) .skip (.exit 0)) (.seq (.block 1 (.seq (.reg C65) (.seq (.seq (.reg C66) (.cond (.t 31) (.seq (.reg C67) .ret) .skip)) (.seq (.reg C68) (.seq (.reg C6p) (.cond (.t 46) (.seq (.reg C6q) .ret) .skip)))))) (.reg C6r))))
def C6s:List XO:=[O1 6 (.mv (.c (.int .i64 (-1))))]
def C6t:List XO:=[O1 48 (.fldA 2 (.tf 1)),O1 49 (.load false 1 (.tf 48)),O8 50 49,O1 51 (.mv (c9 0))]
def C6u:List XO:=[O1 52 (.bin .lss .no (.t 51) (.t 50))]
def C6v:List XO:=[O7 53 1 49 51,O4 54 1 53,O3 8 54]
def C6w:List XO:=[O3 55 8,O3 56 6,O1 57 (.bin .add .no (.t 56) (c9 1)),O1 58 (.fldA 0 (.tf 1)),O1 59 (.load false 1 (.tf 58)),O1 60 (.bin .sub .no (.t 59) (c9 1)),O1 61 (.call "newel/ways.within" [.t 55,.t 57,.t 60]),O1 62 (.un .not (.t 61))]
def C6x:List XO:=[O1 2 (.mv (c9 80))]
def C6z:List XO:=[O3 63 8,O3 6 63]
def C60:List XO:=[O1 64 (.bin .add .no (.t 51) (c9 1)),O3 51 64]
def C1g:XCode :=
 (.seq (.reg C6u) (.seq (.cond (.t 52) .skip (.exit 2)) (.seq (.block 3 (.seq (.reg C6v) (.seq (.seq (.reg C6w) (.cond (.t 62) (.seq (.reg C6x) .ret) .skip)) (.reg C6z)))) (.reg C60))))
def C61:List XO:=[O1 2 (.mv (c9 0))]
def x_ways_Check:XFunc:={ np:=1,res:=[.t 2],body :=
 (.seq (.reg C6n) (.seq (.seq (.reg C6o) (.cond (.t 18) (.seq (.reg C6y) .ret) .skip)) (.seq (.reg C62) (.seq (.seq (.reg C63) (.block 0 (.loop C1f))) (.seq (.reg C6s) (.seq (.seq (.reg C6t) (.block 2 (.loop C1g))) (.seq (.reg C61) .ret))))))) }
def C8f:List XO:=[O1 6 (.mv (.c (.bool false)))]
def C8g:List XO:=[O3 7 0,O3 8 1,O1 9 (.bin .geq .no (.t 7) (.t 8)),O3 10 9,O9 11 10 true (.mv (.t 0)),O9 12 10 true (.mv (.t 2)),O9 13 10 true (.bin .leq .no (.t 11) (.t 12)),O1 14 (.pick (.t 10) (.t 13) (.c (.bool false))),O3 6 14]
def x_ways_within:XFunc:={ np:=3,res:=[.t 6],body :=
 (.seq (.reg C8f) (.seq (.reg C8g) .ret)) }
def P0e:List XO:=[O1 2 (.boxF (.t 0)),O1 4 (.mv (.c (.bool false)))]
def P0f:List XO:=[O3 7 1,O8 8 7,O1 9 (.mv (c9 0))]
def P0g:List XO:=[O1 10 (.bin .lss .no (.t 9) (.t 8))]
def P0h:List XO:=[O7 11 1 7 9,O4 12 1 11,O3 6 12]
def P0i:List XO:=[O3 13 6,O1 14 (.call "newel/ways.within" [.t 13,(c9 0),(c9 1000)]),O1 15 (.un .not (.t 14))]
def P0j:List XO:=[O1 4 (.mv (.c (.bool false)))]
def P0k:List XO:=[O1 16 (.bin .add .no (.t 9) (c9 1)),O3 9 16]
def N3x:XCode :=
 (.seq (.reg P0g) (.seq (.cond (.t 10) .skip (.exit 0)) (.seq (.block 1 (.seq (.reg P0h) (.seq (.reg P0i) (.cond (.t 15) (.seq (.reg P0j) .ret) .skip)))) (.reg P0k))))
def P0l:List XO:=[O3 17 1,O8 18 17,O1 19 (.fldA 0 (.tf 2)),O1 20 (.load false 1 (.tf 19)),O1 21 (.bin .eql .no (.t 18) (.t 20)),O3 4 21]
def x_ways_crowd:XFunc:={ np:=2,res:=[.t 4],body :=
 (.seq (.reg P0e) (.seq (.seq (.reg P0f) (.block 0 (.loop N3x))) (.seq (.reg P0l) .ret))) }
def N73:List XO:=[O1 9 (.boxF (.t 4))]
def N74:List XO:=[O3 10 0,O1 11 (.nilck (.t 10)),O5 12 4 11,O4 13 1 12,O3 14 1,O3 15 0,O1 16 (.nilck (.t 15)),O5 17 4 16,O4 18 1 17,O3 19 1,O7 20 1 18 19,O4 21 1 20,O3 22 2,O3 23 3,O3 24 0,O1 25 (.nilck (.t 24)),O5 26 4 25,O4 27 1 26,O3 28 2,O7 29 1 27 28,O4 30 1 29,O8 31 30,O1 32 (.load true 4 (.tf 9)),O1 33 (.build [(.int .i64 0),(.int .i64 0),(.int .i64 0),(.int .i64 0),(.int .i64 0),(.int .i64 0),(.int .i64 0)] [(0,1,(.t 22)),(1,1,(.t 23)),(2,1,(.t 31)),(3,4,(.t 32))]),O1 34 (.bsl 7 [.t 33]),O1 35 (.app 7 56 (.t 21) (.t 34)),O7 36 1 13 14,O2 (.store 1 (.t 36) (.t 35))]
def N75:List XO:=[O3 37 0,O1 38 (.nilck (.t 37)),O5 39 4 38,O4 40 1 39,O3 41 2,O3 42 0,O1 43 (.nilck (.t 42)),O5 44 4 43,O4 45 1 44,O3 46 2,O7 47 1 45 46,O4 48 1 47,O3 49 1,O3 50 0,O1 51 (.nilck (.t 50)),O5 52 4 51,O4 53 1 52,O3 54 1,O7 55 1 53 54,O4 56 1 55,O8 57 56,O1 58 (.bin .sub .no (.t 57) (c9 1)),O1 59 (.build [(.int .i64 0),(.int .i64 0),(.int .i64 0),(.int .i64 0)] [(0,1,(.c (.int .i64 (-1))))]),O1 60 (.build [(.int .i64 0),(.int .i64 0),(.int .i64 0),(.int .i64 0),(.int .i64 0),(.int .i64 0),(.int .i64 0)] [(0,1,(.t 49)),(1,1,(c9 0)),(2,1,(.t 58)),(3,4,(.t 59))]),O1 61 (.bsl 7 [.t 60]),O1 62 (.app 7 56 (.t 48) (.t 61)),O7 63 1 40 41,O2 (.store 1 (.t 63) (.t 62))]
def x___ways_net__join:XFunc:={ np:=5,res:=[],body :=
 (.seq (.reg N73) (.seq (.regW N74 [(3,25),(2,25),(1,25)]) (.regW N75 [(3,25),(2,25),(1,25)]))) }
def N8l:List XO:=[O1 6 (.mv (c9 0))]
def N8m:List XO:=[O3 7 0,O1 8 (.nilck (.t 7)),O5 9 0 8,O5 10 0 9,O4 11 1 10,O3 12 2,O1 13 (.bin .mul .no (.t 11) (.t 12)),O3 14 1,O1 15 (.bin .add .no (.t 13) (.t 14)),O3 6 15]
def x___ways_net__node:XFunc:={ np:=3,res:=[.t 6],body :=
 (.seq (.reg N8l) (.seq (.reg N8m) .ret)) }
def P0m:List XO:=[O1 2 (.boxF (.t 0)),O1 3 (.boxF (.t 1)),O1 4 (.mv (.c (.nilFunc)))]
def P0n:List XO:=[O1 5 (.mkfn "newel/ways.headings$1" [] [.t 2,.t 3]),O3 4 5]
def x_ways_headings:XFunc:={ np:=2,res:=[.t 4],body :=
 (.seq (.reg P0m) (.seq (.reg P0n) .ret)) }
def N76:List XO:=[O1 2 (.mv (.c (.slice none 0 0)))]
def N77:List XO:=[O1 8 (.bsl 1 [(.c (.int .i64 (-1)))]),O3 9 0,O1 10 (.nilck (.t 9)),O5 11 4 10,O4 12 1 11,O8 13 12,O1 14 (.call "slices.Repeat[[]int,int]" [.t 8,.t 13]),O3 3 14]
def N8d:List XO:=[O3 15 3,O3 16 0,O1 17 (.nilck (.t 16)),O5 18 5 17,O4 19 1 18,O7 20 1 15 19,O2 (.store 1 (.t 20) (c9 0))]
def N8e:List XO:=[O3 21 0,O1 22 (.nilck (.t 21)),O5 23 5 22,O4 24 1 23,O1 25 (.bsl 1 [.t 24]),O3 4 25]
def N8f:List XO:=[O3 26 4,O8 27 26,O1 28 (.bin .gtr .no (.t 27) (c9 0))]
def N8g:List XO:=[O3 29 4,O1 30 (.ixA 1 (.t 29) (c9 0)),O4 31 1 30,O3 5 31]
def N8h:List XO:=[O3 32 4,O1 33 (.callw "#tl" [.t 32,(c9 1),(c9 1)]),O3 4 33]
def N8i:List XO:=[O3 34 0,O1 35 (.nilck (.t 34)),O5 36 4 35,O4 37 1 36,O3 38 5,O7 39 1 37 38,O4 40 1 39,O8 41 40,O1 42 (.mv (c9 0))]
def N8j:List XO:=[O1 43 (.bin .lss .no (.t 42) (.t 41))]
def N8k:List XO:=[O7 44 7 40 42,O6 45 7 44,O1 7 (.alloc [(.int .i64 0),(.int .i64 0),(.int .i64 0),(.int .i64 0),(.int .i64 0),(.int .i64 0),(.int .i64 0)]),O2 (.store 7 (.t 7) (.t 45))]
def N78:List XO:=[O5 46 1 7,O4 47 1 46,O1 48 (.bin .gtr .no (.t 47) (c9 0)),O3 49 48,O9 50 49 true (.mv (.t 3)),O9 51 49 true (.fldA 0 (.t 7)),O9 52 49 true (.load false 1 (.t 51)),O9 53 49 true (.ixA 1 (.t 50) (.t 52)),O9 54 49 true (.load false 1 (.t 53)),O9 55 49 true (.bin .lss .no (.t 54) (c9 0)),O1 56 (.pick (.t 49) (.t 55) (.c (.bool false)))]
def N79:List XO:=[O3 57 3,O5 58 0 7,O4 59 1 58,O3 60 3,O3 61 5,O7 62 1 60 61,O4 63 1 62,O1 64 (.bin .add .no (.t 63) (c9 1)),O7 65 1 57 59,O2 (.store 1 (.t 65) (.t 64))]
def N8a:List XO:=[O3 66 4,O5 67 0 7,O4 68 1 67,O1 69 (.bsl 1 [.t 68]),O1 70 (.app 1 8 (.t 66) (.t 69)),O3 4 70]
def N8b:List XO:=[O1 71 (.bin .add .no (.t 42) (c9 1)),O3 42 71]
def N3t:XCode :=
 (.seq (.reg N8j) (.seq (.cond (.t 43) .skip (.exit 2)) (.seq (.block 3 (.seq (.reg N8k) (.seq (.reg N78) (.cond (.t 56) (.seq (.reg N79) (.reg N8a)) .skip)))) (.reg N8b))))
def N3u:XCode :=
 (.seq (.seq (.reg N8f) (.cond (.t 28) .skip (.exit 0))) (.block 1 (.seq (.reg N8g) (.seq (.reg N8h) (.seq (.reg N8i) (.block 2 (.loop N3t)))))))
def N8c:List XO:=[O3 72 3,O3 2 72]
def x___ways_net__levels:XFunc:={ np:=1,res:=[.t 2],body :=
 (.seq (.reg N76) (.seq (.reg N77) (.seq (.reg N8d) (.seq (.reg N8e) (.seq (.block 0 (.loop N3u)) (.seq (.reg N8c) .ret)))))) }
def N8n:List XO:=[O1 10 (.mv (c9 0))]
def N8o:List XO:=[O3 14 1,O3 15 0,O1 16 (.nilck (.t 15)),O5 17 6 16,O4 18 1 17,O1 19 (.bin .eql .no (.t 14) (.t 18))]
def N8u:List XO:=[O3 20 2,O3 10 20]
def N8v:List XO:=[O1 11 (.mv (c9 0))]
def N8w:List XO:=[O3 21 4,O3 22 1,O7 23 1 21 22,O4 24 1 23,O3 25 0,O1 26 (.nilck (.t 25)),O5 27 4 26,O4 28 1 27,O3 29 1,O7 30 1 28 29,O4 31 1 30,O8 32 31,O1 33 (.bin .lss .no (.t 24) (.t 32))]
def N8x:List XO:=[O3 40 0,O1 41 (.nilck (.t 40)),O5 42 4 41,O4 43 1 42,O3 44 1,O7 45 1 43 44,O4 46 1 45,O3 47 4,O3 48 1,O7 49 1 47 48,O4 50 1 49,O7 51 7 46 50,O3 12 51]
def N8y:List XO:=[O3 52 12,O1 53 (.nilck (.t 52)),O5 54 1 53,O4 55 1 54,O1 56 (.bin .gtr .no (.t 55) (c9 0)),O3 57 56,O9 58 57 true (.mv (.t 3)),O9 59 57 true (.mv (.t 12)),O9 60 57 true (.nilck (.t 59)),O9 61 57 true (.fldA 0 (.t 60)),O9 62 57 true (.load false 1 (.t 61)),O9 63 57 true (.ixA 1 (.t 58) (.t 62)),O9 64 57 true (.load false 1 (.t 63)),O9 65 57 true (.mv (.t 3)),O9 66 57 true (.mv (.t 1)),O9 67 57 true (.ixA 1 (.t 65) (.t 66)),O9 68 57 true (.load false 1 (.t 67)),O9 69 57 true (.bin .add .no (.t 68) (c9 1)),O9 70 57 true (.bin .eql .no (.t 64) (.t 69)),O1 71 (.pick (.t 57) (.t 70) (.c (.bool false)))]
def N8z:List XO:=[O3 72 0,O3 73 12,O1 74 (.nilck (.t 73)),O5 75 0 74,O4 76 1 75,O3 77 2,O3 78 11,O1 79 (.bin .sub .no (.t 77) (.t 78)),O3 80 12,O1 81 (.nilck (.t 80)),O5 82 1 81,O4 83 1 82,O1 84 (.min [.t 79,.t 83]),O3 85 3,O3 86 4,O1 87 (.callw "(*newel/ways.net).push" [.t 72,.t 76,.t 84,.t 85,.t 86]),O3 13 87]
def N80:List XO:=[O3 88 12,O1 89 (.nilck (.t 88)),O5 90 1 89,O4 91 1 90,O3 92 13,O1 93 (.bin .sub .no (.t 91) (.t 92)),O1 94 (.nilck (.t 88)),O5 95 1 94,O2 (.store 1 (.t 95) (.t 93))]
def N81:List XO:=[O3 96 0,O1 97 (.nilck (.t 96)),O5 98 4 97,O4 99 1 98,O3 100 12,O1 101 (.nilck (.t 100)),O5 102 0 101,O4 103 1 102,O7 104 1 99 103,O4 105 1 104,O3 106 12,O1 107 (.nilck (.t 106)),O5 108 2 107,O4 109 1 108,O7 110 7 105 109,O5 111 1 110,O4 112 1 111,O3 113 13,O1 114 (.bin .add .no (.t 112) (.t 113)),O7 115 7 105 109,O5 116 1 115,O2 (.store 1 (.t 116) (.t 114))]
def N8p:List XO:=[O3 117 11,O3 118 13,O1 119 (.bin .add .no (.t 117) (.t 118)),O3 11 119]
def N8q:List XO:=[O3 120 11,O3 121 2,O1 122 (.bin .eql .no (.t 120) (.t 121))]
def N8r:List XO:=[O3 123 11,O3 10 123]
def N8s:List XO:=[O3 34 4,O3 35 1,O7 36 1 34 35,O4 37 1 36,O1 38 (.bin .add .no (.t 37) (c9 1)),O7 39 1 34 35,O2 (.store 1 (.t 39) (.t 38))]
def N3v:XCode :=
 (.seq (.seq (.reg N8w) (.cond (.t 33) .skip (.exit 0))) (.seq (.block 1 (.seq (.reg N8x) (.seq (.seq (.reg N8y) (.cond (.t 71) (.seq (.reg N8z) (.seq (.reg N80) (.seq (.reg N81) (.reg N8p)))) .skip)) (.seq (.reg N8q) (.cond (.t 122) (.seq (.reg N8r) .ret) .skip))))) (.reg N8s)))
def N8t:List XO:=[O3 124 11,O3 10 124]
def x___ways_net__push:XFunc:={ np:=5,res:=[.t 10],body :=
 (.seq (.reg N8n) (.seq (.seq (.reg N8o) (.cond (.t 19) (.seq (.reg N8u) .ret) .skip)) (.seq (.reg N8v) (.seq (.block 0 (.loop N3v)) (.seq (.reg N8t) .ret))))) }
def H47:List XO:=[O1 2 (.boxF (.t 0)),O1 4 (.mv (.c (.bool false)))]
def H48:List XO:=[O1 6 (.fldA 0 (.tf 2)),O1 7 (.load false 1 (.tf 6)),O3 8 1,O7 9 5 7 8,O6 10 5 9,O1 5 (.alloc [(.int .i64 0),(.int .i64 0),(.int .i64 0),(.int .i64 0),(.int .i64 0)]),O2 (.store 5 (.t 5) (.t 10))]
def H49:List XO:=[O5 11 0 5,O4 12 1 11,O1 13 (.build [(.int .i64 0),(.int .i64 0)] [(1,1,(c9 1000))]),O1 14 (.call "newel/halls.in" [.t 12,.t 13]),O3 15 14,O9 16 15 true (.fldA 1 (.t 5)),O9 17 15 true (.load false 1 (.t 16)),O9 18 15 true (.build [(.int .i64 0),(.int .i64 0)] [(1,1,(c9 100000))]),O9 19 15 true (.call "newel/halls.in" [.t 17,.t 18]),O1 20 (.pick (.t 15) (.t 19) (.c (.bool false))),O3 21 20,O9 22 21 true (.fldA 2 (.t 5)),O9 23 21 true (.load false 1 (.t 22)),O9 24 21 true (.bin .eql .no (.t 23) (.c (.int .i64 (-1)))),O9 25 21 true (.mv (.t 24)),O9 26 25 false (.fldA 2 (.t 5)),O9 27 25 false (.load false 1 (.t 26)),O9 28 25 false (.mv (.t 1)),O9 29 25 false (.bin .gtr .no (.t 27) (.t 28)),O9 30 25 false (.mv (.t 29)),O9 31 30 true (.fldA 2 (.t 5)),O9 32 30 true (.load false 1 (.t 31)),O9 33 30 true (.fldA 0 (.tf 2)),O9 34 30 true (.load false 1 (.tf 33)),O9 35 30 true (.len false (.t 34)),O9 36 30 true (.bin .lss .no (.t 32) (.t 35)),O9 37 25 false (.pick (.t 30) (.t 36) (.c (.bool false))),O9 38 21 true (.pick (.t 25) (.c (.bool true)) (.t 37)),O1 39 (.pick (.t 21) (.t 38) (.c (.bool false))),O3 40 39,O9 41 40 true (.fldA 3 (.t 5)),O9 42 40 true (.load true 2 (.t 41)),O9 43 40 true (.call "newel/halls.span" [.t 42,(c9 1),(c9 20)]),O1 44 (.pick (.t 40) (.t 43) (.c (.bool false))),O3 4 44]
def x_halls_isComb:XFunc:={ np:=2,res:=[.t 4],body :=
 (.seq (.reg H47) (.seq (.reg H48) (.seq (.reg H49) .ret))) }
def H8n:List XO:=[O1 4 (.mv (.c (.bool false)))]
def H8o:List XO:=[O3 5 0,O3 6 1,O1 7 (.call "slices.IndexFunc[[]newel/api.Train,newel/api.Train]" [.t 5,.t 6]),O1 8 (.bin .geq .no (.t 7) (c9 0)),O3 4 8]
def x_slices_ContainsFunc___api_Train_api_Train_:XFunc:={ np:=2,res:=[.t 4],body :=
 (.seq (.reg H8n) (.seq (.reg H8o) .ret)) }
def H2b:List XO:=[O1 2 (.boxF (.t 0)),O1 3 (.mv (.c (.bool false)))]
def H2c:List XO:=[O6 4 4 1,O1 5 (.load true 3 (.tf 2)),O1 6 (.call "newel/halls.isTrain" [.t 4,.t 5]),O1 7 (.un .not (.t 6)),O3 3 7]
def x_halls_CheckD1:XFunc:={ np:=2,res:=[.t 3],body :=
 (.seq (.reg H2b) (.seq (.reg H2c) .ret)) }
def H5a:List XO:=[O1 2 (.boxF (.t 0)),O1 3 (.boxF (.t 1)),O1 4 (.mv (.c (.bool false)))]
def H5b:List XO:=[O1 5 (.mv (.c (.int .i64 (-1))))]
def H5d:List XO:=[O1 8 (.fldA 2 (.tf 3)),O1 9 (.load false 1 (.tf 8)),O8 10 9,O1 11 (.mv (c9 0))]
def H5e:List XO:=[O1 12 (.bin .lss .no (.t 11) (.t 10))]
def H5f:List XO:=[O7 13 3 9 11,O6 14 3 13,O1 7 (.alloc [(.int .i64 0),(.int .i64 0),(.int .i64 0)]),O2 (.store 3 (.t 7) (.t 14))]
def H5g:List XO:=[O5 15 0 7,O4 16 1 15,O3 17 5,O1 18 (.bin .leq .no (.t 16) (.t 17)),O3 19 18,O9 20 19 false (.fldA 0 (.t 7)),O9 21 19 false (.load false 1 (.t 20)),O9 22 19 false (.fldA 0 (.tf 2)),O9 23 19 false (.load false 1 (.tf 22)),O9 24 19 false (.len false (.t 23)),O9 25 19 false (.bin .geq .no (.t 21) (.t 24)),O1 26 (.pick (.t 19) (.c (.bool true)) (.t 25)),O3 27 26,O9 28 27 false (.fldA 1 (.t 7)),O9 29 27 false (.load true 2 (.t 28)),O9 30 27 false (.call "newel/halls.span" [.t 29,(c9 0),(c9 1000)]),O9 31 27 false (.un .not (.t 30)),O1 32 (.pick (.t 27) (.c (.bool true)) (.t 31))]
def H5h:List XO:=[O1 4 (.mv (.c (.bool false)))]
def H5i:List XO:=[O5 33 0 7,O4 34 1 33,O3 5 34]
def H5j:List XO:=[O1 35 (.bin .add .no (.t 11) (c9 1)),O3 11 35]
def G7r:XCode :=
 (.seq (.reg H5e) (.seq (.cond (.t 12) .skip (.exit 0)) (.seq (.block 1 (.seq (.reg H5f) (.seq (.seq (.reg H5g) (.cond (.t 32) (.seq (.reg H5h) .ret) .skip)) (.reg H5i)))) (.reg H5j))))
def H5c:List XO:=[O1 36 (.fldA 0 (.tf 3)),O1 37 (.load true 2 (.tf 36)),O1 38 (.fldA 3 (.tf 2)),O1 39 (.load false 1 (.tf 38)),O1 40 (.bin .sub .no (.t 39) (c9 1)),O1 41 (.call "newel/halls.span" [.t 37,(c9 0),.t 40]),O3 42 41,O9 43 42 true (.fldA 2 (.tf 3)),O9 44 42 true (.load false 1 (.tf 43)),O9 45 42 true (.len false (.t 44)),O9 46 42 true (.bin .leq .no (.t 45) (c9 4)),O1 47 (.pick (.t 42) (.t 46) (.c (.bool false))),O3 4 47]
def x_halls_isTrain:XFunc:={ np:=2,res:=[.t 4],body :=
 (.seq (.reg H5a) (.seq (.reg H5b) (.seq (.seq (.reg H5d) (.block 0 (.loop G7r))) (.seq (.reg H5c) .ret)))) }
def H45:List XO:=[O1 3 (.boxF (.t 1)),O1 4 (.mv (.c (.bool false)))]
def H46:List XO:=[O1 5 (.fldA 0 (.tf 3)),O1 6 (.load false 1 (.tf 5)),O3 7 0,O1 8 (.bin .leq .no (.t 6) (.t 7)),O3 9 8,O9 10 9 true (.mv (.t 0)),O9 11 9 true (.fldA 1 (.tf 3)),O9 12 9 true (.load false 1 (.tf 11)),O9 13 9 true (.bin .leq .no (.t 10) (.t 12)),O1 14 (.pick (.t 9) (.t 13) (.c (.bool false))),O3 4 14]
def x_halls_in:XFunc:={ np:=2,res:=[.t 4],body :=
 (.seq (.reg H45) (.seq (.reg H46) .ret)) }
def y7o:List XO:=[O1 4 (.mv (c9 0))]
def y7p:List XO:=[O3 6 0,O8 7 6,O1 8 (.mv (c9 0))]
def y7q:List XO:=[O1 9 (.bin .lss .no (.t 8) (.t 7))]
def y7r:List XO:=[O3 10 8,O3 5 10]
def y7s:List XO:=[O3 11 1,O3 12 0,O3 13 5,O7 14 1 12 13,O4 15 1 14,O1 16 (.bin .eql .no (.t 11) (.t 15))]
def y7t:List XO:=[O3 17 5,O3 4 17]
def y7u:List XO:=[O1 18 (.bin .add .no (.t 8) (c9 1)),O3 8 18]
def y7w:XCode :=
 (.seq (.reg y7q) (.seq (.cond (.t 9) .skip (.exit 0)) (.seq (.block 1 (.seq (.reg y7r) (.seq (.reg y7s) (.cond (.t 16) (.seq (.reg y7t) .ret) .skip)))) (.reg y7u))))
def y7v:List XO:=[O1 4 (.mv (.c (.int .i64 (-1))))]
def x_slices_Index___int_int_:XFunc:={ np:=2,res:=[.t 4],body :=
 (.seq (.reg y7o) (.seq (.seq (.reg y7p) (.block 0 (.loop y7w))) (.seq (.reg y7v) .ret))) }
def o4j:List XO:=[O1 4 (.mv (c9 0))]
def o4k:List XO:=[O3 6 0,O8 7 6,O1 8 (.mv (c9 0))]
def o4l:List XO:=[O1 9 (.bin .lss .no (.t 8) (.t 7))]
def o4m:List XO:=[O3 10 8,O3 5 10]
def o4n:List XO:=[O3 11 1,O3 12 0,O3 13 5,O7 14 1 12 13,O4 15 1 14,O1 16 (.callv (.t 11) [.t 15])]
def o4o:List XO:=[O3 17 5,O3 4 17]
def o4p:List XO:=[O1 18 (.bin .add .no (.t 8) (c9 1)),O3 8 18]
def g5d:XCode :=
 (.seq (.reg o4l) (.seq (.cond (.t 9) .skip (.exit 0)) (.seq (.block 1 (.seq (.reg o4m) (.seq (.reg o4n) (.cond (.t 16) (.seq (.reg o4o) .ret) .skip)))) (.reg o4p))))
def o4q:List XO:=[O1 4 (.mv (.c (.int .i64 (-1))))]
def x_slices_IndexFunc___int_int_:XFunc:={ np:=2,res:=[.t 4],body :=
 (.seq (.reg o4j) (.seq (.seq (.reg o4k) (.block 0 (.loop g5d))) (.seq (.reg o4q) .ret))) }
def C7u:List XO:=[O1 2 (.boxF (.t 0)),O1 4 (.mv (.c (.bool false)))]
def C7v:List XO:=[O1 5 (.fldA 0 (.tf 2)),O1 6 (.load false 1 (.tf 5)),O3 7 1,O1 8 (.bin .sub .no (.t 7) (c9 1)),O1 9 (.call "newel/ways.within" [.t 6,(c9 0),.t 8]),O1 10 (.un .not (.t 9)),O3 11 10,O9 12 11 false (.fldA 1 (.tf 2)),O9 13 11 false (.load false 1 (.tf 12)),O9 14 11 false (.mv (.t 1)),O9 15 11 false (.bin .sub .no (.t 14) (c9 1)),O9 16 11 false (.call "newel/ways.within" [.t 13,(c9 0),.t 15]),O9 17 11 false (.un .not (.t 16)),O1 18 (.pick (.t 11) (.c (.bool true)) (.t 17)),O3 19 18,O9 20 19 false (.fldA 0 (.tf 2)),O9 21 19 false (.load false 1 (.tf 20)),O9 22 19 false (.fldA 1 (.tf 2)),O9 23 19 false (.load false 1 (.tf 22)),O9 24 19 false (.bin .eql .no (.t 21) (.t 23)),O1 25 (.pick (.t 19) (.c (.bool true)) (.t 24)),O3 26 25,O9 27 26 false (.fldA 3 (.tf 2)),O9 28 26 false (.load false 1 (.tf 27)),O9 29 26 false (.call "newel/ways.within" [.t 28,(c9 1),(c9 20)]),O9 30 26 false (.un .not (.t 29)),O1 31 (.pick (.t 26) (.c (.bool true)) (.t 30)),O3 32 31,O9 33 32 false (.fldA 4 (.tf 2)),O9 34 32 false (.load false 1 (.tf 33)),O9 35 32 false (.call "newel/ways.within" [.t 34,(c9 1),(c9 50)]),O9 36 32 false (.un .not (.t 35)),O1 37 (.pick (.t 32) (.c (.bool true)) (.t 36))]
def C7z:List XO:=[O1 4 (.mv (.c (.bool false)))]
def C70:List XO:=[O1 38 (.fldA 2 (.tf 2)),O1 39 (.load false 1 (.tf 38))]
def C71:List XO:=[O1 41 (.bin .eql .no (.t 39) (c9 1)),O3 40 41]
def C72:List XO:=[O1 42 (.bin .eql .no (.t 39) (c9 2)),O3 40 42]
def C73:List XO:=[O1 43 (.bin .eql .no (.t 39) (c9 5)),O3 40 43]
def C74:List XO:=[O1 44 (.fldA 5 (.tf 2)),O1 45 (.load false 1 (.tf 44)),O1 46 (.bin .eql .no (.t 45) (.c (.int .i64 (-1)))),O3 47 46,O9 48 47 true (.fldA 6 (.tf 2)),O9 49 47 true (.load false 1 (.tf 48)),O9 50 47 true (.bin .eql .no (.t 49) (c9 0)),O1 51 (.pick (.t 47) (.t 50) (.c (.bool false))),O3 4 51]
def C75:List XO:=[O1 53 (.bin .eql .no (.t 39) (c9 3)),O3 52 53]
def C76:List XO:=[O1 54 (.fldA 5 (.tf 2)),O1 55 (.load false 1 (.tf 54)),O1 56 (.call "newel/ways.within" [.t 55,(c9 0),(c9 11)]),O3 57 56,O9 58 57 true (.fldA 6 (.tf 2)),O9 59 57 true (.load false 1 (.tf 58)),O9 60 57 true (.call "newel/ways.within" [.t 59,(c9 1),(c9 20)]),O1 61 (.pick (.t 57) (.t 60) (.c (.bool false))),O3 4 61]
def C7w:List XO:=[O1 63 (.bin .eql .no (.t 39) (c9 4)),O3 62 63]
def C7x:List XO:=[O1 64 (.fldA 5 (.tf 2)),O1 65 (.load false 1 (.tf 64)),O1 66 (.call "newel/ways.within" [.t 65,(c9 0),(c9 11)]),O3 67 66,O9 68 67 true (.fldA 6 (.tf 2)),O9 69 67 true (.load false 1 (.tf 68)),O9 70 67 true (.bin .eql .no (.t 69) (c9 0)),O1 71 (.pick (.t 67) (.t 70) (.c (.bool false))),O3 4 71]
def C7y:List XO:=[O1 4 (.mv (.c (.bool false)))]
def x_ways_passage:XFunc:={ np:=2,res:=[.t 4],body :=
 (.seq (.reg C7u) (.seq (.seq (.reg C7v) (.cond (.t 37) (.seq (.reg C7z) .ret) .skip)) (.seq (.seq (.reg C70) (.block 0 (.seq (.seq (.reg C71) (.cond (.t 40) .skip (.seq (.reg C72) (.cond (.t 40) .skip (.reg C73))))) (.cond (.t 40) (.seq (.reg C74) .ret) (.seq (.reg C75) (.cond (.t 52) (.seq (.reg C76) .ret) (.seq (.reg C7w) (.cond (.t 62) (.seq (.reg C7x) .ret) .skip)))))))) (.seq (.reg C7y) .ret)))) }
def N9y:List XO:=[O1 4 (.mv (.c (.slice none 0 0)))]
def N9z:List XO:=[O3 9 1,O1 10 (.bin .lss .no (.t 9) (c9 0))]
def N91:List XO:=[O1 11 (.callw "#no" []),O2 (.callw "#no" [])]
def N92:List XO:=[O3 13 0,O8 14 13,O1 15 (.cvtI .u64 (.t 14)),O3 16 1,O1 17 (.cvtI .u64 (.t 16)),O1 18 (.call "math/bits.Mul" [.t 15,.t 17]),O3 12 18,O1 19 (.ext (.t 12) 0),O1 20 (.ext (.t 12) 1),O3 5 19,O3 6 20]
def N93:List XO:=[O3 21 5,O1 22 (.bin .gtr .no (.t 21) (.c (.int .u64 0))),O3 23 22,O9 24 23 false (.mv (.t 6)),O9 25 23 false (.bin .gtr .no (.t 24) (.c (.int .u64 9223372036854775807))),O1 26 (.pick (.t 23) (.c (.bool true)) (.t 25))]
def N94:List XO:=[O1 27 (.callw "#no" []),O2 (.callw "#no" [])]
def N95:List XO:=[O3 28 6,O1 29 (.cvtI .i64 (.t 28)),O1 30 (.mksl 1 [(.int .i64 0)] 8 (.t 29) (.t 29)),O3 7 30]
def N96:List XO:=[O3 31 7,O3 32 0,O1 33 (.callw "#cp" [.t 31,.t 32]),O3 8 33]
def N97:List XO:=[O3 34 8,O3 35 7,O8 36 35,O1 37 (.bin .lss .no (.t 34) (.t 36))]
def N98:List XO:=[O3 38 8,O3 39 7,O3 40 8,O1 41 (.slc 1 (.t 39) (some (.t 40)) none),O3 42 7,O3 43 8,O1 44 (.slc 1 (.t 42) none (some (.t 43))),O1 45 (.callw "#cp" [.t 41,.t 44]),O1 46 (.bin .add .no (.t 38) (.t 45)),O3 8 46]
def N3w:XCode :=
 (.seq (.seq (.reg N97) (.cond (.t 37) .skip (.exit 0))) (.block 1 (.reg N98)))
def N90:List XO:=[O3 47 7,O3 4 47]
def x_slices_Repeat___int_int_:XFunc:={ np:=2,res:=[.t 4],body :=
 (.seq (.reg N9y) (.seq (.seq (.reg N9z) (.cond (.t 10) (.reg N91) .skip)) (.seq (.reg N92) (.seq (.seq (.reg N93) (.cond (.t 26) (.reg N94) .skip)) (.seq (.reg N95) (.seq (.reg N96) (.seq (.block 0 (.loop N3w)) (.seq (.reg N90) .ret)))))))) }
def H6f:List XO:=[O1 3 (.boxF (.t 0)),O1 6 (.mv (.c (.bool false)))]
def H6g:List XO:=[O3 7 1,O1 8 (.fldA 0 (.tf 3)),O1 9 (.load false 1 (.tf 8)),O1 10 (.bin .leq .no (.t 7) (.t 9)),O3 11 10,O9 12 11 true (.fldA 0 (.tf 3)),O9 13 11 true (.load false 1 (.tf 12)),O9 14 11 true (.fldA 1 (.tf 3)),O9 15 11 true (.load false 1 (.tf 14)),O9 16 11 true (.bin .leq .no (.t 13) (.t 15)),O1 17 (.pick (.t 11) (.t 16) (.c (.bool false))),O3 18 17,O9 19 18 true (.fldA 1 (.tf 3)),O9 20 18 true (.load false 1 (.tf 19)),O9 21 18 true (.mv (.t 2)),O9 22 18 true (.bin .leq .no (.t 20) (.t 21)),O1 23 (.pick (.t 18) (.t 22) (.c (.bool false))),O3 6 23]
def x_halls_span:XFunc:={ np:=3,res:=[.t 6],body :=
 (.seq (.reg H6f) (.seq (.reg H6g) .ret)) }
def H8p:List XO:=[O1 4 (.mv (c9 0))]
def H8q:List XO:=[O3 6 0,O8 7 6,O1 8 (.mv (c9 0))]
def H8r:List XO:=[O1 9 (.bin .lss .no (.t 8) (.t 7))]
def H8s:List XO:=[O3 10 8,O3 5 10]
def H8t:List XO:=[O3 11 1,O3 12 0,O3 13 5,O7 14 3 12 13,O6 15 3 14,O1 16 (.callv (.t 11) [.t 15])]
def H8u:List XO:=[O3 17 5,O3 4 17]
def H8v:List XO:=[O1 18 (.bin .add .no (.t 8) (c9 1)),O3 8 18]
def G73:XCode :=
 (.seq (.reg H8r) (.seq (.cond (.t 9) .skip (.exit 0)) (.seq (.block 1 (.seq (.reg H8s) (.seq (.reg H8t) (.cond (.t 16) (.seq (.reg H8u) .ret) .skip)))) (.reg H8v))))
def H8w:List XO:=[O1 4 (.mv (.c (.int .i64 (-1))))]
def x_slices_IndexFunc___api_Train_api_Train_:XFunc:={ np:=2,res:=[.t 4],body :=
 (.seq (.reg H8p) (.seq (.seq (.reg H8q) (.block 0 (.loop G73))) (.seq (.reg H8w) .ret))) }
def N9e:List XO:=[O1 4 (.mv (.c (.int .u64 0))),O1 5 (.mv (.c (.int .u64 0)))]
def N9f:List XO:=[O3 11 0,O1 12 (.cvtI .u32 (.t 11)),O3 13 1,O1 14 (.cvtI .u32 (.t 13)),O1 15 (.call "math/bits.Mul32" [.t 12,.t 14]),O3 10 15,O1 16 (.ext (.t 10) 0),O1 17 (.ext (.t 10) 1),O3 6 16,O3 7 17]
def N9g:List XO:=[O3 18 6,O1 19 (.cvtI .u64 (.t 18)),O3 20 7,O1 21 (.cvtI .u64 (.t 20)),O3 4 19,O3 5 21]
def N9h:List XO:=[O3 23 0,O3 24 1,O1 25 (.call "math/bits.Mul64" [.t 23,.t 24]),O3 22 25,O1 26 (.ext (.t 22) 0),O1 27 (.ext (.t 22) 1),O3 8 26,O3 9 27]
def N9i:List XO:=[O3 28 8,O3 29 9,O3 4 28,O3 5 29]
def x_math_bits_Mul:XFunc:={ np:=2,res:=[.t 4,.t 5],body :=
 (.seq (.reg N9e) (.seq (.cond (.c (.bool false)) (.seq (.reg N9f) (.seq (.reg N9g) .ret)) .skip) (.seq (.reg N9h) (.seq (.reg N9i) .ret)))) }
def N82:List XO:=[O1 4 (.mv (.c (.int .u64 0))),O1 5 (.mv (.c (.int .u64 0)))]
def N83:List XO:=[O3 14 0,O1 15 (.bin .and .no (.t 14) (.c (.int .u64 4294967295))),O3 6 15]
def N86:List XO:=[O3 16 0,O1 17 (.bin .shr .no (.t 16) (.c (.int .u64 32))),O3 7 17]
def N87:List XO:=[O3 18 1,O1 19 (.bin .and .no (.t 18) (.c (.int .u64 4294967295))),O3 8 19]
def N88:List XO:=[O3 20 1,O1 21 (.bin .shr .no (.t 20) (.c (.int .u64 32))),O3 9 21]
def N89:List XO:=[O3 22 6,O3 23 8,O1 24 (.bin .mul .no (.t 22) (.t 23)),O3 10 24]
def N9a:List XO:=[O3 25 7,O3 26 8,O1 27 (.bin .mul .no (.t 25) (.t 26)),O3 28 10,O1 29 (.bin .shr .no (.t 28) (.c (.int .u64 32))),O1 30 (.bin .add .no (.t 27) (.t 29)),O3 11 30]
def N9b:List XO:=[O3 31 11,O1 32 (.bin .and .no (.t 31) (.c (.int .u64 4294967295))),O3 12 32]
def N9c:List XO:=[O3 33 11,O1 34 (.bin .shr .no (.t 33) (.c (.int .u64 32))),O3 13 34]
def N9d:List XO:=[O3 35 12,O3 36 6,O3 37 9,O1 38 (.bin .mul .no (.t 36) (.t 37)),O1 39 (.bin .add .no (.t 35) (.t 38)),O3 12 39]
def N84:List XO:=[O3 40 7,O3 41 9,O1 42 (.bin .mul .no (.t 40) (.t 41)),O3 43 13,O1 44 (.bin .add .no (.t 42) (.t 43)),O3 45 12,O1 46 (.bin .shr .no (.t 45) (.c (.int .u64 32))),O1 47 (.bin .add .no (.t 44) (.t 46)),O3 4 47]
def N85:List XO:=[O3 48 0,O3 49 1,O1 50 (.bin .mul .no (.t 48) (.t 49)),O3 5 50]
def x_math_bits_Mul64:XFunc:={ np:=2,res:=[.t 4,.t 5],body :=
 (.seq (.reg N82) (.seq (.reg N83) (.seq (.reg N86) (.seq (.reg N87) (.seq (.reg N88) (.seq (.reg N89) (.seq (.reg N9a) (.seq (.reg N9b) (.seq (.reg N9c) (.seq (.reg N9d) (.seq (.reg N84) (.seq (.reg N85) .ret)))))))))))) }
attribute [go_sem] N9j N9k N9q N9r N9s N9t N9u N9v N9w N9x N9l N9m N9n N9o N9p H27 H28 H29 H3a H3b N99 P0a P0b P0c P0d P0v P0w P0y P0z P00 P01 P02 P03 P04 P05 P0x H4y H4z H40 H41 H42 H43 H44 H3h H3i H3s H31 H4a H4e H4f H4g H4h H4i H3j H3k H3l H3m H3n H3o H3p H3q H3r H3t H3u H3v H3w H3x H3y H3z H30 H32 H33 H34 H35 H36 H37 H38 H39 H4b H4c H4d H5k H5l H5m H5n H5o H5p H5q P0o P0p P0q P0r P0s P0t P0u N7x N7y N7z N70 N71 N72 P06 P07 H2d H2e H2o H2p H2q H2r H2s H2t H2u H2f H2g H2h H2i H2j H2k H2l H2m H2n H52 H53 H57 H58 H59 H6a H6b H6c H6d H6e H54 H55 H56 y7d y7e o3v o3w H4w H4x H4j H4k H4o H4p H4q H4r H4s H4t H4u H4v H4l H4m H4n H1y H1z H13 H14 H15 H16 H17 H18 H19 H2a H10 H11 H12 C6n C6o C6y C62 C63 C64 C65 C66 C67 C68 C6p C6q C6r C6s C6t C6u C6v C6w C6x C6z C60 C61 C8f C8g P0e P0f P0g P0h P0i P0j P0k P0l N73 N74 N75 N8l N8m P0m P0n N76 N77 N8d N8e N8f N8g N8h N8i N8j N8k N78 N79 N8a N8b N8c N8n N8o N8u N8v N8w N8x N8y N8z N80 N81 N8p N8q N8r N8s N8t H47 H48 H49 H8n H8o H2b H2c H5a H5b H5d H5e H5f H5g H5h H5i H5j H5c H45 H46 y7o y7p y7q y7r y7s y7t y7u y7v o4j o4k o4l o4m o4n o4o o4p o4q C7u C7v C7z C70 C71 C72 C73 C74 C75 C76 C7w C7x C7y N9y N9z N91 N92 N93 N94 N95 N96 N97 N98 N90 H6f H6g H8p H8q H8r H8s H8t H8u H8v H8w N9e N9f N9g N9h N9i N82 N83 N86 N87 N88 N89 N9a N9b N9c N9d N84 N85
end Go.Nw.Tp6
