/- The functions of a seat, as the abstract machine has them. -/
import Derived.Test.YtinmifhfkkjccaaDoorNwI
set_option linter.all false
namespace Go.Nw.Tp5
@[go_sem] def O3 (d a:Nat):XO:=⟨some d,none,.mv (.t a)⟩
@[go_sem] def O4 (d n a:Nat):XO:=⟨some d,none,.load false n (.t a)⟩
@[go_sem] def O5 (d n a:Nat):XO:=⟨some d,none,.fldA n (.t a)⟩
@[go_sem] def O6 (d n a:Nat):XO:=⟨some d,none,.load true n (.t a)⟩
@[go_sem] def O7 (d n a b:Nat):XO:=⟨some d,none,.ixA n (.t a) (.t b)⟩
@[go_sem] def O8 (d a:Nat):XO:=⟨some d,none,.len false (.t a)⟩
@[go_sem] def O9 (d g:Nat) (p:Bool) (x:XOp):XO:=⟨some d,some (g,p),x⟩
@[go_sem] def c9 (n:Int):X:=.c (.int .i64 n)
@[go_sem] def O1 (d:Nat) (x:XOp):XO:=⟨some d,none,x⟩
@[go_sem] def O2 (x:XOp):XO:=⟨none,none,x⟩
def b50:List Int:=[0,1,2,0,2,1,1,0,2,1,2,0,2,0,1,2,1,0]
def b6h:List GC:=List.map (fun n=>GC.v (.int .i64 n)) b50
def u3d:List Int:=[0,1,0,2,1,2]
def u0n:List GC:=List.map (fun n=>GC.v (.int .i64 n)) u3d
def M4y:List XO:=[O1 3 (.boxF (.t 0)),O1 4 (.boxF (.t 1)),O1 5 (.boxF (.t 2)),O1 6 (.mv (.c (.bool false)))]
def M4z:List XO:=[O1 25 (.load true 4 (.tf 3)),O1 26 (.call "newel/newellaw09.Far" [.t 25]),O3 27 26,O9 28 27 false (.load true 4 (.tf 3)),O9 29 27 false (.fldA 0 (.tf 4)),O9 30 27 false (.load true 3 (.tf 29)),O9 31 27 false (.call "newel/newelref09.CheckCrate" [.t 28,.t 30]),O9 32 27 false (.bin .neq .no (.t 31) (c9 0)),O1 33 (.pick (.t 27) (.c (.bool true)) (.t 32))]
def M5a:List XO:=[O1 34 (.call "newel/neweltop.measures" []),O3 6 34]
def M5j:List XO:=[O1 36 (.load true 4 (.tf 3)),O1 37 (.fldA 0 (.tf 4)),O1 38 (.load true 3 (.tf 37)),O1 39 (.fldA 3 (.tf 4)),O1 40 (.load true 4 (.tf 39)),O1 41 (.call "newel/newelref09.Fits" [.t 36,.t 38,.t 40]),O3 35 41,O1 42 (.ext (.t 35) 0),O1 43 (.ext (.t 35) 1),O3 7 42,O3 8 43]
def M5u:List XO:=[O1 45 (.load true 4 (.tf 3)),O1 46 (.fldA 0 (.tf 4)),O1 47 (.load true 3 (.tf 46)),O1 48 (.load true 4 (.tf 5)),O1 49 (.call "newel/newelref09.Fits" [.t 45,.t 47,.t 48]),O3 44 49,O1 50 (.ext (.t 44) 0),O1 51 (.ext (.t 44) 1),O3 9 50,O3 10 51]
def M5w:List XO:=[O3 52 7,O1 53 (.un .not (.t 52)),O3 54 53,O9 55 54 false (.mv (.t 9)),O9 56 54 false (.un .not (.t 55)),O1 57 (.pick (.t 54) (.c (.bool true)) (.t 56))]
def M5x:List XO:=[O1 58 (.call "newel/neweltop.measures" []),O3 6 58]
def M5y:List XO:=[O1 59 (.fldA 3 (.tf 4)),O1 60 (.load true 4 (.tf 59)),O1 61 (.bsl 4 [.t 60]),O3 11 61]
def M5z:List XO:=[O1 62 (.call "newel/neweltop.four" []),O1 63 (.build [(.slice none 0 0),(.slice none 0 0),(.slice none 0 0),(.slice none 0 0),(.slice none 0 0)] [(0,1,(.t 62))]),O1 12 (.alloc [(.slice none 0 0),(.slice none 0 0),(.slice none 0 0),(.slice none 0 0),(.slice none 0 0)]),O2 (.store 5 (.t 12) (.t 63))]
def M50:List XO:=[O1 13 (.mv (c9 0))]
def M40:List XO:=[O3 64 13,O3 65 11,O8 66 65,O1 67 (.bin .lss .no (.t 64) (.t 66))]
def M41:List XO:=[O5 70 3 12,O4 71 1 70,O3 72 13,O1 73 (.call "newel/neweltop.letter" [(.c (.string (ByteArray.mk #[112]))),.t 72]),O1 74 (.build [(.string (ByteArray.mk #[])),(.int .i64 0)] [(0,1,(.t 73))]),O1 75 (.bsl 2 [.t 74]),O1 76 (.app 2 24 (.t 71) (.t 75)),O5 77 3 12,O2 (.store 1 (.t 77) (.t 76))]
def M42:List XO:=[O1 14 (.mv (c9 0))]
def M43:List XO:=[O3 78 14,O1 79 (.bin .lss .no (.t 78) (c9 9))]
def M44:List XO:=[O1 83 (.load true 4 (.tf 3)),O1 84 (.fldA 0 (.tf 4)),O1 85 (.load true 3 (.tf 84)),O3 86 11,O3 87 13,O7 88 4 86 87,O6 89 4 88,O3 90 14,O1 91 (.call "newel/shaft.Move" [.t 83,.t 85,.t 89,.t 90]),O3 82 91,O1 92 (.ext (.t 82) 0),O1 93 (.ext (.t 82) 1),O1 15 (.alloc [(.int .i64 0),(.int .i64 0),(.int .i64 0),(.int .i64 0)]),O2 (.store 4 (.t 15) (.t 92)),O3 16 93]
def M45:List XO:=[O3 94 16,O1 95 (.bin .eql .no (.t 94) (c9 3))]
def M46:List XO:=[O3 96 16,O1 97 (.bin .neq .no (.t 96) (c9 0))]
def M47:List XO:=[O1 6 (.mv (.c (.bool false)))]
def M48:List XO:=[O3 98 11,O6 99 4 15,O1 100 (.call "newel/neweltop.posed" [.t 98,.t 99]),O3 17 100]
def M49:List XO:=[O3 101 17,O3 102 11,O8 103 102,O1 104 (.bin .eql .no (.t 101) (.t 103))]
def M5b:List XO:=[O3 105 11,O6 106 4 15,O1 107 (.bsl 4 [.t 106]),O1 108 (.app 4 32 (.t 105) (.t 107)),O3 11 108]
def M5c:List XO:=[O5 109 4 12,O4 110 1 109,O3 111 13,O3 112 17,O3 113 14,O1 114 (.call "newel/neweltop.bits" [.t 113]),O1 115 (.build [(.int .i64 0),(.int .i64 0),(.slice none 0 0),(.slice none 0 0)] [(0,1,(.t 111)),(1,1,(.t 112)),(2,1,(.t 114))]),O1 116 (.bsl 4 [.t 115]),O1 117 (.app 4 64 (.t 110) (.t 116)),O5 118 4 12,O2 (.store 1 (.t 118) (.t 117))]
def M5d:List XO:=[O3 119 11,O8 120 119,O1 121 (.bin .gtr .no (.t 120) (c9 12)),O3 122 121,O9 123 122 false (.fldA 4 (.t 12)),O9 124 122 false (.load false 1 (.t 123)),O9 125 122 false (.len false (.t 124)),O9 126 122 false (.bin .gtr .no (.t 125) (c9 40)),O1 127 (.pick (.t 122) (.c (.bool true)) (.t 126))]
def M5e:List XO:=[O1 128 (.call "newel/neweltop.measures" []),O3 6 128]
def M5f:List XO:=[O3 80 14,O1 81 (.bin .add .no (.t 80) (c9 1)),O3 14 81]
def L9l:XCode :=
 (.seq (.seq (.reg M43) (.cond (.t 79) .skip (.exit 2))) (.seq (.block 3 (.seq (.reg M44) (.seq (.seq (.reg M45) (.cond (.t 95) (.exit 3) .skip)) (.seq (.seq (.reg M46) (.cond (.t 97) (.seq (.reg M47) .ret) .skip)) (.seq (.reg M48) (.seq (.seq (.reg M49) (.cond (.t 104) (.reg M5b) .skip)) (.seq (.seq (.reg M5c) .ghost) (.seq (.reg M5d) (.cond (.t 127) (.seq (.reg M5e) .ret) .skip))))))))) (.reg M5f)))
def M5g:List XO:=[O3 68 13,O1 69 (.bin .add .no (.t 68) (c9 1)),O3 13 69]
def L9m:XCode :=
 (.seq (.seq (.reg M40) (.cond (.t 67) .skip (.exit 0))) (.seq (.block 1 (.seq (.reg M41) (.seq (.reg M42) (.block 2 (.loop L9l))))) (.reg M5g)))
def M5h:List XO:=[O1 130 (.load true 4 (.tf 3)),O1 131 (.fldA 0 (.tf 4)),O1 132 (.load true 3 (.tf 131)),O1 133 (.fldA 3 (.tf 4)),O1 134 (.load true 4 (.tf 133)),O1 135 (.load true 4 (.tf 5)),O1 136 (.call "newel/shaft.Carry" [.t 130,.t 132,.t 134,.t 135]),O3 129 136,O1 137 (.ext (.t 129) 0),O1 138 (.ext (.t 129) 1),O3 18 137,O3 19 138]
def M5i:List XO:=[O3 139 11,O1 140 (.load true 4 (.tf 5)),O1 141 (.call "newel/neweltop.posed" [.t 139,.t 140]),O3 20 141]
def M5k:List XO:=[O3 142 20,O3 143 11,O8 144 143,O1 145 (.bin .eql .no (.t 142) (.t 144))]
def M5l:List XO:=[O3 146 19,O1 147 (.bin .eql .no (.t 146) (c9 3)),O3 148 147,O9 149 148 true (.call "newel/neweltop.measures" []),O1 150 (.pick (.t 148) (.t 149) (.c (.bool false))),O3 6 150]
def M5m:List XO:=[O6 152 5 12,O3 153 20,O1 154 (.build [(.int .i64 0),(.int .i64 0),(.int .i64 0),(.bool false)] [(0,1,(c9 3)),(1,1,(.t 153))]),O1 155 (.bslF 4 [.t 154]),O1 156 (.bslF 1 [.t 155]),O1 157 (.call "newel/control.Breach" [.t 152,(.c (.slice none 0 0)),.t 156]),O3 151 157,O1 158 (.ext (.t 151) 0),O1 159 (.ext (.t 151) 1),O1 160 (.ext (.t 151) 2),O3 21 158,O3 22 159,O3 23 160]
def M5n:List XO:=[O3 161 19,O1 162 (.bin .neq .no (.t 161) (c9 0)),O3 163 162,O9 164 163 false (.mv (.t 23)),O9 165 163 false (.bin .neq .no (.t 164) (c9 0)),O1 166 (.pick (.t 163) (.c (.bool true)) (.t 165)),O3 167 166,O9 168 167 false (.mv (.t 22)),O9 169 167 false (.un .not (.t 168)),O1 170 (.pick (.t 167) (.c (.bool true)) (.t 169)),O3 171 170,O9 172 171 false (.mv (.t 21)),O9 173 171 false (.len false (.t 172)),O9 174 171 false (.mv (.t 18)),O9 175 171 false (.len false (.t 174)),O9 176 171 false (.bin .neq .no (.t 173) (.t 175)),O1 177 (.pick (.t 171) (.c (.bool true)) (.t 176))]
def M5o:List XO:=[O1 6 (.mv (.c (.bool false)))]
def M5p:List XO:=[O1 24 (.mv (c9 0))]
def M5q:List XO:=[O3 178 24,O3 179 21,O8 180 179,O1 181 (.bin .lss .no (.t 178) (.t 180))]
def M5r:List XO:=[O3 184 21,O3 185 24,O7 186 1 184 185,O4 187 1 186,O3 188 18,O3 189 24,O7 190 1 188 189,O4 191 1 190,O1 192 (.bin .neq .no (.t 187) (.t 191))]
def M5s:List XO:=[O1 6 (.mv (.c (.bool false)))]
def M5t:List XO:=[O3 182 24,O1 183 (.bin .add .no (.t 182) (c9 1)),O3 24 183]
def L9n:XCode :=
 (.seq (.seq (.reg M5q) (.cond (.t 181) .skip (.exit 4))) (.seq (.block 5 (.seq (.reg M5r) (.cond (.t 192) (.seq (.reg M5s) .ret) .skip))) (.reg M5t)))
def M5v:List XO:=[O1 193 (.call "newel/neweltop.measures" []),O3 6 193]
def x_neweltop_TopCrane:XFunc:={ np:=3,res:=[.t 6],body :=
 (.seq (.reg M4y) (.seq (.seq (.reg M4z) (.cond (.t 33) (.seq (.reg M5a) .ret) .skip)) (.seq (.reg M5j) (.seq (.reg M5u) (.seq (.seq (.reg M5w) (.cond (.t 57) (.seq (.reg M5x) .ret) .skip)) (.seq (.reg M5y) (.seq (.reg M5z) (.seq (.seq (.reg M50) (.block 0 (.loop L9m))) (.seq (.reg M5h) (.seq (.reg M5i) (.seq (.seq (.reg M5k) (.cond (.t 145) (.seq (.reg M5l) .ret) .skip)) (.seq (.seq .ghost (.reg M5m)) (.seq (.seq (.reg M5n) (.cond (.t 177) (.seq (.reg M5o) .ret) .skip)) (.seq (.seq (.reg M5p) (.block 4 (.loop L9n))) (.seq (.reg M5v) .ret))))))))))))))) }
def M4w:List XO:=[O1 1 (.boxF (.t 0)),O1 2 (.mv (.c (.bool false)))]
def M4x:List XO:=[O1 3 (.fldA 3 (.tf 1)),O1 4 (.load false 1 (.tf 3)),O8 5 4,O1 6 (.bin .gtr .no (.t 5) (c9 300)),O3 2 6]
def x_l09_Far:XFunc:={ np:=1,res:=[.t 2],body :=
 (.seq (.reg M4w) (.seq (.reg M4x) .ret)) }
def M59:List XO:=[O1 2 (.boxF (.t 0)),O1 3 (.boxF (.t 1)),O1 4 (.mv (c9 0))]
def M6a:List XO:=[O1 6 (.load true 4 (.tf 2)),O1 7 (.call "newel/newelref09.Check" [.t 6]),O1 8 (.bin .neq .no (.t 7) (c9 0))]
def M6b:List XO:=[O1 4 (.mv (c9 90))]
def M6c:List XO:=[O1 5 (.mv (c9 0))]
def M6d:List XO:=[O3 9 5,O1 10 (.bin .lss .no (.t 9) (c9 3))]
def M6e:List XO:=[O3 13 5,O1 14 (.ixP 1 3 (.t 3) (.t 13)),O1 15 (.load false 1 (.tf 14)),O1 16 (.call "newel/newelref09.within" [.t 15,(c9 1),(c9 8)]),O1 17 (.un .not (.t 16))]
def M6f:List XO:=[O1 4 (.mv (c9 91))]
def M6g:List XO:=[O3 11 5,O1 12 (.bin .add .no (.t 11) (c9 1)),O3 5 12]
def L9p:XCode :=
 (.seq (.seq (.reg M6d) (.cond (.t 10) .skip (.exit 0))) (.seq (.block 1 (.seq (.reg M6e) (.cond (.t 17) (.seq (.reg M6f) .ret) .skip))) (.reg M6g)))
def M6h:List XO:=[O1 4 (.mv (c9 0))]
def x_r09_CheckCrate:XFunc:={ np:=2,res:=[.t 4],body :=
 (.seq (.reg M59) (.seq (.seq (.reg M6a) (.cond (.t 8) (.seq (.reg M6b) .ret) .skip)) (.seq (.seq (.reg M6c) (.block 0 (.loop L9p))) (.seq (.reg M6h) .ret)))) }
def M6w:List XO:=[O1 3 (.boxF (.t 0)),O1 4 (.boxF (.t 1)),O1 5 (.boxF (.t 2)),O1 6 (.mv (.c (.bool false))),O1 7 (.mv (c9 0))]
def M6x:List XO:=[O1 9 (.load true 4 (.tf 3)),O1 10 (.load true 3 (.tf 4)),O1 11 (.call "newel/newelref09.CheckCrate" [.t 9,.t 10]),O3 8 11]
def M6y:List XO:=[O3 12 8,O1 13 (.bin .neq .no (.t 12) (c9 0))]
def M6z:List XO:=[O3 14 8,O1 6 (.mv (.c (.bool false))),O3 7 14]
def M60:List XO:=[O1 15 (.load true 4 (.tf 3)),O1 16 (.load true 3 (.tf 4)),O1 17 (.load true 4 (.tf 5)),O1 18 (.call "newel/newelref09.fits" [.t 15,.t 16,.t 17]),O3 6 18,O1 7 (.mv (c9 0))]
def x_r09_Fits:XFunc:={ np:=3,res:=[.t 6,.t 7],body :=
 (.seq (.reg M6w) (.seq (.seq (.reg M6x) (.seq (.reg M6y) (.cond (.t 13) (.seq (.reg M6z) .ret) .skip))) (.seq (.reg M60) .ret))) }
def J56:List XO:=[O1 0 (.mv (.c (.slice none 0 0)))]
def M51:List XO:=[O1 1 (.bsl 1 [(.c (.string (ByteArray.mk #[105,97]))),(.c (.string (ByteArray.mk #[105,98]))),(.c (.string (ByteArray.mk #[105,99]))),(.c (.string (ByteArray.mk #[105,100])))]),O3 0 1]
def x_neweltop_four:XFunc:={ np:=0,res:=[.t 0],body :=
 (.seq (.reg J56) (.seq (.reg M51) .ret)) }
def J58:List XO:=[O1 4 (.mv (.c (.string (ByteArray.mk #[]))))]
def J59:List XO:=[O3 5 0,O3 6 1,O1 7 (.bin .add .no (c9 97) (.t 6)),O1 8 (.cvtI .i32 (.t 7)),O1 9 (.callw "#chr" [.t 8]),O1 10 (.bin .add .no (.t 5) (.t 9)),O3 4 10]
def x_neweltop_letter:XFunc:={ np:=2,res:=[.t 4],body :=
 (.seq (.reg J58) (.seq (.reg J59) .ret)) }
def M8p:List XO:=[O1 4 (.boxF (.t 0)),O1 5 (.boxF (.t 1)),O1 6 (.boxF (.t 2)),O1 8 (.alloc [(.int .i64 0),(.int .i64 0),(.int .i64 0),(.int .i64 0)]),O1 9 (.mv (c9 0))]
def M8q:List XO:=[O1 14 (.load true 4 (.tf 4)),O1 15 (.load true 3 (.tf 5)),O1 16 (.call "newel/shaft.check" [.t 14,.t 15]),O3 10 16]
def M8s:List XO:=[O3 17 10,O1 18 (.bin .neq .no (.t 17) (c9 0))]
def M8t:List XO:=[O1 19 (.build [(.int .i64 0),(.int .i64 0),(.int .i64 0),(.int .i64 0)] []),O3 20 10,O2 (.store 4 (.t 8) (.t 19)),O3 9 20]
def M8u:List XO:=[O1 21 (.load true 4 (.tf 4)),O1 22 (.load true 3 (.tf 5)),O1 23 (.call "newel/shaft.begin" [.t 21,.t 22]),O3 11 23]
def M8v:List XO:=[O3 24 11,O1 25 (.load true 4 (.tf 6)),O1 26 (.call "(*newel/shaft.crate).fits" [.t 24,.t 25]),O1 27 (.un .not (.t 26)),O3 28 27,O9 29 28 false (.mv (.t 3)),O9 30 28 false (.bin .lss .no (.t 29) (c9 0)),O1 31 (.pick (.t 28) (.c (.bool true)) (.t 30)),O3 32 31,O9 33 32 false (.mv (.t 3)),O9 34 32 false (.bin .gtr .no (.t 33) (c9 8)),O1 35 (.pick (.t 32) (.c (.bool true)) (.t 34))]
def M8w:List XO:=[O1 36 (.build [(.int .i64 0),(.int .i64 0),(.int .i64 0),(.int .i64 0)] []),O2 (.store 4 (.t 8) (.t 36)),O1 9 (.mv (c9 1))]
def M8x:List XO:=[O3 38 11,O1 39 (.load true 4 (.tf 6)),O3 40 3,O1 41 (.call "(*newel/shaft.crate).move" [.t 38,.t 39,.t 40]),O3 37 41,O1 42 (.ext (.t 37) 0),O1 43 (.ext (.t 37) 1),O1 12 (.alloc [(.int .i64 0),(.int .i64 0),(.int .i64 0),(.int .i64 0)]),O2 (.store 4 (.t 12) (.t 42)),O3 13 43]
def M8y:List XO:=[O3 44 13,O1 45 (.un .not (.t 44))]
def M8z:List XO:=[O1 46 (.build [(.int .i64 0),(.int .i64 0),(.int .i64 0),(.int .i64 0)] []),O2 (.store 4 (.t 8) (.t 46)),O1 9 (.mv (c9 3))]
def M8r:List XO:=[O6 47 4 12,O2 (.store 4 (.t 8) (.t 47)),O1 9 (.mv (c9 0))]
def x_shaft_Move:XFunc:={ np:=4,res:=[.cell 8 true 4,.t 9],body :=
 (.seq (.reg M8p) (.seq (.seq (.reg M8q) (.seq (.reg M8s) (.cond (.t 18) (.seq (.reg M8t) .ret) .skip))) (.seq (.reg M8u) (.seq (.seq (.reg M8v) (.cond (.t 35) (.seq (.reg M8w) .ret) .skip)) (.seq (.reg M8x) (.seq (.seq (.reg M8y) (.cond (.t 45) (.seq (.reg M8z) .ret) .skip)) (.seq (.reg M8r) .ret))))))) }
def M52:List XO:=[O1 3 (.boxF (.t 1)),O1 4 (.mv (c9 0))]
def M53:List XO:=[O1 5 (.mv (c9 0))]
def M54:List XO:=[O3 6 5,O3 7 0,O8 8 7,O1 9 (.bin .lss .no (.t 6) (.t 8))]
def M55:List XO:=[O3 12 0,O3 13 5,O7 14 4 12 13,O6 15 4 14,O1 16 (.load true 4 (.tf 3)),O1 17 (.bin .eql (.flat [.i,.i,.i,.i]) (.t 15) (.t 16))]
def M56:List XO:=[O3 18 5,O3 4 18]
def M57:List XO:=[O3 10 5,O1 11 (.bin .add .no (.t 10) (c9 1)),O3 5 11]
def L9o:XCode :=
 (.seq (.seq (.reg M54) (.cond (.t 9) .skip (.exit 0))) (.seq (.block 1 (.seq (.reg M55) (.cond (.t 17) (.seq (.reg M56) .ret) .skip))) (.reg M57)))
def M58:List XO:=[O3 19 0,O8 20 19,O3 4 20]
def x_neweltop_posed:XFunc:={ np:=2,res:=[.t 4],body :=
 (.seq (.reg M52) (.seq (.seq (.reg M53) (.block 0 (.loop L9o))) (.seq (.reg M58) .ret))) }
def J5r:List XO:=[O1 2 (.mv (.c (.slice none 0 0)))]
def J5s:List XO:=[O1 3 (.mv (.c (.slice none 0 0)))]
def J5t:List XO:=[O1 4 (.mv (c9 0))]
def J5u:List XO:=[O3 5 4,O1 6 (.bin .lss .no (.t 5) (c9 4))]
def J5v:List XO:=[O3 9 3,O3 10 4,O3 11 0,O3 12 4,O1 13 (.cvtI .u64 (.t 12)),O1 14 (.bin .shr .no (.t 11) (.t 13)),O1 15 (.bin .and .no (.t 14) (c9 1)),O1 16 (.bin .eql .no (.t 15) (c9 0)),O1 17 (.build [(.int .i64 0),(.int .i64 0),(.int .i64 0),(.bool false)] [(0,1,(c9 1)),(1,1,(.t 10)),(3,1,(.t 16))]),O1 18 (.bsl 4 [.t 17]),O1 19 (.app 4 32 (.t 9) (.t 18)),O3 3 19]
def J5w:List XO:=[O3 7 4,O1 8 (.bin .add .no (.t 7) (c9 1)),O3 4 8]
def J2c:XCode :=
 (.seq (.seq (.reg J5u) (.cond (.t 6) .skip (.exit 0))) (.seq (.block 1 (.reg J5v)) (.reg J5w)))
def J5x:List XO:=[O3 20 3,O1 21 (.bsl 1 [.t 20]),O3 2 21]
def x_neweltop_bits:XFunc:={ np:=1,res:=[.t 2],body :=
 (.seq (.reg J5r) (.seq (.reg J5s) (.seq (.seq (.reg J5t) (.block 0 (.loop J2c))) (.seq (.seq .ghost (.reg J5x)) .ret)))) }
def M7u:List XO:=[O1 4 (.boxF (.t 0)),O1 5 (.boxF (.t 1)),O1 6 (.boxF (.t 2)),O1 7 (.boxF (.t 3)),O1 8 (.mv (.c (.slice none 0 0))),O1 9 (.mv (c9 0))]
def M7v:List XO:=[O1 14 (.load true 4 (.tf 4)),O1 15 (.load true 3 (.tf 5)),O1 16 (.call "newel/shaft.check" [.t 14,.t 15]),O3 10 16]
def M7x:List XO:=[O3 17 10,O1 18 (.bin .neq .no (.t 17) (c9 0))]
def M7y:List XO:=[O3 19 10,O1 8 (.mv (.c (.slice none 0 0))),O3 9 19]
def M7z:List XO:=[O1 20 (.load true 4 (.tf 4)),O1 21 (.load true 3 (.tf 5)),O1 22 (.call "newel/shaft.begin" [.t 20,.t 21]),O3 11 22]
def M70:List XO:=[O3 23 11,O1 24 (.load true 4 (.tf 6)),O1 25 (.call "(*newel/shaft.crate).fits" [.t 23,.t 24]),O1 26 (.un .not (.t 25)),O3 27 26,O9 28 27 false (.mv (.t 11)),O9 29 27 false (.load true 4 (.tf 7)),O9 30 27 false (.call "(*newel/shaft.crate).fits" [.t 28,.t 29]),O9 31 27 false (.un .not (.t 30)),O1 32 (.pick (.t 27) (.c (.bool true)) (.t 31))]
def M71:List XO:=[O1 8 (.mv (.c (.slice none 0 0))),O1 9 (.mv (c9 1))]
def M72:List XO:=[O3 34 11,O1 35 (.load true 4 (.tf 6)),O1 36 (.load true 4 (.tf 7)),O1 37 (.call "(*newel/shaft.crate).carry" [.t 34,.t 35,.t 36]),O3 33 37,O1 38 (.ext (.t 33) 0),O1 39 (.ext (.t 33) 1),O3 12 38,O3 13 39]
def M73:List XO:=[O3 40 13,O1 41 (.un .not (.t 40))]
def M74:List XO:=[O1 8 (.mv (.c (.slice none 0 0))),O1 9 (.mv (c9 3))]
def M7w:List XO:=[O3 42 12,O3 8 42,O1 9 (.mv (c9 0))]
def x_shaft_Carry:XFunc:={ np:=4,res:=[.t 8,.t 9],body :=
 (.seq (.reg M7u) (.seq (.seq (.reg M7v) (.seq (.reg M7x) (.cond (.t 18) (.seq (.reg M7y) .ret) .skip))) (.seq (.reg M7z) (.seq (.seq (.reg M70) (.cond (.t 32) (.seq (.reg M71) .ret) .skip)) (.seq (.reg M72) (.seq (.seq (.reg M73) (.cond (.t 41) (.seq (.reg M74) .ret) .skip)) (.seq (.reg M7w) .ret))))))) }
def m0f:List XO:=[O1 3 (.boxF (.t 0)),O1 6 (.mv (.c (.slice none 0 0))),O1 7 (.mv (.c (.bool false))),O1 8 (.mv (c9 0))]
def m0g:List XO:=[O1 9 (.load true 5 (.tf 3)),O3 10 1,O3 11 2,O1 12 (.bsl 1 [.t 10,.t 11]),O1 13 (.call "newel/control.check" [.t 9,.t 12]),O3 8 13]
def m0h:List XO:=[O3 14 8,O1 15 (.bin .neq .no (.t 14) (c9 0))]
def m0i:List XO:=[O3 16 8,O1 6 (.mv (.c (.slice none 0 0))),O1 7 (.mv (.c (.bool false))),O3 8 16]
def m0j:List XO:=[O1 18 (.load true 5 (.tf 3)),O1 19 (.call "newel/control.of" [.t 18]),O3 20 1,O3 21 2,O1 22 (.call "(newel/control.plant).breach" [.t 19,.t 20,.t 21,(.f "newel/control.same")]),O3 17 22,O1 23 (.ext (.t 17) 0),O1 24 (.ext (.t 17) 1),O3 6 23,O3 7 24]
def m0k:List XO:=[O3 25 6,O3 26 7,O3 6 25,O3 7 26,O1 8 (.mv (c9 0))]
def x_control_Breach:XFunc:={ np:=3,res:=[.t 6,.t 7,.t 8],body :=
 (.seq (.reg m0f) (.seq (.seq (.reg m0g) (.seq (.reg m0h) (.cond (.t 15) (.seq (.reg m0i) .ret) .skip))) (.seq (.reg m0j) (.seq (.reg m0k) .ret)))) }
def M6i:List XO:=[O1 1 (.boxF (.t 0)),O1 2 (.mv (c9 0))]
def M6j:List XO:=[O1 5 (.fldA 3 (.tf 1)),O1 6 (.load false 1 (.tf 5)),O8 7 6,O1 8 (.bin .gtr .no (.t 7) (c9 256))]
def M6p:List XO:=[O1 2 (.mv (c9 90))]
def M6q:List XO:=[O1 3 (.mv (c9 0))]
def M6r:List XO:=[O3 9 3,O1 10 (.bin .lss .no (.t 9) (c9 3))]
def M6s:List XO:=[O3 13 3,O1 14 (.fldA 0 (.tf 1)),O1 15 (.ixP 1 3 (.t 14) (.t 13)),O1 16 (.load false 1 (.tf 15)),O1 17 (.call "newel/newelref09.within" [.t 16,(c9 1),(c9 8)]),O1 18 (.un .not (.t 17))]
def M6t:List XO:=[O1 2 (.mv (c9 90))]
def M6u:List XO:=[O3 11 3,O1 12 (.bin .add .no (.t 11) (c9 1)),O3 3 12]
def L9r:XCode :=
 (.seq (.seq (.reg M6r) (.cond (.t 10) .skip (.exit 0))) (.seq (.block 1 (.seq (.reg M6s) (.cond (.t 18) (.seq (.reg M6t) .ret) .skip))) (.reg M6u)))
def M6v:List XO:=[O1 4 (.mv (c9 0))]
def M6k:List XO:=[O3 19 4,O1 20 (.fldA 3 (.tf 1)),O1 21 (.load false 1 (.tf 20)),O8 22 21,O1 23 (.bin .lss .no (.t 19) (.t 22))]
def M6l:List XO:=[O1 26 (.load true 4 (.tf 1)),O1 27 (.fldA 3 (.tf 1)),O1 28 (.load false 1 (.tf 27)),O3 29 4,O7 30 3 28 29,O6 31 3 30,O1 32 (.call "newel/newelref09.inside" [.t 26,.t 31]),O1 33 (.un .not (.t 32))]
def M6m:List XO:=[O1 2 (.mv (c9 90))]
def M6n:List XO:=[O3 24 4,O1 25 (.bin .add .no (.t 24) (c9 1)),O3 4 25]
def L9q:XCode :=
 (.seq (.seq (.reg M6k) (.cond (.t 23) .skip (.exit 2))) (.seq (.block 3 (.seq (.reg M6l) (.cond (.t 33) (.seq (.reg M6m) .ret) .skip))) (.reg M6n)))
def M6o:List XO:=[O1 2 (.mv (c9 0))]
def x_r09_Check:XFunc:={ np:=1,res:=[.t 2],body :=
 (.seq (.reg M6i) (.seq (.seq (.reg M6j) (.cond (.t 8) (.seq (.reg M6p) .ret) .skip)) (.seq (.seq (.reg M6q) (.block 0 (.loop L9r))) (.seq (.seq (.reg M6v) (.block 2 (.loop L9q))) (.seq (.reg M6o) .ret))))) }
def M7s:List XO:=[O1 6 (.mv (.c (.bool false)))]
def M7t:List XO:=[O3 7 0,O3 8 1,O1 9 (.bin .geq .no (.t 7) (.t 8)),O3 10 9,O9 11 10 true (.mv (.t 0)),O9 12 10 true (.mv (.t 2)),O9 13 10 true (.bin .leq .no (.t 11) (.t 12)),O1 14 (.pick (.t 10) (.t 13) (.c (.bool false))),O3 6 14]
def x_r09_within:XFunc:={ np:=3,res:=[.t 6],body :=
 (.seq (.reg M7s) (.seq (.reg M7t) .ret)) }
def M64:List XO:=[O1 3 (.boxF (.t 0)),O1 4 (.boxF (.t 1)),O1 5 (.boxF (.t 2)),O1 6 (.mv (.c (.bool false)))]
def M65:List XO:=[O1 7 (.fldA 3 (.tf 5)),O1 8 (.load false 1 (.tf 7)),O1 9 (.call "newel/newelref09.within" [.t 8,(c9 0),(c9 5)]),O3 10 9,O9 11 10 true (.load true 4 (.tf 3)),O9 12 10 true (.fldA 0 (.tf 5)),O9 13 10 true (.load true 3 (.tf 12)),O9 14 10 true (.load true 3 (.tf 4)),O9 15 10 true (.fldA 3 (.tf 5)),O9 16 10 true (.load false 1 (.tf 15)),O9 17 10 true (.call "newel/newelref09.along" [.t 14,.t 16]),O9 18 10 true (.call "newel/newelref09.free" [.t 11,.t 13,.t 17]),O1 19 (.pick (.t 10) (.t 18) (.c (.bool false))),O3 6 19]
def x_r09_fits:XFunc:={ np:=3,res:=[.t 6],body :=
 (.seq (.reg M64) (.seq (.reg M65) .ret)) }
def M88:List XO:=[O1 2 (.boxF (.t 0)),O1 3 (.boxF (.t 1)),O1 4 (.mv (c9 0))]
def M89:List XO:=[O1 8 (.load true 4 (.tf 2)),O1 9 (.call "newel/shaft.Check" [.t 8]),O3 5 9]
def M9b:List XO:=[O3 10 5,O1 11 (.bin .neq .no (.t 10) (c9 0))]
def M9c:List XO:=[O3 12 5,O3 4 12]
def M9d:List XO:=[O1 13 (.load true 3 (.tf 3)),O1 14 (.mv (c9 0))]
def M9e:List XO:=[O1 15 (.bin .lss .no (.t 14) (c9 3))]
def M9f:List XO:=[O1 16 (.ixV 1 3 false (.t 13) (.t 14)),O3 7 16]
def M9g:List XO:=[O3 17 7,O1 18 (.bin .lss .no (.t 17) (c9 1)),O3 19 18,O9 20 19 false (.mv (.t 7)),O9 21 19 false (.bin .gtr .no (.t 20) (c9 8)),O1 22 (.pick (.t 19) (.c (.bool true)) (.t 21))]
def M9h:List XO:=[O1 4 (.mv (c9 91))]
def M9i:List XO:=[O1 23 (.bin .add .no (.t 14) (c9 1)),O3 14 23]
def L9z:XCode :=
 (.seq (.reg M9e) (.seq (.cond (.t 15) .skip (.exit 0)) (.seq (.block 1 (.seq (.reg M9f) (.seq (.reg M9g) (.cond (.t 22) (.seq (.reg M9h) .ret) .skip)))) (.reg M9i))))
def M9a:List XO:=[O1 4 (.mv (c9 0))]
def x_shaft_check:XFunc:={ np:=2,res:=[.t 4],body :=
 (.seq (.reg M88) (.seq (.seq (.reg M89) (.seq (.reg M9b) (.cond (.t 11) (.seq (.reg M9c) .ret) .skip))) (.seq (.seq (.reg M9d) (.block 0 (.loop L9z))) (.seq (.reg M9a) .ret)))) }
def M80:List XO:=[O1 2 (.box (.t 0)),O1 3 (.box (.t 1)),O1 4 (.mv (.c (.pointer none)))]
def M81:List XO:=[O5 8 0 2,O6 9 3 8,O6 10 3 3,O1 11 (.callw "#mk" []),O1 12 (.build [(.int .i64 0),(.int .i64 0),(.int .i64 0),(.int .i64 0),(.int .i64 0),(.int .i64 0),(.map none)] [(0,3,(.t 9)),(3,3,(.t 10)),(6,1,(.t 11))]),O1 13 (.box (.t 12)),O3 5 13]
def M82:List XO:=[O5 14 3 2,O4 15 1 14,O8 16 15,O1 17 (.mv (c9 0))]
def M83:List XO:=[O1 18 (.bin .lss .no (.t 17) (.t 16))]
def M84:List XO:=[O7 19 3 15 17,O6 20 3 19,O1 7 (.alloc [(.int .i64 0),(.int .i64 0),(.int .i64 0)]),O2 (.store 3 (.t 7) (.t 20))]
def M85:List XO:=[O3 21 5,O1 22 (.nilck (.t 21)),O5 23 6 22,O4 24 1 23,O6 25 3 7,O1 26 (.build [] []),O2 (.callw "#pi" [.t 24,.t 25,.t 26,(c9 3)])]
def M86:List XO:=[O1 27 (.bin .add .no (.t 17) (c9 1)),O3 17 27]
def L9y:XCode :=
 (.seq (.reg M83) (.seq (.cond (.t 18) .skip (.exit 0)) (.seq (.block 1 (.seq (.reg M84) (.reg M85))) (.reg M86))))
def M87:List XO:=[O3 28 5,O3 4 28]
def x_shaft_begin:XFunc:={ np:=2,res:=[.t 4],body :=
 (.seq (.reg M80) (.seq (.reg M81) (.seq (.seq (.reg M82) (.block 0 (.loop L9y))) (.seq (.reg M87) .ret)))) }
def M3n:List XO:=[O1 3 (.boxF (.t 1)),O1 4 (.mv (.c (.bool false)))]
def M3o:List XO:=[O1 5 (.fldA 3 (.tf 3)),O1 6 (.load false 1 (.tf 5)),O1 7 (.bin .geq .no (.t 6) (c9 0)),O3 8 7,O9 9 8 true (.fldA 3 (.tf 3)),O9 10 8 true (.load false 1 (.tf 9)),O9 11 8 true (.bin .lss .no (.t 10) (c9 6)),O1 12 (.pick (.t 8) (.t 11) (.c (.bool false))),O3 13 12,O9 14 13 true (.mv (.t 0)),O9 15 13 true (.fldA 0 (.tf 3)),O9 16 13 true (.load true 3 (.tf 15)),O9 17 13 true (.mv (.t 0)),O9 18 13 true (.fldA 3 (.tf 3)),O9 19 13 true (.load false 1 (.tf 18)),O9 20 13 true (.call "(*newel/shaft.crate).long" [.t 17,.t 19]),O9 21 13 true (.call "(*newel/shaft.crate).free" [.t 14,.t 16,.t 20]),O1 22 (.pick (.t 13) (.t 21) (.c (.bool false))),O3 4 22]
def x___shaft_crate__fits:XFunc:={ np:=2,res:=[.t 4],body :=
 (.seq (.reg M3n) (.seq (.reg M3o) .ret)) }
def M4g:List XO:=[O1 4 (.box (.t 1)),O1 6 (.alloc [(.int .i64 0),(.int .i64 0),(.int .i64 0),(.int .i64 0)]),O1 7 (.mv (.c (.bool false)))]
def M4h:List XO:=[O3 15 2,O1 16 (.bin .lss .no (.t 15) (c9 6))]
def M4n:List XO:=[O3 17 2,O1 18 (.bin .quo .no (.t 17) (c9 2)),O5 19 0 4,O1 20 (.ixP 1 3 (.t 19) (.t 18)),O4 21 1 20,O3 22 2,O1 23 (.bin .rem .no (.t 22) (c9 2)),O1 24 (.bin .mul .no (c9 2) (.t 23)),O1 25 (.bin .sub .no (c9 1) (.t 24)),O1 26 (.bin .add .no (.t 21) (.t 25)),O5 27 0 4,O1 28 (.ixP 1 3 (.t 27) (.t 18)),O2 (.store 1 (.t 28) (.t 26))]
def M4o:List XO:=[O6 29 4 4,O3 30 0,O6 31 4 4,O1 32 (.call "(*newel/shaft.crate).fits" [.t 30,.t 31]),O2 (.store 4 (.t 6) (.t 29)),O3 7 32]
def M4p:List XO:=[O5 33 3 4,O4 34 1 33,O1 35 (.ixP 3 6 (.g 0 b6h) (.t 34)),O6 36 3 35,O1 8 (.alloc [(.int .i64 0),(.int .i64 0),(.int .i64 0)]),O2 (.store 3 (.t 8) (.t 36))]
def M4q:List XO:=[O3 37 2,O1 38 (.bin .sub .no (.t 37) (c9 6)),O1 39 (.ixP 2 3 (.g 1 u0n) (.t 38)),O1 40 (.ixP 1 2 (.t 39) (c9 0)),O4 41 1 40,O3 42 2,O1 43 (.bin .sub .no (.t 42) (c9 6)),O1 44 (.ixP 2 3 (.g 1 u0n) (.t 43)),O1 45 (.ixP 1 2 (.t 44) (c9 1)),O4 46 1 45,O3 9 41,O3 10 46]
def M4r:List XO:=[O3 47 9,O3 48 10,O3 49 10,O1 50 (.ixP 1 3 (.t 8) (.t 49)),O4 51 1 50,O3 52 9,O1 53 (.ixP 1 3 (.t 8) (.t 52)),O4 54 1 53,O1 55 (.ixP 1 3 (.t 8) (.t 47)),O2 (.store 1 (.t 55) (.t 51)),O1 56 (.ixP 1 3 (.t 8) (.t 48)),O2 (.store 1 (.t 56) (.t 54))]
def M4s:List XO:=[O5 57 0 4,O6 58 3 57,O1 59 (.mv (.gs 0 3 6 b6h)),O6 60 3 8,O1 61 (.call "slices.Index[[][3]int,[3]int]" [.t 59,.t 60]),O1 62 (.build [(.int .i64 0),(.int .i64 0),(.int .i64 0),(.int .i64 0)] [(0,3,(.t 58)),(3,1,(.t 61))]),O1 11 (.alloc [(.int .i64 0),(.int .i64 0),(.int .i64 0),(.int .i64 0)]),O2 (.store 4 (.t 11) (.t 62))]
def M4t:List XO:=[O3 63 0,O5 64 3 11,O4 65 1 64,O1 66 (.call "(*newel/shaft.crate).long" [.t 63,.t 65]),O3 67 0,O5 68 3 4,O4 69 1 68,O1 70 (.call "(*newel/shaft.crate).long" [.t 67,.t 69]),O1 12 (.alloc [(.int .i64 0),(.int .i64 0),(.int .i64 0)]),O1 13 (.alloc [(.int .i64 0),(.int .i64 0),(.int .i64 0)]),O2 (.store 3 (.t 12) (.t 66)),O2 (.store 3 (.t 13) (.t 70))]
def M4u:List XO:=[O1 71 (.mv (c9 0))]
def M4i:List XO:=[O1 72 (.bin .lss .no (.t 71) (c9 3))]
def M4j:List XO:=[O3 73 71,O3 14 73]
def M4k:List XO:=[O3 74 14,O3 75 14,O1 76 (.ixP 1 3 (.t 12) (.t 75)),O4 77 1 76,O3 78 14,O1 79 (.ixP 1 3 (.t 13) (.t 78)),O4 80 1 79,O1 81 (.max [.t 77,.t 80]),O1 82 (.ixP 1 3 (.t 12) (.t 74)),O2 (.store 1 (.t 82) (.t 81))]
def M4l:List XO:=[O1 83 (.bin .add .no (.t 71) (c9 1)),O3 71 83]
def L9k:XCode :=
 (.seq (.reg M4i) (.seq (.cond (.t 72) .skip (.exit 0)) (.seq (.block 1 (.seq (.reg M4j) (.reg M4k))) (.reg M4l))))
def M4m:List XO:=[O6 84 4 11,O3 85 0,O5 86 0 4,O6 87 3 86,O6 88 3 12,O1 89 (.call "(*newel/shaft.crate).free" [.t 85,.t 87,.t 88]),O2 (.store 4 (.t 6) (.t 84)),O3 7 89]
def x___shaft_crate__move:XFunc:={ np:=3,res:=[.cell 6 true 4,.t 7],body :=
 (.seq (.reg M4g) (.seq (.seq (.reg M4h) (.cond (.t 16) (.seq (.reg M4n) (.seq (.reg M4o) .ret)) .skip)) (.seq (.reg M4p) (.seq (.reg M4q) (.seq (.reg M4r) (.seq (.reg M4s) (.seq (.reg M4t) (.seq (.seq (.reg M4u) (.block 0 (.loop L9k))) (.seq (.reg M4m) .ret))))))))) }
def M22:List XO:=[O1 4 (.boxF (.t 1)),O1 5 (.boxF (.t 2)),O1 6 (.mv (.c (.slice none 0 0))),O1 7 (.mv (.c (.bool false)))]
def M23:List XO:=[O1 20 (.callw "#mk" []),O1 21 (.load true 4 (.tf 4)),O1 22 (.load true 4 (.tf 4)),O1 23 (.build [(.int .i64 0),(.int .i64 0),(.int .i64 0),(.int .i64 0),(.int .i64 0)] [(0,4,(.t 22)),(4,1,(.c (.int .i64 (-1))))]),O2 (.callw "#pi" [.t 20,.t 21,.t 23,(c9 4)]),O3 24 20,O3 8 24]
def M29:List XO:=[O1 25 (.load true 4 (.tf 4)),O1 26 (.bsl 4 [.t 25]),O3 9 26]
def M3j:List XO:=[O1 10 (.mv (c9 0))]
def M3k:List XO:=[O3 27 10,O3 28 9,O8 29 28,O1 30 (.bin .lss .no (.t 27) (.t 29)),O3 31 30,O9 32 31 true (.mv (.t 9)),O9 33 31 true (.mv (.t 10)),O9 34 31 true (.ixA 4 (.t 32) (.t 33)),O9 35 31 true (.load true 4 (.t 34)),O9 36 31 true (.load true 4 (.tf 5)),O9 37 31 true (.bin .neq (.flat [.i,.i,.i,.i]) (.t 35) (.t 36)),O1 38 (.pick (.t 31) (.t 37) (.c (.bool false)))]
def M3l:List XO:=[O1 41 (.mv (c9 0))]
def M3m:List XO:=[O1 42 (.bin .lss .no (.t 41) (c9 9))]
def L9g:List XO:=[O3 43 41,O3 11 43]
def L9h:List XO:=[O3 45 0,O3 46 9,O3 47 10,O7 48 4 46 47,O6 49 4 48,O3 50 11,O1 51 (.call "(*newel/shaft.crate).move" [.t 45,.t 49,.t 50]),O3 44 51,O1 52 (.ext (.t 44) 0),O1 53 (.ext (.t 44) 1),O1 12 (.alloc [(.int .i64 0),(.int .i64 0),(.int .i64 0),(.int .i64 0)]),O2 (.store 4 (.t 12) (.t 52)),O3 13 53]
def L9i:List XO:=[O3 55 8,O6 56 4 12,O1 57 (.callw "#lj" [.t 55,.t 56,(.c (.agg #[(.int .i64 0),(.int .i64 0),(.int .i64 0),(.int .i64 0),(.int .i64 0)])),(c9 4)]),O3 54 57,O1 58 (.ext (.t 54) 0),O1 59 (.ext (.t 54) 1),O1 14 (.alloc [(.int .i64 0),(.int .i64 0),(.int .i64 0),(.int .i64 0),(.int .i64 0)]),O2 (.store 5 (.t 14) (.t 58)),O3 15 59]
def L9d:List XO:=[O3 60 13,O3 61 60,O9 62 61 true (.mv (.t 15)),O9 63 61 true (.un .not (.t 62)),O1 64 (.pick (.t 61) (.t 63) (.c (.bool false)))]
def L9e:List XO:=[O3 65 8,O6 66 4 12,O3 67 9,O3 68 10,O7 69 4 67 68,O6 70 4 69,O3 71 11,O1 72 (.build [(.int .i64 0),(.int .i64 0),(.int .i64 0),(.int .i64 0),(.int .i64 0)] [(0,4,(.t 70)),(4,1,(.t 71))]),O2 (.callw "#pi" [.t 65,.t 66,.t 72,(c9 4)])]
def L9f:List XO:=[O3 73 9,O6 74 4 12,O1 75 (.bsl 4 [.t 74]),O1 76 (.app 4 32 (.t 73) (.t 75)),O3 9 76]
def M24:List XO:=[O1 77 (.bin .add .no (.t 41) (c9 1)),O3 41 77]
def L72:XCode :=
 (.seq (.reg M3m) (.seq (.cond (.t 42) .skip (.exit 2)) (.seq (.block 3 (.seq (.reg L9g) (.seq (.reg L9h) (.seq (.reg L9i) (.seq (.reg L9d) (.cond (.t 64) (.seq (.reg L9e) (.reg L9f)) .skip)))))) (.reg M24))))
def M25:List XO:=[O3 39 10,O1 40 (.bin .add .no (.t 39) (c9 1)),O3 10 40]
def L73:XCode :=
 (.seq (.seq (.reg M3k) (.cond (.t 38) .skip (.exit 0))) (.seq (.block 1 (.seq (.reg M3l) (.block 2 (.loop L72)))) (.reg M25)))
def M26:List XO:=[O3 79 8,O1 80 (.load true 4 (.tf 5)),O1 81 (.callw "#lj" [.t 79,.t 80,(.c (.agg #[(.int .i64 0),(.int .i64 0),(.int .i64 0),(.int .i64 0),(.int .i64 0)])),(c9 4)]),O3 78 81,O1 82 (.ext (.t 78) 0),O1 83 (.ext (.t 78) 1),O1 16 (.alloc [(.int .i64 0),(.int .i64 0),(.int .i64 0),(.int .i64 0),(.int .i64 0)]),O2 (.store 5 (.t 16) (.t 82)),O3 17 83]
def M27:List XO:=[O3 84 17,O1 85 (.un .not (.t 84))]
def M28:List XO:=[O1 6 (.mv (.c (.slice none 0 0))),O1 7 (.mv (.c (.bool false)))]
def M3a:List XO:=[O1 18 (.mv (.c (.slice none 0 0)))]
def M3b:List XO:=[O1 86 (.load true 4 (.tf 5)),O1 19 (.alloc [(.int .i64 0),(.int .i64 0),(.int .i64 0),(.int .i64 0)]),O2 (.store 4 (.t 19) (.t 86))]
def M3c:List XO:=[O6 87 4 19,O1 88 (.load true 4 (.tf 4)),O1 89 (.bin .neq (.flat [.i,.i,.i,.i]) (.t 87) (.t 88))]
def M3d:List XO:=[O3 94 18,O3 95 8,O6 96 4 19,O1 97 (.callw "#li" [.t 95,.t 96,(.c (.agg #[(.int .i64 0),(.int .i64 0),(.int .i64 0),(.int .i64 0),(.int .i64 0)])),(c9 4)]),O1 98 (.fld false 1 4 (.t 97)),O1 99 (.bsl 1 [.t 98]),O1 100 (.app 1 8 (.t 94) (.t 99)),O3 18 100]
def M3e:List XO:=[O6 101 4 19]
def M3f:List XO:=[O1 19 (.alloc [(.int .i64 0),(.int .i64 0),(.int .i64 0),(.int .i64 0)]),O2 (.store 4 (.t 19) (.t 101))]
def M3g:List XO:=[O3 90 8,O6 91 4 19,O1 92 (.callw "#li" [.t 90,.t 91,(.c (.agg #[(.int .i64 0),(.int .i64 0),(.int .i64 0),(.int .i64 0),(.int .i64 0)])),(c9 4)]),O1 93 (.fld true 4 0 (.t 92)),O2 (.store 4 (.t 19) (.t 93))]
def L74:XCode :=
 (.seq (.seq (.reg M3c) (.cond (.t 89) .skip (.exit 4))) (.seq (.block 5 (.reg M3d)) (.seq (.seq (.reg M3e) (.reg M3f)) (.reg M3g))))
def M3h:List XO:=[O3 102 18,O1 103 (.callw "slices.Reverse[[]int,int]" [.t 102])]
def M3i:List XO:=[O3 104 18,O3 6 104,O1 7 (.mv (.c (.bool true)))]
def x___shaft_crate__carry:XFunc:={ np:=3,res:=[.t 6,.t 7],body :=
 (.seq (.reg M22) (.seq (.reg M23) (.seq (.reg M29) (.seq (.seq (.reg M3j) (.block 0 (.loop L73))) (.seq (.seq (.reg M26) (.seq (.reg M27) (.cond (.t 85) (.seq (.reg M28) .ret) .skip))) (.seq (.reg M3a) (.seq (.seq (.reg M3b) (.block 4 (.loop L74))) (.seq (.reg M3h) (.seq (.reg M3i) .ret))))))))) }
def m2o:List XO:=[O1 2 (.boxF (.t 0)),O1 4 (.mv (c9 0))]
def m2p:List XO:=[O1 8 (.load true 5 (.tf 2)),O1 9 (.call "newel/control.Check" [.t 8]),O3 5 9]
def m2r:List XO:=[O3 10 5,O1 11 (.bin .neq .no (.t 10) (c9 0))]
def m2s:List XO:=[O3 12 5,O3 4 12]
def m2t:List XO:=[O3 13 1,O8 14 13,O1 15 (.mv (c9 0))]
def m2u:List XO:=[O1 16 (.bin .lss .no (.t 15) (.t 14))]
def m2v:List XO:=[O7 17 1 13 15,O4 18 1 17,O3 7 18]
def m2w:List XO:=[O1 19 (.load true 5 (.tf 2)),O3 20 7,O1 21 (.call "newel/situation.Asked" [.t 19,.t 20]),O1 22 (.un .not (.t 21))]
def m2x:List XO:=[O1 4 (.mv (c9 42))]
def m2y:List XO:=[O1 23 (.bin .add .no (.t 15) (c9 1)),O3 15 23]
def g4b:XCode :=
 (.seq (.reg m2u) (.seq (.cond (.t 16) .skip (.exit 0)) (.seq (.block 1 (.seq (.reg m2v) (.seq (.reg m2w) (.cond (.t 22) (.seq (.reg m2x) .ret) .skip)))) (.reg m2y))))
def m2q:List XO:=[O1 4 (.mv (c9 0))]
def x_control_check:XFunc:={ np:=2,res:=[.t 4],body :=
 (.seq (.reg m2o) (.seq (.seq (.reg m2p) (.seq (.reg m2r) (.cond (.t 11) (.seq (.reg m2s) .ret) .skip))) (.seq (.seq (.reg m2t) (.block 0 (.loop g4b))) (.seq (.reg m2q) .ret)))) }
def m2z:List XO:=[O1 1 (.boxF (.t 0)),O1 2 (.alloc [(.slice none 0 0),(.slice none 0 0),(.slice none 0 0),(.slice none 0 0),(.slice none 0 0)])]
def m20:List XO:=[O1 3 (.load true 5 (.tf 1)),O1 4 (.build [(.slice none 0 0),(.slice none 0 0),(.slice none 0 0),(.slice none 0 0),(.slice none 0 0)] [(0,5,(.t 3))]),O1 5 (.build [(.slice none 0 0),(.slice none 0 0),(.slice none 0 0),(.slice none 0 0),(.slice none 0 0)] [(0,5,(.t 4))]),O2 (.store 5 (.t 2) (.t 5))]
def x_control_of:XFunc:={ np:=1,res:=[.cell 2 true 5],body :=
 (.seq (.reg m2z) (.seq (.reg m20) .ret)) }
def J4x:List XO:=[O1 4 (.boxF (.t 0)),O1 6 (.boxF (.t 2)),O1 8 (.mv (.c (.slice none 0 0))),O1 9 (.mv (.c (.bool false)))]
def l75:List XO:=[O1 11 (.load true 5 (.tf 4)),O3 12 1,O3 13 3,O1 14 (.call "(newel/control.plant).explore" [.t 11,.t 12,.t 13]),O1 10 (.alloc [(.pointer none)]),O2 (.store 1 (.t 10) (.t 14))]
def l76:List XO:=[O4 15 1 10,O1 16 (.mkfn "(newel/control.plant).breach$1" [] [.t 4,.t 6,.t 10]),O1 17 (.call "(*newel/control.walk).first" [.t 15,.t 16]),O1 18 (.ext (.t 17) 0),O1 19 (.ext (.t 17) 1),O3 8 18,O3 9 19]
def x__control_plant__breach:XFunc:={ np:=4,res:=[.t 8,.t 9],body :=
 (.seq (.reg J4x) (.seq (.reg l75) (.seq (.seq .ghost (.reg l76)) .ret))) }
def m21:List XO:=[O1 2 (.mv (c9 0))]
def m22:List XO:=[O3 3 0,O3 2 3]
def x_control_same:XFunc:={ np:=1,res:=[.t 2],body :=
 (.seq (.reg m21) (.seq (.reg m22) .ret)) }
def M7j:List XO:=[O1 2 (.boxF (.t 0)),O1 3 (.boxF (.t 1)),O1 4 (.mv (.c (.bool false)))]
def M7k:List XO:=[O1 5 (.mv (c9 0))]
def M7l:List XO:=[O3 6 5,O1 7 (.bin .lss .no (.t 6) (c9 3))]
def M7m:List XO:=[O3 10 5,O1 11 (.ixP 1 3 (.t 3) (.t 10)),O1 12 (.load false 1 (.tf 11)),O3 13 5,O1 14 (.fldA 0 (.tf 2)),O1 15 (.ixP 1 3 (.t 14) (.t 13)),O1 16 (.load false 1 (.tf 15)),O1 17 (.bin .sub .no (.t 16) (c9 1)),O1 18 (.call "newel/newelref09.within" [.t 12,(c9 0),.t 17]),O1 19 (.un .not (.t 18))]
def M7n:List XO:=[O1 4 (.mv (.c (.bool false)))]
def M7o:List XO:=[O3 8 5,O1 9 (.bin .add .no (.t 8) (c9 1)),O3 5 9]
def L9u:XCode :=
 (.seq (.seq (.reg M7l) (.cond (.t 7) .skip (.exit 0))) (.seq (.block 1 (.seq (.reg M7m) (.cond (.t 19) (.seq (.reg M7n) .ret) .skip))) (.reg M7o)))
def M7p:List XO:=[O1 4 (.mv (.c (.bool true)))]
def x_r09_inside:XFunc:={ np:=2,res:=[.t 4],body :=
 (.seq (.reg M7j) (.seq (.seq (.reg M7k) (.block 0 (.loop L9u))) (.seq (.reg M7p) .ret))) }
def M66:List XO:=[O1 3 (.boxF (.t 0)),O1 4 (.boxF (.t 1)),O1 5 (.boxF (.t 2)),O1 6 (.mv (.c (.bool false)))]
def M67:List XO:=[O1 7 (.mv (c9 0))]
def M7c:List XO:=[O3 10 7,O1 11 (.bin .lss .no (.t 10) (c9 3))]
def M7d:List XO:=[O3 14 7,O1 15 (.ixP 1 3 (.t 4) (.t 14)),O1 16 (.load false 1 (.tf 15)),O1 17 (.bin .lss .no (.t 16) (c9 0)),O3 18 17,O9 19 18 false (.mv (.t 7)),O9 20 18 false (.ixP 1 3 (.t 4) (.t 19)),O9 21 18 false (.load false 1 (.tf 20)),O9 22 18 false (.bin .gtr .no (.t 21) (c9 8)),O1 23 (.pick (.t 18) (.c (.bool true)) (.t 22)),O3 24 23,O9 25 24 false (.mv (.t 7)),O9 26 24 false (.ixP 1 3 (.t 4) (.t 25)),O9 27 24 false (.load false 1 (.tf 26)),O9 28 24 false (.mv (.t 7)),O9 29 24 false (.ixP 1 3 (.t 5) (.t 28)),O9 30 24 false (.load false 1 (.tf 29)),O9 31 24 false (.bin .add .no (.t 27) (.t 30)),O9 32 24 false (.mv (.t 7)),O9 33 24 false (.fldA 0 (.tf 3)),O9 34 24 false (.ixP 1 3 (.t 33) (.t 32)),O9 35 24 false (.load false 1 (.tf 34)),O9 36 24 false (.bin .gtr .no (.t 31) (.t 35)),O1 37 (.pick (.t 24) (.c (.bool true)) (.t 36))]
def M7e:List XO:=[O1 6 (.mv (.c (.bool false)))]
def M7f:List XO:=[O3 12 7,O1 13 (.bin .add .no (.t 12) (c9 1)),O3 7 13]
def L9t:XCode :=
 (.seq (.seq (.reg M7c) (.cond (.t 11) .skip (.exit 0))) (.seq (.block 1 (.seq (.reg M7d) (.cond (.t 37) (.seq (.reg M7e) .ret) .skip))) (.reg M7f)))
def M7g:List XO:=[O1 8 (.mv (c9 0))]
def M7h:List XO:=[O3 38 8,O1 39 (.fldA 3 (.tf 3)),O1 40 (.load false 1 (.tf 39)),O8 41 40,O1 42 (.bin .lss .no (.t 38) (.t 41))]
def M7i:List XO:=[O1 45 (.fldA 3 (.tf 3)),O1 46 (.load false 1 (.tf 45)),O3 47 8,O7 48 3 46 47,O6 49 3 48,O1 9 (.alloc [(.int .i64 0),(.int .i64 0),(.int .i64 0)]),O2 (.store 3 (.t 9) (.t 49))]
def M68:List XO:=[O1 50 (.ixP 1 3 (.t 9) (c9 0)),O4 51 1 50,O1 52 (.ixP 1 3 (.t 4) (c9 0)),O1 53 (.load false 1 (.tf 52)),O1 54 (.bin .geq .no (.t 51) (.t 53)),O3 55 54,O9 56 55 true (.ixP 1 3 (.t 9) (c9 0)),O9 57 55 true (.load false 1 (.t 56)),O9 58 55 true (.ixP 1 3 (.t 4) (c9 0)),O9 59 55 true (.load false 1 (.tf 58)),O9 60 55 true (.ixP 1 3 (.t 5) (c9 0)),O9 61 55 true (.load false 1 (.tf 60)),O9 62 55 true (.bin .add .no (.t 59) (.t 61)),O9 63 55 true (.bin .lss .no (.t 57) (.t 62)),O1 64 (.pick (.t 55) (.t 63) (.c (.bool false))),O3 65 64,O9 66 65 true (.ixP 1 3 (.t 9) (c9 1)),O9 67 65 true (.load false 1 (.t 66)),O9 68 65 true (.ixP 1 3 (.t 4) (c9 1)),O9 69 65 true (.load false 1 (.tf 68)),O9 70 65 true (.bin .geq .no (.t 67) (.t 69)),O1 71 (.pick (.t 65) (.t 70) (.c (.bool false))),O3 72 71,O9 73 72 true (.ixP 1 3 (.t 9) (c9 1)),O9 74 72 true (.load false 1 (.t 73)),O9 75 72 true (.ixP 1 3 (.t 4) (c9 1)),O9 76 72 true (.load false 1 (.tf 75)),O9 77 72 true (.ixP 1 3 (.t 5) (c9 1)),O9 78 72 true (.load false 1 (.tf 77)),O9 79 72 true (.bin .add .no (.t 76) (.t 78)),O9 80 72 true (.bin .lss .no (.t 74) (.t 79)),O1 81 (.pick (.t 72) (.t 80) (.c (.bool false))),O3 82 81,O9 83 82 true (.ixP 1 3 (.t 9) (c9 2)),O9 84 82 true (.load false 1 (.t 83)),O9 85 82 true (.ixP 1 3 (.t 4) (c9 2)),O9 86 82 true (.load false 1 (.tf 85)),O9 87 82 true (.bin .geq .no (.t 84) (.t 86)),O1 88 (.pick (.t 82) (.t 87) (.c (.bool false))),O3 89 88,O9 90 89 true (.ixP 1 3 (.t 9) (c9 2)),O9 91 89 true (.load false 1 (.t 90)),O9 92 89 true (.ixP 1 3 (.t 4) (c9 2)),O9 93 89 true (.load false 1 (.tf 92)),O9 94 89 true (.ixP 1 3 (.t 5) (c9 2)),O9 95 89 true (.load false 1 (.tf 94)),O9 96 89 true (.bin .add .no (.t 93) (.t 95)),O9 97 89 true (.bin .lss .no (.t 91) (.t 96)),O1 98 (.pick (.t 89) (.t 97) (.c (.bool false)))]
def M69:List XO:=[O1 6 (.mv (.c (.bool false)))]
def M7a:List XO:=[O3 43 8,O1 44 (.bin .add .no (.t 43) (c9 1)),O3 8 44]
def L9s:XCode :=
 (.seq (.seq (.reg M7h) (.cond (.t 42) .skip (.exit 2))) (.seq (.block 3 (.seq (.reg M7i) (.seq (.reg M68) (.cond (.t 98) (.seq (.reg M69) .ret) .skip)))) (.reg M7a)))
def M7b:List XO:=[O1 6 (.mv (.c (.bool true)))]
def x_r09_free:XFunc:={ np:=3,res:=[.t 6],body :=
 (.seq (.reg M66) (.seq (.seq (.reg M67) (.block 0 (.loop L9t))) (.seq (.seq (.reg M7g) (.block 2 (.loop L9s))) (.seq (.reg M7b) .ret)))) }
def M61:List XO:=[O1 2 (.boxF (.t 0)),O1 4 (.alloc [(.int .i64 0),(.int .i64 0),(.int .i64 0)])]
def M62:List XO:=[O1 6 (.call "newel/newelref09.orders" []),O3 7 1,O1 8 (.ixV 3 6 true (.t 6) (.t 7)),O1 5 (.alloc [(.int .i64 0),(.int .i64 0),(.int .i64 0)]),O2 (.store 3 (.t 5) (.t 8))]
def M63:List XO:=[O1 9 (.ixP 1 3 (.t 5) (c9 0)),O4 10 1 9,O1 11 (.ixP 1 3 (.t 2) (.t 10)),O1 12 (.load false 1 (.tf 11)),O1 13 (.ixP 1 3 (.t 5) (c9 1)),O4 14 1 13,O1 15 (.ixP 1 3 (.t 2) (.t 14)),O1 16 (.load false 1 (.tf 15)),O1 17 (.ixP 1 3 (.t 5) (c9 2)),O4 18 1 17,O1 19 (.ixP 1 3 (.t 2) (.t 18)),O1 20 (.load false 1 (.tf 19)),O1 21 (.build [(.int .i64 0),(.int .i64 0),(.int .i64 0)] [(0,1,(.t 12)),(1,1,(.t 16)),(2,1,(.t 20))]),O2 (.store 3 (.t 4) (.t 21))]
def x_r09_along:XFunc:={ np:=2,res:=[.cell 4 true 3],body :=
 (.seq (.reg M61) (.seq (.reg M62) (.seq (.reg M63) .ret))) }
def M75:List XO:=[O1 1 (.boxF (.t 0)),O1 2 (.mv (c9 0))]
def M76:List XO:=[O1 9 (.fldA 0 (.tf 1)),O1 10 (.load true 3 (.tf 9)),O1 11 (.mv (c9 0))]
def M8g:List XO:=[O1 12 (.bin .lss .no (.t 11) (c9 3))]
def M8j:List XO:=[O1 13 (.ixV 1 3 false (.t 10) (.t 11)),O3 4 13]
def M8k:List XO:=[O3 14 4,O1 15 (.bin .lss .no (.t 14) (c9 1)),O3 16 15,O9 17 16 false (.mv (.t 4)),O9 18 16 false (.bin .gtr .no (.t 17) (c9 8)),O1 19 (.pick (.t 16) (.c (.bool true)) (.t 18))]
def M8l:List XO:=[O1 2 (.mv (c9 90))]
def M8m:List XO:=[O1 20 (.bin .add .no (.t 11) (c9 1)),O3 11 20]
def L9x:XCode :=
 (.seq (.reg M8g) (.seq (.cond (.t 12) .skip (.exit 0)) (.seq (.block 1 (.seq (.reg M8j) (.seq (.reg M8k) (.cond (.t 19) (.seq (.reg M8l) .ret) .skip)))) (.reg M8m))))
def M8n:List XO:=[O1 21 (.fldA 3 (.tf 1)),O1 22 (.load false 1 (.tf 21)),O8 23 22,O1 24 (.bin .gtr .no (.t 23) (c9 256))]
def M8o:List XO:=[O1 2 (.mv (c9 90))]
def M77:List XO:=[O1 25 (.fldA 3 (.tf 1)),O1 26 (.load false 1 (.tf 25)),O8 27 26,O1 28 (.mv (c9 0))]
def M78:List XO:=[O1 29 (.bin .lss .no (.t 28) (.t 27))]
def M79:List XO:=[O7 30 3 26 28,O6 31 3 30,O1 6 (.alloc [(.int .i64 0),(.int .i64 0),(.int .i64 0)]),O2 (.store 3 (.t 6) (.t 31))]
def M8a:List XO:=[O6 32 3 6,O1 33 (.mv (c9 0))]
def M8b:List XO:=[O1 34 (.bin .lss .no (.t 33) (c9 3))]
def M8c:List XO:=[O3 35 33,O1 36 (.ixV 1 3 false (.t 32) (.t 33)),O3 7 35,O3 8 36]
def M8d:List XO:=[O3 37 8,O1 38 (.bin .lss .no (.t 37) (c9 0)),O3 39 38,O9 40 39 false (.mv (.t 8)),O9 41 39 false (.mv (.t 7)),O9 42 39 false (.fldA 0 (.tf 1)),O9 43 39 false (.ixP 1 3 (.t 42) (.t 41)),O9 44 39 false (.load false 1 (.tf 43)),O9 45 39 false (.bin .geq .no (.t 40) (.t 44)),O1 46 (.pick (.t 39) (.c (.bool true)) (.t 45))]
def M8e:List XO:=[O1 2 (.mv (c9 90))]
def M8f:List XO:=[O1 47 (.bin .add .no (.t 33) (c9 1)),O3 33 47]
def L9v:XCode :=
 (.seq (.reg M8b) (.seq (.cond (.t 34) .skip (.exit 4)) (.seq (.block 5 (.seq (.reg M8c) (.seq (.reg M8d) (.cond (.t 46) (.seq (.reg M8e) .ret) .skip)))) (.reg M8f))))
def M8h:List XO:=[O1 48 (.bin .add .no (.t 28) (c9 1)),O3 28 48]
def L9w:XCode :=
 (.seq (.reg M78) (.seq (.cond (.t 29) .skip (.exit 2)) (.seq (.block 3 (.seq (.reg M79) (.seq (.reg M8a) (.block 4 (.loop L9v))))) (.reg M8h))))
def M8i:List XO:=[O1 2 (.mv (c9 0))]
def x_shaft_Check:XFunc:={ np:=1,res:=[.t 2],body :=
 (.seq (.reg M75) (.seq (.seq (.reg M76) (.block 0 (.loop L9x))) (.seq (.seq (.reg M8n) (.cond (.t 24) (.seq (.reg M8o) .ret) .skip)) (.seq (.seq (.reg M77) (.block 2 (.loop L9w))) (.seq (.reg M8i) .ret))))) }
def M3p:List XO:=[O1 4 (.boxF (.t 1)),O1 5 (.boxF (.t 2)),O1 6 (.mv (.c (.bool false)))]
def M3q:List XO:=[O1 13 (.mv (c9 0))]
def M30:List XO:=[O1 14 (.bin .lss .no (.t 13) (c9 3))]
def M33:List XO:=[O3 15 13,O3 7 15]
def M34:List XO:=[O3 16 7,O1 17 (.ixP 1 3 (.t 4) (.t 16)),O1 18 (.load false 1 (.tf 17)),O1 19 (.bin .lss .no (.t 18) (c9 0)),O3 20 19,O9 21 20 false (.mv (.t 7)),O9 22 20 false (.ixP 1 3 (.t 4) (.t 21)),O9 23 20 false (.load false 1 (.tf 22)),O9 24 20 false (.mv (.t 0)),O9 25 20 false (.mv (.t 7)),O9 26 20 false (.nilck (.t 24)),O9 27 20 false (.fldA 0 (.t 26)),O9 28 20 false (.ixP 1 3 (.t 27) (.t 25)),O9 29 20 false (.load false 1 (.t 28)),O9 30 20 false (.mv (.t 7)),O9 31 20 false (.ixP 1 3 (.t 5) (.t 30)),O9 32 20 false (.load false 1 (.tf 31)),O9 33 20 false (.bin .sub .no (.t 29) (.t 32)),O9 34 20 false (.bin .gtr .no (.t 23) (.t 33)),O1 35 (.pick (.t 20) (.c (.bool true)) (.t 34))]
def M35:List XO:=[O1 6 (.mv (.c (.bool false)))]
def M36:List XO:=[O1 36 (.bin .add .no (.t 13) (c9 1)),O3 13 36]
def L78:XCode :=
 (.seq (.reg M30) (.seq (.cond (.t 14) .skip (.exit 0)) (.seq (.block 1 (.seq (.reg M33) (.seq (.reg M34) (.cond (.t 35) (.seq (.reg M35) .ret) .skip)))) (.reg M36))))
def M37:List XO:=[O1 37 (.ixP 1 3 (.t 4) (c9 0)),O1 38 (.load false 1 (.tf 37)),O3 8 38]
def M38:List XO:=[O3 39 8,O1 40 (.ixP 1 3 (.t 4) (c9 0)),O1 41 (.load false 1 (.tf 40)),O1 42 (.ixP 1 3 (.t 5) (c9 0)),O1 43 (.load false 1 (.tf 42)),O1 44 (.bin .add .no (.t 41) (.t 43)),O1 45 (.bin .lss .no (.t 39) (.t 44))]
def M3r:List XO:=[O1 48 (.ixP 1 3 (.t 4) (c9 1)),O1 49 (.load false 1 (.tf 48)),O3 9 49]
def M3s:List XO:=[O3 50 9,O1 51 (.ixP 1 3 (.t 4) (c9 1)),O1 52 (.load false 1 (.tf 51)),O1 53 (.ixP 1 3 (.t 5) (c9 1)),O1 54 (.load false 1 (.tf 53)),O1 55 (.bin .add .no (.t 52) (.t 54)),O1 56 (.bin .lss .no (.t 50) (.t 55))]
def M3t:List XO:=[O1 59 (.ixP 1 3 (.t 4) (c9 2)),O1 60 (.load false 1 (.tf 59)),O3 10 60]
def M3u:List XO:=[O3 61 10,O1 62 (.ixP 1 3 (.t 4) (c9 2)),O1 63 (.load false 1 (.tf 62)),O1 64 (.ixP 1 3 (.t 5) (c9 2)),O1 65 (.load false 1 (.tf 64)),O1 66 (.bin .add .no (.t 63) (.t 65)),O1 67 (.bin .lss .no (.t 61) (.t 66))]
def M3v:List XO:=[O3 71 0,O1 72 (.nilck (.t 71)),O5 73 6 72,O4 74 1 73,O3 75 8,O3 76 9,O3 77 10,O1 78 (.build [(.int .i64 0),(.int .i64 0),(.int .i64 0)] [(0,1,(.t 75)),(1,1,(.t 76)),(2,1,(.t 77))]),O1 79 (.callw "#lj" [.t 74,.t 78,(.c (.agg #[])),(c9 3)]),O3 70 79,O1 80 (.ext (.t 70) 0),O1 81 (.ext (.t 70) 1),O1 11 (.callw "#z" []),O2 (.callw "#s0" [.t 11,.t 80]),O3 12 81]
def M3w:List XO:=[O3 82 12]
def M3x:List XO:=[O1 6 (.mv (.c (.bool false)))]
def M3y:List XO:=[O3 68 10,O1 69 (.bin .add .no (.t 68) (c9 1)),O3 10 69]
def L75:XCode :=
 (.seq (.seq (.reg M3u) (.cond (.t 67) .skip (.exit 6))) (.seq (.block 7 (.seq (.reg M3v) (.seq (.reg M3w) (.cond (.t 82) (.seq (.reg M3x) .ret) .skip)))) (.reg M3y)))
def M3z:List XO:=[O3 57 9,O1 58 (.bin .add .no (.t 57) (c9 1)),O3 9 58]
def L76:XCode :=
 (.seq (.seq (.reg M3s) (.cond (.t 56) .skip (.exit 4))) (.seq (.block 5 (.seq (.reg M3t) (.block 6 (.loop L75)))) (.reg M3z)))
def M31:List XO:=[O3 46 8,O1 47 (.bin .add .no (.t 46) (c9 1)),O3 8 47]
def L77:XCode :=
 (.seq (.seq (.reg M38) (.cond (.t 45) .skip (.exit 2))) (.seq (.block 3 (.seq (.reg M3r) (.block 4 (.loop L76)))) (.reg M31)))
def M32:List XO:=[O1 6 (.mv (.c (.bool true)))]
def x___shaft_crate__free:XFunc:={ np:=3,res:=[.t 6],body :=
 (.seq (.reg M3p) (.seq (.seq (.reg M3q) (.block 0 (.loop L78))) (.seq (.seq (.reg M37) (.block 2 (.loop L77))) (.seq (.reg M32) .ret)))) }
def M39:List XO:=[O1 4 (.alloc [(.int .i64 0),(.int .i64 0),(.int .i64 0)])]
def M4a:List XO:=[O3 7 1,O1 8 (.ixP 3 6 (.g 0 b6h) (.t 7)),O6 9 3 8,O1 10 (.mv (c9 0))]
def M4b:List XO:=[O1 11 (.bin .lss .no (.t 10) (c9 3))]
def M4c:List XO:=[O3 12 10,O1 13 (.ixV 1 3 false (.t 9) (.t 10)),O3 5 12,O3 6 13]
def M4d:List XO:=[O3 14 5,O3 15 0,O3 16 6,O1 17 (.nilck (.t 15)),O5 18 3 17,O1 19 (.ixP 1 3 (.t 18) (.t 16)),O4 20 1 19,O1 21 (.ixP 1 3 (.t 4) (.t 14)),O2 (.store 1 (.t 21) (.t 20))]
def M4e:List XO:=[O1 22 (.bin .add .no (.t 10) (c9 1)),O3 10 22]
def L9j:XCode :=
 (.seq (.reg M4b) (.seq (.cond (.t 11) .skip (.exit 0)) (.seq (.block 1 (.seq (.reg M4c) (.reg M4d))) (.reg M4e))))
def M4f:List XO:=[O6 23 3 4,O2 (.store 3 (.t 4) (.t 23))]
def x___shaft_crate__long:XFunc:={ np:=2,res:=[.cell 4 true 3],body :=
 (.seq (.reg M39) (.seq (.seq (.reg M4a) (.block 0 (.loop L9j))) (.seq (.reg M4f) .ret))) }
def M9n:List XO:=[O1 3 (.boxF (.t 1)),O1 4 (.mv (c9 0))]
def M9o:List XO:=[O3 6 0,O8 7 6,O1 8 (.mv (c9 0))]
def M9p:List XO:=[O1 9 (.bin .lss .no (.t 8) (.t 7))]
def M9q:List XO:=[O3 10 8,O3 5 10]
def M9r:List XO:=[O1 11 (.load true 3 (.tf 3)),O3 12 0,O3 13 5,O7 14 3 12 13,O6 15 3 14,O1 16 (.bin .eql (.flat [.i,.i,.i]) (.t 11) (.t 15))]
def M9s:List XO:=[O3 17 5,O3 4 17]
def M9t:List XO:=[O1 18 (.bin .add .no (.t 8) (c9 1)),O3 8 18]
def L90:XCode :=
 (.seq (.reg M9p) (.seq (.cond (.t 9) .skip (.exit 0)) (.seq (.block 1 (.seq (.reg M9q) (.seq (.reg M9r) (.cond (.t 16) (.seq (.reg M9s) .ret) .skip)))) (.reg M9t))))
def M9u:List XO:=[O1 4 (.mv (.c (.int .i64 (-1))))]
def x_slices_Index____3_int__3_int_:XFunc:={ np:=2,res:=[.t 4],body :=
 (.seq (.reg M9n) (.seq (.seq (.reg M9o) (.block 0 (.loop L90))) (.seq (.reg M9u) .ret))) }
def o47:List XO:=[O3 4 0,O8 5 4,O1 6 (.bin .sub .no (.t 5) (c9 1)),O1 2 (.mv (c9 0)),O3 3 6]
def o48:List XO:=[O3 7 2,O3 8 3,O1 9 (.bin .lss .no (.t 7) (.t 8))]
def o49:List XO:=[O3 14 0,O3 15 2,O3 16 0,O3 17 3,O3 18 0,O3 19 3,O7 20 1 18 19,O4 21 1 20,O3 22 0,O3 23 2,O7 24 1 22 23,O4 25 1 24,O7 26 1 14 15,O2 (.store 1 (.t 26) (.t 21)),O7 27 1 16 17,O2 (.store 1 (.t 27) (.t 25))]
def o5a:List XO:=[O3 10 2,O1 11 (.bin .add .no (.t 10) (c9 1)),O3 12 3,O1 13 (.bin .sub .no (.t 12) (c9 1)),O3 2 11,O3 3 13]
def g5g:XCode :=
 (.seq (.seq (.reg o48) (.cond (.t 9) .skip (.exit 0))) (.seq (.block 1 (.reg o49)) (.reg o5a)))
def x_slices_Reverse___int_int_:XFunc:={ np:=1,res:=[],body :=
 (.seq (.reg o47) (.block 0 (.loop g5g))) }
def m0l:List XO:=[O1 1 (.boxF (.t 0)),O1 2 (.mv (c9 0))]
def m0m:List XO:=[O1 3 (.load true 5 (.tf 1)),O1 4 (.call "newel/situation.Check" [.t 3]),O3 2 4]
def x_control_Check:XFunc:={ np:=1,res:=[.t 2],body :=
 (.seq (.reg m0l) (.seq (.reg m0m) .ret)) }
def o0l:List XO:=[O1 2 (.boxF (.t 0)),O1 4 (.mv (.c (.bool false)))]
def o0m:List XO:=[O3 7 1,O8 8 7,O1 9 (.bin .gtr .no (.t 8) (c9 6))]
def o0o:List XO:=[O1 4 (.mv (.c (.bool false)))]
def o0p:List XO:=[O3 10 1,O8 11 10,O1 12 (.mv (c9 0))]
def o0q:List XO:=[O1 13 (.bin .lss .no (.t 12) (.t 11))]
def o0r:List XO:=[O7 14 1 10 12,O4 15 1 14,O3 6 15]
def o0s:List XO:=[O3 16 6,O8 17 16,O1 18 (.bin .gtr .no (.t 17) (c9 6)),O3 19 18,O9 20 19 false (.mv (.t 6)),O9 21 19 false (.mkfn "newel/situation.Asked$1" [] [.t 2]),O9 22 19 false (.call "slices.ContainsFunc[newel/api.Term,newel/api.Literal]" [.t 20,.t 21]),O1 23 (.pick (.t 19) (.c (.bool true)) (.t 22))]
def o0t:List XO:=[O1 4 (.mv (.c (.bool false)))]
def o0u:List XO:=[O1 24 (.bin .add .no (.t 12) (c9 1)),O3 12 24]
def g45:XCode :=
 (.seq (.reg o0q) (.seq (.cond (.t 13) .skip (.exit 0)) (.seq (.block 1 (.seq (.reg o0r) (.seq (.reg o0s) (.cond (.t 23) (.seq (.reg o0t) .ret) .skip)))) (.reg o0u))))
def o0n:List XO:=[O1 4 (.mv (.c (.bool true)))]
def x_situation_Asked:XFunc:={ np:=2,res:=[.t 4],body :=
 (.seq (.reg o0l) (.seq (.seq (.reg o0m) (.cond (.t 9) (.seq (.reg o0o) .ret) .skip)) (.seq (.seq (.reg o0p) (.block 0 (.loop g45))) (.seq (.reg o0n) .ret)))) }
def l77:List XO:=[O1 3 (.boxF (.t 0)),O1 6 (.mv (.c (.pointer none)))]
def l78:List XO:=[O1 16 (.build [(.int .i64 0),(.int .i64 0),(.int .i64 0)] []),O1 17 (.bsl 3 [.t 16]),O1 18 (.bsl 1 [(.c (.int .i64 (-1)))]),O1 19 (.bsl 1 [(c9 0)]),O1 20 (.build [(.slice none 0 0),(.slice none 0 0),(.slice none 0 0),(.slice none 0 0)] [(0,1,(.t 17)),(1,1,(.t 18)),(2,1,(.t 19))]),O1 21 (.box (.t 20)),O3 7 21]
def l8j:List XO:=[O1 22 (.callw "#mk" []),O1 23 (.build [(.int .i64 0),(.int .i64 0),(.int .i64 0)] []),O2 (.callw "#pi" [.t 22,.t 23,(c9 0),(c9 3)]),O3 24 22,O3 8 24]
def l8n:List XO:=[O1 9 (.mv (c9 0))]
def l8o:List XO:=[O3 25 9,O3 26 7,O1 27 (.nilck (.t 26)),O5 28 0 27,O4 29 1 28,O8 30 29,O1 31 (.bin .lss .no (.t 25) (.t 30))]
def l8p:List XO:=[O3 34 7,O1 35 (.nilck (.t 34)),O5 36 0 35,O4 37 1 36,O3 38 9,O7 39 3 37 38,O6 40 3 39,O1 10 (.alloc [(.int .i64 0),(.int .i64 0),(.int .i64 0)]),O2 (.store 3 (.t 10) (.t 40))]
def l8q:List XO:=[O1 41 (.fldA 0 (.tf 3)),O1 42 (.load true 5 (.tf 41)),O1 43 (.call "(newel/situation.Plant).All" [.t 42]),O1 44 (.mksl 1 [(.int .i64 0)] 8 (.t 43) (.t 43)),O3 11 44]
def l8r:List XO:=[O3 45 11,O8 46 45,O1 47 (.mv (c9 0))]
def l8s:List XO:=[O1 48 (.bin .lss .no (.t 47) (.t 46))]
def l8t:List XO:=[O3 49 47,O3 12 49]
def s2b:List XO:=[O3 50 11,O3 51 12,O7 52 1 50 51,O2 (.store 1 (.t 52) (.c (.int .i64 (-1))))]
def l8a:List XO:=[O1 53 (.fldA 0 (.tf 3)),O1 54 (.load true 5 (.tf 53)),O3 55 1,O6 56 3 10,O3 57 12,O1 58 (.call "(newel/situation.Plant).Allowed" [.t 54,.t 55,.t 56,.t 57]),O1 59 (.un .not (.t 58))]
def l8b:List XO:=[O1 60 (.fldA 0 (.tf 3)),O1 61 (.load true 5 (.tf 60)),O6 62 3 10,O3 63 2,O3 64 12,O1 65 (.callv (.t 63) [.t 64]),O1 66 (.call "(newel/situation.Plant).Step" [.t 61,.t 62,.t 65]),O1 13 (.alloc [(.int .i64 0),(.int .i64 0),(.int .i64 0)]),O2 (.store 3 (.t 13) (.t 66))]
def l8c:List XO:=[O3 68 8,O6 69 3 13,O1 70 (.callw "#lj" [.t 68,.t 69,(c9 0),(c9 3)]),O3 67 70,O1 71 (.ext (.t 67) 0),O1 72 (.ext (.t 67) 1),O3 14 71,O3 15 72]
def l8d:List XO:=[O3 73 15,O1 74 (.un .not (.t 73))]
def l8e:List XO:=[O3 75 7,O1 76 (.nilck (.t 75)),O5 77 0 76,O4 78 1 77,O8 79 78,O3 14 79]
def l8f:List XO:=[O3 80 8,O6 81 3 13,O3 82 14,O2 (.callw "#pi" [.t 80,.t 81,.t 82,(c9 3)])]
def l8g:List XO:=[O3 83 7,O3 84 7,O3 85 7,O3 86 7,O1 87 (.nilck (.t 86)),O5 88 0 87,O4 89 1 88,O6 90 3 13,O1 91 (.bsl 3 [.t 90]),O1 92 (.app 3 24 (.t 89) (.t 91)),O3 93 7,O1 94 (.nilck (.t 93)),O5 95 1 94,O4 96 1 95,O3 97 9,O1 98 (.bsl 1 [.t 97]),O1 99 (.app 1 8 (.t 96) (.t 98)),O3 100 7,O1 101 (.nilck (.t 100)),O5 102 2 101,O4 103 1 102,O3 104 12,O1 105 (.bsl 1 [.t 104]),O1 106 (.app 1 8 (.t 103) (.t 105)),O1 107 (.nilck (.t 83)),O5 108 0 107,O2 (.store 1 (.t 108) (.t 92)),O1 109 (.nilck (.t 84)),O5 110 1 109,O2 (.store 1 (.t 110) (.t 99)),O1 111 (.nilck (.t 85)),O5 112 2 111,O2 (.store 1 (.t 112) (.t 106))]
def l8h:List XO:=[O3 113 11,O3 114 12,O3 115 14,O7 116 1 113 114,O2 (.store 1 (.t 116) (.t 115))]
def l8i:List XO:=[O1 117 (.bin .add .no (.t 47) (c9 1)),O3 47 117]
def g32:XCode :=
 (.seq (.reg l8s) (.seq (.cond (.t 48) .skip (.exit 2)) (.seq (.block 3 (.seq (.reg l8t) (.seq (.reg s2b) (.seq (.seq (.reg l8a) (.cond (.t 59) (.exit 3) .skip)) (.seq (.reg l8b) (.seq (.reg l8c) (.seq (.seq (.reg l8d) (.cond (.t 74) (.seq (.reg l8e) (.seq (.reg l8f) (.reg l8g))) .skip)) (.reg l8h)))))))) (.reg l8i))))
def l8k:List XO:=[O3 118 7,O3 119 7,O1 120 (.nilck (.t 119)),O5 121 3 120,O4 122 1 121,O3 123 11,O1 124 (.bsl 1 [.t 123]),O1 125 (.app 1 24 (.t 122) (.t 124)),O1 126 (.nilck (.t 118)),O5 127 3 126,O2 (.store 1 (.t 127) (.t 125))]
def l8l:List XO:=[O3 32 9,O1 33 (.bin .add .no (.t 32) (c9 1)),O3 9 33]
def g33:XCode :=
 (.seq (.seq (.reg l8o) (.cond (.t 31) .skip (.exit 0))) (.seq (.block 1 (.seq (.reg l8p) (.seq (.reg l8q) (.seq (.seq (.reg l8r) (.block 2 (.loop g32))) (.seq .ghost (.reg l8k)))))) (.reg l8l)))
def l8m:List XO:=[O3 128 7,O3 6 128]
def x__control_plant__explore:XFunc:={ np:=3,res:=[.t 6],body :=
 (.seq (.reg l77) (.seq (.reg l78) (.seq (.reg l8j) (.seq (.seq (.reg l8n) (.block 0 (.loop g33))) (.seq (.reg l8m) .ret))))) }
def l7n:List XO:=[O1 4 (.mv (.c (.slice none 0 0))),O1 5 (.mv (.c (.bool false)))]
def l7o:List XO:=[O3 7 0,O1 8 (.nilck (.t 7)),O5 9 0 8,O4 10 1 9,O8 11 10,O1 12 (.mv (c9 0))]
def l7p:List XO:=[O1 13 (.bin .lss .no (.t 12) (.t 11))]
def l7q:List XO:=[O3 14 12,O3 6 14]
def l7r:List XO:=[O3 15 1,O3 16 6,O1 17 (.callv (.t 15) [.t 16])]
def l7s:List XO:=[O3 18 0,O3 19 6,O1 20 (.call "(*newel/control.walk).run" [.t 18,.t 19]),O3 4 20,O1 5 (.mv (.c (.bool true)))]
def l7t:List XO:=[O1 21 (.bin .add .no (.t 12) (c9 1)),O3 12 21]
def g30:XCode :=
 (.seq (.reg l7p) (.seq (.cond (.t 13) .skip (.exit 0)) (.seq (.block 1 (.seq (.reg l7q) (.seq (.reg l7r) (.cond (.t 17) (.seq (.reg l7s) .ret) .skip)))) (.reg l7t))))
def l7u:List XO:=[O1 4 (.mv (.c (.slice none 0 0))),O1 5 (.mv (.c (.bool false)))]
def x___control_walk__first:XFunc:={ np:=2,res:=[.t 4,.t 5],body :=
 (.seq (.reg l7n) (.seq (.seq (.reg l7o) (.block 0 (.loop g30))) (.seq (.reg l7u) .ret))) }
def l72:List XO:=[O1 5 (.mv (.c (.bool false)))]
def l73:List XO:=[O5 6 0 1,O6 7 5 6,O4 8 1 2,O4 9 1 3,O1 10 (.nilck (.t 9)),O5 11 0 10,O4 12 1 11,O3 13 0,O7 14 3 12 13,O6 15 3 14,O1 16 (.call "(newel/situation.Plant).Holds" [.t 7,.t 8,.t 15,(c9 0)]),O3 5 16]
def x__control_plant__breachD1:XFunc:={ np:=4,res:=[.t 5],body :=
 (.seq (.reg l72) (.seq (.reg l73) .ret)) }
def l9f:List XO:=[O1 4 (.boxF (.t 0)),O1 6 (.boxF (.t 2)),O1 7 (.boxF (.t 3)),O1 8 (.mv (.c (.bool false)))]
def l9g:List XO:=[O3 9 1,O1 10 (.mkfn "(newel/situation.Plant).Holds$1" [] [.t 4,.t 6,.t 7]),O1 11 (.call "slices.ContainsFunc[newel/api.Cond,newel/api.Term]" [.t 9,.t 10]),O3 8 11]
def x__situation_Plant__Holds:XFunc:={ np:=4,res:=[.t 8],body :=
 (.seq (.reg l9f) (.seq (.reg l9g) .ret)) }
def M7q:List XO:=[O1 0 (.alloc [(.int .i64 0),(.int .i64 0),(.int .i64 0),(.int .i64 0),(.int .i64 0),(.int .i64 0),(.int .i64 0),(.int .i64 0),(.int .i64 0),(.int .i64 0),(.int .i64 0),(.int .i64 0),(.int .i64 0),(.int .i64 0),(.int .i64 0),(.int .i64 0),(.int .i64 0),(.int .i64 0)])]
def M7r:List XO:=[O1 1 (.build [(.int .i64 0),(.int .i64 0),(.int .i64 0)] [(0,1,(c9 0)),(1,1,(c9 1)),(2,1,(c9 2))]),O1 2 (.build [(.int .i64 0),(.int .i64 0),(.int .i64 0)] [(0,1,(c9 0)),(1,1,(c9 2)),(2,1,(c9 1))]),O1 3 (.build [(.int .i64 0),(.int .i64 0),(.int .i64 0)] [(0,1,(c9 1)),(1,1,(c9 0)),(2,1,(c9 2))]),O1 4 (.build [(.int .i64 0),(.int .i64 0),(.int .i64 0)] [(0,1,(c9 1)),(1,1,(c9 2)),(2,1,(c9 0))]),O1 5 (.build [(.int .i64 0),(.int .i64 0),(.int .i64 0)] [(0,1,(c9 2)),(1,1,(c9 0)),(2,1,(c9 1))]),O1 6 (.build [(.int .i64 0),(.int .i64 0),(.int .i64 0)] [(0,1,(c9 2)),(1,1,(c9 1)),(2,1,(c9 0))]),O1 7 (.build [(.int .i64 0),(.int .i64 0),(.int .i64 0),(.int .i64 0),(.int .i64 0),(.int .i64 0),(.int .i64 0),(.int .i64 0),(.int .i64 0),(.int .i64 0),(.int .i64 0),(.int .i64 0),(.int .i64 0),(.int .i64 0),(.int .i64 0),(.int .i64 0),(.int .i64 0),(.int .i64 0)] [(0,3,(.t 1)),(3,3,(.t 2)),(6,3,(.t 3)),(9,3,(.t 4)),(12,3,(.t 5)),(15,3,(.t 6))]),O2 (.store 18 (.t 0) (.t 7))]
def x_r09_orders:XFunc:={ np:=0,res:=[.cell 0 true 18],body :=
 (.seq (.reg M7q) (.seq (.reg M7r) .ret)) }
def o0x:List XO:=[O1 1 (.boxF (.t 0)),O1 2 (.mv (c9 0))]
def o0y:List XO:=[O1 13 (.fldA 0 (.tf 1)),O1 14 (.load false 1 (.tf 13)),O8 15 14,O1 16 (.bin .gtr .no (.t 15) (c9 4)),O3 17 16,O9 18 17 false (.fldA 1 (.tf 1)),O9 19 17 false (.load false 1 (.tf 18)),O9 20 17 false (.len false (.t 19)),O9 21 17 false (.bin .gtr .no (.t 20) (c9 6)),O1 22 (.pick (.t 17) (.c (.bool true)) (.t 21)),O3 23 22,O9 24 23 false (.fldA 2 (.tf 1)),O9 25 23 false (.load false 1 (.tf 24)),O9 26 23 false (.len false (.t 25)),O9 27 23 false (.bin .gtr .no (.t 26) (c9 2)),O1 28 (.pick (.t 23) (.c (.bool true)) (.t 27)),O3 29 28,O9 30 29 false (.fldA 3 (.tf 1)),O9 31 29 false (.load false 1 (.tf 30)),O9 32 29 false (.len false (.t 31)),O9 33 29 false (.call "newel/situation.within" [.t 32,(c9 1),(c9 12)]),O9 34 29 false (.un .not (.t 33)),O1 35 (.pick (.t 29) (.c (.bool true)) (.t 34)),O3 36 35,O9 37 36 false (.fldA 4 (.tf 1)),O9 38 36 false (.load false 1 (.tf 37)),O9 39 36 false (.len false (.t 38)),O9 40 36 false (.bin .gtr .no (.t 39) (c9 40)),O1 41 (.pick (.t 36) (.c (.bool true)) (.t 40)),O3 42 41,O9 43 42 false (.load true 5 (.tf 1)),O9 44 42 false (.call "newel/situation.named" [.t 43]),O9 45 42 false (.un .not (.t 44)),O1 46 (.pick (.t 42) (.c (.bool true)) (.t 45))]
def o08:List XO:=[O1 2 (.mv (c9 41))]
def o1i:List XO:=[O1 47 (.fldA 2 (.tf 1)),O1 48 (.load false 1 (.tf 47)),O8 49 48,O1 50 (.mv (c9 0))]
def o1q:List XO:=[O1 51 (.bin .lss .no (.t 50) (.t 49))]
def o1r:List XO:=[O7 52 2 48 50,O6 53 2 52,O1 4 (.alloc [(.string (ByteArray.mk #[])),(.int .i64 0)]),O2 (.store 2 (.t 4) (.t 53))]
def o1s:List XO:=[O5 54 1 4,O4 55 1 54,O1 56 (.call "newel/situation.within" [.t 55,(c9 1),(c9 7)]),O1 57 (.un .not (.t 56))]
def o1t:List XO:=[O1 2 (.mv (c9 41))]
def o1u:List XO:=[O1 58 (.bin .add .no (.t 50) (c9 1)),O3 50 58]
def g5a:XCode :=
 (.seq (.reg o1q) (.seq (.cond (.t 51) .skip (.exit 0)) (.seq (.block 1 (.seq (.reg o1r) (.seq (.reg o1s) (.cond (.t 57) (.seq (.reg o1t) .ret) .skip)))) (.reg o1u))))
def o0z:List XO:=[O1 59 (.fldA 3 (.tf 1)),O1 60 (.load false 1 (.tf 59)),O8 61 60,O1 62 (.mv (c9 0))]
def o00:List XO:=[O1 63 (.bin .lss .no (.t 62) (.t 61))]
def o01:List XO:=[O7 64 2 60 62,O6 65 2 64,O1 6 (.alloc [(.string (ByteArray.mk #[])),(.int .i64 0)]),O2 (.store 2 (.t 6) (.t 65))]
def o02:List XO:=[O5 66 1 6,O4 67 1 66,O1 68 (.fldA 1 (.tf 1)),O1 69 (.load false 1 (.tf 68)),O8 70 69,O1 71 (.bin .shl .no (c9 1) (.t 70)),O1 72 (.bin .sub .no (.t 71) (c9 1)),O1 73 (.call "newel/situation.within" [.t 67,(c9 0),.t 72]),O1 74 (.un .not (.t 73))]
def o03:List XO:=[O1 2 (.mv (c9 41))]
def o04:List XO:=[O1 75 (.bin .add .no (.t 62) (c9 1)),O3 62 75]
def g46:XCode :=
 (.seq (.reg o00) (.seq (.cond (.t 63) .skip (.exit 2)) (.seq (.block 3 (.seq (.reg o01) (.seq (.reg o02) (.cond (.t 74) (.seq (.reg o03) .ret) .skip)))) (.reg o04))))
def o05:List XO:=[O1 76 (.fldA 4 (.tf 1)),O1 77 (.load false 1 (.tf 76)),O8 78 77,O1 79 (.mv (c9 0))]
def o06:List XO:=[O1 80 (.bin .lss .no (.t 79) (.t 78))]
def o07:List XO:=[O7 81 4 77 79,O6 82 4 81,O1 8 (.alloc [(.int .i64 0),(.int .i64 0),(.slice none 0 0),(.slice none 0 0)]),O2 (.store 4 (.t 8) (.t 82))]
def o09:List XO:=[O5 83 0 8,O4 84 1 83,O1 85 (.fldA 3 (.tf 1)),O1 86 (.load false 1 (.tf 85)),O8 87 86,O1 88 (.bin .sub .no (.t 87) (c9 1)),O1 89 (.call "newel/situation.within" [.t 84,(.c (.int .i64 (-1))),.t 88]),O1 90 (.un .not (.t 89)),O3 91 90,O9 92 91 false (.fldA 1 (.t 8)),O9 93 91 false (.load false 1 (.t 92)),O9 94 91 false (.fldA 3 (.tf 1)),O9 95 91 false (.load false 1 (.tf 94)),O9 96 91 false (.len false (.t 95)),O9 97 91 false (.bin .sub .no (.t 96) (c9 1)),O9 98 91 false (.call "newel/situation.within" [.t 93,(c9 0),.t 97]),O9 99 91 false (.un .not (.t 98)),O1 100 (.pick (.t 91) (.c (.bool true)) (.t 99)),O3 101 100,O9 102 101 false (.load true 5 (.tf 1)),O9 103 101 false (.fldA 2 (.t 8)),O9 104 101 false (.load false 1 (.t 103)),O9 105 101 false (.call "newel/situation.Asked" [.t 102,.t 104]),O9 106 101 false (.un .not (.t 105)),O1 107 (.pick (.t 101) (.c (.bool true)) (.t 106)),O3 108 107,O9 109 108 false (.fldA 3 (.t 8)),O9 110 108 false (.load false 1 (.t 109)),O9 111 108 false (.len false (.t 110)),O9 112 108 false (.bin .gtr .no (.t 111) (c9 4)),O1 113 (.pick (.t 108) (.c (.bool true)) (.t 112))]
def o1a:List XO:=[O1 2 (.mv (c9 41))]
def o1b:List XO:=[O5 114 2 8,O4 115 1 114,O8 116 115,O1 117 (.mv (c9 0))]
def o1c:List XO:=[O1 118 (.bin .lss .no (.t 117) (.t 116))]
def o1d:List XO:=[O7 119 1 115 117,O4 120 1 119,O3 10 120]
def o1e:List XO:=[O3 121 10,O1 122 (.call "slices.ContainsFunc[newel/api.Term,newel/api.Literal]" [.t 121,(.f "newel/situation.Check$1")])]
def o1f:List XO:=[O1 2 (.mv (c9 41))]
def o1g:List XO:=[O1 123 (.bin .add .no (.t 117) (c9 1)),O3 117 123]
def g47:XCode :=
 (.seq (.reg o1c) (.seq (.cond (.t 118) .skip (.exit 6)) (.seq (.block 7 (.seq (.reg o1d) (.seq (.reg o1e) (.cond (.t 122) (.seq (.reg o1f) .ret) .skip)))) (.reg o1g))))
def o1h:List XO:=[O5 124 3 8,O4 125 1 124,O8 126 125,O1 127 (.mv (c9 0))]
def o1j:List XO:=[O1 128 (.bin .lss .no (.t 127) (.t 126))]
def o1k:List XO:=[O7 129 2 125 127,O6 130 2 129,O1 12 (.alloc [(.int .i64 0),(.int .i64 0)]),O2 (.store 2 (.t 12) (.t 130))]
def o1l:List XO:=[O5 131 0 12,O4 132 1 131,O1 133 (.call "newel/situation.within" [.t 132,(c9 1),(c9 3)]),O1 134 (.un .not (.t 133)),O3 135 134,O9 136 135 false (.fldA 1 (.t 12)),O9 137 135 false (.load false 1 (.t 136)),O9 138 135 false (.fldA 2 (.tf 1)),O9 139 135 false (.load false 1 (.tf 138)),O9 140 135 false (.len false (.t 139)),O9 141 135 false (.bin .sub .no (.t 140) (c9 1)),O9 142 135 false (.call "newel/situation.within" [.t 137,(c9 0),.t 141]),O9 143 135 false (.un .not (.t 142)),O1 144 (.pick (.t 135) (.c (.bool true)) (.t 143))]
def o1m:List XO:=[O1 2 (.mv (c9 41))]
def o1n:List XO:=[O1 145 (.bin .add .no (.t 127) (c9 1)),O3 127 145]
def g48:XCode :=
 (.seq (.reg o1j) (.seq (.cond (.t 128) .skip (.exit 8)) (.seq (.block 9 (.seq (.reg o1k) (.seq (.reg o1l) (.cond (.t 144) (.seq (.reg o1m) .ret) .skip)))) (.reg o1n))))
def o1o:List XO:=[O1 146 (.bin .add .no (.t 79) (c9 1)),O3 79 146]
def g49:XCode :=
 (.seq (.reg o06) (.seq (.cond (.t 80) .skip (.exit 4)) (.seq (.block 5 (.seq (.reg o07) (.seq (.seq (.reg o09) (.cond (.t 113) (.seq (.reg o1a) .ret) .skip)) (.seq (.seq (.reg o1b) (.block 6 (.loop g47))) (.seq (.reg o1h) (.block 8 (.loop g48))))))) (.reg o1o))))
def o1p:List XO:=[O1 2 (.mv (c9 0))]
def x_situation_Check:XFunc:={ np:=1,res:=[.t 2],body :=
 (.seq (.reg o0x) (.seq (.seq (.reg o0y) (.cond (.t 46) (.seq (.reg o08) .ret) .skip)) (.seq (.seq (.reg o1i) (.block 0 (.loop g5a))) (.seq (.seq (.reg o0z) (.block 2 (.loop g46))) (.seq (.seq (.reg o05) (.block 4 (.loop g49))) (.seq (.reg o1p) .ret)))))) }
def o3z:List XO:=[O1 4 (.mv (.c (.bool false)))]
def o30:List XO:=[O3 5 0,O3 6 1,O1 7 (.call "slices.IndexFunc[newel/api.Term,newel/api.Literal]" [.t 5,.t 6]),O1 8 (.bin .geq .no (.t 7) (c9 0)),O3 4 8]
def x_slices_ContainsFunc_api_Term_api_Literal_:XFunc:={ np:=2,res:=[.t 4],body :=
 (.seq (.reg o3z) (.seq (.reg o30) .ret)) }
def o0j:List XO:=[O1 2 (.boxF (.t 0)),O1 3 (.mv (.c (.bool false)))]
def o0k:List XO:=[O6 4 5 1,O1 5 (.load true 4 (.tf 2)),O1 6 (.call "newel/situation.asks" [.t 4,.t 5]),O1 7 (.un .not (.t 6)),O3 3 7]
def x_situation_AskedD1:XFunc:={ np:=2,res:=[.t 3],body :=
 (.seq (.reg o0j) (.seq (.reg o0k) .ret)) }
def o2f:List XO:=[O1 2 (.boxF (.t 0)),O1 3 (.boxF (.t 1)),O1 4 (.mv (.c (.bool false)))]
def o2g:List XO:=[O1 5 (.fldA 0 (.tf 3)),O1 6 (.load false 1 (.tf 5))]
def o2i:List XO:=[O1 8 (.bin .eql .no (.t 6) (c9 1)),O3 7 8]
def o2j:List XO:=[O1 9 (.fldA 1 (.tf 3)),O1 10 (.load false 1 (.tf 9)),O1 11 (.fldA 0 (.tf 2)),O1 12 (.load false 1 (.tf 11)),O8 13 12,O1 14 (.bin .sub .no (.t 13) (c9 1)),O1 15 (.call "newel/situation.within" [.t 10,(c9 0),.t 14]),O3 16 15,O9 17 16 true (.fldA 2 (.tf 3)),O9 18 16 true (.load false 1 (.tf 17)),O9 19 16 true (.bin .eql .no (.t 18) (c9 0)),O1 20 (.pick (.t 16) (.t 19) (.c (.bool false))),O3 4 20]
def o2k:List XO:=[O1 22 (.bin .eql .no (.t 6) (c9 2)),O3 21 22]
def o2l:List XO:=[O1 23 (.fldA 1 (.tf 3)),O1 24 (.load false 1 (.tf 23)),O1 25 (.fldA 2 (.tf 2)),O1 26 (.load false 1 (.tf 25)),O8 27 26,O1 28 (.bin .sub .no (.t 27) (c9 1)),O1 29 (.call "newel/situation.within" [.t 24,(c9 0),.t 28]),O3 30 29,O9 31 30 true (.fldA 2 (.tf 3)),O9 32 30 true (.load false 1 (.tf 31)),O9 33 30 true (.fldA 2 (.tf 2)),O9 34 30 true (.load false 1 (.tf 33)),O9 35 30 true (.fldA 1 (.tf 3)),O9 36 30 true (.load false 1 (.tf 35)),O9 37 30 true (.ixA 2 (.t 34) (.t 36)),O9 38 30 true (.fldA 1 (.t 37)),O9 39 30 true (.load false 1 (.t 38)),O9 40 30 true (.call "newel/situation.within" [.t 32,(c9 0),.t 39]),O1 41 (.pick (.t 30) (.t 40) (.c (.bool false))),O3 4 41]
def o2m:List XO:=[O1 43 (.bin .eql .no (.t 6) (c9 3)),O3 42 43]
def o2n:List XO:=[O1 44 (.fldA 1 (.tf 3)),O1 45 (.load false 1 (.tf 44)),O1 46 (.fldA 3 (.tf 2)),O1 47 (.load false 1 (.tf 46)),O8 48 47,O1 49 (.bin .sub .no (.t 48) (c9 1)),O1 50 (.call "newel/situation.within" [.t 45,(c9 0),.t 49]),O3 51 50,O9 52 51 true (.fldA 2 (.tf 3)),O9 53 51 true (.load false 1 (.tf 52)),O9 54 51 true (.bin .eql .no (.t 53) (c9 0)),O1 55 (.pick (.t 51) (.t 54) (.c (.bool false))),O3 4 55]
def o2o:List XO:=[O1 57 (.bin .eql .no (.t 6) (c9 4)),O3 56 57]
def o2p:List XO:=[O1 58 (.fldA 1 (.tf 3)),O1 59 (.load false 1 (.tf 58)),O1 60 (.fldA 1 (.tf 2)),O1 61 (.load false 1 (.tf 60)),O8 62 61,O1 63 (.bin .sub .no (.t 62) (c9 1)),O1 64 (.call "newel/situation.within" [.t 59,(c9 0),.t 63]),O3 65 64,O9 66 65 true (.fldA 2 (.tf 3)),O9 67 65 true (.load false 1 (.tf 66)),O9 68 65 true (.bin .eql .no (.t 67) (c9 0)),O1 69 (.pick (.t 65) (.t 68) (.c (.bool false))),O3 4 69]
def o2h:List XO:=[O1 4 (.mv (.c (.bool false)))]
def x_situation_asks:XFunc:={ np:=2,res:=[.t 4],body :=
 (.seq (.reg o2f) (.seq (.seq (.reg o2g) (.block 0 (.seq (.reg o2i) (.cond (.t 7) (.seq (.reg o2j) .ret) (.seq (.reg o2k) (.cond (.t 21) (.seq (.reg o2l) .ret) (.seq (.reg o2m) (.cond (.t 42) (.seq (.reg o2n) .ret) (.seq (.reg o2o) (.cond (.t 56) (.seq (.reg o2p) .ret) .skip)))))))))) (.seq (.reg o2h) .ret))) }
def l87:List XO:=[O1 1 (.boxF (.t 0)),O1 2 (.mv (c9 0))]
def l88:List XO:=[O1 3 (.fldA 0 (.tf 1)),O1 4 (.fldA 0 (.tf 3)),O1 5 (.load false 1 (.tf 4)),O8 6 5,O1 7 (.bin .shl .no (c9 1) (.t 6)),O3 2 7]
def x__situation_Plant__All:XFunc:={ np:=1,res:=[.t 2],body :=
 (.seq (.reg l87) (.seq (.reg l88) .ret)) }
def M4v:List XO:=[O1 4 (.boxF (.t 0)),O1 6 (.boxF (.t 2)),O1 8 (.mv (.c (.bool false)))]
def l9a:List XO:=[O3 9 1,O8 10 9,O1 11 (.bin .eql .no (.t 10) (c9 0)),O3 12 11,O9 13 12 false (.load true 5 (.tf 4)),O9 14 12 false (.mv (.t 1)),O9 15 12 false (.load true 3 (.tf 6)),O9 16 12 false (.mv (.t 3)),O9 17 12 false (.call "(newel/situation.Plant).Holds" [.t 13,.t 14,.t 15,.t 16]),O1 18 (.pick (.t 12) (.c (.bool true)) (.t 17)),O3 8 18]
def x__situation_Plant__Allowed:XFunc:={ np:=4,res:=[.t 8],body :=
 (.seq (.reg M4v) (.seq (.reg l9a) .ret)) }
def l9h:List XO:=[O1 3 (.boxF (.t 0)),O1 4 (.box (.t 1)),O1 6 (.alloc [(.int .i64 0),(.int .i64 0),(.int .i64 0)])]
def l9i:List XO:=[O1 11 (.fldA 0 (.tf 3)),O1 12 (.fldA 4 (.tf 11)),O1 13 (.load false 1 (.tf 12)),O8 14 13,O1 15 (.mv (c9 0))]
def l9m:List XO:=[O1 16 (.bin .lss .no (.t 15) (.t 14))]
def l9n:List XO:=[O7 17 4 13 15,O6 18 4 17,O1 8 (.alloc [(.int .i64 0),(.int .i64 0),(.slice none 0 0),(.slice none 0 0)]),O2 (.store 4 (.t 8) (.t 18))]
def l9o:List XO:=[O5 19 0 8,O4 20 1 19,O1 21 (.bin .neq .no (.t 20) (.c (.int .i64 (-1)))),O3 22 21,O9 23 22 true (.fldA 0 (.t 8)),O9 24 22 true (.load false 1 (.t 23)),O9 25 22 true (.fldA 0 (.t 4)),O9 26 22 true (.load false 1 (.t 25)),O9 27 22 true (.bin .neq .no (.t 24) (.t 26)),O1 28 (.pick (.t 22) (.t 27) (.c (.bool false))),O3 29 28,O9 30 29 false (.load true 5 (.tf 3)),O9 31 29 false (.fldA 2 (.t 8)),O9 32 29 false (.load false 1 (.t 31)),O9 33 29 false (.load true 3 (.t 4)),O9 34 29 false (.mv (.t 2)),O9 35 29 false (.call "(newel/situation.Plant).Holds" [.t 30,.t 32,.t 33,.t 34]),O9 36 29 false (.un .not (.t 35)),O1 37 (.pick (.t 29) (.c (.bool true)) (.t 36))]
def l9p:List XO:=[O5 38 3 8,O4 39 1 38,O8 40 39,O1 41 (.mv (c9 0))]
def l9q:List XO:=[O1 42 (.bin .lss .no (.t 41) (.t 40))]
def l9r:List XO:=[O7 43 2 39 41,O6 44 2 43,O1 10 (.alloc [(.int .i64 0),(.int .i64 0)]),O2 (.store 2 (.t 10) (.t 44))]
def l9s:List XO:=[O1 45 (.load true 5 (.tf 3)),O6 46 2 10,O1 47 (.callw "(newel/situation.Plant).set" [.t 45,.t 46,.t 4])]
def l9t:List XO:=[O1 48 (.bin .add .no (.t 41) (c9 1)),O3 41 48]
def g36:XCode :=
 (.seq (.reg l9q) (.seq (.cond (.t 42) .skip (.exit 2)) (.seq (.block 3 (.seq (.reg l9r) (.reg l9s))) (.reg l9t))))
def l9j:List XO:=[O5 49 1 8,O4 50 1 49,O5 51 0 4,O2 (.store 1 (.t 51) (.t 50))]
def l9k:List XO:=[O1 52 (.bin .add .no (.t 15) (c9 1)),O3 15 52]
def g37:XCode :=
 (.seq (.reg l9m) (.seq (.cond (.t 16) .skip (.exit 0)) (.seq (.block 1 (.seq (.reg l9n) (.seq (.seq (.reg l9o) (.cond (.t 37) (.exit 1) .skip)) (.seq (.seq (.reg l9p) (.block 2 (.loop g36))) (.seq (.reg l9j) (.exit 0)))))) (.reg l9k))))
def l9l:List XO:=[O6 53 3 4,O2 (.store 3 (.t 6) (.t 53))]
def x__situation_Plant__Step:XFunc:={ np:=3,res:=[.cell 6 true 3],body :=
 (.seq (.reg l9h) (.seq (.seq (.reg l9i) (.block 0 (.loop g37))) (.seq (.reg l9l) .ret))) }
def l7v:List XO:=[O1 4 (.mv (.c (.slice none 0 0)))]
def l7w:List XO:=[O1 5 (.mv (.c (.slice none 0 0)))]
def l7x:List XO:=[O3 6 0,O1 7 (.nilck (.t 6)),O5 8 1 7,O4 9 1 8,O3 10 1,O7 11 1 9 10,O4 12 1 11,O1 13 (.bin .geq .no (.t 12) (c9 0))]
def l7y:List XO:=[O3 21 5,O3 22 0,O1 23 (.nilck (.t 22)),O5 24 2 23,O4 25 1 24,O3 26 1,O7 27 1 25 26,O4 28 1 27,O1 29 (.bsl 1 [.t 28]),O1 30 (.app 1 8 (.t 21) (.t 29)),O3 5 30]
def l7z:List XO:=[O3 14 0,O1 15 (.nilck (.t 14)),O5 16 1 15,O4 17 1 16,O3 18 1,O7 19 1 17 18,O4 20 1 19,O3 1 20]
def g31:XCode :=
 (.seq (.seq (.reg l7x) (.cond (.t 13) .skip (.exit 0))) (.seq (.block 1 (.reg l7y)) (.reg l7z)))
def y94:List XO:=[O3 31 5,O1 32 (.callw "slices.Reverse[[]int,int]" [.t 31])]
def l71:List XO:=[O3 33 5,O3 4 33]
def x___control_walk__run:XFunc:={ np:=2,res:=[.t 4],body :=
 (.seq (.reg l7v) (.seq (.reg l7w) (.seq (.block 0 (.loop g31)) (.seq (.reg y94) (.seq (.reg l71) .ret))))) }
def o3x:List XO:=[O1 4 (.mv (.c (.bool false)))]
def o3y:List XO:=[O3 5 0,O3 6 1,O1 7 (.call "slices.IndexFunc[newel/api.Cond,newel/api.Term]" [.t 5,.t 6]),O1 8 (.bin .geq .no (.t 7) (c9 0)),O3 4 8]
def x_slices_ContainsFunc_api_Cond_api_Term_:XFunc:={ np:=2,res:=[.t 4],body :=
 (.seq (.reg o3x) (.seq (.reg o3y) .ret)) }
def l9d:List XO:=[O1 5 (.mv (.c (.bool false)))]
def l9e:List XO:=[O3 6 0,O1 7 (.mkfn "(newel/situation.Plant).Holds$1$1" [] [.t 1,.t 2,.t 3]),O1 8 (.call "slices.ContainsFunc[newel/api.Term,newel/api.Literal]" [.t 6,.t 7]),O1 9 (.un .not (.t 8)),O3 5 9]
def x__situation_Plant__HoldsD1:XFunc:={ np:=4,res:=[.t 5],body :=
 (.seq (.reg l9d) (.seq (.reg l9e) .ret)) }
def l9b:List XO:=[O1 4 (.boxF (.t 0)),O1 5 (.mv (.c (.bool false)))]
def l9c:List XO:=[O6 6 5 1,O1 7 (.load true 4 (.tf 4)),O6 8 3 2,O4 9 1 3,O1 10 (.call "(newel/situation.Plant).literal" [.t 6,.t 7,.t 8,.t 9]),O1 11 (.un .not (.t 10)),O3 5 11]
def x__situation_Plant__HoldsD1D1:XFunc:={ np:=4,res:=[.t 5],body :=
 (.seq (.reg l9b) (.seq (.reg l9c) .ret)) }
def l9u:List XO:=[O1 4 (.boxF (.t 0)),O1 5 (.boxF (.t 1)),O1 6 (.boxF (.t 2)),O1 8 (.mv (.c (.bool false)))]
def l9v:List XO:=[O1 9 (.mv (.c (.bool false)))]
def l9y:List XO:=[O1 10 (.fldA 0 (.tf 5)),O1 11 (.load false 1 (.tf 10))]
def l9z:List XO:=[O1 13 (.bin .eql .no (.t 11) (c9 1)),O3 12 13]
def l90:List XO:=[O3 14 3,O1 15 (.fldA 1 (.tf 5)),O1 16 (.load false 1 (.tf 15)),O1 17 (.bin .shr .no (.t 14) (.t 16)),O1 18 (.bin .and .no (.t 17) (c9 1)),O1 19 (.bin .eql .no (.t 18) (c9 1)),O3 9 19]
def l91:List XO:=[O1 21 (.bin .eql .no (.t 11) (c9 2)),O3 20 21]
def l92:List XO:=[O1 22 (.fldA 1 (.tf 5)),O1 23 (.load false 1 (.tf 22)),O1 24 (.fldA 1 (.tf 6)),O1 25 (.ixP 1 2 (.t 24) (.t 23)),O1 26 (.load false 1 (.tf 25)),O1 27 (.fldA 2 (.tf 5)),O1 28 (.load false 1 (.tf 27)),O1 29 (.bin .geq .no (.t 26) (.t 28)),O3 9 29]
def v2e:List XO:=[O1 31 (.bin .eql .no (.t 11) (c9 3)),O3 30 31]
def l94:List XO:=[O1 32 (.fldA 0 (.tf 6)),O1 33 (.load false 1 (.tf 32)),O1 34 (.fldA 1 (.tf 5)),O1 35 (.load false 1 (.tf 34)),O1 36 (.bin .eql .no (.t 33) (.t 35)),O3 9 36]
def l95:List XO:=[O1 38 (.bin .eql .no (.t 11) (c9 4)),O3 37 38]
def l9w:List XO:=[O1 39 (.fldA 0 (.tf 4)),O1 40 (.fldA 3 (.tf 39)),O1 41 (.load false 1 (.tf 40)),O1 42 (.fldA 0 (.tf 6)),O1 43 (.load false 1 (.tf 42)),O7 44 2 41 43,O5 45 1 44,O4 46 1 45,O1 47 (.fldA 1 (.tf 5)),O1 48 (.load false 1 (.tf 47)),O1 49 (.bin .shr .no (.t 46) (.t 48)),O1 50 (.bin .and .no (.t 49) (c9 1)),O1 51 (.bin .eql .no (.t 50) (c9 1)),O3 9 51]
def l9x:List XO:=[O3 52 9,O1 53 (.fldA 3 (.tf 5)),O1 54 (.load false 1 (.tf 53)),O1 55 (.bin .neq .bool (.t 52) (.t 54)),O3 8 55]
def x__situation_Plant__literal:XFunc:={ np:=4,res:=[.t 8],body :=
 (.seq (.reg l9u) (.seq (.reg l9v) (.seq (.seq (.reg l9y) (.block 0 (.seq (.reg l9z) (.cond (.t 12) (.reg l90) (.seq (.reg l91) (.cond (.t 20) (.reg l92) (.seq (.reg v2e) (.cond (.t 30) (.reg l94) (.seq (.reg l95) (.cond (.t 37) (.reg l9w) .skip)))))))))) (.seq (.reg l9x) .ret)))) }
def o3d:List XO:=[O1 6 (.mv (.c (.bool false)))]
def o3e:List XO:=[O3 7 0,O3 8 1,O1 9 (.bin .geq .no (.t 7) (.t 8)),O3 10 9,O9 11 10 true (.mv (.t 0)),O9 12 10 true (.mv (.t 2)),O9 13 10 true (.bin .leq .no (.t 11) (.t 12)),O1 14 (.pick (.t 10) (.t 13) (.c (.bool false))),O3 6 14]
def x_situation_within:XFunc:={ np:=3,res:=[.t 6],body :=
 (.seq (.reg o3d) (.seq (.reg o3e) .ret)) }
def o2q:List XO:=[O1 1 (.boxF (.t 0)),O1 2 (.mv (.c (.bool false)))]
def o2r:List XO:=[O1 6 (.callw "#mk" []),O3 3 6]
def o2t:List XO:=[O1 7 (.load true 5 (.tf 1)),O1 8 (.call "newel/situation.names" [.t 7]),O8 9 8,O1 10 (.mv (c9 0))]
def o2u:List XO:=[O1 11 (.bin .lss .no (.t 10) (.t 9))]
def o2v:List XO:=[O7 12 1 8 10,O4 13 1 12,O3 5 13]
def o2w:List XO:=[O3 14 3,O3 15 5,O1 16 (.callw "#ls" [.t 14,.t 15,(c9 0),(c9 0)]),O1 17 (.bin .add .no (.t 16) (c9 1)),O2 (.callw "#ps" [.t 14,.t 15,.t 17,(c9 0)])]
def o2x:List XO:=[O3 18 5,O1 19 (.call "newel/situation.Plain" [.t 18]),O1 20 (.un .not (.t 19)),O3 21 20,O9 22 21 false (.mv (.t 5)),O9 23 21 false (.len true (.t 22)),O9 24 21 false (.bin .gtr .no (.t 23) (c9 8)),O1 25 (.pick (.t 21) (.c (.bool true)) (.t 24)),O3 26 25,O9 27 26 false (.mv (.t 5)),O9 28 26 false (.call "newel/situation.Reserved" [.t 27]),O1 29 (.pick (.t 26) (.c (.bool true)) (.t 28)),O3 30 29,O9 31 30 false (.mv (.t 3)),O9 32 30 false (.mv (.t 5)),O9 33 30 false (.callw "#ls" [.t 31,.t 32,(c9 0),(c9 0)]),O9 34 30 false (.bin .gtr .no (.t 33) (c9 1)),O1 35 (.pick (.t 30) (.c (.bool true)) (.t 34))]
def o2y:List XO:=[O1 2 (.mv (.c (.bool false)))]
def o2z:List XO:=[O1 36 (.bin .add .no (.t 10) (c9 1)),O3 10 36]
def g5c:XCode :=
 (.seq (.reg o2u) (.seq (.cond (.t 11) .skip (.exit 0)) (.seq (.block 1 (.seq (.reg o2v) (.seq (.reg o2w) (.seq (.reg o2x) (.cond (.t 35) (.seq (.reg o2y) .ret) .skip))))) (.reg o2z))))
def o2s:List XO:=[O1 2 (.mv (.c (.bool true)))]
def x_situation_named:XFunc:={ np:=1,res:=[.t 2],body :=
 (.seq (.reg o2q) (.seq (.reg o2r) (.seq (.seq (.reg o2t) (.block 0 (.loop g5c))) (.seq (.reg o2s) .ret)))) }
def o0v:List XO:=[O1 1 (.boxF (.t 0)),O1 2 (.mv (.c (.bool false)))]
def o0w:List XO:=[O1 3 (.fldA 0 (.tf 1)),O1 4 (.load false 1 (.tf 3)),O1 5 (.bin .eql .no (.t 4) (c9 3)),O3 2 5]
def x_situation_CheckD1:XFunc:={ np:=1,res:=[.t 2],body :=
 (.seq (.reg o0v) (.seq (.reg o0w) .ret)) }
def o4z:List XO:=[O1 4 (.mv (c9 0))]
def o40:List XO:=[O3 6 0,O8 7 6,O1 8 (.mv (c9 0))]
def o41:List XO:=[O1 9 (.bin .lss .no (.t 8) (.t 7))]
def o42:List XO:=[O3 10 8,O3 5 10]
def o43:List XO:=[O3 11 1,O3 12 0,O3 13 5,O7 14 4 12 13,O6 15 4 14,O1 16 (.callv (.t 11) [.t 15])]
def o44:List XO:=[O3 17 5,O3 4 17]
def o45:List XO:=[O1 18 (.bin .add .no (.t 8) (c9 1)),O3 8 18]
def g5f:XCode :=
 (.seq (.reg o41) (.seq (.cond (.t 9) .skip (.exit 0)) (.seq (.block 1 (.seq (.reg o42) (.seq (.reg o43) (.cond (.t 16) (.seq (.reg o44) .ret) .skip)))) (.reg o45))))
def o46:List XO:=[O1 4 (.mv (.c (.int .i64 (-1))))]
def x_slices_IndexFunc_api_Term_api_Literal_:XFunc:={ np:=2,res:=[.t 4],body :=
 (.seq (.reg o4z) (.seq (.seq (.reg o40) (.block 0 (.loop g5f))) (.seq (.reg o46) .ret))) }
def l96:List XO:=[O1 3 (.boxF (.t 0)),O1 4 (.boxF (.t 1))]
def s2c:List XO:=[O3 7 2,O1 8 (.fldA 1 (.tf 4)),O1 9 (.load false 1 (.tf 8)),O1 10 (.nilck (.t 7)),O5 11 1 10,O1 12 (.ixP 1 2 (.t 11) (.t 9)),O3 6 12]
def l98:List XO:=[O1 13 (.fldA 0 (.tf 4)),O1 14 (.load false 1 (.tf 13))]
def l99:List XO:=[O1 16 (.bin .eql .no (.t 14) (c9 1)),O3 15 16]
def m0a:List XO:=[O3 17 6,O1 18 (.nilck (.t 17)),O2 (.store 1 (.t 18) (c9 0))]
def m0b:List XO:=[O1 20 (.bin .eql .no (.t 14) (c9 2)),O3 19 20]
def m0c:List XO:=[O3 21 6,O3 22 6,O1 23 (.nilck (.t 22)),O4 24 1 23,O1 25 (.bin .add .no (.t 24) (c9 1)),O1 26 (.fldA 0 (.tf 3)),O1 27 (.fldA 2 (.tf 26)),O1 28 (.load false 1 (.tf 27)),O1 29 (.fldA 1 (.tf 4)),O1 30 (.load false 1 (.tf 29)),O7 31 2 28 30,O5 32 1 31,O4 33 1 32,O1 34 (.min [.t 25,.t 33]),O1 35 (.nilck (.t 21)),O2 (.store 1 (.t 35) (.t 34))]
def m0d:List XO:=[O1 37 (.bin .eql .no (.t 14) (c9 3)),O3 36 37]
def m0e:List XO:=[O3 38 6,O3 39 6,O1 40 (.nilck (.t 39)),O4 41 1 40,O1 42 (.bin .sub .no (.t 41) (c9 1)),O1 43 (.max [.t 42,(c9 0)]),O1 44 (.nilck (.t 38)),O2 (.store 1 (.t 44) (.t 43))]
def x__situation_Plant__set:XFunc:={ np:=3,res:=[],body :=
 (.seq (.reg l96) (.seq (.reg s2c) (.seq (.reg l98) (.block 0 (.seq (.reg l99) (.cond (.t 15) (.reg m0a) (.seq (.reg m0b) (.cond (.t 19) (.reg m0c) (.seq (.reg m0d) (.cond (.t 36) (.reg m0e) .skip)))))))))) }
def o4r:List XO:=[O1 4 (.mv (c9 0))]
def o4s:List XO:=[O3 6 0,O8 7 6,O1 8 (.mv (c9 0))]
def o4t:List XO:=[O1 9 (.bin .lss .no (.t 8) (.t 7))]
def o4u:List XO:=[O3 10 8,O3 5 10]
def o4v:List XO:=[O3 11 1,O3 12 0,O3 13 5,O7 14 1 12 13,O4 15 1 14,O1 16 (.callv (.t 11) [.t 15])]
def o4w:List XO:=[O3 17 5,O3 4 17]
def o4x:List XO:=[O1 18 (.bin .add .no (.t 8) (c9 1)),O3 8 18]
def g5e:XCode :=
 (.seq (.reg o4t) (.seq (.cond (.t 9) .skip (.exit 0)) (.seq (.block 1 (.seq (.reg o4u) (.seq (.reg o4v) (.cond (.t 16) (.seq (.reg o4w) .ret) .skip)))) (.reg o4x))))
def o4y:List XO:=[O1 4 (.mv (.c (.int .i64 (-1))))]
def x_slices_IndexFunc_api_Cond_api_Term_:XFunc:={ np:=2,res:=[.t 4],body :=
 (.seq (.reg o4r) (.seq (.seq (.reg o4s) (.block 0 (.loop g5e))) (.seq (.reg o4y) .ret))) }
def o20:List XO:=[O1 1 (.boxF (.t 0)),O1 2 (.mv (.c (.slice none 0 0)))]
def o21:List XO:=[O1 8 (.fldA 0 (.tf 1)),O1 9 (.load false 1 (.tf 8)),O1 10 (.fldA 1 (.tf 1)),O1 11 (.load false 1 (.tf 10)),O1 12 (.bsl 1 [.t 9,.t 11]),O1 13 (.call "slices.Concat[[]string,string]" [.t 12]),O3 3 13]
def o26:List XO:=[O1 14 (.fldA 2 (.tf 1)),O1 15 (.load false 1 (.tf 14)),O8 16 15,O1 17 (.mv (c9 0))]
def o27:List XO:=[O1 18 (.bin .lss .no (.t 17) (.t 16))]
def o28:List XO:=[O7 19 2 15 17,O6 20 2 19,O1 5 (.alloc [(.string (ByteArray.mk #[])),(.int .i64 0)]),O2 (.store 2 (.t 5) (.t 20))]
def o29:List XO:=[O3 21 3,O5 22 0 5,O4 23 1 22,O1 24 (.bsl 1 [.t 23]),O1 25 (.app 1 16 (.t 21) (.t 24)),O3 3 25]
def o3a:List XO:=[O1 26 (.bin .add .no (.t 17) (c9 1)),O3 17 26]
def d5l:XCode :=
 (.seq (.reg o27) (.seq (.cond (.t 18) .skip (.exit 0)) (.seq (.block 1 (.seq (.reg o28) (.reg o29))) (.reg o3a))))
def o3b:List XO:=[O1 27 (.fldA 3 (.tf 1)),O1 28 (.load false 1 (.tf 27)),O8 29 28,O1 30 (.mv (c9 0))]
def o3c:List XO:=[O1 31 (.bin .lss .no (.t 30) (.t 29))]
def o22:List XO:=[O7 32 2 28 30,O6 33 2 32,O1 7 (.alloc [(.string (ByteArray.mk #[])),(.int .i64 0)]),O2 (.store 2 (.t 7) (.t 33))]
def o23:List XO:=[O3 34 3,O5 35 0 7,O4 36 1 35,O1 37 (.bsl 1 [.t 36]),O1 38 (.app 1 16 (.t 34) (.t 37)),O3 3 38]
def o24:List XO:=[O1 39 (.bin .add .no (.t 30) (c9 1)),O3 30 39]
def d5k:XCode :=
 (.seq (.reg o3c) (.seq (.cond (.t 31) .skip (.exit 2)) (.seq (.block 3 (.seq (.reg o22) (.reg o23))) (.reg o24))))
def o25:List XO:=[O3 40 3,O3 2 40]
def x_situation_names:XFunc:={ np:=1,res:=[.t 2],body :=
 (.seq (.reg o20) (.seq (.reg o21) (.seq (.seq (.reg o26) (.block 0 (.loop d5l))) (.seq (.seq (.reg o3b) (.block 2 (.loop d5k))) (.seq (.reg o25) .ret))))) }
def o1v:List XO:=[O1 2 (.mv (.c (.bool false)))]
def o1w:List XO:=[O3 5 0,O1 6 (.callw "#sb" [.t 5]),O8 7 6,O1 8 (.mv (c9 0))]
def o1x:List XO:=[O1 9 (.bin .lss .no (.t 8) (.t 7))]
def o1y:List XO:=[O7 10 1 6 8,O4 11 1 10,O3 4 11]
def o1z:List XO:=[O3 12 4,O1 13 (.bin .lss .no (.t 12) (.c (.int .u8 97))),O3 14 13,O9 15 14 false (.mv (.t 4)),O9 16 14 false (.bin .gtr .no (.t 15) (.c (.int .u8 122))),O1 17 (.pick (.t 14) (.c (.bool true)) (.t 16))]
def o10:List XO:=[O1 2 (.mv (.c (.bool false)))]
def M9j:List XO:=[O1 18 (.bin .add .no (.t 8) (c9 1)),O3 8 18]
def g5b:XCode :=
 (.seq (.reg o1x) (.seq (.cond (.t 9) .skip (.exit 0)) (.seq (.block 1 (.seq (.reg o1y) (.seq (.reg o1z) (.cond (.t 17) (.seq (.reg o10) .ret) .skip)))) (.reg M9j))))
def M9k:List XO:=[O3 19 0,O1 20 (.bin .neq .no (.t 19) (.c (.string (ByteArray.mk #[])))),O3 2 20]
def x_situation_Plain:XFunc:={ np:=1,res:=[.t 2],body :=
 (.seq (.reg o1v) (.seq (.seq (.reg o1w) (.block 0 (.loop g5b))) (.seq (.reg M9k) .ret))) }
def M9l:List XO:=[O1 2 (.mv (.c (.bool false)))]
def o14:List XO:=[O3 3 0]
def o17:List XO:=[O1 5 (.bin .eql .no (.t 3) (.c (.string (ByteArray.mk #[97,110,121])))),O3 4 5]
def o18:List XO:=[O1 6 (.bin .eql .no (.t 3) (.c (.string (ByteArray.mk #[116,111])))),O3 4 6]
def M9m:List XO:=[O1 7 (.bin .eql .no (.t 3) (.c (.string (ByteArray.mk #[122,101,114,111])))),O3 4 7]
def o2a:List XO:=[O1 8 (.bin .eql .no (.t 3) (.c (.string (ByteArray.mk #[109,111,114,101])))),O3 4 8]
def o2b:List XO:=[O1 9 (.bin .eql .no (.t 3) (.c (.string (ByteArray.mk #[108,101,115,115])))),O3 4 9]
def o2c:List XO:=[O1 10 (.bin .eql .no (.t 3) (.c (.string (ByteArray.mk #[105,102])))),O3 4 10]
def o2d:List XO:=[O1 11 (.bin .eql .no (.t 3) (.c (.string (ByteArray.mk #[121,101,115])))),O3 4 11]
def o2e:List XO:=[O1 12 (.bin .eql .no (.t 3) (.c (.string (ByteArray.mk #[110,111])))),O3 4 12]
def o15:List XO:=[O1 2 (.mv (.c (.bool true)))]
def o16:List XO:=[O1 2 (.mv (.c (.bool false)))]
def x_situation_Reserved:XFunc:={ np:=1,res:=[.t 2],body :=
 (.seq (.reg M9l) (.seq (.seq (.reg o14) (.block 0 (.seq (.seq (.reg o17) (.cond (.t 4) .skip (.seq (.reg o18) (.cond (.t 4) .skip (.seq (.reg M9m) (.cond (.t 4) .skip (.seq (.reg o2a) (.cond (.t 4) .skip (.seq (.reg o2b) (.cond (.t 4) .skip (.seq (.reg o2c) (.cond (.t 4) .skip (.seq (.reg o2d) (.cond (.t 4) .skip (.reg o2e))))))))))))))) (.cond (.t 4) (.seq (.reg o15) .ret) .skip)))) (.seq (.reg o16) .ret))) }
def o3f:List XO:=[O1 2 (.mv (.c (.slice none 0 0)))]
def o3g:List XO:=[O1 3 (.mv (c9 0))]
def o3o:List XO:=[O3 9 0,O8 10 9,O1 11 (.mv (c9 0))]
def o3p:List XO:=[O1 12 (.bin .lss .no (.t 11) (.t 10))]
def o3q:List XO:=[O7 13 1 9 11,O4 14 1 13,O3 5 14]
def o3r:List XO:=[O3 15 3,O3 16 5,O8 17 16,O1 18 (.bin .add .no (.t 15) (.t 17)),O3 3 18]
def o3s:List XO:=[O3 19 3,O1 20 (.bin .lss .no (.t 19) (c9 0))]
def o3t:List XO:=[O1 21 (.callw "#no" []),O2 (.callw "#no" [])]
def o3u:List XO:=[O1 22 (.bin .add .no (.t 11) (c9 1)),O3 11 22]
def d5n:XCode :=
 (.seq (.reg o3p) (.seq (.cond (.t 12) .skip (.exit 0)) (.seq (.block 1 (.seq (.reg o3q) (.seq (.reg o3r) (.seq (.reg o3s) (.cond (.t 20) (.reg o3t) .skip))))) (.reg o3u))))
def o3h:List XO:=[O3 23 3,O1 24 (.call "slices.Grow[[]string,string]" [(.c (.slice none 0 0)),.t 23]),O3 6 24]
def o3i:List XO:=[O3 25 0,O8 26 25,O1 27 (.mv (c9 0))]
def o3j:List XO:=[O1 28 (.bin .lss .no (.t 27) (.t 26))]
def o3k:List XO:=[O7 29 1 25 27,O4 30 1 29,O3 8 30]
def o3l:List XO:=[O3 31 6,O3 32 8,O1 33 (.app 1 16 (.t 31) (.t 32)),O3 6 33]
def o3m:List XO:=[O1 34 (.bin .add .no (.t 27) (c9 1)),O3 27 34]
def d5m:XCode :=
 (.seq (.reg o3j) (.seq (.cond (.t 28) .skip (.exit 2)) (.seq (.block 3 (.seq (.reg o3k) (.reg o3l))) (.reg o3m))))
def o3n:List XO:=[O3 35 6,O3 2 35]
def x_slices_Concat___string_string_:XFunc:={ np:=1,res:=[.t 2],body :=
 (.seq (.reg o3f) (.seq (.reg o3g) (.seq (.seq (.reg o3o) (.block 0 (.loop d5n))) (.seq (.reg o3h) (.seq (.seq (.reg o3i) (.block 2 (.loop d5m))) (.seq (.reg o3n) .ret)))))) }
def o4c:List XO:=[O1 4 (.mv (.c (.slice none 0 0)))]
def o4d:List XO:=[O3 5 1,O1 6 (.bin .lss .no (.t 5) (c9 0))]
def o4e:List XO:=[O1 7 (.callw "#no" []),O2 (.callw "#no" [])]
def o4f:List XO:=[O3 8 1,O3 9 0,O1 10 (.callw "#cap" [.t 9]),O3 11 0,O8 12 11,O1 13 (.bin .sub .no (.t 10) (.t 12)),O1 14 (.bin .sub .no (.t 8) (.t 13)),O3 1 14]
def o4g:List XO:=[O3 15 1,O1 16 (.bin .gtr .no (.t 15) (c9 0))]
def o4h:List XO:=[O3 17 0,O3 18 0,O1 19 (.callw "#cap" [.t 18]),O1 20 (.slc 1 (.t 17) none (some (.t 19))),O3 21 1,O1 22 (.callw "#ax" [.t 20,.t 21,(.c (.string (ByteArray.mk #[])))]),O3 23 0,O8 24 23,O1 25 (.slc 1 (.t 22) none (some (.t 24))),O3 0 25]
def o4i:List XO:=[O3 26 0,O3 4 26]
def x_slices_Grow___string_string_:XFunc:={ np:=2,res:=[.t 4],body :=
 (.seq (.reg o4c) (.seq (.seq (.reg o4d) (.cond (.t 6) (.reg o4e) .skip)) (.seq (.seq (.reg o4f) (.seq (.reg o4g) (.cond (.t 16) (.reg o4h) .skip))) (.seq (.reg o4i) .ret)))) }
attribute [go_sem] M4y M4z M5a M5j M5u M5w M5x M5y M5z M50 M40 M41 M42 M43 M44 M45 M46 M47 M48 M49 M5b M5c M5d M5e M5f M5g M5h M5i M5k M5l M5m M5n M5o M5p M5q M5r M5s M5t M5v M4w M4x M59 M6a M6b M6c M6d M6e M6f M6g M6h M6w M6x M6y M6z M60 J56 M51 J58 J59 M8p M8q M8s M8t M8u M8v M8w M8x M8y M8z M8r M52 M53 M54 M55 M56 M57 M58 J5r J5s J5t J5u J5v J5w J5x M7u M7v M7x M7y M7z M70 M71 M72 M73 M74 M7w m0f m0g m0h m0i m0j m0k M6i M6j M6p M6q M6r M6s M6t M6u M6v M6k M6l M6m M6n M6o M7s M7t M64 M65 M88 M89 M9b M9c M9d M9e M9f M9g M9h M9i M9a M80 M81 M82 M83 M84 M85 M86 M87 M3n M3o M4g M4h M4n M4o M4p M4q M4r M4s M4t M4u M4i M4j M4k M4l M4m M22 M23 M29 M3j M3k M3l M3m L9g L9h L9i L9d L9e L9f M24 M25 M26 M27 M28 M3a M3b M3c M3d M3e M3f M3g M3h M3i m2o m2p m2r m2s m2t m2u m2v m2w m2x m2y m2q m2z m20 J4x l75 l76 m21 m22 M7j M7k M7l M7m M7n M7o M7p M66 M67 M7c M7d M7e M7f M7g M7h M7i M68 M69 M7a M7b M61 M62 M63 M75 M76 M8g M8j M8k M8l M8m M8n M8o M77 M78 M79 M8a M8b M8c M8d M8e M8f M8h M8i M3p M3q M30 M33 M34 M35 M36 M37 M38 M3r M3s M3t M3u M3v M3w M3x M3y M3z M31 M32 M39 M4a M4b M4c M4d M4e M4f M9n M9o M9p M9q M9r M9s M9t M9u o47 o48 o49 o5a m0l m0m o0l o0m o0o o0p o0q o0r o0s o0t o0u o0n l77 l78 l8j l8n l8o l8p l8q l8r l8s l8t s2b l8a l8b l8c l8d l8e l8f l8g l8h l8i l8k l8l l8m l7n l7o l7p l7q l7r l7s l7t l7u l72 l73 l9f l9g M7q M7r o0x o0y o08 o1i o1q o1r o1s o1t o1u o0z o00 o01 o02 o03 o04 o05 o06 o07 o09 o1a o1b o1c o1d o1e o1f o1g o1h o1j o1k o1l o1m o1n o1o o1p o3z o30 o0j o0k o2f o2g o2i o2j o2k o2l o2m o2n o2o o2p o2h l87 l88 M4v l9a l9h l9i l9m l9n l9o l9p l9q l9r l9s l9t l9j l9k l9l l7v l7w l7x l7y l7z y94 l71 o3x o3y l9d l9e l9b l9c l9u l9v l9y l9z l90 l91 l92 v2e l94 l95 l9w l9x o3d o3e o2q o2r o2t o2u o2v o2w o2x o2y o2z o2s o0v o0w o4z o40 o41 o42 o43 o44 o45 o46 l96 s2c l98 l99 m0a m0b m0c m0d m0e o4r o4s o4t o4u o4v o4w o4x o4y o20 o21 o26 o27 o28 o29 o3a o3b o3c o22 o23 o24 o25 o1v o1w o1x o1y o1z o10 M9j M9k M9l o14 o17 o18 M9m o2a o2b o2c o2d o2e o15 o16 o3f o3g o3o o3p o3q o3r o3s o3t o3u o3h o3i o3j o3k o3l o3m o3n o4c o4d o4e o4f o4g o4h o4i
end Go.Nw.Tp5
