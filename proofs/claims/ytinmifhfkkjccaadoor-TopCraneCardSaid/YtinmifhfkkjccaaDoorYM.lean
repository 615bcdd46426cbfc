/- Models of functions: printed by gen.py. -/
import Derived.Test.YtinmifhfkkjccaaDoorNwMaps
import Derived.Test.YtinmifhfkkjccaaDoorNwBfs
import Derived.Test.YtinmifhfkkjccaaDoorNwIx3
import Derived.Test.YtinmifhfkkjccaaDoorNwTp5Src
set_option linter.all false
namespace Go.Nw.YM
noncomputable section
open Go.Nw.Tp5
set_option maxHeartbeats 4000000
theorem lA9 {α:Type} {l m:List α}:(l++m).length=l.length+m.length:=List.length_append
theorem mA9 {α β:Type} {f:α → β} {l m:List α}:List.map f (l++m)=List.map f l++List.map f m:=List.map_append
theorem oF9 {a b:Bool}:(a || b)=false ↔ a=false ∧ b=false:=Bool.or_eq_false_iff
theorem nF9:(¬False)=True:=not_false_eq_true
theorem bF9 {α:Type} [BEq α] [LawfulBEq α] {a b:α}:(a == b)=false ↔ a≠b:=beq_eq_false_iff_ne
theorem sI9 {α:Type} {a b:α} (h:some a=some b):a=b:=Option.some.inj h
theorem va9 {p:Prop} (h:p:=by first|(simp only [go_sem,List.length_append,List.map_append]; done)|rfl):p:=h
theorem vb9 {p:Prop} (h:p:=by simp only [go_sem,List.length_append,List.map_append]):p:=h
theorem vc9 {p:Prop} (h:p:=by first|exact b1w|exact b1y (by first|assumption|omega|(simp only [nxs] <;> omega))|assumption|exact b1v (by assumption) (by first|assumption|omega|(simp only [nxs] <;> omega))):p:=h
theorem vd9 {p:Prop} (h:p:=by first|first|assumption|omega|(simp only [nxs] <;> omega)):p:=h
theorem ve9 {p:Prop} (h:p:=by first|exact b1w|exact b1y (by first|omega|(simp only [nxs] <;> omega))|assumption|exact b1v (by assumption) (by first|omega|(simp only [go_sem,nxs] <;> omega))):p:=h
theorem vf9 {p:Prop} (h:p:=by first|rfl|simp only [go_sem,List.length_append,List.map_append]):p:=h
theorem vg9 {p:Prop} (h:p:=by omega):p:=h
theorem vh9 {p:Prop} (h:p:=by simp only [go_sem]):p:=h
theorem vi9 {p:Prop} (h:p:=by simp):p:=h
variable {O:Orac} [MapsOk O]
structure Shaft where
 Size : Int × Int × Int
 Walls : List (Int × Int × Int)
 deriving Inhabited,DecidableEq
@[go_sem] def b70 (x:Int × Int × Int):List AV:=[I x.1,I x.2.1,I x.2.2]
theorem K64 (x:Int × Int × Int):∀ c∈b70 x,Frz c:=(b0a (b0e _) (b0a (b0e _) (b0a (b0e _) b0j)))
@[go_sem] theorem M93 {l:List (Int × Int × Int)} {n:Nat} {a0:Int} {a1:Int} {a2:Int}:(List.map b70 l).set n [I a0,I a1,I a2]=List.map b70 (l.set n (a0,a1,a2)):=by rw [List.map_set]; rfl
def L5i (s:Shaft):Bool :=
 decide (300<(List.length s.Walls:Int))
def L6o (O:Orac):Prop:=∀ (s:Shaft),Fn O "newel/newellaw09.Far" [.agg [I s.Size.1,I s.Size.2.1,I s.Size.2.2,.fs 3 (List.map b70 s.Walls)]] (B (L5i s))
def x87 (n:Int) (low:Int) (high:Int):Bool :=
 (decide (low<=n)) && (decide (n<=high))
def L40 (O:Orac):Prop:=∀ (n:Int) (low:Int) (high:Int),Fn O "newel/newelref09.within" [I n,I low,I high] (B (x87 n low high))
def L7t:Option Bool :=
 some true
def L4v (s:Shaft) (c:Int × Int × Int):Int->Option (Out Int (Unit ⊕ Bool))
 | a_5 =>
  if decide (a_5<3) then
   (get [c.1,c.2.1,c.2.2] a_5).bind fun x9 =>
   (get [s.Size.1,s.Size.2.1,s.Size.2.2] a_5).bind fun x10 =>
   if !(x87 x9 0 (wr (x10 - 1))) then
    some (.br (.inr false))
   else
    some (.nx (wr (a_5+1)))
  else
   some (.br (.inl ()))
def L5t (s:Shaft) (c:Int × Int × Int):Option Bool :=
 (b0w (L4v s c) (0)).bind fun
  | (.inl ())=>L7t
  | (.inr r')=>some r'
def L6w (O:Orac):Prop:=∀ (s:Shaft) (c:Int × Int × Int) (r:Bool) (hm0:L5t s c=some r),Fn O "newel/newelref09.inside" [.agg [I s.Size.1,I s.Size.2.1,I s.Size.2.2,.fs 3 (List.map b70 s.Walls)],.agg [I c.1,I c.2.1,I c.2.2]] (B r)
def L7r:Option Int :=
 some 0
def L5q (s:Shaft):Int->Option (Out Int (Unit ⊕ Int))
 | i_4 =>
  if decide (i_4<(List.length s.Walls:Int)) then
   (get s.Walls i_4).bind fun x13 =>
   (L5t s x13).bind fun y14 =>
   if !y14 then
    some (.br (.inr 90))
   else
    some (.nx (wr (i_4+1)))
  else
   some (.br (.inl ()))
def L6f (s:Shaft):Option Int :=
 (b0w (L5q s) (0)).bind fun
  | (.inl ())=>L7r
  | (.inr r')=>some r'
def L4t (s:Shaft):Int->Option (Out Int (Unit ⊕ Int))
 | a_3 =>
  if decide (a_3<3) then
   (get [s.Size.1,s.Size.2.1,s.Size.2.2] a_3).bind fun x22 =>
   if !(x87 x22 1 8) then
    some (.br (.inr 90))
   else
    some (.nx (wr (a_3+1)))
  else
   some (.br (.inl ()))
def L5p (s:Shaft):Option Int :=
 if decide (256<(List.length s.Walls:Int)) then
  some 90
 else
  (b0w (L4t s) (0)).bind fun
   | (.inl ())=>L6f s
   | (.inr r')=>some r'
def L6r (O:Orac):Prop:=∀ (s:Shaft) (r:Int) (hm0:L5p s=some r),Fn O "newel/newelref09.Check" [.agg [I s.Size.1,I s.Size.2.1,I s.Size.2.2,.fs 3 (List.map b70 s.Walls)]] (I r)
def L7q:Option Int :=
 some 0
def L4s (edges:Int × Int × Int):Int->Option (Out Int (Unit ⊕ Int))
 | a_5 =>
  if decide (a_5<3) then
   (get [edges.1,edges.2.1,edges.2.2] a_5).bind fun x12 =>
   if !(x87 x12 1 8) then
    some (.br (.inr 91))
   else
    some (.nx (wr (a_5+1)))
  else
   some (.br (.inl ()))
def L4r (s:Shaft) (edges:Int × Int × Int):Option Int :=
 (L5p s).bind fun y2 =>
 if decide (¬y2=0) then
  some 90
 else
  (b0w (L4s edges) (0)).bind fun
   | (.inl ())=>L7q
   | (.inr r')=>some r'
def L52 (O:Orac):Prop:=∀ (s:Shaft) (edges:Int × Int × Int) (r:Int) (hm0:L4r s edges=some r),Fn O "newel/newelref09.CheckCrate" [.agg [I s.Size.1,I s.Size.2.1,I s.Size.2.2,.fs 3 (List.map b70 s.Walls)],.agg [I edges.1,I edges.2.1,I edges.2.2]] (I r)
def L1k:Option Bool:=some true
def L16 (O:Orac):Prop:=∀ (r:Bool) (hm0:L1k=some r),Fn O "newel/neweltop.measures" [] (B r)
def b90:(Int × Int × Int) × (Int × Int × Int) × (Int × Int × Int) × (Int × Int × Int) × (Int × Int × Int) × (Int × Int × Int) :=
 ((0,1,2),(0,2,1),(1,0,2),(1,2,0),(2,0,1),(2,1,0))
def L6x (O:Orac):Prop:=∀ (_:Unit),Fn O "newel/newelref09.orders" [] (.agg [I (((b90).1).1),I (((b90).1).2.1),I (((b90).1).2.2),I (((b90).2.1).1),I (((b90).2.1).2.1),I (((b90).2.1).2.2),I (((b90).2.2.1).1),I (((b90).2.2.1).2.1),I (((b90).2.2.1).2.2),I (((b90).2.2.2.1).1),I (((b90).2.2.2.1).2.1),I (((b90).2.2.2.1).2.2),I (((b90).2.2.2.2.1).1),I (((b90).2.2.2.2.1).2.1),I (((b90).2.2.2.2.1).2.2),I (((b90).2.2.2.2.2).1),I (((b90).2.2.2.2.2).2.1),I (((b90).2.2.2.2.2).2.2)])
abbrev V3:=Int × Int × Int
def l56 (t:Int):V3:=if t=0 then (0,1,2) else if t=1 then (0,2,1) else if t=2 then (1,0,2) else if t=3 then (1,2,0) else if t=4 then (2,0,1) else (2,1,0)
def edg (e:V3) (k:Int):Int:=if k=0 then e.1 else if k=1 then e.2.1 else e.2.2
def x61 (e:V3) (t:Int):V3:=(edg e (l56 t).1,edg e (l56 t).2.1,edg e (l56 t).2.2)
def L6g (edges:V3) (turn:Int):Option V3:=if 0<=turn/\turn<6 then some (x61 edges turn) else none
def L6t (O:Orac):Prop:=∀ (edges:V3) (turn:Int) (r:V3) (hm0:L6g edges turn=some r),Fn O "newel/newelref09.along" [.agg [I edges.1,I edges.2.1,I edges.2.2],I turn] (.agg [I r.1,I r.2.1,I r.2.2])
def L7s:Option Bool :=
 some true
def L5s (s:Shaft) (at_:Int × Int × Int) (size:Int × Int × Int):Int->Option (Out Int (Unit ⊕ Bool))
 | i_8 =>
  if decide (i_8<(List.length s.Walls:Int)) then
   (get s.Walls i_8).bind fun x10 =>
   if (((((decide (at_.1<=x10.1)) && (decide (x10.1<(wr (at_.1+size.1))))) && (decide (at_.2.1<=x10.2.1))) && (decide (x10.2.1<(wr (at_.2.1+size.2.1))))) && (decide (at_.2.2<=x10.2.2))) && (decide (x10.2.2<(wr (at_.2.2+size.2.2)))) then
    some (.br (.inr false))
   else
    some (.nx (wr (i_8+1)))
  else
   some (.br (.inl ()))
def L6i (s:Shaft) (at_:Int × Int × Int) (size:Int × Int × Int):Option Bool :=
 (b0w (L5s s at_ size) (0)).bind fun
  | (.inl ())=>L7s
  | (.inr r')=>some r'
def L4u (s:Shaft) (at_:Int × Int × Int) (size:Int × Int × Int):Int->Option (Out Int (Unit ⊕ Bool))
 | a_7 =>
  if decide (a_7<3) then
   (get [at_.1,at_.2.1,at_.2.2] a_7).bind fun x26 =>
   (if (decide (x26<0)) || (decide (8<x26)) then some true else (get [size.1,size.2.1,size.2.2] a_7).bind fun x27 =>
   (get [s.Size.1,s.Size.2.1,s.Size.2.2] a_7).bind fun x28 =>
   some (decide (x28<(wr (x26+x27))))).bind fun c29 =>
   if c29 then
    some (.br (.inr false))
   else
    some (.nx (wr (a_7+1)))
  else
   some (.br (.inl ()))
def L5r (s:Shaft) (at_:Int × Int × Int) (size:Int × Int × Int):Option Bool :=
 (b0w (L4u s at_ size) (0)).bind fun
  | (.inl ())=>L6i s at_ size
  | (.inr r')=>some r'
def L6v (O:Orac):Prop:=∀ (s:Shaft) (at_:Int × Int × Int) (size:Int × Int × Int) (r:Bool) (hm0:L5r s at_ size=some r),Fn O "newel/newelref09.free" [.agg [I s.Size.1,I s.Size.2.1,I s.Size.2.2,.fs 3 (List.map b70 s.Walls)],.agg [I at_.1,I at_.2.1,I at_.2.2],.agg [I size.1,I size.2.1,I size.2.2]] (B r)
structure Pose where
 At : Int × Int × Int
 Turn : Int
 deriving Inhabited,DecidableEq
def L6h (s:Shaft) (edges:Int × Int × Int) (p:Pose):Option Bool :=
 (if (x87 p.Turn 0 5) then (L6g edges p.Turn).bind fun y4 =>
 (L5r s (p.At.1,p.At.2.1,p.At.2.2) y4).bind fun y5 =>
 some y5 else some false).bind fun c6 =>
 some c6
def L6u (O:Orac):Prop:=∀ (s:Shaft) (edges:Int × Int × Int) (p:Pose) (r:Bool) (hm0:L6h s edges p=some r),Fn O "newel/newelref09.fits" [.agg [I s.Size.1,I s.Size.2.1,I s.Size.2.2,.fs 3 (List.map b70 s.Walls)],.agg [I edges.1,I edges.2.1,I edges.2.2],.agg [I p.At.1,I p.At.2.1,I p.At.2.2,I p.Turn]] (B r)
def L5c (s:Shaft) (edges:Int × Int × Int) (p:Pose):Option (Bool × Int) :=
 (L4r s edges).bind fun y2 =>
 if decide (¬y2=0) then
  some (false,y2)
 else
  (L6h s edges p).bind fun y6 =>
  some (y6,0)
def L6s (O:Orac):Prop:=∀ (s:Shaft) (edges:Int × Int × Int) (p:Pose) (r:Bool × Int) (hm0:L5c s edges p=some r),Fn O "newel/newelref09.Fits" [.agg [I s.Size.1,I s.Size.2.1,I s.Size.2.2,.fs 3 (List.map b70 s.Walls)],.agg [I edges.1,I edges.2.1,I edges.2.2],.agg [I p.At.1,I p.At.2.1,I p.At.2.2,I p.Turn]] (.tup [B r.1,I r.2])
def l57:List ByteArray :=
 [(ByteArray.mk #[105,97]),(ByteArray.mk #[105,98]),(ByteArray.mk #[105,99]),(ByteArray.mk #[105,100])]
def J0i (O:Orac):Prop:=∀ (_:Unit),Fn O "newel/neweltop.four" [] (.fs 1 (List.map eS (l57)))
def K13 (kind:ByteArray) (n:Int):Option ByteArray :=
 (cat kind (chr (IntKind.wrap .i32 (wr (97+n))))).bind fun q2 =>
 some q2
def J0j (O:Orac):Prop:=∀ (kind:ByteArray) (n:Int) (r:ByteArray) (hm0:K13 kind n=some r),Fn O "newel/neweltop.letter" [.v (.string kind),I n] (.v (.string r))
def L7x:Option Int :=
 some 0
def L7w (x_28:Int):Option (Out Int (Unit ⊕ Int)) :=
 some (.nx (wr (x_28+1)))
def L4w (s:Shaft) (x13:Int × Int × Int):Int->Option (Out Int (Unit ⊕ Int))
 | x_33 =>
  if decide (x_33<3) then
   (get [x13.1,x13.2.1,x13.2.2] x_33).bind fun x19 =>
   (if decide (x19<0) then some true else (get [s.Size.1,s.Size.2.1,s.Size.2.2] x_33).bind fun x22 =>
   some (decide (x22<=x19))).bind fun c23 =>
   if c23 then
    some (.br (.inr 90))
   else
    some (.nx (wr (x_33+1)))
  else
   some (.br (.inl ()))
def L5w (s:Shaft):Int->Option (Out Int (Unit ⊕ Int))
 | x_28 =>
  if decide (x_28<(List.length s.Walls:Int)) then
   (get s.Walls x_28).bind fun x13 =>
   (b0w (L4w s x13) (0)).bind fun
    | (.inl ())=>L7w x_28
    | (.inr r')=>some (.br (.inr r'))
  else
   some (.br (.inl ()))
def L6j (s:Shaft):Option Int :=
 if decide (256<(List.length s.Walls:Int)) then
  some 90
 else
  (b0w (L5w s) (0)).bind fun
   | (.inl ())=>L7x
   | (.inr r')=>some r'
def L4x (s:Shaft):Int->Option (Out Int (Unit ⊕ Int))
 | x_11 =>
  if decide (x_11<3) then
   (get [s.Size.1,s.Size.2.1,s.Size.2.2] x_11).bind fun x33 =>
   if (decide (x33<1)) || (decide (8<x33)) then
    some (.br (.inr 90))
   else
    some (.nx (wr (x_11+1)))
  else
   some (.br (.inl ()))
def L5v (s:Shaft):Option Int :=
 (b0w (L4x s) (0)).bind fun
  | (.inl ())=>L6j s
  | (.inr r')=>some r'
def L6y (O:Orac):Prop:=∀ (s:Shaft) (r:Int) (hm0:L5v s=some r),Fn O "newel/shaft.Check" [.agg [I s.Size.1,I s.Size.2.1,I s.Size.2.2,.fs 3 (List.map b70 s.Walls)]] (I r)
def L7y:Option Int :=
 some 0
def L4y (edges:Int × Int × Int):Int->Option (Out Int (Unit ⊕ Int))
 | x_14 =>
  if decide (x_14<3) then
   (get [edges.1,edges.2.1,edges.2.2] x_14).bind fun x12 =>
   if (decide (x12<1)) || (decide (8<x12)) then
    some (.br (.inr 91))
   else
    some (.nx (wr (x_14+1)))
  else
   some (.br (.inl ()))
def L5y (s:Shaft) (edges:Int × Int × Int):Option Int :=
 (L5v s).bind fun y2 =>
 if decide (¬y2=0) then
  some y2
 else
  (b0w (L4y edges) (0)).bind fun
   | (.inl ())=>L7y
   | (.inr r')=>some r'
def L41 (O:Orac):Prop:=∀ (s:Shaft) (edges:Int × Int × Int) (r:Int) (hm0:L5y s edges=some r),Fn O "newel/shaft.check" [.agg [I s.Size.1,I s.Size.2.1,I s.Size.2.2,.fs 3 (List.map b70 s.Walls)],.agg [I edges.1,I edges.2.1,I edges.2.2]] (I r)
def L70:Option Int :=
 some (-1)
def L89 (s:List (Int × Int × Int)) (v:Int × Int × Int):Int->Option (Out Int (Unit ⊕ Int))
 | x_8 =>
  if decide (x_8<(List.length s:Int)) then
   (get s x_8).bind fun x8 =>
   if decide (v.1=x8.1) && decide (v.2.1=x8.2.1) && decide (v.2.2=x8.2.2) then
    some (.br (.inr x_8))
   else
    some (.nx (wr (x_8+1)))
  else
   some (.br (.inl ()))
def L4d (s:List (Int × Int × Int)) (v:Int × Int × Int):Option Int :=
 (b0w (L89 s v) (0)).bind fun
  | (.inl ())=>L70
  | (.inr r')=>some r'
def L5d (O:Orac):Prop:=∀ (s:List (Int × Int × Int)) (v:Int × Int × Int) (r:Int) (hm0:L4d s v=some r),Fn O "slices.Index[[][3]int,[3]int]" [.fs 3 (List.map b70 s),.agg [I v.1,I v.2.1,I v.2.2]] (I r)
def inW (W:List V3) (a m:V3):Bool:=W.any fun w=>decide (a.1<=w.1/\w.1<a.1+m.1) && decide (a.2.1<=w.2.1/\w.2.1<a.2.1+m.2.1) && decide (a.2.2<=w.2.2/\w.2.2<a.2.2+m.2.2)
def inB (z a m:V3):Bool:=decide (0<=a.1/\a.1<=z.1 - m.1) && decide (0<=a.2.1/\a.2.1<=z.2.1 - m.2.1) && decide (0<=a.2.2/\a.2.2<=z.2.2 - m.2.2)
def y50 (s:Shaft) (a m:V3):Bool:=inB s.Size a m && !inW s.Walls a m
def l64 (s:Shaft) (e:V3) (p:Pose):Bool:=decide (0<=p.Turn/\p.Turn<6) && y50 s p.At (x61 e p.Turn)
def L4h (v:V3) (k d:Int):V3:=if k=0 then (v.1+d,v.2.1,v.2.2) else if k=1 then (v.1,v.2.1+d,v.2.2) else (v.1,v.2.1,v.2.2+d)
def K78 (a b:V3):V3:=(if b.1 > a.1 then b.1 else a.1,if b.2.1 > a.2.1 then b.2.1 else a.2.1,if b.2.2 > a.2.2 then b.2.2 else a.2.2)
def L4e (t m:Int):Int :=
 if m=6 then (if t=0 then 2 else if t=1 then 4 else if t=2 then 0 else if t=3 then 5 else if t=4 then 1 else 3)
 else if m=7 then (if t=0 then 5 else if t=1 then 3 else if t=2 then 4 else if t=3 then 1 else if t=4 then 2 else 0)
 else (if t=0 then 1 else if t=1 then 0 else if t=2 then 3 else if t=3 then 2 else if t=4 then 5 else 4)
def K11 (s:Shaft) (e:V3) (p:Pose) (m:Int):Pose × Bool :=
 if m<6 then (⟨L4h p.At (m / 2) (1 - 2 * (m % 2)),p.Turn⟩,l64 s e ⟨L4h p.At (m / 2) (1 - 2 * (m % 2)),p.Turn⟩)
 else (⟨p.At,L4e p.Turn m⟩,y50 s p.At (K78 (x61 e (L4e p.Turn m)) (x61 e p.Turn)))
def l70 (n:Int):Prop:=1<=n/\n<=8
structure OkSh (s:Shaft) (e:V3):Prop where
 z : l70 s.Size.1/\l70 s.Size.2.1/\l70 s.Size.2.2
 ed : l70 e.1/\l70 e.2.1/\l70 e.2.2
 n : s.Walls.length<=256
 c : L5y s e=some 0
def sml (n:Int):Prop := -100<=n/\n<=100
def L9a (p:Pose):Prop:=sml p.At.1/\sml p.At.2.1/\sml p.At.2.2/\sml p.Turn
def K47:Pose:=⟨(0,0,0),0⟩
open Classical in
def L5x (s:Shaft) (edges:V3) (p:Pose) (move:Int):Option (Pose × Int) :=
 if OkSh s edges/\L9a p then
  some (if !(l64 s edges p) || decide (move<0) || decide (8<move) then (K47,1) else if (K11 s edges p move).2 then ((K11 s edges p move).1,0) else (K47,3))
 else none
def L54 (O:Orac):Prop:=∀ (s:Shaft) (edges:V3) (p:Pose) (move:Int) (r:Pose × Int) (hm0:L5x s edges p move=some r),Fn O "newel/shaft.Move" [.agg [I s.Size.1,I s.Size.2.1,I s.Size.2.2,.fs 3 (List.map b70 s.Walls)],.agg [I edges.1,I edges.2.1,I edges.2.2],.agg [I p.At.1,I p.At.2.1,I p.At.2.2,I p.Turn],I move] (.tup [.agg [I r.1.At.1,I r.1.At.2.1,I r.1.At.2.2,I r.1.Turn],I r.2])
@[go_sem] def r61 (x:Pose):List AV:=[I x.At.1,I x.At.2.1,I x.At.2.2,I x.Turn]
theorem L63 (x:Pose):∀ c∈r61 x,Frz c:=(b0a (b0e _) (b0a (b0e _) (b0a (b0e _) (b0a (b0e _) b0j))))
theorem L81 (x:Pose):(r61 x).length=4:=rfl
@[go_sem] theorem M94 {l:List Pose} {n:Nat} {a0:Int} {a1:Int} {a2:Int} {a3:Int}:(List.map r61 l).set n [I a0,I a1,I a2,I a3]=List.map r61 (l.set n (Pose.mk (a0,a1,a2) a3)):=by rw [List.map_set]; rfl
@[go_sem ↓ high,go_sem high] theorem M9v {k:AV->Prop} (a b:Pose):@b2g .eql (.flat [.i,.i,.i,.i]) (.agg [I a.At.1,I a.At.2.1,I a.At.2.2,I a.Turn]) (.agg [I b.At.1,I b.At.2.1,I b.At.2.2,I b.Turn]) ⟨k⟩=k (B (decide (a=b))):=d8r rfl rfl (b3u (b3u (b3u (b3u c61)))) (by
 obtain ⟨⟨a1,a2,a3⟩,a4⟩:=a; obtain ⟨⟨b5,b6,b7⟩,b8⟩:=b
 rw [Bool.eq_iff_iff]; simp only [Bool.and_eq_true,decide_eq_true_eq,and_true]
 constructor
 ·rintro ⟨rfl,rfl,rfl,rfl⟩; rfl
 ·intro h; cases h; exact ⟨rfl,rfl,rfl,rfl⟩)
@[go_sem ↓ high,go_sem high] theorem M92 {k:AV->Prop} (a b:Pose):@b2g .neq (.flat [.i,.i,.i,.i]) (.agg [I a.At.1,I a.At.2.1,I a.At.2.2,I a.Turn]) (.agg [I b.At.1,I b.At.2.1,I b.At.2.2,I b.Turn]) ⟨k⟩=k (B (!(decide (a=b)))):=d80 rfl rfl (b3u (b3u (b3u (b3u c61)))) (by
 obtain ⟨⟨a1,a2,a3⟩,a4⟩:=a; obtain ⟨⟨b5,b6,b7⟩,b8⟩:=b
 rw [Bool.eq_iff_iff]; simp only [Bool.and_eq_true,decide_eq_true_eq,and_true]
 constructor
 ·rintro ⟨rfl,rfl,rfl,rfl⟩; rfl
 ·intro h; cases h; exact ⟨rfl,rfl,rfl,rfl⟩)
def L7m (l:List Pose):Option Int :=
 some (List.length l:Int)
def L4o (l:List Pose) (p:Pose):Int->Option (Out Int (Unit ⊕ Int))
 | i_5 =>
  if decide (i_5<(List.length l:Int)) then
   (get l i_5).bind fun x8 =>
   if decide (x8=p) then
    some (.br (.inr i_5))
   else
    some (.nx (wr (i_5+1)))
  else
   some (.br (.inl ()))
def L4c (l:List Pose) (p:Pose):Option Int :=
 (b0w (L4o l p) (0)).bind fun
  | (.inl ())=>L7m l
  | (.inr r')=>some r'
def L6q (O:Orac):Prop:=∀ (l:List Pose) (p:Pose) (r:Int) (hm0:L4c l p=some r),Fn O "newel/neweltop.posed" [.fs 4 (List.map r61 l),.agg [I p.At.1,I p.At.2.1,I p.At.2.2,I p.Turn]] (I r)
structure Literal where
 Kind : Int
 Number : Int
 Value : Int
 Not : Bool
 deriving Inhabited,DecidableEq
@[go_sem] def b3k (x:Literal):List AV:=[I x.Kind,I x.Number,I x.Value,B x.Not]
theorem c2w (x:Literal):∀ c∈b3k x,Frz c:=(b0a (b0e _) (b0a (b0e _) (b0a (b0e _) (b0a (b0e _) b0j))))
theorem j7o (x:Literal):(b3k x).length=4:=rfl
@[go_sem] theorem o5m {l:List Literal} {n:Nat} {a0:Int} {a1:Int} {a2:Int} {a3:Bool}:(List.map b3k l).set n [I a0,I a1,I a2,B a3]=List.map b3k (l.set n (Literal.mk a0 a1 a2 a3)):=by rw [List.map_set]; rfl
@[go_sem] def b0t (x:List Literal):List AV:=[.fs 4 (List.map b3k x)]
theorem b2j (x:List Literal):∀ c∈b0t x,Frz c:=(b0a (b0c fun a _=>c2w a) b0j)
theorem g1d (x:List Literal):(b0t x).length=1:=rfl
@[go_sem] theorem o5k {l:List (List Literal)} {n:Nat} {a0:List Literal}:(List.map b0t l).set n [.fs 4 (List.map b3k a0)]=List.map b0t (l.set n a0):=by rw [List.map_set]; rfl
def H99 (t_3:List Literal):Option (List (List Literal)) :=
 some ([t_3])
def H9q (n:Int):((List Literal) × Int)->Option (Out ((List Literal) × Int) (((List Literal))))
 | (t_3,i_4) =>
  if decide (i_4<4) then
   (shr .i64 n (IntKind.wrap .u64 i_4)).bind fun q9 =>
   (ap 32 t_3 ([(Literal.mk 1 i_4 0 (decide ((b6y q9 1)=0)))])).bind fun l10 =>
   some (.nx (l10,wr (i_4+1)))
  else
   some (.br t_3)
def H9h (n:Int):Option (List (List Literal)) :=
 (b0w (H9q n) ([],0)).bind fun t_3 =>
 H99 t_3
def J0g (O:Orac):Prop:=∀ (n:Int) (r:List (List Literal)) (hm0:H9h n=some r),Fn O "newel/neweltop.bits" [I n] (.fs 1 (List.map b0t r))
def c9l (s_1:List Int):Option (List Int) :=
 some s_1
def c1j:((List Int) × Int × Int)->Option (Out ((List Int) × Int × Int) (((List Int))))
 | (s_0,i_2,j_3) =>
  if decide (i_2<j_3) then
   (get s_0 j_3).bind fun x11 =>
   (get s_0 i_2).bind fun x13 =>
   (get (List.set s_0 (Int.toNat i_2) x11) j_3).bind fun x14 =>
   some (.nx ((List.set (List.set s_0 (Int.toNat i_2) x11) (Int.toNat j_3) x13),wr (i_2+1),wr (j_3 - 1)))
  else
   some (.br s_0)
def H9x (s:List Int):Option (List Int) :=
 (b0w (c1j) (s,0,wr ((List.length s:Int) - 1))).bind fun s_1 =>
 c9l s_1
def d00 (O:Orac):Prop:=∀ (s:List Int) (v_0:AV) (h0:Heap) (ow_p0:b2a h0 v_0 1 (List.map eI s)) (r:List Int) (hm0:H9x s=some r),b6e O "slices.Reverse[[]int,int]" [v_0] h0 (fun v h=>v = .tup []/\b2a h v_0 1 (List.map eI r)/\(∀ j,j<h0.nx->b07 v_0 j->h.ob j=h0.ob j)/\h0.nx<=h.nx)
def stS (s:Shaft) (e:V3) (p:Pose) (m:Nat):Option Pose:=if m<9/\(K11 s e p m).2=true then some (K11 s e p m).1 else none
open Classical in
def K62 (s:Shaft) (e:V3) (a b:Pose):List Int × Int :=
 if h:∃ l,H85 (stS s e) a b l then ((Classical.choose h).map fun n:Nat=>(n:Int),0) else ([],3)
open Classical in
def L5u (s:Shaft) (edges:V3) (from_ to_:Pose):Option (List Int × Int) :=
 if OkSh s edges/\l64 s edges from_=true/\l64 s edges to_=true then some (K62 s edges from_ to_) else none
def L53 (O:Orac):Prop:=∀ (s:Shaft) (edges:V3) (from_ to_:Pose) (r:List Int × Int) (hm0:L5u s edges from_ to_=some r),Fn O "newel/shaft.Carry" [.agg [I s.Size.1,I s.Size.2.1,I s.Size.2.2,.fs 3 (List.map b70 s.Walls)],.agg [I edges.1,I edges.2.1,I edges.2.2],.agg [I from_.At.1,I from_.At.2.1,I from_.At.2.2,I from_.Turn],.agg [I to_.At.1,I to_.At.2.1,I to_.At.2.2,I to_.Turn]] (.tup [.fs 1 (List.map eI r.1),I r.2])
def b2q (n:Int) (low:Int) (high:Int):Bool :=
 (decide (low<=n)) && (decide (n<=high))
def c5u (O:Orac):Prop:=∀ (n:Int) (low:Int) (high:Int),Fn O "newel/situation.within" [I n,I low,I high] (B (b2q n low high))
@[go_sem] def b4f (x:List ByteArray):List AV:=[.fs 1 (List.map eS x)]
theorem c65 (x:List ByteArray):∀ c∈b4f x,Frz c:=(b0a (b0c fun a _=>b0z a) b0j)
theorem g1e (x:List ByteArray):(b4f x).length=1:=rfl
@[go_sem] theorem o5l {l:List (List ByteArray)} {n:Nat} {a0:List ByteArray}:(List.map b4f l).set n [.fs 1 (List.map eS a0)]=List.map b4f (l.set n a0):=by rw [List.map_set]; rfl
def c9i (slices:List (List ByteArray)):Option (List ByteArray) :=
 if slices.flatten.length * 16<=2 ^ 40/\slices.length<2 ^ 40/\0<slices.flatten.length then some slices.flatten else none
def d0t (O:Orac):Prop:=∀ (slices:List (List ByteArray)) (r:List ByteArray) (hm0:c9i slices=some r),FnW O "slices.Concat[[]string,string]" [.fs 1 (List.map b4f slices)] 1 eS r
def c9j (slices:List (List ByteArray)):Option Unit :=
 if slices.flatten.length=0/\slices.length<2 ^ 40 then some () else none
def d0u (O:Orac):Prop:=∀ (slices:List (List ByteArray)) (r:Unit) (hm0:c9j slices=some r),Fn O "slices.Concat[[]string,string]" [.fs 1 (List.map b4f slices)] (.v (.slice none 0 0))
structure Counter where
 Name : ByteArray
 Max : Int
 deriving Inhabited,DecidableEq
structure State where
 Name : ByteArray
 Shows : Int
 deriving Inhabited,DecidableEq
structure Set where
 Kind : Int
 Counter : Int
 deriving Inhabited,DecidableEq
structure Rule where
 From : Int
 To : Int
 When : List (List Literal)
 Sets : List Set
 deriving Inhabited,DecidableEq
structure Machine where
 Inputs : List ByteArray
 Outputs : List ByteArray
 Counters : List Counter
 States : List State
 Rules : List Rule
 deriving Inhabited,DecidableEq
@[go_sem] def b0o (x:Counter):List AV:=[.v (.string x.Name),I x.Max]
theorem b1q (x:Counter):∀ c∈b0o x,Frz c:=(b0a (b0e _) (b0a (b0e _) b0j))
@[go_sem] theorem o5h {l:List Counter} {n:Nat} {a0:ByteArray} {a1:Int}:(List.map b0o l).set n [.v (.string a0),I a1]=List.map b0o (l.set n (Counter.mk a0 a1)):=by rw [List.map_set]; rfl
@[go_sem] def b0p (x:State):List AV:=[.v (.string x.Name),I x.Shows]
theorem b1s (x:State):∀ c∈b0p x,Frz c:=(b0a (b0e _) (b0a (b0e _) b0j))
theorem j7r (x:State):(b0p x).length=2:=rfl
@[go_sem] theorem o5q {l:List State} {n:Nat} {a0:ByteArray} {a1:Int}:(List.map b0p l).set n [.v (.string a0),I a1]=List.map b0p (l.set n (State.mk a0 a1)):=by rw [List.map_set]; rfl
@[go_sem] def b2o (x:Set):List AV:=[I x.Kind,I x.Counter]
theorem d14 (x:Set):∀ c∈b2o x,Frz c:=(b0a (b0e _) (b0a (b0e _) b0j))
@[go_sem] theorem o5p {l:List Set} {n:Nat} {a0:Int} {a1:Int}:(List.map b2o l).set n [I a0,I a1]=List.map b2o (l.set n (Set.mk a0 a1)):=by rw [List.map_set]; rfl
@[go_sem] def b0m (x:Rule):List AV:=[I x.From,I x.To,.fs 1 (List.map b0t x.When),.fs 2 (List.map b2o x.Sets)]
theorem b1r (x:Rule):∀ c∈b0m x,Frz c:=(b0a (b0e _) (b0a (b0e _) (b0a (b0c fun a _=>b2j a) (b0a (b0c fun a _=>d14 a) b0j))))
theorem j7p (x:Rule):(b0m x).length=4:=rfl
@[go_sem] theorem o5o {l:List Rule} {n:Nat} {a0:Int} {a1:Int} {a2:List (List Literal)} {a3:List Set}:(List.map b0m l).set n [I a0,I a1,.fs 1 (List.map b0t a2),.fs 2 (List.map b2o a3)]=List.map b0m (l.set n (Rule.mk a0 a1 a2 a3)):=by rw [List.map_set]; rfl
def c9c (l_3_1:List ByteArray):Option (List ByteArray) :=
 some l_3_1
def c89 (m:Machine):((List ByteArray) × Int)->Option (Out ((List ByteArray) × Int) (((List ByteArray))))
 | (l_3_1,x_30) =>
  if decide (x_30<(List.length m.States:Int)) then
   (get m.States x_30).bind fun x12 =>
   (ap 16 l_3_1 ([x12.Name])).bind fun l14 =>
   some (.nx (l14,wr (x_30+1)))
  else
   some (.br l_3_1)
def c9b (m:Machine) (l_3:List ByteArray):Option (List ByteArray) :=
 (b0w (c89 m) (l_3,0)).bind fun l_3_1 =>
 c9c l_3_1
def c9a (m:Machine):((List ByteArray) × Int)->Option (Out ((List ByteArray) × Int) (((List ByteArray))))
 | (l_3,x_17) =>
  if decide (x_17<(List.length m.Counters:Int)) then
   (get m.Counters x_17).bind fun x21 =>
   (ap 16 l_3 ([x21.Name])).bind fun l23 =>
   some (.nx (l23,wr (x_17+1)))
  else
   some (.br l_3)
def c88 (m:Machine):Option (List ByteArray) :=
 (c9i ([m.Inputs,m.Outputs])).bind fun y2 =>
 (b0w (c9a m) (y2,0)).bind fun l_3 =>
 c9b m l_3
@[go_sem] def vM (m:Machine):List AV:=[.fs 1 (List.map eS m.Inputs),.fs 1 (List.map eS m.Outputs),.fs 2 (List.map b0o m.Counters),.fs 2 (List.map b0p m.States),.fs 4 (List.map b0m m.Rules)]
theorem fM (m:Machine):Frz (.agg (vM m)):=(.agg _ (b0a (b0c fun a _=>b0z a) (b0a (b0c fun a _=>b0z a) (b0a (b0c fun a _=>b1q a) (b0a (b0c fun a _=>b1s a) (b0a (b0c fun a _=>b1r a) b0j))))))
def d0r (O:Orac):Prop:=∀ (m:Machine) (r:List ByteArray) (hm0:c88 m=some r),Fn O "newel/situation.names" [.agg (vM m)] (.fs 1 (List.map eS r))
def c9h (l_3_1:List ByteArray):Option (List ByteArray) :=
 some l_3_1
def c9e (m:Machine):((List ByteArray) × Int)->Option (Out ((List ByteArray) × Int) (((List ByteArray))))
 | (l_3_1,x_30) =>
  if decide (x_30<(List.length m.States:Int)) then
   (get m.States x_30).bind fun x12 =>
   (ap 16 l_3_1 ([x12.Name])).bind fun l14 =>
   some (.nx (l14,wr (x_30+1)))
  else
   some (.br l_3_1)
def c9g (m:Machine) (l_3:List ByteArray):Option (List ByteArray) :=
 (b0w (c9e m) (l_3,0)).bind fun l_3_1 =>
 c9h l_3_1
def c9f (m:Machine):((List ByteArray) × Int)->Option (Out ((List ByteArray) × Int) (((List ByteArray))))
 | (l_3,x_17) =>
  if decide (x_17<(List.length m.Counters:Int)) then
   (get m.Counters x_17).bind fun x21 =>
   (ap 16 l_3 ([x21.Name])).bind fun l23 =>
   some (.nx (l23,wr (x_17+1)))
  else
   some (.br l_3)
def c9d (m:Machine):Option (List ByteArray) :=
 (c9j ([m.Inputs,m.Outputs])).bind fun y2 =>
 (b0w (c9f m) ([],0)).bind fun l_3 =>
 c9g m l_3
def d0s (O:Orac):Prop:=∀ (m:Machine) (r:List ByteArray) (hm0:c9d m=some r),Fn O "newel/situation.names" [.agg (vM m)] (.fs 1 (List.map eS r))
def c45 (m:Machine):Option (List ByteArray) :=
 if 0<m.Inputs.length+m.Outputs.length then c88 m else c9d m
def d0q (O:Orac):Prop:=∀ (m:Machine) (r:List ByteArray) (hm0:c45 m=some r),Fn O "newel/situation.names" [.agg (vM m)] (.fs 1 (List.map eS r))
def d48 (word:ByteArray):Option Bool :=
 some (!(decide (word=(ByteArray.mk #[]))))
def c42 (word:ByteArray):Int->Option (Out Int (Unit ⊕ Bool))
 | x_8 =>
  if decide (x_8<(List.length (b3q word):Int)) then
   (get (b3q word) x_8).bind fun x8 =>
   if (decide (x8<97)) || (decide (122<x8)) then
    some (.br (.inr false))
   else
    some (.nx (wr (x_8+1)))
  else
   some (.br (.inl ()))
def r1j (word:ByteArray):Option Bool :=
 (b0w (c42 word) (0)).bind fun
  | (.inl ())=>d48 word
  | (.inr r')=>some r'
def d0m (O:Orac):Prop:=∀ (word:ByteArray) (r:Bool) (hm0:r1j word=some r),Fn O "newel/situation.Plain" [.v (.string word)] (B r)
def b5w (x_4:Bool):Bool :=
 if x_4 then
  true
 else
  false
def b84 (word:ByteArray):Bool :=
 if decide (word=(ByteArray.mk #[97,110,121])) then
  b5w (decide (word=(ByteArray.mk #[97,110,121])))
 else
  if decide (word=(ByteArray.mk #[116,111])) then
   b5w (decide (word=(ByteArray.mk #[116,111])))
  else
   if decide (word=(ByteArray.mk #[122,101,114,111])) then
    b5w (decide (word=(ByteArray.mk #[122,101,114,111])))
   else
    if decide (word=(ByteArray.mk #[109,111,114,101])) then
     b5w (decide (word=(ByteArray.mk #[109,111,114,101])))
    else
     if decide (word=(ByteArray.mk #[108,101,115,115])) then
      b5w (decide (word=(ByteArray.mk #[108,101,115,115])))
     else
      if decide (word=(ByteArray.mk #[105,102])) then
       b5w (decide (word=(ByteArray.mk #[105,102])))
      else
       if decide (word=(ByteArray.mk #[121,101,115])) then
        b5w (decide (word=(ByteArray.mk #[121,101,115])))
       else
        b5w (decide (word=(ByteArray.mk #[110,111])))
def d0n (O:Orac):Prop:=∀ (word:ByteArray),Fn O "newel/situation.Reserved" [.v (.string word)] (B (b84 word))
def d49:Option Bool :=
 some true
def c1i (y2:List ByteArray):((List (ByteArray × Int)) × Int)->Option (Out ((List (ByteArray × Int)) × Int) (Unit ⊕ Bool))
 | (seen_3,x_10) =>
  if decide (x_10<(List.length y2:Int)) then
   (get y2 x_10).bind fun x10 =>
   (r1j x10).bind fun y12 =>
   if (((!y12) || (decide (8<(ByteArray.size x10:Int)))) || (b84 x10)) || (decide (1<(b2w (b3w seen_3 x10 (wr ((b2w seen_3 x10 0)+1))) x10 0))) then
    some (.br (.inr false))
   else
    some (.nx ((b3w seen_3 x10 (wr ((b2w seen_3 x10 0)+1))),wr (x_10+1)))
  else
   some (.br (.inl ()))
def c44 (m:Machine):Option Bool :=
 (c45 m).bind fun y2 =>
 (b0w (c1i y2) (([]:List (ByteArray × Int)),0)).bind fun
  | (.inl ())=>d49
  | (.inr r')=>some r'
def d0p (O:Orac):Prop:=∀ (m:Machine) (r:Bool) (hm0:c44 m=some r),Fn O "newel/situation.named" [.agg (vM m)] (B r)
def c43 (m:Machine) (x:Literal):Option Bool :=
 if decide (x.Kind=1) then
  some ((b2q x.Number 0 (wr ((List.length m.Inputs:Int) - 1))) && (decide (x.Value=0)))
 else
  if decide (x.Kind=2) then
   (if (b2q x.Number 0 (wr ((List.length m.Counters:Int) - 1))) then (get m.Counters x.Number).bind fun x7 =>
   some (b2q x.Value 0 x7.Max) else some false).bind fun c8 =>
   some c8
  else
   if decide (x.Kind=3) then
    some ((b2q x.Number 0 (wr ((List.length m.States:Int) - 1))) && (decide (x.Value=0)))
   else
    if decide (x.Kind=4) then
     some ((b2q x.Number 0 (wr ((List.length m.Outputs:Int) - 1))) && (decide (x.Value=0)))
    else
     some false
def d0o (O:Orac):Prop:=∀ (m:Machine) (x:Literal) (r:Bool) (hm0:c43 m x=some r),Fn O "newel/situation.asks" [.agg (vM m),.agg [I x.Kind,I x.Number,I x.Value,B x.Not]] (B r)
def b82 (x:Literal) (c0:Machine):Option Bool :=
 (c43 c0 x).bind fun y2 =>
 some (!y2)
def d0j (O:Orac):Prop:=∀ (x:Literal) (c0:Machine) (r:Bool) (hm0:b82 x c0=some r),Fn O "newel/situation.Asked$1" [.agg [I x.Kind,I x.Number,I x.Value,B x.Not],.fp (vM c0) 0] (B r)
def d5f:Option Int :=
 some (-1)
def g3e (s:List Literal) (f:Literal->Option Bool):Int->Option (Out Int (Unit ⊕ Int))
 | x_8 =>
  if decide (x_8<(List.length s:Int)) then
   (get s x_8).bind fun x9 =>
   (f x9).bind fun y10 =>
   if y10 then
    some (.br (.inr x_8))
   else
    some (.nx (wr (x_8+1)))
  else
   some (.br (.inl ()))
def d5e (s:List Literal) (f:Literal->Option Bool):Option Int :=
 (b0w (g3e s f) (0)).bind fun
  | (.inl ())=>d5f
  | (.inr r')=>some r'
def d0z (O:Orac):Prop:=∀ (s:List Literal) (f_n:String) (f_a f_b:List AV) (f:Literal->Option Bool) (f_z:Frz (.fn f_n f_a f_b)) (f_h:∀ z0 y,f z0=some y->Fn O f_n (f_a++[.agg [I z0.Kind,I z0.Number,I z0.Value,B z0.Not]]++f_b) (B y)) (r:Int) (hm0:d5e s f=some r),Fn O "slices.IndexFunc[newel/api.Term,newel/api.Literal]" [.fs 4 (List.map b3k s),.fn f_n f_a f_b] (I r)
def b7t (s:List Literal) (f:Literal->Option Bool):Option Bool :=
 (d5e s f).bind fun y2 =>
 some (decide (0<=y2))
def c1o (O:Orac):Prop:=∀ (s:List Literal) (f_n:String) (f_a f_b:List AV) (f:Literal->Option Bool) (f_z:Frz (.fn f_n f_a f_b)) (f_h:∀ z0 y,f z0=some y->Fn O f_n (f_a++[.agg [I z0.Kind,I z0.Number,I z0.Value,B z0.Not]]++f_b) (B y)) (r:Bool) (hm0:b7t s f=some r),Fn O "slices.ContainsFunc[newel/api.Term,newel/api.Literal]" [.fs 4 (List.map b3k s),.fn f_n f_a f_b] (B r)
def d46:Option Bool :=
 some true
def c4u (m:Machine) (c:List (List Literal)):Int->Option (Out Int (Unit ⊕ Bool))
 | x_12 =>
  if decide (x_12<(List.length c:Int)) then
   (get c x_12).bind fun x10 =>
   (if decide (6<(List.length x10:Int)) then some true else (b7t x10 (fun z14=>b82 z14 m)).bind fun y15 =>
   some y15).bind fun c16 =>
   if c16 then
    some (.br (.inr false))
   else
    some (.nx (wr (x_12+1)))
  else
   some (.br (.inl ()))
def c1h (m:Machine) (c:List (List Literal)):Option Bool :=
 if decide (6<(List.length c:Int)) then
  some false
 else
  (b0w (c4u m c) (0)).bind fun
   | (.inl ())=>d46
   | (.inr r')=>some r'
def c5t (O:Orac):Prop:=∀ (m:Machine) (c:List (List Literal)) (r:Bool) (hm0:c1h m c=some r),Fn O "newel/situation.Asked" [.agg (vM m),.fs 1 (List.map b0t c)] (B r)
def b7s (x:Literal):Bool :=
 decide (x.Kind=3)
def d0l (O:Orac):Prop:=∀ (x:Literal),Fn O "newel/situation.Check$1" [.agg [I x.Kind,I x.Number,I x.Value,B x.Not]] (B (b7s x))
def d47:Option Int :=
 some 0
def c86 (x_79:Int):Option (Out Int (Unit ⊕ Int)) :=
 some (.nx (wr (x_79+1)))
def c4y (m:Machine) (x24:Rule):Int->Option (Out Int (Unit ⊕ Int))
 | x_127 =>
  if decide (x_127<(List.length x24.Sets:Int)) then
   (get x24.Sets x_127).bind fun x41 =>
   if (!(b2q x41.Kind 1 3)) || (!(b2q x41.Counter 0 (wr ((List.length m.Counters:Int) - 1)))) then
    some (.br (.inr 41))
   else
    some (.nx (wr (x_127+1)))
  else
   some (.br (.inl ()))
def c87 (m:Machine) (x_79:Int) (x24:Rule):Option (Out Int (Unit ⊕ Int)) :=
 (b0w (c4y m x24) (0)).bind fun
  | (.inl ())=>c86 x_79
  | (.inr r')=>some (.br (.inr r'))
def c4x (x24:Rule):Int->Option (Out Int (Unit ⊕ Int))
 | x_117 =>
  if decide (x_117<(List.length x24.When:Int)) then
   (get x24.When x_117).bind fun x50 =>
   (b7t x50 (fun z53=>some (b7s z53))).bind fun y54 =>
   if y54 then
    some (.br (.inr 41))
   else
    some (.nx (wr (x_117+1)))
  else
   some (.br (.inl ()))
def b83 (m:Machine):Int->Option (Out Int (Unit ⊕ Int))
 | x_79 =>
  if decide (x_79<(List.length m.Rules:Int)) then
   (get m.Rules x_79).bind fun x24 =>
   (if (!(b2q x24.From (-1) (wr ((List.length m.States:Int) - 1)))) || (!(b2q x24.To 0 (wr ((List.length m.States:Int) - 1)))) then some true else (c1h m x24.When).bind fun y27 =>
   some (!y27)).bind fun c28 =>
   if c28 || (decide (4<(List.length x24.Sets:Int))) then
    some (.br (.inr 41))
   else
    (b0w (c4x x24) (0)).bind fun
     | (.inl ())=>c87 m x_79 x24
     | (.inr r')=>some (.br (.inr r'))
  else
   some (.br (.inl ()))
def c85 (m:Machine):Option Int :=
 (b0w (b83 m) (0)).bind fun
  | (.inl ())=>d47
  | (.inr r')=>some r'
def c4w (m:Machine):Int->Option (Out Int (Unit ⊕ Int))
 | x_62 =>
  if decide (x_62<(List.length m.States:Int)) then
   (get m.States x_62).bind fun x63 =>
   (shl .i64 1 (List.length m.Outputs:Int)).bind fun q65 =>
   if !(b2q x63.Shows 0 (wr (q65 - 1))) then
    some (.br (.inr 41))
   else
    some (.nx (wr (x_62+1)))
  else
   some (.br (.inl ()))
def p84 (m:Machine):Option Int :=
 (b0w (c4w m) (0)).bind fun
  | (.inl ())=>c85 m
  | (.inr r')=>some r'
def c4z (m:Machine):Int->Option (Out Int (Unit ⊕ Int))
 | x_50 =>
  if decide (x_50<(List.length m.Counters:Int)) then
   (get m.Counters x_50).bind fun x73 =>
   if !(b2q x73.Max 1 7) then
    some (.br (.inr 41))
   else
    some (.nx (wr (x_50+1)))
  else
   some (.br (.inl ()))
def c4v (m:Machine):Option Int :=
 (if ((((decide (4<(List.length m.Inputs:Int))) || (decide (6<(List.length m.Outputs:Int)))) || (decide (2<(List.length m.Counters:Int)))) || (!(b2q (List.length m.States:Int) 1 12))) || (decide (40<(List.length m.Rules:Int))) then some true else (c44 m).bind fun y3 =>
 some (!y3)).bind fun c4 =>
 if c4 then
  some 41
 else
  (b0w (c4z m) (0)).bind fun
   | (.inl ())=>p84 m
   | (.inr r')=>some r'
def d0k (O:Orac):Prop:=∀ (m:Machine) (r:Int) (hm0:c4v m=some r),Fn O "newel/situation.Check" [.agg (vM m)] (I r)
def c2f (m:Machine):Option Int :=
 (c4v m).bind fun y2 =>
 some y2
def c96 (O:Orac):Prop:=∀ (m:Machine) (r:Int) (hm0:c2f m=some r),Fn O "newel/control.Check" [.agg (vM m)] (I r)
@[go_sem] def b4v (x:List (List Literal)):List AV:=[.fs 1 (List.map b0t x)]
theorem b97 (x:List (List Literal)):∀ c∈b4v x,Frz c:=(b0a (b0c fun a _=>b2j a) b0j)
theorem c7o (x:List (List Literal)):(b4v x).length=1:=rfl
@[go_sem] theorem o5j {l:List (List (List Literal))} {n:Nat} {a0:List (List Literal)}:(List.map b4v l).set n [.fs 1 (List.map b0t a0)]=List.map b4v (l.set n a0):=by rw [List.map_set]; rfl
def d1j:Option Int :=
 some 0
def c2i (m:Machine) (conds:List (List (List Literal))):Int->Option (Out Int (Unit ⊕ Int))
 | x_15 =>
  if decide (x_15<(List.length conds:Int)) then
   (get conds x_15).bind fun x12 =>
   (c1h m x12).bind fun y14 =>
   if !y14 then
    some (.br (.inr 42))
   else
    some (.nx (wr (x_15+1)))
  else
   some (.br (.inl ()))
def b9x (m:Machine) (conds:List (List (List Literal))):Option Int :=
 (c2f m).bind fun y2 =>
 if decide (¬y2=0) then
  some y2
 else
  (b0w (c2i m conds) (0)).bind fun
   | (.inl ())=>d1j
   | (.inr r')=>some r'
def c5g (O:Orac):Prop:=∀ (m:Machine) (conds:List (List (List Literal))) (r:Int) (hm0:b9x m conds=some r),Fn O "newel/control.check" [.agg (vM m),.fs 1 (List.map b4v conds)] (I r)
structure situation_Plant where
 Machine : Machine
 deriving Inhabited,DecidableEq
structure control_plant where
 Plant : situation_Plant
 deriving Inhabited,DecidableEq
def b3h (m:Machine):control_plant :=
 (control_plant.mk (situation_Plant.mk m))
def c5h (O:Orac):Prop:=∀ (m:Machine),Fn O "newel/control.of" [.agg (vM m)] (.agg [.fs 1 (List.map eS ((((b3h m).Plant).Machine).Inputs)),.fs 1 (List.map eS ((((b3h m).Plant).Machine).Outputs)),.fs 2 (List.map b0o ((((b3h m).Plant).Machine).Counters)),.fs 2 (List.map b0p ((((b3h m).Plant).Machine).States)),.fs 4 (List.map b0m ((((b3h m).Plant).Machine).Rules))])
def c1y (m:situation_Plant):Option Int :=
 (shl .i64 1 (List.length m.Machine.Inputs:Int)).bind fun q2 =>
 some q2
def c9y (O:Orac):Prop:=∀ (m:situation_Plant) (r:Int) (hm0:c1y m=some r),Fn O "(newel/situation.Plant).All" [.agg (vM m.Machine)] (I r)
structure Place where
 State : Int
 Values : Int × Int
 deriving Inhabited,DecidableEq
def b6w (x:Literal) (holds_9:Bool):Option Bool :=
 some (!(b5c holds_9 x.Not))
def b77 (m:situation_Plant) (x:Literal) (p:Place) (input:Int):Option Bool :=
 if decide (x.Kind=1) then
  (shr .i64 input x.Number).bind fun q5 =>
  b6w x (decide ((b6y q5 1)=1))
 else
  if decide (x.Kind=2) then
   (get [p.Values.1,p.Values.2] x.Number).bind fun x8 =>
   b6w x (decide (x.Value<=x8))
  else
   if decide (x.Kind=3) then
    b6w x (decide (p.State=x.Number))
   else
    if decide (x.Kind=4) then
     (get m.Machine.States p.State).bind fun x13 =>
     (shr .i64 x13.Shows x.Number).bind fun q14 =>
     b6w x (decide ((b6y q14 1)=1))
    else
     b6w x false
def c93 (O:Orac):Prop:=∀ (m:situation_Plant) (x:Literal) (p:Place) (input:Int) (r:Bool) (hm0:b77 m x p input=some r),Fn O "(newel/situation.Plant).literal" [.agg (vM m.Machine),.agg [I x.Kind,I x.Number,I x.Value,B x.Not],.agg [I p.State,I p.Values.1,I p.Values.2],I input] (B r)
def b76 (x:Literal) (c0:situation_Plant) (c1:Place) (c2:Int):Option Bool :=
 (b77 c0 x c1 c2).bind fun y2 =>
 some (!y2)
def c91 (O:Orac):Prop:=∀ (x:Literal) (c0:situation_Plant) (c1:Place) (c2:Int) (r:Bool) (hm0:b76 x c0 c1 c2=some r),Fn O "(newel/situation.Plant).Holds$1$1" [.agg [I x.Kind,I x.Number,I x.Value,B x.Not],.fp (vM c0.Machine) 0,.fp [I c1.State,I c1.Values.1,I c1.Values.2] 0,.fp [I c2] 0] (B r)
def b74 (t_:List Literal) (c0:situation_Plant) (c1:Place) (c2:Int):Option Bool :=
 (b7t t_ (fun z3=>b76 z3 c0 c1 c2)).bind fun y4 =>
 some (!y4)
def c90 (O:Orac):Prop:=∀ (t_:List Literal) (c0:situation_Plant) (c1:Place) (c2:Int) (r:Bool) (hm0:b74 t_ c0 c1 c2=some r),Fn O "(newel/situation.Plant).Holds$1" [.fs 4 (List.map b3k t_),.fp (vM c0.Machine) 0,.fp [I c1.State,I c1.Values.1,I c1.Values.2] 0,.fp [I c2] 0] (B r)
def d5d:Option Int :=
 some (-1)
def g3d (s:List (List Literal)) (f:(List Literal)->Option Bool):Int->Option (Out Int (Unit ⊕ Int))
 | x_8 =>
  if decide (x_8<(List.length s:Int)) then
   (get s x_8).bind fun x9 =>
   (f x9).bind fun y10 =>
   if y10 then
    some (.br (.inr x_8))
   else
    some (.nx (wr (x_8+1)))
  else
   some (.br (.inl ()))
def d5c (s:List (List Literal)) (f:(List Literal)->Option Bool):Option Int :=
 (b0w (g3d s f) (0)).bind fun
  | (.inl ())=>d5d
  | (.inr r')=>some r'
def d0y (O:Orac):Prop:=∀ (s:List (List Literal)) (f_n:String) (f_a f_b:List AV) (f:(List Literal)->Option Bool) (f_z:Frz (.fn f_n f_a f_b)) (f_h:∀ z0 y,f z0=some y->Fn O f_n (f_a++[.fs 4 (List.map b3k z0)]++f_b) (B y)) (r:Int) (hm0:d5c s f=some r),Fn O "slices.IndexFunc[newel/api.Cond,newel/api.Term]" [.fs 1 (List.map b0t s),.fn f_n f_a f_b] (I r)
def c9k (s:List (List Literal)) (f:(List Literal)->Option Bool):Option Bool :=
 (d5c s f).bind fun y2 =>
 some (decide (0<=y2))
def d0w (O:Orac):Prop:=∀ (s:List (List Literal)) (f_n:String) (f_a f_b:List AV) (f:(List Literal)->Option Bool) (f_z:Frz (.fn f_n f_a f_b)) (f_h:∀ z0 y,f z0=some y->Fn O f_n (f_a++[.fs 4 (List.map b3k z0)]++f_b) (B y)) (r:Bool) (hm0:c9k s f=some r),Fn O "slices.ContainsFunc[newel/api.Cond,newel/api.Term]" [.fs 1 (List.map b0t s),.fn f_n f_a f_b] (B r)
def b6v (m:situation_Plant) (c:List (List Literal)) (p:Place) (input:Int):Option Bool :=
 (c9k c (fun z3=>b74 z3 m p input)).bind fun y4 =>
 some y4
def b89 (O:Orac):Prop:=∀ (m:situation_Plant) (c:List (List Literal)) (p:Place) (input:Int) (r:Bool) (hm0:b6v m c p input=some r),Fn O "(newel/situation.Plant).Holds" [.agg (vM m.Machine),.fs 1 (List.map b0t c),.agg [I p.State,I p.Values.1,I p.Values.2],I input] (B r)
def c1z (m:situation_Plant) (assume:List (List Literal)) (p:Place) (input:Int):Option Bool :=
 (if decide ((List.length assume:Int)=0) then some true else (b6v m assume p input).bind fun y3 =>
 some y3).bind fun c4 =>
 some c4
def c9z (O:Orac):Prop:=∀ (m:situation_Plant) (assume:List (List Literal)) (p:Place) (input:Int) (r:Bool) (hm0:c1z m assume p input=some r),Fn O "(newel/situation.Plant).Allowed" [.agg (vM m.Machine),.fs 1 (List.map b0t assume),.agg [I p.State,I p.Values.1,I p.Values.2],I input] (B r)
def r1b (m:situation_Plant) (s:Set) (p:Place):Option Place :=
 (get [p.Values.1,p.Values.2] s.Counter).bind fun x2 =>
 if decide (s.Kind=1) then
  some (Place.mk p.State (b1n s.Counter 0 0 p.Values.1,b1n s.Counter 1 0 p.Values.2))
 else
  if decide (s.Kind=2) then
   (get m.Machine.Counters s.Counter).bind fun x6 =>
   some (Place.mk p.State (b1n s.Counter 0 (mn (wr (x2+1)) x6.Max) p.Values.1,b1n s.Counter 1 (mn (wr (x2+1)) x6.Max) p.Values.2))
  else
   if decide (s.Kind=3) then
    some (Place.mk p.State (b1n s.Counter 0 (mx (wr (x2 - 1)) 0) p.Values.1,b1n s.Counter 1 (mx (wr (x2 - 1)) 0) p.Values.2))
   else
    some (Place.mk p.State (p.Values.1,p.Values.2))
def c94 (O:Orac):Prop:=∀ (m:situation_Plant) (s:Set) (p:Place) (i_2:Nat) (h0:Heap) (ob_p2:h0.ob i_2=some (3,[[I p.State,I p.Values.1,I p.Values.2]])) (lt_p2:i_2<h0.nx) (r:Place) (hm0:r1b m s p=some r),b6e O "(newel/situation.Plant).set" [.agg (vM m.Machine),.agg [I s.Kind,I s.Counter],.rp i_2 0 0] h0 (fun v h=>v = .tup []/\h.ob i_2=some (3,[[I r.State,I r.Values.1,I r.Values.2]])/\(∀ j,j<h0.nx->¬j=i_2->h.ob j=h0.ob j)/\h0.nx<=h.nx)
def c6h (p_4_0:Int) (p_4_1:Int) (p_4_2:Int):Option Place :=
 some (Place.mk p_4_0 (p_4_1,p_4_2))
def c6i (x_15:Int):Option (Out Int ((Int × Int × Int))) :=
 some (.nx (wr (x_15+1)))
def c6g (x9:Rule) (p_4_0:Int) (p_4_1:Int) (p_4_2:Int):Option (Out Int ((Int × Int × Int))) :=
 some (.br (x9.To,p_4_1,p_4_2))
def c11 (m:situation_Plant) (x9:Rule):(Int × Int × Int × Int)->Option (Out (Int × Int × Int × Int) ((Int × Int × Int)))
 | (p_4_0,p_4_1,p_4_2,x_41) =>
  if decide (x_41<(List.length x9.Sets:Int)) then
   (get x9.Sets x_41).bind fun x25 =>
   (r1b m x25 (Place.mk p_4_0 (p_4_1,p_4_2))).bind fun y27 =>
   some (.nx (y27.State,y27.Values.1,y27.Values.2,wr (x_41+1)))
  else
   some (.br (p_4_0,p_4_1,p_4_2))
def c6f (m:situation_Plant) (p:Place) (input:Int):Int->Option (Out Int ((Int × Int × Int)))
 | x_15 =>
  if decide (x_15<(List.length m.Machine.Rules:Int)) then
   (get m.Machine.Rules x_15).bind fun x9 =>
   (if (decide (¬x9.From=(-1))) && (decide (¬x9.From=p.State)) then some true else (b6v m x9.When (Place.mk p.State (p.Values.1,p.Values.2)) input).bind fun y12 =>
   some (!y12)).bind fun c13 =>
   if c13 then
    c6i x_15
   else
    (b0w (c11 m x9) (p.State,p.Values.1,p.Values.2,0)).bind fun
     | (p_4_0,p_4_1,p_4_2)=>c6g x9 p_4_0 p_4_1 p_4_2
  else
   some (.br (p.State,p.Values.1,p.Values.2))
def r7y (m:situation_Plant) (p:Place) (input:Int):Option Place :=
 (b0w (c6f m p input) (0)).bind fun
  | (p_4_0,p_4_1,p_4_2)=>c6h p_4_0 p_4_1 p_4_2
def c92 (O:Orac):Prop:=∀ (m:situation_Plant) (p:Place) (input:Int) (r:Place) (hm0:r7y m p input=some r),Fn O "(newel/situation.Plant).Step" [.agg (vM m.Machine),.agg [I p.State,I p.Values.1,I p.Values.2],I input] (.agg [I r.State,I r.Values.1,I r.Values.2])
structure control_walk where
 places : List Place
 from_ : List Int
 by_ : List Int
 next : List (List Int)
 deriving Inhabited,DecidableEq
@[go_sem] def b1g (x:Place):List AV:=[I x.State,I x.Values.1,I x.Values.2]
theorem x46 (x:Place):∀ c∈b1g x,Frz c:=(b0a (b0e _) (b0a (b0e _) (b0a (b0e _) b0j)))
theorem d32 (x:Place):(b1g x).length=3:=rfl
@[go_sem] theorem o5n {l:List Place} {n:Nat} {a0:Int} {a1:Int} {a2:Int}:(List.map b1g l).set n [I a0,I a1,I a2]=List.map b1g (l.set n (Place.mk a0 (a1,a2))):=by rw [List.map_set]; rfl
def x23 (x:Place):List Int:=[x.State,x.Values.1,x.Values.2]
theorem d30:∀ a b,b3o false (vks x23 a) (vks x23 b)=some (decide (a=b)):=j7d (n:=3) (fun _=>rfl) fun a b h=>by
 obtain ⟨a1,⟨a2,a3⟩⟩:=a; obtain ⟨b4,⟨b5,b6⟩⟩:=b
 simp only [x23,List.cons.injEq,and_true] at h
 obtain ⟨rfl,rfl,rfl⟩:=h; rfl
@[go_sem] def b2f (x:List Int):List AV:=[.fs 1 (List.map eI x)]
theorem b8i (x:List Int):∀ c∈b2f x,Frz c:=(b0a (b0c fun a _=>b1t a) b0j)
theorem j7n (x:List Int):(b2f x).length=1:=rfl
@[go_sem] theorem o5i {l:List (List Int)} {n:Nat} {a0:List Int}:(List.map b2f l).set n [.fs 1 (List.map eI a0)]=List.map b2f (l.set n a0):=by rw [List.map_set]; rfl
def c6a (w_7_0:List Place) (w_7_1:List Int) (w_7_2:List Int) (w_7_3:List (List Int)):Option control_walk :=
 some (control_walk.mk w_7_0 w_7_1 w_7_2 w_7_3)
def c6b (at_9:Int) (w_7_0_1:List Place) (w_7_1_1:List Int) (w_7_2_1:List Int) (w_7_3_1:List (List Int)) (found_8_1:List (Place × Int)):Option (Out ((List Place) × (List Int) × (List Int) × (List (List Int)) × (List (Place × Int)) × Int) (((List Place) × (List Int) × (List Int) × (List (List Int))))) :=
 some (.nx (w_7_0_1,w_7_1_1,w_7_2_1,w_7_3_1,found_8_1,wr (at_9+1)))
def c59 (w_7_3:List (List Int)) (at_9:Int) (w_7_0_1:List Place) (w_7_1_1:List Int) (w_7_2_1:List Int) (found_8_1:List (Place × Int)) (row_11:List Int):Option (Out ((List Place) × (List Int) × (List Int) × (List (List Int)) × (List (Place × Int)) × Int) (((List Place) × (List Int) × (List Int) × (List (List Int))))) :=
 (ap 24 w_7_3 ([row_11])).bind fun l17 =>
 c6b at_9 w_7_0_1 w_7_1_1 w_7_2_1 l17 found_8_1
def c1v (x_47:Int) (w_7_0_2:List Place) (w_7_1_2:List Int) (w_7_2_2:List Int) (found_8_2:List (Place × Int)) (row_11_1:List Int):Option (Out ((List Place) × (List Int) × (List Int) × (List (Place × Int)) × (List Int) × Int) (((List Place) × (List Int) × (List Int) × (List (Place × Int)) × (List Int)))) :=
 some (.nx (w_7_0_2,w_7_1_2,w_7_2_2,found_8_2,row_11_1,wr (x_47+1)))
def c1w (row_11:List Int) (x_47:Int) (w_7_0_2:List Place) (w_7_1_2:List Int) (w_7_2_2:List Int) (found_8_2:List (Place × Int)) (to_14:Int):Option (Out ((List Place) × (List Int) × (List Int) × (List (Place × Int)) × (List Int) × Int) (((List Place) × (List Int) × (List Int) × (List (Place × Int)) × (List Int)))) :=
 (get (List.set row_11 (Int.toNat x_47) (-1)) x_47).bind fun x36 =>
 c1v x_47 w_7_0_2 w_7_1_2 w_7_2_2 found_8_2 (List.set (List.set row_11 (Int.toNat x_47) (-1)) (Int.toNat x_47) to_14)
def c1u (m:control_plant) (assume:List (List Literal)) (heard:Int->Option Int) (at_9:Int) (x9:Place) (l13:List Int):((List Place) × (List Int) × (List Int) × (List (Place × Int)) × (List Int) × Int)->Option (Out ((List Place) × (List Int) × (List Int) × (List (Place × Int)) × (List Int) × Int) (((List Place) × (List Int) × (List Int) × (List (Place × Int)) × (List Int))))
 | (w_7_0_1,w_7_1_1,w_7_2_1,found_8_1,row_11,x_47) =>
  if decide (x_47<((List.length l13:Nat):Int)) then
   (get row_11 x_47).bind fun x24 =>
   (c1z m.Plant assume (Place.mk x9.State (x9.Values.1,x9.Values.2)) x_47).bind fun y26 =>
   if !y26 then
    c1v x_47 w_7_0_1 w_7_1_1 w_7_2_1 found_8_1 (List.set row_11 (Int.toNat x_47) (-1))
   else
    (heard x_47).bind fun y31 =>
    (r7y m.Plant (Place.mk x9.State (x9.Values.1,x9.Values.2)) y31).bind fun y32 =>
    if !(b6m found_8_1 (Place.mk y32.State (y32.Values.1,y32.Values.2))) then
     (ap 24 w_7_0_1 ([(Place.mk y32.State (y32.Values.1,y32.Values.2))])).bind fun l41 =>
     (ap 8 w_7_1_1 ([at_9])).bind fun l42 =>
     (ap 8 w_7_2_1 ([x_47])).bind fun l43 =>
     c1w row_11 x_47 l41 l42 l43 (b3w found_8_1 (Place.mk y32.State (y32.Values.1,y32.Values.2)) ((List.length w_7_0_1:Nat):Int)) ((List.length w_7_0_1:Nat):Int)
    else
     c1w row_11 x_47 w_7_0_1 w_7_1_1 w_7_2_1 found_8_1 (b2w found_8_1 (Place.mk y32.State (y32.Values.1,y32.Values.2)) 0)
  else
   some (.br (w_7_0_1,w_7_1_1,w_7_2_1,found_8_1,row_11))
def b9i (m:control_plant) (assume:List (List Literal)) (heard:Int->Option Int):((List Place) × (List Int) × (List Int) × (List (List Int)) × (List (Place × Int)) × Int)->Option (Out ((List Place) × (List Int) × (List Int) × (List (List Int)) × (List (Place × Int)) × Int) (((List Place) × (List Int) × (List Int) × (List (List Int)))))
 | (w_7_0,w_7_1,w_7_2,w_7_3,found_8,at_9) =>
  if decide (at_9<((List.length w_7_0:Nat):Int)) then
   (get w_7_0 at_9).bind fun x9 =>
   (c1y m.Plant).bind fun y12 =>
   (mks 8 y12 0).bind fun l13 =>
   (b0w (c1u m assume heard at_9 x9 l13) (w_7_0,w_7_1,w_7_2,found_8,l13,0)).bind fun
    | (w_7_0_1,w_7_1_1,w_7_2_1,found_8_1,row_11)=>c59 w_7_3 at_9 w_7_0_1 w_7_1_1 w_7_2_1 found_8_1 row_11
  else
   some (.br (w_7_0,w_7_1,w_7_2,w_7_3))
def b9h (m:control_plant) (assume:List (List Literal)) (heard:Int->Option Int):Option control_walk :=
 (b0w (b9i m assume heard) ([(Place.mk 0 (0,0))],[(-1)],[0],[],(b3w ([]:List (Place × Int)) (Place.mk 0 (0,0)) 0),0)).bind fun
  | (w_7_0,w_7_1,w_7_2,w_7_3)=>c6a w_7_0 w_7_1 w_7_2 w_7_3
def c5e (O:Orac):Prop:=∀ (m:control_plant) (assume:List (List Literal)) (heard_n:String) (heard_a heard_b:List AV) (heard:Int->Option Int) (heard_z:Frz (.fn heard_n heard_a heard_b)) (heard_h:∀ z0 y,heard z0=some y->Fn O heard_n (heard_a++[I z0]++heard_b) (I y)) (r:control_walk) (hm0:b9h m assume heard=some r),Fn O "(newel/control.plant).explore" [.agg (vM m.Plant.Machine),.fs 1 (List.map b0t assume),.fn heard_n heard_a heard_b] (.fp [.fs 3 (List.map b1g r.places),.fs 1 (List.map eI r.from_),.fs 1 (List.map eI r.by_),.fs 1 (List.map b2f r.next)] 0)
def b9g (at_:Int) (c0:control_plant) (c1:List (List Literal)) (c2:control_walk):Option Bool :=
 (get c2.places at_).bind fun x3 =>
 (b6v c0.Plant c1 x3 0).bind fun y4 =>
 some y4
def c9w (O:Orac):Prop:=∀ (at_:Int) (c0:control_plant) (c1:List (List Literal)) (c2:control_walk) (r:Bool) (hm0:b9g at_ c0 c1 c2=some r),Fn O "(newel/control.plant).breach$1" [I at_,.fp (vM c0.Plant.Machine) 0,.fp [.fs 1 (List.map b0t c1)] 0,.fp [.fp [.fs 3 (List.map b1g c2.places),.fs 1 (List.map eI c2.from_),.fs 1 (List.map eI c2.by_),.fs 1 (List.map b2f c2.next)] 0] 0] (B r)
def c57 (l_5:List Int):Option (List Int) :=
 (H9x l_5).bind fun y4 =>
 some y4
def b72 (w_:control_walk):(Int × (List Int))->Option (Out (Int × (List Int)) (((List Int))))
 | (at_1,l_5) =>
  (get w_.from_ at_1).bind fun x7 =>
  if decide (0<=x7) then
   (get w_.by_ at_1).bind fun x13 =>
   (ap 8 l_5 ([x13])).bind fun l14 =>
   some (.nx (x7,l14))
  else
   some (.br l_5)
def b71 (w_:control_walk) (at_:Int):Option (List Int) :=
 (b0w (b72 w_) (at_,[])).bind fun l_5 =>
 c57 l_5
def c9u (O:Orac):Prop:=∀ (w_:control_walk) (at_:Int) (r:List Int) (hm0:b71 w_ at_=some r),Fn O "(*newel/control.walk).run" [.fp [.fs 3 (List.map b1g w_.places),.fs 1 (List.map eI w_.from_),.fs 1 (List.map eI w_.by_),.fs 1 (List.map b2f w_.next)] 0,I at_] (.fs 1 (List.map eI r))
def c56:Option ((List Int) × Bool) :=
 some ([],false)
def b9f (w_:control_walk) (wanted:Int->Option Bool):Int->Option (Out Int (Unit ⊕ (((List Int) × Bool))))
 | x_12 =>
  if decide (x_12<(List.length w_.places:Int)) then
   (wanted x_12).bind fun y8 =>
   if y8 then
    (b71 w_ x_12).bind fun y11 =>
    some (.br (.inr (y11,true)))
   else
    some (.nx (wr (x_12+1)))
  else
   some (.br (.inl ()))
def b9e (w_:control_walk) (wanted:Int->Option Bool):Option ((List Int) × Bool) :=
 (b0w (b9f w_ wanted) (0)).bind fun
  | (.inl ())=>c56
  | (.inr r')=>some r'
def c5d (O:Orac):Prop:=∀ (w_:control_walk) (wanted_n:String) (wanted_a wanted_b:List AV) (wanted:Int->Option Bool) (wanted_z:Frz (.fn wanted_n wanted_a wanted_b)) (wanted_h:∀ z0 y,wanted z0=some y->Fn O wanted_n (wanted_a++[I z0]++wanted_b) (B y)) (r:(List Int) × Bool) (hm0:b9e w_ wanted=some r),Fn O "(*newel/control.walk).first" [.fp [.fs 3 (List.map b1g w_.places),.fs 1 (List.map eI w_.from_),.fs 1 (List.map eI w_.by_),.fs 1 (List.map b2f w_.next)] 0,.fn wanted_n wanted_a wanted_b] (.tup [.fs 1 (List.map eI r.1),B r.2])
def c1t (m:control_plant) (assume:List (List Literal)) (never:List (List Literal)) (heard:Int->Option Int):Option ((List Int) × Bool) :=
 (b9h m assume heard).bind fun y2 =>
 (b9e y2 (fun z5=>b9g z5 m never y2)).bind fun y6 =>
 some (y6.1,y6.2)
def c9v (O:Orac):Prop:=∀ (m:control_plant) (assume:List (List Literal)) (never:List (List Literal)) (heard_n:String) (heard_a heard_b:List AV) (heard:Int->Option Int) (heard_z:Frz (.fn heard_n heard_a heard_b)) (heard_h:∀ z0 y,heard z0=some y->Fn O heard_n (heard_a++[I z0]++heard_b) (I y)) (r:(List Int) × Bool) (hm0:c1t m assume never heard=some r),Fn O "(newel/control.plant).breach" [.agg (vM m.Plant.Machine),.fs 1 (List.map b0t assume),.fs 1 (List.map b0t never),.fn heard_n heard_a heard_b] (.tup [.fs 1 (List.map eI r.1),B r.2])
def b6f (input:Int):Int :=
 input
def c5i (O:Orac):Prop:=∀ (input:Int),Fn O "newel/control.same" [I input] (I (b6f input))
def c2e (m:Machine) (assume:List (List Literal)) (never:List (List Literal)):Option ((List Int) × Bool × Int) :=
 (b9x m ([assume,never])).bind fun y2 =>
 if decide (¬y2=0) then
  some ([],false,y2)
 else
  (c1t (b3h m) assume never (fun z7=>some (b6f z7))).bind fun y8 =>
  some (y8.1,y8.2,0)
def c95 (O:Orac):Prop:=∀ (m:Machine) (assume:List (List Literal)) (never:List (List Literal)) (r:(List Int) × Bool × Int) (hm0:c2e m assume never=some r),Fn O "newel/control.Breach" [.agg (vM m),.fs 1 (List.map b0t assume),.fs 1 (List.map b0t never)] (.tup [.fs 1 (List.map eI r.1),B r.2.1,I r.2.2])
structure l09_Crate where
 Edges : Int × Int × Int
 Pose : Pose
 Move : Int
 deriving Inhabited,DecidableEq
def L6c:Option Bool :=
 (L1k).bind fun y42 =>
 some y42
def L5a (y22:(List Int) × Int) (y33:(List Int) × Bool × Int):Int->Option (Out Int (Unit ⊕ Bool))
 | i_24 =>
  if decide (i_24<(List.length y33.1:Int)) then
   (get y33.1 i_24).bind fun x49 =>
   (get y22.1 i_24).bind fun x50 =>
   if decide (¬x49=x50) then
    some (.br (.inr false))
   else
    some (.nx (wr (i_24+1)))
  else
   some (.br (.inl ()))
def L5m (s:Shaft) (c:l09_Crate) (to_:Pose) (poses_11:List Pose) (m_12_3:List State) (m_12_4:List Rule):Option Bool :=
 (L5u s (c.Edges.1,c.Edges.2.1,c.Edges.2.2) (Pose.mk (c.Pose.At.1,c.Pose.At.2.1,c.Pose.At.2.2) c.Pose.Turn) to_).bind fun y22 =>
 (L4c poses_11 to_).bind fun y24 =>
 if decide (y24=((List.length poses_11:Nat):Int)) then
  (if decide (y22.2=3) then (L1k).bind fun y29 =>
  some y29 else some false).bind fun c30 =>
  some c30
 else
  (c2e (Machine.mk l57 ([]) ([]) m_12_3 m_12_4) ([]) ([[(Literal.mk 3 y24 0 false)]])).bind fun y33 =>
  if (((decide (¬y22.2=0)) || (decide (¬y33.2.2=0))) || (!y33.2.1)) || (decide (¬(List.length y33.1:Int)=(List.length y22.1:Int))) then
   some false
  else
   (b0w (L5a y22 y33) (0)).bind fun
    | (.inl ())=>L6c
    | (.inr r')=>some r'
def L5n (i_13:Int) (poses_11_1:List Pose) (m_12_3_1:List State) (m_12_4_1:List Rule):Option (Out ((List Pose) × (List State) × (List Rule) × Int) (((List Pose) × (List State) × (List Rule)) ⊕ Bool)) :=
 some (.nx (poses_11_1,m_12_3_1,m_12_4_1,wr (i_13+1)))
def L5b (move_14:Int) (poses_11_2:List Pose) (m_12_4_2:List Rule):Option (Out ((List Pose) × (List Rule) × Int) (((List Pose) × (List State) × (List Rule)) ⊕ Bool)) :=
 some (.nx (poses_11_2,m_12_4_2,wr (move_14+1)))
def L4n (i_13:Int) (m_12_4_1:List Rule) (move_14:Int) (y76:Int) (poses_11_2:List Pose):Option (Out ((List Pose) × (List Rule) × Int) (((List Pose) × (List State) × (List Rule)) ⊕ Bool)) :=
 (H9h move_14).bind fun y81 =>
 (ap 64 m_12_4_1 ([(Rule.mk i_13 y76 y81 ([]))])).bind fun l82 =>
 if (decide (12<((List.length poses_11_2:Nat):Int))) || (decide (40<((List.length l82:Nat):Int))) then
  (L1k).bind fun y86 =>
  some (.br (.inr y86))
 else
  L5b move_14 poses_11_2 l82
def L49 (s:Shaft) (c:l09_Crate) (i_13:Int) (l61:List State):((List Pose) × (List Rule) × Int)->Option (Out ((List Pose) × (List Rule) × Int) (((List Pose) × (List State) × (List Rule)) ⊕ Bool))
 | (poses_11_1,m_12_4_1,move_14) =>
  if decide (move_14<9) then
   (get poses_11_1 i_13).bind fun x69 =>
   (L5x s (c.Edges.1,c.Edges.2.1,c.Edges.2.2) x69 move_14).bind fun y70 =>
   if decide (y70.2=3) then
    L5b move_14 poses_11_1 m_12_4_1
   else
    if decide (¬y70.2=0) then
     some (.br (.inr false))
    else
     (L4c poses_11_1 (Pose.mk (y70.1.At.1,y70.1.At.2.1,y70.1.At.2.2) y70.1.Turn)).bind fun y76 =>
     if decide (y76=((List.length poses_11_1:Nat):Int)) then
      (ap 32 poses_11_1 ([(Pose.mk (y70.1.At.1,y70.1.At.2.1,y70.1.At.2.2) y70.1.Turn)])).bind fun l89 =>
      L4n i_13 m_12_4_1 move_14 y76 l89
     else
      L4n i_13 m_12_4_1 move_14 y76 poses_11_1
  else
   some (.br (.inl (poses_11_1,l61,m_12_4_1)))
def L5l (s:Shaft) (c:l09_Crate):((List Pose) × (List State) × (List Rule) × Int)->Option (Out ((List Pose) × (List State) × (List Rule) × Int) (((List Pose) × (List State) × (List Rule)) ⊕ Bool))
 | (poses_11,m_12_3,m_12_4,i_13) =>
  if decide (i_13<((List.length poses_11:Nat):Int)) then
   (K13 (ByteArray.mk #[112]) i_13).bind fun y60 =>
   (ap 24 m_12_3 ([(State.mk y60 0)])).bind fun l61 =>
   (b0w (L49 s c i_13 l61) (poses_11,m_12_4,0)).bind fun
    | (.inl (poses_11_1,m_12_3_1,m_12_4_1))=>L5n i_13 poses_11_1 m_12_3_1 m_12_4_1
    | (.inr r')=>some (.br (.inr r'))
  else
   some (.br (.inl (poses_11,m_12_3,m_12_4)))
def L5k (s:Shaft) (c:l09_Crate) (to_:Pose):Option Bool :=
 (if (L5i s) then some true else (L4r s (c.Edges.1,c.Edges.2.1,c.Edges.2.2)).bind fun y3 =>
 some (decide (¬y3=0))).bind fun c4 =>
 if c4 then
  (L1k).bind fun y9 =>
  some y9
 else
  (L5c s (c.Edges.1,c.Edges.2.1,c.Edges.2.2) (Pose.mk (c.Pose.At.1,c.Pose.At.2.1,c.Pose.At.2.2) c.Pose.Turn)).bind fun y11 =>
  (L5c s (c.Edges.1,c.Edges.2.1,c.Edges.2.2) to_).bind fun y13 =>
  if (!y11.1) || (!y13.1) then
   (L1k).bind fun y18 =>
   some y18
  else
   (b0w (L5l s c) ([(Pose.mk (c.Pose.At.1,c.Pose.At.2.1,c.Pose.At.2.2) c.Pose.Turn)],[],[],0)).bind fun
    | (.inl (poses_11,m_12_3,m_12_4))=>L5m s c to_ poses_11 m_12_3 m_12_4
    | (.inr r')=>some r'
def L8a (O:Orac):Prop:=∀ (s:Shaft) (c:l09_Crate) (to_:Pose) (r:Bool) (hm0:L5k s c to_=some r),Fn O "newel/neweltop.TopCrane" [.agg [I s.Size.1,I s.Size.2.1,I s.Size.2.2,.fs 3 (List.map b70 s.Walls)],.agg [I c.Edges.1,I c.Edges.2.1,I c.Edges.2.2,I c.Pose.At.1,I c.Pose.At.2.1,I c.Pose.At.2.2,I c.Pose.Turn,I c.Move],.agg [I to_.At.1,I to_.At.2.1,I to_.At.2.2,I to_.Turn]] (B r)
end
end Go.Nw.YM
