/- Models of functions: printed by gen.py. -/
import Derived.Test.YtojneiildpnpiaaNwMaps
import Derived.Test.YtojneiildpnpiaaNwTp6Src
set_option linter.all false
namespace Go.Nw.EM
noncomputable section
open Go.Nw.Tp6
set_option maxHeartbeats 4000000
theorem lA9 {α:Type} {l m:List α}:(l++m).length=l.length+m.length:=List.length_append
theorem mA9 {α β:Type} {f:α → β} {l m:List α}:List.map f (l++m)=List.map f l++List.map f m:=List.map_append
theorem oF9 {a b:Bool}:(a || b)=false ↔ a=false ∧ b=false:=Bool.or_eq_false_iff
theorem nF9:(¬False)=True:=not_false_eq_true
theorem bF9 {α:Type} [BEq α] [LawfulBEq α] {a b:α}:(a == b)=false ↔ a≠b:=beq_eq_false_iff_ne
theorem sI9 {α:Type} {a b:α} (h:some a=some b):a=b:=Option.some.inj h
theorem va9 {p:Prop} (h:p:=by first|(simp only [go_sem,List.length_append,List.map_append]; done)|rfl):p:=h
theorem vb9 {p:Prop} (h:p:=by first|exact b1w|exact b1y (by first|assumption|omega|(simp only [nxs] <;> omega))|assumption|exact b1v (by assumption) (by first|assumption|omega|(simp only [nxs] <;> omega))):p:=h
theorem vc9 {p:Prop} (h:p:=by simp only [go_sem,List.length_append,List.map_append]):p:=h
theorem vd9 {p:Prop} (h:p:=by first|first|assumption|omega|(simp only [nxs] <;> omega)):p:=h
theorem ve9 {p:Prop} (h:p:=by first|exact b1w|exact b1y (by first|omega|(simp only [nxs] <;> omega))|assumption|exact b1v (by assumption) (by first|omega|(simp only [go_sem,nxs] <;> omega))):p:=h
theorem vf9 {p:Prop} (h:p:=by first|assumption|omega|(simp only [nxs] <;> omega)):p:=h
theorem vg9 {p:Prop} (h:p:=by first|rfl|simp only [go_sem,List.length_append,List.map_append]):p:=h
theorem vh9 {p:Prop} (h:p:=by simp only [go_sem]):p:=h
variable {O:Orac} [MapsOk O]
def d5b:Option Int :=
 some (-1)
def g3c (s:List Int) (f:Int->Option Bool):Int->Option (Out Int (Unit ⊕ Int))
 | x_8 =>
  if decide (x_8<(List.length s:Int)) then
   (get s x_8).bind fun x9 =>
   (f x9).bind fun y10 =>
   if y10 then
    some (.br (.inr x_8))
   else
    some (.nx (wr (x_8+1)))
  else
   some (.br (.inl ()))
def d5a (s:List Int) (f:Int->Option Bool):Option Int :=
 (b0w (g3c s f) (0)).bind fun
  | (.inl ())=>d5b
  | (.inr r')=>some r'
def d0x (O:Orac):Prop:=∀ (s:List Int) (f_n:String) (f_a f_b:List AV) (f:Int->Option Bool) (f_z:Frz (.fn f_n f_a f_b)) (f_h:∀ z0 y,f z0=some y->Fn O f_n (f_a++[I z0]++f_b) (B y)) (r:Int) (hm0:d5a s f=some r),Fn O "slices.IndexFunc[[]int,int]" [.fs 1 (List.map eI s),.fn f_n f_a f_b] (I r)
def J8e (s:List Int) (f:Int->Option Bool):Option Bool :=
 (d5a s f).bind fun y2 =>
 some (decide (0<=y2))
def d0v (O:Orac):Prop:=∀ (s:List Int) (f_n:String) (f_a f_b:List AV) (f:Int->Option Bool) (f_z:Frz (.fn f_n f_a f_b)) (f_h:∀ z0 y,f z0=some y->Fn O f_n (f_a++[I z0]++f_b) (B y)) (r:Bool) (hm0:J8e s f=some r),Fn O "slices.ContainsFunc[[]int,int]" [.fs 1 (List.map eI s),.fn f_n f_a f_b] (B r)
def N2u:Option Int :=
 some (-1)
def N03 (s:List Int) (v:Int):Int->Option (Out Int (Unit ⊕ Int))
 | x_8 =>
  if decide (x_8<(List.length s:Int)) then
   (get s x_8).bind fun x8 =>
   if decide (v=x8) then
    some (.br (.inr x_8))
   else
    some (.nx (wr (x_8+1)))
  else
   some (.br (.inl ()))
def N1p (s:List Int) (v:Int):Option Int :=
 (b0w (N03 s v) (0)).bind fun
  | (.inl ())=>N2u
  | (.inr r')=>some r'
def N1t (O:Orac):Prop:=∀ (s:List Int) (v:Int) (r:Int) (hm0:N1p s v=some r),Fn O "slices.Index[[]int,int]" [.fs 1 (List.map eI s),I v] (I r)
def N02 (s:List Int) (v:Int):Option Bool :=
 (N1p s v).bind fun y2 =>
 some (decide (0<=y2))
def N0o (O:Orac):Prop:=∀ (s:List Int) (v:Int) (r:Bool) (hm0:N02 s v=some r),Fn O "slices.Contains[[]int,int]" [.fs 1 (List.map eI s),I v] (B r)
def L1k:Option Bool:=some true
def L16 (O:Orac):Prop:=∀ (r:Bool) (hm0:L1k=some r),Fn O "newel/neweltop.measures" [] (B r)
structure Span where
 Low : Int
 High : Int
 deriving Inhabited,DecidableEq
def x80 (n:Int) (s:Span):Bool :=
 (decide (s.Low<=n)) && (decide (n<=s.High))
def G0m (O:Orac):Prop:=∀ (n:Int) (s:Span),Fn O "newel/halls.in" [I n,.agg [I s.Low,I s.High]] (B (x80 n s))
def P1k (s:Span) (low:Int) (high:Int):Bool :=
 ((decide (low<=s.Low)) && (decide (s.Low<=s.High))) && (decide (s.High<=high))
def G0o (O:Orac):Prop:=∀ (s:Span) (low:Int) (high:Int),Fn O "newel/halls.span" [.agg [I s.Low,I s.High],I low,I high] (B (P1k s low high))
structure Comb where
 Rate : Int
 Limit : Int
 Next : Int
 Walk : Span
 deriving Inhabited,DecidableEq
structure Crowd where
 Comb : Int
 People : Span
 deriving Inhabited,DecidableEq
structure Train where
 At : Span
 Crowds : List Crowd
 deriving Inhabited,DecidableEq
structure Shift where
 At : Int
 Comb : Int
 Rate : Int
 deriving Inhabited,DecidableEq
structure Hall where
 Combs : List Comb
 Trains : List Train
 Shifts : List Shift
 Until : Int
 deriving Inhabited,DecidableEq
@[go_sem] def b15 (x:Comb):List AV:=[I x.Rate,I x.Limit,I x.Next,I x.Walk.Low,I x.Walk.High]
theorem c62 (x:Comb):∀ c∈b15 x,Frz c:=(b0a (b0e _) (b0a (b0e _) (b0a (b0e _) (b0a (b0e _) (b0a (b0e _) b0j)))))
@[go_sem] theorem H8x {l:List Comb} {n:Nat} {a0:Int} {a1:Int} {a2:Int} {a3:Int} {a4:Int}:(List.map b15 l).set n [I a0,I a1,I a2,I a3,I a4]=List.map b15 (l.set n (Comb.mk a0 a1 a2 (Span.mk a3 a4))):=by rw [List.map_set]; rfl
@[go_sem] def c16 (x:Crowd):List AV:=[I x.Comb,I x.People.Low,I x.People.High]
theorem E7k (x:Crowd):∀ c∈c16 x,Frz c:=(b0a (b0e _) (b0a (b0e _) (b0a (b0e _) b0j)))
@[go_sem] theorem H8y {l:List Crowd} {n:Nat} {a0:Int} {a1:Int} {a2:Int}:(List.map c16 l).set n [I a0,I a1,I a2]=List.map c16 (l.set n (Crowd.mk a0 (Span.mk a1 a2))):=by rw [List.map_set]; rfl
@[go_sem] def b11 (x:Train):List AV:=[I x.At.Low,I x.At.High,.fs 3 (List.map c16 x.Crowds)]
theorem c19 (x:Train):∀ c∈b11 x,Frz c:=(b0a (b0e _) (b0a (b0e _) (b0a (b0c fun a _=>E7k a) b0j)))
@[go_sem] theorem H81 {l:List Train} {n:Nat} {a0:Int} {a1:Int} {a2:List Crowd}:(List.map b11 l).set n [I a0,I a1,.fs 3 (List.map c16 a2)]=List.map b11 (l.set n (Train.mk (Span.mk a0 a1) a2)):=by rw [List.map_set]; rfl
@[go_sem] def b20 (x:Shift):List AV:=[I x.At,I x.Comb,I x.Rate]
theorem c69 (x:Shift):∀ c∈b20 x,Frz c:=(b0a (b0e _) (b0a (b0e _) (b0a (b0e _) b0j)))
@[go_sem] theorem H80 {l:List Shift} {n:Nat} {a0:Int} {a1:Int} {a2:Int}:(List.map b20 l).set n [I a0,I a1,I a2]=List.map b20 (l.set n (Shift.mk a0 a1 a2)):=by rw [List.map_set]; rfl
def E8g (h_:Hall) (i:Int):Option Bool :=
 (get h_.Combs i).bind fun x2 =>
 some ((((x80 x2.Rate (Span.mk 0 1000)) && (x80 x2.Limit (Span.mk 0 100000))) && ((decide (x2.Next=(-1))) || ((decide (i<x2.Next)) && (decide (x2.Next<(List.length h_.Combs:Int)))))) && (P1k x2.Walk 1 20))
def G1y (O:Orac):Prop:=∀ (h_:Hall) (i:Int) (r:Bool) (hm0:E8g h_ i=some r),Fn O "newel/halls.isComb" [.agg [.fs 5 (List.map b15 h_.Combs),.fs 3 (List.map b11 h_.Trains),.fs 3 (List.map b20 h_.Shifts),I h_.Until],I i] (B r)
def E88 (h_:Hall) (t_:Train):Option Bool :=
 some ((P1k t_.At 0 (wr (h_.Until - 1))) && (decide ((List.length t_.Crowds:Int)<=4)))
def E7f (h_:Hall) (t_:Train):(Int × Int)->Option (Out (Int × Int) (Unit ⊕ Bool))
 | (last_5,x_11) =>
  if decide (x_11<(List.length t_.Crowds:Int)) then
   (get t_.Crowds x_11).bind fun x9 =>
   if ((decide (x9.Comb<=last_5)) || (decide ((List.length h_.Combs:Int)<=x9.Comb))) || (!(P1k x9.People 0 1000)) then
    some (.br (.inr false))
   else
    some (.nx (x9.Comb,wr (x_11+1)))
  else
   some (.br (.inl ()))
def E8h (h_:Hall) (t_:Train):Option Bool :=
 (b0w (E7f h_ t_) ((-1),0)).bind fun
  | (.inl ())=>E88 h_ t_
  | (.inr r')=>some r'
def G1z (O:Orac):Prop:=∀ (h_:Hall) (t_:Train) (r:Bool) (hm0:E8h h_ t_=some r),Fn O "newel/halls.isTrain" [.agg [.fs 5 (List.map b15 h_.Combs),.fs 3 (List.map b11 h_.Trains),.fs 3 (List.map b20 h_.Shifts),I h_.Until],.agg [I t_.At.Low,I t_.At.High,.fs 3 (List.map c16 t_.Crowds)]] (B r)
def E7t (t_:Train) (c0:Hall):Option Bool :=
 (E8h c0 t_).bind fun y2 =>
 some (!y2)
def G1s (O:Orac):Prop:=∀ (t_:Train) (c0:Hall) (r:Bool) (hm0:E7t t_ c0=some r),Fn O "newel/halls.Check$1" [.agg [I t_.At.Low,I t_.At.High,.fs 3 (List.map c16 t_.Crowds)],.fp [.fs 5 (List.map b15 c0.Combs),.fs 3 (List.map b11 c0.Trains),.fs 3 (List.map b20 c0.Shifts),I c0.Until] 0] (B r)
def G0h:Option Int :=
 some (-1)
def G1m (s:List Train) (f:Train->Option Bool):Int->Option (Out Int (Unit ⊕ Int))
 | x_8 =>
  if decide (x_8<(List.length s:Int)) then
   (get s x_8).bind fun x9 =>
   (f x9).bind fun y10 =>
   if y10 then
    some (.br (.inr x_8))
   else
    some (.nx (wr (x_8+1)))
  else
   some (.br (.inl ()))
def G0g (s:List Train) (f:Train->Option Bool):Option Int :=
 (b0w (G1m s f) (0)).bind fun
  | (.inl ())=>G0h
  | (.inr r')=>some r'
def G19 (O:Orac):Prop:=∀ (s:List Train) (f_n:String) (f_a f_b:List AV) (f:Train->Option Bool) (f_z:Frz (.fn f_n f_a f_b)) (f_h:∀ z0 y,f z0=some y->Fn O f_n (f_a++[.agg [I z0.At.Low,I z0.At.High,.fs 3 (List.map c16 z0.Crowds)]]++f_b) (B y)) (r:Int) (hm0:G0g s f=some r),Fn O "slices.IndexFunc[[]newel/api.Train,newel/api.Train]" [.fs 3 (List.map b11 s),.fn f_n f_a f_b] (I r)
def E9n (s:List Train) (f:Train->Option Bool):Option Bool :=
 (G0g s f).bind fun y2 =>
 some (decide (0<=y2))
def G18 (O:Orac):Prop:=∀ (s:List Train) (f_n:String) (f_a f_b:List AV) (f:Train->Option Bool) (f_z:Frz (.fn f_n f_a f_b)) (f_h:∀ z0 y,f z0=some y->Fn O f_n (f_a++[.agg [I z0.At.Low,I z0.At.High,.fs 3 (List.map c16 z0.Crowds)]]++f_b) (B y)) (r:Bool) (hm0:E9n s f=some r),Fn O "slices.ContainsFunc[[]newel/api.Train,newel/api.Train]" [.fs 3 (List.map b11 s),.fn f_n f_a f_b] (B r)
def E9w:Option Int :=
 some 0
def E7u (h_:Hall):Int->Option (Out Int (Unit ⊕ Int))
 | x_56 =>
  if decide (x_56<(List.length h_.Shifts:Int)) then
   (get h_.Shifts x_56).bind fun x23 =>
   (if (decide (x23.At<0)) || (decide (h_.Until<=x23.At)) then some true else (if decide (0<x_56) then (get h_.Shifts (wr (x_56 - 1))).bind fun x27 =>
   some (decide (x23.At<x27.At)) else some false).bind fun c28 =>
   some c28).bind fun c29 =>
   if ((c29 || (decide (x23.Comb<0))) || (decide ((List.length h_.Combs:Int)<=x23.Comb))) || (!(x80 x23.Rate (Span.mk 0 1000))) then
    some (.br (.inr 60))
   else
    some (.nx (wr (x_56+1)))
  else
   some (.br (.inl ()))
def E8y (h_:Hall):Option Int :=
 (E9n h_.Trains (fun z12=>E7t z12 h_)).bind fun y13 =>
 if y13 then
  some 60
 else
  (b0w (E7u h_) (0)).bind fun
   | (.inl ())=>E9w
   | (.inr r')=>some r'
def E7v (h_:Hall):Int->Option (Out Int (Unit ⊕ Int))
 | x_41 =>
  if decide (x_41<(List.length h_.Combs:Int)) then
   (E8g h_ x_41).bind fun y45 =>
   if !y45 then
    some (.br (.inr 60))
   else
    some (.nx (wr (x_41+1)))
  else
   some (.br (.inl ()))
def E6y (h_:Hall):Option Int :=
 if (((((decide (h_.Until<1)) || (decide (100<h_.Until))) || (decide ((List.length h_.Combs:Int)<1))) || (decide (8<(List.length h_.Combs:Int)))) || (decide (12<(List.length h_.Trains:Int)))) || (decide (20<(List.length h_.Shifts:Int))) then
  some 60
 else
  (b0w (E7v h_) (0)).bind fun
   | (.inl ())=>E8y h_
   | (.inr r')=>some r'
def G0k (O:Orac):Prop:=∀ (h_:Hall) (r:Int) (hm0:E6y h_=some r),Fn O "newel/halls.Check" [.agg [.fs 5 (List.map b15 h_.Combs),.fs 3 (List.map b11 h_.Trains),.fs 3 (List.map b20 h_.Shifts),I h_.Until]] (I r)
def E7m (t_:Int) (c0:Hall):Bool :=
 (decide (t_<0)) || (decide (c0.Until<=t_))
def G1x (O:Orac):Prop:=∀ (t_:Int) (c0:Hall),Fn O "newel/halls.check$1" [I t_,.fp [.fs 5 (List.map b15 c0.Combs),.fs 3 (List.map b11 c0.Trains),.fs 3 (List.map b20 c0.Shifts),I c0.Until] 0] (B (E7m t_ c0))
def E7l (h_:Hall) (comb:Int) (ticks:List Int):Option Int :=
 (E6y h_).bind fun y2 =>
 if decide (¬y2=0) then
  some y2
 else
  (if (decide (comb<0)) || (decide ((List.length h_.Combs:Int)<=comb)) then some true else (J8e ticks (fun z8=>some (E7m z8 h_))).bind fun y9 =>
  some y9).bind fun c10 =>
  if c10 then
   some 1
  else
   some 0
def G0l (O:Orac):Prop:=∀ (h_:Hall) (comb:Int) (ticks:List Int) (r:Int) (hm0:E7l h_ comb ticks=some r),Fn O "newel/halls.check" [.agg [.fs 5 (List.map b15 h_.Combs),.fs 3 (List.map b11 h_.Trains),.fs 3 (List.map b20 h_.Shifts),I h_.Until],I comb,.fs 1 (List.map eI ticks)] (I r)
def E94 (out_5:List Int):Option (List Int) :=
 some out_5
def E9c (x_20:Int) (out_5_1:List Int) (now_6_1:Int) (at_7_1:Int):Option (Out ((List Int) × Int × Int × Int) (((List Int)))) :=
 some (.nx (out_5_1,now_6_1,at_7_1,wr (x_20+1)))
def E9d (out_5:List Int) (x_20:Int) (now_6_1:Int) (at_7_1:Int):Option (Out ((List Int) × Int × Int × Int) (((List Int)))) :=
 (get out_5 x_20).bind fun x15 =>
 E9c x_20 (List.set out_5 (Int.toNat x_20) now_6_1) now_6_1 at_7_1
def E8l (at_7_1:Int) (now_6_2:Int):Option (Out (Int × Int) ((Int × Int))) :=
 some (.nx (now_6_2,wr (at_7_1+1)))
def E73 (h_:Hall) (comb:Int) (x_20:Int):(Int × Int)->Option (Out (Int × Int) ((Int × Int)))
 | (now_6_1,at_7_1) =>
  (if decide (at_7_1<(List.length h_.Shifts:Int)) then (get h_.Shifts at_7_1).bind fun x19 =>
  some (decide (x19.At<=x_20)) else some false).bind fun c20 =>
  if c20 then
   (get h_.Shifts at_7_1).bind fun x27 =>
   if decide (x27.Comb=comb) then
    E8l at_7_1 x27.Rate
   else
    E8l at_7_1 now_6_1
  else
   some (.br (now_6_1,at_7_1))
def E8k (h_:Hall) (comb:Int) (l2:List Int):((List Int) × Int × Int × Int)->Option (Out ((List Int) × Int × Int × Int) (((List Int))))
 | (out_5,now_6,at_7,x_20) =>
  if decide (x_20<((List.length l2:Nat):Int)) then
   (b0w (E73 h_ comb x_20) (now_6,at_7)).bind fun
    | (now_6_1,at_7_1)=>E9d out_5 x_20 now_6_1 at_7_1
  else
   some (.br out_5)
def E8j (h_:Hall) (comb:Int):Option (List Int) :=
 (mks 8 h_.Until 0).bind fun l2 =>
 (get h_.Combs comb).bind fun x4 =>
 (b0w (E8k h_ comb l2) (l2,x4.Rate,0,0)).bind fun out_5 =>
 E94 out_5
def G11 (O:Orac):Prop:=∀ (h_:Hall) (comb:Int) (r:List Int) (hm0:E8j h_ comb=some r),FnW O "newel/halls.rates" [.agg [.fs 5 (List.map b15 h_.Combs),.fs 3 (List.map b11 h_.Trains),.fs 3 (List.map b20 h_.Shifts),I h_.Until],I comb] 1 eI r
@[go_sem] def b2f (x:List Int):List AV:=[.fs 1 (List.map eI x)]
theorem b8i (x:List Int):∀ c∈b2f x,Frz c:=(b0a (b0c fun a _=>b1t a) b0j)
theorem j7n (x:List Int):(b2f x).length=1:=rfl
@[go_sem] theorem o5i {l:List (List Int)} {n:Nat} {a0:List Int}:(List.map b2f l).set n [.fs 1 (List.map eI a0)]=List.map b2f (l.set n a0):=by rw [List.map_set]; rfl
def E92 (out_2:List (List Int)):Option (List (List Int)) :=
 some out_2
def E8i (h_:Hall):((List (List Int)) × Int)->Option (Out ((List (List Int)) × Int) (((List (List Int)))))
 | (out_2,x_7) =>
  if decide (x_7<(List.length h_.Combs:Int)) then
   (E8j h_ x_7).bind fun y9 =>
   (ap 24 out_2 ([y9])).bind fun l10 =>
   some (.nx (l10,wr (x_7+1)))
  else
   some (.br out_2)
def E68 (h_:Hall):Option (List (List Int)) :=
 (b0w (E8i h_) ([],0)).bind fun out_2 =>
 E92 out_2
def N1r (O:Orac):Prop:=∀ (h_:Hall) (r:List (List Int)) (hm0:E68 h_=some r),Fn O "newel/halls.open" [.agg [.fs 5 (List.map b15 h_.Combs),.fs 3 (List.map b11 h_.Trains),.fs 3 (List.map b20 h_.Shifts),I h_.Until]] (.fs 1 (List.map b2f r))
def E90 (sum_8:Int):Option Int :=
 some sum_8
def E72 (x_16:Int) (sum_8_1:Int):Option (Out (Int × Int) Int) :=
 some (.nx (sum_8_1,wr (x_16+1)))
def E71 (x_35:Int) (sum_8_2:Int):Option (Out (Int × Int) Int) :=
 some (.nx (sum_8_2,wr (x_35+1)))
def E8e (comb:Int) (x9:Train):(Int × Int)->Option (Out (Int × Int) Int)
 | (sum_8_1,x_35) =>
  if decide (x_35<(List.length x9.Crowds:Int)) then
   (get x9.Crowds x_35).bind fun x19 =>
   if decide (x19.Comb=comb) then
    E71 x_35 (wr (sum_8_1+x19.People.High))
   else
    E71 x_35 sum_8_1
  else
   some (.br sum_8_1)
def E8f (h_:Hall) (comb:Int) (from_:Int) (to_:Int):(Int × Int)->Option (Out (Int × Int) Int)
 | (sum_8,x_16) =>
  if decide (x_16<(List.length h_.Trains:Int)) then
   (get h_.Trains x_16).bind fun x9 =>
   if (decide (x9.At.High<from_)) || (decide (to_<x9.At.Low)) then
    E72 x_16 sum_8
   else
    (b0w (E8e comb x9) (sum_8,0)).bind fun sum_8_1 =>
    E72 x_16 sum_8_1
  else
   some (.br sum_8)
def E8d (h_:Hall) (comb:Int) (from_:Int) (to_:Int):Option Int :=
 (b0w (E8f h_ comb from_ to_) (0,0)).bind fun sum_8 =>
 E90 sum_8
def G1w (O:Orac):Prop:=∀ (h_:Hall) (comb:Int) (from_:Int) (to_:Int) (r:Int) (hm0:E8d h_ comb from_ to_=some r),Fn O "newel/halls.brought" [.agg [.fs 5 (List.map b15 h_.Combs),.fs 3 (List.map b11 h_.Trains),.fs 3 (List.map b20 h_.Shifts),I h_.Until],I comb,I from_,I to_] (I r)
structure halls_bound where
 rates : List Int
 flow : List Int
 most : List Int
 come : List (List Int)
 deriving Inhabited,DecidableEq
def E8u (least_7:Int):Option Int :=
 some least_7
def E7q (b:halls_bound) (from_:Int) (least_7:Int) (k_8:Int) (behind_9:Int):Option (Out (Int × Int) Int) :=
 (get b.flow k_8).bind fun x23 =>
 (get b.flow (mx from_ 0)).bind fun x24 =>
 (get b.most k_8).bind fun x25 =>
 some (.nx (mn least_7 (wr ((wr ((wr (x23 - x24))+x25))+behind_9)),wr (k_8+1)))
def E8a (b:halls_bound) (from_:Int) (to_:Int):(Int × Int)->Option (Out (Int × Int) Int)
 | (least_7,k_8) =>
  if decide (k_8<=to_) then
   if decide (k_8<to_) then
    (get b.come (wr (k_8+1))).bind fun x29 =>
    (get x29 to_).bind fun x30 =>
    E7q b from_ least_7 k_8 x30
   else
    E7q b from_ least_7 k_8 0
  else
   some (.br least_7)
def E79 (b:halls_bound) (from_:Int) (to_:Int):Option Int :=
 if (decide (to_<from_)) || (decide (to_<0)) then
  some 0
 else
  (get b.come 0).bind fun x8 =>
  (get x8 to_).bind fun x9 =>
  (get b.flow (wr (to_+1))).bind fun x10 =>
  (get b.flow (mx from_ 0)).bind fun x11 =>
  (b0w (E8a b from_ to_) (mn x9 (wr (x10 - x11)),mx from_ 0)).bind fun least_7 =>
  E8u least_7
def G1r (O:Orac):Prop:=∀ (b:halls_bound) (from_:Int) (to_:Int) (r:Int) (hm0:E79 b from_ to_=some r),Fn O "(*newel/halls.bound).passes" [.fp [.fs 1 (List.map eI b.rates),.fs 1 (List.map eI b.flow),.fs 1 (List.map eI b.most),.fs 1 (List.map b2f b.come)] 0,I from_,I to_] (I r)
@[go_sem] def P09 (x:halls_bound):List AV:=[.fp [.fs 1 (List.map eI x.rates),.fs 1 (List.map eI x.flow),.fs 1 (List.map eI x.most),.fs 1 (List.map b2f x.come)] 0]
theorem G47 (x:halls_bound):∀ c∈P09 x,Frz c:=(b0a (.fp _ _ (b0a (b0c fun a _=>b1t a) (b0a (b0c fun a _=>b1t a) (b0a (b0c fun a _=>b1t a) (b0a (b0c fun a _=>b8i a) b0j))))) b0j)
theorem H0r (x:halls_bound):(P09 x).length=1:=rfl
def E9z (all_5:List halls_bound):Option (List halls_bound) :=
 some all_5
def E85 (x_19:Int) (all_5_1:List halls_bound):Option (Out ((List halls_bound) × Int) (((List halls_bound)))) :=
 some (.nx (all_5_1,wr (x_19+1)))
def E80 (all_5:List halls_bound) (x_19:Int) (b_7_0:List Int) (b_7_3:List (List Int)) (b_7_1:List Int) (b_7_2:List Int):Option (Out ((List halls_bound) × Int) (((List halls_bound)))) :=
 (ap 8 all_5 ([(halls_bound.mk b_7_0 b_7_1 b_7_2 b_7_3)])).bind fun l13 =>
 E85 x_19 l13
def E81 (x_122:Int) (b_7_1_1:List Int) (b_7_2_1:List Int):Option (Out ((List Int) × (List Int) × Int) (((List Int) × (List Int)))) :=
 some (.nx (b_7_1_1,b_7_2_1,wr (x_122+1)))
def E82 (open_:List (List Int)) (x_19:Int) (b_7_1:List Int) (b_7_2:List Int) (x_122:Int) (most_14:Int):Option (Out ((List Int) × (List Int) × Int) (((List Int) × (List Int)))) :=
 (ap 8 b_7_2 ([most_14])).bind fun l22 =>
 (get b_7_1 x_122).bind fun x27 =>
 (get open_ x_19).bind fun x28 =>
 (get x28 x_122).bind fun x29 =>
 (ap 8 b_7_1 ([wr (x27+(mn most_14 x29))])).bind fun l30 =>
 E81 x_122 l30 l22
def E7y (b_7_0:List Int) (b_7_3:List (List Int)) (x_122:Int):(Int × Int)->Option (Out (Int × Int) Int)
 | (most_14,x_127) =>
  if decide (x_127<(wr (x_122+1))) then
   (get b_7_3 x_127).bind fun x40 =>
   (get x40 x_122).bind fun x42 =>
   (get b_7_0 x_122).bind fun x43 =>
   (get b_7_0 x_127).bind fun x44 =>
   some (.nx (mx most_14 (wr (x42 - (wr (x43 - x44)))),wr (x_127+1)))
  else
   some (.br most_14)
def E7z (h_:Hall) (open_:List (List Int)) (x_19:Int) (b_7_0:List Int) (b_7_3:List (List Int)):((List Int) × (List Int) × Int)->Option (Out ((List Int) × (List Int) × Int) (((List Int) × (List Int))))
 | (b_7_1,b_7_2,x_122) =>
  if decide (x_122<h_.Until) then
   (b0w (E7y b_7_0 b_7_3 x_122) (0,0)).bind fun most_14 =>
   E82 open_ x_19 b_7_1 b_7_2 x_122 most_14
  else
   some (.br (b_7_1,b_7_2))
def E87 (h_:Hall) (open_:List (List Int)) (all_5:List halls_bound) (x_19:Int) (b_7_0:List Int) (b_7_3:List (List Int)):Option (Out ((List halls_bound) × Int) (((List halls_bound)))) :=
 (b0w (E7z h_ open_ x_19 b_7_0 b_7_3) ([0],[],0)).bind fun
  | (b_7_1,b_7_2)=>E80 all_5 x_19 b_7_0 b_7_3 b_7_1 b_7_2
def E83 (x_28:Int) (b_7_0_1:List Int) (b_7_3_1:List (List Int)):Option (Out ((List Int) × (List (List Int)) × Int) (((List Int) × (List (List Int))))) :=
 some (.nx (b_7_0_1,b_7_3_1,wr (x_28+1)))
def E84 (open_:List (List Int)) (x_19:Int) (b_7_0:List Int) (b_7_3:List (List Int)) (x_28:Int) (row_9:List Int):Option (Out ((List Int) × (List (List Int)) × Int) (((List Int) × (List (List Int))))) :=
 (ap 24 b_7_3 ([row_9])).bind fun l57 =>
 (get b_7_0 x_28).bind fun x62 =>
 (get open_ x_19).bind fun x63 =>
 (get x63 x_28).bind fun x64 =>
 (ap 8 b_7_0 ([wr (x62+x64)])).bind fun l65 =>
 E83 x_28 l65 l57
def E86 (t_10:Int) (row_9_1:List Int):Option (Out ((List Int) × Int) (((List Int)))) :=
 some (.nx (row_9_1,wr (t_10+1)))
def E70 (x_54:Int) (row_9_2:List Int):Option (Out ((List Int) × Int) (((List Int)))) :=
 some (.nx (row_9_2,wr (x_54+1)))
def E8b (all_5:List halls_bound) (x_19:Int) (x_28:Int) (t_10:Int) (l76:List Comb):((List Int) × Int)->Option (Out ((List Int) × Int) (((List Int))))
 | (row_9_1,x_54) =>
  if decide (x_54<(List.length l76:Int)) then
   (get l76 x_54).bind fun x83 =>
   if decide (x83.Next=x_19) then
    (get row_9_1 t_10).bind fun x89 =>
    (get all_5 x_54).bind fun x90 =>
    (E79 x90 (wr (x_28 - x83.Walk.High)) (wr (t_10 - x83.Walk.Low))).bind fun y92 =>
    E70 x_54 (List.set row_9_1 (Int.toNat t_10) (wr (x89+y92)))
   else
    E70 x_54 row_9_1
  else
   some (.br row_9_1)
def E7w (h_:Hall) (all_5:List halls_bound) (x_19:Int) (x_28:Int):((List Int) × Int)->Option (Out ((List Int) × Int) (((List Int))))
 | (row_9,t_10) =>
  if decide (t_10<h_.Until) then
   (E8d h_ x_19 x_28 t_10).bind fun y73 =>
   (get row_9 t_10).bind fun x74 =>
   (sub h_.Combs 0 x_19).bind fun l76 =>
   (b0w (E8b all_5 x_19 x_28 t_10 l76) ((List.set row_9 (Int.toNat t_10) y73),0)).bind fun row_9_1 =>
   E86 t_10 row_9_1
  else
   some (.br row_9)
def E7x (h_:Hall) (open_:List (List Int)) (all_5:List halls_bound) (x_19:Int):((List Int) × (List (List Int)) × Int)->Option (Out ((List Int) × (List (List Int)) × Int) (((List Int) × (List (List Int)))))
 | (b_7_0,b_7_3,x_28) =>
  if decide (x_28<h_.Until) then
   (mks 8 h_.Until 0).bind fun l53 =>
   (b0w (E7w h_ all_5 x_19 x_28) (l53,x_28)).bind fun row_9 =>
   E84 open_ x_19 b_7_0 b_7_3 x_28 row_9
  else
   some (.br (b_7_0,b_7_3))
def E8c (h_:Hall) (open_:List (List Int)):((List halls_bound) × Int)->Option (Out ((List halls_bound) × Int) (((List halls_bound))))
 | (all_5,x_19) =>
  if decide (x_19<(List.length h_.Combs:Int)) then
   (b0w (E7x h_ open_ all_5 x_19) ([0],[],0)).bind fun
    | (b_7_0,b_7_3)=>E87 h_ open_ all_5 x_19 b_7_0 b_7_3
  else
   some (.br all_5)
def E7b (h_:Hall) (open_:List (List Int)):Option (List halls_bound) :=
 (b0w (E8c h_ open_) ([],0)).bind fun all_5 =>
 E9z all_5
def N1q (O:Orac):Prop:=∀ (h_:Hall) (open_:List (List Int)) (r:List halls_bound) (hm0:E7b h_ open_=some r),Fn O "newel/halls.bounds" [.agg [.fs 5 (List.map b15 h_.Combs),.fs 3 (List.map b11 h_.Trains),.fs 3 (List.map b20 h_.Shifts),I h_.Until],.fs 1 (List.map b2f open_)] (.fs 1 (List.map P09 r))
def E8z (h_:Hall) (comb:Int):Option ((List Int) × Int) :=
 (E7l h_ comb ([])).bind fun y2 =>
 if decide (¬y2=0) then
  some ([],y2)
 else
  (E68 h_).bind fun y8 =>
  (E7b h_ y8).bind fun y9 =>
  (get y9 comb).bind fun x10 =>
  some (x10.most,0)
def G1u (O:Orac):Prop:=∀ (h_:Hall) (comb:Int) (r:(List Int) × Int) (hm0:E8z h_ comb=some r),Fn O "newel/halls.Most" [.agg [.fs 5 (List.map b15 h_.Combs),.fs 3 (List.map b11 h_.Trains),.fs 3 (List.map b20 h_.Shifts),I h_.Until],I comb] (.tup [.fs 1 (List.map eI r.1),I r.2])
def b53 (n:Int) (low:Int) (high:Int):Bool :=
 (decide (low<=n)) && (decide (n<=high))
def B8j (O:Orac):Prop:=∀ (n:Int) (low:Int) (high:Int),Fn O "newel/ways.within" [I n,I low,I high] (B (b53 n low high))
structure Passage where
 A : Int
 B : Int
 Kind : Int
 Ticks : Int
 Wide : Int
 Machine : Int
 Still : Int
 deriving Inhabited,DecidableEq
def B81 (p:Passage) (x_40:Bool):Bool :=
 if x_40 then
  (decide (p.Machine=(-1))) && (decide (p.Still=0))
 else
  if decide (p.Kind=3) then
   (b53 p.Machine 0 11) && (b53 p.Still 1 20)
  else
   if decide (p.Kind=4) then
    (b53 p.Machine 0 11) && (decide (p.Still=0))
   else
    false
def B80 (p:Passage) (places:Int):Bool :=
 if ((((!(b53 p.A 0 (wr (places - 1)))) || (!(b53 p.B 0 (wr (places - 1))))) || (decide (p.A=p.B))) || (!(b53 p.Ticks 1 20))) || (!(b53 p.Wide 1 50)) then
  false
 else
  if decide (p.Kind=1) then
   B81 p (decide (p.Kind=1))
  else
   if decide (p.Kind=2) then
    B81 p (decide (p.Kind=2))
   else
    B81 p (decide (p.Kind=5))
def B96 (O:Orac):Prop:=∀ (p:Passage) (places:Int),Fn O "newel/ways.passage" [.agg [I p.A,I p.B,I p.Kind,I p.Ticks,I p.Wide,I p.Machine,I p.Still],I places] (B (B80 p places))
structure Station where
 Places : Int
 Passages : List Passage
 Exits : List Int
 deriving Inhabited,DecidableEq
@[go_sem] def z9o (x:Passage):List AV:=[I x.A,I x.B,I x.Kind,I x.Ticks,I x.Wide,I x.Machine,I x.Still]
theorem c82 (x:Passage):∀ c∈z9o x,Frz c:=(b0a (b0e _) (b0a (b0e _) (b0a (b0e _) (b0a (b0e _) (b0a (b0e _) (b0a (b0e _) (b0a (b0e _) b0j)))))))
@[go_sem] theorem B8b {l:List Passage} {n:Nat} {a0:Int} {a1:Int} {a2:Int} {a3:Int} {a4:Int} {a5:Int} {a6:Int}:(List.map z9o l).set n [I a0,I a1,I a2,I a3,I a4,I a5,I a6]=List.map z9o (l.set n (Passage.mk a0 a1 a2 a3 a4 a5 a6)):=by rw [List.map_set]; rfl
def C0u:Option Int :=
 some 0
def B9k (s:Station):(Int × Int)->Option (Out (Int × Int) (Unit ⊕ Int))
 | (last_6,x_51) =>
  if decide (x_51<(List.length s.Exits:Int)) then
   (get s.Exits x_51).bind fun x13 =>
   if !(b53 x13 (wr (last_6+1)) (wr (s.Places - 1))) then
    some (.br (.inr 80))
   else
    some (.nx (x13,wr (x_51+1)))
  else
   some (.br (.inl ()))
def B9l (s:Station):Option Int :=
 (b0w (B9k s) ((-1),0)).bind fun
  | (.inl ())=>C0u
  | (.inr r')=>some r'
def B9j (s:Station):((List (Int × Int)) × Int)->Option (Out ((List (Int × Int)) × Int) (Unit ⊕ Int))
 | (machines_3,x_23) =>
  if decide (x_23<(List.length s.Passages:Int)) then
   (get s.Passages x_23).bind fun x22 =>
   if !(B80 x22 s.Places) then
    some (.br (.inr 80))
   else
    if (decide (0<=x22.Machine)) && (decide (1<(b2w (b3w machines_3 x22.Machine (wr ((b2w machines_3 x22.Machine 0)+1))) x22.Machine 0))) then
     some (.br (.inr 80))
    else
     some (.nx ((b3w machines_3 x22.Machine (wr ((b2w machines_3 x22.Machine 0)+1))),wr (x_23+1)))
  else
   some (.br (.inl ()))
def B9i (s:Station):Option Int :=
 if (!(b53 s.Places 1 10)) || (decide (24<(List.length s.Passages:Int))) then
  some 80
 else
  (b0w (B9j s) (([]:List (Int × Int)),0)).bind fun
   | (.inl ())=>B9l s
   | (.inr r')=>some r'
def B94 (O:Orac):Prop:=∀ (s:Station) (r:Int) (hm0:B9i s=some r),Fn O "newel/ways.Check" [.agg [I s.Places,.fs 7 (List.map z9o s.Passages),.fs 1 (List.map eI s.Exits)]] (I r)
def N2v (s:Station) (people:List Int):Option Bool :=
 some (decide ((List.length people:Int)=s.Places))
def N0c (people:List Int):Int->Option (Out Int (Unit ⊕ Bool))
 | x_9 =>
  if decide (x_9<(List.length people:Int)) then
   (get people x_9).bind fun x8 =>
   if !(b53 x8 0 1000) then
    some (.br (.inr false))
   else
    some (.nx (wr (x_9+1)))
  else
   some (.br (.inl ()))
def N06 (s:Station) (people:List Int):Option Bool :=
 (b0w (N0c people) (0)).bind fun
  | (.inl ())=>N2v s people
  | (.inr r')=>some r'
def N1u (O:Orac):Prop:=∀ (s:Station) (people:List Int) (r:Bool) (hm0:N06 s people=some r),Fn O "newel/ways.crowd" [.agg [I s.Places,.fs 7 (List.map z9o s.Passages),.fs 1 (List.map eI s.Exits)],.fs 1 (List.map eI people)] (B r)
def N07 (s:Station) (out:Int) (people:List Int) (ticks:Int):Option Int :=
 (B9i s).bind fun y2 =>
 if decide (¬y2=0) then
  some y2
 else
  (if !(b53 out 0 4095) then some true else (N06 s people).bind fun y7 =>
  some (!y7)).bind fun c8 =>
  if c8 || (!(b53 ticks 0 60)) then
   some 1
  else
   some 0
def N1c (O:Orac):Prop:=∀ (s:Station) (out:Int) (people:List Int) (ticks:Int) (r:Int) (hm0:N07 s out people ticks=some r),Fn O "newel/ways.leaving" [.agg [I s.Places,.fs 7 (List.map z9o s.Passages),.fs 1 (List.map eI s.Exits)],I out,.fs 1 (List.map eI people),I ticks] (I r)
def N1k (x:Int) (y:Int):Option (Int × Int) :=
 (shr .u64 x 32).bind fun q2 =>
 (shr .u64 y 32).bind fun q4 =>
 (shr .u64 (IntKind.wrap .u64 ((d05 .u64 x 4294967295) * (d05 .u64 y 4294967295))) 32).bind fun q6 =>
 (shr .u64 (IntKind.wrap .u64 ((IntKind.wrap .u64 (q2 * (d05 .u64 y 4294967295)))+q6)) 32).bind fun q8 =>
 (shr .u64 (IntKind.wrap .u64 ((d05 .u64 (IntKind.wrap .u64 ((IntKind.wrap .u64 (q2 * (d05 .u64 y 4294967295)))+q6)) 4294967295)+(IntKind.wrap .u64 ((d05 .u64 x 4294967295) * q4)))) 32).bind fun q10 =>
 some (IntKind.wrap .u64 ((IntKind.wrap .u64 ((IntKind.wrap .u64 (q2 * q4))+q8))+q10),IntKind.wrap .u64 (x * y))
def N1s (O:Orac):Prop:=∀ (x:Int) (y:Int) (r:Int × Int) (hm0:N1k x y=some r),Fn O "math/bits.Mul64" [.v (.int .u64 x),.v (.int .u64 y)] (.tup [.v (.int .u64 r.1),.v (.int .u64 r.2)])
def N1j (x:Int) (y:Int):Option (Int × Int) :=
 (N1k x y).bind fun y3 =>
 some (y3.1,y3.2)
def N1a (O:Orac):Prop:=∀ (x:Int) (y:Int) (r:Int × Int) (hm0:N1j x y=some r),Fn O "math/bits.Mul" [.v (.int .u64 x),.v (.int .u64 y)] (.tup [.v (.int .u64 r.1),.v (.int .u64 r.2)])
abbrev J4:=Nat × Nat × Int × (Int × Int × Int × Int)
def b45 (S:Nat->Bool):List J4->Int
 | []=>0
 | j :: r=>(if S j.1=true/\S j.2.1=false then j.2.2.1 else 0)+b45 S r
def N0g (b o:Nat) (J:List J4) (v:Int):Prop:=(∃ S:Nat->Bool,S b=true/\S o=false/\v=b45 S J)/\∀ S:Nat->Bool,S b=true->S o=false->v<=b45 S J
open Classical in
def N0s (b o:Nat) (J:List J4):Option Int:=if h:∃ v,N0g b o J v then some (Classical.choose h) else none
abbrev H5:=Int × Int × Int × Int × Int
def N10 (s:Station) (p:Passage × Nat):List H5:=if s.Exits.contains p.1.A then [] else [((p.2:Int),p.1.A,p.1.B,p.1.Ticks,p.1.Wide)]
def N11 (s:Station) (p:Passage × Nat):List H5:=if s.Exits.contains p.1.B then [] else [((p.2:Int),p.1.B,p.1.A,p.1.Ticks,p.1.Wide)]
def M99 (s:Station):List H5:=s.Passages.zipIdx.flatMap fun p=>N10 s p++N11 s p
def J35 (pl p:Nat) (k:Nat):List J4:=(List.range k).map fun t=>(pl * t+p,pl * (t+1)+p,1099511627776,(-1,0,0,0))
def P1g (pl T p:Nat) (k:Nat):List J4:=(List.range k).map fun t=>(pl * t+p,pl * (T+1)+1,1099511627776,(-1,0,0,0))
def P1c (s:Station) (people:List Int) (T p:Nat):List J4 :=
 (s.Places.toNat * (T+1),p,people.getD p 0,(-1,0,0,0)) :: (J35 s.Places.toNat p T++if s.Exits.contains (p:Int) then P1g s.Places.toNat T p (T+1) else [])
def P1b (pl:Nat) (h:H5) (k:Nat):List J4:=(List.range k).map fun t=>(pl * t+h.2.1.toNat,pl * (t+h.2.2.2.1.toNat)+h.2.2.1.toNat,h.2.2.2.2,(h.1,h.2.1,(t:Int),0))
def l89 (s:Station) (people:List Int) (T:Nat):List J4 :=
 (List.range s.Places.toNat).flatMap (P1c s people T)++(M99 s).flatMap fun h=>P1b s.Places.toNat h (T+1 - h.2.2.2.1.toNat)
def GdP (n:Int) (p:Passage):Prop:=(0<=p.A/\p.A<n)/\(0<=p.B/\p.B<n)/\p.A≠p.B/\(1<=p.Ticks/\p.Ticks<=20)/\(0<=p.Wide/\p.Wide<=50)/\p.Kind≠3/\p.Kind≠4
structure Gd (s:Station) (people:List Int) (ticks:Int):Prop where
 pl : 1<=s.Places/\s.Places<=10
 ln : (people.length:Int)=s.Places
 pe : ∀ x∈people,0<=x/\x<=1000
 ti : 0<=ticks/\ticks<=60
 pn : 1<=s.Passages.length/\s.Passages.length<=24
 pp : ∀ p∈s.Passages,GdP s.Places p
 ex : 1<=s.Exits.length/\s.Exits.length<=24
def N0v (s:Station) (people:List Int) (T:Nat):Option Int:=N0s (s.Places.toNat * (T+1)) (s.Places.toNat * (T+1)+1) (l89 s people T)
open Classical in
def N05 (s:Station) (out:Int) (people:List Int) (ticks:Int):Option (Int × Int) :=
 (N07 s out people ticks).bind fun e =>
 if !(decide (e=0)) then some (0,e)
 else if Gd s people ticks then (N0v s people ticks.toNat).bind fun v=>some (v,0)
 else none
def N1b (O:Orac):Prop:=∀ (s:Station) (out:Int) (people:List Int) (ticks:Int) (r:Int × Int) (hm0:N05 s out people ticks=some r),Fn O "newel/ways.Left" [.agg [I s.Places,.fs 7 (List.map z9o s.Passages),.fs 1 (List.map eI s.Exits)],I out,.fs 1 (List.map eI people),I ticks] (.tup [I r.1,I r.2])
structure neweltop_Room where
 People : Int
 Wide : Int
 Ticks : Int
 Tick : Int
 deriving Inhabited,DecidableEq
def N00 (x:neweltop_Room) (y17:Int × Int) (waits_12:Int):Option Bool :=
 (if decide (y17.1=(wr (x.People - waits_12))) then (L1k).bind fun y26 =>
 some y26 else some false).bind fun c27 =>
 some c27
def N0z (x:neweltop_Room) (other:Int):Option Bool :=
 if (((((((((decide (x.People<1)) || (decide (1000<x.People))) || (decide (x.Wide<1))) || (decide (50<x.Wide))) || (decide (other<1))) || (decide (50<other))) || (decide (x.Ticks<1))) || (decide (20<x.Ticks))) || (decide (x.Tick<0))) || (decide (60<x.Tick)) then
  (L1k).bind fun y13 =>
  some y13
 else
  (E8z (Hall.mk ([(Comb.mk (wr (x.Wide+other)) 0 (-1) (Span.mk 1 1))]) ([(Train.mk (Span.mk 0 0) ([(Crowd.mk 0 (Span.mk x.People x.People))]))]) ([]) 100) 0).bind fun y15 =>
  (N05 (Station.mk 3 ([(Passage.mk 0 1 2 x.Ticks x.Wide (-1) 0),(Passage.mk 2 0 5 x.Ticks other (-1) 0)]) ([1,2])) 0 ([x.People,0,0]) x.Tick).bind fun y17 =>
  if ((decide (¬y15.2=0)) || (decide (¬y17.2=0))) || (decide (¬(List.length y15.1:Int)=100)) then
   some false
  else
   if decide (0<=(wr (x.Tick - x.Ticks))) then
    (get y15.1 (wr (x.Tick - x.Ticks))).bind fun x31 =>
    N00 x y17 (mx 0 (wr ((wr (x31 - x.Wide)) - other)))
   else
    N00 x y17 x.People
def N2w (O:Orac):Prop:=∀ (x:neweltop_Room) (other:Int) (r:Bool) (hm0:N0z x other=some r),Fn O "newel/neweltop.TopBoth" [.agg [I x.People,I x.Wide,I x.Ticks,I x.Tick],I other] (B r)
structure Day where
 At : List Int
 People : List (List Int)
 Walks : List (List Int)
 deriving Inhabited,DecidableEq
end
end Go.Nw.EM
