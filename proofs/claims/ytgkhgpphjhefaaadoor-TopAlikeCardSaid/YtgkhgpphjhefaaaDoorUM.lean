/- Models of functions: printed by gen.py. -/
import Derived.Test.YtgkhgpphjhefaaaDoorNwMaps
import Derived.Test.YtgkhgpphjhefaaaDoorNwTp2Src
set_option linter.all false
namespace Go.Nw.UM
noncomputable section
open Go.Nw.Tp2
set_option maxHeartbeats 4000000
theorem lA9 {α:Type} {l m:List α}:(l++m).length=l.length+m.length:=List.length_append
theorem mA9 {α β:Type} {f:α → β} {l m:List α}:List.map f (l++m)=List.map f l++List.map f m:=List.map_append
theorem oF9 {a b:Bool}:(a || b)=false ↔ a=false ∧ b=false:=Bool.or_eq_false_iff
theorem nF9:(¬False)=True:=not_false_eq_true
theorem bF9 {α:Type} [BEq α] [LawfulBEq α] {a b:α}:(a == b)=false ↔ a≠b:=beq_eq_false_iff_ne
theorem sI9 {α:Type} {a b:α} (h:some a=some b):a=b:=Option.some.inj h
theorem va9 {p:Prop} (h:p:=by first|(simp only [go_sem,List.length_append,List.map_append]; done)|rfl):p:=h
theorem vb9 {p:Prop} (h:p:=by simp only [go_sem,List.length_append,List.map_append]):p:=h
theorem vc9 {p:Prop} (h:p:=by first|(simp only [go_sem]; done)|rfl):p:=h
theorem vd9 {p:Prop} (h:p:=by first|first|assumption|omega|(simp only [nxs] <;> omega)):p:=h
theorem ve9 {p:Prop} (h:p:=by simp only [go_sem]):p:=h
theorem vf9 {p:Prop} (h:p:=by first|exact b1w|exact b1y (by first|omega|(simp only [nxs] <;> omega))|assumption|exact b1v (by assumption) (by first|omega|(simp only [go_sem,nxs] <;> omega))):p:=h
theorem vg9 {p:Prop} (h:p:=by first|rfl|simp only [go_sem,List.length_append,List.map_append]):p:=h
variable {O:Orac} [MapsOk O]
def wl_0:List ByteArray:=b50.map fun s=>⟨s.toArray⟩
@[go_sem] theorem o5c:List.map GC.av b6h=[.fs 1 (List.map eS wl_0)]:=by
 simp only [b6h,List.map_cons,List.map_nil,GC.av,wl_0,List.map_map]; rfl
def b2b (n:Int) (low:Int) (high:Int):Bool :=
 (decide (low<=n)) && (decide (n<=high))
def c5r (O:Orac):Prop:=∀ (n:Int) (low:Int) (high:Int),Fn O "newel/newelref04.from" [I n,I low,I high] (B (b2b n low high))
structure Counter where
 Name : ByteArray
 Max : Int
 deriving Inhabited,DecidableEq
structure State where
 Name : ByteArray
 Shows : Int
 deriving Inhabited,DecidableEq
structure Literal where
 Kind : Int
 Number : Int
 Value : Int
 Not : Bool
 deriving Inhabited,DecidableEq
structure Set where
 Kind : Int
 Counter : Int
 deriving Inhabited,DecidableEq
structure Rule where
 From : Int
 To : Int
 When : List (List Literal)
 Sets : List Set
 deriving Inhabited,DecidableEq
structure Machine where
 Inputs : List ByteArray
 Outputs : List ByteArray
 Counters : List Counter
 States : List State
 Rules : List Rule
 deriving Inhabited,DecidableEq
@[go_sem] def b0o (x:Counter):List AV:=[.v (.string x.Name),I x.Max]
theorem b1q (x:Counter):∀ c∈b0o x,Frz c:=(b0a (b0e _) (b0a (b0e _) b0j))
@[go_sem] theorem o5h {l:List Counter} {n:Nat} {a0:ByteArray} {a1:Int}:(List.map b0o l).set n [.v (.string a0),I a1]=List.map b0o (l.set n (Counter.mk a0 a1)):=by rw [List.map_set]; rfl
@[go_sem] def b0p (x:State):List AV:=[.v (.string x.Name),I x.Shows]
theorem b1s (x:State):∀ c∈b0p x,Frz c:=(b0a (b0e _) (b0a (b0e _) b0j))
@[go_sem] theorem o5q {l:List State} {n:Nat} {a0:ByteArray} {a1:Int}:(List.map b0p l).set n [.v (.string a0),I a1]=List.map b0p (l.set n (State.mk a0 a1)):=by rw [List.map_set]; rfl
@[go_sem] def b3k (x:Literal):List AV:=[I x.Kind,I x.Number,I x.Value,B x.Not]
theorem c2w (x:Literal):∀ c∈b3k x,Frz c:=(b0a (b0e _) (b0a (b0e _) (b0a (b0e _) (b0a (b0e _) b0j))))
@[go_sem] theorem o5m {l:List Literal} {n:Nat} {a0:Int} {a1:Int} {a2:Int} {a3:Bool}:(List.map b3k l).set n [I a0,I a1,I a2,B a3]=List.map b3k (l.set n (Literal.mk a0 a1 a2 a3)):=by rw [List.map_set]; rfl
@[go_sem] def b0t (x:List Literal):List AV:=[.fs 4 (List.map b3k x)]
theorem b2j (x:List Literal):∀ c∈b0t x,Frz c:=(b0a (b0c fun a _=>c2w a) b0j)
@[go_sem] theorem o5k {l:List (List Literal)} {n:Nat} {a0:List Literal}:(List.map b0t l).set n [.fs 4 (List.map b3k a0)]=List.map b0t (l.set n a0):=by rw [List.map_set]; rfl
@[go_sem] def b2o (x:Set):List AV:=[I x.Kind,I x.Counter]
theorem d14 (x:Set):∀ c∈b2o x,Frz c:=(b0a (b0e _) (b0a (b0e _) b0j))
@[go_sem] theorem o5p {l:List Set} {n:Nat} {a0:Int} {a1:Int}:(List.map b2o l).set n [I a0,I a1]=List.map b2o (l.set n (Set.mk a0 a1)):=by rw [List.map_set]; rfl
@[go_sem] def b0m (x:Rule):List AV:=[I x.From,I x.To,.fs 1 (List.map b0t x.When),.fs 2 (List.map b2o x.Sets)]
theorem b1r (x:Rule):∀ c∈b0m x,Frz c:=(b0a (b0e _) (b0a (b0e _) (b0a (b0c fun a _=>b2j a) (b0a (b0c fun a _=>d14 a) b0j))))
@[go_sem] theorem o5o {l:List Rule} {n:Nat} {a0:Int} {a1:Int} {a2:List (List Literal)} {a3:List Set}:(List.map b0m l).set n [I a0,I a1,.fs 1 (List.map b0t a2),.fs 2 (List.map b2o a3)]=List.map b0m (l.set n (Rule.mk a0 a1 a2 a3)):=by rw [List.map_set]; rfl
def c8v (l_3_1:List ByteArray):Option (List ByteArray) :=
 some l_3_1
def c8s (m:Machine):((List ByteArray) × Int)->Option (Out ((List ByteArray) × Int) (((List ByteArray))))
 | (l_3_1,i_5) =>
  if decide (i_5<(List.length m.States:Int)) then
   (get m.States i_5).bind fun x15 =>
   (ap 16 l_3_1 ([x15.Name])).bind fun l16 =>
   some (.nx (l16,wr (i_5+1)))
  else
   some (.br l_3_1)
def c8u (m:Machine) (l_3:List ByteArray):Option (List ByteArray) :=
 (b0w (c8s m) (l_3,0)).bind fun l_3_1 =>
 c8v l_3_1
def c8t (m:Machine):((List ByteArray) × Int)->Option (Out ((List ByteArray) × Int) (((List ByteArray))))
 | (l_3,i_4) =>
  if decide (i_4<(List.length m.Counters:Int)) then
   (get m.Counters i_4).bind fun x24 =>
   (ap 16 l_3 ([x24.Name])).bind fun l25 =>
   some (.nx (l25,wr (i_4+1)))
  else
   some (.br l_3)
def c4l (m:Machine):Option (List ByteArray) :=
 (ap 16 ([]) m.Inputs).bind fun l3 =>
 (ap 16 l3 m.Outputs).bind fun l4 =>
 (b0w (c8t m) (l4,0)).bind fun l_3 =>
 c8u m l_3
@[go_sem] def vM (m:Machine):List AV:=[.fs 1 (List.map eS m.Inputs),.fs 1 (List.map eS m.Outputs),.fs 2 (List.map b0o m.Counters),.fs 2 (List.map b0p m.States),.fs 4 (List.map b0m m.Rules)]
theorem fM (m:Machine):Frz (.agg (vM m)):=(.agg _ (b0a (b0c fun a _=>b0z a) (b0a (b0c fun a _=>b0z a) (b0a (b0c fun a _=>b1q a) (b0a (b0c fun a _=>b1s a) (b0a (b0c fun a _=>b1r a) b0j))))))
def d0i (O:Orac):Prop:=∀ (m:Machine) (r:List ByteArray) (hm0:c4l m=some r),Fn O "newel/newelref04.names" [.agg (vM m)] (.fs 1 (List.map eS r))
def d4r (s:ByteArray):Option Bool :=
 some (decide (0<(ByteArray.size s:Int)))
def c4i (s:ByteArray):Int->Option (Out Int (Unit ⊕ Bool))
 | i_4 =>
  if decide (i_4<(ByteArray.size s:Int)) then
   (get (b3q s) i_4).bind fun x10 =>
   if (decide (x10<97)) || (decide (122<x10)) then
    some (.br (.inr false))
   else
    some (.nx (wr (i_4+1)))
  else
   some (.br (.inl ()))
def c8o (s:ByteArray):Option Bool :=
 (b0w (c4i s) (0)).bind fun
  | (.inl ())=>d4r s
  | (.inr r')=>some r'
def c4j (s:ByteArray):Int->Option (Out Int (Unit ⊕ Bool))
 | i_3 =>
  if decide (i_3<(List.length wl_0:Int)) then
   (get wl_0 i_3).bind fun x19 =>
   if decide (s=x19) then
    some (.br (.inr false))
   else
    some (.nx (wr (i_3+1)))
  else
   some (.br (.inl ()))
def c02 (s:ByteArray):Option Bool :=
 (b0w (c4j s) (0)).bind fun
  | (.inl ())=>c8o s
  | (.inr r')=>some r'
def d0g (O:Orac):Prop:=∀ (s:ByteArray) (r:Bool) (hm0:c02 s=some r),Fn O "newel/newelref04.Word" [.v (.string s)] (B r)
def d4s:Option Bool :=
 some true
def c8p (i_7:Int):Option (Out Int (Unit ⊕ Bool)) :=
 some (.nx (wr (i_7+1)))
def b7p (k_8:Int) (is_10:Bool):Option (Out Int (Unit ⊕ Bool)) :=
 if !is_10 then
  some (.br (.inr false))
 else
  some (.nx (wr (k_8+1)))
def b8y (m:Machine) (c:List (List Literal)) (inside:Bool) (i_7:Int):Int->Option (Out Int (Unit ⊕ Bool))
 | k_8 =>
  (get c i_7).bind fun x16 =>
  if decide (k_8<(List.length x16:Int)) then
   (get x16 k_8).bind fun x21 =>
   if decide (x21.Kind=1) then
    b7p k_8 ((b2b x21.Number 0 (wr ((List.length m.Inputs:Int) - 1))) && (decide (x21.Value=0)))
   else
    if decide (x21.Kind=2) then
     (if (b2b x21.Number 0 (wr ((List.length m.Counters:Int) - 1))) then (get m.Counters x21.Number).bind fun x30 =>
     some (b2b x21.Value 0 x30.Max) else some false).bind fun c31 =>
     b7p k_8 c31
    else
     if decide (x21.Kind=3) then
      b7p k_8 ((inside && (b2b x21.Number 0 (wr ((List.length m.States:Int) - 1)))) && (decide (x21.Value=0)))
     else
      if decide (x21.Kind=4) then
       b7p k_8 ((b2b x21.Number 0 (wr ((List.length m.Outputs:Int) - 1))) && (decide (x21.Value=0)))
      else
       b7p k_8 false
  else
   some (.br (.inl ()))
def c05 (m:Machine) (c:List (List Literal)) (inside:Bool):Int->Option (Out Int (Unit ⊕ Bool))
 | i_7 =>
  if decide (i_7<(List.length c:Int)) then
   (get c i_7).bind fun x11 =>
   if decide (6<(List.length x11:Int)) then
    some (.br (.inr false))
   else
    (b0w (b8y m c inside i_7) (0)).bind fun
     | (.inl ())=>c8p i_7
     | (.inr r')=>some (.br (.inr r'))
  else
   some (.br (.inl ()))
def c04 (m:Machine) (c:List (List Literal)) (inside:Bool):Option Bool :=
 if decide (6<(List.length c:Int)) then
  some false
 else
  (b0w (c05 m c inside) (0)).bind fun
   | (.inl ())=>d4s
   | (.inr r')=>some r'
def c5p (O:Orac):Prop:=∀ (m:Machine) (c:List (List Literal)) (inside:Bool) (r:Bool) (hm0:c04 m c inside=some r),Fn O "newel/newelref04.condition" [.agg (vM m),.fs 1 (List.map b0t c),B inside] (B r)
def d4p:Option Int :=
 some 0
def c8a (i_8:Int):Option (Out Int (Unit ⊕ Int)) :=
 some (.nx (wr (i_8+1)))
def c39 (m:Machine) (x23:Rule):Int->Option (Out Int (Unit ⊕ Int))
 | k_10 =>
  if decide (k_10<(List.length x23.Sets:Int)) then
   (get x23.Sets k_10).bind fun x38 =>
   if (!(b2b x38.Kind 1 3)) || (!(b2b x38.Counter 0 (wr ((List.length m.Counters:Int) - 1)))) then
    some (.br (.inr 41))
   else
    some (.nx (wr (k_10+1)))
  else
   some (.br (.inl ()))
def b8v (m:Machine):Int->Option (Out Int (Unit ⊕ Int))
 | i_8 =>
  if decide (i_8<(List.length m.Rules:Int)) then
   (get m.Rules i_8).bind fun x23 =>
   (if (!(b2b x23.From (-1) (wr ((List.length m.States:Int) - 1)))) || (!(b2b x23.To 0 (wr ((List.length m.States:Int) - 1)))) then some true else (c04 m x23.When false).bind fun y26 =>
   some (!y26)).bind fun c27 =>
   if c27 || (decide (4<(List.length x23.Sets:Int))) then
    some (.br (.inr 41))
   else
    (b0w (c39 m x23) (0)).bind fun
     | (.inl ())=>c8a i_8
     | (.inr r')=>some (.br (.inr r'))
  else
   some (.br (.inl ()))
def c79 (m:Machine):Option Int :=
 (b0w (b8v m) (0)).bind fun
  | (.inl ())=>d4p
  | (.inr r')=>some r'
def r8g (m:Machine):Int->Option (Out Int (Unit ⊕ Int))
 | i_7 =>
  if decide (i_7<(List.length m.States:Int)) then
   (get m.States i_7).bind fun x49 =>
   (shl .i64 1 (IntKind.wrap .u64 (List.length m.Outputs:Int))).bind fun q50 =>
   if !(b2b x49.Shows 0 (wr (q50 - 1))) then
    some (.br (.inr 41))
   else
    some (.nx (wr (i_7+1)))
  else
   some (.br (.inl ()))
def c78 (m:Machine):Option Int :=
 (b0w (r8g m) (0)).bind fun
  | (.inl ())=>c79 m
  | (.inr r')=>some r'
def p6x (m:Machine):Int->Option (Out Int (Unit ⊕ Int))
 | i_6 =>
  if decide (i_6<(List.length m.Counters:Int)) then
   (get m.Counters i_6).bind fun x58 =>
   if !(b2b x58.Max 1 7) then
    some (.br (.inr 41))
   else
    some (.nx (wr (i_6+1)))
  else
   some (.br (.inl ()))
def c77 (m:Machine):Option Int :=
 (b0w (p6x m) (0)).bind fun
  | (.inl ())=>c78 m
  | (.inr r')=>some r'
def c8b (i_4:Int):Option (Out Int (Unit ⊕ Int)) :=
 some (.nx (wr (i_4+1)))
def b8u (y8:List ByteArray) (i_4:Int):Int->Option (Out Int (Unit ⊕ Int))
 | k_5 =>
  if decide (k_5<i_4) then
   (get y8 k_5).bind fun x81 =>
   (get y8 i_4).bind fun x82 =>
   if decide (x81=x82) then
    some (.br (.inr 41))
   else
    some (.nx (wr (k_5+1)))
  else
   some (.br (.inl ()))
def b7n (y8:List ByteArray):Int->Option (Out Int (Unit ⊕ Int))
 | i_4 =>
  if decide (i_4<(List.length y8:Int)) then
   (get y8 i_4).bind fun x69 =>
   (if decide (8<(ByteArray.size x69:Int)) then some true else (c02 x69).bind fun y70 =>
   some (!y70)).bind fun c71 =>
   if c71 then
    some (.br (.inr 41))
   else
    (b0w (b8u y8 i_4) (0)).bind fun
     | (.inl ())=>c8b i_4
     | (.inr r')=>some (.br (.inr r'))
  else
   some (.br (.inl ()))
def c0u (m:Machine):Option Int :=
 if ((((decide (4<(List.length m.Inputs:Int))) || (decide (6<(List.length m.Outputs:Int)))) || (decide (2<(List.length m.Counters:Int)))) || (!(b2b (List.length m.States:Int) 1 12))) || (decide (40<(List.length m.Rules:Int))) then
  some 41
 else
  (c4l m).bind fun y8 =>
  (b0w (b7n y8) (0)).bind fun
   | (.inl ())=>c77 m
   | (.inr r')=>some r'
def c5k (O:Orac):Prop:=∀ (m:Machine) (r:Int) (hm0:c0u m=some r),Fn O "newel/newelref04.Check" [.agg (vM m)] (I r)
@[go_sem] def b4v (x:List (List Literal)):List AV:=[.fs 1 (List.map b0t x)]
theorem b97 (x:List (List Literal)):∀ c∈b4v x,Frz c:=(b0a (b0c fun a _=>b2j a) b0j)
theorem c7o (x:List (List Literal)):(b4v x).length=1:=rfl
@[go_sem] theorem o5j {l:List (List (List Literal))} {n:Nat} {a0:List (List Literal)}:(List.map b4v l).set n [.fs 1 (List.map b0t a0)]=List.map b4v (l.set n a0):=by rw [List.map_set]; rfl
def d4o:Option Int :=
 some 0
def p5t (m:Machine) (l:List (List (List Literal))):Int->Option (Out Int (Unit ⊕ Int))
 | i_6 =>
  if decide (i_6<(List.length l:Int)) then
   (get l i_6).bind fun x13 =>
   (c04 m x13 true).bind fun y14 =>
   if !y14 then
    some (.br (.inr 42))
   else
    some (.nx (wr (i_6+1)))
  else
   some (.br (.inl ()))
def c0v (m:Machine) (l:List (List (List Literal))):Option Int :=
 (c0u m).bind fun y2 =>
 if decide (¬y2=0) then
  some y2
 else
  (b0w (p5t m l) (0)).bind fun
   | (.inl ())=>d4o
   | (.inr r')=>some r'
def c5l (O:Orac):Prop:=∀ (m:Machine) (l:List (List (List Literal))) (r:Int) (hm0:c0v m l=some r),Fn O "newel/newelref04.CheckConds" [.agg (vM m),.fs 1 (List.map b4v l)] (I r)
def b98 (n:Int) (low:Int) (high:Int):Bool :=
 (decide (low<=n)) && (decide (n<=high))
def u1m (O:Orac):Prop:=∀ (n:Int) (low:Int) (high:Int),Fn O "newel/newelref10.from" [I n,I low,I high] (B (b98 n low high))
structure Record where
 From : Int
 To : Int
 All : Bool
 Cond : List (List Literal)
 deriving Inhabited,DecidableEq
structure Accident where
 Machine : Machine
 Assume : List (List Literal)
 Ticks : Int
 Records : List Record
 deriving Inhabited,DecidableEq
@[go_sem] def c26 (x:Record):List AV:=[I x.From,I x.To,B x.All,.fs 1 (List.map b0t x.Cond)]
theorem c17 (x:Record):∀ c∈c26 x,Frz c:=(b0a (b0e _) (b0a (b0e _) (b0a (b0e _) (b0a (b0c fun a _=>b2j a) b0j))))
@[go_sem] theorem w9n {l:List Record} {n:Nat} {a0:Int} {a1:Int} {a2:Bool} {a3:List (List Literal)}:(List.map c26 l).set n [I a0,I a1,B a2,.fs 1 (List.map b0t a3)]=List.map c26 (l.set n (Record.mk a0 a1 a2 a3)):=by rw [List.map_set]; rfl
def u30:Option Int :=
 some 0
def u01 (a:Accident):Int->Option (Out Int (Unit ⊕ Int))
 | i_6 =>
  if decide (i_6<(List.length a.Records:Int)) then
   (get a.Records i_6).bind fun x18 =>
   if (!(b98 x18.From 0 x18.To)) || (decide (a.Ticks<=x18.To)) then
    some (.br (.inr 102))
   else
    some (.nx (wr (i_6+1)))
  else
   some (.br (.inl ()))
def u11 (a:Accident) (l_3:List (List (List Literal))):Option Int :=
 (c0v a.Machine l_3).bind fun y4 =>
 if decide (¬y4=0) then
  some y4
 else
  if !(b98 a.Ticks 0 40) then
   some 1
  else
   if decide (8<(List.length a.Records:Int)) then
    some 2
   else
    (b0w (u01 a) (0)).bind fun
     | (.inl ())=>u30
     | (.inr r')=>some r'
def s9s (a:Accident):((List (List (List Literal))) × Int)->Option (Out ((List (List (List Literal))) × Int) (((List (List (List Literal))))))
 | (l_3,i_4) =>
  if decide (i_4<(List.length a.Records:Int)) then
   (get a.Records i_4).bind fun x28 =>
   (ap 24 l_3 ([x28.Cond])).bind fun l29 =>
   some (.nx (l29,wr (i_4+1)))
  else
   some (.br l_3)
def s9r (a:Accident):Option Int :=
 (b0w (s9s a) ([a.Assume],0)).bind fun l_3 =>
 u11 a l_3
@[go_sem] def vA (a:Accident):List AV:=[.fs 1 (List.map eS a.Machine.Inputs),.fs 1 (List.map eS a.Machine.Outputs),.fs 2 (List.map b0o a.Machine.Counters),.fs 2 (List.map b0p a.Machine.States),.fs 4 (List.map b0m a.Machine.Rules),.fs 1 (List.map b0t a.Assume),I a.Ticks,.fs 4 (List.map c26 a.Records)]
theorem fA (a:Accident):Frz (.agg (vA a)):=(.agg _ (b0a (b0c fun a _=>b0z a) (b0a (b0c fun a _=>b0z a) (b0a (b0c fun a _=>b1q a) (b0a (b0c fun a _=>b1s a) (b0a (b0c fun a _=>b1r a) (b0a (b0c fun a _=>b2j a) (b0a (b0e _) (b0a (b0c fun a _=>c17 a) b0j)))))))))
def u1k (O:Orac):Prop:=∀ (a:Accident) (r:Int) (hm0:s9r a=some r),Fn O "newel/newelref10.CheckAccident" [.agg (vA a)] (I r)
def u1y (a:Accident) (places_3:Int):Option Bool :=
 some ((((decide (2<(List.length a.Machine.Inputs:Int))) || (decide (24<places_3))) || (decide (6<a.Ticks))) || (decide (5<(List.length a.Records:Int))))
def u0v (a:Accident):(Int × Int)->Option (Out (Int × Int) Int)
 | (places_3,i_4) =>
  if decide (i_4<(List.length a.Machine.Counters:Int)) then
   (get a.Machine.Counters i_4).bind fun x17 =>
   some (.nx (wr (places_3 * (wr (x17.Max+1))),wr (i_4+1)))
  else
   some (.br places_3)
def s9o (a:Accident):Option Bool :=
 if decide (10<(List.length a.Records:Int)) then
  some true
 else
  (s9r a).bind fun y4 =>
  if decide (¬y4=0) then
   some false
  else
   (b0w (u0v a) ((List.length a.Machine.States:Int),0)).bind fun places_3 =>
   u1y a places_3
def u2n (O:Orac):Prop:=∀ (a:Accident) (r:Bool) (hm0:s9o a=some r),Fn O "newel/newellaw10.Deep" [.agg (vA a)] (B r)
def L1k:Option Bool:=some true
def L16 (O:Orac):Prop:=∀ (r:Bool) (hm0:L1k=some r),Fn O "newel/neweltop.measures" [] (B r)
structure Place where
 State : Int
 Values : Int × Int
 deriving Inhabited,DecidableEq
def b7q (l:Literal) (is_9:Bool):Option Bool :=
 some (!(b5c is_9 l.Not))
def c1a (m:Machine) (p:Place) (input:Int) (l:Literal):Option Bool :=
 if decide (l.Kind=1) then
  (shr .i64 input (IntKind.wrap .u64 l.Number)).bind fun q5 =>
  b7q l (decide ((b6y q5 1)=1))
 else
  if decide (l.Kind=2) then
   (get [p.Values.1,p.Values.2] l.Number).bind fun x8 =>
   b7q l (decide (l.Value<=x8))
  else
   if decide (l.Kind=3) then
    b7q l (decide (p.State=l.Number))
   else
    if decide (l.Kind=4) then
     (get m.States p.State).bind fun x13 =>
     (shr .i64 x13.Shows (IntKind.wrap .u64 l.Number)).bind fun q14 =>
     b7q l (decide ((b6y q14 1)=1))
    else
     b7q l false
def d4q:Option Bool :=
 some false
def c8e (i_9:Int):Option (Out Int (Unit ⊕ Bool)) :=
 some (.nx (wr (i_9+1)))
def c8f (i_9:Int) (all_10:Bool):Option (Out Int (Unit ⊕ Bool)) :=
 if all_10 then
  some (.br (.inr true))
 else
  c8e i_9
def c4e (m:Machine) (p:Place) (input:Int) (c:List (List Literal)) (i_9:Int):(Bool × Int)->Option (Out (Bool × Int) Bool)
 | (all_10,k_11) =>
  (get c i_9).bind fun x13 =>
  if decide (k_11<(List.length x13:Int)) then
   (if all_10 then (get x13 k_11).bind fun x20 =>
   (c1a m p input x20).bind fun y21 =>
   some y21 else some false).bind fun c22 =>
   some (.nx (c22,wr (k_11+1)))
  else
   some (.br all_10)
def c4d (m:Machine) (p:Place) (input:Int) (c:List (List Literal)):Int->Option (Out Int (Unit ⊕ Bool))
 | i_9 =>
  if decide (i_9<(List.length c:Int)) then
   (b0w (c4e m p input c i_9) (true,0)).bind fun all_10 =>
   c8f i_9 all_10
  else
   some (.br (.inl ()))
def b7o (m:Machine) (p:Place) (input:Int) (c:List (List Literal)):Option Bool :=
 (b0w (c4d m p input c) (0)).bind fun
  | (.inl ())=>d4q
  | (.inr r')=>some r'
def c0t (m:Machine) (p:Place) (input:Int) (assume:List (List Literal)):Option Bool :=
 (if decide ((List.length assume:Int)=0) then some true else (b7o m p input assume).bind fun y3 =>
 some y3).bind fun c4 =>
 some c4
def b2q (n:Int) (low:Int) (high:Int):Bool :=
 (decide (low<=n)) && (decide (n<=high))
def c5u (O:Orac):Prop:=∀ (n:Int) (low:Int) (high:Int),Fn O "newel/situation.within" [I n,I low,I high] (B (b2q n low high))
@[go_sem] def b4f (x:List ByteArray):List AV:=[.fs 1 (List.map eS x)]
theorem c65 (x:List ByteArray):∀ c∈b4f x,Frz c:=(b0a (b0c fun a _=>b0z a) b0j)
theorem g1e (x:List ByteArray):(b4f x).length=1:=rfl
@[go_sem] theorem o5l {l:List (List ByteArray)} {n:Nat} {a0:List ByteArray}:(List.map b4f l).set n [.fs 1 (List.map eS a0)]=List.map b4f (l.set n a0):=by rw [List.map_set]; rfl
def c9i (slices:List (List ByteArray)):Option (List ByteArray) :=
 if slices.flatten.length * 16<=2 ^ 40/\slices.length<2 ^ 40/\0<slices.flatten.length then some slices.flatten else none
def d0t (O:Orac):Prop:=∀ (slices:List (List ByteArray)) (r:List ByteArray) (hm0:c9i slices=some r),FnW O "slices.Concat[[]string,string]" [.fs 1 (List.map b4f slices)] 1 eS r
def c9j (slices:List (List ByteArray)):Option Unit :=
 if slices.flatten.length=0/\slices.length<2 ^ 40 then some () else none
def d0u (O:Orac):Prop:=∀ (slices:List (List ByteArray)) (r:Unit) (hm0:c9j slices=some r),Fn O "slices.Concat[[]string,string]" [.fs 1 (List.map b4f slices)] (.v (.slice none 0 0))
def c9c (l_3_1:List ByteArray):Option (List ByteArray) :=
 some l_3_1
def c89 (m:Machine):((List ByteArray) × Int)->Option (Out ((List ByteArray) × Int) (((List ByteArray))))
 | (l_3_1,x_30) =>
  if decide (x_30<(List.length m.States:Int)) then
   (get m.States x_30).bind fun x12 =>
   (ap 16 l_3_1 ([x12.Name])).bind fun l14 =>
   some (.nx (l14,wr (x_30+1)))
  else
   some (.br l_3_1)
def c9b (m:Machine) (l_3:List ByteArray):Option (List ByteArray) :=
 (b0w (c89 m) (l_3,0)).bind fun l_3_1 =>
 c9c l_3_1
def c9a (m:Machine):((List ByteArray) × Int)->Option (Out ((List ByteArray) × Int) (((List ByteArray))))
 | (l_3,x_17) =>
  if decide (x_17<(List.length m.Counters:Int)) then
   (get m.Counters x_17).bind fun x21 =>
   (ap 16 l_3 ([x21.Name])).bind fun l23 =>
   some (.nx (l23,wr (x_17+1)))
  else
   some (.br l_3)
def c88 (m:Machine):Option (List ByteArray) :=
 (c9i ([m.Inputs,m.Outputs])).bind fun y2 =>
 (b0w (c9a m) (y2,0)).bind fun l_3 =>
 c9b m l_3
def d0r (O:Orac):Prop:=∀ (m:Machine) (r:List ByteArray) (hm0:c88 m=some r),Fn O "newel/situation.names" [.agg (vM m)] (.fs 1 (List.map eS r))
def c9h (l_3_1:List ByteArray):Option (List ByteArray) :=
 some l_3_1
def c9e (m:Machine):((List ByteArray) × Int)->Option (Out ((List ByteArray) × Int) (((List ByteArray))))
 | (l_3_1,x_30) =>
  if decide (x_30<(List.length m.States:Int)) then
   (get m.States x_30).bind fun x12 =>
   (ap 16 l_3_1 ([x12.Name])).bind fun l14 =>
   some (.nx (l14,wr (x_30+1)))
  else
   some (.br l_3_1)
def c9g (m:Machine) (l_3:List ByteArray):Option (List ByteArray) :=
 (b0w (c9e m) (l_3,0)).bind fun l_3_1 =>
 c9h l_3_1
def c9f (m:Machine):((List ByteArray) × Int)->Option (Out ((List ByteArray) × Int) (((List ByteArray))))
 | (l_3,x_17) =>
  if decide (x_17<(List.length m.Counters:Int)) then
   (get m.Counters x_17).bind fun x21 =>
   (ap 16 l_3 ([x21.Name])).bind fun l23 =>
   some (.nx (l23,wr (x_17+1)))
  else
   some (.br l_3)
def c9d (m:Machine):Option (List ByteArray) :=
 (c9j ([m.Inputs,m.Outputs])).bind fun y2 =>
 (b0w (c9f m) ([],0)).bind fun l_3 =>
 c9g m l_3
def d0s (O:Orac):Prop:=∀ (m:Machine) (r:List ByteArray) (hm0:c9d m=some r),Fn O "newel/situation.names" [.agg (vM m)] (.fs 1 (List.map eS r))
def c45 (m:Machine):Option (List ByteArray) :=
 if 0<m.Inputs.length+m.Outputs.length then c88 m else c9d m
def d0q (O:Orac):Prop:=∀ (m:Machine) (r:List ByteArray) (hm0:c45 m=some r),Fn O "newel/situation.names" [.agg (vM m)] (.fs 1 (List.map eS r))
def d48 (word:ByteArray):Option Bool :=
 some (!(decide (word=(ByteArray.mk #[]))))
def c42 (word:ByteArray):Int->Option (Out Int (Unit ⊕ Bool))
 | x_8 =>
  if decide (x_8<(List.length (b3q word):Int)) then
   (get (b3q word) x_8).bind fun x8 =>
   if (decide (x8<97)) || (decide (122<x8)) then
    some (.br (.inr false))
   else
    some (.nx (wr (x_8+1)))
  else
   some (.br (.inl ()))
def r1j (word:ByteArray):Option Bool :=
 (b0w (c42 word) (0)).bind fun
  | (.inl ())=>d48 word
  | (.inr r')=>some r'
def d0m (O:Orac):Prop:=∀ (word:ByteArray) (r:Bool) (hm0:r1j word=some r),Fn O "newel/situation.Plain" [.v (.string word)] (B r)
def b5w (x_4:Bool):Bool :=
 if x_4 then
  true
 else
  false
def b84 (word:ByteArray):Bool :=
 if decide (word=(ByteArray.mk #[97,110,121])) then
  b5w (decide (word=(ByteArray.mk #[97,110,121])))
 else
  if decide (word=(ByteArray.mk #[116,111])) then
   b5w (decide (word=(ByteArray.mk #[116,111])))
  else
   if decide (word=(ByteArray.mk #[122,101,114,111])) then
    b5w (decide (word=(ByteArray.mk #[122,101,114,111])))
   else
    if decide (word=(ByteArray.mk #[109,111,114,101])) then
     b5w (decide (word=(ByteArray.mk #[109,111,114,101])))
    else
     if decide (word=(ByteArray.mk #[108,101,115,115])) then
      b5w (decide (word=(ByteArray.mk #[108,101,115,115])))
     else
      if decide (word=(ByteArray.mk #[105,102])) then
       b5w (decide (word=(ByteArray.mk #[105,102])))
      else
       if decide (word=(ByteArray.mk #[121,101,115])) then
        b5w (decide (word=(ByteArray.mk #[121,101,115])))
       else
        b5w (decide (word=(ByteArray.mk #[110,111])))
def d0n (O:Orac):Prop:=∀ (word:ByteArray),Fn O "newel/situation.Reserved" [.v (.string word)] (B (b84 word))
def d49:Option Bool :=
 some true
def c1i (y2:List ByteArray):((List (ByteArray × Int)) × Int)->Option (Out ((List (ByteArray × Int)) × Int) (Unit ⊕ Bool))
 | (seen_3,x_10) =>
  if decide (x_10<(List.length y2:Int)) then
   (get y2 x_10).bind fun x10 =>
   (r1j x10).bind fun y12 =>
   if (((!y12) || (decide (8<(ByteArray.size x10:Int)))) || (b84 x10)) || (decide (1<(b2w (b3w seen_3 x10 (wr ((b2w seen_3 x10 0)+1))) x10 0))) then
    some (.br (.inr false))
   else
    some (.nx ((b3w seen_3 x10 (wr ((b2w seen_3 x10 0)+1))),wr (x_10+1)))
  else
   some (.br (.inl ()))
def c44 (m:Machine):Option Bool :=
 (c45 m).bind fun y2 =>
 (b0w (c1i y2) (([]:List (ByteArray × Int)),0)).bind fun
  | (.inl ())=>d49
  | (.inr r')=>some r'
def d0p (O:Orac):Prop:=∀ (m:Machine) (r:Bool) (hm0:c44 m=some r),Fn O "newel/situation.named" [.agg (vM m)] (B r)
def c43 (m:Machine) (x:Literal):Option Bool :=
 if decide (x.Kind=1) then
  some ((b2q x.Number 0 (wr ((List.length m.Inputs:Int) - 1))) && (decide (x.Value=0)))
 else
  if decide (x.Kind=2) then
   (if (b2q x.Number 0 (wr ((List.length m.Counters:Int) - 1))) then (get m.Counters x.Number).bind fun x7 =>
   some (b2q x.Value 0 x7.Max) else some false).bind fun c8 =>
   some c8
  else
   if decide (x.Kind=3) then
    some ((b2q x.Number 0 (wr ((List.length m.States:Int) - 1))) && (decide (x.Value=0)))
   else
    if decide (x.Kind=4) then
     some ((b2q x.Number 0 (wr ((List.length m.Outputs:Int) - 1))) && (decide (x.Value=0)))
    else
     some false
def d0o (O:Orac):Prop:=∀ (m:Machine) (x:Literal) (r:Bool) (hm0:c43 m x=some r),Fn O "newel/situation.asks" [.agg (vM m),.agg [I x.Kind,I x.Number,I x.Value,B x.Not]] (B r)
def b82 (x:Literal) (c0:Machine):Option Bool :=
 (c43 c0 x).bind fun y2 =>
 some (!y2)
def d0j (O:Orac):Prop:=∀ (x:Literal) (c0:Machine) (r:Bool) (hm0:b82 x c0=some r),Fn O "newel/situation.Asked$1" [.agg [I x.Kind,I x.Number,I x.Value,B x.Not],.fp (vM c0) 0] (B r)
def d5f:Option Int :=
 some (-1)
def g3e (s:List Literal) (f:Literal->Option Bool):Int->Option (Out Int (Unit ⊕ Int))
 | x_8 =>
  if decide (x_8<(List.length s:Int)) then
   (get s x_8).bind fun x9 =>
   (f x9).bind fun y10 =>
   if y10 then
    some (.br (.inr x_8))
   else
    some (.nx (wr (x_8+1)))
  else
   some (.br (.inl ()))
def d5e (s:List Literal) (f:Literal->Option Bool):Option Int :=
 (b0w (g3e s f) (0)).bind fun
  | (.inl ())=>d5f
  | (.inr r')=>some r'
def d0z (O:Orac):Prop:=∀ (s:List Literal) (f_n:String) (f_a f_b:List AV) (f:Literal->Option Bool) (f_z:Frz (.fn f_n f_a f_b)) (f_h:∀ z0 y,f z0=some y->Fn O f_n (f_a++[.agg [I z0.Kind,I z0.Number,I z0.Value,B z0.Not]]++f_b) (B y)) (r:Int) (hm0:d5e s f=some r),Fn O "slices.IndexFunc[newel/api.Term,newel/api.Literal]" [.fs 4 (List.map b3k s),.fn f_n f_a f_b] (I r)
def b7t (s:List Literal) (f:Literal->Option Bool):Option Bool :=
 (d5e s f).bind fun y2 =>
 some (decide (0<=y2))
def c1o (O:Orac):Prop:=∀ (s:List Literal) (f_n:String) (f_a f_b:List AV) (f:Literal->Option Bool) (f_z:Frz (.fn f_n f_a f_b)) (f_h:∀ z0 y,f z0=some y->Fn O f_n (f_a++[.agg [I z0.Kind,I z0.Number,I z0.Value,B z0.Not]]++f_b) (B y)) (r:Bool) (hm0:b7t s f=some r),Fn O "slices.ContainsFunc[newel/api.Term,newel/api.Literal]" [.fs 4 (List.map b3k s),.fn f_n f_a f_b] (B r)
def d46:Option Bool :=
 some true
def c4u (m:Machine) (c:List (List Literal)):Int->Option (Out Int (Unit ⊕ Bool))
 | x_12 =>
  if decide (x_12<(List.length c:Int)) then
   (get c x_12).bind fun x10 =>
   (if decide (6<(List.length x10:Int)) then some true else (b7t x10 (fun z14=>b82 z14 m)).bind fun y15 =>
   some y15).bind fun c16 =>
   if c16 then
    some (.br (.inr false))
   else
    some (.nx (wr (x_12+1)))
  else
   some (.br (.inl ()))
def c1h (m:Machine) (c:List (List Literal)):Option Bool :=
 if decide (6<(List.length c:Int)) then
  some false
 else
  (b0w (c4u m c) (0)).bind fun
   | (.inl ())=>d46
   | (.inr r')=>some r'
def c5t (O:Orac):Prop:=∀ (m:Machine) (c:List (List Literal)) (r:Bool) (hm0:c1h m c=some r),Fn O "newel/situation.Asked" [.agg (vM m),.fs 1 (List.map b0t c)] (B r)
def b7s (x:Literal):Bool :=
 decide (x.Kind=3)
def d0l (O:Orac):Prop:=∀ (x:Literal),Fn O "newel/situation.Check$1" [.agg [I x.Kind,I x.Number,I x.Value,B x.Not]] (B (b7s x))
def d47:Option Int :=
 some 0
def c86 (x_79:Int):Option (Out Int (Unit ⊕ Int)) :=
 some (.nx (wr (x_79+1)))
def c4y (m:Machine) (x24:Rule):Int->Option (Out Int (Unit ⊕ Int))
 | x_127 =>
  if decide (x_127<(List.length x24.Sets:Int)) then
   (get x24.Sets x_127).bind fun x41 =>
   if (!(b2q x41.Kind 1 3)) || (!(b2q x41.Counter 0 (wr ((List.length m.Counters:Int) - 1)))) then
    some (.br (.inr 41))
   else
    some (.nx (wr (x_127+1)))
  else
   some (.br (.inl ()))
def c87 (m:Machine) (x_79:Int) (x24:Rule):Option (Out Int (Unit ⊕ Int)) :=
 (b0w (c4y m x24) (0)).bind fun
  | (.inl ())=>c86 x_79
  | (.inr r')=>some (.br (.inr r'))
def c4x (x24:Rule):Int->Option (Out Int (Unit ⊕ Int))
 | x_117 =>
  if decide (x_117<(List.length x24.When:Int)) then
   (get x24.When x_117).bind fun x50 =>
   (b7t x50 (fun z53=>some (b7s z53))).bind fun y54 =>
   if y54 then
    some (.br (.inr 41))
   else
    some (.nx (wr (x_117+1)))
  else
   some (.br (.inl ()))
def b83 (m:Machine):Int->Option (Out Int (Unit ⊕ Int))
 | x_79 =>
  if decide (x_79<(List.length m.Rules:Int)) then
   (get m.Rules x_79).bind fun x24 =>
   (if (!(b2q x24.From (-1) (wr ((List.length m.States:Int) - 1)))) || (!(b2q x24.To 0 (wr ((List.length m.States:Int) - 1)))) then some true else (c1h m x24.When).bind fun y27 =>
   some (!y27)).bind fun c28 =>
   if c28 || (decide (4<(List.length x24.Sets:Int))) then
    some (.br (.inr 41))
   else
    (b0w (c4x x24) (0)).bind fun
     | (.inl ())=>c87 m x_79 x24
     | (.inr r')=>some (.br (.inr r'))
  else
   some (.br (.inl ()))
def c85 (m:Machine):Option Int :=
 (b0w (b83 m) (0)).bind fun
  | (.inl ())=>d47
  | (.inr r')=>some r'
def c4w (m:Machine):Int->Option (Out Int (Unit ⊕ Int))
 | x_62 =>
  if decide (x_62<(List.length m.States:Int)) then
   (get m.States x_62).bind fun x63 =>
   (shl .i64 1 (List.length m.Outputs:Int)).bind fun q65 =>
   if !(b2q x63.Shows 0 (wr (q65 - 1))) then
    some (.br (.inr 41))
   else
    some (.nx (wr (x_62+1)))
  else
   some (.br (.inl ()))
def p84 (m:Machine):Option Int :=
 (b0w (c4w m) (0)).bind fun
  | (.inl ())=>c85 m
  | (.inr r')=>some r'
def c4z (m:Machine):Int->Option (Out Int (Unit ⊕ Int))
 | x_50 =>
  if decide (x_50<(List.length m.Counters:Int)) then
   (get m.Counters x_50).bind fun x73 =>
   if !(b2q x73.Max 1 7) then
    some (.br (.inr 41))
   else
    some (.nx (wr (x_50+1)))
  else
   some (.br (.inl ()))
def c4v (m:Machine):Option Int :=
 (if ((((decide (4<(List.length m.Inputs:Int))) || (decide (6<(List.length m.Outputs:Int)))) || (decide (2<(List.length m.Counters:Int)))) || (!(b2q (List.length m.States:Int) 1 12))) || (decide (40<(List.length m.Rules:Int))) then some true else (c44 m).bind fun y3 =>
 some (!y3)).bind fun c4 =>
 if c4 then
  some 41
 else
  (b0w (c4z m) (0)).bind fun
   | (.inl ())=>p84 m
   | (.inr r')=>some r'
def d0k (O:Orac):Prop:=∀ (m:Machine) (r:Int) (hm0:c4v m=some r),Fn O "newel/situation.Check" [.agg (vM m)] (I r)
def c2f (m:Machine):Option Int :=
 (c4v m).bind fun y2 =>
 some y2
def c96 (O:Orac):Prop:=∀ (m:Machine) (r:Int) (hm0:c2f m=some r),Fn O "newel/control.Check" [.agg (vM m)] (I r)
structure situation_Plant where
 Machine : Machine
 deriving Inhabited,DecidableEq
structure control_plant where
 Plant : situation_Plant
 deriving Inhabited,DecidableEq
def b3h (m:Machine):control_plant :=
 (control_plant.mk (situation_Plant.mk m))
def c5h (O:Orac):Prop:=∀ (m:Machine),Fn O "newel/control.of" [.agg (vM m)] (.agg [.fs 1 (List.map eS ((((b3h m).Plant).Machine).Inputs)),.fs 1 (List.map eS ((((b3h m).Plant).Machine).Outputs)),.fs 2 (List.map b0o ((((b3h m).Plant).Machine).Counters)),.fs 2 (List.map b0p ((((b3h m).Plant).Machine).States)),.fs 4 (List.map b0m ((((b3h m).Plant).Machine).Rules))])
def c1y (m:situation_Plant):Option Int :=
 (shl .i64 1 (List.length m.Machine.Inputs:Int)).bind fun q2 =>
 some q2
def c9y (O:Orac):Prop:=∀ (m:situation_Plant) (r:Int) (hm0:c1y m=some r),Fn O "(newel/situation.Plant).All" [.agg (vM m.Machine)] (I r)
def b6w (x:Literal) (holds_9:Bool):Option Bool :=
 some (!(b5c holds_9 x.Not))
def b77 (m:situation_Plant) (x:Literal) (p:Place) (input:Int):Option Bool :=
 if decide (x.Kind=1) then
  (shr .i64 input x.Number).bind fun q5 =>
  b6w x (decide ((b6y q5 1)=1))
 else
  if decide (x.Kind=2) then
   (get [p.Values.1,p.Values.2] x.Number).bind fun x8 =>
   b6w x (decide (x.Value<=x8))
  else
   if decide (x.Kind=3) then
    b6w x (decide (p.State=x.Number))
   else
    if decide (x.Kind=4) then
     (get m.Machine.States p.State).bind fun x13 =>
     (shr .i64 x13.Shows x.Number).bind fun q14 =>
     b6w x (decide ((b6y q14 1)=1))
    else
     b6w x false
def c93 (O:Orac):Prop:=∀ (m:situation_Plant) (x:Literal) (p:Place) (input:Int) (r:Bool) (hm0:b77 m x p input=some r),Fn O "(newel/situation.Plant).literal" [.agg (vM m.Machine),.agg [I x.Kind,I x.Number,I x.Value,B x.Not],.agg [I p.State,I p.Values.1,I p.Values.2],I input] (B r)
def b76 (x:Literal) (c0:situation_Plant) (c1:Place) (c2:Int):Option Bool :=
 (b77 c0 x c1 c2).bind fun y2 =>
 some (!y2)
def c91 (O:Orac):Prop:=∀ (x:Literal) (c0:situation_Plant) (c1:Place) (c2:Int) (r:Bool) (hm0:b76 x c0 c1 c2=some r),Fn O "(newel/situation.Plant).Holds$1$1" [.agg [I x.Kind,I x.Number,I x.Value,B x.Not],.fp (vM c0.Machine) 0,.fp [I c1.State,I c1.Values.1,I c1.Values.2] 0,.fp [I c2] 0] (B r)
def b74 (t_:List Literal) (c0:situation_Plant) (c1:Place) (c2:Int):Option Bool :=
 (b7t t_ (fun z3=>b76 z3 c0 c1 c2)).bind fun y4 =>
 some (!y4)
def c90 (O:Orac):Prop:=∀ (t_:List Literal) (c0:situation_Plant) (c1:Place) (c2:Int) (r:Bool) (hm0:b74 t_ c0 c1 c2=some r),Fn O "(newel/situation.Plant).Holds$1" [.fs 4 (List.map b3k t_),.fp (vM c0.Machine) 0,.fp [I c1.State,I c1.Values.1,I c1.Values.2] 0,.fp [I c2] 0] (B r)
def d5d:Option Int :=
 some (-1)
def g3d (s:List (List Literal)) (f:(List Literal)->Option Bool):Int->Option (Out Int (Unit ⊕ Int))
 | x_8 =>
  if decide (x_8<(List.length s:Int)) then
   (get s x_8).bind fun x9 =>
   (f x9).bind fun y10 =>
   if y10 then
    some (.br (.inr x_8))
   else
    some (.nx (wr (x_8+1)))
  else
   some (.br (.inl ()))
def d5c (s:List (List Literal)) (f:(List Literal)->Option Bool):Option Int :=
 (b0w (g3d s f) (0)).bind fun
  | (.inl ())=>d5d
  | (.inr r')=>some r'
def d0y (O:Orac):Prop:=∀ (s:List (List Literal)) (f_n:String) (f_a f_b:List AV) (f:(List Literal)->Option Bool) (f_z:Frz (.fn f_n f_a f_b)) (f_h:∀ z0 y,f z0=some y->Fn O f_n (f_a++[.fs 4 (List.map b3k z0)]++f_b) (B y)) (r:Int) (hm0:d5c s f=some r),Fn O "slices.IndexFunc[newel/api.Cond,newel/api.Term]" [.fs 1 (List.map b0t s),.fn f_n f_a f_b] (I r)
def c9k (s:List (List Literal)) (f:(List Literal)->Option Bool):Option Bool :=
 (d5c s f).bind fun y2 =>
 some (decide (0<=y2))
def d0w (O:Orac):Prop:=∀ (s:List (List Literal)) (f_n:String) (f_a f_b:List AV) (f:(List Literal)->Option Bool) (f_z:Frz (.fn f_n f_a f_b)) (f_h:∀ z0 y,f z0=some y->Fn O f_n (f_a++[.fs 4 (List.map b3k z0)]++f_b) (B y)) (r:Bool) (hm0:c9k s f=some r),Fn O "slices.ContainsFunc[newel/api.Cond,newel/api.Term]" [.fs 1 (List.map b0t s),.fn f_n f_a f_b] (B r)
def b6v (m:situation_Plant) (c:List (List Literal)) (p:Place) (input:Int):Option Bool :=
 (c9k c (fun z3=>b74 z3 m p input)).bind fun y4 =>
 some y4
def b89 (O:Orac):Prop:=∀ (m:situation_Plant) (c:List (List Literal)) (p:Place) (input:Int) (r:Bool) (hm0:b6v m c p input=some r),Fn O "(newel/situation.Plant).Holds" [.agg (vM m.Machine),.fs 1 (List.map b0t c),.agg [I p.State,I p.Values.1,I p.Values.2],I input] (B r)
def r1b (m:situation_Plant) (s:Set) (p:Place):Option Place :=
 (get [p.Values.1,p.Values.2] s.Counter).bind fun x2 =>
 if decide (s.Kind=1) then
  some (Place.mk p.State (b1n s.Counter 0 0 p.Values.1,b1n s.Counter 1 0 p.Values.2))
 else
  if decide (s.Kind=2) then
   (get m.Machine.Counters s.Counter).bind fun x6 =>
   some (Place.mk p.State (b1n s.Counter 0 (mn (wr (x2+1)) x6.Max) p.Values.1,b1n s.Counter 1 (mn (wr (x2+1)) x6.Max) p.Values.2))
  else
   if decide (s.Kind=3) then
    some (Place.mk p.State (b1n s.Counter 0 (mx (wr (x2 - 1)) 0) p.Values.1,b1n s.Counter 1 (mx (wr (x2 - 1)) 0) p.Values.2))
   else
    some (Place.mk p.State (p.Values.1,p.Values.2))
def c94 (O:Orac):Prop:=∀ (m:situation_Plant) (s:Set) (p:Place) (i_2:Nat) (h0:Heap) (ob_p2:h0.ob i_2=some (3,[[I p.State,I p.Values.1,I p.Values.2]])) (lt_p2:i_2<h0.nx) (r:Place) (hm0:r1b m s p=some r),b6e O "(newel/situation.Plant).set" [.agg (vM m.Machine),.agg [I s.Kind,I s.Counter],.rp i_2 0 0] h0 (fun v h=>v = .tup []/\h.ob i_2=some (3,[[I r.State,I r.Values.1,I r.Values.2]])/\(∀ j,j<h0.nx->¬j=i_2->h.ob j=h0.ob j)/\h0.nx<=h.nx)
def c6h (p_4_0:Int) (p_4_1:Int) (p_4_2:Int):Option Place :=
 some (Place.mk p_4_0 (p_4_1,p_4_2))
def c6i (x_15:Int):Option (Out Int ((Int × Int × Int))) :=
 some (.nx (wr (x_15+1)))
def c6g (x9:Rule) (p_4_0:Int) (p_4_1:Int) (p_4_2:Int):Option (Out Int ((Int × Int × Int))) :=
 some (.br (x9.To,p_4_1,p_4_2))
def c11 (m:situation_Plant) (x9:Rule):(Int × Int × Int × Int)->Option (Out (Int × Int × Int × Int) ((Int × Int × Int)))
 | (p_4_0,p_4_1,p_4_2,x_41) =>
  if decide (x_41<(List.length x9.Sets:Int)) then
   (get x9.Sets x_41).bind fun x25 =>
   (r1b m x25 (Place.mk p_4_0 (p_4_1,p_4_2))).bind fun y27 =>
   some (.nx (y27.State,y27.Values.1,y27.Values.2,wr (x_41+1)))
  else
   some (.br (p_4_0,p_4_1,p_4_2))
def c6f (m:situation_Plant) (p:Place) (input:Int):Int->Option (Out Int ((Int × Int × Int)))
 | x_15 =>
  if decide (x_15<(List.length m.Machine.Rules:Int)) then
   (get m.Machine.Rules x_15).bind fun x9 =>
   (if (decide (¬x9.From=(-1))) && (decide (¬x9.From=p.State)) then some true else (b6v m x9.When (Place.mk p.State (p.Values.1,p.Values.2)) input).bind fun y12 =>
   some (!y12)).bind fun c13 =>
   if c13 then
    c6i x_15
   else
    (b0w (c11 m x9) (p.State,p.Values.1,p.Values.2,0)).bind fun
     | (p_4_0,p_4_1,p_4_2)=>c6g x9 p_4_0 p_4_1 p_4_2
  else
   some (.br (p.State,p.Values.1,p.Values.2))
def r7y (m:situation_Plant) (p:Place) (input:Int):Option Place :=
 (b0w (c6f m p input) (0)).bind fun
  | (p_4_0,p_4_1,p_4_2)=>c6h p_4_0 p_4_1 p_4_2
def c92 (O:Orac):Prop:=∀ (m:situation_Plant) (p:Place) (input:Int) (r:Place) (hm0:r7y m p input=some r),Fn O "(newel/situation.Plant).Step" [.agg (vM m.Machine),.agg [I p.State,I p.Values.1,I p.Values.2],I input] (.agg [I r.State,I r.Values.1,I r.Values.2])
def K5s (n:Int) (low:Int) (high:Int):Bool :=
 (decide (low<=n)) && (decide (n<=high))
def u1j (O:Orac):Prop:=∀ (n:Int) (low:Int) (high:Int),Fn O "newel/faults.within" [I n,I low,I high] (B (K5s n low high))
def u28:Option Int :=
 some 0
def u0j (a:Accident):Int->Option (Out Int (Unit ⊕ Int))
 | x_45 =>
  if decide (x_45<(List.length a.Records:Int)) then
   (get a.Records x_45).bind fun x22 =>
   if ((decide (x22.From<0)) || (decide (x22.To<x22.From))) || (decide (a.Ticks<=x22.To)) then
    some (.br (.inr 102))
   else
    some (.nx (wr (x_45+1)))
  else
   some (.br (.inl ()))
def u1w (a:Accident):Option Int :=
 if !(K5s a.Ticks 0 40) then
  some 1
 else
  if decide (8<(List.length a.Records:Int)) then
   some 2
  else
   (b0w (u0j a) (0)).bind fun
    | (.inl ())=>u28
    | (.inr r')=>some r'
def u0i (a:Accident):Int->Option (Out Int (Unit ⊕ Int))
 | x_23 =>
  if decide (x_23<(List.length a.Records:Int)) then
   (get a.Records x_23).bind fun x32 =>
   (c1h a.Machine x32.Cond).bind fun y34 =>
   if !y34 then
    some (.br (.inr 42))
   else
    some (.nx (wr (x_23+1)))
  else
   some (.br (.inl ()))
def u0h (a:Accident):Option Int :=
 (c4v a.Machine).bind fun y2 =>
 if decide (¬y2=0) then
  some y2
 else
  (c1h a.Machine a.Assume).bind fun y6 =>
  if !y6 then
   some 42
  else
   (b0w (u0i a) (0)).bind fun
    | (.inl ())=>u1w a
    | (.inr r')=>some r'
def u2l (O:Orac):Prop:=∀ (a:Accident) (r:Int) (hm0:u0h a=some r),Fn O "newel/faults.accident" [.agg (vA a)] (I r)
structure Theory where
 Input : Int
 Value : Int
 From : Int
 deriving Inhabited,DecidableEq
def u0l (a:Accident) (t_:Theory):Bool :=
 if decide (t_.Input=(-1)) then
  (decide (t_.Value=0)) && (decide (t_.From=0))
 else
  ((K5s t_.Input 0 (wr ((List.length a.Machine.Inputs:Int) - 1))) && (K5s t_.Value 0 1)) && (K5s t_.From 0 (wr (a.Ticks - 1)))
def u2m (O:Orac):Prop:=∀ (a:Accident) (t_:Theory),Fn O "newel/faults.theory" [.agg (vA a),.agg [I t_.Input,I t_.Value,I t_.From]] (B (u0l a t_))
def s9j (a:Accident) (t_:Theory):Option Int :=
 (u0h a).bind fun y2 =>
 if decide (¬y2=0) then
  some y2
 else
  if !(u0l a t_) then
   some 1
  else
   some 0
def u1i (O:Orac):Prop:=∀ (a:Accident) (t_:Theory) (r:Int) (hm0:s9j a t_=some r),Fn O "newel/faults.both" [.agg (vA a),.agg [I t_.Input,I t_.Value,I t_.From]] (I r)
def u29 (p0_:Int):Bool :=
 true
def s98 (O:Orac):Prop:=∀ (p0_:Int),Fn O "newel/faults.search$1" [I p0_] (B (u29 p0_))
def u3a (p0_:Int) (p1_:Place) (p2_:Int):Bool :=
 true
def z1x (O:Orac):Prop:=∀ (p0_:Int) (p1_:Place) (p2_:Int),Fn O "newel/faults.search$2" [I p0_,.agg [I p1_.State,I p1_.Values.1,I p1_.Values.2],I p2_] (B (u3a p0_ p1_ p2_))
def c1z (m:situation_Plant) (assume:List (List Literal)) (p:Place) (input:Int):Option Bool :=
 (if decide ((List.length assume:Int)=0) then some true else (b6v m assume p input).bind fun y3 =>
 some y3).bind fun c4 =>
 some c4
def c9z (O:Orac):Prop:=∀ (m:situation_Plant) (assume:List (List Literal)) (p:Place) (input:Int) (r:Bool) (hm0:c1z m assume p input=some r),Fn O "(newel/situation.Plant).Allowed" [.agg (vM m.Machine),.fs 1 (List.map b0t assume),.agg [I p.State,I p.Values.1,I p.Values.2],I input] (B r)
structure faults_inquiry where
 Accident : Accident
 plant : situation_Plant
 theory : Theory
 deriving Inhabited,DecidableEq
structure faults_moment where
 tick : Int
 place : Place
 done : Int
 deriving Inhabited,DecidableEq
def u2v (done_8:Int):Option (Int × Bool) :=
 some (done_8,true)
def s82 (x_20:Int) (done_8_1:Int):Option (Out (Int × Int) (Int ⊕ ((Int × Bool)))) :=
 some (.nx (done_8_1,wr (x_20+1)))
def s81 (m:faults_moment) (x_20:Int) (x9:Record) (done_8_1:Int):Option (Out (Int × Int) (Int ⊕ ((Int × Bool)))) :=
 if decide (m.tick=x9.To) then
  (shl .i64 1 x_20).bind fun q22 =>
  s82 x_20 (g6a done_8_1 q22)
 else
  s82 x_20 done_8_1
def u0d (q:faults_inquiry) (m:faults_moment) (input:Int) (keep:Int->Option Bool):(Int × Int)->Option (Out (Int × Int) (Int ⊕ ((Int × Bool))))
 | (done_8,x_20) =>
  if decide (x_20<(List.length q.Accident.Records:Int)) then
   (get q.Accident.Records x_20).bind fun x9 =>
   (keep x_20).bind fun y11 =>
   if ((!y11) || (decide (m.tick<x9.From))) || (decide (x9.To<m.tick)) then
    s82 x_20 done_8
   else
    (b6v q.plant x9.Cond (Place.mk m.place.State (m.place.Values.1,m.place.Values.2)) input).bind fun y17 =>
    if x9.All && (!y17) then
     some (.br (.inr (0,false)))
    else
     if x9.All then
      s81 m x_20 x9 done_8
     else
      if y17 && (decide (m.tick<x9.To)) then
       (shl .i64 1 x_20).bind fun q29 =>
       s81 m x_20 x9 (bor done_8 q29)
      else
       (if (!y17) && (decide (m.tick=x9.To)) then (shr .i64 done_8 x_20).bind fun q32 =>
       some (decide ((b6y q32 1)=0)) else some false).bind fun c33 =>
       if c33 then
        some (.br (.inr (0,false)))
       else
        s81 m x_20 x9 done_8
  else
   some (.br (.inl done_8))
def s9f (q:faults_inquiry) (m:faults_moment) (input:Int) (keep:Int->Option Bool) (fits:Int->Place->Int->Option Bool):Option (Int × Bool) :=
 (b0w (u0d q m input keep) (m.done,0)).bind fun
  | (.inl done_8)=>u2v done_8
  | (.inr r')=>some r'
@[go_sem] def vQ (q:faults_inquiry) (k f x y:AV):List AV:=[.fs 1 (List.map eS q.Accident.Machine.Inputs),.fs 1 (List.map eS q.Accident.Machine.Outputs),.fs 2 (List.map b0o q.Accident.Machine.Counters),.fs 2 (List.map b0p q.Accident.Machine.States),.fs 4 (List.map b0m q.Accident.Machine.Rules),.fs 1 (List.map b0t q.Accident.Assume),I q.Accident.Ticks,.fs 4 (List.map c26 q.Accident.Records),.fs 1 (List.map eS q.plant.Machine.Inputs),.fs 1 (List.map eS q.plant.Machine.Outputs),.fs 2 (List.map b0o q.plant.Machine.Counters),.fs 2 (List.map b0p q.plant.Machine.States),.fs 4 (List.map b0m q.plant.Machine.Rules),I q.theory.Input,I q.theory.Value,I q.theory.From,k,f,x,y]
def u1h (O:Orac):Prop:=∀ (q:faults_inquiry) (i_0:Nat) (d1 d2:AV) (m:faults_moment) (input:Int) (keep_n:String) (keep_a keep_b:List AV) (keep:Int->Option Bool) (keep_z:Frz (.fn keep_n keep_a keep_b)) (keep_h:∀ z0 y,keep z0=some y->Fn O keep_n (keep_a++[I z0]++keep_b) (B y)) (fits_n:String) (fits_a fits_b:List AV) (fits:Int->Place->Int->Option Bool) (fits_z:Frz (.fn fits_n fits_a fits_b)) (fits_h:∀ z0 z1 z2 y,fits z0 z1 z2=some y->Fn O fits_n (fits_a++[I z0,.agg [I z1.State,I z1.Values.1,I z1.Values.2],I z2]++fits_b) (B y)) (h0:Heap) (ob_p0:h0.ob i_0=some (20,[(vQ q (.fn keep_n keep_a keep_b) (.fn fits_n fits_a fits_b) d1 d2)])) (lt_p0:i_0<h0.nx) (r:Int × Bool) (hm0:s9f q m input keep fits=some r),b6e O "(*newel/faults.inquiry).seen" [.rp i_0 0 0,.agg [I m.tick,I m.place.State,I m.place.Values.1,I m.place.Values.2,I m.done],I input] h0 (fun v h=>v = .tup [I r.1,B r.2]/\(∀ j,j<h0.nx->h.ob j=h0.ob j)/\h0.nx<=h.nx)
def s9e (q:faults_inquiry) (tick:Int) (input:Int) (keep:Int->Option Bool) (fits:Int->Place->Int->Option Bool):Option Int :=
 if (decide (q.theory.Input<0)) || (decide (tick<q.theory.From)) then
  some input
 else
  (shl .i64 1 q.theory.Input).bind fun q6 =>
  (shl .i64 q.theory.Value q.theory.Input).bind fun q7 =>
  some (bor (g6a input q6) q7)
def u1g (O:Orac):Prop:=∀ (q:faults_inquiry) (i_0:Nat) (d1 d2:AV) (tick:Int) (input:Int) (keep_n:String) (keep_a keep_b:List AV) (keep:Int->Option Bool) (keep_z:Frz (.fn keep_n keep_a keep_b)) (keep_h:∀ z0 y,keep z0=some y->Fn O keep_n (keep_a++[I z0]++keep_b) (B y)) (fits_n:String) (fits_a fits_b:List AV) (fits:Int->Place->Int->Option Bool) (fits_z:Frz (.fn fits_n fits_a fits_b)) (fits_h:∀ z0 z1 z2 y,fits z0 z1 z2=some y->Fn O fits_n (fits_a++[I z0,.agg [I z1.State,I z1.Values.1,I z1.Values.2],I z2]++fits_b) (B y)) (h0:Heap) (ob_p0:h0.ob i_0=some (20,[(vQ q (.fn keep_n keep_a keep_b) (.fn fits_n fits_a fits_b) d1 d2)])) (lt_p0:i_0<h0.nx) (r:Int) (hm0:s9e q tick input keep fits=some r),b6e O "(*newel/faults.inquiry).heard" [.rp i_0 0 0,I tick,I input] h0 (fun v h=>v=I r/\(∀ j,j<h0.nx->h.ob j=h0.ob j)/\h0.nx<=h.nx)
def s8w (x:faults_moment):List Int:=[x.tick,x.place.State,x.place.Values.1,x.place.Values.2,x.done]
theorem u49:∀ a b,b3o false (vks s8w a) (vks s8w b)=some (decide (a=b)):=j7d (n:=5) (fun _=>rfl) fun a b h=>by
 obtain ⟨a1,⟨a2,a3,a4⟩,a5⟩:=a; obtain ⟨b1,⟨b2,b3,b4⟩,b5⟩:=b
 simp only [s8w,List.cons.injEq,and_true] at h
 obtain ⟨rfl,rfl,rfl,rfl,rfl⟩:=h; rfl
abbrev b54:=List (faults_moment × Bool)
abbrev Kp:=Int->Option Bool
abbrev Ft:=Int->Place->Int->Option Bool
def u0f (q:faults_inquiry) (keep:Kp) (fits:Ft) (n:Int) (m:faults_moment) (rec:faults_moment->b54->List Int->Option (Bool × b54 × List Int)):b54 × List Int × Int->Option (Out (b54 × List Int × Int) (b54 × List Int ⊕ b54 × List Int))
 | (dead,ins,x) =>
  if decide (x<n) then
   (c1z q.plant q.Accident.Assume m.place x).bind fun y1 =>
   (if !y1 then some true else (fits m.tick m.place x).bind fun y2=>some (!y2)).bind fun c =>
   if c then some (.nx (dead,ins,wr (x+1)))
   else
    (s9f q m x keep fits).bind fun s =>
    if !s.2 then some (.nx (dead,ins,wr (x+1)))
    else
     (ap 8 ins ([x])).bind fun l =>
     (s9e q m.tick x keep fits).bind fun y =>
     (r7y q.plant m.place y).bind fun p =>
     (rec ⟨wr (m.tick+1),p,s.1⟩ dead l).bind fun r =>
     if r.1 then some (.br (.inr r.2))
     else (sub r.2.2 0 (wr ((List.length r.2.2:Int) - 1))).bind fun l2=>some (.nx (r.2.1,l2,wr (x+1)))
  else some (.br (.inl (dead,ins)))
def s57 (q:faults_inquiry) (keep:Kp) (fits:Ft):Nat->faults_moment->b54->List Int->Option (Bool × b54 × List Int)
 | 0,_,_,_=>none
 | k+1,m,dead,ins =>
  if decide (m.tick=q.Accident.Ticks) then some (true,dead,ins)
  else if b2w dead m false then some (false,dead,ins)
  else (c1y q.plant).bind fun n =>
   (b0w (u0f q keep fits n m (s57 q keep fits k)) (dead,ins,0)).bind fun
    | .inl (d,l)=>some (false,b3w d m true,l)
    | .inr (d,l)=>some (true,d,l)
def s89 (a:Accident) (t:Theory) (keep:Kp) (fits:Ft):Option (List Int × Bool) :=
 (s57 ⟨a,⟨a.Machine⟩,t⟩ keep fits (a.Ticks.toNat+1) ⟨0,⟨0,(0,0)⟩,0⟩ [] []).bind fun r=>some (if r.1 then r.2.2 else [],r.1)
def u0k (a:Accident) (t:Theory):Option (List Int × Bool):=s89 a t (fun _=>some true) (fun _ _ _=>some true)
abbrev aA (a:Accident):List AV:=(vA a)
def s97 (O:Orac):Prop:=∀ (a:Accident) (t_:Theory) (r:List Int × Bool) (hm0:u0k a t_=some r),Fn O "newel/faults.search" [.agg (aA a),.agg [I t_.Input,I t_.Value,I t_.From],.fs 1 []] (.tup [.fs 1 (List.map eI r.1),B r.2])
def u0g (a:Accident) (t_:Theory):Option (Bool × Int) :=
 (s9j a t_).bind fun y2 =>
 if decide (¬y2=0) then
  some (false,y2)
 else
  (u0k a t_).bind fun y6 =>
  some (y6.2,0)
def u2k (O:Orac):Prop:=∀ (a:Accident) (t_:Theory) (r:Bool × Int) (hm0:u0g a t_=some r),Fn O "newel/faults.Possible" [.agg (vA a),.agg [I t_.Input,I t_.Value,I t_.From]] (.tup [B r.1,I r.2])
def s9i (a:Accident) (t_:Theory):Option ((List Int) × Int) :=
 (s9j a t_).bind fun y2 =>
 if decide (¬y2=0) then
  some ([],y2)
 else
  (u0k a t_).bind fun y6 =>
  if !y6.2 then
   some ([],3)
  else
   some (y6.1,0)
def u2j (O:Orac):Prop:=∀ (a:Accident) (t_:Theory) (r:(List Int) × Int) (hm0:s9i a t_=some r),Fn O "newel/faults.Course" [.agg (vA a),.agg [I t_.Input,I t_.Value,I t_.From]] (.tup [.fs 1 (List.map eI r.1),I r.2])
def l59 (a:Accident) (t_:Theory):Bool :=
 if decide (t_.Input=(-1)) then
  (decide (t_.Value=0)) && (decide (t_.From=0))
 else
  ((b98 t_.Input 0 (wr ((List.length a.Machine.Inputs:Int) - 1))) && (b98 t_.Value 0 1)) && (b98 t_.From 0 (wr (a.Ticks - 1)))
def u2s (O:Orac):Prop:=∀ (a:Accident) (t_:Theory),Fn O "newel/newelref10.IsTheory" [.agg (vA a),.agg [I t_.Input,I t_.Value,I t_.From]] (B (l59 a t_))
@[go_sem] def u26 (x:Theory):List AV:=[I x.Input,I x.Value,I x.From]
theorem x5h (x:Theory):∀ c∈u26 x,Frz c:=(b0a (b0e _) (b0a (b0e _) (b0a (b0e _) b0j)))
theorem x6w (x:Theory):(u26 x).length=3:=rfl
@[go_sem] theorem w9o {l:List Theory} {n:Nat} {a0:Int} {a1:Int} {a2:Int}:(List.map u26 l).set n [I a0,I a1,I a2]=List.map u26 (l.set n (Theory.mk a0 a1 a2)):=by rw [List.map_set]; rfl
def d1j:Option Int :=
 some 0
def c2i (m:Machine) (conds:List (List (List Literal))):Int->Option (Out Int (Unit ⊕ Int))
 | x_15 =>
  if decide (x_15<(List.length conds:Int)) then
   (get conds x_15).bind fun x12 =>
   (c1h m x12).bind fun y14 =>
   if !y14 then
    some (.br (.inr 42))
   else
    some (.nx (wr (x_15+1)))
  else
   some (.br (.inl ()))
def b9x (m:Machine) (conds:List (List (List Literal))):Option Int :=
 (c2f m).bind fun y2 =>
 if decide (¬y2=0) then
  some y2
 else
  (b0w (c2i m conds) (0)).bind fun
   | (.inl ())=>d1j
   | (.inr r')=>some r'
def c5g (O:Orac):Prop:=∀ (m:Machine) (conds:List (List (List Literal))) (r:Int) (hm0:b9x m conds=some r),Fn O "newel/control.check" [.agg (vM m),.fs 1 (List.map b4v conds)] (I r)
structure control_walk where
 places : List Place
 from_ : List Int
 by_ : List Int
 next : List (List Int)
 deriving Inhabited,DecidableEq
@[go_sem] def b1g (x:Place):List AV:=[I x.State,I x.Values.1,I x.Values.2]
@[go_sem] theorem o5n {l:List Place} {n:Nat} {a0:Int} {a1:Int} {a2:Int}:(List.map b1g l).set n [I a0,I a1,I a2]=List.map b1g (l.set n (Place.mk a0 (a1,a2))):=by rw [List.map_set]; rfl
@[go_sem] def b2f (x:List Int):List AV:=[.fs 1 (List.map eI x)]
@[go_sem] theorem o5i {l:List (List Int)} {n:Nat} {a0:List Int}:(List.map b2f l).set n [.fs 1 (List.map eI a0)]=List.map b2f (l.set n a0):=by rw [List.map_set]; rfl
structure neweltop_Charge where
 Assume : List (List Literal)
 Never : List (List Literal)
 Ticks : Int
 Theory : Theory
 deriving Inhabited,DecidableEq
def L12:Option Bool :=
 some true
def L1y (i_3:Int):Option (Out Int (Unit ⊕ Bool)) :=
 some (.nx (wr (i_3+1)))
def L1m (c:List (List Literal)) (i_3:Int):Int->Option (Out Int (Unit ⊕ Bool))
 | k_4 =>
  (get c i_3).bind fun x10 =>
  if decide (k_4<(List.length x10:Int)) then
   (get x10 k_4).bind fun x15 =>
   if (decide (¬x15.Kind=1)) && (decide (¬x15.Kind=4)) then
    some (.br (.inr false))
   else
    some (.nx (wr (k_4+1)))
  else
   some (.br (.inl ()))
def L1o (c:List (List Literal)):Int->Option (Out Int (Unit ⊕ Bool))
 | i_3 =>
  if decide (i_3<(List.length c:Int)) then
   (b0w (L1m c i_3) (0)).bind fun
    | (.inl ())=>L1y i_3
    | (.inr r')=>some (.br (.inr r'))
  else
   some (.br (.inl ()))
def L1l (c:List (List Literal)):Option Bool :=
 (b0w (L1o c) (0)).bind fun
  | (.inl ())=>L12
  | (.inr r')=>some r'
def L1z (O:Orac):Prop:=∀ (c:List (List Literal)) (r:Bool) (hm0:L1l c=some r),Fn O "newel/neweltop.shown" [.fs 1 (List.map b0t c)] (B r)
def r1x:Option Bool :=
 some true
def r1k (s1_:List ByteArray) (s2_:List ByteArray):Int->Option (Out Int (Unit ⊕ Bool))
 | x_13 =>
  if decide (x_13<(List.length s1_:Int)) then
   (get s1_ x_13).bind fun x11 =>
   (get s2_ x_13).bind fun x12 =>
   if !(decide (x11=x12)) then
    some (.br (.inr false))
   else
    some (.nx (wr (x_13+1)))
  else
   some (.br (.inl ()))
def r1a (s1_:List ByteArray) (s2_:List ByteArray):Option Bool :=
 if decide (¬(List.length s1_:Int)=(List.length s2_:Int)) then
  some false
 else
  (b0w (r1k s1_ s2_) (0)).bind fun
   | (.inl ())=>r1x
   | (.inr r')=>some r'
def r13 (O:Orac):Prop:=∀ (s1_:List ByteArray) (s2_:List ByteArray) (r:Bool) (hm0:r1a s1_ s2_=some r),Fn O "slices.Equal[[]string,string]" [.fs 1 (List.map eS s1_),.fs 1 (List.map eS s2_)] (B r)
def r1w (s:List Int):Option (List Int) :=
 (r1h s).bind fun q2 =>
 if q2 then
  some ([])
 else
  (ap 8 ([]) s).bind fun l6 =>
  some l6
def r12 (O:Orac):Prop:=∀ (s:List Int) (r:List Int) (hm0:r1w s=some r),FnW O "slices.Clone[[]int,int]" [.fs 1 (List.map eI s)] 1 eI r
structure control_pair where
 a : Place
 b : Place
 deriving Inhabited,DecidableEq
@[go_sem] def d7o (x:control_pair):List AV:=[I x.a.State,I x.a.Values.1,I x.a.Values.2,I x.b.State,I x.b.Values.1,I x.b.Values.2]
@[go_sem] theorem o5r {l:List control_pair} {n:Nat} {a0:Int} {a1:Int} {a2:Int} {a3:Int} {a4:Int} {a5:Int}:(List.map d7o l).set n [I a0,I a1,I a2,I a3,I a4,I a5]=List.map d7o (l.set n (control_pair.mk (Place.mk a0 (a1,a2)) (Place.mk a3 (a4,a5)))):=by rw [List.map_set]; rfl
def s3o (x:control_pair):List Int:=[x.a.State,x.a.Values.1,x.a.Values.2,x.b.State,x.b.Values.1,x.b.Values.2]
theorem r2e:∀ a b,b3o false (vks s3o a) (vks s3o b)=some (decide (a=b)):=j7d (n:=6) (fun _=>rfl) fun a b h=>by
 obtain ⟨⟨a1,⟨a2,a3⟩⟩,⟨a4,⟨a5,a6⟩⟩⟩:=a; obtain ⟨⟨b7,⟨b8,b9⟩⟩,⟨b10,⟨b11,b12⟩⟩⟩:=b
 simp only [s3o,List.cons.injEq,and_true] at h
 obtain ⟨rfl,rfl,rfl,rfl,rfl,rfl⟩:=h; rfl
def l10 (n T:Nat):List Theory:=⟨-1,0,0⟩ :: (List.range n).flatMap fun (i:Nat)=>(List.range 2).flatMap fun (v:Nat)=>(List.range T).map fun (t:Nat)=>⟨i,v,t⟩
def J34 (a:Accident):List Theory->Option (List Theory)
 | []=>some []
 | t :: r=>(u0k a t).bind fun s=>(J34 a r).bind fun l=>some (if s.2 then t :: l else l)
def K5r (a:Accident):Option (List Theory × Int) :=
 (u0h a).bind fun e =>
 if !(decide (e=0)) then some ([],e)
 else if a.Machine.Inputs.length<1000/\0<=a.Ticks/\a.Ticks<1000 then (J34 a (l10 a.Machine.Inputs.length a.Ticks.toNat)).bind fun l=>some (l,0)
 else none
def K6c (O:Orac):Prop:=∀ (a:Accident) (r:List Theory × Int) (hm0:K5r a=some r),Fn O "newel/faults.Theories" [.agg (aA a)] (.tup [.fs 3 (List.map u26 r.1),I r.2])
structure neweltop_Alike where
 Assume : List (List Literal)
 Ticks : Int
 Records : List Record
 Theory : Theory
 deriving Inhabited,DecidableEq
structure neweltop_Sworn where
 Assume : List (List Literal)
 Never : Literal
 Places : List Place
 Ticks : Int
 deriving Inhabited,DecidableEq
end
end Go.Nw.UM
