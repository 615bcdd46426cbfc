/- Models of functions: printed by gen.py. -/
import Derived.Test.YtkoonfmgmgfmdaaDoorNwWcall
import Derived.Test.YtkoonfmgmgfmdaaDoorNwTopSrc
set_option linter.all false
set_option linter.unusedVariables false
set_option linter.unusedSimpArgs false
set_option linter.unusedSectionVars false
namespace Go.Nw.TM
open Go.Nw.Top
set_option linter.unusedSimpArgs false
set_option linter.unusedVariables false
set_option maxHeartbeats 4000000
theorem lA9 {α : Type} {l m : List α} : (l ++ m).length = l.length + m.length := List.length_append
theorem mA9 {α β : Type} {f : α → β} {l m : List α} : List.map f (l ++ m) = List.map f l ++ List.map f m := List.map_append
theorem oF9 {a b : Bool} : (a || b) = false ↔ a = false ∧ b = false := Bool.or_eq_false_iff
theorem nF9 : (¬False) = True := not_false_eq_true
theorem bF9 {α : Type} [BEq α] [LawfulBEq α] {a b : α} : (a == b) = false ↔ a ≠ b := beq_eq_false_iff_ne
theorem sI9 {α : Type} {a b : α} (h : some a = some b) : a = b := Option.some.inj h
variable {O : Orac}
structure Band where
  Up : Bool
  Pull : Int
  Drag : Int
  Body : Int
  Ride : Int
  Most : Int
  Paces : List Int
  Num : Int
  Den : Int
  deriving Inhabited, DecidableEq
noncomputable def b7x (b : Band) : Bool :=
  decide (10 < (List.length b.Paces : Int))
def c1i (O : Orac) : Prop := ∀ (b : Band), Fn O "newel/newellaw11.Far" [.agg [B b.Up, I b.Pull, I b.Drag, I b.Body, I b.Ride, I b.Most, .fs 1 (List.map eI b.Paces), I b.Num, I b.Den]] (B (b7x b))
structure Span where
  Low : Int
  High : Int
  deriving Inhabited, DecidableEq
structure Period where
  Lasts : Int
  Price : Int
  Flow : Span
  deriving Inhabited, DecidableEq
structure Times where
  Periods : List Period
  Peak : Int
  deriving Inhabited, DecidableEq
@[go_sem] def b1i (x : Period) : List AV := [I x.Lasts, I x.Price, I x.Flow.Low, I x.Flow.High]
theorem b5f (x : Period) : ∀ c ∈ b1i x, Frz c := (b0b (b0a _) (b0b (b0a _) (b0b (b0a _) (b0b (b0a _) b0p))))
@[go_sem] theorem l5l {l : List Period} {n : Nat} {a0 : Int} {a1 : Int} {a2 : Int} {a3 : Int} : (List.map b1i l).set n [I a0, I a1, I a2, I a3] = List.map b1i (l.set n (Period.mk a0 a1 (Span.mk a2 a3))) := by rw [List.map_set]; rfl
noncomputable def b7y (t_ : Times) : Bool :=
  decide (20 < (List.length t_.Periods : Int))
def c1j (O : Orac) : Prop := ∀ (t_ : Times), Fn O "newel/newellaw11.FarTimes" [.agg [.fs 4 (List.map b1i t_.Periods), I t_.Peak]] (B (b7y t_))
noncomputable def b04 (n : Int) (low : Int) (high : Int) : Bool :=
  (decide (low ≤ n)) && (decide (n ≤ high))
def b8t (O : Orac) : Prop := ∀ (n : Int) (low : Int) (high : Int), Fn O "newel/newelref11.within" [I n, I low, I high] (B (b04 n low high))
noncomputable def c4w : Option Int :=
  some 0
noncomputable def b6t (b : Band) : (Int × Int) → Option (Out (Int × Int) (Unit ⊕ Int))
  | (last_3, i_4) =>
    if decide (i_4 < (List.length b.Paces : Int)) then
      (get b.Paces i_4).bind fun x18 =>
      if !(b04 x18 (wr (last_3 + 1)) 100) then
        some (.br (.inr 110))
      else
        some (.nx (x18, wr (i_4 + 1)))
    else
      some (.br (.inl ()))
noncomputable def b6o (b : Band) : Option Int :=
  if ((((!(b04 b.Pull 0 100)) || (!(b04 b.Drag 0 1000000))) || (!(b04 b.Body 0 100))) || (!(b04 b.Ride 1 1000))) || (!(b04 b.Most 0 100000000)) then
    some 110
  else
    if ((!(b04 (List.length b.Paces : Int) 1 3)) || (!(b04 b.Den 1 100))) || (!(b04 b.Num 0 b.Den)) then
      some 110
    else
      (b01 (b6t b) (0, 0)).bind fun
        | (.inl ()) => c4w
        | (.inr r') => some r'
def c1t (O : Orac) : Prop := ∀ (b : Band) (r : Int) (hm0 : b6o b = some r), Fn O "newel/newelref11.Check" [.agg [B b.Up, I b.Pull, I b.Drag, I b.Body, I b.Ride, I b.Most, .fs 1 (List.map eI b.Paces), I b.Num, I b.Den]] (I r)
noncomputable def c4v : Option Int :=
  some 0
noncomputable def b6s (t_ : Times) : Int → Option (Out Int (Unit ⊕ Int))
  | i_5 =>
    if decide (i_5 < (List.length t_.Periods : Int)) then
      (get t_.Periods i_5).bind fun x15 =>
      if ((((!(b04 x15.Lasts 1 1000)) || (!(b04 x15.Price 0 100))) || (decide (x15.Flow.Low < 0))) || (decide (x15.Flow.High < x15.Flow.Low))) || (decide (100 < x15.Flow.High)) then
        some (.br (.inr 111))
      else
        some (.nx (wr (i_5 + 1)))
    else
      some (.br (.inl ()))
noncomputable def b6r (b : Band) (t_ : Times) : Option Int :=
  (b6o b).bind fun y2 =>
  if decide (¬y2 = 0) then
    some 110
  else
    if (!(b04 (List.length t_.Periods : Int) 1 8)) || (!(b04 t_.Peak 0 1000)) then
      some 111
    else
      (b01 (b6s t_) (0)).bind fun
        | (.inl ()) => c4v
        | (.inr r') => some r'
def c1v (O : Orac) : Prop := ∀ (b : Band) (t_ : Times) (r : Int) (hm0 : b6r b t_ = some r), Fn O "newel/newelref11.CheckTimes" [.agg [B b.Up, I b.Pull, I b.Drag, I b.Body, I b.Ride, I b.Most, .fs 1 (List.map eI b.Paces), I b.Num, I b.Den], .agg [.fs 4 (List.map b1i t_.Periods), I t_.Peak]] (I r)
noncomputable def c4x : Option Bool :=
  some false
noncomputable def b6u (b : Band) (pace : Int) : Int → Option (Out Int (Unit ⊕ Bool))
  | i_5 =>
    if decide (i_5 < (List.length b.Paces : Int)) then
      (get b.Paces i_5).bind fun x8 =>
      if decide (x8 = pace) then
        some (.br (.inr true))
      else
        some (.nx (wr (i_5 + 1)))
    else
      some (.br (.inl ()))
noncomputable def b8a (b : Band) (pace : Int) : Option Bool :=
  (b01 (b6u b pace) (0)).bind fun
    | (.inl ()) => c4x
    | (.inr r') => some r'
def c1w (O : Orac) : Prop := ∀ (b : Band) (pace : Int) (r : Bool) (hm0 : b8a b pace = some r), Fn O "newel/newelref11.Pace" [.agg [B b.Up, I b.Pull, I b.Drag, I b.Body, I b.Ride, I b.Most, .fs 1 (List.map eI b.Paces), I b.Num, I b.Den], I pace] (B r)
noncomputable def c4u : Option Int :=
  some 0
noncomputable def b6q (b : Band) (plan : List Int) : Int → Option (Out Int (Unit ⊕ Int))
  | i_8 =>
    if decide (i_8 < (List.length plan : Int)) then
      (get plan i_8).bind fun x15 =>
      (b8a b x15).bind fun y16 =>
      if !y16 then
        some (.br (.inr 112))
      else
        some (.nx (wr (i_8 + 1)))
    else
      some (.br (.inl ()))
noncomputable def b6p (b : Band) (t_ : Times) (plan : List Int) : Option Int :=
  (b6r b t_).bind fun y2 =>
  if decide (¬y2 = 0) then
    some y2
  else
    if decide (¬(List.length plan : Int) = (List.length t_.Periods : Int)) then
      some 112
    else
      (b01 (b6q b plan) (0)).bind fun
        | (.inl ()) => c4u
        | (.inr r') => some r'
def c1u (O : Orac) : Prop := ∀ (b : Band) (t_ : Times) (plan : List Int) (r : Int) (hm0 : b6p b t_ plan = some r), Fn O "newel/newelref11.CheckPlan" [.agg [B b.Up, I b.Pull, I b.Drag, I b.Body, I b.Ride, I b.Most, .fs 1 (List.map eI b.Paces), I b.Num, I b.Den], .agg [.fs 4 (List.map b1i t_.Periods), I t_.Peak], .fs 1 (List.map eI plan)] (I r)
noncomputable def c48 : Option Int :=
  some (-1)
noncomputable def d1e (s : List Int) (f : Int → Option Bool) : Int → Option (Out Int (Unit ⊕ Int))
  | x_8 =>
    if decide (x_8 < (List.length s : Int)) then
      (get s x_8).bind fun x9 =>
      (f x9).bind fun y10 =>
      if y10 then
        some (.br (.inr x_8))
      else
        some (.nx (wr (x_8 + 1)))
    else
      some (.br (.inl ()))
noncomputable def c47 (s : List Int) (f : Int → Option Bool) : Option Int :=
  (b01 (d1e s f) (0)).bind fun
    | (.inl ()) => c48
    | (.inr r') => some r'
def c1z (O : Orac) : Prop := ∀ (s : List Int) (f_n : String) (f_a f_b : List AV) (f : Int → Option Bool) (f_z : Frz (.fn f_n f_a f_b)) (f_h : ∀ z0 y, f z0 = some y → Fn O f_n (f_a ++ [I z0] ++ f_b) (B y)) (r : Int) (hm0 : c47 s f = some r), Fn O "slices.IndexFunc[[]int,int]" [.fs 1 (List.map eI s), .fn f_n f_a f_b] (I r)
noncomputable def c0w (s : List Int) (f : Int → Option Bool) : Option Bool :=
  (c47 s f).bind fun y2 =>
  some (decide (0 ≤ y2))
def c1y (O : Orac) : Prop := ∀ (s : List Int) (f_n : String) (f_a f_b : List AV) (f : Int → Option Bool) (f_z : Frz (.fn f_n f_a f_b)) (f_h : ∀ z0 y, f z0 = some y → Fn O f_n (f_a ++ [I z0] ++ f_b) (B y)) (r : Bool) (hm0 : c0w s f = some r), Fn O "slices.ContainsFunc[[]int,int]" [.fs 1 (List.map eI s), .fn f_n f_a f_b] (B r)
noncomputable def c49 : Option Int :=
  some (-1)
noncomputable def c0y (s : List Int) (v : Int) : Int → Option (Out Int (Unit ⊕ Int))
  | x_8 =>
    if decide (x_8 < (List.length s : Int)) then
      (get s x_8).bind fun x8 =>
      if decide (v = x8) then
        some (.br (.inr x_8))
      else
        some (.nx (wr (x_8 + 1)))
    else
      some (.br (.inl ()))
noncomputable def c0x (s : List Int) (v : Int) : Option Int :=
  (b01 (c0y s v) (0)).bind fun
    | (.inl ()) => c49
    | (.inr r') => some r'
def c11 (O : Orac) : Prop := ∀ (s : List Int) (v : Int) (r : Int) (hm0 : c0x s v = some r), Fn O "slices.Index[[]int,int]" [.fs 1 (List.map eI s), I v] (I r)
noncomputable def b5r (s : List Int) (v : Int) : Option Bool :=
  (c0x s v).bind fun y2 =>
  some (decide (0 ≤ y2))
def b8u (O : Orac) : Prop := ∀ (s : List Int) (v : Int) (r : Bool) (hm0 : b5r s v = some r), Fn O "slices.Contains[[]int,int]" [.fs 1 (List.map eI s), I v] (B r)
def c0c : Option Bool := some true
def c5h (O : Orac) : Prop := ∀ (r : Bool) (hm0 : c0c = some r), Fn O "newel/neweltop.measures" [] (B r)
noncomputable def b1s (n : Int) (high : Int) : Bool :=
  (decide (0 ≤ n)) && (decide (n ≤ high))
def b60 (O : Orac) : Prop := ∀ (n : Int) (high : Int), Fn O "newel/energy.from0" [I n, I high] (B (b1s n high))
noncomputable def c2j : Option Int :=
  some 0
noncomputable def b53 (b : Band) : (Int × Int) → Option (Out (Int × Int) (Unit ⊕ Int))
  | (last_3, x_69) =>
    if decide (x_69 < (List.length b.Paces : Int)) then
      (get b.Paces x_69).bind fun x21 =>
      if (decide (x21 ≤ last_3)) || (decide (100 < x21)) then
        some (.br (.inr 110))
      else
        some (.nx (x21, wr (x_69 + 1)))
    else
      some (.br (.inl ()))
noncomputable def b4k (b : Band) : Option Int :=
  if (((((!(b1s b.Pull 100)) || (!(b1s b.Drag 1000000))) || (!(b1s b.Body 100))) || (decide (b.Ride < 1))) || (decide (1000 < b.Ride))) || (!(b1s b.Most 100000000)) then
    some 110
  else
    if ((((decide (b.Den < 1)) || (decide (100 < b.Den))) || (!(b1s b.Num b.Den))) || (decide ((List.length b.Paces : Int) < 1))) || (decide (3 < (List.length b.Paces : Int))) then
      some 110
    else
      (b01 (b53 b) (0, 0)).bind fun
        | (.inl ()) => c2j
        | (.inr r') => some r'
def b8o (O : Orac) : Prop := ∀ (b : Band) (r : Int) (hm0 : b4k b = some r), Fn O "newel/energy.Check" [.agg [B b.Up, I b.Pull, I b.Drag, I b.Body, I b.Ride, I b.Most, .fs 1 (List.map eI b.Paces), I b.Num, I b.Den]] (I r)
noncomputable def b9g (b : Band) (flow : Int) (pace : Int) : Option Int :=
  (b4k b).bind fun y2 =>
  if decide (¬y2 = 0) then
    some y2
  else
    (b5r b.Paces pace).bind fun y6 =>
    if !y6 then
      some 112
    else
      if !(b1s flow 100) then
        some 1
      else
        some 0
def c08 (O : Orac) : Prop := ∀ (b : Band) (flow : Int) (pace : Int) (r : Int) (hm0 : b9g b flow pace = some r), Fn O "newel/energy.check" [.agg [B b.Up, I b.Pull, I b.Drag, I b.Body, I b.Ride, I b.Most, .fs 1 (List.map eI b.Paces), I b.Num, I b.Den], I flow, I pace] (I r)
noncomputable def b9h (b : Band) (flow : Int) (pace : Int) : Option Int :=
  (quo .i64 (wr ((wr ((wr (flow * b.Ride)) + pace)) - 1)) pace).bind fun q2 =>
  some (wr (q2 * b.Body))
def c1d (O : Orac) : Prop := ∀ (b : Band) (flow : Int) (pace : Int) (r : Int) (hm0 : b9h b flow pace = some r), Fn O "newel/energy.load" [.agg [B b.Up, I b.Pull, I b.Drag, I b.Body, I b.Ride, I b.Most, .fs 1 (List.map eI b.Paces), I b.Num, I b.Den], I flow, I pace] (I r)
noncomputable def b4l (b : Band) (flow : Int) (pace : Int) : Option Int :=
  (b9h b flow pace).bind fun y2 =>
  if b.Up then
    some (wr ((wr ((wr (b.Pull * y2)) + b.Drag)) * pace))
  else
    if decide (0 ≤ (wr (b.Drag - (wr (b.Pull * y2))))) then
      some (wr ((wr (b.Drag - (wr (b.Pull * y2)))) * pace))
    else
      (quo .i64 (wr ((wr ((wr ((wr (b.Pull * y2)) - b.Drag)) * pace)) * b.Num)) b.Den).bind fun q8 =>
      some (wr (0 - q8))
def b8p (O : Orac) : Prop := ∀ (b : Band) (flow : Int) (pace : Int) (r : Int) (hm0 : b4l b flow pace = some r), Fn O "newel/energy.power" [.agg [B b.Up, I b.Pull, I b.Drag, I b.Body, I b.Ride, I b.Most, .fs 1 (List.map eI b.Paces), I b.Num, I b.Den], I flow, I pace] (I r)
noncomputable def b7a (b : Band) (flow : Int) (pace : Int) : Option (Int × Int) :=
  (b9g b flow pace).bind fun y2 =>
  if decide (¬y2 = 0) then
    some (0, y2)
  else
    (b4l b flow pace).bind fun y6 =>
    some (y6, 0)
def c07 (O : Orac) : Prop := ∀ (b : Band) (flow : Int) (pace : Int) (r : Int × Int) (hm0 : b7a b flow pace = some r), Fn O "newel/energy.Power" [.agg [B b.Up, I b.Pull, I b.Drag, I b.Body, I b.Ride, I b.Most, .fs 1 (List.map eI b.Paces), I b.Num, I b.Den], I flow, I pace] (.tup [I r.1, I r.2])
noncomputable def b3g (n : Int) (low : Int) (high : Int) : Bool :=
  (decide (low ≤ n)) && (decide (n ≤ high))
def c1s (O : Orac) : Prop := ∀ (n : Int) (low : Int) (high : Int), Fn O "newel/newelref10.from" [I n, I low, I high] (B (b3g n low high))
structure Reading where
  Says : Int
  Error : Int
  Drift : Int
  Days : Int
  deriving Inhabited, DecidableEq
@[go_sem] def b1e (x : Reading) : List AV := [I x.Says, I x.Error, I x.Drift, I x.Days]
theorem b5g (x : Reading) : ∀ c ∈ b1e x, Frz c := (b0b (b0a _) (b0b (b0a _) (b0b (b0a _) (b0b (b0a _) b0p))))
@[go_sem] theorem l5m {l : List Reading} {n : Nat} {a0 : Int} {a1 : Int} {a2 : Int} {a3 : Int} : (List.map b1e l).set n [I a0, I a1, I a2, I a3] = List.map b1e (l.set n (Reading.mk a0 a1 a2 a3)) := by rw [List.map_set]; rfl
noncomputable def c4t : Option Int :=
  some 0
noncomputable def b6n (l : List Reading) : Int → Option (Out Int (Unit ⊕ Int))
  | i_3 =>
    if decide (i_3 < (List.length l : Int)) then
      (get l i_3).bind fun x10 =>
      if (((!(b3g x10.Says (-100000) 100000)) || (!(b3g x10.Error 0 1000))) || (!(b3g x10.Drift 0 1000))) || (!(b3g x10.Days 0 1000)) then
        some (.br (.inr 100))
      else
        some (.nx (wr (i_3 + 1)))
    else
      some (.br (.inl ()))
noncomputable def b6m (l : List Reading) : Option Int :=
  if decide (12 < (List.length l : Int)) then
    some 2
  else
    (b01 (b6n l) (0)).bind fun
      | (.inl ()) => c4t
      | (.inr r') => some r'
def c1r (O : Orac) : Prop := ∀ (l : List Reading) (r : Int) (hm0 : b6m l = some r), Fn O "newel/newelref10.Check" [.fs 4 (List.map b1e l)] (I r)
noncomputable def b35 (r_ : Reading) : Span :=
  (Span.mk (wr (r_.Says - (wr (r_.Error + (wr (r_.Drift * r_.Days)))))) (wr (r_.Says + (wr (r_.Error + (wr (r_.Drift * r_.Days)))))))
def c1q (O : Orac) : Prop := ∀ (r_ : Reading), Fn O "newel/newelref10.Allows" [.agg [I r_.Says, I r_.Error, I r_.Drift, I r_.Days]] (.agg [I ((b35 r_).Low), I ((b35 r_).High)])
noncomputable def c4n : Option Bool :=
  some true
noncomputable def b6k (l : List Reading) (n : Int) : Int → Option (Out Int (Unit ⊕ Bool))
  | i_5 =>
    if decide (i_5 < (List.length l : Int)) then
      (get l i_5).bind fun x16 =>
      if (decide (n < ((b35 x16).Low))) || (decide (((b35 x16).High) < n)) then
        some (.br (.inr false))
      else
        some (.nx (wr (i_5 + 1)))
    else
      some (.br (.inl ()))
noncomputable def b75 (l : List Reading) (n : Int) : Option Bool :=
  (if (decide ((List.length l : Int) = 0)) || (decide (8 < (List.length l : Int))) then some true else (b6m l).bind fun y3 =>
  some (decide (¬y3 = 0))).bind fun c4 =>
  if c4 then
    some false
  else
    (b01 (b6k l n) (0)).bind fun
      | (.inl ()) => c4n
      | (.inr r') => some r'
def c1o (O : Orac) : Prop := ∀ (l : List Reading) (n : Int) (r : Bool) (hm0 : b75 l n = some r), Fn O "newel/neweltop.allow" [.fs 4 (List.map b1e l), I n] (B r)
noncomputable def b3c (n : Int) (low : Int) (high : Int) : Bool :=
  (decide (low ≤ n)) && (decide (n ≤ high))
def c1h (O : Orac) : Prop := ∀ (n : Int) (low : Int) (high : Int), Fn O "newel/faults.within" [I n, I low, I high] (B (b3c n low high))
noncomputable def c2x : Option Int :=
  some 0
noncomputable def b6a (l : List Reading) : Int → Option (Out Int (Unit ⊕ Int))
  | x_10 =>
    if decide (x_10 < (List.length l : Int)) then
      (get l x_10).bind fun x10 =>
      if (((!(b3c x10.Says (-100000) 100000)) || (!(b3c x10.Error 0 1000))) || (!(b3c x10.Drift 0 1000))) || (!(b3c x10.Days 0 1000)) then
        some (.br (.inr 100))
      else
        some (.nx (wr (x_10 + 1)))
    else
      some (.br (.inl ()))
noncomputable def b5d (l : List Reading) : Option Int :=
  if decide (12 < (List.length l : Int)) then
    some 2
  else
    (b01 (b6a l) (0)).bind fun
      | (.inl ()) => c2x
      | (.inr r') => some r'
def b8s (O : Orac) : Prop := ∀ (l : List Reading) (r : Int) (hm0 : b5d l = some r), Fn O "newel/faults.readings" [.fs 4 (List.map b1e l)] (I r)
noncomputable def c2t (s_6_0 : Int) (s_6_1 : Int) : Option (Span × Bool) :=
  some ((Span.mk s_6_0 s_6_1), decide (s_6_0 ≤ s_6_1))
noncomputable def b59 (x_13 : Int) (s_6_0_1 : Int) (s_6_1_1 : Int) : Option (Out (Int × Int × Int) ((Int × Int))) :=
  some (.nx (s_6_0_1, s_6_1_1, wr (x_13 + 1)))
noncomputable def b7k (l : List Reading) (out : Int) : (Int × Int × Int) → Option (Out (Int × Int × Int) ((Int × Int)))
  | (s_6_0, s_6_1, x_13) =>
    if decide (x_13 < (List.length l : Int)) then
      (get l x_13).bind fun x9 =>
      (shr .i64 out x_13).bind fun q11 =>
      if decide ((b4h q11 1) = 0) then
        b59 x_13 (mx s_6_0 (wr (x9.Says - (wr (x9.Error + (wr (x9.Drift * x9.Days))))))) (mn s_6_1 (wr (x9.Says + (wr (x9.Error + (wr (x9.Drift * x9.Days)))))))
      else
        b59 x_13 s_6_0 s_6_1
    else
      some (.br (s_6_0, s_6_1))
noncomputable def b58 (l : List Reading) (out : Int) : Option (Span × Bool) :=
  (b01 (b7k l out) ((-1099511627776), 1099511627776, 0)).bind fun
    | (s_6_0, s_6_1) => c2t s_6_0 s_6_1
def b8q (O : Orac) : Prop := ∀ (l : List Reading) (out : Int) (r : Span × Bool) (hm0 : b58 l out = some r), Fn O "newel/faults.common" [.fs 4 (List.map b1e l), I out] (.tup [.agg [I r.1.Low, I r.1.High], B r.2])
noncomputable def b57 (l : List Reading) : Option (Span × Int) :=
  (b5d l).bind fun y2 =>
  if decide (¬y2 = 0) then
    some ((Span.mk 0 0), y2)
  else
    (b58 l 0).bind fun y6 =>
    if (decide ((List.length l : Int) = 0)) || (!y6.2) then
      some ((Span.mk 0 0), 3)
    else
      some (y6.1, 0)
def c1f (O : Orac) : Prop := ∀ (l : List Reading) (r : Span × Int) (hm0 : b57 l = some r), Fn O "newel/faults.Truth" [.fs 4 (List.map b1e l)] (.tup [.agg [I r.1.Low, I r.1.High], I r.2])
noncomputable def b71 (x : Int) : Option Int :=
  (shr .u64 x 1).bind fun q2 =>
  (shr .u64 (IntKind.wrap .u64 ((b0y .u64 q2 6148914691236517205) + (b0y .u64 x 6148914691236517205))) 2).bind fun q4 =>
  (shr .u64 (IntKind.wrap .u64 ((b0y .u64 q4 3689348814741910323) + (b0y .u64 (IntKind.wrap .u64 ((b0y .u64 q2 6148914691236517205) + (b0y .u64 x 6148914691236517205))) 3689348814741910323))) 4).bind fun q6 =>
  (shr .u64 (b0y .u64 (IntKind.wrap .u64 (q6 + (IntKind.wrap .u64 ((b0y .u64 q4 3689348814741910323) + (b0y .u64 (IntKind.wrap .u64 ((b0y .u64 q2 6148914691236517205) + (b0y .u64 x 6148914691236517205))) 3689348814741910323))))) 1085102592571150095) 8).bind fun q8 =>
  (shr .u64 (IntKind.wrap .u64 ((b0y .u64 (IntKind.wrap .u64 (q6 + (IntKind.wrap .u64 ((b0y .u64 q4 3689348814741910323) + (b0y .u64 (IntKind.wrap .u64 ((b0y .u64 q2 6148914691236517205) + (b0y .u64 x 6148914691236517205))) 3689348814741910323))))) 1085102592571150095) + q8)) 16).bind fun q10 =>
  (shr .u64 (IntKind.wrap .u64 ((IntKind.wrap .u64 ((b0y .u64 (IntKind.wrap .u64 (q6 + (IntKind.wrap .u64 ((b0y .u64 q4 3689348814741910323) + (b0y .u64 (IntKind.wrap .u64 ((b0y .u64 q2 6148914691236517205) + (b0y .u64 x 6148914691236517205))) 3689348814741910323))))) 1085102592571150095) + q8)) + q10)) 32).bind fun q12 =>
  some (b4h (IntKind.wrap .i64 (IntKind.wrap .u64 ((IntKind.wrap .u64 ((IntKind.wrap .u64 ((b0y .u64 (IntKind.wrap .u64 (q6 + (IntKind.wrap .u64 ((b0y .u64 q4 3689348814741910323) + (b0y .u64 (IntKind.wrap .u64 ((b0y .u64 q2 6148914691236517205) + (b0y .u64 x 6148914691236517205))) 3689348814741910323))))) 1085102592571150095) + q8)) + q10)) + q12))) 127)
def c1l (O : Orac) : Prop := ∀ (x : Int) (r : Int) (hm0 : b71 x = some r), Fn O "math/bits.OnesCount64" [.v (.int .u64 x)] (I r)
noncomputable def b5l (x : Int) : Option Int :=
  (b71 x).bind fun y3 =>
  some y3
def c1k (O : Orac) : Prop := ∀ (x : Int) (r : Int) (hm0 : b5l x = some r), Fn O "math/bits.OnesCount" [.v (.int .u64 x)] (I r)
noncomputable def b73 (x : Int) : Option Int :=
  if decide (x = 0) then
    some 64
  else
    (shr .u64 (IntKind.wrap .u64 ((b0y .u64 x (IntKind.wrap .u64 (0 - x))) * 285870213051353865)) 58).bind fun q5 =>
    (get gl_1 q5).bind fun x6 =>
    some (IntKind.wrap .i64 x6)
def c1n (O : Orac) : Prop := ∀ (x : Int) (r : Int) (hm0 : b73 x = some r), Fn O "math/bits.TrailingZeros64" [.v (.int .u64 x)] (I r)
noncomputable def b72 (x : Int) : Option Int :=
  (b73 x).bind fun y3 =>
  some y3
def c1m (O : Orac) : Prop := ∀ (x : Int) (r : Int) (hm0 : b72 x = some r), Fn O "math/bits.TrailingZeros" [.v (.int .u64 x)] (I r)
noncomputable def b7m (l_3 : List Int) : Option (List Int) :=
  some l_3
noncomputable def b9n : (Int × (List Int)) → Option (Out (Int × (List Int)) (((List Int))))
  | (set_0, l_3) =>
    if decide (¬set_0 = 0) then
      (b72 (IntKind.wrap .u64 set_0)).bind fun y9 =>
      (ap 8 l_3 ([y9])).bind fun l10 =>
      some (.nx (b4h set_0 (wr (set_0 - 1)), l10))
    else
      some (.br l_3)
noncomputable def b4m (set : Int) : Option (List Int) :=
  (b01 (b9n) (set, [])).bind fun l_3 =>
  b7m l_3
def b8r (O : Orac) : Prop := ∀ (set : Int) (r : List Int) (hm0 : b4m set = some r), Fn O "newel/faults.members" [I set] (.fs 1 (List.map eI r))
noncomputable def b38 (x : Int) : Bool :=
  decide (¬x = x)
def c05 (O : Orac) : Prop := ∀ (x : Int), Fn O "cmp.isNaN[int]" [I x] (B (b38 x))
noncomputable def b37 (x : Int) (y : Int) : Int :=
  if (b38 x) then
    if (b38 y) then
      0
    else
      (-1)
  else
    if (b38 y) then
      1
    else
      if decide (x < y) then
        (-1)
      else
        if decide (y < x) then
          1
        else
          0
def c04 (O : Orac) : Prop := ∀ (x : Int) (y : Int), Fn O "cmp.Compare[int]" [I x, I y] (I (b37 x y))
noncomputable def c0v (s1_ : List Int) (s2_ : List Int) : Option Int :=
  if decide ((List.length s1_ : Int) < (List.length s2_ : Int)) then
    some (-1)
  else
    some 0
noncomputable def b6x (s1_ : List Int) (s2_ : List Int) : Int → Option (Out Int (Unit ⊕ Int))
  | x_11 =>
    if decide (x_11 < (List.length s1_ : Int)) then
      (get s1_ x_11).bind fun x10 =>
      if decide ((List.length s2_ : Int) ≤ x_11) then
        some (.br (.inr 1))
      else
        (get s2_ x_11).bind fun x14 =>
        if decide (¬(b37 x10 x14) = 0) then
          some (.br (.inr (b37 x10 x14)))
        else
          some (.nx (wr (x_11 + 1)))
    else
      some (.br (.inl ()))
noncomputable def b8j (s1_ : List Int) (s2_ : List Int) : Option Int :=
  (b01 (b6x s1_ s2_) (0)).bind fun
    | (.inl ()) => c0v s1_ s2_
    | (.inr r') => some r'
def c1x (O : Orac) : Prop := ∀ (s1_ : List Int) (s2_ : List Int) (r : Int) (hm0 : b8j s1_ s2_ = some r), Fn O "slices.Compare[[]int,int]" [.fs 1 (List.map eI s1_), .fs 1 (List.map eI s2_)] (I r)
noncomputable def b7l (a : Int) (b : Int) : Option Bool :=
  (b5l (IntKind.wrap .u64 a)).bind fun y3 =>
  (b5l (IntKind.wrap .u64 b)).bind fun y4 =>
  if decide (¬y3 = y4) then
    some (decide (y3 < y4))
  else
    (b4m a).bind fun y10 =>
    (b4m b).bind fun y11 =>
    (b8j y10 y11).bind fun y12 =>
    some (decide (y12 < 0))
def c1g (O : Orac) : Prop := ∀ (a : Int) (b : Int) (r : Bool) (hm0 : b7l a b = some r), Fn O "newel/faults.fewer" [I a, I b] (B r)
noncomputable def b9m (best_5 : Int) : Option ((List Int) × Int) :=
  (b4m best_5).bind fun y10 =>
  some (y10, 0)
noncomputable def b5c (x_19 : Int) (best_5_1 : Int) : Option (Out (Int × Int) Int) :=
  some (.nx (best_5_1, wr (x_19 + 1)))
noncomputable def b7j (l : List Reading) (q6 : Int) : (Int × Int) → Option (Out (Int × Int) Int)
  | (best_5, x_19) =>
    if decide (x_19 < (wr (q6 - 1))) then
      (b58 l x_19).bind fun y17 =>
      (if y17.2 then (b7l x_19 best_5).bind fun y20 =>
      some y20 else some false).bind fun c21 =>
      if c21 then
        b5c x_19 x_19
      else
        b5c x_19 best_5
    else
      some (.br best_5)
noncomputable def b56 (l : List Reading) : Option ((List Int) × Int) :=
  (b5d l).bind fun y2 =>
  if decide (¬y2 = 0) then
    some ([], y2)
  else
    (shl .i64 1 (List.length l : Int)).bind fun q6 =>
    (b01 (b7j l q6) (wr (q6 - 1), 0)).bind fun best_5 =>
    b9m best_5
def c1e (O : Orac) : Prop := ∀ (l : List Reading) (r : (List Int) × Int) (hm0 : b56 l = some r), Fn O "newel/faults.Liars" [.fs 4 (List.map b1e l)] (.tup [.fs 1 (List.map eI r.1), I r.2])
noncomputable def c2k : Option Int :=
  some 0
noncomputable def b54 (t_ : Times) : Int → Option (Out Int (Unit ⊕ Int))
  | x_32 =>
    if decide (x_32 < (List.length t_.Periods : Int)) then
      (get t_.Periods x_32).bind fun x16 =>
      if ((((decide (x16.Lasts < 1)) || (decide (1000 < x16.Lasts))) || (!(b1s x16.Price 100))) || (!(b1s x16.Flow.Low x16.Flow.High))) || (decide (100 < x16.Flow.High)) then
        some (.br (.inr 111))
      else
        some (.nx (wr (x_32 + 1)))
    else
      some (.br (.inl ()))
noncomputable def b7c (b : Band) (t_ : Times) : Option Int :=
  (b4k b).bind fun y2 =>
  if decide (¬y2 = 0) then
    some y2
  else
    if ((decide ((List.length t_.Periods : Int) < 1)) || (decide (8 < (List.length t_.Periods : Int)))) || (!(b1s t_.Peak 1000)) then
      some 111
    else
      (b01 (b54 t_) (0)).bind fun
        | (.inl ()) => c2k
        | (.inr r') => some r'
def c1b (O : Orac) : Prop := ∀ (b : Band) (t_ : Times) (r : Int) (hm0 : b7c b t_ = some r), Fn O "newel/energy.checkTimes" [.agg [B b.Up, I b.Pull, I b.Drag, I b.Body, I b.Ride, I b.Most, .fs 1 (List.map eI b.Paces), I b.Num, I b.Den], .agg [.fs 4 (List.map b1i t_.Periods), I t_.Peak]] (I r)
noncomputable def b5a (p : Int) (c0 : Band) : Option Bool :=
  (b5r c0.Paces p).bind fun y2 =>
  some (!y2)
def c1a (O : Orac) : Prop := ∀ (p : Int) (c0 : Band) (r : Bool) (hm0 : b5a p c0 = some r), Fn O "newel/energy.checkPlan$1" [I p, .fp [B c0.Up, I c0.Pull, I c0.Drag, I c0.Body, I c0.Ride, I c0.Most, .fs 1 (List.map eI c0.Paces), I c0.Num, I c0.Den] 0] (B r)
noncomputable def b7b (b : Band) (t_ : Times) (plan : List Int) : Option Int :=
  (b7c b t_).bind fun y2 =>
  if decide (¬y2 = 0) then
    some y2
  else
    (if decide (¬(List.length plan : Int) = (List.length t_.Periods : Int)) then some true else (c0w plan (fun z8 => b5a z8 b)).bind fun y9 =>
    some y9).bind fun c10 =>
    if c10 then
      some 112
    else
      some 0
def c09 (O : Orac) : Prop := ∀ (b : Band) (t_ : Times) (plan : List Int) (r : Int) (hm0 : b7b b t_ plan = some r), Fn O "newel/energy.checkPlan" [.agg [B b.Up, I b.Pull, I b.Drag, I b.Body, I b.Ride, I b.Most, .fs 1 (List.map eI b.Paces), I b.Num, I b.Den], .agg [.fs 4 (List.map b1i t_.Periods), I t_.Peak], .fs 1 (List.map eI plan)] (I r)
noncomputable def c2l (out_8 : List Int) : Option (List Int) :=
  some out_8
noncomputable def b55 (n_9 : Int) (out_8_1 : List Int) : Option (Out ((List Int) × Int) (((List Int)))) :=
  some (.nx (out_8_1, wr (n_9 + 1)))
noncomputable def b7e (b : Band) (p : Period) (pace : Int) (read : Span) : ((List Int) × Int) → Option (Out ((List Int) × Int) (((List Int))))
  | (out_8, n_9) =>
    if decide (n_9 ≤ p.Flow.High) then
      (b4l b n_9 pace).bind fun y9 =>
      if (decide (read.Low ≤ (wr (y9 * p.Lasts)))) && (decide ((wr (y9 * p.Lasts)) ≤ read.High)) then
        (ap 8 out_8 ([n_9])).bind fun l13 =>
        b55 n_9 l13
      else
        b55 n_9 out_8
    else
      some (.br out_8)
noncomputable def b7d (b : Band) (p : Period) (pace : Int) (read : Span) : Option (List Int) :=
  (b01 (b7e b p pace read) ([], p.Flow.Low)).bind fun out_8 =>
  c2l out_8
def c1c (O : Orac) : Prop := ∀ (b : Band) (p : Period) (pace : Int) (read : Span) (r : List Int) (hm0 : b7d b p pace read = some r), Fn O "newel/energy.flows" [.agg [B b.Up, I b.Pull, I b.Drag, I b.Body, I b.Ride, I b.Most, .fs 1 (List.map eI b.Paces), I b.Num, I b.Den], .agg [I p.Lasts, I p.Price, I p.Flow.Low, I p.Flow.High], I pace, .agg [I read.Low, I read.High]] (.fs 1 (List.map eI r))
noncomputable def b69 (b : Band) (t_ : Times) (plan : List Int) (period : Int) (read : Span) : Option ((List Int) × Int) :=
  (b7b b t_ plan).bind fun y2 =>
  if decide (¬y2 = 0) then
    some ([], y2)
  else
    if ((decide (period < 0)) || (decide ((List.length plan : Int) ≤ period))) || (decide (read.High < read.Low)) then
      some ([], 1)
    else
      (get t_.Periods period).bind fun x12 =>
      (get plan period).bind fun x13 =>
      (b7d b x12 x13 read).bind fun y14 =>
      some (y14, 0)
def c06 (O : Orac) : Prop := ∀ (b : Band) (t_ : Times) (plan : List Int) (period : Int) (read : Span) (r : (List Int) × Int) (hm0 : b69 b t_ plan period read = some r), Fn O "newel/energy.Flows" [.agg [B b.Up, I b.Pull, I b.Drag, I b.Body, I b.Ride, I b.Most, .fs 1 (List.map eI b.Paces), I b.Num, I b.Den], .agg [.fs 4 (List.map b1i t_.Periods), I t_.Peak], .fs 1 (List.map eI plan), I period, .agg [I read.Low, I read.High]] (.tup [.fs 1 (List.map eI r.1), I r.2])
noncomputable def c4o : Option Bool :=
  some false
noncomputable def b6l (l : List Int) (n : Int) : Int → Option (Out Int (Unit ⊕ Bool))
  | i_5 =>
    if decide (i_5 < (List.length l : Int)) then
      (get l i_5).bind fun x8 =>
      if decide (x8 = n) then
        some (.br (.inr true))
      else
        some (.nx (wr (i_5 + 1)))
    else
      some (.br (.inl ()))
noncomputable def b76 (l : List Int) (n : Int) : Option Bool :=
  (b01 (b6l l n) (0)).bind fun
    | (.inl ()) => c4o
    | (.inr r') => some r'
def c1p (O : Orac) : Prop := ∀ (l : List Int) (n : Int) (r : Bool) (hm0 : b76 l n = some r), Fn O "newel/neweltop.names" [.fs 1 (List.map eI l), I n] (B r)
structure neweltop_Metered where
  Period : Int
  Flow : Int
  Readings : List Reading
  deriving Inhabited, DecidableEq
noncomputable def b74 (b : Band) (t_ : Times) (plan : List Int) (x : neweltop_Metered) : Option Bool :=
  (if (b7x b) || (b7y t_) then some true else (b6p b t_ plan).bind fun y7 =>
  some (decide (¬y7 = 0))).bind fun c8 =>
  (if (c8 || (decide (x.Period < 0))) || (decide ((List.length plan : Int) ≤ x.Period)) then some true else (get t_.Periods x.Period).bind fun x9 =>
  some (decide (x.Flow < x9.Flow.Low))).bind fun c10 =>
  (if c10 then some true else (get t_.Periods x.Period).bind fun x11 =>
  some (decide (x11.Flow.High < x.Flow))).bind fun c12 =>
  if c12 then
    (c0c).bind fun y22 =>
    some y22
  else
    (get plan x.Period).bind fun x25 =>
    (b7a b x.Flow x25).bind fun y26 =>
    if decide (¬y26.2 = 0) then
      some false
    else
      (get t_.Periods x.Period).bind fun x30 =>
      (b75 x.Readings (wr (y26.1 * x30.Lasts))).bind fun y32 =>
      if !y32 then
        (c0c).bind fun y36 =>
        some y36
      else
        (b57 x.Readings).bind fun y38 =>
        (b56 x.Readings).bind fun y40 =>
        if ((((decide (¬y38.2 = 0)) || (decide (¬y40.2 = 0))) || (decide (¬(List.length y40.1 : Int) = 0))) || (decide ((wr (y26.1 * x30.Lasts)) < y38.1.Low))) || (decide (y38.1.High < (wr (y26.1 * x30.Lasts)))) then
          some false
        else
          (b69 b t_ plan x.Period y38.1).bind fun y48 =>
          (if decide (y48.2 = 0) then (b76 y48.1 x.Flow).bind fun y53 =>
          some y53 else some false).bind fun c54 =>
          (if c54 then (c0c).bind fun y55 =>
          some y55 else some false).bind fun c56 =>
          some c56
def c5g (O : Orac) : Prop := ∀ (b : Band) (t_ : Times) (plan : List Int) (x : neweltop_Metered) (r : Bool) (hm0 : b74 b t_ plan x = some r), Fn O "newel/neweltop.TopMetered" [.agg [B b.Up, I b.Pull, I b.Drag, I b.Body, I b.Ride, I b.Most, .fs 1 (List.map eI b.Paces), I b.Num, I b.Den], .agg [.fs 4 (List.map b1i t_.Periods), I t_.Peak], .fs 1 (List.map eI plan), .agg [I x.Period, I x.Flow, .fs 4 (List.map b1e x.Readings)]] (B r)
structure Comb where
  Rate : Int
  Limit : Int
  Next : Int
  Walk : Span
  deriving Inhabited, DecidableEq
structure Crowd where
  Comb : Int
  People : Span
  deriving Inhabited, DecidableEq
structure Train where
  At : Span
  Crowds : List Crowd
  deriving Inhabited, DecidableEq
structure Shift where
  At : Int
  Comb : Int
  Rate : Int
  deriving Inhabited, DecidableEq
structure Hall where
  Combs : List Comb
  Trains : List Train
  Shifts : List Shift
  Until : Int
  deriving Inhabited, DecidableEq
@[go_sem] def c6i (x : Comb) : List AV := [I x.Rate, I x.Limit, I x.Next, I x.Walk.Low, I x.Walk.High]
@[go_sem] theorem l5i {l : List Comb} {n : Nat} {a0 : Int} {a1 : Int} {a2 : Int} {a3 : Int} {a4 : Int} : (List.map c6i l).set n [I a0, I a1, I a2, I a3, I a4] = List.map c6i (l.set n (Comb.mk a0 a1 a2 (Span.mk a3 a4))) := by rw [List.map_set]; rfl
@[go_sem] def b9d (x : Crowd) : List AV := [I x.Comb, I x.People.Low, I x.People.High]
@[go_sem] theorem l5j {l : List Crowd} {n : Nat} {a0 : Int} {a1 : Int} {a2 : Int} : (List.map b9d l).set n [I a0, I a1, I a2] = List.map b9d (l.set n (Crowd.mk a0 (Span.mk a1 a2))) := by rw [List.map_set]; rfl
@[go_sem] def c6l (x : Train) : List AV := [I x.At.Low, I x.At.High, .fs 3 (List.map b9d x.Crowds)]
@[go_sem] theorem l5o {l : List Train} {n : Nat} {a0 : Int} {a1 : Int} {a2 : List Crowd} : (List.map c6l l).set n [I a0, I a1, .fs 3 (List.map b9d a2)] = List.map c6l (l.set n (Train.mk (Span.mk a0 a1) a2)) := by rw [List.map_set]; rfl
@[go_sem] def c6k (x : Shift) : List AV := [I x.At, I x.Comb, I x.Rate]
@[go_sem] theorem l5n {l : List Shift} {n : Nat} {a0 : Int} {a1 : Int} {a2 : Int} : (List.map c6k l).set n [I a0, I a1, I a2] = List.map c6k (l.set n (Shift.mk a0 a1 a2)) := by rw [List.map_set]; rfl
structure Day where
  At : List Int
  People : List (List Int)
  Walks : List (List Int)
  deriving Inhabited, DecidableEq
@[go_sem] def c6j (x : List Int) : List AV := [.fs 1 (List.map eI x)]
@[go_sem] theorem l5k {l : List (List Int)} {n : Nat} {a0 : List Int} : (List.map c6j l).set n [.fs 1 (List.map eI a0)] = List.map c6j (l.set n a0) := by rw [List.map_set]; rfl
structure halls_bound where
  rates : List Int
  flow : List Int
  most : List Int
  come : List (List Int)
  deriving Inhabited, DecidableEq
structure neweltop_Counted where
  Comb : Int
  Tick : Int
  Readings : List Reading
  deriving Inhabited, DecidableEq
end Go.Nw.TM
