/- Models of functions: printed by gen.py. -/
import Derived.Test.YteoedeeljnboeaaNwWcall
import Derived.Test.YteoedeeljnboeaaNwHallsSrc
set_option linter.all false
set_option linter.unusedVariables false
set_option linter.unusedSimpArgs false
set_option linter.unusedSectionVars false
namespace Go.Nw.HM
open Go.Nw.Halls
set_option linter.unusedSimpArgs false
set_option linter.unusedVariables false
set_option maxHeartbeats 4000000
variable {O : Orac}
structure Span where
  Low : Int
  High : Int
  deriving Inhabited, DecidableEq
structure Comb where
  Rate : Int
  Limit : Int
  Next : Int
  Walk : Span
  deriving Inhabited, DecidableEq
structure Crowd where
  Comb : Int
  People : Span
  deriving Inhabited, DecidableEq
structure Train where
  At : Span
  Crowds : List Crowd
  deriving Inhabited, DecidableEq
structure Shift where
  At : Int
  Comb : Int
  Rate : Int
  deriving Inhabited, DecidableEq
structure Hall where
  Combs : List Comb
  Trains : List Train
  Shifts : List Shift
  Until : Int
  deriving Inhabited, DecidableEq
@[go_sem] def b0n (x : Comb) : List AV := [I x.Rate, I x.Limit, I x.Next, I x.Walk.Low, I x.Walk.High]
theorem b2l (x : Comb) : ∀ c ∈ b0n x, Frz c := (b0e (b0j _) (b0e (b0j _) (b0e (b0j _) (b0e (b0j _) (b0e (b0j _) b0z)))))
theorem j1a (x : Comb) : (b0n x).length = 5 := rfl
@[go_sem] theorem m0q {l : List Comb} {n : Nat} {a0 : Int} {a1 : Int} {a2 : Int} {a3 : Int} {a4 : Int} : (List.map b0n l).set n [I a0, I a1, I a2, I a3, I a4] = List.map b0n (l.set n (Comb.mk a0 a1 a2 (Span.mk a3 a4))) := by rw [List.map_set]; rfl
@[go_sem] def b2j (x : Crowd) : List AV := [I x.Comb, I x.People.Low, I x.People.High]
theorem c2d (x : Crowd) : ∀ c ∈ b2j x, Frz c := (b0e (b0j _) (b0e (b0j _) (b0e (b0j _) b0z)))
theorem d8r (x : Crowd) : (b2j x).length = 3 := rfl
@[go_sem] theorem m0r {l : List Crowd} {n : Nat} {a0 : Int} {a1 : Int} {a2 : Int} : (List.map b2j l).set n [I a0, I a1, I a2] = List.map b2j (l.set n (Crowd.mk a0 (Span.mk a1 a2))) := by rw [List.map_set]; rfl
@[go_sem] def b0k (x : Train) : List AV := [I x.At.Low, I x.At.High, .fs 3 (List.map b2j x.Crowds)]
theorem b2n (x : Train) : ∀ c ∈ b0k x, Frz c := (b0e (b0j _) (b0e (b0j _) (b0e (b0w fun a _ => c2d a) b0z)))
theorem j1b (x : Train) : (b0k x).length = 3 := rfl
@[go_sem] theorem m0v {l : List Train} {n : Nat} {a0 : Int} {a1 : Int} {a2 : List Crowd} : (List.map b0k l).set n [I a0, I a1, .fs 3 (List.map b2j a2)] = List.map b0k (l.set n (Train.mk (Span.mk a0 a1) a2)) := by rw [List.map_set]; rfl
@[go_sem] def b0s (x : Shift) : List AV := [I x.At, I x.Comb, I x.Rate]
theorem b2p (x : Shift) : ∀ c ∈ b0s x, Frz c := (b0e (b0j _) (b0e (b0j _) (b0e (b0j _) b0z)))
@[go_sem] theorem m0u {l : List Shift} {n : Nat} {a0 : Int} {a1 : Int} {a2 : Int} : (List.map b0s l).set n [I a0, I a1, I a2] = List.map b0s (l.set n (Shift.mk a0 a1 a2)) := by rw [List.map_set]; rfl
noncomputable def d1d : Option Bool :=
  some false
noncomputable def c00 (h_ : Hall) : Int → Option (Out Int (Unit ⊕ Bool))
  | i_3 =>
    if decide (i_3 < (List.length h_.Trains : Int)) then
      (get h_.Trains i_3).bind fun x14 =>
      if decide (10 < (List.length x14.Crowds : Int)) then
        some (.br (.inr true))
      else
        some (.nx (wr (i_3 + 1)))
    else
      some (.br (.inl ()))
noncomputable def b89 (h_ : Hall) : Option Bool :=
  if (((decide (12 < (List.length h_.Combs : Int))) || (decide (20 < (List.length h_.Trains : Int)))) || (decide (40 < (List.length h_.Shifts : Int)))) || ((decide (40 < h_.Until)) && (decide (h_.Until ≤ 100))) then
    some true
  else
    (b07 (c00 h_) (0)).bind fun
      | (.inl ()) => d1d
      | (.inr r') => some r'
def c7v (O : Orac) : Prop := ∀ (h_ : Hall) (r : Bool) (hm0 : b89 h_ = some r), Fn O "newel/newellaw06.Far" [.agg [.fs 5 (List.map b0n h_.Combs), .fs 3 (List.map b0k h_.Trains), .fs 3 (List.map b0s h_.Shifts), I h_.Until]] (B r)
noncomputable def b2h (n : Int) (low : Int) (high : Int) : Bool :=
  (decide (low ≤ n)) && (decide (n ≤ high))
def c4e (O : Orac) : Prop := ∀ (n : Int) (low : Int) (high : Int), Fn O "newel/newelref06.within" [I n, I low, I high] (B (b2h n low high))
noncomputable def b4m (s : Span) (low : Int) (high : Int) : Bool :=
  ((decide (low ≤ s.Low)) && (decide (s.Low ≤ s.High))) && (decide (s.High ≤ high))
def c71 (O : Orac) : Prop := ∀ (s : Span) (low : Int) (high : Int), Fn O "newel/newelref06.spanned" [.agg [I s.Low, I s.High], I low, I high] (B (b4m s low high))
noncomputable def d12 : Option Int :=
  some 0
noncomputable def c09 (h_ : Hall) : Int → Option (Out Int (Unit ⊕ Int))
  | i_10 =>
    if decide (i_10 < (List.length h_.Shifts : Int)) then
      (get h_.Shifts i_10).bind fun x17 =>
      (if ((!(b2h x17.At 0 (wr (h_.Until - 1)))) || (!(b2h x17.Comb 0 (wr ((List.length h_.Combs : Int) - 1))))) || (!(b2h x17.Rate 0 1000)) then some true else (if decide (0 < i_10) then (get h_.Shifts (wr (i_10 - 1))).bind fun x21 =>
      some (decide (x17.At < x21.At)) else some false).bind fun c22 =>
      some c22).bind fun c23 =>
      if c23 then
        some (.br (.inr 60))
      else
        some (.nx (wr (i_10 + 1)))
    else
      some (.br (.inl ()))
noncomputable def c6p (h_ : Hall) : Option Int :=
  (b07 (c09 h_) (0)).bind fun
    | (.inl ()) => d12
    | (.inr r') => some r'
noncomputable def c6n (i_6 : Int) : Option (Out Int (Unit ⊕ Int)) :=
  some (.nx (wr (i_6 + 1)))
noncomputable def b79 (h_ : Hall) (x36 : Train) : (Int × Int) → Option (Out (Int × Int) (Unit ⊕ Int))
  | (last_8, k_9) =>
    if decide (k_9 < (List.length x36.Crowds : Int)) then
      (get x36.Crowds k_9).bind fun x45 =>
      if (!(b2h x45.Comb (wr (last_8 + 1)) (wr ((List.length h_.Combs : Int) - 1)))) || (!(b4m x45.People 0 1000)) then
        some (.br (.inr 60))
      else
        some (.nx (x45.Comb, wr (k_9 + 1)))
    else
      some (.br (.inl ()))
noncomputable def c08 (h_ : Hall) : Int → Option (Out Int (Unit ⊕ Int))
  | i_6 =>
    if decide (i_6 < (List.length h_.Trains : Int)) then
      (get h_.Trains i_6).bind fun x36 =>
      if (!(b4m x36.At 0 (wr (h_.Until - 1)))) || (decide (4 < (List.length x36.Crowds : Int))) then
        some (.br (.inr 60))
      else
        (b07 (b79 h_ x36) ((-1), 0)).bind fun
          | (.inl ()) => c6n i_6
          | (.inr r') => some (.br (.inr r'))
    else
      some (.br (.inl ()))
noncomputable def c6o (h_ : Hall) : Option Int :=
  (b07 (c08 h_) (0)).bind fun
    | (.inl ()) => c6p h_
    | (.inr r') => some r'
noncomputable def c07 (h_ : Hall) : Int → Option (Out Int (Unit ⊕ Int))
  | i_4 =>
    if decide (i_4 < (List.length h_.Combs : Int)) then
      (get h_.Combs i_4).bind fun x56 =>
      if (((!(b2h x56.Rate 0 1000)) || (!(b2h x56.Limit 0 100000))) || ((decide (¬x56.Next = (-1))) && (!(b2h x56.Next (wr (i_4 + 1)) (wr ((List.length h_.Combs : Int) - 1)))))) || (!(b4m x56.Walk 1 20)) then
        some (.br (.inr 60))
      else
        some (.nx (wr (i_4 + 1)))
    else
      some (.br (.inl ()))
noncomputable def b5g (h_ : Hall) : Option Int :=
  if (((!(b2h h_.Until 1 100)) || (!(b2h (List.length h_.Combs : Int) 1 8))) || (decide (12 < (List.length h_.Trains : Int)))) || (decide (20 < (List.length h_.Shifts : Int))) then
    some 60
  else
    (b07 (c07 h_) (0)).bind fun
      | (.inl ()) => c6o h_
      | (.inr r') => some r'
def c7y (O : Orac) : Prop := ∀ (h_ : Hall) (r : Int) (hm0 : b5g h_ = some r), Fn O "newel/newelref06.Check" [.agg [.fs 5 (List.map b0n h_.Combs), .fs 3 (List.map b0k h_.Trains), .fs 3 (List.map b0s h_.Shifts), I h_.Until]] (I r)
noncomputable def l06_Example : Hall :=
  (Hall.mk ([(Comb.mk 3 12 1 (Span.mk 2 3)), (Comb.mk 2 10 (-1) (Span.mk 1 1))]) ([(Train.mk (Span.mk 2 4) ([(Crowd.mk 0 (Span.mk 6 10))])), (Train.mk (Span.mk 5 5) ([(Crowd.mk 0 (Span.mk 0 4)), (Crowd.mk 1 (Span.mk 3 3))]))]) ([]) 20)
def c7u (O : Orac) : Prop := ∀ (_ : Unit), Fn O "newel/newellaw06.Example" [] (.agg [.fs 5 (List.map b0n ((l06_Example).Combs)), .fs 3 (List.map b0k ((l06_Example).Trains)), .fs 3 (List.map b0s ((l06_Example).Shifts)), I ((l06_Example).Until)])
noncomputable def b3a (n : Int) (s : Span) : Bool :=
  (decide (s.Low ≤ n)) && (decide (n ≤ s.High))
def b9r (O : Orac) : Prop := ∀ (n : Int) (s : Span), Fn O "newel/halls.in" [I n, .agg [I s.Low, I s.High]] (B (b3a n s))
noncomputable def b4u (s : Span) (low : Int) (high : Int) : Bool :=
  ((decide (low ≤ s.Low)) && (decide (s.Low ≤ s.High))) && (decide (s.High ≤ high))
def c4d (O : Orac) : Prop := ∀ (s : Span) (low : Int) (high : Int), Fn O "newel/halls.span" [.agg [I s.Low, I s.High], I low, I high] (B (b4u s low high))
noncomputable def b8x (h_ : Hall) (i : Int) : Option Bool :=
  (get h_.Combs i).bind fun x2 =>
  some ((((b3a x2.Rate (Span.mk 0 1000)) && (b3a x2.Limit (Span.mk 0 100000))) && ((decide (x2.Next = (-1))) || ((decide (i < x2.Next)) && (decide (x2.Next < (List.length h_.Combs : Int)))))) && (b4u x2.Walk 1 20))
def c7o (O : Orac) : Prop := ∀ (h_ : Hall) (i : Int) (r : Bool) (hm0 : b8x h_ i = some r), Fn O "newel/halls.isComb" [.agg [.fs 5 (List.map b0n h_.Combs), .fs 3 (List.map b0k h_.Trains), .fs 3 (List.map b0s h_.Shifts), I h_.Until], I i] (B r)
noncomputable def c0n (h_ : Hall) (t_ : Train) : Option Bool :=
  some ((b4u t_.At 0 (wr (h_.Until - 1))) && (decide ((List.length t_.Crowds : Int) ≤ 4)))
noncomputable def b6g (h_ : Hall) (t_ : Train) : (Int × Int) → Option (Out (Int × Int) (Unit ⊕ Bool))
  | (last_5, x_11) =>
    if decide (x_11 < (List.length t_.Crowds : Int)) then
      (get t_.Crowds x_11).bind fun x9 =>
      if ((decide (x9.Comb ≤ last_5)) || (decide ((List.length h_.Combs : Int) ≤ x9.Comb))) || (!(b4u x9.People 0 1000)) then
        some (.br (.inr false))
      else
        some (.nx (x9.Comb, wr (x_11 + 1)))
    else
      some (.br (.inl ()))
noncomputable def b8z (h_ : Hall) (t_ : Train) : Option Bool :=
  (b07 (b6g h_ t_) ((-1), 0)).bind fun
    | (.inl ()) => c0n h_ t_
    | (.inr r') => some r'
def c7r (O : Orac) : Prop := ∀ (h_ : Hall) (t_ : Train) (r : Bool) (hm0 : b8z h_ t_ = some r), Fn O "newel/halls.isTrain" [.agg [.fs 5 (List.map b0n h_.Combs), .fs 3 (List.map b0k h_.Trains), .fs 3 (List.map b0s h_.Shifts), I h_.Until], .agg [I t_.At.Low, I t_.At.High, .fs 3 (List.map b2j t_.Crowds)]] (B r)
noncomputable def b7g (t_ : Train) (c0 : Hall) : Option Bool :=
  (b8z c0 t_).bind fun y2 =>
  some (!y2)
def c7f (O : Orac) : Prop := ∀ (t_ : Train) (c0 : Hall) (r : Bool) (hm0 : b7g t_ c0 = some r), Fn O "newel/halls.Check$1" [.agg [I t_.At.Low, I t_.At.High, .fs 3 (List.map b2j t_.Crowds)], .fp [.fs 5 (List.map b0n c0.Combs), .fs 3 (List.map b0k c0.Trains), .fs 3 (List.map b0s c0.Shifts), I c0.Until] 0] (B r)
noncomputable def c3y : Option Int :=
  some (-1)
noncomputable def c66 (s : List Train) (f : Train → Option Bool) : Int → Option (Out Int (Unit ⊕ Int))
  | x_8 =>
    if decide (x_8 < (List.length s : Int)) then
      (get s x_8).bind fun x9 =>
      (f x9).bind fun y10 =>
      if y10 then
        some (.br (.inr x_8))
      else
        some (.nx (wr (x_8 + 1)))
    else
      some (.br (.inl ()))
noncomputable def c3x (s : List Train) (f : Train → Option Bool) : Option Int :=
  (b07 (c66 s f) (0)).bind fun
    | (.inl ()) => c3y
    | (.inr r') => some r'
def c75 (O : Orac) : Prop := ∀ (s : List Train) (f_n : String) (f_a f_b : List AV) (f : Train → Option Bool) (f_z : Frz (.fn f_n f_a f_b)) (f_h : ∀ z0 y, f z0 = some y → Fn O f_n (f_a ++ [.agg [I z0.At.Low, I z0.At.High, .fs 3 (List.map b2j z0.Crowds)]] ++ f_b) (B y)) (r : Int) (hm0 : c3x s f = some r), Fn O "slices.IndexFunc[[]newel/api.Train,newel/api.Train]" [.fs 3 (List.map b0k s), .fn f_n f_a f_b] (I r)
noncomputable def c1h (s : List Train) (f : Train → Option Bool) : Option Bool :=
  (c3x s f).bind fun y2 =>
  some (decide (0 ≤ y2))
def c73 (O : Orac) : Prop := ∀ (s : List Train) (f_n : String) (f_a f_b : List AV) (f : Train → Option Bool) (f_z : Frz (.fn f_n f_a f_b)) (f_h : ∀ z0 y, f z0 = some y → Fn O f_n (f_a ++ [.agg [I z0.At.Low, I z0.At.High, .fs 3 (List.map b2j z0.Crowds)]] ++ f_b) (B y)) (r : Bool) (hm0 : c1h s f = some r), Fn O "slices.ContainsFunc[[]newel/api.Train,newel/api.Train]" [.fs 3 (List.map b0k s), .fn f_n f_a f_b] (B r)
noncomputable def c2i : Option Int :=
  some 0
noncomputable def b7h (h_ : Hall) : Int → Option (Out Int (Unit ⊕ Int))
  | x_56 =>
    if decide (x_56 < (List.length h_.Shifts : Int)) then
      (get h_.Shifts x_56).bind fun x23 =>
      (if (decide (x23.At < 0)) || (decide (h_.Until ≤ x23.At)) then some true else (if decide (0 < x_56) then (get h_.Shifts (wr (x_56 - 1))).bind fun x27 =>
      some (decide (x23.At < x27.At)) else some false).bind fun c28 =>
      some c28).bind fun c29 =>
      if ((c29 || (decide (x23.Comb < 0))) || (decide ((List.length h_.Combs : Int) ≤ x23.Comb))) || (!(b3a x23.Rate (Span.mk 0 1000))) then
        some (.br (.inr 60))
      else
        some (.nx (wr (x_56 + 1)))
    else
      some (.br (.inl ()))
noncomputable def c0b (h_ : Hall) : Option Int :=
  (c1h h_.Trains (fun z12 => b7g z12 h_)).bind fun y13 =>
  if y13 then
    some 60
  else
    (b07 (b7h h_) (0)).bind fun
      | (.inl ()) => c2i
      | (.inr r') => some r'
noncomputable def b7i (h_ : Hall) : Int → Option (Out Int (Unit ⊕ Int))
  | x_41 =>
    if decide (x_41 < (List.length h_.Combs : Int)) then
      (b8x h_ x_41).bind fun y45 =>
      if !y45 then
        some (.br (.inr 60))
      else
        some (.nx (wr (x_41 + 1)))
    else
      some (.br (.inl ()))
noncomputable def b4s (h_ : Hall) : Option Int :=
  if (((((decide (h_.Until < 1)) || (decide (100 < h_.Until))) || (decide ((List.length h_.Combs : Int) < 1))) || (decide (8 < (List.length h_.Combs : Int)))) || (decide (12 < (List.length h_.Trains : Int)))) || (decide (20 < (List.length h_.Shifts : Int))) then
    some 60
  else
    (b07 (b7i h_) (0)).bind fun
      | (.inl ()) => c0b h_
      | (.inr r') => some r'
def c1l (O : Orac) : Prop := ∀ (h_ : Hall) (r : Int) (hm0 : b4s h_ = some r), Fn O "newel/halls.Check" [.agg [.fs 5 (List.map b0n h_.Combs), .fs 3 (List.map b0k h_.Trains), .fs 3 (List.map b0s h_.Shifts), I h_.Until]] (I r)
noncomputable def b6w (t_ : Int) (c0 : Hall) : Bool :=
  (decide (t_ < 0)) || (decide (c0.Until ≤ t_))
def c7n (O : Orac) : Prop := ∀ (t_ : Int) (c0 : Hall), Fn O "newel/halls.check$1" [I t_, .fp [.fs 5 (List.map b0n c0.Combs), .fs 3 (List.map b0k c0.Trains), .fs 3 (List.map b0s c0.Shifts), I c0.Until] 0] (B (b6w t_ c0))
noncomputable def c3z : Option Int :=
  some (-1)
noncomputable def c67 (s : List Int) (f : Int → Option Bool) : Int → Option (Out Int (Unit ⊕ Int))
  | x_8 =>
    if decide (x_8 < (List.length s : Int)) then
      (get s x_8).bind fun x9 =>
      (f x9).bind fun y10 =>
      if y10 then
        some (.br (.inr x_8))
      else
        some (.nx (wr (x_8 + 1)))
    else
      some (.br (.inl ()))
noncomputable def c1i (s : List Int) (f : Int → Option Bool) : Option Int :=
  (b07 (c67 s f) (0)).bind fun
    | (.inl ()) => c3z
    | (.inr r') => some r'
def c4g (O : Orac) : Prop := ∀ (s : List Int) (f_n : String) (f_a f_b : List AV) (f : Int → Option Bool) (f_z : Frz (.fn f_n f_a f_b)) (f_h : ∀ z0 y, f z0 = some y → Fn O f_n (f_a ++ [I z0] ++ f_b) (B y)) (r : Int) (hm0 : c1i s f = some r), Fn O "slices.IndexFunc[[]int,int]" [.fs 1 (List.map eI s), .fn f_n f_a f_b] (I r)
noncomputable def b9k (s : List Int) (f : Int → Option Bool) : Option Bool :=
  (c1i s f).bind fun y2 =>
  some (decide (0 ≤ y2))
def c4f (O : Orac) : Prop := ∀ (s : List Int) (f_n : String) (f_a f_b : List AV) (f : Int → Option Bool) (f_z : Frz (.fn f_n f_a f_b)) (f_h : ∀ z0 y, f z0 = some y → Fn O f_n (f_a ++ [I z0] ++ f_b) (B y)) (r : Bool) (hm0 : b9k s f = some r), Fn O "slices.ContainsFunc[[]int,int]" [.fs 1 (List.map eI s), .fn f_n f_a f_b] (B r)
noncomputable def b6f (h_ : Hall) (comb : Int) (ticks : List Int) : Option Int :=
  (b4s h_).bind fun y2 =>
  if decide (¬y2 = 0) then
    some y2
  else
    (if (decide (comb < 0)) || (decide ((List.length h_.Combs : Int) ≤ comb)) then some true else (b9k ticks (fun z8 => some (b6w z8 h_))).bind fun y9 =>
    some y9).bind fun c10 =>
    if c10 then
      some 1
    else
      some 0
def c1n (O : Orac) : Prop := ∀ (h_ : Hall) (comb : Int) (ticks : List Int) (r : Int) (hm0 : b6f h_ comb ticks = some r), Fn O "newel/halls.check" [.agg [.fs 5 (List.map b0n h_.Combs), .fs 3 (List.map b0k h_.Trains), .fs 3 (List.map b0s h_.Shifts), I h_.Until], I comb, .fs 1 (List.map eI ticks)] (I r)
noncomputable def c2x (out_5 : List Int) : Option (List Int) :=
  some out_5
noncomputable def c0r (x_20 : Int) (out_5_1 : List Int) (now_6_1 : Int) (at_7_1 : Int) : Option (Out ((List Int) × Int × Int × Int) (((List Int)))) :=
  some (.nx (out_5_1, now_6_1, at_7_1, wr (x_20 + 1)))
noncomputable def c0s (out_5 : List Int) (x_20 : Int) (now_6_1 : Int) (at_7_1 : Int) : Option (Out ((List Int) × Int × Int × Int) (((List Int)))) :=
  (get out_5 x_20).bind fun x15 =>
  c0r x_20 (List.set out_5 (Int.toNat x_20) now_6_1) now_6_1 at_7_1
noncomputable def b82 (at_7_1 : Int) (now_6_2 : Int) : Option (Out (Int × Int) ((Int × Int))) :=
  some (.nx (now_6_2, wr (at_7_1 + 1)))
noncomputable def b7y (h_ : Hall) (comb : Int) (x_20 : Int) : (Int × Int) → Option (Out (Int × Int) ((Int × Int)))
  | (now_6_1, at_7_1) =>
    (if decide (at_7_1 < (List.length h_.Shifts : Int)) then (get h_.Shifts at_7_1).bind fun x19 =>
    some (decide (x19.At ≤ x_20)) else some false).bind fun c20 =>
    if c20 then
      (get h_.Shifts at_7_1).bind fun x27 =>
      if decide (x27.Comb = comb) then
        b82 at_7_1 x27.Rate
      else
        b82 at_7_1 now_6_1
    else
      some (.br (now_6_1, at_7_1))
noncomputable def b81 (h_ : Hall) (comb : Int) (l2 : List Int) : ((List Int) × Int × Int × Int) → Option (Out ((List Int) × Int × Int × Int) (((List Int))))
  | (out_5, now_6, at_7, x_20) =>
    if decide (x_20 < ((List.length l2 : Nat) : Int)) then
      (b07 (b7y h_ comb x_20) (now_6, at_7)).bind fun
        | (now_6_1, at_7_1) => c0s out_5 x_20 now_6_1 at_7_1
    else
      some (.br out_5)
noncomputable def b7x (h_ : Hall) (comb : Int) : Option (List Int) :=
  (mks 8 h_.Until 0).bind fun l2 =>
  (get h_.Combs comb).bind fun x4 =>
  (b07 (b81 h_ comb l2) (l2, x4.Rate, 0, 0)).bind fun out_5 =>
  c2x out_5
def c1p (O : Orac) : Prop := ∀ (h_ : Hall) (comb : Int) (r : List Int) (hm0 : b7x h_ comb = some r), FnW O "newel/halls.rates" [.agg [.fs 5 (List.map b0n h_.Combs), .fs 3 (List.map b0k h_.Trains), .fs 3 (List.map b0s h_.Shifts), I h_.Until], I comb] 1 eI r
@[go_sem] def b0o (x : List Int) : List AV := [.fs 1 (List.map eI x)]
theorem b3g (x : List Int) : ∀ c ∈ b0o x, Frz c := (b0e (b0w fun a _ => b2i a) b0z)
theorem b9a (x : List Int) : (b0o x).length = 1 := rfl
@[go_sem] theorem m0s {l : List (List Int)} {n : Nat} {a0 : List Int} : (List.map b0o l).set n [.fs 1 (List.map eI a0)] = List.map b0o (l.set n a0) := by rw [List.map_set]; rfl
noncomputable def b80 (out_2 : List (List Int)) : Option (List (List Int)) :=
  some out_2
noncomputable def b7w (h_ : Hall) : ((List (List Int)) × Int) → Option (Out ((List (List Int)) × Int) (((List (List Int)))))
  | (out_2, x_7) =>
    if decide (x_7 < (List.length h_.Combs : Int)) then
      (b7x h_ x_7).bind fun y9 =>
      (ap 24 out_2 ([y9])).bind fun l10 =>
      some (.nx (l10, wr (x_7 + 1)))
    else
      some (.br out_2)
noncomputable def b4t (h_ : Hall) : Option (List (List Int)) :=
  (b07 (b7w h_) ([], 0)).bind fun out_2 =>
  b80 out_2
def c1o (O : Orac) : Prop := ∀ (h_ : Hall) (r : List (List Int)) (hm0 : b4t h_ = some r), Fn O "newel/halls.open" [.agg [.fs 5 (List.map b0n h_.Combs), .fs 3 (List.map b0k h_.Trains), .fs 3 (List.map b0s h_.Shifts), I h_.Until]] (.fs 1 (List.map b0o r))
def c7s (O : Orac) : Prop := ∀ (h_ : Hall) (h0 : Heap) (r : List (List Int)) (hm0 : b4t h_ = some r), b7b O "newel/halls.open" [.agg [.fs 5 (List.map b0n h_.Combs), .fs 3 (List.map b0k h_.Trains), .fs 3 (List.map b0s h_.Shifts), I h_.Until]] h0 (fun v h => ∃ hs, RR h v hs 1 eI r ∧ (∀ j, j < h0.nx → h.ob j = h0.ob j) ∧ h0.nx ≤ h.nx ∧ ∀ j, ¬b0v v hs j → h0.nx ≤ j)
noncomputable def c2u (sum_8 : Int) : Option Int :=
  some sum_8
noncomputable def b7u (x_16 : Int) (sum_8_1 : Int) : Option (Out (Int × Int) Int) :=
  some (.nx (sum_8_1, wr (x_16 + 1)))
noncomputable def b7t (x_35 : Int) (sum_8_2 : Int) : Option (Out (Int × Int) Int) :=
  some (.nx (sum_8_2, wr (x_35 + 1)))
noncomputable def b8v (comb : Int) (x9 : Train) : (Int × Int) → Option (Out (Int × Int) Int)
  | (sum_8_1, x_35) =>
    if decide (x_35 < (List.length x9.Crowds : Int)) then
      (get x9.Crowds x_35).bind fun x19 =>
      if decide (x19.Comb = comb) then
        b7t x_35 (wr (sum_8_1 + x19.People.High))
      else
        b7t x_35 sum_8_1
    else
      some (.br sum_8_1)
noncomputable def b8w (h_ : Hall) (comb : Int) (from_ : Int) (to_ : Int) : (Int × Int) → Option (Out (Int × Int) Int)
  | (sum_8, x_16) =>
    if decide (x_16 < (List.length h_.Trains : Int)) then
      (get h_.Trains x_16).bind fun x9 =>
      if (decide (x9.At.High < from_)) || (decide (to_ < x9.At.Low)) then
        b7u x_16 sum_8
      else
        (b07 (b8v comb x9) (sum_8, 0)).bind fun sum_8_1 =>
        b7u x_16 sum_8_1
    else
      some (.br sum_8)
noncomputable def b8u (h_ : Hall) (comb : Int) (from_ : Int) (to_ : Int) : Option Int :=
  (b07 (b8w h_ comb from_ to_) (0, 0)).bind fun sum_8 =>
  c2u sum_8
def c4b (O : Orac) : Prop := ∀ (h_ : Hall) (comb : Int) (from_ : Int) (to_ : Int) (r : Int) (hm0 : b8u h_ comb from_ to_ = some r), Fn O "newel/halls.brought" [.agg [.fs 5 (List.map b0n h_.Combs), .fs 3 (List.map b0k h_.Trains), .fs 3 (List.map b0s h_.Shifts), I h_.Until], I comb, I from_, I to_] (I r)
structure halls_bound where
  rates : List Int
  flow : List Int
  most : List Int
  come : List (List Int)
  deriving Inhabited, DecidableEq
noncomputable def b9v (least_7 : Int) : Option Int :=
  some least_7
noncomputable def b68 (b : halls_bound) (from_ : Int) (least_7 : Int) (k_8 : Int) (behind_9 : Int) : Option (Out (Int × Int) Int) :=
  (get b.flow k_8).bind fun x23 =>
  (get b.flow (mx from_ 0)).bind fun x24 =>
  (get b.most k_8).bind fun x25 =>
  some (.nx (mn least_7 (wr ((wr ((wr (x23 - x24)) + x25)) + behind_9)), wr (k_8 + 1)))
noncomputable def b8k (b : halls_bound) (from_ : Int) (to_ : Int) : (Int × Int) → Option (Out (Int × Int) Int)
  | (least_7, k_8) =>
    if decide (k_8 ≤ to_) then
      if decide (k_8 < to_) then
        (get b.come (wr (k_8 + 1))).bind fun x29 =>
        (get x29 to_).bind fun x30 =>
        b68 b from_ least_7 k_8 x30
      else
        b68 b from_ least_7 k_8 0
    else
      some (.br least_7)
noncomputable def b8j (b : halls_bound) (from_ : Int) (to_ : Int) : Option Int :=
  if (decide (to_ < from_)) || (decide (to_ < 0)) then
    some 0
  else
    (get b.come 0).bind fun x8 =>
    (get x8 to_).bind fun x9 =>
    (get b.flow (wr (to_ + 1))).bind fun x10 =>
    (get b.flow (mx from_ 0)).bind fun x11 =>
    (b07 (b8k b from_ to_) (mn x9 (wr (x10 - x11)), mx from_ 0)).bind fun least_7 =>
    b9v least_7
def c4a (O : Orac) : Prop := ∀ (b : halls_bound) (from_ : Int) (to_ : Int) (r : Int) (hm0 : b8j b from_ to_ = some r), Fn O "(*newel/halls.bound).passes" [.fp [.fs 1 (List.map eI b.rates), .fs 1 (List.map eI b.flow), .fs 1 (List.map eI b.most), .fs 1 (List.map b0o b.come)] 0, I from_, I to_] (I r)
@[go_sem] def b2a (x : halls_bound) : List AV := [.fp [.fs 1 (List.map eI x.rates), .fs 1 (List.map eI x.flow), .fs 1 (List.map eI x.most), .fs 1 (List.map b0o x.come)] 0]
theorem c2e (x : halls_bound) : ∀ c ∈ b2a x, Frz c := (b0e (.fp _ _ (b0e (b0w fun a _ => b2i a) (b0e (b0w fun a _ => b2i a) (b0e (b0w fun a _ => b2i a) (b0e (b0w fun a _ => b3g a) b0z))))) b0z)
theorem d8s (x : halls_bound) : (b2a x).length = 1 := rfl
noncomputable def b8t (all_5 : List halls_bound) : Option (List halls_bound) :=
  some all_5
noncomputable def b7q (x_19 : Int) (all_5_1 : List halls_bound) : Option (Out ((List halls_bound) × Int) (((List halls_bound)))) :=
  some (.nx (all_5_1, wr (x_19 + 1)))
noncomputable def b7l (all_5 : List halls_bound) (x_19 : Int) (b_7_0 : List Int) (b_7_3 : List (List Int)) (b_7_1 : List Int) (b_7_2 : List Int) : Option (Out ((List halls_bound) × Int) (((List halls_bound)))) :=
  (ap 8 all_5 ([(halls_bound.mk b_7_0 b_7_1 b_7_2 b_7_3)])).bind fun l13 =>
  b7q x_19 l13
noncomputable def b7m (x_122 : Int) (b_7_1_1 : List Int) (b_7_2_1 : List Int) : Option (Out ((List Int) × (List Int) × Int) (((List Int) × (List Int)))) :=
  some (.nx (b_7_1_1, b_7_2_1, wr (x_122 + 1)))
noncomputable def b7n (open_ : List (List Int)) (x_19 : Int) (b_7_1 : List Int) (b_7_2 : List Int) (x_122 : Int) (most_14 : Int) : Option (Out ((List Int) × (List Int) × Int) (((List Int) × (List Int)))) :=
  (ap 8 b_7_2 ([most_14])).bind fun l22 =>
  (get b_7_1 x_122).bind fun x27 =>
  (get open_ x_19).bind fun x28 =>
  (get x28 x_122).bind fun x29 =>
  (ap 8 b_7_1 ([wr (x27 + (mn most_14 x29))])).bind fun l30 =>
  b7m x_122 l30 l22
noncomputable def b6u (b_7_0 : List Int) (b_7_3 : List (List Int)) (x_122 : Int) : (Int × Int) → Option (Out (Int × Int) Int)
  | (most_14, x_127) =>
    if decide (x_127 < (wr (x_122 + 1))) then
      (get b_7_3 x_127).bind fun x40 =>
      (get x40 x_122).bind fun x42 =>
      (get b_7_0 x_122).bind fun x43 =>
      (get b_7_0 x_127).bind fun x44 =>
      some (.nx (mx most_14 (wr (x42 - (wr (x43 - x44)))), wr (x_127 + 1)))
    else
      some (.br most_14)
noncomputable def b6v (h_ : Hall) (open_ : List (List Int)) (x_19 : Int) (b_7_0 : List Int) (b_7_3 : List (List Int)) : ((List Int) × (List Int) × Int) → Option (Out ((List Int) × (List Int) × Int) (((List Int) × (List Int))))
  | (b_7_1, b_7_2, x_122) =>
    if decide (x_122 < h_.Until) then
      (b07 (b6u b_7_0 b_7_3 x_122) (0, 0)).bind fun most_14 =>
      b7n open_ x_19 b_7_1 b_7_2 x_122 most_14
    else
      some (.br (b_7_1, b_7_2))
noncomputable def b7s (h_ : Hall) (open_ : List (List Int)) (all_5 : List halls_bound) (x_19 : Int) (b_7_0 : List Int) (b_7_3 : List (List Int)) : Option (Out ((List halls_bound) × Int) (((List halls_bound)))) :=
  (b07 (b6v h_ open_ x_19 b_7_0 b_7_3) ([0], [], 0)).bind fun
    | (b_7_1, b_7_2) => b7l all_5 x_19 b_7_0 b_7_3 b_7_1 b_7_2
noncomputable def b7o (x_28 : Int) (b_7_0_1 : List Int) (b_7_3_1 : List (List Int)) : Option (Out ((List Int) × (List (List Int)) × Int) (((List Int) × (List (List Int))))) :=
  some (.nx (b_7_0_1, b_7_3_1, wr (x_28 + 1)))
noncomputable def b7p (open_ : List (List Int)) (x_19 : Int) (b_7_0 : List Int) (b_7_3 : List (List Int)) (x_28 : Int) (row_9 : List Int) : Option (Out ((List Int) × (List (List Int)) × Int) (((List Int) × (List (List Int))))) :=
  (ap 24 b_7_3 ([row_9])).bind fun l57 =>
  (get b_7_0 x_28).bind fun x62 =>
  (get open_ x_19).bind fun x63 =>
  (get x63 x_28).bind fun x64 =>
  (ap 8 b_7_0 ([wr (x62 + x64)])).bind fun l65 =>
  b7o x_28 l65 l57
noncomputable def b7r (t_10 : Int) (row_9_1 : List Int) : Option (Out ((List Int) × Int) (((List Int)))) :=
  some (.nx (row_9_1, wr (t_10 + 1)))
noncomputable def b6e (x_54 : Int) (row_9_2 : List Int) : Option (Out ((List Int) × Int) (((List Int)))) :=
  some (.nx (row_9_2, wr (x_54 + 1)))
noncomputable def b7j (all_5 : List halls_bound) (x_19 : Int) (x_28 : Int) (t_10 : Int) (l76 : List Comb) : ((List Int) × Int) → Option (Out ((List Int) × Int) (((List Int))))
  | (row_9_1, x_54) =>
    if decide (x_54 < (List.length l76 : Int)) then
      (get l76 x_54).bind fun x83 =>
      if decide (x83.Next = x_19) then
        (get row_9_1 t_10).bind fun x89 =>
        (get all_5 x_54).bind fun x90 =>
        (b8j x90 (wr (x_28 - x83.Walk.High)) (wr (t_10 - x83.Walk.Low))).bind fun y92 =>
        b6e x_54 (List.set row_9_1 (Int.toNat t_10) (wr (x89 + y92)))
      else
        b6e x_54 row_9_1
    else
      some (.br row_9_1)
noncomputable def b6s (h_ : Hall) (all_5 : List halls_bound) (x_19 : Int) (x_28 : Int) : ((List Int) × Int) → Option (Out ((List Int) × Int) (((List Int))))
  | (row_9, t_10) =>
    if decide (t_10 < h_.Until) then
      (b8u h_ x_19 x_28 t_10).bind fun y73 =>
      (get row_9 t_10).bind fun x74 =>
      (sub h_.Combs 0 x_19).bind fun l76 =>
      (b07 (b7j all_5 x_19 x_28 t_10 l76) ((List.set row_9 (Int.toNat t_10) y73), 0)).bind fun row_9_1 =>
      b7r t_10 row_9_1
    else
      some (.br row_9)
noncomputable def b6t (h_ : Hall) (open_ : List (List Int)) (all_5 : List halls_bound) (x_19 : Int) : ((List Int) × (List (List Int)) × Int) → Option (Out ((List Int) × (List (List Int)) × Int) (((List Int) × (List (List Int)))))
  | (b_7_0, b_7_3, x_28) =>
    if decide (x_28 < h_.Until) then
      (mks 8 h_.Until 0).bind fun l53 =>
      (b07 (b6s h_ all_5 x_19 x_28) (l53, x_28)).bind fun row_9 =>
      b7p open_ x_19 b_7_0 b_7_3 x_28 row_9
    else
      some (.br (b_7_0, b_7_3))
noncomputable def b7k (h_ : Hall) (open_ : List (List Int)) : ((List halls_bound) × Int) → Option (Out ((List halls_bound) × Int) (((List halls_bound))))
  | (all_5, x_19) =>
    if decide (x_19 < (List.length h_.Combs : Int)) then
      (b07 (b6t h_ open_ all_5 x_19) ([0], [], 0)).bind fun
        | (b_7_0, b_7_3) => b7s h_ open_ all_5 x_19 b_7_0 b_7_3
    else
      some (.br all_5)
noncomputable def b44 (h_ : Hall) (open_ : List (List Int)) : Option (List halls_bound) :=
  (b07 (b7k h_ open_) ([], 0)).bind fun all_5 =>
  b8t all_5
def c1m (O : Orac) : Prop := ∀ (h_ : Hall) (open_ : List (List Int)) (r : List halls_bound) (hm0 : b44 h_ open_ = some r), Fn O "newel/halls.bounds" [.agg [.fs 5 (List.map b0n h_.Combs), .fs 3 (List.map b0k h_.Trains), .fs 3 (List.map b0s h_.Shifts), I h_.Until], .fs 1 (List.map b0o open_)] (.fs 1 (List.map b2a r))
def c7m (O : Orac) : Prop := ∀ (h_ : Hall) (open_ : List (List Int)) (v_1 : AV) (hs_1 : List AV) (h0 : Heap) (rr_p1 : RR h0 v_1 hs_1 1 eI open_) (r : List halls_bound) (hm0 : b44 h_ open_ = some r), b7b O "newel/halls.bounds" [.agg [.fs 5 (List.map b0n h_.Combs), .fs 3 (List.map b0k h_.Trains), .fs 3 (List.map b0s h_.Shifts), I h_.Until], v_1] h0 (fun v h => v = .fs 1 (List.map b2a r) ∧ (∀ j, j < h0.nx → h.ob j = h0.ob j) ∧ h0.nx ≤ h.nx)
noncomputable def c0p (n : Int) (c0 : Hall) (c1 : Int) : Option Bool :=
  (get c0.Combs c1).bind fun x2 =>
  some (decide (x2.Limit < n))
def c7t (O : Orac) : Prop := ∀ (n : Int) (c0 : Hall) (c1 : Int) (r : Bool) (hm0 : c0p n c0 c1 = some r), Fn O "newel/halls.over$1" [I n, .fp [.fs 5 (List.map b0n c0.Combs), .fs 3 (List.map b0k c0.Trains), .fs 3 (List.map b0s c0.Shifts), I c0.Until] 0, .fp [I c1] 0] (B r)
@[go_sem] def b5w (x : Int × Int) : List AV := [I x.1, I x.2]
theorem c45 (x : Int × Int) : ∀ c ∈ b5w x, Frz c := (b0e (b0j _) (b0e (b0j _) b0z))
theorem j09 (x : Int × Int) : (b5w x).length = 2 := rfl
@[go_sem] theorem m0p {l : List (Int × Int)} {n : Nat} {a0 : Int} {a1 : Int} : (List.map b5w l).set n [I a0, I a1] = List.map b5w (l.set n (a0, a1)) := by rw [List.map_set]; rfl
noncomputable def c2w (out_4 : List (Int × Int)) : Option (List (Int × Int)) :=
  some out_4
noncomputable def c0q (x_10 : Int) (out_4_1 : List (Int × Int)) : Option (Out ((List (Int × Int)) × Int) (((List (Int × Int))))) :=
  some (.nx (out_4_1, wr (x_10 + 1)))
noncomputable def c5u (h_ : Hall) (all : List halls_bound) : ((List (Int × Int)) × Int) → Option (Out ((List (Int × Int)) × Int) (((List (Int × Int)))))
  | (out_4, x_10) =>
    if decide (x_10 < (List.length all : Int)) then
      (get all x_10).bind fun x9 =>
      (c1i x9.most (fun z12 => c0p z12 h_ x_10)).bind fun y13 =>
      if decide (0 ≤ y13) then
        (ap 16 out_4 ([(x_10, y13)])).bind fun l16 =>
        c0q x_10 l16
      else
        c0q x_10 out_4
    else
      some (.br out_4)
noncomputable def c0o (h_ : Hall) (all : List halls_bound) : Option (List (Int × Int)) :=
  (b07 (c5u h_ all) ([], 0)).bind fun out_4 =>
  c2w out_4
def c4c (O : Orac) : Prop := ∀ (h_ : Hall) (all : List halls_bound) (r : List (Int × Int)) (hm0 : c0o h_ all = some r), Fn O "newel/halls.over" [.agg [.fs 5 (List.map b0n h_.Combs), .fs 3 (List.map b0k h_.Trains), .fs 3 (List.map b0s h_.Shifts), I h_.Until], .fs 1 (List.map b2a all)] (.fs 2 (List.map b5w r))
noncomputable def c5b (h_ : Hall) (comb : Int) (from_ : Int) : ((List (List Int)) × Int) → Option (Out ((List (List Int)) × Int) (((Int × Int))))
  | (all_9, n_10) =>
    (b44 h_ all_9).bind fun y11 =>
    (c0o h_ y11).bind fun y12 =>
    if decide ((List.length y12 : Int) = 0) then
      some (.br (n_10, 0))
    else
      if decide ((wr (from_ + n_10)) = h_.Until) then
        some (.br (0, 3))
      else
        (get all_9 comb).bind fun x19 =>
        (get x19 (wr (from_ + n_10))).bind fun x20 =>
        some (.nx ((List.set all_9 (Int.toNat comb) (List.set x19 (Int.toNat (wr (from_ + n_10))) 0)), wr (n_10 + 1)))
noncomputable def c2j (h_ : Hall) (comb : Int) (from_ : Int) : Option (Int × Int) :=
  (b6f h_ comb ([from_])).bind fun y2 =>
  if decide (¬y2 = 0) then
    some (0, y2)
  else
    (b4t h_).bind fun y6 =>
    (b07 (c5b h_ comb from_) (y6, 0)).bind fun r' =>
    some r'
def c7g (O : Orac) : Prop := ∀ (h_ : Hall) (comb : Int) (from_ : Int) (r : Int × Int) (hm0 : c2j h_ comb from_ = some r), Fn O "newel/halls.Guard" [.agg [.fs 5 (List.map b0n h_.Combs), .fs 3 (List.map b0k h_.Trains), .fs 3 (List.map b0s h_.Shifts), I h_.Until], I comb, I from_] (.tup [I r.1, I r.2])
noncomputable def c2l (h_ : Hall) : Option ((List (Int × Int)) × Int) :=
  (b4s h_).bind fun y2 =>
  if decide (¬y2 = 0) then
    some ([], y2)
  else
    (b4t h_).bind fun y8 =>
    (b44 h_ y8).bind fun y9 =>
    (c0o h_ y9).bind fun y10 =>
    some (y10, 0)
def c7i (O : Orac) : Prop := ∀ (h_ : Hall) (r : (List (Int × Int)) × Int) (hm0 : c2l h_ = some r), Fn O "newel/halls.Over" [.agg [.fs 5 (List.map b0n h_.Combs), .fs 3 (List.map b0k h_.Trains), .fs 3 (List.map b0s h_.Shifts), I h_.Until]] (.tup [.fs 2 (List.map b5w r.1), I r.2])
noncomputable def b6z : Option Bool :=
  (c2j l06_Example 0 5).bind fun y2 =>
  (c2l l06_Example).bind fun y4 =>
  (if (((decide (y2.2 = 0)) && (decide (y4.2 = 0))) && (decide (y2.1 = 1))) && (decide ((List.length y4.1 : Int) = 1)) then (get y4.1 0).bind fun x7 =>
  some (decide (x7.1 = 1) && decide (x7.2 = 7)) else some false).bind fun c8 =>
  some c8
def c7x (O : Orac) : Prop := ∀ (r : Bool) (hm0 : b6z = some r), Fn O "newel/newellaw06.works" [] (B r)
structure l06_Window where
  Comb : Int
  From : Int
  To : Int
  deriving Inhabited, DecidableEq
noncomputable def c2k (h_ : Hall) (comb : Int) : Option ((List Int) × Int) :=
  (b6f h_ comb ([])).bind fun y2 =>
  if decide (¬y2 = 0) then
    some ([], y2)
  else
    (b4t h_).bind fun y8 =>
    (b44 h_ y8).bind fun y9 =>
    (get y9 comb).bind fun x10 =>
    some (x10.most, 0)
def c7h (O : Orac) : Prop := ∀ (h_ : Hall) (comb : Int) (r : (List Int) × Int) (hm0 : c2k h_ comb = some r), Fn O "newel/halls.Most" [.agg [.fs 5 (List.map b0n h_.Combs), .fs 3 (List.map b0k h_.Trains), .fs 3 (List.map b0s h_.Shifts), I h_.Until], I comb] (.tup [.fs 1 (List.map eI r.1), I r.2])
structure l06_Less where
  Train : Int
  Crowd : Int
  At : Span
  People : Span
  deriving Inhabited, DecidableEq
structure r06_Bounds where
  Most : List (List Int)
  Flow : List (List Int)
  Come : List (List (List Int))
  Pass : List (List (List Int))
  deriving Inhabited, DecidableEq
@[go_sem] def d4m (x : List (List Int)) : List AV := [.fs 1 (List.map b0o x)]
@[go_sem] theorem m0t {l : List (List (List Int))} {n : Nat} {a0 : List (List Int)} : (List.map d4m l).set n [.fs 1 (List.map b0o a0)] = List.map d4m (l.set n a0) := by rw [List.map_set]; rfl
noncomputable def b8s (c : Comb) (c0 : Int) : Bool :=
  decide (c.Next = c0)
def c7l (O : Orac) : Prop := ∀ (c : Comb) (c0 : Int), Fn O "newel/halls.Witness$1" [.agg [I c.Rate, I c.Limit, I c.Next, I c.Walk.Low, I c.Walk.High], .fp [I c0] 0] (B (b8s c c0))
noncomputable def d2g : Option Int :=
  some (-1)
noncomputable def d98 (s : List Comb) (f : Comb → Option Bool) : Int → Option (Out Int (Unit ⊕ Int))
  | x_8 =>
    if decide (x_8 < (List.length s : Int)) then
      (get s x_8).bind fun x9 =>
      (f x9).bind fun y10 =>
      if y10 then
        some (.br (.inr x_8))
      else
        some (.nx (wr (x_8 + 1)))
    else
      some (.br (.inl ()))
noncomputable def d2f (s : List Comb) (f : Comb → Option Bool) : Option Int :=
  (b07 (d98 s f) (0)).bind fun
    | (.inl ()) => d2g
    | (.inr r') => some r'
def c74 (O : Orac) : Prop := ∀ (s : List Comb) (f_n : String) (f_a f_b : List AV) (f : Comb → Option Bool) (f_z : Frz (.fn f_n f_a f_b)) (f_h : ∀ z0 y, f z0 = some y → Fn O f_n (f_a ++ [.agg [I z0.Rate, I z0.Limit, I z0.Next, I z0.Walk.Low, I z0.Walk.High]] ++ f_b) (B y)) (r : Int) (hm0 : d2f s f = some r), Fn O "slices.IndexFunc[[]newel/api.Comb,newel/api.Comb]" [.fs 5 (List.map b0n s), .fn f_n f_a f_b] (I r)
noncomputable def c65 (s : List Comb) (f : Comb → Option Bool) : Option Bool :=
  (d2f s f).bind fun y2 =>
  some (decide (0 ≤ y2))
def c72 (O : Orac) : Prop := ∀ (s : List Comb) (f_n : String) (f_a f_b : List AV) (f : Comb → Option Bool) (f_z : Frz (.fn f_n f_a f_b)) (f_h : ∀ z0 y, f z0 = some y → Fn O f_n (f_a ++ [.agg [I z0.Rate, I z0.Limit, I z0.Next, I z0.Walk.Low, I z0.Walk.High]] ++ f_b) (B y)) (r : Bool) (hm0 : c65 s f = some r), Fn O "slices.ContainsFunc[[]newel/api.Comb,newel/api.Comb]" [.fs 5 (List.map b0n s), .fn f_n f_a f_b] (B r)
structure Day where
  At : List Int
  People : List (List Int)
  Walks : List (List Int)
  deriving Inhabited, DecidableEq
noncomputable def c9a (d_12_0 : List Int) (d_12_1 : List (List Int)) (d_12_2 : List (List Int)) : Option (Day × Int) :=
  some ((Day.mk d_12_0 d_12_1 d_12_2), 0)
noncomputable def c2s (h_ : Hall) : ((List (List Int)) × Int) → Option (Out ((List (List Int)) × Int) (((List (List Int)))))
  | (d_12_2, x_152) =>
    if decide (x_152 < (List.length h_.Combs : Int)) then
      (get h_.Combs x_152).bind fun x28 =>
      (ap 24 d_12_2 ([[x28.Walk.Low]])).bind fun l30 =>
      some (.nx (l30, wr (x_152 + 1)))
    else
      some (.br d_12_2)
noncomputable def c5h (h_ : Hall) (d_12_0 : List Int) (d_12_1 : List (List Int)) : Option (Day × Int) :=
  (b07 (c2s h_) ([], 0)).bind fun d_12_2 =>
  c9a d_12_0 d_12_1 d_12_2
noncomputable def c5i (x_87 : Int) (d_12_0_1 : List Int) (d_12_1_1 : List (List Int)) : Option (Out ((List Int) × (List (List Int)) × Int) (((List Int) × (List (List Int))))) :=
  some (.nx (d_12_0_1, d_12_1_1, wr (x_87 + 1)))
noncomputable def c5j (d_12_0 : List Int) (d_12_1 : List (List Int)) (x_87 : Int) (at_16 : Int) (people_17 : List Int) : Option (Out ((List Int) × (List (List Int)) × Int) (((List Int) × (List (List Int))))) :=
  (ap 8 d_12_0 ([at_16])).bind fun l47 =>
  (ap 24 d_12_1 ([people_17])).bind fun l49 =>
  c5i x_87 l47 l49
noncomputable def c0k (x_117 : Int) (people_17_1 : List Int) : Option (Out ((List Int) × Int) (((List Int)))) :=
  some (.nx (people_17_1, wr (x_117 + 1)))
noncomputable def c0i (tick : Int) (from_10 : Int) (x38 : Train) : ((List Int) × Int) → Option (Out ((List Int) × Int) (((List Int))))
  | (people_17, x_117) =>
    if decide (x_117 < (List.length x38.Crowds : Int)) then
      (get x38.Crowds x_117).bind fun x56 =>
      (get people_17 x_117).bind fun x58 =>
      if (decide (from_10 ≤ x38.At.High)) && (decide (x38.At.Low ≤ tick)) then
        (get (List.set people_17 (Int.toNat x_117) x56.People.Low) x_117).bind fun x61 =>
        c0k x_117 (List.set (List.set people_17 (Int.toNat x_117) x56.People.Low) (Int.toNat x_117) x56.People.High)
      else
        c0k x_117 (List.set people_17 (Int.toNat x_117) x56.People.Low)
    else
      some (.br people_17)
noncomputable def c0j (tick : Int) (from_10 : Int) (d_12_0 : List Int) (d_12_1 : List (List Int)) (x_87 : Int) (x38 : Train) (at_16 : Int) : Option (Out ((List Int) × (List (List Int)) × Int) (((List Int) × (List (List Int))))) :=
  (mks 8 (List.length x38.Crowds : Int) 0).bind fun l43 =>
  (b07 (c0i tick from_10 x38) (l43, 0)).bind fun people_17 =>
  c5j d_12_0 d_12_1 x_87 at_16 people_17
noncomputable def c2r (h_ : Hall) (tick : Int) (from_10 : Int) : ((List Int) × (List (List Int)) × Int) → Option (Out ((List Int) × (List (List Int)) × Int) (((List Int) × (List (List Int)))))
  | (d_12_0, d_12_1, x_87) =>
    if decide (x_87 < (List.length h_.Trains : Int)) then
      (get h_.Trains x_87).bind fun x38 =>
      if (decide (from_10 ≤ x38.At.High)) && (decide (x38.At.Low ≤ tick)) then
        c0j tick from_10 d_12_0 d_12_1 x_87 x38 (mx x38.At.Low from_10)
      else
        c0j tick from_10 d_12_0 d_12_1 x_87 x38 x38.At.Low
    else
      some (.br (d_12_0, d_12_1))
noncomputable def c2t (h_ : Hall) (tick : Int) (from_10 : Int) : Option (Day × Int) :=
  (b07 (c2r h_ tick from_10) ([], [], 0)).bind fun
    | (d_12_0, d_12_1) => c5h h_ d_12_0 d_12_1
noncomputable def c0h (tick : Int) (x16 : halls_bound) : (Int × Int) → Option (Out (Int × Int) Int)
  | (from_10, x_45) =>
    if decide (x_45 < (wr (tick + 1))) then
      (get x16.come x_45).bind fun x74 =>
      (get x74 tick).bind fun x75 =>
      (get x16.rates tick).bind fun x76 =>
      (get x16.rates x_45).bind fun x77 =>
      (get x16.most tick).bind fun x78 =>
      if decide ((wr (x75 - (wr (x76 - x77)))) = x78) then
        some (.br x_45)
      else
        some (.nx (from_10, wr (x_45 + 1)))
    else
      some (.br from_10)
noncomputable def c0g (h_ : Hall) (comb : Int) (tick : Int) : Option (Day × Int) :=
  (b6f h_ comb ([tick])).bind fun y2 =>
  if decide (¬y2 = 0) then
    some ((Day.mk ([]) ([]) ([])), y2)
  else
    (c65 h_.Combs (fun z7 => some (b8s z7 comb))).bind fun y8 =>
    if y8 then
      some ((Day.mk ([]) ([]) ([])), 3)
    else
      (b4t h_).bind fun y14 =>
      (b44 h_ y14).bind fun y15 =>
      (get y15 comb).bind fun x16 =>
      (b07 (c0h tick x16) (0, 0)).bind fun from_10 =>
      c2t h_ tick from_10
def c7k (O : Orac) : Prop := ∀ (h_ : Hall) (comb : Int) (tick : Int) (r : Day × Int) (hm0 : c0g h_ comb tick = some r), Fn O "newel/halls.Witness" [.agg [.fs 5 (List.map b0n h_.Combs), .fs 3 (List.map b0k h_.Trains), .fs 3 (List.map b0s h_.Shifts), I h_.Until], I comb, I tick] (.tup [.agg [.fs 1 (List.map eI r.1.At), .fs 1 (List.map b0o r.1.People), .fs 1 (List.map b0o r.1.Walks)], I r.2])
noncomputable def d13 : Option Bool :=
  some true
noncomputable def c1b (h_ : Hall) (c : Int) : Int → Option (Out Int (Unit ⊕ Bool))
  | u_5 =>
    if decide (u_5 < (List.length h_.Combs : Int)) then
      (get h_.Combs u_5).bind fun x8 =>
      if decide (x8.Next = c) then
        some (.br (.inr false))
      else
        some (.nx (wr (u_5 + 1)))
    else
      some (.br (.inl ()))
noncomputable def c1a (h_ : Hall) (c : Int) : Option Bool :=
  (b07 (c1b h_ c) (0)).bind fun
    | (.inl ()) => d13
    | (.inr r') => some r'
def c7z (O : Orac) : Prop := ∀ (h_ : Hall) (c : Int) (r : Bool) (hm0 : c1a h_ c = some r), Fn O "newel/newelref06.First" [.agg [.fs 5 (List.map b0n h_.Combs), .fs 3 (List.map b0k h_.Trains), .fs 3 (List.map b0s h_.Shifts), I h_.Until], I c] (B r)
noncomputable def d1e : Option Bool :=
  some false
noncomputable def c02 (d : Day) : Int → Option (Out Int (Unit ⊕ Bool))
  | i_4 =>
    if decide (i_4 < (List.length d.Walks : Int)) then
      (get d.Walks i_4).bind fun x14 =>
      if decide (30 < (List.length x14 : Int)) then
        some (.br (.inr true))
      else
        some (.nx (wr (i_4 + 1)))
    else
      some (.br (.inl ()))
noncomputable def c6d (d : Day) : Option Bool :=
  (b07 (c02 d) (0)).bind fun
    | (.inl ()) => d1e
    | (.inr r') => some r'
noncomputable def c03 (d : Day) : Int → Option (Out Int (Unit ⊕ Bool))
  | i_3 =>
    if decide (i_3 < (List.length d.People : Int)) then
      (get d.People i_3).bind fun x22 =>
      if decide (10 < (List.length x22 : Int)) then
        some (.br (.inr true))
      else
        some (.nx (wr (i_3 + 1)))
    else
      some (.br (.inl ()))
noncomputable def c01 (d : Day) : Option Bool :=
  if ((decide (20 < (List.length d.At : Int))) || (decide (20 < (List.length d.People : Int)))) || (decide (20 < (List.length d.Walks : Int))) then
    some true
  else
    (b07 (c03 d) (0)).bind fun
      | (.inl ()) => c6d d
      | (.inr r') => some r'
def c7w (O : Orac) : Prop := ∀ (d : Day) (r : Bool) (hm0 : c01 d = some r), Fn O "newel/newellaw06.farDay" [.agg [.fs 1 (List.map eI d.At), .fs 1 (List.map b0o d.People), .fs 1 (List.map b0o d.Walks)]] (B r)
noncomputable def b6x (n : Int) (c0 : Comb) : Bool :=
  !(b3a n c0.Walk)
def c7q (O : Orac) : Prop := ∀ (n : Int) (c0 : Comb), Fn O "newel/halls.isDay$1" [I n, .fp [I c0.Rate, I c0.Limit, I c0.Next, I c0.Walk.Low, I c0.Walk.High] 0] (B (b6x n c0))
noncomputable def c9x : Option Bool :=
  some true
noncomputable def c0m (h_ : Hall) (d : Day) : Int → Option (Out Int (Unit ⊕ Bool))
  | x_91 =>
    if decide (x_91 < (List.length h_.Combs : Int)) then
      (get h_.Combs x_91).bind fun x14 =>
      (get d.Walks x_91).bind fun x19 =>
      (if (decide ((List.length x19 : Int) < 1)) || (decide (20 < (List.length x19 : Int))) then some true else (b9k x19 (fun z20 => some (b6x z20 x14))).bind fun y21 =>
      some y21).bind fun c22 =>
      if c22 then
        some (.br (.inr false))
      else
        some (.nx (wr (x_91 + 1)))
    else
      some (.br (.inl ()))
noncomputable def c5r (h_ : Hall) (d : Day) : Option Bool :=
  (b07 (c0m h_ d) (0)).bind fun
    | (.inl ()) => c9x
    | (.inr r') => some r'
noncomputable def c5q (x_40 : Int) : Option (Out Int (Unit ⊕ Bool)) :=
  some (.nx (wr (x_40 + 1)))
noncomputable def b7v (d : Day) (x_40 : Int) (x33 : Train) : Int → Option (Out Int (Unit ⊕ Bool))
  | x_69 =>
    if decide (x_69 < (List.length x33.Crowds : Int)) then
      (get x33.Crowds x_69).bind fun x48 =>
      (get d.People x_40).bind fun x51 =>
      (get x51 x_69).bind fun x52 =>
      if !(b3a x52 x48.People) then
        some (.br (.inr false))
      else
        some (.nx (wr (x_69 + 1)))
    else
      some (.br (.inl ()))
noncomputable def c0l (h_ : Hall) (d : Day) : Int → Option (Out Int (Unit ⊕ Bool))
  | x_40 =>
    if decide (x_40 < (List.length h_.Trains : Int)) then
      (get h_.Trains x_40).bind fun x33 =>
      (get d.At x_40).bind fun x37 =>
      (if !(b3a x37 x33.At) then some true else (get d.People x_40).bind fun x38 =>
      some (decide (¬(List.length x38 : Int) = (List.length x33.Crowds : Int)))).bind fun c39 =>
      if c39 then
        some (.br (.inr false))
      else
        (b07 (b7v d x_40 x33) (0)).bind fun
          | (.inl ()) => c5q x_40
          | (.inr r') => some (.br (.inr r'))
    else
      some (.br (.inl ()))
noncomputable def b8y (h_ : Hall) (d : Day) : Option Bool :=
  if ((decide (¬(List.length d.At : Int) = (List.length h_.Trains : Int))) || (decide (¬(List.length d.People : Int) = (List.length h_.Trains : Int)))) || (decide (¬(List.length d.Walks : Int) = (List.length h_.Combs : Int))) then
    some false
  else
    (b07 (c0l h_ d) (0)).bind fun
      | (.inl ()) => c5r h_ d
      | (.inr r') => some r'
def c7p (O : Orac) : Prop := ∀ (h_ : Hall) (d : Day) (r : Bool) (hm0 : b8y h_ d = some r), Fn O "newel/halls.isDay" [.agg [.fs 5 (List.map b0n h_.Combs), .fs 3 (List.map b0k h_.Trains), .fs 3 (List.map b0s h_.Shifts), I h_.Until], .agg [.fs 1 (List.map eI d.At), .fs 1 (List.map b0o d.People), .fs 1 (List.map b0o d.Walks)]] (B r)
noncomputable def c89 (rows_7_2 : List (List Int)) : Option ((List (List Int)) × Int) :=
  some (rows_7_2, 0)
noncomputable def c5f (x_101 : Int) (rows_7_3 : List (List Int)) : Option (Out ((List (List Int)) × Int) (((List (List Int))))) :=
  some (.nx (rows_7_3, wr (x_101 + 1)))
noncomputable def c0e (x_108 : Int) (rows_7_4 : List (List Int)) : Option (Out ((List (List Int)) × Int) (((List (List Int))))) :=
  some (.nx (rows_7_4, wr (x_108 + 1)))
noncomputable def c0f (h_ : Hall) (d : Day) (x_101 : Int) (x_108 : Int) (x34 : Int) (x38 : Int) (rows_7_4 : List (List Int)) : Option (Out ((List (List Int)) × Int) (((List (List Int))))) :=
  (get d.Walks x_108).bind fun x44 =>
  (rem x_101 (List.length x44 : Int)).bind fun q45 =>
  (get x44 q45).bind fun x46 =>
  (get h_.Combs x_108).bind fun x48 =>
  if (decide (0 ≤ x48.Next)) && (decide ((wr (x_101 + x46)) < h_.Until)) then
    (get rows_7_4 (wr (x_101 + x46))).bind fun x53 =>
    (get x53 x48.Next).bind fun x54 =>
    c0e x_108 (List.set rows_7_4 (Int.toNat (wr (x_101 + x46))) (List.set x53 (Int.toNat x48.Next) (wr (x54 + (mn x34 x38)))))
  else
    c0e x_108 rows_7_4
noncomputable def c0d (h_ : Hall) (d : Day) (open_12 : List (List Int)) (x_101 : Int) (x25 : List Int) : ((List (List Int)) × Int) → Option (Out ((List (List Int)) × Int) (((List (List Int)))))
  | (rows_7_3, x_108) =>
    if decide (x_108 < (List.length x25 : Int)) then
      (get rows_7_3 x_101).bind fun x33 =>
      (get x33 x_108).bind fun x34 =>
      (get open_12 x_108).bind fun x37 =>
      (get x37 x_101).bind fun x38 =>
      if decide ((wr (x_101 + 1)) < h_.Until) then
        (get rows_7_3 (wr (x_101 + 1))).bind fun x58 =>
        (get x58 x_108).bind fun x59 =>
        c0f h_ d x_101 x_108 x34 x38 (List.set rows_7_3 (Int.toNat (wr (x_101 + 1))) (List.set x58 (Int.toNat x_108) (wr (x59 + (wr (x34 - (mn x34 x38)))))))
      else
        c0f h_ d x_101 x_108 x34 x38 rows_7_3
    else
      some (.br rows_7_3)
noncomputable def c2q (h_ : Hall) (d : Day) (rows_7_1 : List (List Int)) (open_12 : List (List Int)) : ((List (List Int)) × Int) → Option (Out ((List (List Int)) × Int) (((List (List Int)))))
  | (rows_7_2, x_101) =>
    if decide (x_101 < (List.length rows_7_1 : Int)) then
      (get rows_7_2 x_101).bind fun x25 =>
      (b07 (c0d h_ d open_12 x_101 x25) (rows_7_2, 0)).bind fun rows_7_3 =>
      c5f x_101 rows_7_3
    else
      some (.br rows_7_2)
noncomputable def c5e (h_ : Hall) (d : Day) (rows_7_1 : List (List Int)) (open_12 : List (List Int)) : Option ((List (List Int)) × Int) :=
  (b07 (c2q h_ d rows_7_1 open_12) (rows_7_1, 0)).bind fun rows_7_2 =>
  c89 rows_7_2
noncomputable def c2p (h_ : Hall) : ((List (List Int)) × Int) → Option (Out ((List (List Int)) × Int) (((List (List Int)))))
  | (open_12, x_89) =>
    if decide (x_89 < (List.length h_.Combs : Int)) then
      (b7x h_ x_89).bind fun y68 =>
      (get open_12 x_89).bind fun x69 =>
      some (.nx ((List.set open_12 (Int.toNat x_89) y68), wr (x_89 + 1)))
    else
      some (.br open_12)
noncomputable def c5d (h_ : Hall) (d : Day) (rows_7_1 : List (List Int)) : Option ((List (List Int)) × Int) :=
  (mks 24 (List.length h_.Combs : Int) ([] : List Int)).bind fun l14 =>
  (b07 (c2p h_) (l14, 0)).bind fun open_12 =>
  c5e h_ d rows_7_1 open_12
noncomputable def c5g (x_45 : Int) (rows_7_2 : List (List Int)) : Option (Out ((List (List Int)) × Int) (((List (List Int))))) :=
  some (.nx (rows_7_2, wr (x_45 + 1)))
noncomputable def c2o (d : Day) (x_45 : Int) (x77 : Train) : ((List (List Int)) × Int) → Option (Out ((List (List Int)) × Int) (((List (List Int)))))
  | (rows_7_2, x_53) =>
    if decide (x_53 < (List.length x77.Crowds : Int)) then
      (get x77.Crowds x_53).bind fun x83 =>
      (get d.At x_45).bind fun x89 =>
      (get rows_7_2 x89).bind fun x90 =>
      (get x90 x83.Comb).bind fun x91 =>
      (get d.People x_45).bind fun x92 =>
      (get x92 x_53).bind fun x93 =>
      some (.nx ((List.set rows_7_2 (Int.toNat x89) (List.set x90 (Int.toNat x83.Comb) (wr (x91 + x93)))), wr (x_53 + 1)))
    else
      some (.br rows_7_2)
noncomputable def c0c (h_ : Hall) (d : Day) : ((List (List Int)) × Int) → Option (Out ((List (List Int)) × Int) (((List (List Int)))))
  | (rows_7_1, x_45) =>
    if decide (x_45 < (List.length h_.Trains : Int)) then
      (get h_.Trains x_45).bind fun x77 =>
      (b07 (c2o d x_45 x77) (rows_7_1, 0)).bind fun rows_7_2 =>
      c5g x_45 rows_7_2
    else
      some (.br rows_7_1)
noncomputable def c5c (h_ : Hall) (d : Day) (rows_7 : List (List Int)) : Option ((List (List Int)) × Int) :=
  (b07 (c0c h_ d) (rows_7, 0)).bind fun rows_7_1 =>
  c5d h_ d rows_7_1
noncomputable def c2n (h_ : Hall) : ((List (List Int)) × Int) → Option (Out ((List (List Int)) × Int) (((List (List Int)))))
  | (rows_7, x_32) =>
    if decide (x_32 < h_.Until) then
      (mks 8 (List.length h_.Combs : Int) 0).bind fun l102 =>
      (ap 24 rows_7 ([l102])).bind fun l103 =>
      some (.nx (l103, wr (x_32 + 1)))
    else
      some (.br rows_7)
noncomputable def c2m (h_ : Hall) (d : Day) : Option ((List (List Int)) × Int) :=
  (b4s h_).bind fun y2 =>
  if decide (¬y2 = 0) then
    some ([], y2)
  else
    (b8y h_ d).bind fun y6 =>
    if !y6 then
      some ([], 61)
    else
      (b07 (c2n h_) ([], 0)).bind fun rows_7 =>
      c5c h_ d rows_7
def c7j (O : Orac) : Prop := ∀ (h_ : Hall) (d : Day) (r : (List (List Int)) × Int) (hm0 : c2m h_ d = some r), Fn O "newel/halls.Play" [.agg [.fs 5 (List.map b0n h_.Combs), .fs 3 (List.map b0k h_.Trains), .fs 3 (List.map b0s h_.Shifts), I h_.Until], .agg [.fs 1 (List.map eI d.At), .fs 1 (List.map b0o d.People), .fs 1 (List.map b0o d.Walks)]] (.tup [.fs 1 (List.map b0o r.1), I r.2])
noncomputable def d14 : Option Bool :=
  some true
noncomputable def c6q (i_8 : Int) : Option (Out Int (Unit ⊕ Bool)) :=
  some (.nx (wr (i_8 + 1)))
noncomputable def b8b (h_ : Hall) (d : Day) (i_8 : Int) : Int → Option (Out Int (Unit ⊕ Bool))
  | k_9 =>
    (get d.Walks i_8).bind fun x20 =>
    if decide (k_9 < (List.length x20 : Int)) then
      (get x20 k_9).bind fun x26 =>
      (get h_.Combs i_8).bind fun x27 =>
      if !(b2h x26 x27.Walk.Low x27.Walk.High) then
        some (.br (.inr false))
      else
        some (.nx (wr (k_9 + 1)))
    else
      some (.br (.inl ()))
noncomputable def c1e (h_ : Hall) (d : Day) : Int → Option (Out Int (Unit ⊕ Bool))
  | i_8 =>
    if decide (i_8 < (List.length h_.Combs : Int)) then
      (get d.Walks i_8).bind fun x15 =>
      if !(b2h (List.length x15 : Int) 1 20) then
        some (.br (.inr false))
      else
        (b07 (b8b h_ d i_8) (0)).bind fun
          | (.inl ()) => c6q i_8
          | (.inr r') => some (.br (.inr r'))
    else
      some (.br (.inl ()))
noncomputable def c6s (h_ : Hall) (d : Day) : Option Bool :=
  (b07 (c1e h_ d) (0)).bind fun
    | (.inl ()) => d14
    | (.inr r') => some r'
noncomputable def c6r (i_5 : Int) : Option (Out Int (Unit ⊕ Bool)) :=
  some (.nx (wr (i_5 + 1)))
noncomputable def b8a (d : Day) (i_5 : Int) (x37 : Train) : Int → Option (Out Int (Unit ⊕ Bool))
  | k_7 =>
    if decide (k_7 < (List.length x37.Crowds : Int)) then
      (get d.People i_5).bind fun x54 =>
      (get x54 k_7).bind fun x55 =>
      (get x37.Crowds k_7).bind fun x56 =>
      if !(b2h x55 x56.People.Low x56.People.High) then
        some (.br (.inr false))
      else
        some (.nx (wr (k_7 + 1)))
    else
      some (.br (.inl ()))
noncomputable def c1d (h_ : Hall) (d : Day) : Int → Option (Out Int (Unit ⊕ Bool))
  | i_5 =>
    if decide (i_5 < (List.length h_.Trains : Int)) then
      (get h_.Trains i_5).bind fun x37 =>
      (get d.At i_5).bind fun x41 =>
      (if !(b2h x41 x37.At.Low x37.At.High) then some true else (get d.People i_5).bind fun x42 =>
      some (decide (¬(List.length x42 : Int) = (List.length x37.Crowds : Int)))).bind fun c43 =>
      if c43 then
        some (.br (.inr false))
      else
        (b07 (b8a d i_5 x37) (0)).bind fun
          | (.inl ()) => c6r i_5
          | (.inr r') => some (.br (.inr r'))
    else
      some (.br (.inl ()))
noncomputable def c1c (h_ : Hall) (d : Day) : Option Bool :=
  if ((decide (¬(List.length d.At : Int) = (List.length h_.Trains : Int))) || (decide (¬(List.length d.People : Int) = (List.length h_.Trains : Int)))) || (decide (¬(List.length d.Walks : Int) = (List.length h_.Combs : Int))) then
    some false
  else
    (b07 (c1d h_ d) (0)).bind fun
      | (.inl ()) => c6s h_ d
      | (.inr r') => some r'
def c70 (O : Orac) : Prop := ∀ (h_ : Hall) (d : Day) (r : Bool) (hm0 : c1c h_ d = some r), Fn O "newel/newelref06.Fits" [.agg [.fs 5 (List.map b0n h_.Combs), .fs 3 (List.map b0k h_.Trains), .fs 3 (List.map b0s h_.Shifts), I h_.Until], .agg [.fs 1 (List.map eI d.At), .fs 1 (List.map b0o d.People), .fs 1 (List.map b0o d.Walks)]] (B r)
noncomputable def c3f (h_ : Hall) (comb : Int) (tick : Int) : Option Bool :=
  (b89 h_).bind fun y4 =>
  (if y4 then some true else (b5g h_).bind fun y5 =>
  some (decide (¬y5 = 0))).bind fun c6 =>
  if (((c6 || (decide (comb < 0))) || (decide ((List.length h_.Combs : Int) ≤ comb))) || (decide (tick < 0))) || (decide (h_.Until ≤ tick)) then
    (b6z).bind fun y15 =>
    some y15
  else
    (c0g h_ comb tick).bind fun y17 =>
    (c1a h_ comb).bind fun y19 =>
    if !y19 then
      (if decide (y17.2 = 3) then (b6z).bind fun y24 =>
      some y24 else some false).bind fun c25 =>
      some c25
    else
      (c2k h_ comb).bind fun y28 =>
      (if (decide (¬y17.2 = 0)) || (decide (¬y28.2 = 0)) then some true else (c01 y17.1).bind fun y33 =>
      some y33).bind fun c34 =>
      (if c34 then some true else (c1c h_ y17.1).bind fun y35 =>
      some (!y35)).bind fun c36 =>
      if c36 || (decide (¬(List.length y28.1 : Int) = h_.Until)) then
        some false
      else
        (c2m h_ y17.1).bind fun y44 =>
        (if (decide (y44.2 = 0)) && (decide ((List.length y44.1 : Int) = h_.Until)) then (get y44.1 tick).bind fun x53 =>
        some (decide ((List.length x53 : Int) = (List.length h_.Combs : Int))) else some false).bind fun c54 =>
        (if c54 then (get y44.1 tick).bind fun x55 =>
        (get x55 comb).bind fun x56 =>
        (get y28.1 tick).bind fun x57 =>
        some (decide (x56 = x57)) else some false).bind fun c58 =>
        (if c58 then (b6z).bind fun y59 =>
        some y59 else some false).bind fun c60 =>
        some c60
def d21 (O : Orac) : Prop := ∀ (h_ : Hall) (comb : Int) (tick : Int) (r : Bool) (hm0 : c3f h_ comb tick = some r), Fn O "newel/newellaw06.HallsReached" [.agg [.fs 5 (List.map b0n h_.Combs), .fs 3 (List.map b0k h_.Trains), .fs 3 (List.map b0s h_.Shifts), I h_.Until], I comb, I tick] (B r)
end Go.Nw.HM
