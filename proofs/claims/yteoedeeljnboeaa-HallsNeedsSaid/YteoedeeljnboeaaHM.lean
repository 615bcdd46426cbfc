/- Models of functions: printed by gen.py. -/
import Derived.Test.YteoedeeljnboeaaNwWcall
import Derived.Test.YteoedeeljnboeaaNwHallsSrc
set_option linter.all false
set_option linter.unusedVariables false
set_option linter.unusedSimpArgs false
set_option linter.unusedSectionVars false
namespace Go.Nw.HM
open Go.Nw.Halls
set_option linter.unusedSimpArgs false
set_option linter.unusedVariables false
set_option maxHeartbeats 4000000
theorem lA9 {α : Type} {l m : List α} : (l ++ m).length = l.length + m.length := List.length_append
theorem mA9 {α β : Type} {f : α → β} {l m : List α} : List.map f (l ++ m) = List.map f l ++ List.map f m := List.map_append
theorem oF9 {a b : Bool} : (a || b) = false ↔ a = false ∧ b = false := Bool.or_eq_false_iff
theorem nF9 : (¬False) = True := not_false_eq_true
theorem bF9 {α : Type} [BEq α] [LawfulBEq α] {a b : α} : (a == b) = false ↔ a ≠ b := beq_eq_false_iff_ne
theorem sI9 {α : Type} {a b : α} (h : some a = some b) : a = b := Option.some.inj h
variable {O : Orac}
structure Span where
  Low : Int
  High : Int
  deriving Inhabited, DecidableEq
structure Comb where
  Rate : Int
  Limit : Int
  Next : Int
  Walk : Span
  deriving Inhabited, DecidableEq
structure Crowd where
  Comb : Int
  People : Span
  deriving Inhabited, DecidableEq
structure Train where
  At : Span
  Crowds : List Crowd
  deriving Inhabited, DecidableEq
structure Shift where
  At : Int
  Comb : Int
  Rate : Int
  deriving Inhabited, DecidableEq
structure Hall where
  Combs : List Comb
  Trains : List Train
  Shifts : List Shift
  Until : Int
  deriving Inhabited, DecidableEq
@[go_sem] def b0q (x : Comb) : List AV := [I x.Rate, I x.Limit, I x.Next, I x.Walk.Low, I x.Walk.High]
theorem b2n (x : Comb) : ∀ c ∈ b0q x, Frz c := (b0f (b0k _) (b0f (b0k _) (b0f (b0k _) (b0f (b0k _) (b0f (b0k _) b03)))))
theorem d8s (x : Comb) : (b0q x).length = 5 := rfl
@[go_sem] theorem m2a {l : List Comb} {n : Nat} {a0 : Int} {a1 : Int} {a2 : Int} {a3 : Int} {a4 : Int} : (List.map b0q l).set n [I a0, I a1, I a2, I a3, I a4] = List.map b0q (l.set n (Comb.mk a0 a1 a2 (Span.mk a3 a4))) := by rw [List.map_set]; rfl
@[go_sem] def b21 (x : Crowd) : List AV := [I x.Comb, I x.People.Low, I x.People.High]
theorem c25 (x : Crowd) : ∀ c ∈ b21 x, Frz c := (b0f (b0k _) (b0f (b0k _) (b0f (b0k _) b03)))
theorem d8t (x : Crowd) : (b21 x).length = 3 := rfl
@[go_sem] theorem m2b {l : List Crowd} {n : Nat} {a0 : Int} {a1 : Int} {a2 : Int} : (List.map b21 l).set n [I a0, I a1, I a2] = List.map b21 (l.set n (Crowd.mk a0 (Span.mk a1 a2))) := by rw [List.map_set]; rfl
@[go_sem] def b0p (x : Train) : List AV := [I x.At.Low, I x.At.High, .fs 3 (List.map b21 x.Crowds)]
theorem b2m (x : Train) : ∀ c ∈ b0p x, Frz c := (b0f (b0k _) (b0f (b0k _) (b0f (b0y fun a _ => c25 a) b03)))
theorem j2a (x : Train) : (b0p x).length = 3 := rfl
@[go_sem] theorem m2f {l : List Train} {n : Nat} {a0 : Int} {a1 : Int} {a2 : List Crowd} : (List.map b0p l).set n [I a0, I a1, .fs 3 (List.map b21 a2)] = List.map b0p (l.set n (Train.mk (Span.mk a0 a1) a2)) := by rw [List.map_set]; rfl
@[go_sem] def b0o (x : Shift) : List AV := [I x.At, I x.Comb, I x.Rate]
theorem b2q (x : Shift) : ∀ c ∈ b0o x, Frz c := (b0f (b0k _) (b0f (b0k _) (b0f (b0k _) b03)))
theorem d8u (x : Shift) : (b0o x).length = 3 := rfl
@[go_sem] theorem m2e {l : List Shift} {n : Nat} {a0 : Int} {a1 : Int} {a2 : Int} : (List.map b0o l).set n [I a0, I a1, I a2] = List.map b0o (l.set n (Shift.mk a0 a1 a2)) := by rw [List.map_set]; rfl
noncomputable def d1n : Option Bool :=
  some false
noncomputable def c1b (h_ : Hall) : Int → Option (Out Int (Unit ⊕ Bool))
  | i_3 =>
    if decide (i_3 < (List.length h_.Trains : Int)) then
      (get h_.Trains i_3).bind fun x14 =>
      if decide (10 < (List.length x14.Crowds : Int)) then
        some (.br (.inr true))
      else
        some (.nx (wr (i_3 + 1)))
    else
      some (.br (.inl ()))
noncomputable def c3v (h_ : Hall) : Option Bool :=
  if (((decide (12 < (List.length h_.Combs : Int))) || (decide (20 < (List.length h_.Trains : Int)))) || (decide (40 < (List.length h_.Shifts : Int)))) || ((decide (40 < h_.Until)) && (decide (h_.Until ≤ 100))) then
    some true
  else
    (b02 (c1b h_) (0)).bind fun
      | (.inl ()) => d1n
      | (.inr r') => some r'
def c8d (O : Orac) : Prop := ∀ (h_ : Hall) (r : Bool) (hm0 : c3v h_ = some r), Fn O "newel/newellaw06.Far" [.agg [.fs 5 (List.map b0q h_.Combs), .fs 3 (List.map b0p h_.Trains), .fs 3 (List.map b0o h_.Shifts), I h_.Until]] (B r)
noncomputable def b2y (n : Int) (low : Int) (high : Int) : Bool :=
  (decide (low ≤ n)) && (decide (n ≤ high))
def c2e (O : Orac) : Prop := ∀ (n : Int) (low : Int) (high : Int), Fn O "newel/newelref06.within" [I n, I low, I high] (B (b2y n low high))
noncomputable def b4v (s : Span) (low : Int) (high : Int) : Bool :=
  ((decide (low ≤ s.Low)) && (decide (s.Low ≤ s.High))) && (decide (s.High ≤ high))
def c8l (O : Orac) : Prop := ∀ (s : Span) (low : Int) (high : Int), Fn O "newel/newelref06.spanned" [.agg [I s.Low, I s.High], I low, I high] (B (b4v s low high))
noncomputable def d2c : Option Int :=
  some 0
noncomputable def c1w (h_ : Hall) : Int → Option (Out Int (Unit ⊕ Int))
  | i_10 =>
    if decide (i_10 < (List.length h_.Shifts : Int)) then
      (get h_.Shifts i_10).bind fun x17 =>
      (if ((!(b2y x17.At 0 (wr (h_.Until - 1)))) || (!(b2y x17.Comb 0 (wr ((List.length h_.Combs : Int) - 1))))) || (!(b2y x17.Rate 0 1000)) then some true else (if decide (0 < i_10) then (get h_.Shifts (wr (i_10 - 1))).bind fun x21 =>
      some (decide (x17.At < x21.At)) else some false).bind fun c22 =>
      some c22).bind fun c23 =>
      if c23 then
        some (.br (.inr 60))
      else
        some (.nx (wr (i_10 + 1)))
    else
      some (.br (.inl ()))
noncomputable def c7d (h_ : Hall) : Option Int :=
  (b02 (c1w h_) (0)).bind fun
    | (.inl ()) => d2c
    | (.inr r') => some r'
noncomputable def c7b (i_6 : Int) : Option (Out Int (Unit ⊕ Int)) :=
  some (.nx (wr (i_6 + 1)))
noncomputable def b8g (h_ : Hall) (x36 : Train) : (Int × Int) → Option (Out (Int × Int) (Unit ⊕ Int))
  | (last_8, k_9) =>
    if decide (k_9 < (List.length x36.Crowds : Int)) then
      (get x36.Crowds k_9).bind fun x45 =>
      if (!(b2y x45.Comb (wr (last_8 + 1)) (wr ((List.length h_.Combs : Int) - 1)))) || (!(b4v x45.People 0 1000)) then
        some (.br (.inr 60))
      else
        some (.nx (x45.Comb, wr (k_9 + 1)))
    else
      some (.br (.inl ()))
noncomputable def c1v (h_ : Hall) : Int → Option (Out Int (Unit ⊕ Int))
  | i_6 =>
    if decide (i_6 < (List.length h_.Trains : Int)) then
      (get h_.Trains i_6).bind fun x36 =>
      if (!(b4v x36.At 0 (wr (h_.Until - 1)))) || (decide (4 < (List.length x36.Crowds : Int))) then
        some (.br (.inr 60))
      else
        (b02 (b8g h_ x36) ((-1), 0)).bind fun
          | (.inl ()) => c7b i_6
          | (.inr r') => some (.br (.inr r'))
    else
      some (.br (.inl ()))
noncomputable def c7c (h_ : Hall) : Option Int :=
  (b02 (c1v h_) (0)).bind fun
    | (.inl ()) => c7d h_
    | (.inr r') => some r'
noncomputable def c1u (h_ : Hall) : Int → Option (Out Int (Unit ⊕ Int))
  | i_4 =>
    if decide (i_4 < (List.length h_.Combs : Int)) then
      (get h_.Combs i_4).bind fun x56 =>
      if (((!(b2y x56.Rate 0 1000)) || (!(b2y x56.Limit 0 100000))) || ((decide (¬x56.Next = (-1))) && (!(b2y x56.Next (wr (i_4 + 1)) (wr ((List.length h_.Combs : Int) - 1)))))) || (!(b4v x56.Walk 1 20)) then
        some (.br (.inr 60))
      else
        some (.nx (wr (i_4 + 1)))
    else
      some (.br (.inl ()))
noncomputable def b5z (h_ : Hall) : Option Int :=
  if (((!(b2y h_.Until 1 100)) || (!(b2y (List.length h_.Combs : Int) 1 8))) || (decide (12 < (List.length h_.Trains : Int)))) || (decide (20 < (List.length h_.Shifts : Int))) then
    some 60
  else
    (b02 (c1u h_) (0)).bind fun
      | (.inl ()) => c7c h_
      | (.inr r') => some r'
def c40 (O : Orac) : Prop := ∀ (h_ : Hall) (r : Int) (hm0 : b5z h_ = some r), Fn O "newel/newelref06.Check" [.agg [.fs 5 (List.map b0q h_.Combs), .fs 3 (List.map b0p h_.Trains), .fs 3 (List.map b0o h_.Shifts), I h_.Until]] (I r)
noncomputable def l06_Example : Hall :=
  (Hall.mk ([(Comb.mk 3 12 1 (Span.mk 2 3)), (Comb.mk 2 10 (-1) (Span.mk 1 1))]) ([(Train.mk (Span.mk 2 4) ([(Crowd.mk 0 (Span.mk 6 10))])), (Train.mk (Span.mk 5 5) ([(Crowd.mk 0 (Span.mk 0 4)), (Crowd.mk 1 (Span.mk 3 3))]))]) ([]) 20)
def c8c (O : Orac) : Prop := ∀ (_ : Unit), Fn O "newel/newellaw06.Example" [] (.agg [.fs 5 (List.map b0q ((l06_Example).Combs)), .fs 3 (List.map b0p ((l06_Example).Trains)), .fs 3 (List.map b0o ((l06_Example).Shifts)), I ((l06_Example).Until)])
noncomputable def b4s (n : Int) (s : Span) : Bool :=
  (decide (s.Low ≤ n)) && (decide (n ≤ s.High))
def c4w (O : Orac) : Prop := ∀ (n : Int) (s : Span), Fn O "newel/halls.in" [I n, .agg [I s.Low, I s.High]] (B (b4s n s))
noncomputable def b43 (s : Span) (low : Int) (high : Int) : Bool :=
  ((decide (low ≤ s.Low)) && (decide (s.Low ≤ s.High))) && (decide (s.High ≤ high))
def c4y (O : Orac) : Prop := ∀ (s : Span) (low : Int) (high : Int), Fn O "newel/halls.span" [.agg [I s.Low, I s.High], I low, I high] (B (b43 s low high))
noncomputable def b85 (h_ : Hall) (i : Int) : Option Bool :=
  (get h_.Combs i).bind fun x2 =>
  some ((((b4s x2.Rate (Span.mk 0 1000)) && (b4s x2.Limit (Span.mk 0 100000))) && ((decide (x2.Next = (-1))) || ((decide (i < x2.Next)) && (decide (x2.Next < (List.length h_.Combs : Int)))))) && (b43 x2.Walk 1 20))
def c78 (O : Orac) : Prop := ∀ (h_ : Hall) (i : Int) (r : Bool) (hm0 : b85 h_ i = some r), Fn O "newel/halls.isComb" [.agg [.fs 5 (List.map b0q h_.Combs), .fs 3 (List.map b0p h_.Trains), .fs 3 (List.map b0o h_.Shifts), I h_.Until], I i] (B r)
noncomputable def c01 (h_ : Hall) (t_ : Train) : Option Bool :=
  some ((b43 t_.At 0 (wr (h_.Until - 1))) && (decide ((List.length t_.Crowds : Int) ≤ 4)))
noncomputable def b6w (h_ : Hall) (t_ : Train) : (Int × Int) → Option (Out (Int × Int) (Unit ⊕ Bool))
  | (last_5, x_11) =>
    if decide (x_11 < (List.length t_.Crowds : Int)) then
      (get t_.Crowds x_11).bind fun x9 =>
      if ((decide (x9.Comb ≤ last_5)) || (decide ((List.length h_.Combs : Int) ≤ x9.Comb))) || (!(b43 x9.People 0 1000)) then
        some (.br (.inr false))
      else
        some (.nx (x9.Comb, wr (x_11 + 1)))
    else
      some (.br (.inl ()))
noncomputable def b86 (h_ : Hall) (t_ : Train) : Option Bool :=
  (b02 (b6w h_ t_) ((-1), 0)).bind fun
    | (.inl ()) => c01 h_ t_
    | (.inr r') => some r'
def c79 (O : Orac) : Prop := ∀ (h_ : Hall) (t_ : Train) (r : Bool) (hm0 : b86 h_ t_ = some r), Fn O "newel/halls.isTrain" [.agg [.fs 5 (List.map b0q h_.Combs), .fs 3 (List.map b0p h_.Trains), .fs 3 (List.map b0o h_.Shifts), I h_.Until], .agg [I t_.At.Low, I t_.At.High, .fs 3 (List.map b21 t_.Crowds)]] (B r)
noncomputable def b7r (t_ : Train) (c0 : Hall) : Option Bool :=
  (b86 c0 t_).bind fun y2 =>
  some (!y2)
def c73 (O : Orac) : Prop := ∀ (t_ : Train) (c0 : Hall) (r : Bool) (hm0 : b7r t_ c0 = some r), Fn O "newel/halls.Check$1" [.agg [I t_.At.Low, I t_.At.High, .fs 3 (List.map b21 t_.Crowds)], .fp [.fs 5 (List.map b0q c0.Combs), .fs 3 (List.map b0p c0.Trains), .fs 3 (List.map b0o c0.Shifts), I c0.Until] 0] (B r)
noncomputable def c4m : Option Int :=
  some (-1)
noncomputable def c7r (s : List Train) (f : Train → Option Bool) : Int → Option (Out Int (Unit ⊕ Int))
  | x_8 =>
    if decide (x_8 < (List.length s : Int)) then
      (get s x_8).bind fun x9 =>
      (f x9).bind fun y10 =>
      if y10 then
        some (.br (.inr x_8))
      else
        some (.nx (wr (x_8 + 1)))
    else
      some (.br (.inl ()))
noncomputable def c4l (s : List Train) (f : Train → Option Bool) : Option Int :=
  (b02 (c7r s f) (0)).bind fun
    | (.inl ()) => c4m
    | (.inr r') => some r'
def c8o (O : Orac) : Prop := ∀ (s : List Train) (f_n : String) (f_a f_b : List AV) (f : Train → Option Bool) (f_z : Frz (.fn f_n f_a f_b)) (f_h : ∀ z0 y, f z0 = some y → Fn O f_n (f_a ++ [.agg [I z0.At.Low, I z0.At.High, .fs 3 (List.map b21 z0.Crowds)]] ++ f_b) (B y)) (r : Int) (hm0 : c4l s f = some r), Fn O "slices.IndexFunc[[]newel/api.Train,newel/api.Train]" [.fs 3 (List.map b0p s), .fn f_n f_a f_b] (I r)
noncomputable def c19 (s : List Train) (f : Train → Option Bool) : Option Bool :=
  (c4l s f).bind fun y2 =>
  some (decide (0 ≤ y2))
def c8m (O : Orac) : Prop := ∀ (s : List Train) (f_n : String) (f_a f_b : List AV) (f : Train → Option Bool) (f_z : Frz (.fn f_n f_a f_b)) (f_h : ∀ z0 y, f z0 = some y → Fn O f_n (f_a ++ [.agg [I z0.At.Low, I z0.At.High, .fs 3 (List.map b21 z0.Crowds)]] ++ f_b) (B y)) (r : Bool) (hm0 : c19 s f = some r), Fn O "slices.ContainsFunc[[]newel/api.Train,newel/api.Train]" [.fs 3 (List.map b0p s), .fn f_n f_a f_b] (B r)
noncomputable def c27 : Option Int :=
  some 0
noncomputable def b7s (h_ : Hall) : Int → Option (Out Int (Unit ⊕ Int))
  | x_56 =>
    if decide (x_56 < (List.length h_.Shifts : Int)) then
      (get h_.Shifts x_56).bind fun x23 =>
      (if (decide (x23.At < 0)) || (decide (h_.Until ≤ x23.At)) then some true else (if decide (0 < x_56) then (get h_.Shifts (wr (x_56 - 1))).bind fun x27 =>
      some (decide (x23.At < x27.At)) else some false).bind fun c28 =>
      some c28).bind fun c29 =>
      if ((c29 || (decide (x23.Comb < 0))) || (decide ((List.length h_.Combs : Int) ≤ x23.Comb))) || (!(b4s x23.Rate (Span.mk 0 1000))) then
        some (.br (.inr 60))
      else
        some (.nx (wr (x_56 + 1)))
    else
      some (.br (.inl ()))
noncomputable def c0q (h_ : Hall) : Option Int :=
  (c19 h_.Trains (fun z12 => b7r z12 h_)).bind fun y13 =>
  if y13 then
    some 60
  else
    (b02 (b7s h_) (0)).bind fun
      | (.inl ()) => c27
      | (.inr r') => some r'
noncomputable def b7t (h_ : Hall) : Int → Option (Out Int (Unit ⊕ Int))
  | x_41 =>
    if decide (x_41 < (List.length h_.Combs : Int)) then
      (b85 h_ x_41).bind fun y45 =>
      if !y45 then
        some (.br (.inr 60))
      else
        some (.nx (wr (x_41 + 1)))
    else
      some (.br (.inl ()))
noncomputable def b5l (h_ : Hall) : Option Int :=
  if (((((decide (h_.Until < 1)) || (decide (100 < h_.Until))) || (decide ((List.length h_.Combs : Int) < 1))) || (decide (8 < (List.length h_.Combs : Int)))) || (decide (12 < (List.length h_.Trains : Int)))) || (decide (20 < (List.length h_.Shifts : Int))) then
    some 60
  else
    (b02 (b7t h_) (0)).bind fun
      | (.inl ()) => c0q h_
      | (.inr r') => some r'
def c4t (O : Orac) : Prop := ∀ (h_ : Hall) (r : Int) (hm0 : b5l h_ = some r), Fn O "newel/halls.Check" [.agg [.fs 5 (List.map b0q h_.Combs), .fs 3 (List.map b0p h_.Trains), .fs 3 (List.map b0o h_.Shifts), I h_.Until]] (I r)
noncomputable def b7a (t_ : Int) (c0 : Hall) : Bool :=
  (decide (t_ < 0)) || (decide (c0.Until ≤ t_))
def c77 (O : Orac) : Prop := ∀ (t_ : Int) (c0 : Hall), Fn O "newel/halls.check$1" [I t_, .fp [.fs 5 (List.map b0q c0.Combs), .fs 3 (List.map b0p c0.Trains), .fs 3 (List.map b0o c0.Shifts), I c0.Until] 0] (B (b7a t_ c0))
noncomputable def c4n : Option Int :=
  some (-1)
noncomputable def c7s (s : List Int) (f : Int → Option Bool) : Int → Option (Out Int (Unit ⊕ Int))
  | x_8 =>
    if decide (x_8 < (List.length s : Int)) then
      (get s x_8).bind fun x9 =>
      (f x9).bind fun y10 =>
      if y10 then
        some (.br (.inr x_8))
      else
        some (.nx (wr (x_8 + 1)))
    else
      some (.br (.inl ()))
noncomputable def b9y (s : List Int) (f : Int → Option Bool) : Option Int :=
  (b02 (c7s s f) (0)).bind fun
    | (.inl ()) => c4n
    | (.inr r') => some r'
def c43 (O : Orac) : Prop := ∀ (s : List Int) (f_n : String) (f_a f_b : List AV) (f : Int → Option Bool) (f_z : Frz (.fn f_n f_a f_b)) (f_h : ∀ z0 y, f z0 = some y → Fn O f_n (f_a ++ [I z0] ++ f_b) (B y)) (r : Int) (hm0 : b9y s f = some r), Fn O "slices.IndexFunc[[]int,int]" [.fs 1 (List.map eI s), .fn f_n f_a f_b] (I r)
noncomputable def c2a (s : List Int) (f : Int → Option Bool) : Option Bool :=
  (b9y s f).bind fun y2 =>
  some (decide (0 ≤ y2))
def c8n (O : Orac) : Prop := ∀ (s : List Int) (f_n : String) (f_a f_b : List AV) (f : Int → Option Bool) (f_z : Frz (.fn f_n f_a f_b)) (f_h : ∀ z0 y, f z0 = some y → Fn O f_n (f_a ++ [I z0] ++ f_b) (B y)) (r : Bool) (hm0 : c2a s f = some r), Fn O "slices.ContainsFunc[[]int,int]" [.fs 1 (List.map eI s), .fn f_n f_a f_b] (B r)
noncomputable def b6f (h_ : Hall) (comb : Int) (ticks : List Int) : Option Int :=
  (b5l h_).bind fun y2 =>
  if decide (¬y2 = 0) then
    some y2
  else
    (if (decide (comb < 0)) || (decide ((List.length h_.Combs : Int) ≤ comb)) then some true else (c2a ticks (fun z8 => some (b7a z8 h_))).bind fun y9 =>
    some y9).bind fun c10 =>
    if c10 then
      some 1
    else
      some 0
def c4v (O : Orac) : Prop := ∀ (h_ : Hall) (comb : Int) (ticks : List Int) (r : Int) (hm0 : b6f h_ comb ticks = some r), Fn O "newel/halls.check" [.agg [.fs 5 (List.map b0q h_.Combs), .fs 3 (List.map b0p h_.Trains), .fs 3 (List.map b0o h_.Shifts), I h_.Until], I comb, .fs 1 (List.map eI ticks)] (I r)
noncomputable def c3g (out_5 : List Int) : Option (List Int) :=
  some out_5
noncomputable def c02 (x_20 : Int) (out_5_1 : List Int) (now_6_1 : Int) (at_7_1 : Int) : Option (Out ((List Int) × Int × Int × Int) (((List Int)))) :=
  some (.nx (out_5_1, now_6_1, at_7_1, wr (x_20 + 1)))
noncomputable def c03 (out_5 : List Int) (x_20 : Int) (now_6_1 : Int) (at_7_1 : Int) : Option (Out ((List Int) × Int × Int × Int) (((List Int)))) :=
  (get out_5 x_20).bind fun x15 =>
  c02 x_20 (List.set out_5 (Int.toNat x_20) now_6_1) now_6_1 at_7_1
noncomputable def b9c (at_7_1 : Int) (now_6_2 : Int) : Option (Out (Int × Int) ((Int × Int))) :=
  some (.nx (now_6_2, wr (at_7_1 + 1)))
noncomputable def b73 (h_ : Hall) (comb : Int) (x_20 : Int) : (Int × Int) → Option (Out (Int × Int) ((Int × Int)))
  | (now_6_1, at_7_1) =>
    (if decide (at_7_1 < (List.length h_.Shifts : Int)) then (get h_.Shifts at_7_1).bind fun x19 =>
    some (decide (x19.At ≤ x_20)) else some false).bind fun c20 =>
    if c20 then
      (get h_.Shifts at_7_1).bind fun x27 =>
      if decide (x27.Comb = comb) then
        b9c at_7_1 x27.Rate
      else
        b9c at_7_1 now_6_1
    else
      some (.br (now_6_1, at_7_1))
noncomputable def b9b (h_ : Hall) (comb : Int) (l2 : List Int) : ((List Int) × Int × Int × Int) → Option (Out ((List Int) × Int × Int × Int) (((List Int))))
  | (out_5, now_6, at_7, x_20) =>
    if decide (x_20 < ((List.length l2 : Nat) : Int)) then
      (b02 (b73 h_ comb x_20) (now_6, at_7)).bind fun
        | (now_6_1, at_7_1) => c03 out_5 x_20 now_6_1 at_7_1
    else
      some (.br out_5)
noncomputable def b9a (h_ : Hall) (comb : Int) : Option (List Int) :=
  (mks 8 h_.Until 0).bind fun l2 =>
  (get h_.Combs comb).bind fun x4 =>
  (b02 (b9b h_ comb l2) (l2, x4.Rate, 0, 0)).bind fun out_5 =>
  c3g out_5
def c8b (O : Orac) : Prop := ∀ (h_ : Hall) (comb : Int) (r : List Int) (hm0 : b9a h_ comb = some r), FnW O "newel/halls.rates" [.agg [.fs 5 (List.map b0q h_.Combs), .fs 3 (List.map b0p h_.Trains), .fs 3 (List.map b0o h_.Shifts), I h_.Until], I comb] 1 eI r
@[go_sem] def b00 (x : List Int) : List AV := [.fs 1 (List.map eI x)]
theorem b4y (x : List Int) : ∀ c ∈ b00 x, Frz c := (b0f (b0y fun a _ => b3f a) b03)
theorem c3y (x : List Int) : (b00 x).length = 1 := rfl
@[go_sem] theorem m2c {l : List (List Int)} {n : Nat} {a0 : List Int} : (List.map b00 l).set n [.fs 1 (List.map eI a0)] = List.map b00 (l.set n a0) := by rw [List.map_set]; rfl
noncomputable def c3e (out_2 : List (List Int)) : Option (List (List Int)) :=
  some out_2
noncomputable def b88 (h_ : Hall) : ((List (List Int)) × Int) → Option (Out ((List (List Int)) × Int) (((List (List Int)))))
  | (out_2, x_7) =>
    if decide (x_7 < (List.length h_.Combs : Int)) then
      (b9a h_ x_7).bind fun y9 =>
      (ap 24 out_2 ([y9])).bind fun l10 =>
      some (.nx (l10, wr (x_7 + 1)))
    else
      some (.br out_2)
noncomputable def b5y (h_ : Hall) : Option (List (List Int)) :=
  (b02 (b88 h_) ([], 0)).bind fun out_2 =>
  c3e out_2
def c2d (O : Orac) : Prop := ∀ (h_ : Hall) (h0 : Heap) (r : List (List Int)) (hm0 : b5y h_ = some r), b7m O "newel/halls.open" [.agg [.fs 5 (List.map b0q h_.Combs), .fs 3 (List.map b0p h_.Trains), .fs 3 (List.map b0o h_.Shifts), I h_.Until]] h0 (fun v h => ∃ hs, RR h v hs 1 eI r ∧ (∀ j, j < h0.nx → h.ob j = h0.ob j) ∧ h0.nx ≤ h.nx ∧ ∀ j, ¬b0d v hs j → h0.nx ≤ j)
noncomputable def c3c (sum_8 : Int) : Option Int :=
  some sum_8
noncomputable def b70 (x_16 : Int) (sum_8_1 : Int) : Option (Out (Int × Int) Int) :=
  some (.nx (sum_8_1, wr (x_16 + 1)))
noncomputable def b7z (x_35 : Int) (sum_8_2 : Int) : Option (Out (Int × Int) Int) :=
  some (.nx (sum_8_2, wr (x_35 + 1)))
noncomputable def b83 (comb : Int) (x9 : Train) : (Int × Int) → Option (Out (Int × Int) Int)
  | (sum_8_1, x_35) =>
    if decide (x_35 < (List.length x9.Crowds : Int)) then
      (get x9.Crowds x_35).bind fun x19 =>
      if decide (x19.Comb = comb) then
        b7z x_35 (wr (sum_8_1 + x19.People.High))
      else
        b7z x_35 sum_8_1
    else
      some (.br sum_8_1)
noncomputable def b84 (h_ : Hall) (comb : Int) (from_ : Int) (to_ : Int) : (Int × Int) → Option (Out (Int × Int) Int)
  | (sum_8, x_16) =>
    if decide (x_16 < (List.length h_.Trains : Int)) then
      (get h_.Trains x_16).bind fun x9 =>
      if (decide (x9.At.High < from_)) || (decide (to_ < x9.At.Low)) then
        b70 x_16 sum_8
      else
        (b02 (b83 comb x9) (sum_8, 0)).bind fun sum_8_1 =>
        b70 x_16 sum_8_1
    else
      some (.br sum_8)
noncomputable def b82 (h_ : Hall) (comb : Int) (from_ : Int) (to_ : Int) : Option Int :=
  (b02 (b84 h_ comb from_ to_) (0, 0)).bind fun sum_8 =>
  c3c sum_8
def c76 (O : Orac) : Prop := ∀ (h_ : Hall) (comb : Int) (from_ : Int) (to_ : Int) (r : Int) (hm0 : b82 h_ comb from_ to_ = some r), Fn O "newel/halls.brought" [.agg [.fs 5 (List.map b0q h_.Combs), .fs 3 (List.map b0p h_.Trains), .fs 3 (List.map b0o h_.Shifts), I h_.Until], I comb, I from_, I to_] (I r)
structure halls_bound where
  rates : List Int
  flow : List Int
  most : List Int
  come : List (List Int)
  deriving Inhabited, DecidableEq
noncomputable def b97 (least_7 : Int) : Option Int :=
  some least_7
noncomputable def b7k (b : halls_bound) (from_ : Int) (least_7 : Int) (k_8 : Int) (behind_9 : Int) : Option (Out (Int × Int) Int) :=
  (get b.flow k_8).bind fun x23 =>
  (get b.flow (mx from_ 0)).bind fun x24 =>
  (get b.most k_8).bind fun x25 =>
  some (.nx (mn least_7 (wr ((wr ((wr (x23 - x24)) + x25)) + behind_9)), wr (k_8 + 1)))
noncomputable def b8o (b : halls_bound) (from_ : Int) (to_ : Int) : (Int × Int) → Option (Out (Int × Int) Int)
  | (least_7, k_8) =>
    if decide (k_8 ≤ to_) then
      if decide (k_8 < to_) then
        (get b.come (wr (k_8 + 1))).bind fun x29 =>
        (get x29 to_).bind fun x30 =>
        b7k b from_ least_7 k_8 x30
      else
        b7k b from_ least_7 k_8 0
    else
      some (.br least_7)
noncomputable def b8n (b : halls_bound) (from_ : Int) (to_ : Int) : Option Int :=
  if (decide (to_ < from_)) || (decide (to_ < 0)) then
    some 0
  else
    (get b.come 0).bind fun x8 =>
    (get x8 to_).bind fun x9 =>
    (get b.flow (wr (to_ + 1))).bind fun x10 =>
    (get b.flow (mx from_ 0)).bind fun x11 =>
    (b02 (b8o b from_ to_) (mn x9 (wr (x10 - x11)), mx from_ 0)).bind fun least_7 =>
    b97 least_7
def c71 (O : Orac) : Prop := ∀ (b : halls_bound) (from_ : Int) (to_ : Int) (r : Int) (hm0 : b8n b from_ to_ = some r), Fn O "(*newel/halls.bound).passes" [.fp [.fs 1 (List.map eI b.rates), .fs 1 (List.map eI b.flow), .fs 1 (List.map eI b.most), .fs 1 (List.map b00 b.come)] 0, I from_, I to_] (I r)
@[go_sem] def b24 (x : halls_bound) : List AV := [.fp [.fs 1 (List.map eI x.rates), .fs 1 (List.map eI x.flow), .fs 1 (List.map eI x.most), .fs 1 (List.map b00 x.come)] 0]
theorem d4n (x : halls_bound) : ∀ c ∈ b24 x, Frz c := (b0f (.fp _ _ (b0f (b0y fun a _ => b3f a) (b0f (b0y fun a _ => b3f a) (b0f (b0y fun a _ => b3f a) (b0f (b0y fun a _ => b4y a) b03))))) b03)
theorem j19 (x : halls_bound) : (b24 x).length = 1 := rfl
noncomputable def c3b (all_5 : List halls_bound) : Option (List halls_bound) :=
  some all_5
noncomputable def c0y (x_19 : Int) (all_5_1 : List halls_bound) : Option (Out ((List halls_bound) × Int) (((List halls_bound)))) :=
  some (.nx (all_5_1, wr (x_19 + 1)))
noncomputable def c0t (all_5 : List halls_bound) (x_19 : Int) (b_7_0 : List Int) (b_7_3 : List (List Int)) (b_7_1 : List Int) (b_7_2 : List Int) : Option (Out ((List halls_bound) × Int) (((List halls_bound)))) :=
  (ap 8 all_5 ([(halls_bound.mk b_7_0 b_7_1 b_7_2 b_7_3)])).bind fun l13 =>
  c0y x_19 l13
noncomputable def c0u (x_122 : Int) (b_7_1_1 : List Int) (b_7_2_1 : List Int) : Option (Out ((List Int) × (List Int) × Int) (((List Int) × (List Int)))) :=
  some (.nx (b_7_1_1, b_7_2_1, wr (x_122 + 1)))
noncomputable def c0v (open_ : List (List Int)) (x_19 : Int) (b_7_1 : List Int) (b_7_2 : List Int) (x_122 : Int) (most_14 : Int) : Option (Out ((List Int) × (List Int) × Int) (((List Int) × (List Int)))) :=
  (ap 8 b_7_2 ([most_14])).bind fun l22 =>
  (get b_7_1 x_122).bind fun x27 =>
  (get open_ x_19).bind fun x28 =>
  (get x28 x_122).bind fun x29 =>
  (ap 8 b_7_1 ([wr (x27 + (mn most_14 x29))])).bind fun l30 =>
  c0u x_122 l30 l22
noncomputable def b7w (b_7_0 : List Int) (b_7_3 : List (List Int)) (x_122 : Int) : (Int × Int) → Option (Out (Int × Int) Int)
  | (most_14, x_127) =>
    if decide (x_127 < (wr (x_122 + 1))) then
      (get b_7_3 x_127).bind fun x40 =>
      (get x40 x_122).bind fun x42 =>
      (get b_7_0 x_122).bind fun x43 =>
      (get b_7_0 x_127).bind fun x44 =>
      some (.nx (mx most_14 (wr (x42 - (wr (x43 - x44)))), wr (x_127 + 1)))
    else
      some (.br most_14)
noncomputable def b7x (h_ : Hall) (open_ : List (List Int)) (x_19 : Int) (b_7_0 : List Int) (b_7_3 : List (List Int)) : ((List Int) × (List Int) × Int) → Option (Out ((List Int) × (List Int) × Int) (((List Int) × (List Int))))
  | (b_7_1, b_7_2, x_122) =>
    if decide (x_122 < h_.Until) then
      (b02 (b7w b_7_0 b_7_3 x_122) (0, 0)).bind fun most_14 =>
      c0v open_ x_19 b_7_1 b_7_2 x_122 most_14
    else
      some (.br (b_7_1, b_7_2))
noncomputable def c00 (h_ : Hall) (open_ : List (List Int)) (all_5 : List halls_bound) (x_19 : Int) (b_7_0 : List Int) (b_7_3 : List (List Int)) : Option (Out ((List halls_bound) × Int) (((List halls_bound)))) :=
  (b02 (b7x h_ open_ x_19 b_7_0 b_7_3) ([0], [], 0)).bind fun
    | (b_7_1, b_7_2) => c0t all_5 x_19 b_7_0 b_7_3 b_7_1 b_7_2
noncomputable def c0w (x_28 : Int) (b_7_0_1 : List Int) (b_7_3_1 : List (List Int)) : Option (Out ((List Int) × (List (List Int)) × Int) (((List Int) × (List (List Int))))) :=
  some (.nx (b_7_0_1, b_7_3_1, wr (x_28 + 1)))
noncomputable def c0x (open_ : List (List Int)) (x_19 : Int) (b_7_0 : List Int) (b_7_3 : List (List Int)) (x_28 : Int) (row_9 : List Int) : Option (Out ((List Int) × (List (List Int)) × Int) (((List Int) × (List (List Int))))) :=
  (ap 24 b_7_3 ([row_9])).bind fun l57 =>
  (get b_7_0 x_28).bind fun x62 =>
  (get open_ x_19).bind fun x63 =>
  (get x63 x_28).bind fun x64 =>
  (ap 8 b_7_0 ([wr (x62 + x64)])).bind fun l65 =>
  c0w x_28 l65 l57
noncomputable def c0z (t_10 : Int) (row_9_1 : List Int) : Option (Out ((List Int) × Int) (((List Int)))) :=
  some (.nx (row_9_1, wr (t_10 + 1)))
noncomputable def b7y (x_54 : Int) (row_9_2 : List Int) : Option (Out ((List Int) × Int) (((List Int)))) :=
  some (.nx (row_9_2, wr (x_54 + 1)))
noncomputable def b80 (all_5 : List halls_bound) (x_19 : Int) (x_28 : Int) (t_10 : Int) (l76 : List Comb) : ((List Int) × Int) → Option (Out ((List Int) × Int) (((List Int))))
  | (row_9_1, x_54) =>
    if decide (x_54 < (List.length l76 : Int)) then
      (get l76 x_54).bind fun x83 =>
      if decide (x83.Next = x_19) then
        (get row_9_1 t_10).bind fun x89 =>
        (get all_5 x_54).bind fun x90 =>
        (b8n x90 (wr (x_28 - x83.Walk.High)) (wr (t_10 - x83.Walk.Low))).bind fun y92 =>
        b7y x_54 (List.set row_9_1 (Int.toNat t_10) (wr (x89 + y92)))
      else
        b7y x_54 row_9_1
    else
      some (.br row_9_1)
noncomputable def b7u (h_ : Hall) (all_5 : List halls_bound) (x_19 : Int) (x_28 : Int) : ((List Int) × Int) → Option (Out ((List Int) × Int) (((List Int))))
  | (row_9, t_10) =>
    if decide (t_10 < h_.Until) then
      (b82 h_ x_19 x_28 t_10).bind fun y73 =>
      (get row_9 t_10).bind fun x74 =>
      (sub h_.Combs 0 x_19).bind fun l76 =>
      (b02 (b80 all_5 x_19 x_28 t_10 l76) ((List.set row_9 (Int.toNat t_10) y73), 0)).bind fun row_9_1 =>
      c0z t_10 row_9_1
    else
      some (.br row_9)
noncomputable def b7v (h_ : Hall) (open_ : List (List Int)) (all_5 : List halls_bound) (x_19 : Int) : ((List Int) × (List (List Int)) × Int) → Option (Out ((List Int) × (List (List Int)) × Int) (((List Int) × (List (List Int)))))
  | (b_7_0, b_7_3, x_28) =>
    if decide (x_28 < h_.Until) then
      (mks 8 h_.Until 0).bind fun l53 =>
      (b02 (b7u h_ all_5 x_19 x_28) (l53, x_28)).bind fun row_9 =>
      c0x open_ x_19 b_7_0 b_7_3 x_28 row_9
    else
      some (.br (b_7_0, b_7_3))
noncomputable def b81 (h_ : Hall) (open_ : List (List Int)) : ((List halls_bound) × Int) → Option (Out ((List halls_bound) × Int) (((List halls_bound))))
  | (all_5, x_19) =>
    if decide (x_19 < (List.length h_.Combs : Int)) then
      (b02 (b7v h_ open_ all_5 x_19) ([0], [], 0)).bind fun
        | (b_7_0, b_7_3) => c00 h_ open_ all_5 x_19 b_7_0 b_7_3
    else
      some (.br all_5)
noncomputable def b6e (h_ : Hall) (open_ : List (List Int)) : Option (List halls_bound) :=
  (b02 (b81 h_ open_) ([], 0)).bind fun all_5 =>
  c3b all_5
def c2c (O : Orac) : Prop := ∀ (h_ : Hall) (open_ : List (List Int)) (v_1 : AV) (hs_1 : List AV) (h0 : Heap) (rr_p1 : RR h0 v_1 hs_1 1 eI open_) (r : List halls_bound) (hm0 : b6e h_ open_ = some r), b7m O "newel/halls.bounds" [.agg [.fs 5 (List.map b0q h_.Combs), .fs 3 (List.map b0p h_.Trains), .fs 3 (List.map b0o h_.Shifts), I h_.Until], v_1] h0 (fun v h => v = .fs 1 (List.map b24 r) ∧ (∀ j, j < h0.nx → h.ob j = h0.ob j) ∧ h0.nx ≤ h.nx)
noncomputable def b7b (n : Int) (c0 : Hall) (c1 : Int) : Option Bool :=
  (get c0.Combs c1).bind fun x2 =>
  some (decide (x2.Limit < n))
def c8a (O : Orac) : Prop := ∀ (n : Int) (c0 : Hall) (c1 : Int) (r : Bool) (hm0 : b7b n c0 c1 = some r), Fn O "newel/halls.over$1" [I n, .fp [.fs 5 (List.map b0q c0.Combs), .fs 3 (List.map b0p c0.Trains), .fs 3 (List.map b0o c0.Shifts), I c0.Until] 0, .fp [I c1] 0] (B r)
@[go_sem] def b35 (x : Int × Int) : List AV := [I x.1, I x.2]
theorem c0m (x : Int × Int) : ∀ c ∈ b35 x, Frz c := (b0f (b0k _) (b0f (b0k _) b03))
theorem d8r (x : Int × Int) : (b35 x).length = 2 := rfl
@[go_sem] theorem m19 {l : List (Int × Int)} {n : Nat} {a0 : Int} {a1 : Int} : (List.map b35 l).set n [I a0, I a1] = List.map b35 (l.set n (a0, a1)) := by rw [List.map_set]; rfl
noncomputable def c3f (out_4 : List (Int × Int)) : Option (List (Int × Int)) :=
  some out_4
noncomputable def b72 (x_10 : Int) (out_4_1 : List (Int × Int)) : Option (Out ((List (Int × Int)) × Int) (((List (Int × Int))))) :=
  some (.nx (out_4_1, wr (x_10 + 1)))
noncomputable def b89 (h_ : Hall) (all : List halls_bound) : ((List (Int × Int)) × Int) → Option (Out ((List (Int × Int)) × Int) (((List (Int × Int)))))
  | (out_4, x_10) =>
    if decide (x_10 < (List.length all : Int)) then
      (get all x_10).bind fun x9 =>
      (b9y x9.most (fun z12 => b7b z12 h_ x_10)).bind fun y13 =>
      if decide (0 ≤ y13) then
        (ap 16 out_4 ([(x_10, y13)])).bind fun l16 =>
        b72 x_10 l16
      else
        b72 x_10 out_4
    else
      some (.br out_4)
noncomputable def b71 (h_ : Hall) (all : List halls_bound) : Option (List (Int × Int)) :=
  (b02 (b89 h_ all) ([], 0)).bind fun out_4 =>
  c3f out_4
def c4x (O : Orac) : Prop := ∀ (h_ : Hall) (all : List halls_bound) (r : List (Int × Int)) (hm0 : b71 h_ all = some r), Fn O "newel/halls.over" [.agg [.fs 5 (List.map b0q h_.Combs), .fs 3 (List.map b0p h_.Trains), .fs 3 (List.map b0o h_.Shifts), I h_.Until], .fs 1 (List.map b24 all)] (.fs 2 (List.map b35 r))
noncomputable def b69 (h_ : Hall) (comb : Int) (from_ : Int) : ((List (List Int)) × Int) → Option (Out ((List (List Int)) × Int) (((Int × Int))))
  | (all_9, n_10) =>
    (b6e h_ all_9).bind fun y11 =>
    (b71 h_ y11).bind fun y12 =>
    if decide ((List.length y12 : Int) = 0) then
      some (.br (n_10, 0))
    else
      if decide ((wr (from_ + n_10)) = h_.Until) then
        some (.br (0, 3))
      else
        (get all_9 comb).bind fun x19 =>
        (get x19 (wr (from_ + n_10))).bind fun x20 =>
        some (.nx ((List.set all_9 (Int.toNat comb) (List.set x19 (Int.toNat (wr (from_ + n_10))) 0)), wr (n_10 + 1)))
noncomputable def b42 (h_ : Hall) (comb : Int) (from_ : Int) : Option (Int × Int) :=
  (b6f h_ comb ([from_])).bind fun y2 =>
  if decide (¬y2 = 0) then
    some (0, y2)
  else
    (b5y h_).bind fun y6 =>
    (b02 (b69 h_ comb from_) (y6, 0)).bind fun r' =>
    some r'
def c4u (O : Orac) : Prop := ∀ (h_ : Hall) (comb : Int) (from_ : Int) (r : Int × Int) (hm0 : b42 h_ comb from_ = some r), Fn O "newel/halls.Guard" [.agg [.fs 5 (List.map b0q h_.Combs), .fs 3 (List.map b0p h_.Trains), .fs 3 (List.map b0o h_.Shifts), I h_.Until], I comb, I from_] (.tup [I r.1, I r.2])
noncomputable def c3a (h_ : Hall) : Option ((List (Int × Int)) × Int) :=
  (b5l h_).bind fun y2 =>
  if decide (¬y2 = 0) then
    some ([], y2)
  else
    (b5y h_).bind fun y8 =>
    (b6e h_ y8).bind fun y9 =>
    (b71 h_ y9).bind fun y10 =>
    some (y10, 0)
def c75 (O : Orac) : Prop := ∀ (h_ : Hall) (r : (List (Int × Int)) × Int) (hm0 : c3a h_ = some r), Fn O "newel/halls.Over" [.agg [.fs 5 (List.map b0q h_.Combs), .fs 3 (List.map b0p h_.Trains), .fs 3 (List.map b0o h_.Shifts), I h_.Until]] (.tup [.fs 2 (List.map b35 r.1), I r.2])
noncomputable def b78 : Option Bool :=
  (b42 l06_Example 0 5).bind fun y2 =>
  (c3a l06_Example).bind fun y4 =>
  (if (((decide (y2.2 = 0)) && (decide (y4.2 = 0))) && (decide (y2.1 = 1))) && (decide ((List.length y4.1 : Int) = 1)) then (get y4.1 0).bind fun x7 =>
  some (decide (x7.1 = 1) && decide (x7.2 = 7)) else some false).bind fun c8 =>
  some c8
def c8e (O : Orac) : Prop := ∀ (r : Bool) (hm0 : b78 = some r), Fn O "newel/newellaw06.works" [] (B r)
noncomputable def d2g (l_5 : List Int) : Option (List Int) :=
  some l_5
noncomputable def c7j (t_6 : Int) (l_5_1 : List Int) : Option (Out ((List Int) × Int) (((List Int)))) :=
  some (.nx (l_5_1, wr (t_6 + 1)))
noncomputable def c15 (i_7 : Int) (l_5_2 : List Int) : Option (Out ((List Int) × Int) (((List Int)))) :=
  some (.nx (l_5_2, wr (i_7 + 1)))
noncomputable def c4b (h_ : Hall) (comb : Int) (t_6 : Int) : ((List Int) × Int) → Option (Out ((List Int) × Int) (((List Int))))
  | (l_5_1, i_7) =>
    if decide (i_7 < (List.length h_.Shifts : Int)) then
      (get h_.Shifts i_7).bind fun x20 =>
      if (decide (x20.Comb = comb)) && (decide (x20.At ≤ t_6)) then
        (get l_5_1 t_6).bind fun x24 =>
        c15 i_7 (List.set l_5_1 (Int.toNat t_6) x20.Rate)
      else
        c15 i_7 l_5_1
    else
      some (.br l_5_1)
noncomputable def c4c (h_ : Hall) (comb : Int) : ((List Int) × Int) → Option (Out ((List Int) × Int) (((List Int))))
  | (l_5, t_6) =>
    if decide (t_6 < h_.Until) then
      (get h_.Combs comb).bind fun x12 =>
      (get l_5 t_6).bind fun x13 =>
      (b02 (c4b h_ comb t_6) ((List.set l_5 (Int.toNat t_6) x12.Rate), 0)).bind fun l_5_1 =>
      c7j t_6 l_5_1
    else
      some (.br l_5)
noncomputable def b7i (h_ : Hall) (comb : Int) : Option (List Int) :=
  (mks 8 h_.Until 0).bind fun l2 =>
  (b02 (c4c h_ comb) (l2, 0)).bind fun l_5 =>
  d2g l_5
def c42 (O : Orac) : Prop := ∀ (h_ : Hall) (comb : Int) (r : List Int) (hm0 : b7i h_ comb = some r), Fn O "newel/newelref06.rates" [.agg [.fs 5 (List.map b0q h_.Combs), .fs 3 (List.map b0p h_.Trains), .fs 3 (List.map b0o h_.Shifts), I h_.Until], I comb] (.fs 1 (List.map eI r))
noncomputable def d2d (h_ : Hall) (l_11_3 : List Shift) : Option Hall :=
  some (Hall.mk h_.Combs h_.Trains l_11_3 h_.Until)
noncomputable def c11 (i_15 : Int) (l_11_4 : List Shift) : Option (Out ((List Shift) × Int) (((List Shift)))) :=
  some (.nx (l_11_4, wr (i_15 + 1)))
noncomputable def c39 (h_ : Hall) (from_ : Int) (ticks : Int) : ((List Shift) × Int) → Option (Out ((List Shift) × Int) (((List Shift))))
  | (l_11_3, i_15) =>
    if decide (i_15 < (List.length h_.Shifts : Int)) then
      (get h_.Shifts i_15).bind fun x21 =>
      if decide ((wr (from_ + ticks)) < x21.At) then
        (ap 24 l_11_3 ([x21])).bind fun l24 =>
        c11 i_15 l24
      else
        c11 i_15 l_11_3
    else
      some (.br l_11_3)
noncomputable def c1z (h_ : Hall) (from_ : Int) (ticks : Int) (l_11_2 : List Shift) : Option Hall :=
  (b02 (c39 h_ from_ ticks) (l_11_2, 0)).bind fun l_11_3 =>
  d2d h_ l_11_3
noncomputable def c7f (h_ : Hall) (c : Int) (from_ : Int) (ticks : Int) (y4 : List Int) (l_11_1 : List Shift) : Option Hall :=
  if decide ((wr (from_ + ticks)) < h_.Until) then
    (get y4 (wr (from_ + ticks))).bind fun x29 =>
    (ap 24 l_11_1 ([(Shift.mk (wr (from_ + ticks)) c x29)])).bind fun l30 =>
    c1z h_ from_ ticks l30
  else
    c1z h_ from_ ticks l_11_1
noncomputable def c12 (i_13 : Int) (l_11_2 : List Shift) : Option (Out ((List Shift) × Int) (((List Shift)))) :=
  some (.nx (l_11_2, wr (i_13 + 1)))
noncomputable def c1y (h_ : Hall) (c : Int) (from_ : Int) (ticks : Int) : ((List Shift) × Int) → Option (Out ((List Shift) × Int) (((List Shift))))
  | (l_11_1, i_13) =>
    if decide (i_13 < (List.length h_.Shifts : Int)) then
      (get h_.Shifts i_13).bind fun x37 =>
      if ((decide (from_ < x37.At)) && (decide (x37.At ≤ (wr (from_ + ticks))))) && ((decide (¬x37.Comb = c)) || (decide (x37.At = (wr (from_ + ticks))))) then
        (ap 24 l_11_1 ([x37])).bind fun l43 =>
        c12 i_13 l43
      else
        c12 i_13 l_11_1
    else
      some (.br l_11_1)
noncomputable def c7g (h_ : Hall) (c : Int) (from_ : Int) (ticks : Int) (y4 : List Int) (l_11 : List Shift) : Option Hall :=
  (ap 24 l_11 ([(Shift.mk from_ c 0)])).bind fun l8 =>
  (b02 (c1y h_ c from_ ticks) (l8, 0)).bind fun l_11_1 =>
  c7f h_ c from_ ticks y4 l_11_1
noncomputable def b9r (h_ : Hall) (from_ : Int) : ((List Shift) × Int) → Option (Out ((List Shift) × Int) (((List Shift))))
  | (l_11, i_12) =>
    (if decide (i_12 < (List.length h_.Shifts : Int)) then (get h_.Shifts i_12).bind fun x48 =>
    some (decide (x48.At ≤ from_)) else some false).bind fun c49 =>
    if c49 then
      (get h_.Shifts i_12).bind fun x56 =>
      (ap 24 l_11 ([x56])).bind fun l57 =>
      some (.nx (l57, wr (i_12 + 1)))
    else
      some (.br l_11)
noncomputable def b9q (h_ : Hall) (c : Int) (from_ : Int) (ticks : Int) : Option Hall :=
  if decide (ticks = 0) then
    some h_
  else
    (b7i h_ c).bind fun y4 =>
    (b02 (b9r h_ from_) ([], 0)).bind fun l_11 =>
    c7g h_ c from_ ticks y4 l_11
def c8i (O : Orac) : Prop := ∀ (h_ : Hall) (c : Int) (from_ : Int) (ticks : Int) (r : Hall) (hm0 : b9q h_ c from_ ticks = some r), Fn O "newel/newelref06.Shut" [.agg [.fs 5 (List.map b0q h_.Combs), .fs 3 (List.map b0p h_.Trains), .fs 3 (List.map b0o h_.Shifts), I h_.Until], I c, I from_, I ticks] (.agg [.fs 5 (List.map b0q r.Combs), .fs 3 (List.map b0p r.Trains), .fs 3 (List.map b0o r.Shifts), I r.Until])
structure l06_Window where
  Comb : Int
  From : Int
  To : Int
  deriving Inhabited, DecidableEq
structure l06_Less where
  Train : Int
  Crowd : Int
  At : Span
  People : Span
  deriving Inhabited, DecidableEq
noncomputable def c5w (need_9 : Int) : Option (Int × Int) :=
  if decide (1000 < need_9) then
    some (0, 3)
  else
    some (need_9, 0)
noncomputable def c5x (x_33 : Int) (need_9_1 : Int) : Option (Out (Int × Int) (Int ⊕ ((Int × Int)))) :=
  some (.nx (need_9_1, wr (x_33 + 1)))
noncomputable def c0r (h_ : Hall) (x11 : halls_bound) (x12 : Comb) (x_33 : Int) : (Int × Int) → Option (Out (Int × Int) Int)
  | (need_9_1, t_11) =>
    if decide (t_11 < h_.Until) then
      (get x11.come x_33).bind fun x35 =>
      (get x35 t_11).bind fun x36 =>
      (quo .i64 (wr ((wr ((wr ((wr (x36 - x12.Limit)) + t_11)) - x_33)) - 1)) (wr (t_11 - x_33))).bind fun q37 =>
      some (.nx (mx need_9_1 q37, wr (t_11 + 1)))
    else
      some (.br need_9_1)
noncomputable def c0s (h_ : Hall) (x11 : halls_bound) (x12 : Comb) : (Int × Int) → Option (Out (Int × Int) (Int ⊕ ((Int × Int))))
  | (need_9, x_33) =>
    if decide (x_33 < h_.Until) then
      (get x11.come x_33).bind fun x24 =>
      (get x24 x_33).bind fun x25 =>
      if decide (x12.Limit < x25) then
        some (.br (.inr (0, 3)))
      else
        (b02 (c0r h_ x11 x12 x_33) (need_9, wr (x_33 + 1))).bind fun need_9_1 =>
        c5x x_33 need_9_1
    else
      some (.br (.inl need_9))
noncomputable def b6d (h_ : Hall) (comb : Int) : Option (Int × Int) :=
  (b6f h_ comb ([])).bind fun y2 =>
  if decide (¬y2 = 0) then
    some (0, y2)
  else
    (b5y h_).bind fun y9 =>
    (b6e h_ y9).bind fun y10 =>
    (get y10 comb).bind fun x11 =>
    (get h_.Combs comb).bind fun x12 =>
    (b02 (c0s h_ x11 x12) (0, 0)).bind fun
      | (.inl need_9) => c5w need_9
      | (.inr r') => some r'
def c74 (O : Orac) : Prop := ∀ (h_ : Hall) (comb : Int) (r : Int × Int) (hm0 : b6d h_ comb = some r), Fn O "newel/halls.Need" [.agg [.fs 5 (List.map b0q h_.Combs), .fs 3 (List.map b0p h_.Trains), .fs 3 (List.map b0o h_.Shifts), I h_.Until], I comb] (.tup [I r.1, I r.2])
noncomputable def b7h (h_ : Hall) (n : Int) : Bool :=
  (b2y n 0 (wr ((List.length h_.Combs : Int) - 1)))
def c41 (O : Orac) : Prop := ∀ (h_ : Hall) (n : Int), Fn O "newel/newelref06.comb" [.agg [.fs 5 (List.map b0q h_.Combs), .fs 3 (List.map b0p h_.Trains), .fs 3 (List.map b0o h_.Shifts), I h_.Until], I n] (B (b7h h_ n))
noncomputable def c7a (h_ : Hall) (c : Int) (rate : Int) (l2 : List Comb) (x4 : Comb) (q_7_2 : List Shift) : Option Hall :=
  some (Hall.mk (List.set l2 (Int.toNat c) (Comb.mk rate x4.Limit x4.Next x4.Walk)) h_.Trains q_7_2 h_.Until)
noncomputable def c1t (i_8 : Int) (q_7_2_1 : List Shift) : Option (Out ((List Shift) × Int) (((List Shift)))) :=
  some (.nx (q_7_2_1, wr (i_8 + 1)))
noncomputable def c38 (h_ : Hall) (c : Int) : ((List Shift) × Int) → Option (Out ((List Shift) × Int) (((List Shift))))
  | (q_7_2, i_8) =>
    if decide (i_8 < (List.length h_.Shifts : Int)) then
      (get h_.Shifts i_8).bind fun x13 =>
      if decide (¬x13.Comb = c) then
        (ap 24 q_7_2 ([x13])).bind fun l16 =>
        c1t i_8 l16
      else
        c1t i_8 q_7_2
    else
      some (.br q_7_2)
noncomputable def c37 (h_ : Hall) (c : Int) (rate : Int) : Option Hall :=
  (ap 40 ([]) h_.Combs).bind fun l2 =>
  (get l2 c).bind fun x4 =>
  (b02 (c38 h_ c) ([], 0)).bind fun q_7_2 =>
  c7a h_ c rate l2 x4 q_7_2
def c8f (O : Orac) : Prop := ∀ (h_ : Hall) (c : Int) (rate : Int) (r : Hall) (hm0 : c37 h_ c rate = some r), Fn O "newel/newelref06.At" [.agg [.fs 5 (List.map b0q h_.Combs), .fs 3 (List.map b0p h_.Trains), .fs 3 (List.map b0o h_.Shifts), I h_.Until], I c, I rate] (.agg [.fs 5 (List.map b0q r.Combs), .fs 3 (List.map b0p r.Trains), .fs 3 (List.map b0o r.Shifts), I r.Until])
structure r06_Bounds where
  Most : List (List Int)
  Flow : List (List Int)
  Come : List (List (List Int))
  Pass : List (List (List Int))
  deriving Inhabited, DecidableEq
@[go_sem] def b05 (x : List (List Int)) : List AV := [.fs 1 (List.map b00 x)]
theorem b7q (x : List (List Int)) : ∀ c ∈ b05 x, Frz c := (b0f (b0y fun a _ => b4y a) b03)
theorem c6o (x : List (List Int)) : (b05 x).length = 1 := rfl
@[go_sem] theorem m2d {l : List (List (List Int))} {n : Nat} {a0 : List (List Int)} : (List.map b05 l).set n [.fs 1 (List.map b00 a0)] = List.map b05 (l.set n a0) := by rw [List.map_set]; rfl
noncomputable def b98 (b : r06_Bounds) (c : Int) (from_ : Int) (to_ : Int) : Option Int :=
  if decide (to_ < (mx from_ 0)) then
    some 0
  else
    (get b.Pass c).bind fun x6 =>
    (get x6 (mx from_ 0)).bind fun x7 =>
    (get x7 to_).bind fun x8 =>
    some x8
def c72 (O : Orac) : Prop := ∀ (b : r06_Bounds) (c : Int) (from_ : Int) (to_ : Int) (r : Int) (hm0 : b98 b c from_ to_ = some r), Fn O "(newel/newelref06.Bounds).pass" [.agg [.fs 1 (List.map b00 b.Most), .fs 1 (List.map b00 b.Flow), .fs 1 (List.map b05 b.Come), .fs 1 (List.map b05 b.Pass)], I c, I from_, I to_] (I r)
noncomputable def d2b (b_3_0 : List (List Int)) (b_3_1 : List (List Int)) (b_3_2 : List (List (List Int))) (b_3_3 : List (List (List Int))) : Option r06_Bounds :=
  some (r06_Bounds.mk b_3_0 b_3_1 b_3_2 b_3_3)
noncomputable def c67 (c_4 : Int) (b_3_0_1 : List (List Int)) (b_3_1_1 : List (List Int)) (b_3_2_1 : List (List (List Int))) (b_3_3_1 : List (List (List Int))) : Option (Out ((List (List Int)) × (List (List Int)) × (List (List (List Int))) × (List (List (List Int))) × Int) (((List (List Int)) × (List (List Int)) × (List (List (List Int))) × (List (List (List Int)))))) :=
  some (.nx (b_3_0_1, b_3_1_1, b_3_2_1, b_3_3_1, wr (c_4 + 1)))
noncomputable def c63 (b_3_0 : List (List Int)) (b_3_1 : List (List Int)) (b_3_2 : List (List (List Int))) (b_3_3 : List (List (List Int))) (c_4 : Int) (come_5 : List (List Int)) (most_13 : List Int) (flow_14 : List Int) (passes_18 : List (List Int)) : Option (Out ((List (List Int)) × (List (List Int)) × (List (List (List Int))) × (List (List (List Int))) × Int) (((List (List Int)) × (List (List Int)) × (List (List (List Int))) × (List (List (List Int)))))) :=
  (ap 24 b_3_0 ([most_13])).bind fun l26 =>
  (ap 24 b_3_1 ([flow_14])).bind fun l27 =>
  (ap 24 b_3_2 ([come_5])).bind fun l30 =>
  (ap 24 b_3_3 ([passes_18])).bind fun l31 =>
  c67 c_4 l26 l27 l30 l31
noncomputable def c64 (from_19 : Int) (passes_18_1 : List (List Int)) : Option (Out ((List (List Int)) × Int) (((List (List Int))))) :=
  some (.nx (passes_18_1, wr (from_19 + 1)))
noncomputable def c65 (to_20 : Int) (passes_18_2 : List (List Int)) : Option (Out ((List (List Int)) × Int) (((List (List Int))))) :=
  some (.nx (passes_18_2, wr (to_20 + 1)))
noncomputable def c66 (from_19 : Int) (passes_18_1 : List (List Int)) (to_20 : Int) (least_21 : Int) (sum_22 : Int) : Option (Out ((List (List Int)) × Int) (((List (List Int))))) :=
  (get passes_18_1 from_19).bind fun x54 =>
  (get x54 to_20).bind fun x55 =>
  c65 to_20 (List.set passes_18_1 (Int.toNat from_19) (List.set x54 (Int.toNat to_20) (mn least_21 sum_22)))
noncomputable def c1r (most_13 : List Int) (flow_14 : List Int) (least_21 : Int) (sum_22 : Int) (k_23 : Int) (rest_24 : Int) : Option (Out (Int × Int × Int) ((Int × Int))) :=
  (get most_13 k_23).bind fun x63 =>
  (get flow_14 k_23).bind fun x65 =>
  some (.nx (mn least_21 (wr ((wr (sum_22 + x63)) + rest_24)), wr (sum_22 + x65), wr (k_23 + 1)))
noncomputable def c1n (come_5 : List (List Int)) (most_13 : List Int) (flow_14 : List Int) (to_20 : Int) : (Int × Int × Int) → Option (Out (Int × Int × Int) ((Int × Int)))
  | (least_21, sum_22, k_23) =>
    if decide (k_23 ≤ to_20) then
      if decide (k_23 < to_20) then
        (get come_5 (wr (k_23 + 1))).bind fun x69 =>
        (get x69 to_20).bind fun x70 =>
        c1r most_13 flow_14 least_21 sum_22 k_23 x70
      else
        c1r most_13 flow_14 least_21 sum_22 k_23 0
    else
      some (.br (least_21, sum_22))
noncomputable def c1o (h_ : Hall) (come_5 : List (List Int)) (most_13 : List Int) (flow_14 : List Int) (from_19 : Int) : ((List (List Int)) × Int) → Option (Out ((List (List Int)) × Int) (((List (List Int)))))
  | (passes_18_1, to_20) =>
    if decide (to_20 < h_.Until) then
      (get come_5 0).bind fun x48 =>
      (get x48 to_20).bind fun x49 =>
      (b02 (c1n come_5 most_13 flow_14 to_20) (x49, 0, from_19)).bind fun
        | (least_21, sum_22) => c66 from_19 passes_18_1 to_20 least_21 sum_22
    else
      some (.br passes_18_1)
noncomputable def c1p (h_ : Hall) (come_5 : List (List Int)) (most_13 : List Int) (flow_14 : List Int) : ((List (List Int)) × Int) → Option (Out ((List (List Int)) × Int) (((List (List Int)))))
  | (passes_18, from_19) =>
    if decide (from_19 < h_.Until) then
      (mks 8 h_.Until 0).bind fun l39 =>
      (get passes_18 from_19).bind fun x40 =>
      (b02 (c1o h_ come_5 most_13 flow_14 from_19) ((List.set passes_18 (Int.toNat from_19) l39), from_19)).bind fun passes_18_1 =>
      c64 from_19 passes_18_1
    else
      some (.br passes_18)
noncomputable def c62 (h_ : Hall) (b_3_0 : List (List Int)) (b_3_1 : List (List Int)) (b_3_2 : List (List (List Int))) (b_3_3 : List (List (List Int))) (c_4 : Int) (come_5 : List (List Int)) (most_13 : List Int) (flow_14 : List Int) : Option (Out ((List (List Int)) × (List (List Int)) × (List (List (List Int))) × (List (List (List Int))) × Int) (((List (List Int)) × (List (List Int)) × (List (List (List Int))) × (List (List (List Int)))))) :=
  (mks 24 h_.Until ([] : List Int)).bind fun l21 =>
  (b02 (c1p h_ come_5 most_13 flow_14) (l21, 0)).bind fun passes_18 =>
  c63 b_3_0 b_3_1 b_3_2 b_3_3 c_4 come_5 most_13 flow_14 passes_18
noncomputable def c68 (t_15 : Int) (most_13_1 : List Int) (flow_14_1 : List Int) : Option (Out ((List Int) × (List Int) × Int) (((List Int) × (List Int)))) :=
  some (.nx (most_13_1, flow_14_1, wr (t_15 + 1)))
noncomputable def c69 (y13 : List Int) (flow_14 : List Int) (t_15 : Int) (most_13_1 : List Int) : Option (Out ((List Int) × (List Int) × Int) (((List Int) × (List Int)))) :=
  (get y13 t_15).bind fun x84 =>
  (get most_13_1 t_15).bind fun x85 =>
  (get flow_14 t_15).bind fun x86 =>
  c68 t_15 most_13_1 (List.set flow_14 (Int.toNat t_15) (mn x84 x85))
noncomputable def c1s (s_17 : Int) (most_13_2 : List Int) (served_16_1 : Int) : Option (Out ((List Int) × Int × Int) (((List Int)))) :=
  some (.nx (most_13_2, served_16_1, wr (s_17 - 1)))
noncomputable def c1l (come_5 : List (List Int)) (y13 : List Int) (t_15 : Int) : ((List Int) × Int × Int) → Option (Out ((List Int) × Int × Int) (((List Int))))
  | (most_13_1, served_16, s_17) =>
    if decide (0 ≤ s_17) then
      (get most_13_1 t_15).bind fun x95 =>
      (get come_5 s_17).bind fun x96 =>
      (get x96 t_15).bind fun x97 =>
      if decide (0 < s_17) then
        (get y13 (wr (s_17 - 1))).bind fun x100 =>
        c1s s_17 (List.set most_13_1 (Int.toNat t_15) (mx x95 (wr (x97 - served_16)))) (wr (served_16 + x100))
      else
        c1s s_17 (List.set most_13_1 (Int.toNat t_15) (mx x95 (wr (x97 - served_16)))) served_16
    else
      some (.br most_13_1)
noncomputable def c1m (h_ : Hall) (come_5 : List (List Int)) (y13 : List Int) : ((List Int) × (List Int) × Int) → Option (Out ((List Int) × (List Int) × Int) (((List Int) × (List Int))))
  | (most_13, flow_14, t_15) =>
    if decide (t_15 < h_.Until) then
      (b02 (c1l come_5 y13 t_15) (most_13, 0, t_15)).bind fun most_13_1 =>
      c69 y13 flow_14 t_15 most_13_1
    else
      some (.br (most_13, flow_14))
noncomputable def c6y (h_ : Hall) (b_3_0 : List (List Int)) (b_3_1 : List (List Int)) (b_3_2 : List (List (List Int))) (b_3_3 : List (List (List Int))) (c_4 : Int) (come_5 : List (List Int)) : Option (Out ((List (List Int)) × (List (List Int)) × (List (List (List Int))) × (List (List (List Int))) × Int) (((List (List Int)) × (List (List Int)) × (List (List (List Int))) × (List (List (List Int)))))) :=
  (b7i h_ c_4).bind fun y13 =>
  (mks 8 h_.Until 0).bind fun l16 =>
  (mks 8 h_.Until 0).bind fun l17 =>
  (b02 (c1m h_ come_5 y13) (l16, l17, 0)).bind fun
    | (most_13, flow_14) => c62 h_ b_3_0 b_3_1 b_3_2 b_3_3 c_4 come_5 most_13 flow_14
noncomputable def c6x (s_6 : Int) (come_5_1 : List (List Int)) : Option (Out ((List (List Int)) × Int) (((List (List Int))))) :=
  some (.nx (come_5_1, wr (s_6 + 1)))
noncomputable def c6z (t_7 : Int) (come_5_2 : List (List Int)) : Option (Out ((List (List Int)) × Int) (((List (List Int))))) :=
  some (.nx (come_5_2, wr (t_7 + 1)))
noncomputable def c1q (u_11 : Int) (come_5_4 : List (List Int)) : Option (Out ((List (List Int)) × Int) (((List (List Int))))) :=
  some (.nx (come_5_4, wr (u_11 + 1)))
noncomputable def c1i (h_ : Hall) (b_3_0 : List (List Int)) (b_3_1 : List (List Int)) (b_3_2 : List (List (List Int))) (b_3_3 : List (List (List Int))) (c_4 : Int) (s_6 : Int) (t_7 : Int) : ((List (List Int)) × Int) → Option (Out ((List (List Int)) × Int) (((List (List Int)))))
  | (come_5_3, u_11) =>
    if decide (u_11 < c_4) then
      (get h_.Combs u_11).bind fun x125 =>
      if decide (x125.Next = c_4) then
        (get come_5_3 s_6).bind fun x130 =>
        (get x130 t_7).bind fun x131 =>
        (b98 (r06_Bounds.mk b_3_0 b_3_1 b_3_2 b_3_3) u_11 (wr (s_6 - x125.Walk.High)) (wr (t_7 - x125.Walk.Low))).bind fun y132 =>
        c1q u_11 (List.set come_5_3 (Int.toNat s_6) (List.set x130 (Int.toNat t_7) (wr (x131 + y132))))
      else
        c1q u_11 come_5_3
    else
      some (.br come_5_3)
noncomputable def c60 (h_ : Hall) (b_3_0 : List (List Int)) (b_3_1 : List (List Int)) (b_3_2 : List (List (List Int))) (b_3_3 : List (List (List Int))) (c_4 : Int) (s_6 : Int) (t_7 : Int) (come_5_2 : List (List Int)) : Option (Out ((List (List Int)) × Int) (((List (List Int))))) :=
  (b02 (c1i h_ b_3_0 b_3_1 b_3_2 b_3_3 c_4 s_6 t_7) (come_5_2, 0)).bind fun come_5_2 =>
  c6z t_7 come_5_2
noncomputable def c61 (i_8 : Int) (come_5_3 : List (List Int)) : Option (Out ((List (List Int)) × Int) (((List (List Int))))) :=
  some (.nx (come_5_3, wr (i_8 + 1)))
noncomputable def b9o (k_10 : Int) (come_5_4 : List (List Int)) : Option (Out ((List (List Int)) × Int) (((List (List Int))))) :=
  some (.nx (come_5_4, wr (k_10 + 1)))
noncomputable def c1g (c_4 : Int) (s_6 : Int) (t_7 : Int) (x140 : Train) : ((List (List Int)) × Int) → Option (Out ((List (List Int)) × Int) (((List (List Int)))))
  | (come_5_3, k_10) =>
    if decide (k_10 < (List.length x140.Crowds : Int)) then
      (get x140.Crowds k_10).bind fun x147 =>
      if ((decide (x147.Comb = c_4)) && (decide (x140.At.Low ≤ t_7))) && (decide (s_6 ≤ x140.At.High)) then
        (get come_5_3 s_6).bind fun x153 =>
        (get x153 t_7).bind fun x154 =>
        b9o k_10 (List.set come_5_3 (Int.toNat s_6) (List.set x153 (Int.toNat t_7) (wr (x154 + x147.People.High))))
      else
        b9o k_10 come_5_3
    else
      some (.br come_5_3)
noncomputable def c1h (h_ : Hall) (c_4 : Int) (s_6 : Int) (t_7 : Int) : ((List (List Int)) × Int) → Option (Out ((List (List Int)) × Int) (((List (List Int)))))
  | (come_5_2, i_8) =>
    if decide (i_8 < (List.length h_.Trains : Int)) then
      (get h_.Trains i_8).bind fun x140 =>
      (b02 (c1g c_4 s_6 t_7 x140) (come_5_2, 0)).bind fun come_5_3 =>
      c61 i_8 come_5_3
    else
      some (.br come_5_2)
noncomputable def c1j (h_ : Hall) (b_3_0 : List (List Int)) (b_3_1 : List (List Int)) (b_3_2 : List (List (List Int))) (b_3_3 : List (List (List Int))) (c_4 : Int) (s_6 : Int) : ((List (List Int)) × Int) → Option (Out ((List (List Int)) × Int) (((List (List Int)))))
  | (come_5_1, t_7) =>
    if decide (t_7 < h_.Until) then
      (b02 (c1h h_ c_4 s_6 t_7) (come_5_1, 0)).bind fun come_5_2 =>
      c60 h_ b_3_0 b_3_1 b_3_2 b_3_3 c_4 s_6 t_7 come_5_2
    else
      some (.br come_5_1)
noncomputable def c1k (h_ : Hall) (b_3_0 : List (List Int)) (b_3_1 : List (List Int)) (b_3_2 : List (List (List Int))) (b_3_3 : List (List (List Int))) (c_4 : Int) : ((List (List Int)) × Int) → Option (Out ((List (List Int)) × Int) (((List (List Int)))))
  | (come_5, s_6) =>
    if decide (s_6 < h_.Until) then
      (mks 8 h_.Until 0).bind fun l110 =>
      (get come_5 s_6).bind fun x111 =>
      (b02 (c1j h_ b_3_0 b_3_1 b_3_2 b_3_3 c_4 s_6) ((List.set come_5 (Int.toNat s_6) l110), s_6)).bind fun come_5_1 =>
      c6x s_6 come_5_1
    else
      some (.br come_5)
noncomputable def c36 (h_ : Hall) : ((List (List Int)) × (List (List Int)) × (List (List (List Int))) × (List (List (List Int))) × Int) → Option (Out ((List (List Int)) × (List (List Int)) × (List (List (List Int))) × (List (List (List Int))) × Int) (((List (List Int)) × (List (List Int)) × (List (List (List Int))) × (List (List (List Int))))))
  | (b_3_0, b_3_1, b_3_2, b_3_3, c_4) =>
    if decide (c_4 < (List.length h_.Combs : Int)) then
      (mks 24 h_.Until ([] : List Int)).bind fun l9 =>
      (b02 (c1k h_ b_3_0 b_3_1 b_3_2 b_3_3 c_4) (l9, 0)).bind fun come_5 =>
      c6y h_ b_3_0 b_3_1 b_3_2 b_3_3 c_4 come_5
    else
      some (.br (b_3_0, b_3_1, b_3_2, b_3_3))
noncomputable def b8f (h_ : Hall) : Option r06_Bounds :=
  (b02 (c36 h_) ([], [], [], [], 0)).bind fun
    | (b_3_0, b_3_1, b_3_2, b_3_3) => d2b b_3_0 b_3_1 b_3_2 b_3_3
def c4z (O : Orac) : Prop := ∀ (h_ : Hall) (r : r06_Bounds) (hm0 : b8f h_ = some r), Fn O "newel/newelref06.All" [.agg [.fs 5 (List.map b0q h_.Combs), .fs 3 (List.map b0p h_.Trains), .fs 3 (List.map b0o h_.Shifts), I h_.Until]] (.agg [.fs 1 (List.map b00 r.Most), .fs 1 (List.map b00 r.Flow), .fs 1 (List.map b05 r.Come), .fs 1 (List.map b05 r.Pass)])
noncomputable def d2e : Option Bool :=
  some true
noncomputable def c13 (h_ : Hall) (c : Int) (x6 : List Int) : Int → Option (Out Int (Unit ⊕ Bool))
  | t_8 =>
    if decide (t_8 < h_.Until) then
      (get x6 t_8).bind fun x15 =>
      (get h_.Combs c).bind fun x16 =>
      if decide (x16.Limit < x15) then
        some (.br (.inr false))
      else
        some (.nx (wr (t_8 + 1)))
    else
      some (.br (.inl ()))
noncomputable def b61 (h_ : Hall) (c : Int) (rate : Int) : Option Bool :=
  (c37 h_ c rate).bind fun y4 =>
  (b8f y4).bind fun y5 =>
  (get y5.Most c).bind fun x6 =>
  (b02 (c13 h_ c x6) (0)).bind fun
    | (.inl ()) => d2e
    | (.inr r') => some r'
def c8j (O : Orac) : Prop := ∀ (h_ : Hall) (c : Int) (rate : Int) (r : Bool) (hm0 : b61 h_ c rate = some r), Fn O "newel/newelref06.fits" [.agg [.fs 5 (List.map b0q h_.Combs), .fs 3 (List.map b0p h_.Trains), .fs 3 (List.map b0o h_.Shifts), I h_.Until], I c, I rate] (B r)
noncomputable def c1x (high_7 : Int) : Option (Int × Int) :=
  some (high_7, 0)
noncomputable def b60 (h_ : Hall) (c : Int) : (Int × Int) → Option (Out (Int × Int) Int)
  | (low_6, high_7) =>
    if decide (low_6 < high_7) then
      (quo .i64 (wr (low_6 + high_7)) 2).bind fun q17 =>
      (b61 h_ c q17).bind fun y19 =>
      if y19 then
        some (.nx (low_6, q17))
      else
        some (.nx (wr (q17 + 1), high_7))
    else
      some (.br high_7)
noncomputable def b6z (h_ : Hall) (c : Int) : Option (Int × Int) :=
  (b5z h_).bind fun y2 =>
  if decide (¬y2 = 0) then
    some (0, 60)
  else
    if !(b7h h_ c) then
      some (0, 1)
    else
      (b61 h_ c 1000).bind fun y8 =>
      if !y8 then
        some (0, 3)
      else
        (b02 (b60 h_ c) (0, 1000)).bind fun high_7 =>
        c1x high_7
def c8h (O : Orac) : Prop := ∀ (h_ : Hall) (c : Int) (r : Int × Int) (hm0 : b6z h_ c = some r), Fn O "newel/newelref06.Need" [.agg [.fs 5 (List.map b0q h_.Combs), .fs 3 (List.map b0p h_.Trains), .fs 3 (List.map b0o h_.Shifts), I h_.Until], I c] (.tup [I r.1, I r.2])
noncomputable def d2f (l_4 : List (Int × Int)) : Option (List (Int × Int)) :=
  some l_4
noncomputable def c7i (c_5 : Int) (l_4_1 : List (Int × Int)) : Option (Out ((List (Int × Int)) × Int) (((List (Int × Int))))) :=
  some (.nx (l_4_1, wr (c_5 + 1)))
noncomputable def c14 (h_ : Hall) (y2 : r06_Bounds) (l_4 : List (Int × Int)) (c_5 : Int) : Int → Option (Out Int (((List (Int × Int)))))
  | t_6 =>
    if decide (t_6 < h_.Until) then
      (get y2.Most c_5).bind fun x17 =>
      (get x17 t_6).bind fun x18 =>
      (get h_.Combs c_5).bind fun x19 =>
      if decide (x19.Limit < x18) then
        (ap 16 l_4 ([(c_5, t_6)])).bind fun l22 =>
        some (.br l22)
      else
        some (.nx (wr (t_6 + 1)))
    else
      some (.br l_4)
noncomputable def c4a (h_ : Hall) (y2 : r06_Bounds) : ((List (Int × Int)) × Int) → Option (Out ((List (Int × Int)) × Int) (((List (Int × Int)))))
  | (l_4, c_5) =>
    if decide (c_5 < (List.length h_.Combs : Int)) then
      (b02 (c14 h_ y2 l_4 c_5) (0)).bind fun l_4_1 =>
      c7i c_5 l_4_1
    else
      some (.br l_4)
noncomputable def b9s (h_ : Hall) : Option (List (Int × Int)) :=
  (b8f h_).bind fun y2 =>
  (b02 (c4a h_ y2) ([], 0)).bind fun l_4 =>
  d2f l_4
def c8k (O : Orac) : Prop := ∀ (h_ : Hall) (r : List (Int × Int)) (hm0 : b9s h_ = some r), Fn O "newel/newelref06.over" [.agg [.fs 5 (List.map b0q h_.Combs), .fs 3 (List.map b0p h_.Trains), .fs 3 (List.map b0o h_.Shifts), I h_.Until]] (.fs 2 (List.map b35 r))
noncomputable def c7e : Option (Int × Int) :=
  some (0, 3)
noncomputable def b9p (h_ : Hall) (c : Int) (from_ : Int) : Int → Option (Out Int (Unit ⊕ ((Int × Int))))
  | ticks_8 =>
    if decide (ticks_8 ≤ (wr (h_.Until - from_))) then
      (b9q h_ c from_ ticks_8).bind fun y16 =>
      (b9s y16).bind fun y17 =>
      if decide ((List.length y17 : Int) = 0) then
        some (.br (.inr (ticks_8, 0)))
      else
        some (.nx (wr (ticks_8 + 1)))
    else
      some (.br (.inl ()))
noncomputable def b6y (h_ : Hall) (c : Int) (from_ : Int) : Option (Int × Int) :=
  (b5z h_).bind fun y2 =>
  if decide (¬y2 = 0) then
    some (0, 60)
  else
    if (!(b7h h_ c)) || (!(b2y from_ 0 (wr (h_.Until - 1)))) then
      some (0, 1)
    else
      (b02 (b9p h_ c from_) (0)).bind fun
        | (.inl ()) => c7e
        | (.inr r') => some r'
def c8g (O : Orac) : Prop := ∀ (h_ : Hall) (c : Int) (from_ : Int) (r : Int × Int) (hm0 : b6y h_ c from_ = some r), Fn O "newel/newelref06.Guard" [.agg [.fs 5 (List.map b0q h_.Combs), .fs 3 (List.map b0p h_.Trains), .fs 3 (List.map b0o h_.Shifts), I h_.Until], I c, I from_] (.tup [I r.1, I r.2])
noncomputable def c3w (h_ : Hall) (comb : Int) (from_ : Int) : Option Bool :=
  (c3v h_).bind fun y2 =>
  if y2 then
    (b78).bind fun y6 =>
    some y6
  else
    (b6d h_ comb).bind fun y8 =>
    (b6z h_ comb).bind fun y10 =>
    (b42 h_ comb from_).bind fun y12 =>
    (b6y h_ comb from_).bind fun y14 =>
    (if (((decide (y8.1 = y10.1)) && (decide (y8.2 = y10.2))) && (decide (y12.1 = y14.1))) && (decide (y12.2 = y14.2)) then (b78).bind fun y17 =>
    some y17 else some false).bind fun c18 =>
    some c18
def d26 (O : Orac) : Prop := ∀ (h_ : Hall) (comb : Int) (from_ : Int) (r : Bool) (hm0 : c3w h_ comb from_ = some r), Fn O "newel/newellaw06.HallsNeeds" [.agg [.fs 5 (List.map b0q h_.Combs), .fs 3 (List.map b0p h_.Trains), .fs 3 (List.map b0o h_.Shifts), I h_.Until], I comb, I from_] (B r)
structure Day where
  At : List Int
  People : List (List Int)
  Walks : List (List Int)
  deriving Inhabited, DecidableEq
end Go.Nw.HM
