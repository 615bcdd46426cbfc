/- Models of functions: printed by gen.py. -/
import Derived.Test.YteoedeeljnboeaaNwWcall
import Derived.Test.YteoedeeljnboeaaNwHallsSrc
set_option linter.all false
set_option linter.unusedVariables false
set_option linter.unusedSimpArgs false
set_option linter.unusedSectionVars false
namespace Go.Nw.HM
open Go.Nw.Halls
set_option linter.unusedSimpArgs false
set_option linter.unusedVariables false
set_option maxHeartbeats 4000000
theorem lA9 {α : Type} {l m : List α} : (l ++ m).length = l.length + m.length := List.length_append
theorem mA9 {α β : Type} {f : α → β} {l m : List α} : List.map f (l ++ m) = List.map f l ++ List.map f m := List.map_append
theorem oF9 {a b : Bool} : (a || b) = false ↔ a = false ∧ b = false := Bool.or_eq_false_iff
theorem nF9 : (¬False) = True := not_false_eq_true
theorem bF9 {α : Type} [BEq α] [LawfulBEq α] {a b : α} : (a == b) = false ↔ a ≠ b := beq_eq_false_iff_ne
theorem sI9 {α : Type} {a b : α} (h : some a = some b) : a = b := Option.some.inj h
variable {O : Orac}
structure Span where
  Low : Int
  High : Int
  deriving Inhabited, DecidableEq
structure Comb where
  Rate : Int
  Limit : Int
  Next : Int
  Walk : Span
  deriving Inhabited, DecidableEq
structure Crowd where
  Comb : Int
  People : Span
  deriving Inhabited, DecidableEq
structure Train where
  At : Span
  Crowds : List Crowd
  deriving Inhabited, DecidableEq
structure Shift where
  At : Int
  Comb : Int
  Rate : Int
  deriving Inhabited, DecidableEq
structure Hall where
  Combs : List Comb
  Trains : List Train
  Shifts : List Shift
  Until : Int
  deriving Inhabited, DecidableEq
@[go_sem] def b0r (x : Comb) : List AV := [I x.Rate, I x.Limit, I x.Next, I x.Walk.Low, I x.Walk.High]
theorem b20 (x : Comb) : ∀ c ∈ b0r x, Frz c := (b0f (b0o _) (b0f (b0o _) (b0f (b0o _) (b0f (b0o _) (b0f (b0o _) b06)))))
theorem j1l (x : Comb) : (b0r x).length = 5 := rfl
@[go_sem] theorem m16 {l : List Comb} {n : Nat} {a0 : Int} {a1 : Int} {a2 : Int} {a3 : Int} {a4 : Int} : (List.map b0r l).set n [I a0, I a1, I a2, I a3, I a4] = List.map b0r (l.set n (Comb.mk a0 a1 a2 (Span.mk a3 a4))) := by rw [List.map_set]; rfl
@[go_sem] def b2m (x : Crowd) : List AV := [I x.Comb, I x.People.Low, I x.People.High]
theorem c2u (x : Crowd) : ∀ c ∈ b2m x, Frz c := (b0f (b0o _) (b0f (b0o _) (b0f (b0o _) b06)))
theorem d8c (x : Crowd) : (b2m x).length = 3 := rfl
@[go_sem] theorem m17 {l : List Crowd} {n : Nat} {a0 : Int} {a1 : Int} {a2 : Int} : (List.map b2m l).set n [I a0, I a1, I a2] = List.map b2m (l.set n (Crowd.mk a0 (Span.mk a1 a2))) := by rw [List.map_set]; rfl
@[go_sem] def b0p (x : Train) : List AV := [I x.At.Low, I x.At.High, .fs 3 (List.map b2m x.Crowds)]
theorem b24 (x : Train) : ∀ c ∈ b0p x, Frz c := (b0f (b0o _) (b0f (b0o _) (b0f (b01 fun a _ => c2u a) b06)))
theorem j1n (x : Train) : (b0p x).length = 3 := rfl
@[go_sem] theorem m2b {l : List Train} {n : Nat} {a0 : Int} {a1 : Int} {a2 : List Crowd} : (List.map b0p l).set n [I a0, I a1, .fs 3 (List.map b2m a2)] = List.map b0p (l.set n (Train.mk (Span.mk a0 a1) a2)) := by rw [List.map_set]; rfl
@[go_sem] def b0u (x : Shift) : List AV := [I x.At, I x.Comb, I x.Rate]
theorem b28 (x : Shift) : ∀ c ∈ b0u x, Frz c := (b0f (b0o _) (b0f (b0o _) (b0f (b0o _) b06)))
@[go_sem] theorem m2a {l : List Shift} {n : Nat} {a0 : Int} {a1 : Int} {a2 : Int} : (List.map b0u l).set n [I a0, I a1, I a2] = List.map b0u (l.set n (Shift.mk a0 a1 a2)) := by rw [List.map_set]; rfl
noncomputable def d1h : Option Bool :=
  some false
noncomputable def c0x (h_ : Hall) : Int → Option (Out Int (Unit ⊕ Bool))
  | i_3 =>
    if decide (i_3 < (List.length h_.Trains : Int)) then
      (get h_.Trains i_3).bind fun x14 =>
      if decide (10 < (List.length x14.Crowds : Int)) then
        some (.br (.inr true))
      else
        some (.nx (wr (i_3 + 1)))
    else
      some (.br (.inl ()))
noncomputable def c3n (h_ : Hall) : Option Bool :=
  if (((decide (12 < (List.length h_.Combs : Int))) || (decide (20 < (List.length h_.Trains : Int)))) || (decide (40 < (List.length h_.Shifts : Int)))) || ((decide (40 < h_.Until)) && (decide (h_.Until ≤ 100))) then
    some true
  else
    (b08 (c0x h_) (0)).bind fun
      | (.inl ()) => d1h
      | (.inr r') => some r'
def c74 (O : Orac) : Prop := ∀ (h_ : Hall) (r : Bool) (hm0 : c3n h_ = some r), Fn O "newel/newellaw06.Far" [.agg [.fs 5 (List.map b0r h_.Combs), .fs 3 (List.map b0p h_.Trains), .fs 3 (List.map b0u h_.Shifts), I h_.Until]] (B r)
noncomputable def b2v (n : Int) (low : Int) (high : Int) : Bool :=
  (decide (low ≤ n)) && (decide (n ≤ high))
def c14 (O : Orac) : Prop := ∀ (n : Int) (low : Int) (high : Int), Fn O "newel/newelref06.within" [I n, I low, I high] (B (b2v n low high))
noncomputable def b4p (s : Span) (low : Int) (high : Int) : Bool :=
  ((decide (low ≤ s.Low)) && (decide (s.Low ≤ s.High))) && (decide (s.High ≤ high))
def c8d (O : Orac) : Prop := ∀ (s : Span) (low : Int) (high : Int), Fn O "newel/newelref06.spanned" [.agg [I s.Low, I s.High], I low, I high] (B (b4p s low high))
noncomputable def d14 : Option Int :=
  some 0
noncomputable def c1l (h_ : Hall) : Int → Option (Out Int (Unit ⊕ Int))
  | i_10 =>
    if decide (i_10 < (List.length h_.Shifts : Int)) then
      (get h_.Shifts i_10).bind fun x17 =>
      (if ((!(b2v x17.At 0 (wr (h_.Until - 1)))) || (!(b2v x17.Comb 0 (wr ((List.length h_.Combs : Int) - 1))))) || (!(b2v x17.Rate 0 1000)) then some true else (if decide (0 < i_10) then (get h_.Shifts (wr (i_10 - 1))).bind fun x21 =>
      some (decide (x17.At < x21.At)) else some false).bind fun c22 =>
      some c22).bind fun c23 =>
      if c23 then
        some (.br (.inr 60))
      else
        some (.nx (wr (i_10 + 1)))
    else
      some (.br (.inl ()))
noncomputable def c64 (h_ : Hall) : Option Int :=
  (b08 (c1l h_) (0)).bind fun
    | (.inl ()) => d14
    | (.inr r') => some r'
noncomputable def c62 (i_6 : Int) : Option (Out Int (Unit ⊕ Int)) :=
  some (.nx (wr (i_6 + 1)))
noncomputable def b7z (h_ : Hall) (x36 : Train) : (Int × Int) → Option (Out (Int × Int) (Unit ⊕ Int))
  | (last_8, k_9) =>
    if decide (k_9 < (List.length x36.Crowds : Int)) then
      (get x36.Crowds k_9).bind fun x45 =>
      if (!(b2v x45.Comb (wr (last_8 + 1)) (wr ((List.length h_.Combs : Int) - 1)))) || (!(b4p x45.People 0 1000)) then
        some (.br (.inr 60))
      else
        some (.nx (x45.Comb, wr (k_9 + 1)))
    else
      some (.br (.inl ()))
noncomputable def c1k (h_ : Hall) : Int → Option (Out Int (Unit ⊕ Int))
  | i_6 =>
    if decide (i_6 < (List.length h_.Trains : Int)) then
      (get h_.Trains i_6).bind fun x36 =>
      if (!(b4p x36.At 0 (wr (h_.Until - 1)))) || (decide (4 < (List.length x36.Crowds : Int))) then
        some (.br (.inr 60))
      else
        (b08 (b7z h_ x36) ((-1), 0)).bind fun
          | (.inl ()) => c62 i_6
          | (.inr r') => some (.br (.inr r'))
    else
      some (.br (.inl ()))
noncomputable def c63 (h_ : Hall) : Option Int :=
  (b08 (c1k h_) (0)).bind fun
    | (.inl ()) => c64 h_
    | (.inr r') => some r'
noncomputable def c1j (h_ : Hall) : Int → Option (Out Int (Unit ⊕ Int))
  | i_4 =>
    if decide (i_4 < (List.length h_.Combs : Int)) then
      (get h_.Combs i_4).bind fun x56 =>
      if (((!(b2v x56.Rate 0 1000)) || (!(b2v x56.Limit 0 100000))) || ((decide (¬x56.Next = (-1))) && (!(b2v x56.Next (wr (i_4 + 1)) (wr ((List.length h_.Combs : Int) - 1)))))) || (!(b4p x56.Walk 1 20)) then
        some (.br (.inr 60))
      else
        some (.nx (wr (i_4 + 1)))
    else
      some (.br (.inl ()))
noncomputable def b6c (h_ : Hall) : Option Int :=
  if (((!(b2v h_.Until 1 100)) || (!(b2v (List.length h_.Combs : Int) 1 8))) || (decide (12 < (List.length h_.Trains : Int)))) || (decide (20 < (List.length h_.Shifts : Int))) then
    some 60
  else
    (b08 (c1j h_) (0)).bind fun
      | (.inl ()) => c63 h_
      | (.inr r') => some r'
def c79 (O : Orac) : Prop := ∀ (h_ : Hall) (r : Int) (hm0 : b6c h_ = some r), Fn O "newel/newelref06.Check" [.agg [.fs 5 (List.map b0r h_.Combs), .fs 3 (List.map b0p h_.Trains), .fs 3 (List.map b0u h_.Shifts), I h_.Until]] (I r)
noncomputable def l06_Example : Hall :=
  (Hall.mk ([(Comb.mk 3 12 1 (Span.mk 2 3)), (Comb.mk 2 10 (-1) (Span.mk 1 1))]) ([(Train.mk (Span.mk 2 4) ([(Crowd.mk 0 (Span.mk 6 10))])), (Train.mk (Span.mk 5 5) ([(Crowd.mk 0 (Span.mk 0 4)), (Crowd.mk 1 (Span.mk 3 3))]))]) ([]) 20)
def c73 (O : Orac) : Prop := ∀ (_ : Unit), Fn O "newel/newellaw06.Example" [] (.agg [.fs 5 (List.map b0r ((l06_Example).Combs)), .fs 3 (List.map b0p ((l06_Example).Trains)), .fs 3 (List.map b0u ((l06_Example).Shifts)), I ((l06_Example).Until)])
noncomputable def b4l (n : Int) (s : Span) : Bool :=
  (decide (s.Low ≤ n)) && (decide (n ≤ s.High))
def c4p (O : Orac) : Prop := ∀ (n : Int) (s : Span), Fn O "newel/halls.in" [I n, .agg [I s.Low, I s.High]] (B (b4l n s))
noncomputable def b4u (s : Span) (low : Int) (high : Int) : Bool :=
  ((decide (low ≤ s.Low)) && (decide (s.Low ≤ s.High))) && (decide (s.High ≤ high))
def c4r (O : Orac) : Prop := ∀ (s : Span) (low : Int) (high : Int), Fn O "newel/halls.span" [.agg [I s.Low, I s.High], I low, I high] (B (b4u s low high))
noncomputable def b8x (h_ : Hall) (i : Int) : Option Bool :=
  (get h_.Combs i).bind fun x2 =>
  some ((((b4l x2.Rate (Span.mk 0 1000)) && (b4l x2.Limit (Span.mk 0 100000))) && ((decide (x2.Next = (-1))) || ((decide (i < x2.Next)) && (decide (x2.Next < (List.length h_.Combs : Int)))))) && (b4u x2.Walk 1 20))
def c7z (O : Orac) : Prop := ∀ (h_ : Hall) (i : Int) (r : Bool) (hm0 : b8x h_ i = some r), Fn O "newel/halls.isComb" [.agg [.fs 5 (List.map b0r h_.Combs), .fs 3 (List.map b0p h_.Trains), .fs 3 (List.map b0u h_.Shifts), I h_.Until], I i] (B r)
noncomputable def c0k (h_ : Hall) (t_ : Train) : Option Bool :=
  some ((b4u t_.At 0 (wr (h_.Until - 1))) && (decide ((List.length t_.Crowds : Int) ≤ 4)))
noncomputable def b6q (h_ : Hall) (t_ : Train) : (Int × Int) → Option (Out (Int × Int) (Unit ⊕ Bool))
  | (last_5, x_11) =>
    if decide (x_11 < (List.length t_.Crowds : Int)) then
      (get t_.Crowds x_11).bind fun x9 =>
      if ((decide (x9.Comb ≤ last_5)) || (decide ((List.length h_.Combs : Int) ≤ x9.Comb))) || (!(b4u x9.People 0 1000)) then
        some (.br (.inr false))
      else
        some (.nx (x9.Comb, wr (x_11 + 1)))
    else
      some (.br (.inl ()))
noncomputable def b8y (h_ : Hall) (t_ : Train) : Option Bool :=
  (b08 (b6q h_ t_) ((-1), 0)).bind fun
    | (.inl ()) => c0k h_ t_
    | (.inr r') => some r'
def c70 (O : Orac) : Prop := ∀ (h_ : Hall) (t_ : Train) (r : Bool) (hm0 : b8y h_ t_ = some r), Fn O "newel/halls.isTrain" [.agg [.fs 5 (List.map b0r h_.Combs), .fs 3 (List.map b0p h_.Trains), .fs 3 (List.map b0u h_.Shifts), I h_.Until], .agg [I t_.At.Low, I t_.At.High, .fs 3 (List.map b2m t_.Crowds)]] (B r)
noncomputable def b7i (t_ : Train) (c0 : Hall) : Option Bool :=
  (b8y c0 t_).bind fun y2 =>
  some (!y2)
def c7s (O : Orac) : Prop := ∀ (t_ : Train) (c0 : Hall) (r : Bool) (hm0 : b7i t_ c0 = some r), Fn O "newel/halls.Check$1" [.agg [I t_.At.Low, I t_.At.High, .fs 3 (List.map b2m t_.Crowds)], .fp [.fs 5 (List.map b0r c0.Combs), .fs 3 (List.map b0p c0.Trains), .fs 3 (List.map b0u c0.Shifts), I c0.Until] 0] (B r)
noncomputable def c4f : Option Int :=
  some (-1)
noncomputable def c7h (s : List Train) (f : Train → Option Bool) : Int → Option (Out Int (Unit ⊕ Int))
  | x_8 =>
    if decide (x_8 < (List.length s : Int)) then
      (get s x_8).bind fun x9 =>
      (f x9).bind fun y10 =>
      if y10 then
        some (.br (.inr x_8))
      else
        some (.nx (wr (x_8 + 1)))
    else
      some (.br (.inl ()))
noncomputable def c4e (s : List Train) (f : Train → Option Bool) : Option Int :=
  (b08 (c7h s f) (0)).bind fun
    | (.inl ()) => c4f
    | (.inr r') => some r'
def c8i (O : Orac) : Prop := ∀ (s : List Train) (f_n : String) (f_a f_b : List AV) (f : Train → Option Bool) (f_z : Frz (.fn f_n f_a f_b)) (f_h : ∀ z0 y, f z0 = some y → Fn O f_n (f_a ++ [.agg [I z0.At.Low, I z0.At.High, .fs 3 (List.map b2m z0.Crowds)]] ++ f_b) (B y)) (r : Int) (hm0 : c4e s f = some r), Fn O "slices.IndexFunc[[]newel/api.Train,newel/api.Train]" [.fs 3 (List.map b0p s), .fn f_n f_a f_b] (I r)
noncomputable def c1y (s : List Train) (f : Train → Option Bool) : Option Bool :=
  (c4e s f).bind fun y2 =>
  some (decide (0 ≤ y2))
def c8f (O : Orac) : Prop := ∀ (s : List Train) (f_n : String) (f_a f_b : List AV) (f : Train → Option Bool) (f_z : Frz (.fn f_n f_a f_b)) (f_h : ∀ z0 y, f z0 = some y → Fn O f_n (f_a ++ [.agg [I z0.At.Low, I z0.At.High, .fs 3 (List.map b2m z0.Crowds)]] ++ f_b) (B y)) (r : Bool) (hm0 : c1y s f = some r), Fn O "slices.ContainsFunc[[]newel/api.Train,newel/api.Train]" [.fs 3 (List.map b0p s), .fn f_n f_a f_b] (B r)
noncomputable def c2w : Option Int :=
  some 0
noncomputable def b7j (h_ : Hall) : Int → Option (Out Int (Unit ⊕ Int))
  | x_56 =>
    if decide (x_56 < (List.length h_.Shifts : Int)) then
      (get h_.Shifts x_56).bind fun x23 =>
      (if (decide (x23.At < 0)) || (decide (h_.Until ≤ x23.At)) then some true else (if decide (0 < x_56) then (get h_.Shifts (wr (x_56 - 1))).bind fun x27 =>
      some (decide (x23.At < x27.At)) else some false).bind fun c28 =>
      some c28).bind fun c29 =>
      if ((c29 || (decide (x23.Comb < 0))) || (decide ((List.length h_.Combs : Int) ≤ x23.Comb))) || (!(b4l x23.Rate (Span.mk 0 1000))) then
        some (.br (.inr 60))
      else
        some (.nx (wr (x_56 + 1)))
    else
      some (.br (.inl ()))
noncomputable def b98 (h_ : Hall) : Option Int :=
  (c1y h_.Trains (fun z12 => b7i z12 h_)).bind fun y13 =>
  if y13 then
    some 60
  else
    (b08 (b7j h_) (0)).bind fun
      | (.inl ()) => c2w
      | (.inr r') => some r'
noncomputable def b7k (h_ : Hall) : Int → Option (Out Int (Unit ⊕ Int))
  | x_41 =>
    if decide (x_41 < (List.length h_.Combs : Int)) then
      (b8x h_ x_41).bind fun y45 =>
      if !y45 then
        some (.br (.inr 60))
      else
        some (.nx (wr (x_41 + 1)))
    else
      some (.br (.inl ()))
noncomputable def b46 (h_ : Hall) : Option Int :=
  if (((((decide (h_.Until < 1)) || (decide (100 < h_.Until))) || (decide ((List.length h_.Combs : Int) < 1))) || (decide (8 < (List.length h_.Combs : Int)))) || (decide (12 < (List.length h_.Trains : Int)))) || (decide (20 < (List.length h_.Shifts : Int))) then
    some 60
  else
    (b08 (b7k h_) (0)).bind fun
      | (.inl ()) => b98 h_
      | (.inr r') => some r'
def c4n (O : Orac) : Prop := ∀ (h_ : Hall) (r : Int) (hm0 : b46 h_ = some r), Fn O "newel/halls.Check" [.agg [.fs 5 (List.map b0r h_.Combs), .fs 3 (List.map b0p h_.Trains), .fs 3 (List.map b0u h_.Shifts), I h_.Until]] (I r)
noncomputable def b6x (t_ : Int) (c0 : Hall) : Bool :=
  (decide (t_ < 0)) || (decide (c0.Until ≤ t_))
def c7y (O : Orac) : Prop := ∀ (t_ : Int) (c0 : Hall), Fn O "newel/halls.check$1" [I t_, .fp [.fs 5 (List.map b0r c0.Combs), .fs 3 (List.map b0p c0.Trains), .fs 3 (List.map b0u c0.Shifts), I c0.Until] 0] (B (b6x t_ c0))
noncomputable def c4g : Option Int :=
  some (-1)
noncomputable def c7i (s : List Int) (f : Int → Option Bool) : Int → Option (Out Int (Unit ⊕ Int))
  | x_8 =>
    if decide (x_8 < (List.length s : Int)) then
      (get s x_8).bind fun x9 =>
      (f x9).bind fun y10 =>
      if y10 then
        some (.br (.inr x_8))
      else
        some (.nx (wr (x_8 + 1)))
    else
      some (.br (.inl ()))
noncomputable def c11 (s : List Int) (f : Int → Option Bool) : Option Int :=
  (b08 (c7i s f) (0)).bind fun
    | (.inl ()) => c4g
    | (.inr r') => some r'
def c4u (O : Orac) : Prop := ∀ (s : List Int) (f_n : String) (f_a f_b : List AV) (f : Int → Option Bool) (f_z : Frz (.fn f_n f_a f_b)) (f_h : ∀ z0 y, f z0 = some y → Fn O f_n (f_a ++ [I z0] ++ f_b) (B y)) (r : Int) (hm0 : c11 s f = some r), Fn O "slices.IndexFunc[[]int,int]" [.fs 1 (List.map eI s), .fn f_n f_a f_b] (I r)
noncomputable def c1z (s : List Int) (f : Int → Option Bool) : Option Bool :=
  (c11 s f).bind fun y2 =>
  some (decide (0 ≤ y2))
def c8g (O : Orac) : Prop := ∀ (s : List Int) (f_n : String) (f_a f_b : List AV) (f : Int → Option Bool) (f_z : Frz (.fn f_n f_a f_b)) (f_h : ∀ z0 y, f z0 = some y → Fn O f_n (f_a ++ [I z0] ++ f_b) (B y)) (r : Bool) (hm0 : c1z s f = some r), Fn O "slices.ContainsFunc[[]int,int]" [.fs 1 (List.map eI s), .fn f_n f_a f_b] (B r)
noncomputable def b6w (h_ : Hall) (comb : Int) (ticks : List Int) : Option Int :=
  (b46 h_).bind fun y2 =>
  if decide (¬y2 = 0) then
    some y2
  else
    (if (decide (comb < 0)) || (decide ((List.length h_.Combs : Int) ≤ comb)) then some true else (c1z ticks (fun z8 => some (b6x z8 h_))).bind fun y9 =>
    some y9).bind fun c10 =>
    if c10 then
      some 1
    else
      some 0
def c4o (O : Orac) : Prop := ∀ (h_ : Hall) (comb : Int) (ticks : List Int) (r : Int) (hm0 : b6w h_ comb ticks = some r), Fn O "newel/halls.check" [.agg [.fs 5 (List.map b0r h_.Combs), .fs 3 (List.map b0p h_.Trains), .fs 3 (List.map b0u h_.Shifts), I h_.Until], I comb, .fs 1 (List.map eI ticks)] (I r)
noncomputable def c3c (out_5 : List Int) : Option (List Int) :=
  some out_5
noncomputable def c0o (x_20 : Int) (out_5_1 : List Int) (now_6_1 : Int) (at_7_1 : Int) : Option (Out ((List Int) × Int × Int × Int) (((List Int)))) :=
  some (.nx (out_5_1, now_6_1, at_7_1, wr (x_20 + 1)))
noncomputable def c0p (out_5 : List Int) (x_20 : Int) (now_6_1 : Int) (at_7_1 : Int) : Option (Out ((List Int) × Int × Int × Int) (((List Int)))) :=
  (get out_5 x_20).bind fun x15 =>
  c0o x_20 (List.set out_5 (Int.toNat x_20) now_6_1) now_6_1 at_7_1
noncomputable def b82 (at_7_1 : Int) (now_6_2 : Int) : Option (Out (Int × Int) ((Int × Int))) :=
  some (.nx (now_6_2, wr (at_7_1 + 1)))
noncomputable def b7s (h_ : Hall) (comb : Int) (x_20 : Int) : (Int × Int) → Option (Out (Int × Int) ((Int × Int)))
  | (now_6_1, at_7_1) =>
    (if decide (at_7_1 < (List.length h_.Shifts : Int)) then (get h_.Shifts at_7_1).bind fun x19 =>
    some (decide (x19.At ≤ x_20)) else some false).bind fun c20 =>
    if c20 then
      (get h_.Shifts at_7_1).bind fun x27 =>
      if decide (x27.Comb = comb) then
        b82 at_7_1 x27.Rate
      else
        b82 at_7_1 now_6_1
    else
      some (.br (now_6_1, at_7_1))
noncomputable def b81 (h_ : Hall) (comb : Int) (l2 : List Int) : ((List Int) × Int × Int × Int) → Option (Out ((List Int) × Int × Int × Int) (((List Int))))
  | (out_5, now_6, at_7, x_20) =>
    if decide (x_20 < ((List.length l2 : Nat) : Int)) then
      (b08 (b7s h_ comb x_20) (now_6, at_7)).bind fun
        | (now_6_1, at_7_1) => c0p out_5 x_20 now_6_1 at_7_1
    else
      some (.br out_5)
noncomputable def b80 (h_ : Hall) (comb : Int) : Option (List Int) :=
  (mks 8 h_.Until 0).bind fun l2 =>
  (get h_.Combs comb).bind fun x4 =>
  (b08 (b81 h_ comb l2) (l2, x4.Rate, 0, 0)).bind fun out_5 =>
  c3c out_5
def c72 (O : Orac) : Prop := ∀ (h_ : Hall) (comb : Int) (r : List Int) (hm0 : b80 h_ comb = some r), FnW O "newel/halls.rates" [.agg [.fs 5 (List.map b0r h_.Combs), .fs 3 (List.map b0p h_.Trains), .fs 3 (List.map b0u h_.Shifts), I h_.Until], I comb] 1 eI r
@[go_sem] def b0s (x : List Int) : List AV := [.fs 1 (List.map eI x)]
theorem b21 (x : List Int) : ∀ c ∈ b0s x, Frz c := (b0f (b01 fun a _ => b2r a) b06)
theorem b58 (x : List Int) : (b0s x).length = 1 := rfl
@[go_sem] theorem m18 {l : List (List Int)} {n : Nat} {a0 : List Int} : (List.map b0s l).set n [.fs 1 (List.map eI a0)] = List.map b0s (l.set n a0) := by rw [List.map_set]; rfl
noncomputable def c3a (out_2 : List (List Int)) : Option (List (List Int)) :=
  some out_2
noncomputable def b8z (h_ : Hall) : ((List (List Int)) × Int) → Option (Out ((List (List Int)) × Int) (((List (List Int)))))
  | (out_2, x_7) =>
    if decide (x_7 < (List.length h_.Combs : Int)) then
      (b80 h_ x_7).bind fun y9 =>
      (ap 24 out_2 ([y9])).bind fun l10 =>
      some (.nx (l10, wr (x_7 + 1)))
    else
      some (.br out_2)
noncomputable def b5q (h_ : Hall) : Option (List (List Int)) :=
  (b08 (b8z h_) ([], 0)).bind fun out_2 =>
  c3a out_2
def c13 (O : Orac) : Prop := ∀ (h_ : Hall) (h0 : Heap) (r : List (List Int)) (hm0 : b5q h_ = some r), b7b O "newel/halls.open" [.agg [.fs 5 (List.map b0r h_.Combs), .fs 3 (List.map b0p h_.Trains), .fs 3 (List.map b0u h_.Shifts), I h_.Until]] h0 (fun v h => ∃ hs, RR h v hs 1 eI r ∧ (∀ j, j < h0.nx → h.ob j = h0.ob j) ∧ h0.nx ≤ h.nx ∧ ∀ j, ¬b0d v hs j → h0.nx ≤ j)
noncomputable def c26 (sum_8 : Int) : Option Int :=
  some sum_8
noncomputable def b7r (x_16 : Int) (sum_8_1 : Int) : Option (Out (Int × Int) Int) :=
  some (.nx (sum_8_1, wr (x_16 + 1)))
noncomputable def b7q (x_35 : Int) (sum_8_2 : Int) : Option (Out (Int × Int) Int) :=
  some (.nx (sum_8_2, wr (x_35 + 1)))
noncomputable def b8v (comb : Int) (x9 : Train) : (Int × Int) → Option (Out (Int × Int) Int)
  | (sum_8_1, x_35) =>
    if decide (x_35 < (List.length x9.Crowds : Int)) then
      (get x9.Crowds x_35).bind fun x19 =>
      if decide (x19.Comb = comb) then
        b7q x_35 (wr (sum_8_1 + x19.People.High))
      else
        b7q x_35 sum_8_1
    else
      some (.br sum_8_1)
noncomputable def b8w (h_ : Hall) (comb : Int) (from_ : Int) (to_ : Int) : (Int × Int) → Option (Out (Int × Int) Int)
  | (sum_8, x_16) =>
    if decide (x_16 < (List.length h_.Trains : Int)) then
      (get h_.Trains x_16).bind fun x9 =>
      if (decide (x9.At.High < from_)) || (decide (to_ < x9.At.Low)) then
        b7r x_16 sum_8
      else
        (b08 (b8v comb x9) (sum_8, 0)).bind fun sum_8_1 =>
        b7r x_16 sum_8_1
    else
      some (.br sum_8)
noncomputable def b8u (h_ : Hall) (comb : Int) (from_ : Int) (to_ : Int) : Option Int :=
  (b08 (b8w h_ comb from_ to_) (0, 0)).bind fun sum_8 =>
  c26 sum_8
def c7x (O : Orac) : Prop := ∀ (h_ : Hall) (comb : Int) (from_ : Int) (to_ : Int) (r : Int) (hm0 : b8u h_ comb from_ to_ = some r), Fn O "newel/halls.brought" [.agg [.fs 5 (List.map b0r h_.Combs), .fs 3 (List.map b0p h_.Trains), .fs 3 (List.map b0u h_.Shifts), I h_.Until], I comb, I from_, I to_] (I r)
structure halls_bound where
  rates : List Int
  flow : List Int
  most : List Int
  come : List (List Int)
  deriving Inhabited, DecidableEq
noncomputable def b9t (least_7 : Int) : Option Int :=
  some least_7
noncomputable def b69 (b : halls_bound) (from_ : Int) (least_7 : Int) (k_8 : Int) (behind_9 : Int) : Option (Out (Int × Int) Int) :=
  (get b.flow k_8).bind fun x23 =>
  (get b.flow (mx from_ 0)).bind fun x24 =>
  (get b.most k_8).bind fun x25 =>
  some (.nx (mn least_7 (wr ((wr ((wr (x23 - x24)) + x25)) + behind_9)), wr (k_8 + 1)))
noncomputable def b8d (b : halls_bound) (from_ : Int) (to_ : Int) : (Int × Int) → Option (Out (Int × Int) Int)
  | (least_7, k_8) =>
    if decide (k_8 ≤ to_) then
      if decide (k_8 < to_) then
        (get b.come (wr (k_8 + 1))).bind fun x29 =>
        (get x29 to_).bind fun x30 =>
        b69 b from_ least_7 k_8 x30
      else
        b69 b from_ least_7 k_8 0
    else
      some (.br least_7)
noncomputable def b8c (b : halls_bound) (from_ : Int) (to_ : Int) : Option Int :=
  if (decide (to_ < from_)) || (decide (to_ < 0)) then
    some 0
  else
    (get b.come 0).bind fun x8 =>
    (get x8 to_).bind fun x9 =>
    (get b.flow (wr (to_ + 1))).bind fun x10 =>
    (get b.flow (mx from_ 0)).bind fun x11 =>
    (b08 (b8d b from_ to_) (mn x9 (wr (x10 - x11)), mx from_ 0)).bind fun least_7 =>
    b9t least_7
def c7q (O : Orac) : Prop := ∀ (b : halls_bound) (from_ : Int) (to_ : Int) (r : Int) (hm0 : b8c b from_ to_ = some r), Fn O "(*newel/halls.bound).passes" [.fp [.fs 1 (List.map eI b.rates), .fs 1 (List.map eI b.flow), .fs 1 (List.map eI b.most), .fs 1 (List.map b0s b.come)] 0, I from_, I to_] (I r)
@[go_sem] def b27 (x : halls_bound) : List AV := [.fp [.fs 1 (List.map eI x.rates), .fs 1 (List.map eI x.flow), .fs 1 (List.map eI x.most), .fs 1 (List.map b0s x.come)] 0]
theorem d4b (x : halls_bound) : ∀ c ∈ b27 x, Frz c := (b0f (.fp _ _ (b0f (b01 fun a _ => b2r a) (b0f (b01 fun a _ => b2r a) (b0f (b01 fun a _ => b2r a) (b0f (b01 fun a _ => b21 a) b06))))) b06)
theorem j1m (x : halls_bound) : (b27 x).length = 1 := rfl
noncomputable def c25 (all_5 : List halls_bound) : Option (List halls_bound) :=
  some all_5
noncomputable def c0h (x_19 : Int) (all_5_1 : List halls_bound) : Option (Out ((List halls_bound) × Int) (((List halls_bound)))) :=
  some (.nx (all_5_1, wr (x_19 + 1)))
noncomputable def c0c (all_5 : List halls_bound) (x_19 : Int) (b_7_0 : List Int) (b_7_3 : List (List Int)) (b_7_1 : List Int) (b_7_2 : List Int) : Option (Out ((List halls_bound) × Int) (((List halls_bound)))) :=
  (ap 8 all_5 ([(halls_bound.mk b_7_0 b_7_1 b_7_2 b_7_3)])).bind fun l13 =>
  c0h x_19 l13
noncomputable def c0d (x_122 : Int) (b_7_1_1 : List Int) (b_7_2_1 : List Int) : Option (Out ((List Int) × (List Int) × Int) (((List Int) × (List Int)))) :=
  some (.nx (b_7_1_1, b_7_2_1, wr (x_122 + 1)))
noncomputable def c0e (open_ : List (List Int)) (x_19 : Int) (b_7_1 : List Int) (b_7_2 : List Int) (x_122 : Int) (most_14 : Int) : Option (Out ((List Int) × (List Int) × Int) (((List Int) × (List Int)))) :=
  (ap 8 b_7_2 ([most_14])).bind fun l22 =>
  (get b_7_1 x_122).bind fun x27 =>
  (get open_ x_19).bind fun x28 =>
  (get x28 x_122).bind fun x29 =>
  (ap 8 b_7_1 ([wr (x27 + (mn most_14 x29))])).bind fun l30 =>
  c0d x_122 l30 l22
noncomputable def b7n (b_7_0 : List Int) (b_7_3 : List (List Int)) (x_122 : Int) : (Int × Int) → Option (Out (Int × Int) Int)
  | (most_14, x_127) =>
    if decide (x_127 < (wr (x_122 + 1))) then
      (get b_7_3 x_127).bind fun x40 =>
      (get x40 x_122).bind fun x42 =>
      (get b_7_0 x_122).bind fun x43 =>
      (get b_7_0 x_127).bind fun x44 =>
      some (.nx (mx most_14 (wr (x42 - (wr (x43 - x44)))), wr (x_127 + 1)))
    else
      some (.br most_14)
noncomputable def b7o (h_ : Hall) (open_ : List (List Int)) (x_19 : Int) (b_7_0 : List Int) (b_7_3 : List (List Int)) : ((List Int) × (List Int) × Int) → Option (Out ((List Int) × (List Int) × Int) (((List Int) × (List Int))))
  | (b_7_1, b_7_2, x_122) =>
    if decide (x_122 < h_.Until) then
      (b08 (b7n b_7_0 b_7_3 x_122) (0, 0)).bind fun most_14 =>
      c0e open_ x_19 b_7_1 b_7_2 x_122 most_14
    else
      some (.br (b_7_1, b_7_2))
noncomputable def c0j (h_ : Hall) (open_ : List (List Int)) (all_5 : List halls_bound) (x_19 : Int) (b_7_0 : List Int) (b_7_3 : List (List Int)) : Option (Out ((List halls_bound) × Int) (((List halls_bound)))) :=
  (b08 (b7o h_ open_ x_19 b_7_0 b_7_3) ([0], [], 0)).bind fun
    | (b_7_1, b_7_2) => c0c all_5 x_19 b_7_0 b_7_3 b_7_1 b_7_2
noncomputable def c0f (x_28 : Int) (b_7_0_1 : List Int) (b_7_3_1 : List (List Int)) : Option (Out ((List Int) × (List (List Int)) × Int) (((List Int) × (List (List Int))))) :=
  some (.nx (b_7_0_1, b_7_3_1, wr (x_28 + 1)))
noncomputable def c0g (open_ : List (List Int)) (x_19 : Int) (b_7_0 : List Int) (b_7_3 : List (List Int)) (x_28 : Int) (row_9 : List Int) : Option (Out ((List Int) × (List (List Int)) × Int) (((List Int) × (List (List Int))))) :=
  (ap 24 b_7_3 ([row_9])).bind fun l57 =>
  (get b_7_0 x_28).bind fun x62 =>
  (get open_ x_19).bind fun x63 =>
  (get x63 x_28).bind fun x64 =>
  (ap 8 b_7_0 ([wr (x62 + x64)])).bind fun l65 =>
  c0f x_28 l65 l57
noncomputable def c0i (t_10 : Int) (row_9_1 : List Int) : Option (Out ((List Int) × Int) (((List Int)))) :=
  some (.nx (row_9_1, wr (t_10 + 1)))
noncomputable def b7p (x_54 : Int) (row_9_2 : List Int) : Option (Out ((List Int) × Int) (((List Int)))) :=
  some (.nx (row_9_2, wr (x_54 + 1)))
noncomputable def b8s (all_5 : List halls_bound) (x_19 : Int) (x_28 : Int) (t_10 : Int) (l76 : List Comb) : ((List Int) × Int) → Option (Out ((List Int) × Int) (((List Int))))
  | (row_9_1, x_54) =>
    if decide (x_54 < (List.length l76 : Int)) then
      (get l76 x_54).bind fun x83 =>
      if decide (x83.Next = x_19) then
        (get row_9_1 t_10).bind fun x89 =>
        (get all_5 x_54).bind fun x90 =>
        (b8c x90 (wr (x_28 - x83.Walk.High)) (wr (t_10 - x83.Walk.Low))).bind fun y92 =>
        b7p x_54 (List.set row_9_1 (Int.toNat t_10) (wr (x89 + y92)))
      else
        b7p x_54 row_9_1
    else
      some (.br row_9_1)
noncomputable def b7l (h_ : Hall) (all_5 : List halls_bound) (x_19 : Int) (x_28 : Int) : ((List Int) × Int) → Option (Out ((List Int) × Int) (((List Int))))
  | (row_9, t_10) =>
    if decide (t_10 < h_.Until) then
      (b8u h_ x_19 x_28 t_10).bind fun y73 =>
      (get row_9 t_10).bind fun x74 =>
      (sub h_.Combs 0 x_19).bind fun l76 =>
      (b08 (b8s all_5 x_19 x_28 t_10 l76) ((List.set row_9 (Int.toNat t_10) y73), 0)).bind fun row_9_1 =>
      c0i t_10 row_9_1
    else
      some (.br row_9)
noncomputable def b7m (h_ : Hall) (open_ : List (List Int)) (all_5 : List halls_bound) (x_19 : Int) : ((List Int) × (List (List Int)) × Int) → Option (Out ((List Int) × (List (List Int)) × Int) (((List Int) × (List (List Int)))))
  | (b_7_0, b_7_3, x_28) =>
    if decide (x_28 < h_.Until) then
      (mks 8 h_.Until 0).bind fun l53 =>
      (b08 (b7l h_ all_5 x_19 x_28) (l53, x_28)).bind fun row_9 =>
      c0g open_ x_19 b_7_0 b_7_3 x_28 row_9
    else
      some (.br (b_7_0, b_7_3))
noncomputable def b8t (h_ : Hall) (open_ : List (List Int)) : ((List halls_bound) × Int) → Option (Out ((List halls_bound) × Int) (((List halls_bound))))
  | (all_5, x_19) =>
    if decide (x_19 < (List.length h_.Combs : Int)) then
      (b08 (b7m h_ open_ all_5 x_19) ([0], [], 0)).bind fun
        | (b_7_0, b_7_3) => c0j h_ open_ all_5 x_19 b_7_0 b_7_3
    else
      some (.br all_5)
noncomputable def b55 (h_ : Hall) (open_ : List (List Int)) : Option (List halls_bound) :=
  (b08 (b8t h_ open_) ([], 0)).bind fun all_5 =>
  c25 all_5
def c12 (O : Orac) : Prop := ∀ (h_ : Hall) (open_ : List (List Int)) (v_1 : AV) (hs_1 : List AV) (h0 : Heap) (rr_p1 : RR h0 v_1 hs_1 1 eI open_) (r : List halls_bound) (hm0 : b55 h_ open_ = some r), b7b O "newel/halls.bounds" [.agg [.fs 5 (List.map b0r h_.Combs), .fs 3 (List.map b0p h_.Trains), .fs 3 (List.map b0u h_.Shifts), I h_.Until], v_1] h0 (fun v h => v = .fs 1 (List.map b27 r) ∧ (∀ j, j < h0.nx → h.ob j = h0.ob j) ∧ h0.nx ≤ h.nx)
noncomputable def c0m (n : Int) (c0 : Hall) (c1 : Int) : Option Bool :=
  (get c0.Combs c1).bind fun x2 =>
  some (decide (x2.Limit < n))
def c71 (O : Orac) : Prop := ∀ (n : Int) (c0 : Hall) (c1 : Int) (r : Bool) (hm0 : c0m n c0 c1 = some r), Fn O "newel/halls.over$1" [I n, .fp [.fs 5 (List.map b0r c0.Combs), .fs 3 (List.map b0p c0.Trains), .fs 3 (List.map b0u c0.Shifts), I c0.Until] 0, .fp [I c1] 0] (B r)
@[go_sem] def b5n (x : Int × Int) : List AV := [I x.1, I x.2]
theorem c5e (x : Int × Int) : ∀ c ∈ b5n x, Frz c := (b0f (b0o _) (b0f (b0o _) b06))
theorem j1k (x : Int × Int) : (b5n x).length = 2 := rfl
@[go_sem] theorem m15 {l : List (Int × Int)} {n : Nat} {a0 : Int} {a1 : Int} : (List.map b5n l).set n [I a0, I a1] = List.map b5n (l.set n (a0, a1)) := by rw [List.map_set]; rfl
noncomputable def c3b (out_4 : List (Int × Int)) : Option (List (Int × Int)) :=
  some out_4
noncomputable def c0n (x_10 : Int) (out_4_1 : List (Int × Int)) : Option (Out ((List (Int × Int)) × Int) (((List (Int × Int))))) :=
  some (.nx (out_4_1, wr (x_10 + 1)))
noncomputable def c5v (h_ : Hall) (all : List halls_bound) : ((List (Int × Int)) × Int) → Option (Out ((List (Int × Int)) × Int) (((List (Int × Int)))))
  | (out_4, x_10) =>
    if decide (x_10 < (List.length all : Int)) then
      (get all x_10).bind fun x9 =>
      (c11 x9.most (fun z12 => c0m z12 h_ x_10)).bind fun y13 =>
      if decide (0 ≤ y13) then
        (ap 16 out_4 ([(x_10, y13)])).bind fun l16 =>
        c0n x_10 l16
      else
        c0n x_10 out_4
    else
      some (.br out_4)
noncomputable def c0l (h_ : Hall) (all : List halls_bound) : Option (List (Int × Int)) :=
  (b08 (c5v h_ all) ([], 0)).bind fun out_4 =>
  c3b out_4
def c4q (O : Orac) : Prop := ∀ (h_ : Hall) (all : List halls_bound) (r : List (Int × Int)) (hm0 : c0l h_ all = some r), Fn O "newel/halls.over" [.agg [.fs 5 (List.map b0r h_.Combs), .fs 3 (List.map b0p h_.Trains), .fs 3 (List.map b0u h_.Shifts), I h_.Until], .fs 1 (List.map b27 all)] (.fs 2 (List.map b5n r))
noncomputable def c5j (h_ : Hall) (comb : Int) (from_ : Int) : ((List (List Int)) × Int) → Option (Out ((List (List Int)) × Int) (((Int × Int))))
  | (all_9, n_10) =>
    (b55 h_ all_9).bind fun y11 =>
    (c0l h_ y11).bind fun y12 =>
    if decide ((List.length y12 : Int) = 0) then
      some (.br (n_10, 0))
    else
      if decide ((wr (from_ + n_10)) = h_.Until) then
        some (.br (0, 3))
      else
        (get all_9 comb).bind fun x19 =>
        (get x19 (wr (from_ + n_10))).bind fun x20 =>
        some (.nx ((List.set all_9 (Int.toNat comb) (List.set x19 (Int.toNat (wr (from_ + n_10))) 0)), wr (n_10 + 1)))
noncomputable def c2x (h_ : Hall) (comb : Int) (from_ : Int) : Option (Int × Int) :=
  (b6w h_ comb ([from_])).bind fun y2 =>
  if decide (¬y2 = 0) then
    some (0, y2)
  else
    (b5q h_).bind fun y6 =>
    (b08 (c5j h_ comb from_) (y6, 0)).bind fun r' =>
    some r'
def c7t (O : Orac) : Prop := ∀ (h_ : Hall) (comb : Int) (from_ : Int) (r : Int × Int) (hm0 : c2x h_ comb from_ = some r), Fn O "newel/halls.Guard" [.agg [.fs 5 (List.map b0r h_.Combs), .fs 3 (List.map b0p h_.Trains), .fs 3 (List.map b0u h_.Shifts), I h_.Until], I comb, I from_] (.tup [I r.1, I r.2])
noncomputable def c2y (h_ : Hall) : Option ((List (Int × Int)) × Int) :=
  (b46 h_).bind fun y2 =>
  if decide (¬y2 = 0) then
    some ([], y2)
  else
    (b5q h_).bind fun y8 =>
    (b55 h_ y8).bind fun y9 =>
    (c0l h_ y9).bind fun y10 =>
    some (y10, 0)
def c7u (O : Orac) : Prop := ∀ (h_ : Hall) (r : (List (Int × Int)) × Int) (hm0 : c2y h_ = some r), Fn O "newel/halls.Over" [.agg [.fs 5 (List.map b0r h_.Combs), .fs 3 (List.map b0p h_.Trains), .fs 3 (List.map b0u h_.Shifts), I h_.Until]] (.tup [.fs 2 (List.map b5n r.1), I r.2])
noncomputable def b7u : Option Bool :=
  (c2x l06_Example 0 5).bind fun y2 =>
  (c2y l06_Example).bind fun y4 =>
  (if (((decide (y2.2 = 0)) && (decide (y4.2 = 0))) && (decide (y2.1 = 1))) && (decide ((List.length y4.1 : Int) = 1)) then (get y4.1 0).bind fun x7 =>
  some (decide (x7.1 = 1) && decide (x7.2 = 7)) else some false).bind fun c8 =>
  some c8
def c77 (O : Orac) : Prop := ∀ (r : Bool) (hm0 : b7u = some r), Fn O "newel/newellaw06.works" [] (B r)
noncomputable def d18 (l_5 : List Int) : Option (List Int) :=
  some l_5
noncomputable def c68 (t_6 : Int) (l_5_1 : List Int) : Option (Out ((List Int) × Int) (((List Int)))) :=
  some (.nx (l_5_1, wr (t_6 + 1)))
noncomputable def c1v (i_7 : Int) (l_5_2 : List Int) : Option (Out ((List Int) × Int) (((List Int)))) :=
  some (.nx (l_5_2, wr (i_7 + 1)))
noncomputable def c34 (h_ : Hall) (comb : Int) (t_6 : Int) : ((List Int) × Int) → Option (Out ((List Int) × Int) (((List Int))))
  | (l_5_1, i_7) =>
    if decide (i_7 < (List.length h_.Shifts : Int)) then
      (get h_.Shifts i_7).bind fun x20 =>
      if (decide (x20.Comb = comb)) && (decide (x20.At ≤ t_6)) then
        (get l_5_1 t_6).bind fun x24 =>
        c1v i_7 (List.set l_5_1 (Int.toNat t_6) x20.Rate)
      else
        c1v i_7 l_5_1
    else
      some (.br l_5_1)
noncomputable def c35 (h_ : Hall) (comb : Int) : ((List Int) × Int) → Option (Out ((List Int) × Int) (((List Int))))
  | (l_5, t_6) =>
    if decide (t_6 < h_.Until) then
      (get h_.Combs comb).bind fun x12 =>
      (get l_5 t_6).bind fun x13 =>
      (b08 (c34 h_ comb t_6) ((List.set l_5 (Int.toNat t_6) x12.Rate), 0)).bind fun l_5_1 =>
      c68 t_6 l_5_1
    else
      some (.br l_5)
noncomputable def b71 (h_ : Hall) (comb : Int) : Option (List Int) :=
  (mks 8 h_.Until 0).bind fun l2 =>
  (b08 (c35 h_ comb) (l2, 0)).bind fun l_5 =>
  d18 l_5
def c4t (O : Orac) : Prop := ∀ (h_ : Hall) (comb : Int) (r : List Int) (hm0 : b71 h_ comb = some r), Fn O "newel/newelref06.rates" [.agg [.fs 5 (List.map b0r h_.Combs), .fs 3 (List.map b0p h_.Trains), .fs 3 (List.map b0u h_.Shifts), I h_.Until], I comb] (.fs 1 (List.map eI r))
structure l06_Window where
  Comb : Int
  From : Int
  To : Int
  deriving Inhabited, DecidableEq
structure l06_Less where
  Train : Int
  Crowd : Int
  At : Span
  People : Span
  deriving Inhabited, DecidableEq
noncomputable def b70 (h_ : Hall) (n : Int) : Bool :=
  (b2v n 0 (wr ((List.length h_.Combs : Int) - 1)))
def c8c (O : Orac) : Prop := ∀ (h_ : Hall) (n : Int), Fn O "newel/newelref06.comb" [.agg [.fs 5 (List.map b0r h_.Combs), .fs 3 (List.map b0p h_.Trains), .fs 3 (List.map b0u h_.Shifts), I h_.Until], I n] (B (b70 h_ n))
structure r06_Bounds where
  Most : List (List Int)
  Flow : List (List Int)
  Come : List (List (List Int))
  Pass : List (List (List Int))
  deriving Inhabited, DecidableEq
@[go_sem] def b1c (x : List (List Int)) : List AV := [.fs 1 (List.map b0s x)]
theorem b7h (x : List (List Int)) : ∀ c ∈ b1c x, Frz c := (b0f (b01 fun a _ => b21 a) b06)
theorem c6h (x : List (List Int)) : (b1c x).length = 1 := rfl
@[go_sem] theorem m19 {l : List (List (List Int))} {n : Nat} {a0 : List (List Int)} : (List.map b1c l).set n [.fs 1 (List.map b0s a0)] = List.map b1c (l.set n a0) := by rw [List.map_set]; rfl
noncomputable def b9u (b : r06_Bounds) (c : Int) (from_ : Int) (to_ : Int) : Option Int :=
  if decide (to_ < (mx from_ 0)) then
    some 0
  else
    (get b.Pass c).bind fun x6 =>
    (get x6 (mx from_ 0)).bind fun x7 =>
    (get x7 to_).bind fun x8 =>
    some x8
def c7r (O : Orac) : Prop := ∀ (b : r06_Bounds) (c : Int) (from_ : Int) (to_ : Int) (r : Int) (hm0 : b9u b c from_ to_ = some r), Fn O "(newel/newelref06.Bounds).pass" [.agg [.fs 1 (List.map b0s b.Most), .fs 1 (List.map b0s b.Flow), .fs 1 (List.map b1c b.Come), .fs 1 (List.map b1c b.Pass)], I c, I from_, I to_] (I r)
noncomputable def d13 (b_3_0 : List (List Int)) (b_3_1 : List (List Int)) (b_3_2 : List (List (List Int))) (b_3_3 : List (List (List Int))) : Option r06_Bounds :=
  some (r06_Bounds.mk b_3_0 b_3_1 b_3_2 b_3_3)
noncomputable def c6z (c_4 : Int) (b_3_0_1 : List (List Int)) (b_3_1_1 : List (List Int)) (b_3_2_1 : List (List (List Int))) (b_3_3_1 : List (List (List Int))) : Option (Out ((List (List Int)) × (List (List Int)) × (List (List (List Int))) × (List (List (List Int))) × Int) (((List (List Int)) × (List (List Int)) × (List (List (List Int))) × (List (List (List Int)))))) :=
  some (.nx (b_3_0_1, b_3_1_1, b_3_2_1, b_3_3_1, wr (c_4 + 1)))
noncomputable def c6v (b_3_0 : List (List Int)) (b_3_1 : List (List Int)) (b_3_2 : List (List (List Int))) (b_3_3 : List (List (List Int))) (c_4 : Int) (come_5 : List (List Int)) (most_13 : List Int) (flow_14 : List Int) (passes_18 : List (List Int)) : Option (Out ((List (List Int)) × (List (List Int)) × (List (List (List Int))) × (List (List (List Int))) × Int) (((List (List Int)) × (List (List Int)) × (List (List (List Int))) × (List (List (List Int)))))) :=
  (ap 24 b_3_0 ([most_13])).bind fun l26 =>
  (ap 24 b_3_1 ([flow_14])).bind fun l27 =>
  (ap 24 b_3_2 ([come_5])).bind fun l30 =>
  (ap 24 b_3_3 ([passes_18])).bind fun l31 =>
  c6z c_4 l26 l27 l30 l31
noncomputable def c6w (from_19 : Int) (passes_18_1 : List (List Int)) : Option (Out ((List (List Int)) × Int) (((List (List Int))))) :=
  some (.nx (passes_18_1, wr (from_19 + 1)))
noncomputable def c6x (to_20 : Int) (passes_18_2 : List (List Int)) : Option (Out ((List (List Int)) × Int) (((List (List Int))))) :=
  some (.nx (passes_18_2, wr (to_20 + 1)))
noncomputable def c6y (from_19 : Int) (passes_18_1 : List (List Int)) (to_20 : Int) (least_21 : Int) (sum_22 : Int) : Option (Out ((List (List Int)) × Int) (((List (List Int))))) :=
  (get passes_18_1 from_19).bind fun x54 =>
  (get x54 to_20).bind fun x55 =>
  c6x to_20 (List.set passes_18_1 (Int.toNat from_19) (List.set x54 (Int.toNat to_20) (mn least_21 sum_22)))
noncomputable def c1h (most_13 : List Int) (flow_14 : List Int) (least_21 : Int) (sum_22 : Int) (k_23 : Int) (rest_24 : Int) : Option (Out (Int × Int × Int) ((Int × Int))) :=
  (get most_13 k_23).bind fun x63 =>
  (get flow_14 k_23).bind fun x65 =>
  some (.nx (mn least_21 (wr ((wr (sum_22 + x63)) + rest_24)), wr (sum_22 + x65), wr (k_23 + 1)))
noncomputable def c1d (come_5 : List (List Int)) (most_13 : List Int) (flow_14 : List Int) (to_20 : Int) : (Int × Int × Int) → Option (Out (Int × Int × Int) ((Int × Int)))
  | (least_21, sum_22, k_23) =>
    if decide (k_23 ≤ to_20) then
      if decide (k_23 < to_20) then
        (get come_5 (wr (k_23 + 1))).bind fun x69 =>
        (get x69 to_20).bind fun x70 =>
        c1h most_13 flow_14 least_21 sum_22 k_23 x70
      else
        c1h most_13 flow_14 least_21 sum_22 k_23 0
    else
      some (.br (least_21, sum_22))
noncomputable def c1e (h_ : Hall) (come_5 : List (List Int)) (most_13 : List Int) (flow_14 : List Int) (from_19 : Int) : ((List (List Int)) × Int) → Option (Out ((List (List Int)) × Int) (((List (List Int)))))
  | (passes_18_1, to_20) =>
    if decide (to_20 < h_.Until) then
      (get come_5 0).bind fun x48 =>
      (get x48 to_20).bind fun x49 =>
      (b08 (c1d come_5 most_13 flow_14 to_20) (x49, 0, from_19)).bind fun
        | (least_21, sum_22) => c6y from_19 passes_18_1 to_20 least_21 sum_22
    else
      some (.br passes_18_1)
noncomputable def c1f (h_ : Hall) (come_5 : List (List Int)) (most_13 : List Int) (flow_14 : List Int) : ((List (List Int)) × Int) → Option (Out ((List (List Int)) × Int) (((List (List Int)))))
  | (passes_18, from_19) =>
    if decide (from_19 < h_.Until) then
      (mks 8 h_.Until 0).bind fun l39 =>
      (get passes_18 from_19).bind fun x40 =>
      (b08 (c1e h_ come_5 most_13 flow_14 from_19) ((List.set passes_18 (Int.toNat from_19) l39), from_19)).bind fun passes_18_1 =>
      c6w from_19 passes_18_1
    else
      some (.br passes_18)
noncomputable def c6u (h_ : Hall) (b_3_0 : List (List Int)) (b_3_1 : List (List Int)) (b_3_2 : List (List (List Int))) (b_3_3 : List (List (List Int))) (c_4 : Int) (come_5 : List (List Int)) (most_13 : List Int) (flow_14 : List Int) : Option (Out ((List (List Int)) × (List (List Int)) × (List (List (List Int))) × (List (List (List Int))) × Int) (((List (List Int)) × (List (List Int)) × (List (List (List Int))) × (List (List (List Int)))))) :=
  (mks 24 h_.Until ([] : List Int)).bind fun l21 =>
  (b08 (c1f h_ come_5 most_13 flow_14) (l21, 0)).bind fun passes_18 =>
  c6v b_3_0 b_3_1 b_3_2 b_3_3 c_4 come_5 most_13 flow_14 passes_18
noncomputable def c60 (t_15 : Int) (most_13_1 : List Int) (flow_14_1 : List Int) : Option (Out ((List Int) × (List Int) × Int) (((List Int) × (List Int)))) :=
  some (.nx (most_13_1, flow_14_1, wr (t_15 + 1)))
noncomputable def c61 (y13 : List Int) (flow_14 : List Int) (t_15 : Int) (most_13_1 : List Int) : Option (Out ((List Int) × (List Int) × Int) (((List Int) × (List Int)))) :=
  (get y13 t_15).bind fun x84 =>
  (get most_13_1 t_15).bind fun x85 =>
  (get flow_14 t_15).bind fun x86 =>
  c60 t_15 most_13_1 (List.set flow_14 (Int.toNat t_15) (mn x84 x85))
noncomputable def c1i (s_17 : Int) (most_13_2 : List Int) (served_16_1 : Int) : Option (Out ((List Int) × Int × Int) (((List Int)))) :=
  some (.nx (most_13_2, served_16_1, wr (s_17 - 1)))
noncomputable def c1b (come_5 : List (List Int)) (y13 : List Int) (t_15 : Int) : ((List Int) × Int × Int) → Option (Out ((List Int) × Int × Int) (((List Int))))
  | (most_13_1, served_16, s_17) =>
    if decide (0 ≤ s_17) then
      (get most_13_1 t_15).bind fun x95 =>
      (get come_5 s_17).bind fun x96 =>
      (get x96 t_15).bind fun x97 =>
      if decide (0 < s_17) then
        (get y13 (wr (s_17 - 1))).bind fun x100 =>
        c1i s_17 (List.set most_13_1 (Int.toNat t_15) (mx x95 (wr (x97 - served_16)))) (wr (served_16 + x100))
      else
        c1i s_17 (List.set most_13_1 (Int.toNat t_15) (mx x95 (wr (x97 - served_16)))) served_16
    else
      some (.br most_13_1)
noncomputable def c1c (h_ : Hall) (come_5 : List (List Int)) (y13 : List Int) : ((List Int) × (List Int) × Int) → Option (Out ((List Int) × (List Int) × Int) (((List Int) × (List Int))))
  | (most_13, flow_14, t_15) =>
    if decide (t_15 < h_.Until) then
      (b08 (c1b come_5 y13 t_15) (most_13, 0, t_15)).bind fun most_13_1 =>
      c61 y13 flow_14 t_15 most_13_1
    else
      some (.br (most_13, flow_14))
noncomputable def c6q (h_ : Hall) (b_3_0 : List (List Int)) (b_3_1 : List (List Int)) (b_3_2 : List (List (List Int))) (b_3_3 : List (List (List Int))) (c_4 : Int) (come_5 : List (List Int)) : Option (Out ((List (List Int)) × (List (List Int)) × (List (List (List Int))) × (List (List (List Int))) × Int) (((List (List Int)) × (List (List Int)) × (List (List (List Int))) × (List (List (List Int)))))) :=
  (b71 h_ c_4).bind fun y13 =>
  (mks 8 h_.Until 0).bind fun l16 =>
  (mks 8 h_.Until 0).bind fun l17 =>
  (b08 (c1c h_ come_5 y13) (l16, l17, 0)).bind fun
    | (most_13, flow_14) => c6u h_ b_3_0 b_3_1 b_3_2 b_3_3 c_4 come_5 most_13 flow_14
noncomputable def c6p (s_6 : Int) (come_5_1 : List (List Int)) : Option (Out ((List (List Int)) × Int) (((List (List Int))))) :=
  some (.nx (come_5_1, wr (s_6 + 1)))
noncomputable def c6r (t_7 : Int) (come_5_2 : List (List Int)) : Option (Out ((List (List Int)) × Int) (((List (List Int))))) :=
  some (.nx (come_5_2, wr (t_7 + 1)))
noncomputable def c1g (u_11 : Int) (come_5_4 : List (List Int)) : Option (Out ((List (List Int)) × Int) (((List (List Int))))) :=
  some (.nx (come_5_4, wr (u_11 + 1)))
noncomputable def c08 (h_ : Hall) (b_3_0 : List (List Int)) (b_3_1 : List (List Int)) (b_3_2 : List (List (List Int))) (b_3_3 : List (List (List Int))) (c_4 : Int) (s_6 : Int) (t_7 : Int) : ((List (List Int)) × Int) → Option (Out ((List (List Int)) × Int) (((List (List Int)))))
  | (come_5_3, u_11) =>
    if decide (u_11 < c_4) then
      (get h_.Combs u_11).bind fun x125 =>
      if decide (x125.Next = c_4) then
        (get come_5_3 s_6).bind fun x130 =>
        (get x130 t_7).bind fun x131 =>
        (b9u (r06_Bounds.mk b_3_0 b_3_1 b_3_2 b_3_3) u_11 (wr (s_6 - x125.Walk.High)) (wr (t_7 - x125.Walk.Low))).bind fun y132 =>
        c1g u_11 (List.set come_5_3 (Int.toNat s_6) (List.set x130 (Int.toNat t_7) (wr (x131 + y132))))
      else
        c1g u_11 come_5_3
    else
      some (.br come_5_3)
noncomputable def c6s (h_ : Hall) (b_3_0 : List (List Int)) (b_3_1 : List (List Int)) (b_3_2 : List (List (List Int))) (b_3_3 : List (List (List Int))) (c_4 : Int) (s_6 : Int) (t_7 : Int) (come_5_2 : List (List Int)) : Option (Out ((List (List Int)) × Int) (((List (List Int))))) :=
  (b08 (c08 h_ b_3_0 b_3_1 b_3_2 b_3_3 c_4 s_6 t_7) (come_5_2, 0)).bind fun come_5_2 =>
  c6r t_7 come_5_2
noncomputable def c6t (i_8 : Int) (come_5_3 : List (List Int)) : Option (Out ((List (List Int)) × Int) (((List (List Int))))) :=
  some (.nx (come_5_3, wr (i_8 + 1)))
noncomputable def b9g (k_10 : Int) (come_5_4 : List (List Int)) : Option (Out ((List (List Int)) × Int) (((List (List Int))))) :=
  some (.nx (come_5_4, wr (k_10 + 1)))
noncomputable def c06 (c_4 : Int) (s_6 : Int) (t_7 : Int) (x140 : Train) : ((List (List Int)) × Int) → Option (Out ((List (List Int)) × Int) (((List (List Int)))))
  | (come_5_3, k_10) =>
    if decide (k_10 < (List.length x140.Crowds : Int)) then
      (get x140.Crowds k_10).bind fun x147 =>
      if ((decide (x147.Comb = c_4)) && (decide (x140.At.Low ≤ t_7))) && (decide (s_6 ≤ x140.At.High)) then
        (get come_5_3 s_6).bind fun x153 =>
        (get x153 t_7).bind fun x154 =>
        b9g k_10 (List.set come_5_3 (Int.toNat s_6) (List.set x153 (Int.toNat t_7) (wr (x154 + x147.People.High))))
      else
        b9g k_10 come_5_3
    else
      some (.br come_5_3)
noncomputable def c07 (h_ : Hall) (c_4 : Int) (s_6 : Int) (t_7 : Int) : ((List (List Int)) × Int) → Option (Out ((List (List Int)) × Int) (((List (List Int)))))
  | (come_5_2, i_8) =>
    if decide (i_8 < (List.length h_.Trains : Int)) then
      (get h_.Trains i_8).bind fun x140 =>
      (b08 (c06 c_4 s_6 t_7 x140) (come_5_2, 0)).bind fun come_5_3 =>
      c6t i_8 come_5_3
    else
      some (.br come_5_2)
noncomputable def c09 (h_ : Hall) (b_3_0 : List (List Int)) (b_3_1 : List (List Int)) (b_3_2 : List (List (List Int))) (b_3_3 : List (List (List Int))) (c_4 : Int) (s_6 : Int) : ((List (List Int)) × Int) → Option (Out ((List (List Int)) × Int) (((List (List Int)))))
  | (come_5_1, t_7) =>
    if decide (t_7 < h_.Until) then
      (b08 (c07 h_ c_4 s_6 t_7) (come_5_1, 0)).bind fun come_5_2 =>
      c6s h_ b_3_0 b_3_1 b_3_2 b_3_3 c_4 s_6 t_7 come_5_2
    else
      some (.br come_5_1)
noncomputable def c1a (h_ : Hall) (b_3_0 : List (List Int)) (b_3_1 : List (List Int)) (b_3_2 : List (List (List Int))) (b_3_3 : List (List (List Int))) (c_4 : Int) : ((List (List Int)) × Int) → Option (Out ((List (List Int)) × Int) (((List (List Int)))))
  | (come_5, s_6) =>
    if decide (s_6 < h_.Until) then
      (mks 8 h_.Until 0).bind fun l110 =>
      (get come_5 s_6).bind fun x111 =>
      (b08 (c09 h_ b_3_0 b_3_1 b_3_2 b_3_3 c_4 s_6) ((List.set come_5 (Int.toNat s_6) l110), s_6)).bind fun come_5_1 =>
      c6p s_6 come_5_1
    else
      some (.br come_5)
noncomputable def c3z (h_ : Hall) : ((List (List Int)) × (List (List Int)) × (List (List (List Int))) × (List (List (List Int))) × Int) → Option (Out ((List (List Int)) × (List (List Int)) × (List (List (List Int))) × (List (List (List Int))) × Int) (((List (List Int)) × (List (List Int)) × (List (List (List Int))) × (List (List (List Int))))))
  | (b_3_0, b_3_1, b_3_2, b_3_3, c_4) =>
    if decide (c_4 < (List.length h_.Combs : Int)) then
      (mks 24 h_.Until ([] : List Int)).bind fun l9 =>
      (b08 (c1a h_ b_3_0 b_3_1 b_3_2 b_3_3 c_4) (l9, 0)).bind fun come_5 =>
      c6q h_ b_3_0 b_3_1 b_3_2 b_3_3 c_4 come_5
    else
      some (.br (b_3_0, b_3_1, b_3_2, b_3_3))
noncomputable def c05 (h_ : Hall) : Option r06_Bounds :=
  (b08 (c3z h_) ([], [], [], [], 0)).bind fun
    | (b_3_0, b_3_1, b_3_2, b_3_3) => d13 b_3_0 b_3_1 b_3_2 b_3_3
def c78 (O : Orac) : Prop := ∀ (h_ : Hall) (r : r06_Bounds) (hm0 : c05 h_ = some r), Fn O "newel/newelref06.All" [.agg [.fs 5 (List.map b0r h_.Combs), .fs 3 (List.map b0p h_.Trains), .fs 3 (List.map b0u h_.Shifts), I h_.Until]] (.agg [.fs 1 (List.map b0s r.Most), .fs 1 (List.map b0s r.Flow), .fs 1 (List.map b1c r.Come), .fs 1 (List.map b1c r.Pass)])
noncomputable def d16 : Option Bool :=
  some true
noncomputable def c30 (a : List Int) (b : List Int) : Int → Option (Out Int (Unit ⊕ Bool))
  | i_5 =>
    if decide (i_5 < (List.length a : Int)) then
      (get a i_5).bind fun x11 =>
      (get b i_5).bind fun x12 =>
      if decide (¬x11 = x12) then
        some (.br (.inr false))
      else
        some (.nx (wr (i_5 + 1)))
    else
      some (.br (.inl ()))
noncomputable def c1o (a : List Int) (b : List Int) : Option Bool :=
  if decide (¬(List.length a : Int) = (List.length b : Int)) then
    some false
  else
    (b08 (c30 a b) (0)).bind fun
      | (.inl ()) => d16
      | (.inr r') => some r'
def c4s (O : Orac) : Prop := ∀ (a : List Int) (b : List Int) (r : Bool) (hm0 : c1o a b = some r), Fn O "newel/newelref06.Same" [.fs 1 (List.map eI a), .fs 1 (List.map eI b)] (B r)
noncomputable def b6v (c : Comb) (c0 : Int) : Bool :=
  decide (c.Next = c0)
def c7w (O : Orac) : Prop := ∀ (c : Comb) (c0 : Int), Fn O "newel/halls.Witness$1" [.agg [I c.Rate, I c.Limit, I c.Next, I c.Walk.Low, I c.Walk.High], .fp [I c0] 0] (B (b6v c c0))
noncomputable def d2j : Option Int :=
  some (-1)
noncomputable def d9y (s : List Comb) (f : Comb → Option Bool) : Int → Option (Out Int (Unit ⊕ Int))
  | x_8 =>
    if decide (x_8 < (List.length s : Int)) then
      (get s x_8).bind fun x9 =>
      (f x9).bind fun y10 =>
      if y10 then
        some (.br (.inr x_8))
      else
        some (.nx (wr (x_8 + 1)))
    else
      some (.br (.inl ()))
noncomputable def d2i (s : List Comb) (f : Comb → Option Bool) : Option Int :=
  (b08 (d9y s f) (0)).bind fun
    | (.inl ()) => d2j
    | (.inr r') => some r'
def c8h (O : Orac) : Prop := ∀ (s : List Comb) (f_n : String) (f_a f_b : List AV) (f : Comb → Option Bool) (f_z : Frz (.fn f_n f_a f_b)) (f_h : ∀ z0 y, f z0 = some y → Fn O f_n (f_a ++ [.agg [I z0.Rate, I z0.Limit, I z0.Next, I z0.Walk.Low, I z0.Walk.High]] ++ f_b) (B y)) (r : Int) (hm0 : d2i s f = some r), Fn O "slices.IndexFunc[[]newel/api.Comb,newel/api.Comb]" [.fs 5 (List.map b0r s), .fn f_n f_a f_b] (I r)
noncomputable def c7g (s : List Comb) (f : Comb → Option Bool) : Option Bool :=
  (d2i s f).bind fun y2 =>
  some (decide (0 ≤ y2))
def c8e (O : Orac) : Prop := ∀ (s : List Comb) (f_n : String) (f_a f_b : List AV) (f : Comb → Option Bool) (f_z : Frz (.fn f_n f_a f_b)) (f_h : ∀ z0 y, f z0 = some y → Fn O f_n (f_a ++ [.agg [I z0.Rate, I z0.Limit, I z0.Next, I z0.Walk.Low, I z0.Walk.High]] ++ f_b) (B y)) (r : Bool) (hm0 : c7g s f = some r), Fn O "slices.ContainsFunc[[]newel/api.Comb,newel/api.Comb]" [.fs 5 (List.map b0r s), .fn f_n f_a f_b] (B r)
structure Day where
  At : List Int
  People : List (List Int)
  Walks : List (List Int)
  deriving Inhabited, DecidableEq
noncomputable def c9g (d_12_0 : List Int) (d_12_1 : List (List Int)) (d_12_2 : List (List Int)) : Option (Day × Int) :=
  some ((Day.mk d_12_0 d_12_1 d_12_2), 0)
noncomputable def c21 (h_ : Hall) : ((List (List Int)) × Int) → Option (Out ((List (List Int)) × Int) (((List (List Int)))))
  | (d_12_2, x_152) =>
    if decide (x_152 < (List.length h_.Combs : Int)) then
      (get h_.Combs x_152).bind fun x28 =>
      (ap 24 d_12_2 ([[x28.Walk.Low]])).bind fun l30 =>
      some (.nx (l30, wr (x_152 + 1)))
    else
      some (.br d_12_2)
noncomputable def c5k (h_ : Hall) (d_12_0 : List Int) (d_12_1 : List (List Int)) : Option (Day × Int) :=
  (b08 (c21 h_) ([], 0)).bind fun d_12_2 =>
  c9g d_12_0 d_12_1 d_12_2
noncomputable def c5l (x_87 : Int) (d_12_0_1 : List Int) (d_12_1_1 : List (List Int)) : Option (Out ((List Int) × (List (List Int)) × Int) (((List Int) × (List (List Int))))) :=
  some (.nx (d_12_0_1, d_12_1_1, wr (x_87 + 1)))
noncomputable def c5m (d_12_0 : List Int) (d_12_1 : List (List Int)) (x_87 : Int) (at_16 : Int) (people_17 : List Int) : Option (Out ((List Int) × (List (List Int)) × Int) (((List Int) × (List (List Int))))) :=
  (ap 8 d_12_0 ([at_16])).bind fun l47 =>
  (ap 24 d_12_1 ([people_17])).bind fun l49 =>
  c5l x_87 l47 l49
noncomputable def c0b (x_117 : Int) (people_17_1 : List Int) : Option (Out ((List Int) × Int) (((List Int)))) :=
  some (.nx (people_17_1, wr (x_117 + 1)))
noncomputable def b99 (tick : Int) (from_10 : Int) (x38 : Train) : ((List Int) × Int) → Option (Out ((List Int) × Int) (((List Int))))
  | (people_17, x_117) =>
    if decide (x_117 < (List.length x38.Crowds : Int)) then
      (get x38.Crowds x_117).bind fun x56 =>
      (get people_17 x_117).bind fun x58 =>
      if (decide (from_10 ≤ x38.At.High)) && (decide (x38.At.Low ≤ tick)) then
        (get (List.set people_17 (Int.toNat x_117) x56.People.Low) x_117).bind fun x61 =>
        c0b x_117 (List.set (List.set people_17 (Int.toNat x_117) x56.People.Low) (Int.toNat x_117) x56.People.High)
      else
        c0b x_117 (List.set people_17 (Int.toNat x_117) x56.People.Low)
    else
      some (.br people_17)
noncomputable def c0a (tick : Int) (from_10 : Int) (d_12_0 : List Int) (d_12_1 : List (List Int)) (x_87 : Int) (x38 : Train) (at_16 : Int) : Option (Out ((List Int) × (List (List Int)) × Int) (((List Int) × (List (List Int))))) :=
  (mks 8 (List.length x38.Crowds : Int) 0).bind fun l43 =>
  (b08 (b99 tick from_10 x38) (l43, 0)).bind fun people_17 =>
  c5m d_12_0 d_12_1 x_87 at_16 people_17
noncomputable def c2z (h_ : Hall) (tick : Int) (from_10 : Int) : ((List Int) × (List (List Int)) × Int) → Option (Out ((List Int) × (List (List Int)) × Int) (((List Int) × (List (List Int)))))
  | (d_12_0, d_12_1, x_87) =>
    if decide (x_87 < (List.length h_.Trains : Int)) then
      (get h_.Trains x_87).bind fun x38 =>
      if (decide (from_10 ≤ x38.At.High)) && (decide (x38.At.Low ≤ tick)) then
        c0a tick from_10 d_12_0 d_12_1 x_87 x38 (mx x38.At.Low from_10)
      else
        c0a tick from_10 d_12_0 d_12_1 x_87 x38 x38.At.Low
    else
      some (.br (d_12_0, d_12_1))
noncomputable def c24 (h_ : Hall) (tick : Int) (from_10 : Int) : Option (Day × Int) :=
  (b08 (c2z h_ tick from_10) ([], [], 0)).bind fun
    | (d_12_0, d_12_1) => c5k h_ d_12_0 d_12_1
noncomputable def b6p (tick : Int) (x16 : halls_bound) : (Int × Int) → Option (Out (Int × Int) Int)
  | (from_10, x_45) =>
    if decide (x_45 < (wr (tick + 1))) then
      (get x16.come x_45).bind fun x74 =>
      (get x74 tick).bind fun x75 =>
      (get x16.rates tick).bind fun x76 =>
      (get x16.rates x_45).bind fun x77 =>
      (get x16.most tick).bind fun x78 =>
      if decide ((wr (x75 - (wr (x76 - x77)))) = x78) then
        some (.br x_45)
      else
        some (.nx (from_10, wr (x_45 + 1)))
    else
      some (.br from_10)
noncomputable def b6o (h_ : Hall) (comb : Int) (tick : Int) : Option (Day × Int) :=
  (b6w h_ comb ([tick])).bind fun y2 =>
  if decide (¬y2 = 0) then
    some ((Day.mk ([]) ([]) ([])), y2)
  else
    (c7g h_.Combs (fun z7 => some (b6v z7 comb))).bind fun y8 =>
    if y8 then
      some ((Day.mk ([]) ([]) ([])), 3)
    else
      (b5q h_).bind fun y14 =>
      (b55 h_ y14).bind fun y15 =>
      (get y15 comb).bind fun x16 =>
      (b08 (b6p tick x16) (0, 0)).bind fun from_10 =>
      c24 h_ tick from_10
def c7v (O : Orac) : Prop := ∀ (h_ : Hall) (comb : Int) (tick : Int) (r : Day × Int) (hm0 : b6o h_ comb tick = some r), Fn O "newel/halls.Witness" [.agg [.fs 5 (List.map b0r h_.Combs), .fs 3 (List.map b0p h_.Trains), .fs 3 (List.map b0u h_.Shifts), I h_.Until], I comb, I tick] (.tup [.agg [.fs 1 (List.map eI r.1.At), .fs 1 (List.map b0s r.1.People), .fs 1 (List.map b0s r.1.Walks)], I r.2])
noncomputable def d15 : Option Bool :=
  some true
noncomputable def c1n (h_ : Hall) (c : Int) : Int → Option (Out Int (Unit ⊕ Bool))
  | u_5 =>
    if decide (u_5 < (List.length h_.Combs : Int)) then
      (get h_.Combs u_5).bind fun x8 =>
      if decide (x8.Next = c) then
        some (.br (.inr false))
      else
        some (.nx (wr (u_5 + 1)))
    else
      some (.br (.inl ()))
noncomputable def c1m (h_ : Hall) (c : Int) : Option Bool :=
  (b08 (c1n h_ c) (0)).bind fun
    | (.inl ()) => d15
    | (.inr r') => some r'
def c8a (O : Orac) : Prop := ∀ (h_ : Hall) (c : Int) (r : Bool) (hm0 : c1m h_ c = some r), Fn O "newel/newelref06.First" [.agg [.fs 5 (List.map b0r h_.Combs), .fs 3 (List.map b0p h_.Trains), .fs 3 (List.map b0u h_.Shifts), I h_.Until], I c] (B r)
noncomputable def d17 (d_13_0 : List Int) (d_13_1 : List (List Int)) (d_13_2 : List (List Int)) : Option (Day × Int) :=
  some ((Day.mk d_13_0 d_13_1 d_13_2), 0)
noncomputable def c32 (h_ : Hall) : ((List (List Int)) × Int) → Option (Out ((List (List Int)) × Int) (((List (List Int)))))
  | (d_13_2, i_21) =>
    if decide (i_21 < (List.length h_.Combs : Int)) then
      (get h_.Combs i_21).bind fun x28 =>
      (ap 24 d_13_2 ([[x28.Walk.Low]])).bind fun l29 =>
      some (.nx (l29, wr (i_21 + 1)))
    else
      some (.br d_13_2)
noncomputable def c65 (h_ : Hall) (d_13_0 : List Int) (d_13_1 : List (List Int)) : Option (Day × Int) :=
  (b08 (c32 h_) ([], 0)).bind fun d_13_2 =>
  d17 d_13_0 d_13_1 d_13_2
noncomputable def c66 (i_14 : Int) (d_13_0_1 : List Int) (d_13_1_1 : List (List Int)) : Option (Out ((List Int) × (List (List Int)) × Int) (((List Int) × (List (List Int))))) :=
  some (.nx (d_13_0_1, d_13_1_1, wr (i_14 + 1)))
noncomputable def c67 (d_13_1 : List (List Int)) (i_14 : Int) (l42 : List Int) (people_18 : List Int) : Option (Out ((List Int) × (List (List Int)) × Int) (((List Int) × (List (List Int))))) :=
  (ap 24 d_13_1 ([people_18])).bind fun l46 =>
  c66 i_14 l42 l46
noncomputable def c1s (people_18 : List Int) (k_19 : Int) (n_20 : Int) : Option (Out ((List Int) × Int) (((List Int)))) :=
  (ap 8 people_18 ([n_20])).bind fun l56 =>
  some (.nx (l56, wr (k_19 + 1)))
noncomputable def c1q (tick : Int) (from_10 : Int) (x37 : Train) : ((List Int) × Int) → Option (Out ((List Int) × Int) (((List Int))))
  | (people_18, k_19) =>
    if decide (k_19 < (List.length x37.Crowds : Int)) then
      (get x37.Crowds k_19).bind fun x52 =>
      if (decide (x37.At.Low ≤ tick)) && (decide (from_10 ≤ x37.At.High)) then
        c1s people_18 k_19 x52.People.High
      else
        c1s people_18 k_19 x52.People.Low
    else
      some (.br people_18)
noncomputable def c1r (tick : Int) (from_10 : Int) (d_13_0 : List Int) (d_13_1 : List (List Int)) (i_14 : Int) (x37 : Train) (at_16 : Int) : Option (Out ((List Int) × (List (List Int)) × Int) (((List Int) × (List (List Int))))) :=
  (ap 8 d_13_0 ([at_16])).bind fun l42 =>
  (b08 (c1q tick from_10 x37) ([], 0)).bind fun people_18 =>
  c67 d_13_1 i_14 l42 people_18
noncomputable def c31 (h_ : Hall) (tick : Int) (from_10 : Int) : ((List Int) × (List (List Int)) × Int) → Option (Out ((List Int) × (List (List Int)) × Int) (((List Int) × (List (List Int)))))
  | (d_13_0, d_13_1, i_14) =>
    if decide (i_14 < (List.length h_.Trains : Int)) then
      (get h_.Trains i_14).bind fun x37 =>
      if (decide (x37.At.Low ≤ tick)) && (decide (from_10 ≤ x37.At.High)) then
        c1r tick from_10 d_13_0 d_13_1 i_14 x37 (mx x37.At.Low from_10)
      else
        c1r tick from_10 d_13_0 d_13_1 i_14 x37 x37.At.Low
    else
      some (.br (d_13_0, d_13_1))
noncomputable def c33 (h_ : Hall) (tick : Int) (from_10 : Int) : Option (Day × Int) :=
  (b08 (c31 h_ tick from_10) ([], [], 0)).bind fun
    | (d_13_0, d_13_1) => c65 h_ d_13_0 d_13_1
noncomputable def c1t (s_12 : Int) (from_10_1 : Int) (served_11_1 : Int) : Option (Out (Int × Int × Int) Int) :=
  some (.nx (from_10_1, served_11_1, wr (s_12 - 1)))
noncomputable def c1u (y15 : List Int) (served_11 : Int) (s_12 : Int) (from_10_1 : Int) : Option (Out (Int × Int × Int) Int) :=
  if decide (0 < s_12) then
    (get y15 (wr (s_12 - 1))).bind fun x80 =>
    c1t s_12 from_10_1 (wr (served_11 + x80))
  else
    c1t s_12 from_10_1 served_11
noncomputable def c1p (c : Int) (tick : Int) (y13 : r06_Bounds) (y15 : List Int) : (Int × Int × Int) → Option (Out (Int × Int × Int) Int)
  | (from_10, served_11, s_12) =>
    if decide (0 ≤ s_12) then
      (get y13.Come c).bind fun x71 =>
      (get x71 s_12).bind fun x72 =>
      (get x72 tick).bind fun x73 =>
      (get y13.Most c).bind fun x74 =>
      (get x74 tick).bind fun x75 =>
      if decide ((wr (x73 - served_11)) = x75) then
        c1u y15 served_11 s_12 s_12
      else
        c1u y15 served_11 s_12 from_10
    else
      some (.br from_10)
noncomputable def b67 (h_ : Hall) (c : Int) (tick : Int) : Option (Day × Int) :=
  (b6c h_).bind fun y2 =>
  if decide (¬y2 = 0) then
    some ((Day.mk ([]) ([]) ([])), 60)
  else
    if (!(b70 h_ c)) || (!(b2v tick 0 (wr (h_.Until - 1)))) then
      some ((Day.mk ([]) ([]) ([])), 1)
    else
      (c1m h_ c).bind fun y9 =>
      if !y9 then
        some ((Day.mk ([]) ([]) ([])), 3)
      else
        (c05 h_).bind fun y13 =>
        (b71 h_ c).bind fun y15 =>
        (b08 (c1p c tick y13 y15) (0, 0, tick)).bind fun from_10 =>
        c33 h_ tick from_10
def c8b (O : Orac) : Prop := ∀ (h_ : Hall) (c : Int) (tick : Int) (r : Day × Int) (hm0 : b67 h_ c tick = some r), Fn O "newel/newelref06.Witness" [.agg [.fs 5 (List.map b0r h_.Combs), .fs 3 (List.map b0p h_.Trains), .fs 3 (List.map b0u h_.Shifts), I h_.Until], I c, I tick] (.tup [.agg [.fs 1 (List.map eI r.1.At), .fs 1 (List.map b0s r.1.People), .fs 1 (List.map b0s r.1.Walks)], I r.2])
noncomputable def d1i : Option Bool :=
  some true
noncomputable def c3q (a : List (List Int)) (b : List (List Int)) : Int → Option (Out Int (Unit ⊕ Bool))
  | i_5 =>
    if decide (i_5 < (List.length a : Int)) then
      (get a i_5).bind fun x12 =>
      (get b i_5).bind fun x13 =>
      (c1o x12 x13).bind fun y14 =>
      if !y14 then
        some (.br (.inr false))
      else
        some (.nx (wr (i_5 + 1)))
    else
      some (.br (.inl ()))
noncomputable def c0y (a : List (List Int)) (b : List (List Int)) : Option Bool :=
  if decide (¬(List.length a : Int) = (List.length b : Int)) then
    some false
  else
    (b08 (c3q a b) (0)).bind fun
      | (.inl ()) => d1i
      | (.inr r') => some r'
def c76 (O : Orac) : Prop := ∀ (a : List (List Int)) (b : List (List Int)) (r : Bool) (hm0 : c0y a b = some r), Fn O "newel/newellaw06.sameRows" [.fs 1 (List.map b0s a), .fs 1 (List.map b0s b)] (B r)
noncomputable def c3p (a : Day) (b : Day) : Option Bool :=
  (c1o a.At b.At).bind fun y6 =>
  (if y6 then (c0y a.People b.People).bind fun y7 =>
  some y7 else some false).bind fun c8 =>
  (if c8 then (c0y a.Walks b.Walks).bind fun y9 =>
  some y9 else some false).bind fun c10 =>
  some c10
def c75 (O : Orac) : Prop := ∀ (a : Day) (b : Day) (r : Bool) (hm0 : c3p a b = some r), Fn O "newel/newellaw06.sameDays" [.agg [.fs 1 (List.map eI a.At), .fs 1 (List.map b0s a.People), .fs 1 (List.map b0s a.Walks)], .agg [.fs 1 (List.map eI b.At), .fs 1 (List.map b0s b.People), .fs 1 (List.map b0s b.Walks)]] (B r)
noncomputable def c3o (h_ : Hall) (comb : Int) (tick : Int) : Option Bool :=
  (c3n h_).bind fun y2 =>
  if y2 then
    (b7u).bind fun y6 =>
    some y6
  else
    (b6o h_ comb tick).bind fun y8 =>
    (b67 h_ comb tick).bind fun y10 =>
    (if decide (y8.2 = y10.2) then (c3p y8.1 y10.1).bind fun y15 =>
    some y15 else some false).bind fun c16 =>
    (if c16 then (b7u).bind fun y17 =>
    some y17 else some false).bind fun c18 =>
    some c18
def d2x (O : Orac) : Prop := ∀ (h_ : Hall) (comb : Int) (tick : Int) (r : Bool) (hm0 : c3o h_ comb tick = some r), Fn O "newel/newellaw06.HallsWitnesses" [.agg [.fs 5 (List.map b0r h_.Combs), .fs 3 (List.map b0p h_.Trains), .fs 3 (List.map b0u h_.Shifts), I h_.Until], I comb, I tick] (B r)
end Go.Nw.HM
