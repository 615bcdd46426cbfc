/- Models of functions: printed by gen.py. -/
import Derived.Test.YteoedeeljnboeaaNwWcall
import Derived.Test.YteoedeeljnboeaaNwHallsSrc
set_option linter.all false
set_option linter.unusedVariables false
set_option linter.unusedSimpArgs false
set_option linter.unusedSectionVars false
namespace Go.Nw.HM
open Go.Nw.Halls
set_option linter.unusedSimpArgs false
set_option linter.unusedVariables false
set_option maxHeartbeats 4000000
variable {O : Orac}
structure Span where
  Low : Int
  High : Int
  deriving Inhabited, DecidableEq
structure Comb where
  Rate : Int
  Limit : Int
  Next : Int
  Walk : Span
  deriving Inhabited, DecidableEq
structure Crowd where
  Comb : Int
  People : Span
  deriving Inhabited, DecidableEq
structure Train where
  At : Span
  Crowds : List Crowd
  deriving Inhabited, DecidableEq
structure Shift where
  At : Int
  Comb : Int
  Rate : Int
  deriving Inhabited, DecidableEq
structure Hall where
  Combs : List Comb
  Trains : List Train
  Shifts : List Shift
  Until : Int
  deriving Inhabited, DecidableEq
@[go_sem] def b0p (x : Comb) : List AV := [I x.Rate, I x.Limit, I x.Next, I x.Walk.Low, I x.Walk.High]
theorem b2m (x : Comb) : ∀ c ∈ b0p x, Frz c := (b0e (b0l _) (b0e (b0l _) (b0e (b0l _) (b0e (b0l _) (b0e (b0l _) b0y)))))
theorem g99 (x : Comb) : (b0p x).length = 5 := rfl
@[go_sem] theorem l9t {l : List Comb} {n : Nat} {a0 : Int} {a1 : Int} {a2 : Int} {a3 : Int} {a4 : Int} : (List.map b0p l).set n [I a0, I a1, I a2, I a3, I a4] = List.map b0p (l.set n (Comb.mk a0 a1 a2 (Span.mk a3 a4))) := by rw [List.map_set]; rfl
@[go_sem] def b2t (x : Crowd) : List AV := [I x.Comb, I x.People.Low, I x.People.High]
theorem c1a (x : Crowd) : ∀ c ∈ b2t x, Frz c := (b0e (b0l _) (b0e (b0l _) (b0e (b0l _) b0y)))
theorem d7x (x : Crowd) : (b2t x).length = 3 := rfl
@[go_sem] theorem l9u {l : List Crowd} {n : Nat} {a0 : Int} {a1 : Int} {a2 : Int} : (List.map b2t l).set n [I a0, I a1, I a2] = List.map b2t (l.set n (Crowd.mk a0 (Span.mk a1 a2))) := by rw [List.map_set]; rfl
@[go_sem] def b0o (x : Train) : List AV := [I x.At.Low, I x.At.High, .fs 3 (List.map b2t x.Crowds)]
theorem b2l (x : Train) : ∀ c ∈ b0o x, Frz c := (b0e (b0l _) (b0e (b0l _) (b0e (b0s fun a _ => c1a a) b0y)))
theorem j0a (x : Train) : (b0o x).length = 3 := rfl
@[go_sem] theorem l9y {l : List Train} {n : Nat} {a0 : Int} {a1 : Int} {a2 : List Crowd} : (List.map b0o l).set n [I a0, I a1, .fs 3 (List.map b2t a2)] = List.map b0o (l.set n (Train.mk (Span.mk a0 a1) a2)) := by rw [List.map_set]; rfl
@[go_sem] def b0q (x : Shift) : List AV := [I x.At, I x.Comb, I x.Rate]
theorem b2o (x : Shift) : ∀ c ∈ b0q x, Frz c := (b0e (b0l _) (b0e (b0l _) (b0e (b0l _) b0y)))
@[go_sem] theorem l9x {l : List Shift} {n : Nat} {a0 : Int} {a1 : Int} {a2 : Int} : (List.map b0q l).set n [I a0, I a1, I a2] = List.map b0q (l.set n (Shift.mk a0 a1 a2)) := by rw [List.map_set]; rfl
noncomputable def d0r : Option Bool :=
  some false
noncomputable def b9x (h_ : Hall) : Int → Option (Out Int (Unit ⊕ Bool))
  | i_3 =>
    if decide (i_3 < (List.length h_.Trains : Int)) then
      (get h_.Trains i_3).bind fun x14 =>
      if decide (10 < (List.length x14.Crowds : Int)) then
        some (.br (.inr true))
      else
        some (.nx (wr (i_3 + 1)))
    else
      some (.br (.inl ()))
noncomputable def b8d (h_ : Hall) : Option Bool :=
  if (((decide (12 < (List.length h_.Combs : Int))) || (decide (20 < (List.length h_.Trains : Int)))) || (decide (40 < (List.length h_.Shifts : Int)))) || ((decide (40 < h_.Until)) && (decide (h_.Until ≤ 100))) then
    some true
  else
    (b07 (b9x h_) (0)).bind fun
      | (.inl ()) => d0r
      | (.inr r') => some r'
def c68 (O : Orac) : Prop := ∀ (h_ : Hall) (r : Bool) (hm0 : b8d h_ = some r), Fn O "newel/newellaw06.Far" [.agg [.fs 5 (List.map b0p h_.Combs), .fs 3 (List.map b0o h_.Trains), .fs 3 (List.map b0q h_.Shifts), I h_.Until]] (B r)
noncomputable def b2g (n : Int) (low : Int) (high : Int) : Bool :=
  (decide (low ≤ n)) && (decide (n ≤ high))
def c0n (O : Orac) : Prop := ∀ (n : Int) (low : Int) (high : Int), Fn O "newel/newelref06.within" [I n, I low, I high] (B (b2g n low high))
noncomputable def b4a (s : Span) (low : Int) (high : Int) : Bool :=
  ((decide (low ≤ s.Low)) && (decide (s.Low ≤ s.High))) && (decide (s.High ≤ high))
def c7h (O : Orac) : Prop := ∀ (s : Span) (low : Int) (high : Int), Fn O "newel/newelref06.spanned" [.agg [I s.Low, I s.High], I low, I high] (B (b4a s low high))
noncomputable def d1e : Option Int :=
  some 0
noncomputable def b94 (h_ : Hall) : Int → Option (Out Int (Unit ⊕ Int))
  | i_10 =>
    if decide (i_10 < (List.length h_.Shifts : Int)) then
      (get h_.Shifts i_10).bind fun x17 =>
      (if ((!(b2g x17.At 0 (wr (h_.Until - 1)))) || (!(b2g x17.Comb 0 (wr ((List.length h_.Combs : Int) - 1))))) || (!(b2g x17.Rate 0 1000)) then some true else (if decide (0 < i_10) then (get h_.Shifts (wr (i_10 - 1))).bind fun x21 =>
      some (decide (x17.At < x21.At)) else some false).bind fun c22 =>
      some c22).bind fun c23 =>
      if c23 then
        some (.br (.inr 60))
      else
        some (.nx (wr (i_10 + 1)))
    else
      some (.br (.inl ()))
noncomputable def c51 (h_ : Hall) : Option Int :=
  (b07 (b94 h_) (0)).bind fun
    | (.inl ()) => d1e
    | (.inr r') => some r'
noncomputable def c5z (i_6 : Int) : Option (Out Int (Unit ⊕ Int)) :=
  some (.nx (wr (i_6 + 1)))
noncomputable def b69 (h_ : Hall) (x36 : Train) : (Int × Int) → Option (Out (Int × Int) (Unit ⊕ Int))
  | (last_8, k_9) =>
    if decide (k_9 < (List.length x36.Crowds : Int)) then
      (get x36.Crowds k_9).bind fun x45 =>
      if (!(b2g x45.Comb (wr (last_8 + 1)) (wr ((List.length h_.Combs : Int) - 1)))) || (!(b4a x45.People 0 1000)) then
        some (.br (.inr 60))
      else
        some (.nx (x45.Comb, wr (k_9 + 1)))
    else
      some (.br (.inl ()))
noncomputable def b93 (h_ : Hall) : Int → Option (Out Int (Unit ⊕ Int))
  | i_6 =>
    if decide (i_6 < (List.length h_.Trains : Int)) then
      (get h_.Trains i_6).bind fun x36 =>
      if (!(b4a x36.At 0 (wr (h_.Until - 1)))) || (decide (4 < (List.length x36.Crowds : Int))) then
        some (.br (.inr 60))
      else
        (b07 (b69 h_ x36) ((-1), 0)).bind fun
          | (.inl ()) => c5z i_6
          | (.inr r') => some (.br (.inr r'))
    else
      some (.br (.inl ()))
noncomputable def c50 (h_ : Hall) : Option Int :=
  (b07 (b93 h_) (0)).bind fun
    | (.inl ()) => c51 h_
    | (.inr r') => some r'
noncomputable def b92 (h_ : Hall) : Int → Option (Out Int (Unit ⊕ Int))
  | i_4 =>
    if decide (i_4 < (List.length h_.Combs : Int)) then
      (get h_.Combs i_4).bind fun x56 =>
      if (((!(b2g x56.Rate 0 1000)) || (!(b2g x56.Limit 0 100000))) || ((decide (¬x56.Next = (-1))) && (!(b2g x56.Next (wr (i_4 + 1)) (wr ((List.length h_.Combs : Int) - 1)))))) || (!(b4a x56.Walk 1 20)) then
        some (.br (.inr 60))
      else
        some (.nx (wr (i_4 + 1)))
    else
      some (.br (.inl ()))
noncomputable def b4m (h_ : Hall) : Option Int :=
  if (((!(b2g h_.Until 1 100)) || (!(b2g (List.length h_.Combs : Int) 1 8))) || (decide (12 < (List.length h_.Trains : Int)))) || (decide (20 < (List.length h_.Shifts : Int))) then
    some 60
  else
    (b07 (b92 h_) (0)).bind fun
      | (.inl ()) => c50 h_
      | (.inr r') => some r'
def c0m (O : Orac) : Prop := ∀ (h_ : Hall) (r : Int) (hm0 : b4m h_ = some r), Fn O "newel/newelref06.Check" [.agg [.fs 5 (List.map b0p h_.Combs), .fs 3 (List.map b0o h_.Trains), .fs 3 (List.map b0q h_.Shifts), I h_.Until]] (I r)
noncomputable def l06_Example : Hall :=
  (Hall.mk ([(Comb.mk 3 12 1 (Span.mk 2 3)), (Comb.mk 2 10 (-1) (Span.mk 1 1))]) ([(Train.mk (Span.mk 2 4) ([(Crowd.mk 0 (Span.mk 6 10))])), (Train.mk (Span.mk 5 5) ([(Crowd.mk 0 (Span.mk 0 4)), (Crowd.mk 1 (Span.mk 3 3))]))]) ([]) 20)
def c67 (O : Orac) : Prop := ∀ (_ : Unit), Fn O "newel/newellaw06.Example" [] (.agg [.fs 5 (List.map b0p ((l06_Example).Combs)), .fs 3 (List.map b0o ((l06_Example).Trains)), .fs 3 (List.map b0q ((l06_Example).Shifts)), I ((l06_Example).Until)])
noncomputable def b28 (n : Int) (s : Span) : Bool :=
  (decide (s.Low ≤ n)) && (decide (n ≤ s.High))
def b8u (O : Orac) : Prop := ∀ (n : Int) (s : Span), Fn O "newel/halls.in" [I n, .agg [I s.Low, I s.High]] (B (b28 n s))
noncomputable def b4d (s : Span) (low : Int) (high : Int) : Bool :=
  ((decide (low ≤ s.Low)) && (decide (s.Low ≤ s.High))) && (decide (s.High ≤ high))
def c3l (O : Orac) : Prop := ∀ (s : Span) (low : Int) (high : Int), Fn O "newel/halls.span" [.agg [I s.Low, I s.High], I low, I high] (B (b4d s low high))
noncomputable def b73 (h_ : Hall) (i : Int) : Option Bool :=
  (get h_.Combs i).bind fun x2 =>
  some ((((b28 x2.Rate (Span.mk 0 1000)) && (b28 x2.Limit (Span.mk 0 100000))) && ((decide (x2.Next = (-1))) || ((decide (i < x2.Next)) && (decide (x2.Next < (List.length h_.Combs : Int)))))) && (b4d x2.Walk 1 20))
def c60 (O : Orac) : Prop := ∀ (h_ : Hall) (i : Int) (r : Bool) (hm0 : b73 h_ i = some r), Fn O "newel/halls.isComb" [.agg [.fs 5 (List.map b0p h_.Combs), .fs 3 (List.map b0o h_.Trains), .fs 3 (List.map b0q h_.Shifts), I h_.Until], I i] (B r)
noncomputable def b9l (h_ : Hall) (t_ : Train) : Option Bool :=
  some ((b4d t_.At 0 (wr (h_.Until - 1))) && (decide ((List.length t_.Crowds : Int) ≤ 4)))
noncomputable def b50 (h_ : Hall) (t_ : Train) : (Int × Int) → Option (Out (Int × Int) (Unit ⊕ Bool))
  | (last_5, x_11) =>
    if decide (x_11 < (List.length t_.Crowds : Int)) then
      (get t_.Crowds x_11).bind fun x9 =>
      if ((decide (x9.Comb ≤ last_5)) || (decide ((List.length h_.Combs : Int) ≤ x9.Comb))) || (!(b4d x9.People 0 1000)) then
        some (.br (.inr false))
      else
        some (.nx (x9.Comb, wr (x_11 + 1)))
    else
      some (.br (.inl ()))
noncomputable def b75 (h_ : Hall) (t_ : Train) : Option Bool :=
  (b07 (b50 h_ t_) ((-1), 0)).bind fun
    | (.inl ()) => b9l h_ t_
    | (.inr r') => some r'
def c63 (O : Orac) : Prop := ∀ (h_ : Hall) (t_ : Train) (r : Bool) (hm0 : b75 h_ t_ = some r), Fn O "newel/halls.isTrain" [.agg [.fs 5 (List.map b0p h_.Combs), .fs 3 (List.map b0o h_.Trains), .fs 3 (List.map b0q h_.Shifts), I h_.Until], .agg [I t_.At.Low, I t_.At.High, .fs 3 (List.map b2t t_.Crowds)]] (B r)
noncomputable def b6r (t_ : Train) (c0 : Hall) : Option Bool :=
  (b75 c0 t_).bind fun y2 =>
  some (!y2)
def c6s (O : Orac) : Prop := ∀ (t_ : Train) (c0 : Hall) (r : Bool) (hm0 : b6r t_ c0 = some r), Fn O "newel/halls.Check$1" [.agg [I t_.At.Low, I t_.At.High, .fs 3 (List.map b2t t_.Crowds)], .fp [.fs 5 (List.map b0p c0.Combs), .fs 3 (List.map b0o c0.Trains), .fs 3 (List.map b0q c0.Shifts), I c0.Until] 0] (B r)
noncomputable def c27 : Option Int :=
  some (-1)
noncomputable def c6j (s : List Train) (f : Train → Option Bool) : Int → Option (Out Int (Unit ⊕ Int))
  | x_8 =>
    if decide (x_8 < (List.length s : Int)) then
      (get s x_8).bind fun x9 =>
      (f x9).bind fun y10 =>
      if y10 then
        some (.br (.inr x_8))
      else
        some (.nx (wr (x_8 + 1)))
    else
      some (.br (.inl ()))
noncomputable def c26 (s : List Train) (f : Train → Option Bool) : Option Int :=
  (b07 (c6j s f) (0)).bind fun
    | (.inl ()) => c27
    | (.inr r') => some r'
def c7j (O : Orac) : Prop := ∀ (s : List Train) (f_n : String) (f_a f_b : List AV) (f : Train → Option Bool) (f_z : Frz (.fn f_n f_a f_b)) (f_h : ∀ z0 y, f z0 = some y → Fn O f_n (f_a ++ [.agg [I z0.At.Low, I z0.At.High, .fs 3 (List.map b2t z0.Crowds)]] ++ f_b) (B y)) (r : Int) (hm0 : c26 s f = some r), Fn O "slices.IndexFunc[[]newel/api.Train,newel/api.Train]" [.fs 3 (List.map b0o s), .fn f_n f_a f_b] (I r)
noncomputable def c0j (s : List Train) (f : Train → Option Bool) : Option Bool :=
  (c26 s f).bind fun y2 =>
  some (decide (0 ≤ y2))
def c7i (O : Orac) : Prop := ∀ (s : List Train) (f_n : String) (f_a f_b : List AV) (f : Train → Option Bool) (f_z : Frz (.fn f_n f_a f_b)) (f_h : ∀ z0 y, f z0 = some y → Fn O f_n (f_a ++ [.agg [I z0.At.Low, I z0.At.High, .fs 3 (List.map b2t z0.Crowds)]] ++ f_b) (B y)) (r : Bool) (hm0 : c0j s f = some r), Fn O "slices.ContainsFunc[[]newel/api.Train,newel/api.Train]" [.fs 3 (List.map b0o s), .fn f_n f_a f_b] (B r)
noncomputable def c1f : Option Int :=
  some 0
noncomputable def b6s (h_ : Hall) : Int → Option (Out Int (Unit ⊕ Int))
  | x_56 =>
    if decide (x_56 < (List.length h_.Shifts : Int)) then
      (get h_.Shifts x_56).bind fun x23 =>
      (if (decide (x23.At < 0)) || (decide (h_.Until ≤ x23.At)) then some true else (if decide (0 < x_56) then (get h_.Shifts (wr (x_56 - 1))).bind fun x27 =>
      some (decide (x23.At < x27.At)) else some false).bind fun c28 =>
      some c28).bind fun c29 =>
      if ((c29 || (decide (x23.Comb < 0))) || (decide ((List.length h_.Combs : Int) ≤ x23.Comb))) || (!(b28 x23.Rate (Span.mk 0 1000))) then
        some (.br (.inr 60))
      else
        some (.nx (wr (x_56 + 1)))
    else
      some (.br (.inl ()))
noncomputable def b9c (h_ : Hall) : Option Int :=
  (c0j h_.Trains (fun z12 => b6r z12 h_)).bind fun y13 =>
  if y13 then
    some 60
  else
    (b07 (b6s h_) (0)).bind fun
      | (.inl ()) => c1f
      | (.inr r') => some r'
noncomputable def b6t (h_ : Hall) : Int → Option (Out Int (Unit ⊕ Int))
  | x_41 =>
    if decide (x_41 < (List.length h_.Combs : Int)) then
      (b73 h_ x_41).bind fun y45 =>
      if !y45 then
        some (.br (.inr 60))
      else
        some (.nx (wr (x_41 + 1)))
    else
      some (.br (.inl ()))
noncomputable def b3z (h_ : Hall) : Option Int :=
  if (((((decide (h_.Until < 1)) || (decide (100 < h_.Until))) || (decide ((List.length h_.Combs : Int) < 1))) || (decide (8 < (List.length h_.Combs : Int)))) || (decide (12 < (List.length h_.Trains : Int)))) || (decide (20 < (List.length h_.Shifts : Int))) then
    some 60
  else
    (b07 (b6t h_) (0)).bind fun
      | (.inl ()) => b9c h_
      | (.inr r') => some r'
def b8t (O : Orac) : Prop := ∀ (h_ : Hall) (r : Int) (hm0 : b3z h_ = some r), Fn O "newel/halls.Check" [.agg [.fs 5 (List.map b0p h_.Combs), .fs 3 (List.map b0o h_.Trains), .fs 3 (List.map b0q h_.Shifts), I h_.Until]] (I r)
noncomputable def b6a (t_ : Int) (c0 : Hall) : Bool :=
  (decide (t_ < 0)) || (decide (c0.Until ≤ t_))
def c6z (O : Orac) : Prop := ∀ (t_ : Int) (c0 : Hall), Fn O "newel/halls.check$1" [I t_, .fp [.fs 5 (List.map b0p c0.Combs), .fs 3 (List.map b0o c0.Trains), .fs 3 (List.map b0q c0.Shifts), I c0.Until] 0] (B (b6a t_ c0))
noncomputable def c3a : Option Int :=
  some (-1)
noncomputable def c6k (s : List Int) (f : Int → Option Bool) : Int → Option (Out Int (Unit ⊕ Int))
  | x_8 =>
    if decide (x_8 < (List.length s : Int)) then
      (get s x_8).bind fun x9 =>
      (f x9).bind fun y10 =>
      if y10 then
        some (.br (.inr x_8))
      else
        some (.nx (wr (x_8 + 1)))
    else
      some (.br (.inl ()))
noncomputable def c0k (s : List Int) (f : Int → Option Bool) : Option Int :=
  (b07 (c6k s f) (0)).bind fun
    | (.inl ()) => c3a
    | (.inr r') => some r'
def c3p (O : Orac) : Prop := ∀ (s : List Int) (f_n : String) (f_a f_b : List AV) (f : Int → Option Bool) (f_z : Frz (.fn f_n f_a f_b)) (f_h : ∀ z0 y, f z0 = some y → Fn O f_n (f_a ++ [I z0] ++ f_b) (B y)) (r : Int) (hm0 : c0k s f = some r), Fn O "slices.IndexFunc[[]int,int]" [.fs 1 (List.map eI s), .fn f_n f_a f_b] (I r)
noncomputable def b8n (s : List Int) (f : Int → Option Bool) : Option Bool :=
  (c0k s f).bind fun y2 =>
  some (decide (0 ≤ y2))
def c3o (O : Orac) : Prop := ∀ (s : List Int) (f_n : String) (f_a f_b : List AV) (f : Int → Option Bool) (f_z : Frz (.fn f_n f_a f_b)) (f_h : ∀ z0 y, f z0 = some y → Fn O f_n (f_a ++ [I z0] ++ f_b) (B y)) (r : Bool) (hm0 : b8n s f = some r), Fn O "slices.ContainsFunc[[]int,int]" [.fs 1 (List.map eI s), .fn f_n f_a f_b] (B r)
noncomputable def b5z (h_ : Hall) (comb : Int) (ticks : List Int) : Option Int :=
  (b3z h_).bind fun y2 =>
  if decide (¬y2 = 0) then
    some y2
  else
    (if (decide (comb < 0)) || (decide ((List.length h_.Combs : Int) ≤ comb)) then some true else (b8n ticks (fun z8 => some (b6a z8 h_))).bind fun y9 =>
    some y9).bind fun c10 =>
    if c10 then
      some 1
    else
      some 0
def c3j (O : Orac) : Prop := ∀ (h_ : Hall) (comb : Int) (ticks : List Int) (r : Int) (hm0 : b5z h_ comb ticks = some r), Fn O "newel/halls.check" [.agg [.fs 5 (List.map b0p h_.Combs), .fs 3 (List.map b0o h_.Trains), .fs 3 (List.map b0q h_.Shifts), I h_.Until], I comb, .fs 1 (List.map eI ticks)] (I r)
noncomputable def c1x (out_5 : List Int) : Option (List Int) :=
  some out_5
noncomputable def b9p (x_20 : Int) (out_5_1 : List Int) (now_6_1 : Int) (at_7_1 : Int) : Option (Out ((List Int) × Int × Int × Int) (((List Int)))) :=
  some (.nx (out_5_1, now_6_1, at_7_1, wr (x_20 + 1)))
noncomputable def b9q (out_5 : List Int) (x_20 : Int) (now_6_1 : Int) (at_7_1 : Int) : Option (Out ((List Int) × Int × Int × Int) (((List Int)))) :=
  (get out_5 x_20).bind fun x15 =>
  b9p x_20 (List.set out_5 (Int.toNat x_20) now_6_1) now_6_1 at_7_1
noncomputable def b8a (at_7_1 : Int) (now_6_2 : Int) : Option (Out (Int × Int) ((Int × Int))) :=
  some (.nx (now_6_2, wr (at_7_1 + 1)))
noncomputable def b6z (h_ : Hall) (comb : Int) (x_20 : Int) : (Int × Int) → Option (Out (Int × Int) ((Int × Int)))
  | (now_6_1, at_7_1) =>
    (if decide (at_7_1 < (List.length h_.Shifts : Int)) then (get h_.Shifts at_7_1).bind fun x19 =>
    some (decide (x19.At ≤ x_20)) else some false).bind fun c20 =>
    if c20 then
      (get h_.Shifts at_7_1).bind fun x27 =>
      if decide (x27.Comb = comb) then
        b8a at_7_1 x27.Rate
      else
        b8a at_7_1 now_6_1
    else
      some (.br (now_6_1, at_7_1))
noncomputable def b79 (h_ : Hall) (comb : Int) (l2 : List Int) : ((List Int) × Int × Int × Int) → Option (Out ((List Int) × Int × Int × Int) (((List Int))))
  | (out_5, now_6, at_7, x_20) =>
    if decide (x_20 < ((List.length l2 : Nat) : Int)) then
      (b07 (b6z h_ comb x_20) (now_6, at_7)).bind fun
        | (now_6_1, at_7_1) => b9q out_5 x_20 now_6_1 at_7_1
    else
      some (.br out_5)
noncomputable def b6c (h_ : Hall) (comb : Int) : Option (List Int) :=
  (mks 8 h_.Until 0).bind fun l2 =>
  (get h_.Combs comb).bind fun x4 =>
  (b07 (b79 h_ comb l2) (l2, x4.Rate, 0, 0)).bind fun out_5 =>
  c1x out_5
def b8v (O : Orac) : Prop := ∀ (h_ : Hall) (comb : Int) (r : List Int) (hm0 : b6c h_ comb = some r), FnW O "newel/halls.rates" [.agg [.fs 5 (List.map b0p h_.Combs), .fs 3 (List.map b0o h_.Trains), .fs 3 (List.map b0q h_.Shifts), I h_.Until], I comb] 1 eI r
@[go_sem] def b0k (x : List Int) : List AV := [.fs 1 (List.map eI x)]
theorem b2v (x : List Int) : ∀ c ∈ b0k x, Frz c := (b0e (b0s fun a _ => b2b a) b0y)
theorem c5p (x : List Int) : (b0k x).length = 1 := rfl
@[go_sem] theorem l9v {l : List (List Int)} {n : Nat} {a0 : List Int} : (List.map b0k l).set n [.fs 1 (List.map eI a0)] = List.map b0k (l.set n a0) := by rw [List.map_set]; rfl
noncomputable def b76 (out_2 : List (List Int)) : Option (List (List Int)) :=
  some out_2
noncomputable def c1v (h_ : Hall) : ((List (List Int)) × Int) → Option (Out ((List (List Int)) × Int) (((List (List Int)))))
  | (out_2, x_7) =>
    if decide (x_7 < (List.length h_.Combs : Int)) then
      (b6c h_ x_7).bind fun y9 =>
      (ap 24 out_2 ([y9])).bind fun l10 =>
      some (.nx (l10, wr (x_7 + 1)))
    else
      some (.br out_2)
noncomputable def b6y (h_ : Hall) : Option (List (List Int)) :=
  (b07 (c1v h_) ([], 0)).bind fun out_2 =>
  b76 out_2
def c64 (O : Orac) : Prop := ∀ (h_ : Hall) (r : List (List Int)) (hm0 : b6y h_ = some r), Fn O "newel/halls.open" [.agg [.fs 5 (List.map b0p h_.Combs), .fs 3 (List.map b0o h_.Trains), .fs 3 (List.map b0q h_.Shifts), I h_.Until]] (.fs 1 (List.map b0k r))
def c65 (O : Orac) : Prop := ∀ (h_ : Hall) (h0 : Heap) (r : List (List Int)) (hm0 : b6y h_ = some r), b6n O "newel/halls.open" [.agg [.fs 5 (List.map b0p h_.Combs), .fs 3 (List.map b0o h_.Trains), .fs 3 (List.map b0q h_.Shifts), I h_.Until]] h0 (fun v h => ∃ hs, RR h v hs 1 eI r ∧ (∀ j, j < h0.nx → h.ob j = h0.ob j) ∧ h0.nx ≤ h.nx ∧ ∀ j, ¬b0f v hs j → h0.nx ≤ j)
noncomputable def c1t (sum_8 : Int) : Option Int :=
  some sum_8
noncomputable def b9i (x_16 : Int) (sum_8_1 : Int) : Option (Out (Int × Int) Int) :=
  some (.nx (sum_8_1, wr (x_16 + 1)))
noncomputable def b9h (x_35 : Int) (sum_8_2 : Int) : Option (Out (Int × Int) Int) :=
  some (.nx (sum_8_2, wr (x_35 + 1)))
noncomputable def c4v (comb : Int) (x9 : Train) : (Int × Int) → Option (Out (Int × Int) Int)
  | (sum_8_1, x_35) =>
    if decide (x_35 < (List.length x9.Crowds : Int)) then
      (get x9.Crowds x_35).bind fun x19 =>
      if decide (x19.Comb = comb) then
        b9h x_35 (wr (sum_8_1 + x19.People.High))
      else
        b9h x_35 sum_8_1
    else
      some (.br sum_8_1)
noncomputable def c4w (h_ : Hall) (comb : Int) (from_ : Int) (to_ : Int) : (Int × Int) → Option (Out (Int × Int) Int)
  | (sum_8, x_16) =>
    if decide (x_16 < (List.length h_.Trains : Int)) then
      (get h_.Trains x_16).bind fun x9 =>
      if (decide (x9.At.High < from_)) || (decide (to_ < x9.At.Low)) then
        b9i x_16 sum_8
      else
        (b07 (c4v comb x9) (sum_8, 0)).bind fun sum_8_1 =>
        b9i x_16 sum_8_1
    else
      some (.br sum_8)
noncomputable def c1s (h_ : Hall) (comb : Int) (from_ : Int) (to_ : Int) : Option Int :=
  (b07 (c4w h_ comb from_ to_) (0, 0)).bind fun sum_8 =>
  c1t sum_8
def c3i (O : Orac) : Prop := ∀ (h_ : Hall) (comb : Int) (from_ : Int) (to_ : Int) (r : Int) (hm0 : c1s h_ comb from_ to_ = some r), Fn O "newel/halls.brought" [.agg [.fs 5 (List.map b0p h_.Combs), .fs 3 (List.map b0o h_.Trains), .fs 3 (List.map b0q h_.Shifts), I h_.Until], I comb, I from_, I to_] (I r)
structure halls_bound where
  rates : List Int
  flow : List Int
  most : List Int
  come : List (List Int)
  deriving Inhabited, DecidableEq
noncomputable def c0w (least_7 : Int) : Option Int :=
  some least_7
noncomputable def b8z (b : halls_bound) (from_ : Int) (least_7 : Int) (k_8 : Int) (behind_9 : Int) : Option (Out (Int × Int) Int) :=
  (get b.flow k_8).bind fun x23 =>
  (get b.flow (mx from_ 0)).bind fun x24 =>
  (get b.most k_8).bind fun x25 =>
  some (.nx (mn least_7 (wr ((wr ((wr (x23 - x24)) + x25)) + behind_9)), wr (k_8 + 1)))
noncomputable def c3t (b : halls_bound) (from_ : Int) (to_ : Int) : (Int × Int) → Option (Out (Int × Int) Int)
  | (least_7, k_8) =>
    if decide (k_8 ≤ to_) then
      if decide (k_8 < to_) then
        (get b.come (wr (k_8 + 1))).bind fun x29 =>
        (get x29 to_).bind fun x30 =>
        b8z b from_ least_7 k_8 x30
      else
        b8z b from_ least_7 k_8 0
    else
      some (.br least_7)
noncomputable def c0v (b : halls_bound) (from_ : Int) (to_ : Int) : Option Int :=
  if (decide (to_ < from_)) || (decide (to_ < 0)) then
    some 0
  else
    (get b.come 0).bind fun x8 =>
    (get x8 to_).bind fun x9 =>
    (get b.flow (wr (to_ + 1))).bind fun x10 =>
    (get b.flow (mx from_ 0)).bind fun x11 =>
    (b07 (c3t b from_ to_) (mn x9 (wr (x10 - x11)), mx from_ 0)).bind fun least_7 =>
    c0w least_7
def c3h (O : Orac) : Prop := ∀ (b : halls_bound) (from_ : Int) (to_ : Int) (r : Int) (hm0 : c0v b from_ to_ = some r), Fn O "(*newel/halls.bound).passes" [.fp [.fs 1 (List.map eI b.rates), .fs 1 (List.map eI b.flow), .fs 1 (List.map eI b.most), .fs 1 (List.map b0k b.come)] 0, I from_, I to_] (I r)
@[go_sem] def b11 (x : halls_bound) : List AV := [.fp [.fs 1 (List.map eI x.rates), .fs 1 (List.map eI x.flow), .fs 1 (List.map eI x.most), .fs 1 (List.map b0k x.come)] 0]
theorem c1b (x : halls_bound) : ∀ c ∈ b11 x, Frz c := (b0e (.fp _ _ (b0e (b0s fun a _ => b2b a) (b0e (b0s fun a _ => b2b a) (b0e (b0s fun a _ => b2b a) (b0e (b0s fun a _ => b2v a) b0y))))) b0y)
theorem d7y (x : halls_bound) : (b11 x).length = 1 := rfl
noncomputable def b7v (all_5 : List halls_bound) : Option (List halls_bound) :=
  some all_5
noncomputable def b7z (x_19 : Int) (all_5_1 : List halls_bound) : Option (Out ((List halls_bound) × Int) (((List halls_bound)))) :=
  some (.nx (all_5_1, wr (x_19 + 1)))
noncomputable def b7t (all_5 : List halls_bound) (x_19 : Int) (b_7_0 : List Int) (b_7_3 : List (List Int)) (b_7_1 : List Int) (b_7_2 : List Int) : Option (Out ((List halls_bound) × Int) (((List halls_bound)))) :=
  (ap 8 all_5 ([(halls_bound.mk b_7_0 b_7_1 b_7_2 b_7_3)])).bind fun l13 =>
  b7z x_19 l13
noncomputable def b7u (x_122 : Int) (b_7_1_1 : List Int) (b_7_2_1 : List Int) : Option (Out ((List Int) × (List Int) × Int) (((List Int) × (List Int)))) :=
  some (.nx (b_7_1_1, b_7_2_1, wr (x_122 + 1)))
noncomputable def b7w (open_ : List (List Int)) (x_19 : Int) (b_7_1 : List Int) (b_7_2 : List Int) (x_122 : Int) (most_14 : Int) : Option (Out ((List Int) × (List Int) × Int) (((List Int) × (List Int)))) :=
  (ap 8 b_7_2 ([most_14])).bind fun l22 =>
  (get b_7_1 x_122).bind fun x27 =>
  (get open_ x_19).bind fun x28 =>
  (get x28 x_122).bind fun x29 =>
  (ap 8 b_7_1 ([wr (x27 + (mn most_14 x29))])).bind fun l30 =>
  b7u x_122 l30 l22
noncomputable def c1p (b_7_0 : List Int) (b_7_3 : List (List Int)) (x_122 : Int) : (Int × Int) → Option (Out (Int × Int) Int)
  | (most_14, x_127) =>
    if decide (x_127 < (wr (x_122 + 1))) then
      (get b_7_3 x_127).bind fun x40 =>
      (get x40 x_122).bind fun x42 =>
      (get b_7_0 x_122).bind fun x43 =>
      (get b_7_0 x_127).bind fun x44 =>
      some (.nx (mx most_14 (wr (x42 - (wr (x43 - x44)))), wr (x_127 + 1)))
    else
      some (.br most_14)
noncomputable def c1q (h_ : Hall) (open_ : List (List Int)) (x_19 : Int) (b_7_0 : List Int) (b_7_3 : List (List Int)) : ((List Int) × (List Int) × Int) → Option (Out ((List Int) × (List Int) × Int) (((List Int) × (List Int))))
  | (b_7_1, b_7_2, x_122) =>
    if decide (x_122 < h_.Until) then
      (b07 (c1p b_7_0 b_7_3 x_122) (0, 0)).bind fun most_14 =>
      b7w open_ x_19 b_7_1 b_7_2 x_122 most_14
    else
      some (.br (b_7_1, b_7_2))
noncomputable def b72 (h_ : Hall) (open_ : List (List Int)) (all_5 : List halls_bound) (x_19 : Int) (b_7_0 : List Int) (b_7_3 : List (List Int)) : Option (Out ((List halls_bound) × Int) (((List halls_bound)))) :=
  (b07 (c1q h_ open_ x_19 b_7_0 b_7_3) ([0], [], 0)).bind fun
    | (b_7_1, b_7_2) => b7t all_5 x_19 b_7_0 b_7_3 b_7_1 b_7_2
noncomputable def b7x (x_28 : Int) (b_7_0_1 : List Int) (b_7_3_1 : List (List Int)) : Option (Out ((List Int) × (List (List Int)) × Int) (((List Int) × (List (List Int))))) :=
  some (.nx (b_7_0_1, b_7_3_1, wr (x_28 + 1)))
noncomputable def b7y (open_ : List (List Int)) (x_19 : Int) (b_7_0 : List Int) (b_7_3 : List (List Int)) (x_28 : Int) (row_9 : List Int) : Option (Out ((List Int) × (List (List Int)) × Int) (((List Int) × (List (List Int))))) :=
  (ap 24 b_7_3 ([row_9])).bind fun l57 =>
  (get b_7_0 x_28).bind fun x62 =>
  (get open_ x_19).bind fun x63 =>
  (get x63 x_28).bind fun x64 =>
  (ap 8 b_7_0 ([wr (x62 + x64)])).bind fun l65 =>
  b7x x_28 l65 l57
noncomputable def b70 (t_10 : Int) (row_9_1 : List Int) : Option (Out ((List Int) × Int) (((List Int)))) :=
  some (.nx (row_9_1, wr (t_10 + 1)))
noncomputable def b6w (x_54 : Int) (row_9_2 : List Int) : Option (Out ((List Int) × Int) (((List Int)))) :=
  some (.nx (row_9_2, wr (x_54 + 1)))
noncomputable def c1m (all_5 : List halls_bound) (x_19 : Int) (x_28 : Int) (t_10 : Int) (l76 : List Comb) : ((List Int) × Int) → Option (Out ((List Int) × Int) (((List Int))))
  | (row_9_1, x_54) =>
    if decide (x_54 < (List.length l76 : Int)) then
      (get l76 x_54).bind fun x83 =>
      if decide (x83.Next = x_19) then
        (get row_9_1 t_10).bind fun x89 =>
        (get all_5 x_54).bind fun x90 =>
        (c0v x90 (wr (x_28 - x83.Walk.High)) (wr (t_10 - x83.Walk.Low))).bind fun y92 =>
        b6w x_54 (List.set row_9_1 (Int.toNat t_10) (wr (x89 + y92)))
      else
        b6w x_54 row_9_1
    else
      some (.br row_9_1)
noncomputable def c1n (h_ : Hall) (all_5 : List halls_bound) (x_19 : Int) (x_28 : Int) : ((List Int) × Int) → Option (Out ((List Int) × Int) (((List Int))))
  | (row_9, t_10) =>
    if decide (t_10 < h_.Until) then
      (c1s h_ x_19 x_28 t_10).bind fun y73 =>
      (get row_9 t_10).bind fun x74 =>
      (sub h_.Combs 0 x_19).bind fun l76 =>
      (b07 (c1m all_5 x_19 x_28 t_10 l76) ((List.set row_9 (Int.toNat t_10) y73), 0)).bind fun row_9_1 =>
      b70 t_10 row_9_1
    else
      some (.br row_9)
noncomputable def c1o (h_ : Hall) (open_ : List (List Int)) (all_5 : List halls_bound) (x_19 : Int) : ((List Int) × (List (List Int)) × Int) → Option (Out ((List Int) × (List (List Int)) × Int) (((List Int) × (List (List Int)))))
  | (b_7_0, b_7_3, x_28) =>
    if decide (x_28 < h_.Until) then
      (mks 8 h_.Until 0).bind fun l53 =>
      (b07 (c1n h_ all_5 x_19 x_28) (l53, x_28)).bind fun row_9 =>
      b7y open_ x_19 b_7_0 b_7_3 x_28 row_9
    else
      some (.br (b_7_0, b_7_3))
noncomputable def c1r (h_ : Hall) (open_ : List (List Int)) : ((List halls_bound) × Int) → Option (Out ((List halls_bound) × Int) (((List halls_bound))))
  | (all_5, x_19) =>
    if decide (x_19 < (List.length h_.Combs : Int)) then
      (b07 (c1o h_ open_ all_5 x_19) ([0], [], 0)).bind fun
        | (b_7_0, b_7_3) => b72 h_ open_ all_5 x_19 b_7_0 b_7_3
    else
      some (.br all_5)
noncomputable def b6v (h_ : Hall) (open_ : List (List Int)) : Option (List halls_bound) :=
  (b07 (c1r h_ open_) ([], 0)).bind fun all_5 =>
  b7v all_5
def c6x (O : Orac) : Prop := ∀ (h_ : Hall) (open_ : List (List Int)) (r : List halls_bound) (hm0 : b6v h_ open_ = some r), Fn O "newel/halls.bounds" [.agg [.fs 5 (List.map b0p h_.Combs), .fs 3 (List.map b0o h_.Trains), .fs 3 (List.map b0q h_.Shifts), I h_.Until], .fs 1 (List.map b0k open_)] (.fs 1 (List.map b11 r))
def c6y (O : Orac) : Prop := ∀ (h_ : Hall) (open_ : List (List Int)) (v_1 : AV) (hs_1 : List AV) (h0 : Heap) (rr_p1 : RR h0 v_1 hs_1 1 eI open_) (r : List halls_bound) (hm0 : b6v h_ open_ = some r), b6n O "newel/halls.bounds" [.agg [.fs 5 (List.map b0p h_.Combs), .fs 3 (List.map b0o h_.Trains), .fs 3 (List.map b0q h_.Shifts), I h_.Until], v_1] h0 (fun v h => v = .fs 1 (List.map b11 r) ∧ (∀ j, j < h0.nx → h.ob j = h0.ob j) ∧ h0.nx ≤ h.nx)
noncomputable def b9n (n : Int) (c0 : Hall) (c1 : Int) : Option Bool :=
  (get c0.Combs c1).bind fun x2 =>
  some (decide (x2.Limit < n))
def c66 (O : Orac) : Prop := ∀ (n : Int) (c0 : Hall) (c1 : Int) (r : Bool) (hm0 : b9n n c0 c1 = some r), Fn O "newel/halls.over$1" [I n, .fp [.fs 5 (List.map b0p c0.Combs), .fs 3 (List.map b0o c0.Trains), .fs 3 (List.map b0q c0.Shifts), I c0.Until] 0, .fp [I c1] 0] (B r)
@[go_sem] def b5h (x : Int × Int) : List AV := [I x.1, I x.2]
theorem c4g (x : Int × Int) : ∀ c ∈ b5h x, Frz c := (b0e (b0l _) (b0e (b0l _) b0y))
theorem g98 (x : Int × Int) : (b5h x).length = 2 := rfl
@[go_sem] theorem l9s {l : List (Int × Int)} {n : Nat} {a0 : Int} {a1 : Int} : (List.map b5h l).set n [I a0, I a1] = List.map b5h (l.set n (a0, a1)) := by rw [List.map_set]; rfl
noncomputable def c1w (out_4 : List (Int × Int)) : Option (List (Int × Int)) :=
  some out_4
noncomputable def b9o (x_10 : Int) (out_4_1 : List (Int × Int)) : Option (Out ((List (Int × Int)) × Int) (((List (Int × Int))))) :=
  some (.nx (out_4_1, wr (x_10 + 1)))
noncomputable def c45 (h_ : Hall) (all : List halls_bound) : ((List (Int × Int)) × Int) → Option (Out ((List (Int × Int)) × Int) (((List (Int × Int)))))
  | (out_4, x_10) =>
    if decide (x_10 < (List.length all : Int)) then
      (get all x_10).bind fun x9 =>
      (c0k x9.most (fun z12 => b9n z12 h_ x_10)).bind fun y13 =>
      if decide (0 ≤ y13) then
        (ap 16 out_4 ([(x_10, y13)])).bind fun l16 =>
        b9o x_10 l16
      else
        b9o x_10 out_4
    else
      some (.br out_4)
noncomputable def b9m (h_ : Hall) (all : List halls_bound) : Option (List (Int × Int)) :=
  (b07 (c45 h_ all) ([], 0)).bind fun out_4 =>
  c1w out_4
def c3k (O : Orac) : Prop := ∀ (h_ : Hall) (all : List halls_bound) (r : List (Int × Int)) (hm0 : b9m h_ all = some r), Fn O "newel/halls.over" [.agg [.fs 5 (List.map b0p h_.Combs), .fs 3 (List.map b0o h_.Trains), .fs 3 (List.map b0q h_.Shifts), I h_.Until], .fs 1 (List.map b11 all)] (.fs 2 (List.map b5h r))
noncomputable def c4m (h_ : Hall) (comb : Int) (from_ : Int) : ((List (List Int)) × Int) → Option (Out ((List (List Int)) × Int) (((Int × Int))))
  | (all_9, n_10) =>
    (b6v h_ all_9).bind fun y11 =>
    (b9m h_ y11).bind fun y12 =>
    if decide ((List.length y12 : Int) = 0) then
      some (.br (n_10, 0))
    else
      if decide ((wr (from_ + n_10)) = h_.Until) then
        some (.br (0, 3))
      else
        (get all_9 comb).bind fun x19 =>
        (get x19 (wr (from_ + n_10))).bind fun x20 =>
        some (.nx ((List.set all_9 (Int.toNat comb) (List.set x19 (Int.toNat (wr (from_ + n_10))) 0)), wr (n_10 + 1)))
noncomputable def c1g (h_ : Hall) (comb : Int) (from_ : Int) : Option (Int × Int) :=
  (b5z h_ comb ([from_])).bind fun y2 =>
  if decide (¬y2 = 0) then
    some (0, y2)
  else
    (b6y h_).bind fun y6 =>
    (b07 (c4m h_ comb from_) (y6, 0)).bind fun r' =>
    some r'
def c6t (O : Orac) : Prop := ∀ (h_ : Hall) (comb : Int) (from_ : Int) (r : Int × Int) (hm0 : c1g h_ comb from_ = some r), Fn O "newel/halls.Guard" [.agg [.fs 5 (List.map b0p h_.Combs), .fs 3 (List.map b0o h_.Trains), .fs 3 (List.map b0q h_.Shifts), I h_.Until], I comb, I from_] (.tup [I r.1, I r.2])
noncomputable def c1h (h_ : Hall) : Option ((List (Int × Int)) × Int) :=
  (b3z h_).bind fun y2 =>
  if decide (¬y2 = 0) then
    some ([], y2)
  else
    (b6y h_).bind fun y8 =>
    (b6v h_ y8).bind fun y9 =>
    (b9m h_ y9).bind fun y10 =>
    some (y10, 0)
def c6u (O : Orac) : Prop := ∀ (h_ : Hall) (r : (List (Int × Int)) × Int) (hm0 : c1h h_ = some r), Fn O "newel/halls.Over" [.agg [.fs 5 (List.map b0p h_.Combs), .fs 3 (List.map b0o h_.Trains), .fs 3 (List.map b0q h_.Shifts), I h_.Until]] (.tup [.fs 2 (List.map b5h r.1), I r.2])
noncomputable def b6h : Option Bool :=
  (c1g l06_Example 0 5).bind fun y2 =>
  (c1h l06_Example).bind fun y4 =>
  (if (((decide (y2.2 = 0)) && (decide (y4.2 = 0))) && (decide (y2.1 = 1))) && (decide ((List.length y4.1 : Int) = 1)) then (get y4.1 0).bind fun x7 =>
  some (decide (x7.1 = 1) && decide (x7.2 = 7)) else some false).bind fun c8 =>
  some c8
def c7b (O : Orac) : Prop := ∀ (r : Bool) (hm0 : b6h = some r), Fn O "newel/newellaw06.works" [] (B r)
noncomputable def d1i (l_5 : List Int) : Option (List Int) :=
  some l_5
noncomputable def c59 (t_6 : Int) (l_5_1 : List Int) : Option (Out ((List Int) × Int) (((List Int)))) :=
  some (.nx (l_5_1, wr (t_6 + 1)))
noncomputable def c0f (i_7 : Int) (l_5_2 : List Int) : Option (Out ((List Int) × Int) (((List Int)))) :=
  some (.nx (l_5_2, wr (i_7 + 1)))
noncomputable def c2s (h_ : Hall) (comb : Int) (t_6 : Int) : ((List Int) × Int) → Option (Out ((List Int) × Int) (((List Int))))
  | (l_5_1, i_7) =>
    if decide (i_7 < (List.length h_.Shifts : Int)) then
      (get h_.Shifts i_7).bind fun x20 =>
      if (decide (x20.Comb = comb)) && (decide (x20.At ≤ t_6)) then
        (get l_5_1 t_6).bind fun x24 =>
        c0f i_7 (List.set l_5_1 (Int.toNat t_6) x20.Rate)
      else
        c0f i_7 l_5_1
    else
      some (.br l_5_1)
noncomputable def c2t (h_ : Hall) (comb : Int) : ((List Int) × Int) → Option (Out ((List Int) × Int) (((List Int))))
  | (l_5, t_6) =>
    if decide (t_6 < h_.Until) then
      (get h_.Combs comb).bind fun x12 =>
      (get l_5 t_6).bind fun x13 =>
      (b07 (c2s h_ comb t_6) ((List.set l_5 (Int.toNat t_6) x12.Rate), 0)).bind fun l_5_1 =>
      c59 t_6 l_5_1
    else
      some (.br l_5)
noncomputable def c0e (h_ : Hall) (comb : Int) : Option (List Int) :=
  (mks 8 h_.Until 0).bind fun l2 =>
  (b07 (c2t h_ comb) (l2, 0)).bind fun l_5 =>
  d1i l_5
def c3n (O : Orac) : Prop := ∀ (h_ : Hall) (comb : Int) (r : List Int) (hm0 : c0e h_ comb = some r), Fn O "newel/newelref06.rates" [.agg [.fs 5 (List.map b0p h_.Combs), .fs 3 (List.map b0o h_.Trains), .fs 3 (List.map b0q h_.Shifts), I h_.Until], I comb] (.fs 1 (List.map eI r))
structure l06_Window where
  Comb : Int
  From : Int
  To : Int
  deriving Inhabited, DecidableEq
structure l06_Less where
  Train : Int
  Crowd : Int
  At : Span
  People : Span
  deriving Inhabited, DecidableEq
noncomputable def c0d (h_ : Hall) (n : Int) : Bool :=
  (b2g n 0 (wr ((List.length h_.Combs : Int) - 1)))
def c7g (O : Orac) : Prop := ∀ (h_ : Hall) (n : Int), Fn O "newel/newelref06.comb" [.agg [.fs 5 (List.map b0p h_.Combs), .fs 3 (List.map b0o h_.Trains), .fs 3 (List.map b0q h_.Shifts), I h_.Until], I n] (B (c0d h_ n))
structure r06_Bounds where
  Most : List (List Int)
  Flow : List (List Int)
  Come : List (List (List Int))
  Pass : List (List (List Int))
  deriving Inhabited, DecidableEq
@[go_sem] def d3n (x : List (List Int)) : List AV := [.fs 1 (List.map b0k x)]
@[go_sem] theorem l9w {l : List (List (List Int))} {n : Nat} {a0 : List (List Int)} : (List.map d3n l).set n [.fs 1 (List.map b0k a0)] = List.map d3n (l.set n a0) := by rw [List.map_set]; rfl
noncomputable def d1h : Option Bool :=
  some true
noncomputable def c2r (a : List Int) (b : List Int) : Int → Option (Out Int (Unit ⊕ Bool))
  | i_5 =>
    if decide (i_5 < (List.length a : Int)) then
      (get a i_5).bind fun x11 =>
      (get b i_5).bind fun x12 =>
      if decide (¬x11 = x12) then
        some (.br (.inr false))
      else
        some (.nx (wr (i_5 + 1)))
    else
      some (.br (.inl ()))
noncomputable def c0c (a : List Int) (b : List Int) : Option Bool :=
  if decide (¬(List.length a : Int) = (List.length b : Int)) then
    some false
  else
    (b07 (c2r a b) (0)).bind fun
      | (.inl ()) => d1h
      | (.inr r') => some r'
def c3m (O : Orac) : Prop := ∀ (a : List Int) (b : List Int) (r : Bool) (hm0 : c0c a b = some r), Fn O "newel/newelref06.Same" [.fs 1 (List.map eI a), .fs 1 (List.map eI b)] (B r)
structure Day where
  At : List Int
  People : List (List Int)
  Walks : List (List Int)
  deriving Inhabited, DecidableEq
noncomputable def d0t : Option Bool :=
  some true
noncomputable def c2e (a : List (List Int)) (b : List (List Int)) : Int → Option (Out Int (Unit ⊕ Bool))
  | i_5 =>
    if decide (i_5 < (List.length a : Int)) then
      (get a i_5).bind fun x12 =>
      (get b i_5).bind fun x13 =>
      (c0c x12 x13).bind fun y14 =>
      if !y14 then
        some (.br (.inr false))
      else
        some (.nx (wr (i_5 + 1)))
    else
      some (.br (.inl ()))
noncomputable def c2d (a : List (List Int)) (b : List (List Int)) : Option Bool :=
  if decide (¬(List.length a : Int) = (List.length b : Int)) then
    some false
  else
    (b07 (c2e a b) (0)).bind fun
      | (.inl ()) => d0t
      | (.inr r') => some r'
def c7a (O : Orac) : Prop := ∀ (a : List (List Int)) (b : List (List Int)) (r : Bool) (hm0 : c2d a b = some r), Fn O "newel/newellaw06.sameRows" [.fs 1 (List.map b0k a), .fs 1 (List.map b0k b)] (B r)
noncomputable def d0s : Option Bool :=
  some false
noncomputable def b9z (d : Day) : Int → Option (Out Int (Unit ⊕ Bool))
  | i_4 =>
    if decide (i_4 < (List.length d.Walks : Int)) then
      (get d.Walks i_4).bind fun x14 =>
      if decide (30 < (List.length x14 : Int)) then
        some (.br (.inr true))
      else
        some (.nx (wr (i_4 + 1)))
    else
      some (.br (.inl ()))
noncomputable def c5n (d : Day) : Option Bool :=
  (b07 (b9z d) (0)).bind fun
    | (.inl ()) => d0s
    | (.inr r') => some r'
noncomputable def b90 (d : Day) : Int → Option (Out Int (Unit ⊕ Bool))
  | i_3 =>
    if decide (i_3 < (List.length d.People : Int)) then
      (get d.People i_3).bind fun x22 =>
      if decide (10 < (List.length x22 : Int)) then
        some (.br (.inr true))
      else
        some (.nx (wr (i_3 + 1)))
    else
      some (.br (.inl ()))
noncomputable def b8e (d : Day) : Option Bool :=
  if ((decide (20 < (List.length d.At : Int))) || (decide (20 < (List.length d.People : Int)))) || (decide (20 < (List.length d.Walks : Int))) then
    some true
  else
    (b07 (b90 d) (0)).bind fun
      | (.inl ()) => c5n d
      | (.inr r') => some r'
def c69 (O : Orac) : Prop := ∀ (d : Day) (r : Bool) (hm0 : b8e d = some r), Fn O "newel/newellaw06.farDay" [.agg [.fs 1 (List.map eI d.At), .fs 1 (List.map b0k d.People), .fs 1 (List.map b0k d.Walks)]] (B r)
noncomputable def b59 (h_ : Hall) (comb : Int) : Option ((List Int) × Int) :=
  (b5z h_ comb ([])).bind fun y2 =>
  if decide (¬y2 = 0) then
    some ([], y2)
  else
    (b6c h_ comb).bind fun y6 =>
    some (y6, 0)
def c6w (O : Orac) : Prop := ∀ (h_ : Hall) (comb : Int) (r : (List Int) × Int) (hm0 : b59 h_ comb = some r), Fn O "newel/halls.Rates" [.agg [.fs 5 (List.map b0p h_.Combs), .fs 3 (List.map b0o h_.Trains), .fs 3 (List.map b0q h_.Shifts), I h_.Until], I comb] (.tup [.fs 1 (List.map eI r.1), I r.2])
noncomputable def b7c (h_ : Hall) (c : Int) : Option ((List Int) × Int) :=
  (b4m h_).bind fun y2 =>
  if decide (¬y2 = 0) then
    some ([], 60)
  else
    if !(c0d h_ c) then
      some ([], 1)
    else
      (c0e h_ c).bind fun y8 =>
      some (y8, 0)
def c7e (O : Orac) : Prop := ∀ (h_ : Hall) (c : Int) (r : (List Int) × Int) (hm0 : b7c h_ c = some r), Fn O "newel/newelref06.Rates" [.agg [.fs 5 (List.map b0p h_.Combs), .fs 3 (List.map b0o h_.Trains), .fs 3 (List.map b0q h_.Shifts), I h_.Until], I c] (.tup [.fs 1 (List.map eI r.1), I r.2])
noncomputable def b6b (n : Int) (c0 : Comb) : Bool :=
  !(b28 n c0.Walk)
def c62 (O : Orac) : Prop := ∀ (n : Int) (c0 : Comb), Fn O "newel/halls.isDay$1" [I n, .fp [I c0.Rate, I c0.Limit, I c0.Next, I c0.Walk.Low, I c0.Walk.High] 0] (B (b6b n c0))
noncomputable def c9d : Option Bool :=
  some true
noncomputable def b9k (h_ : Hall) (d : Day) : Int → Option (Out Int (Unit ⊕ Bool))
  | x_91 =>
    if decide (x_91 < (List.length h_.Combs : Int)) then
      (get h_.Combs x_91).bind fun x14 =>
      (get d.Walks x_91).bind fun x19 =>
      (if (decide ((List.length x19 : Int) < 1)) || (decide (20 < (List.length x19 : Int))) then some true else (b8n x19 (fun z20 => some (b6b z20 x14))).bind fun y21 =>
      some y21).bind fun c22 =>
      if c22 then
        some (.br (.inr false))
      else
        some (.nx (wr (x_91 + 1)))
    else
      some (.br (.inl ()))
noncomputable def c41 (h_ : Hall) (d : Day) : Option Bool :=
  (b07 (b9k h_ d) (0)).bind fun
    | (.inl ()) => c9d
    | (.inr r') => some r'
noncomputable def c40 (x_40 : Int) : Option (Out Int (Unit ⊕ Bool)) :=
  some (.nx (wr (x_40 + 1)))
noncomputable def b6x (d : Day) (x_40 : Int) (x33 : Train) : Int → Option (Out Int (Unit ⊕ Bool))
  | x_69 =>
    if decide (x_69 < (List.length x33.Crowds : Int)) then
      (get x33.Crowds x_69).bind fun x48 =>
      (get d.People x_40).bind fun x51 =>
      (get x51 x_69).bind fun x52 =>
      if !(b28 x52 x48.People) then
        some (.br (.inr false))
      else
        some (.nx (wr (x_69 + 1)))
    else
      some (.br (.inl ()))
noncomputable def b9j (h_ : Hall) (d : Day) : Int → Option (Out Int (Unit ⊕ Bool))
  | x_40 =>
    if decide (x_40 < (List.length h_.Trains : Int)) then
      (get h_.Trains x_40).bind fun x33 =>
      (get d.At x_40).bind fun x37 =>
      (if !(b28 x37 x33.At) then some true else (get d.People x_40).bind fun x38 =>
      some (decide (¬(List.length x38 : Int) = (List.length x33.Crowds : Int)))).bind fun c39 =>
      if c39 then
        some (.br (.inr false))
      else
        (b07 (b6x d x_40 x33) (0)).bind fun
          | (.inl ()) => c40 x_40
          | (.inr r') => some (.br (.inr r'))
    else
      some (.br (.inl ()))
noncomputable def b74 (h_ : Hall) (d : Day) : Option Bool :=
  if ((decide (¬(List.length d.At : Int) = (List.length h_.Trains : Int))) || (decide (¬(List.length d.People : Int) = (List.length h_.Trains : Int)))) || (decide (¬(List.length d.Walks : Int) = (List.length h_.Combs : Int))) then
    some false
  else
    (b07 (b9j h_ d) (0)).bind fun
      | (.inl ()) => c41 h_ d
      | (.inr r') => some r'
def c61 (O : Orac) : Prop := ∀ (h_ : Hall) (d : Day) (r : Bool) (hm0 : b74 h_ d = some r), Fn O "newel/halls.isDay" [.agg [.fs 5 (List.map b0p h_.Combs), .fs 3 (List.map b0o h_.Trains), .fs 3 (List.map b0q h_.Shifts), I h_.Until], .agg [.fs 1 (List.map eI d.At), .fs 1 (List.map b0k d.People), .fs 1 (List.map b0k d.Walks)]] (B r)
noncomputable def c8q (rows_7_2 : List (List Int)) : Option ((List (List Int)) × Int) :=
  some (rows_7_2, 0)
noncomputable def c4q (x_101 : Int) (rows_7_3 : List (List Int)) : Option (Out ((List (List Int)) × Int) (((List (List Int))))) :=
  some (.nx (rows_7_3, wr (x_101 + 1)))
noncomputable def b9f (x_108 : Int) (rows_7_4 : List (List Int)) : Option (Out ((List (List Int)) × Int) (((List (List Int))))) :=
  some (.nx (rows_7_4, wr (x_108 + 1)))
noncomputable def b9g (h_ : Hall) (d : Day) (x_101 : Int) (x_108 : Int) (x34 : Int) (x38 : Int) (rows_7_4 : List (List Int)) : Option (Out ((List (List Int)) × Int) (((List (List Int))))) :=
  (get d.Walks x_108).bind fun x44 =>
  (rem x_101 (List.length x44 : Int)).bind fun q45 =>
  (get x44 q45).bind fun x46 =>
  (get h_.Combs x_108).bind fun x48 =>
  if (decide (0 ≤ x48.Next)) && (decide ((wr (x_101 + x46)) < h_.Until)) then
    (get rows_7_4 (wr (x_101 + x46))).bind fun x53 =>
    (get x53 x48.Next).bind fun x54 =>
    b9f x_108 (List.set rows_7_4 (Int.toNat (wr (x_101 + x46))) (List.set x53 (Int.toNat x48.Next) (wr (x54 + (mn x34 x38)))))
  else
    b9f x_108 rows_7_4
noncomputable def b9e (h_ : Hall) (d : Day) (open_12 : List (List Int)) (x_101 : Int) (x25 : List Int) : ((List (List Int)) × Int) → Option (Out ((List (List Int)) × Int) (((List (List Int)))))
  | (rows_7_3, x_108) =>
    if decide (x_108 < (List.length x25 : Int)) then
      (get rows_7_3 x_101).bind fun x33 =>
      (get x33 x_108).bind fun x34 =>
      (get open_12 x_108).bind fun x37 =>
      (get x37 x_101).bind fun x38 =>
      if decide ((wr (x_101 + 1)) < h_.Until) then
        (get rows_7_3 (wr (x_101 + 1))).bind fun x58 =>
        (get x58 x_108).bind fun x59 =>
        b9g h_ d x_101 x_108 x34 x38 (List.set rows_7_3 (Int.toNat (wr (x_101 + 1))) (List.set x58 (Int.toNat x_108) (wr (x59 + (wr (x34 - (mn x34 x38)))))))
      else
        b9g h_ d x_101 x_108 x34 x38 rows_7_3
    else
      some (.br rows_7_3)
noncomputable def c1l (h_ : Hall) (d : Day) (rows_7_1 : List (List Int)) (open_12 : List (List Int)) : ((List (List Int)) × Int) → Option (Out ((List (List Int)) × Int) (((List (List Int)))))
  | (rows_7_2, x_101) =>
    if decide (x_101 < (List.length rows_7_1 : Int)) then
      (get rows_7_2 x_101).bind fun x25 =>
      (b07 (b9e h_ d open_12 x_101 x25) (rows_7_2, 0)).bind fun rows_7_3 =>
      c4q x_101 rows_7_3
    else
      some (.br rows_7_2)
noncomputable def c4p (h_ : Hall) (d : Day) (rows_7_1 : List (List Int)) (open_12 : List (List Int)) : Option ((List (List Int)) × Int) :=
  (b07 (c1l h_ d rows_7_1 open_12) (rows_7_1, 0)).bind fun rows_7_2 =>
  c8q rows_7_2
noncomputable def c1k (h_ : Hall) : ((List (List Int)) × Int) → Option (Out ((List (List Int)) × Int) (((List (List Int)))))
  | (open_12, x_89) =>
    if decide (x_89 < (List.length h_.Combs : Int)) then
      (b6c h_ x_89).bind fun y68 =>
      (get open_12 x_89).bind fun x69 =>
      some (.nx ((List.set open_12 (Int.toNat x_89) y68), wr (x_89 + 1)))
    else
      some (.br open_12)
noncomputable def c4o (h_ : Hall) (d : Day) (rows_7_1 : List (List Int)) : Option ((List (List Int)) × Int) :=
  (mks 24 (List.length h_.Combs : Int) ([] : List Int)).bind fun l14 =>
  (b07 (c1k h_) (l14, 0)).bind fun open_12 =>
  c4p h_ d rows_7_1 open_12
noncomputable def c4r (x_45 : Int) (rows_7_2 : List (List Int)) : Option (Out ((List (List Int)) × Int) (((List (List Int))))) :=
  some (.nx (rows_7_2, wr (x_45 + 1)))
noncomputable def c1j (d : Day) (x_45 : Int) (x77 : Train) : ((List (List Int)) × Int) → Option (Out ((List (List Int)) × Int) (((List (List Int)))))
  | (rows_7_2, x_53) =>
    if decide (x_53 < (List.length x77.Crowds : Int)) then
      (get x77.Crowds x_53).bind fun x83 =>
      (get d.At x_45).bind fun x89 =>
      (get rows_7_2 x89).bind fun x90 =>
      (get x90 x83.Comb).bind fun x91 =>
      (get d.People x_45).bind fun x92 =>
      (get x92 x_53).bind fun x93 =>
      some (.nx ((List.set rows_7_2 (Int.toNat x89) (List.set x90 (Int.toNat x83.Comb) (wr (x91 + x93)))), wr (x_53 + 1)))
    else
      some (.br rows_7_2)
noncomputable def b9d (h_ : Hall) (d : Day) : ((List (List Int)) × Int) → Option (Out ((List (List Int)) × Int) (((List (List Int)))))
  | (rows_7_1, x_45) =>
    if decide (x_45 < (List.length h_.Trains : Int)) then
      (get h_.Trains x_45).bind fun x77 =>
      (b07 (c1j d x_45 x77) (rows_7_1, 0)).bind fun rows_7_2 =>
      c4r x_45 rows_7_2
    else
      some (.br rows_7_1)
noncomputable def c4n (h_ : Hall) (d : Day) (rows_7 : List (List Int)) : Option ((List (List Int)) × Int) :=
  (b07 (b9d h_ d) (rows_7, 0)).bind fun rows_7_1 =>
  c4o h_ d rows_7_1
noncomputable def c1i (h_ : Hall) : ((List (List Int)) × Int) → Option (Out ((List (List Int)) × Int) (((List (List Int)))))
  | (rows_7, x_32) =>
    if decide (x_32 < h_.Until) then
      (mks 8 (List.length h_.Combs : Int) 0).bind fun l102 =>
      (ap 24 rows_7 ([l102])).bind fun l103 =>
      some (.nx (l103, wr (x_32 + 1)))
    else
      some (.br rows_7)
noncomputable def b6u (h_ : Hall) (d : Day) : Option ((List (List Int)) × Int) :=
  (b3z h_).bind fun y2 =>
  if decide (¬y2 = 0) then
    some ([], y2)
  else
    (b74 h_ d).bind fun y6 =>
    if !y6 then
      some ([], 61)
    else
      (b07 (c1i h_) ([], 0)).bind fun rows_7 =>
      c4n h_ d rows_7
def c6v (O : Orac) : Prop := ∀ (h_ : Hall) (d : Day) (r : (List (List Int)) × Int) (hm0 : b6u h_ d = some r), Fn O "newel/halls.Play" [.agg [.fs 5 (List.map b0p h_.Combs), .fs 3 (List.map b0o h_.Trains), .fs 3 (List.map b0q h_.Shifts), I h_.Until], .agg [.fs 1 (List.map eI d.At), .fs 1 (List.map b0k d.People), .fs 1 (List.map b0k d.Walks)]] (.tup [.fs 1 (List.map b0k r.1), I r.2])
noncomputable def d1f : Option Bool :=
  some true
noncomputable def c52 (i_8 : Int) : Option (Out Int (Unit ⊕ Bool)) :=
  some (.nx (wr (i_8 + 1)))
noncomputable def b7b (h_ : Hall) (d : Day) (i_8 : Int) : Int → Option (Out Int (Unit ⊕ Bool))
  | k_9 =>
    (get d.Walks i_8).bind fun x20 =>
    if decide (k_9 < (List.length x20 : Int)) then
      (get x20 k_9).bind fun x26 =>
      (get h_.Combs i_8).bind fun x27 =>
      if !(b2g x26 x27.Walk.Low x27.Walk.High) then
        some (.br (.inr false))
      else
        some (.nx (wr (k_9 + 1)))
    else
      some (.br (.inl ()))
noncomputable def b98 (h_ : Hall) (d : Day) : Int → Option (Out Int (Unit ⊕ Bool))
  | i_8 =>
    if decide (i_8 < (List.length h_.Combs : Int)) then
      (get d.Walks i_8).bind fun x15 =>
      if !(b2g (List.length x15 : Int) 1 20) then
        some (.br (.inr false))
      else
        (b07 (b7b h_ d i_8) (0)).bind fun
          | (.inl ()) => c52 i_8
          | (.inr r') => some (.br (.inr r'))
    else
      some (.br (.inl ()))
noncomputable def c54 (h_ : Hall) (d : Day) : Option Bool :=
  (b07 (b98 h_ d) (0)).bind fun
    | (.inl ()) => d1f
    | (.inr r') => some r'
noncomputable def c53 (i_5 : Int) : Option (Out Int (Unit ⊕ Bool)) :=
  some (.nx (wr (i_5 + 1)))
noncomputable def b7a (d : Day) (i_5 : Int) (x37 : Train) : Int → Option (Out Int (Unit ⊕ Bool))
  | k_7 =>
    if decide (k_7 < (List.length x37.Crowds : Int)) then
      (get d.People i_5).bind fun x54 =>
      (get x54 k_7).bind fun x55 =>
      (get x37.Crowds k_7).bind fun x56 =>
      if !(b2g x55 x56.People.Low x56.People.High) then
        some (.br (.inr false))
      else
        some (.nx (wr (k_7 + 1)))
    else
      some (.br (.inl ()))
noncomputable def b97 (h_ : Hall) (d : Day) : Int → Option (Out Int (Unit ⊕ Bool))
  | i_5 =>
    if decide (i_5 < (List.length h_.Trains : Int)) then
      (get h_.Trains i_5).bind fun x37 =>
      (get d.At i_5).bind fun x41 =>
      (if !(b2g x41 x37.At.Low x37.At.High) then some true else (get d.People i_5).bind fun x42 =>
      some (decide (¬(List.length x42 : Int) = (List.length x37.Crowds : Int)))).bind fun c43 =>
      if c43 then
        some (.br (.inr false))
      else
        (b07 (b7a d i_5 x37) (0)).bind fun
          | (.inl ()) => c53 i_5
          | (.inr r') => some (.br (.inr r'))
    else
      some (.br (.inl ()))
noncomputable def b95 (h_ : Hall) (d : Day) : Option Bool :=
  if ((decide (¬(List.length d.At : Int) = (List.length h_.Trains : Int))) || (decide (¬(List.length d.People : Int) = (List.length h_.Trains : Int)))) || (decide (¬(List.length d.Walks : Int) = (List.length h_.Combs : Int))) then
    some false
  else
    (b07 (b97 h_ d) (0)).bind fun
      | (.inl ()) => c54 h_ d
      | (.inr r') => some r'
def c7c (O : Orac) : Prop := ∀ (h_ : Hall) (d : Day) (r : Bool) (hm0 : b95 h_ d = some r), Fn O "newel/newelref06.Fits" [.agg [.fs 5 (List.map b0p h_.Combs), .fs 3 (List.map b0o h_.Trains), .fs 3 (List.map b0q h_.Shifts), I h_.Until], .agg [.fs 1 (List.map eI d.At), .fs 1 (List.map b0k d.People), .fs 1 (List.map b0k d.Walks)]] (B r)
noncomputable def d1g (come_4_2 : List (List Int)) (before_5_1 : List (List Int)) (pass_6_1 : List (List Int)) : Option ((List (List Int)) × (List (List Int)) × (List (List Int))) :=
  some (come_4_2, before_5_1, pass_6_1)
noncomputable def c55 (c_11 : Int) (come_4_3 : List (List Int)) (before_5_2 : List (List Int)) (pass_6_2 : List (List Int)) : Option (Out ((List (List Int)) × (List (List Int)) × (List (List Int)) × Int) (((List (List Int)) × (List (List Int)) × (List (List Int))))) :=
  some (.nx (come_4_3, before_5_2, pass_6_2, wr (c_11 + 1)))
noncomputable def c0b (t_14 : Int) (come_4_4 : List (List Int)) (before_5_3 : List (List Int)) (pass_6_3 : List (List Int)) (left_13_1 : Int) : Option (Out ((List (List Int)) × (List (List Int)) × (List (List Int)) × Int × Int) (((List (List Int)) × (List (List Int)) × (List (List Int))))) :=
  some (.nx (come_4_4, before_5_3, pass_6_3, left_13_1, wr (t_14 + 1)))
noncomputable def c0a (h_ : Hall) (d : Day) (c_11 : Int) (y13 : List Int) : ((List (List Int)) × (List (List Int)) × (List (List Int)) × Int × Int) → Option (Out ((List (List Int)) × (List (List Int)) × (List (List Int)) × Int × Int) (((List (List Int)) × (List (List Int)) × (List (List Int)))))
  | (come_4_3, before_5_2, pass_6_2, left_13, t_14) =>
    if decide (t_14 < h_.Until) then
      (get before_5_2 t_14).bind fun x23 =>
      (get come_4_3 t_14).bind fun x24 =>
      (get x24 c_11).bind fun x25 =>
      (get x23 c_11).bind fun x26 =>
      (get pass_6_2 t_14).bind fun x32 =>
      (get (List.set before_5_2 (Int.toNat t_14) (List.set x23 (Int.toNat c_11) (wr (left_13 + x25)))) t_14).bind fun x33 =>
      (get x33 c_11).bind fun x34 =>
      (get y13 t_14).bind fun x35 =>
      (get x32 c_11).bind fun x36 =>
      (get (List.set pass_6_2 (Int.toNat t_14) (List.set x32 (Int.toNat c_11) (mn x34 x35))) t_14).bind fun x39 =>
      (get x39 c_11).bind fun x40 =>
      (get d.Walks c_11).bind fun x44 =>
      (rem t_14 (List.length x44 : Int)).bind fun q45 =>
      (get x44 q45).bind fun x46 =>
      (get h_.Combs c_11).bind fun x48 =>
      if (decide (0 ≤ x48.Next)) && (decide ((wr (t_14 + x46)) < h_.Until)) then
        (get come_4_3 (wr (t_14 + x46))).bind fun x53 =>
        (get x53 x48.Next).bind fun x54 =>
        c0b t_14 (List.set come_4_3 (Int.toNat (wr (t_14 + x46))) (List.set x53 (Int.toNat x48.Next) (wr (x54 + x40)))) (List.set before_5_2 (Int.toNat t_14) (List.set x23 (Int.toNat c_11) (wr (left_13 + x25)))) (List.set pass_6_2 (Int.toNat t_14) (List.set x32 (Int.toNat c_11) (mn x34 x35))) (wr (x34 - x40))
      else
        c0b t_14 come_4_3 (List.set before_5_2 (Int.toNat t_14) (List.set x23 (Int.toNat c_11) (wr (left_13 + x25)))) (List.set pass_6_2 (Int.toNat t_14) (List.set x32 (Int.toNat c_11) (mn x34 x35))) (wr (x34 - x40))
    else
      some (.br (come_4_3, before_5_2, pass_6_2))
noncomputable def c2p (h_ : Hall) (d : Day) : ((List (List Int)) × (List (List Int)) × (List (List Int)) × Int) → Option (Out ((List (List Int)) × (List (List Int)) × (List (List Int)) × Int) (((List (List Int)) × (List (List Int)) × (List (List Int)))))
  | (come_4_2, before_5_1, pass_6_1, c_11) =>
    if decide (c_11 < (List.length h_.Combs : Int)) then
      (c0e h_ c_11).bind fun y13 =>
      (b07 (c0a h_ d c_11 y13) (come_4_2, before_5_1, pass_6_1, 0, 0)).bind fun
        | (come_4_3, before_5_2, pass_6_2) => c55 c_11 come_4_3 before_5_2 pass_6_2
    else
      some (.br (come_4_2, before_5_1, pass_6_1))
noncomputable def c57 (h_ : Hall) (d : Day) (before_5 : List (List Int)) (pass_6 : List (List Int)) (come_4_1 : List (List Int)) : Option ((List (List Int)) × (List (List Int)) × (List (List Int))) :=
  (b07 (c2p h_ d) (come_4_1, before_5, pass_6, 0)).bind fun
    | (come_4_2, before_5_1, pass_6_1) => d1g come_4_2 before_5_1 pass_6_1
noncomputable def c58 (i_9 : Int) (come_4_2 : List (List Int)) : Option (Out ((List (List Int)) × Int) (((List (List Int))))) :=
  some (.nx (come_4_2, wr (i_9 + 1)))
noncomputable def c2o (h_ : Hall) (d : Day) (i_9 : Int) : ((List (List Int)) × Int) → Option (Out ((List (List Int)) × Int) (((List (List Int)))))
  | (come_4_2, k_10) =>
    (get h_.Trains i_9).bind fun x64 =>
    if decide (k_10 < (List.length x64.Crowds : Int)) then
      (get d.At i_9).bind fun x74 =>
      (get come_4_2 x74).bind fun x75 =>
      (get x64.Crowds k_10).bind fun x76 =>
      (get x75 x76.Comb).bind fun x77 =>
      (get d.People i_9).bind fun x78 =>
      (get x78 k_10).bind fun x79 =>
      some (.nx ((List.set come_4_2 (Int.toNat x74) (List.set x75 (Int.toNat x76.Comb) (wr (x77 + x79)))), wr (k_10 + 1)))
    else
      some (.br come_4_2)
noncomputable def b99 (h_ : Hall) (d : Day) : ((List (List Int)) × Int) → Option (Out ((List (List Int)) × Int) (((List (List Int)))))
  | (come_4_1, i_9) =>
    if decide (i_9 < (List.length h_.Trains : Int)) then
      (b07 (c2o h_ d i_9) (come_4_1, 0)).bind fun come_4_2 =>
      c58 i_9 come_4_2
    else
      some (.br come_4_1)
noncomputable def c56 (h_ : Hall) (d : Day) (come_4 : List (List Int)) (before_5 : List (List Int)) (pass_6 : List (List Int)) : Option ((List (List Int)) × (List (List Int)) × (List (List Int))) :=
  (b07 (b99 h_ d) (come_4, 0)).bind fun come_4_1 =>
  c57 h_ d before_5 pass_6 come_4_1
noncomputable def c2q (h_ : Hall) : ((List (List Int)) × (List (List Int)) × (List (List Int)) × Int) → Option (Out ((List (List Int)) × (List (List Int)) × (List (List Int)) × Int) (((List (List Int)) × (List (List Int)) × (List (List Int)))))
  | (come_4, before_5, pass_6, t_8) =>
    if decide (t_8 < h_.Until) then
      (mks 8 (List.length h_.Combs : Int) 0).bind fun l88 =>
      (ap 24 come_4 ([l88])).bind fun l89 =>
      (mks 8 (List.length h_.Combs : Int) 0).bind fun l92 =>
      (ap 24 before_5 ([l92])).bind fun l93 =>
      (mks 8 (List.length h_.Combs : Int) 0).bind fun l96 =>
      (ap 24 pass_6 ([l96])).bind fun l97 =>
      some (.nx (l89, l93, l97, wr (t_8 + 1)))
    else
      some (.br (come_4, before_5, pass_6))
noncomputable def c2n (h_ : Hall) (d : Day) : Option ((List (List Int)) × (List (List Int)) × (List (List Int))) :=
  (b07 (c2q h_) ([], [], [], 0)).bind fun
    | (come_4, before_5, pass_6) => c56 h_ d come_4 before_5 pass_6
def c7f (O : Orac) : Prop := ∀ (h_ : Hall) (d : Day) (r : (List (List Int)) × (List (List Int)) × (List (List Int))) (hm0 : c2n h_ d = some r), Fn O "newel/newelref06.Run" [.agg [.fs 5 (List.map b0p h_.Combs), .fs 3 (List.map b0o h_.Trains), .fs 3 (List.map b0q h_.Shifts), I h_.Until], .agg [.fs 1 (List.map eI d.At), .fs 1 (List.map b0k d.People), .fs 1 (List.map b0k d.Walks)]] (.tup [.fs 1 (List.map b0k r.1), .fs 1 (List.map b0k r.2.1), .fs 1 (List.map b0k r.2.2)])
noncomputable def b8h (h_ : Hall) (d : Day) : Option ((List (List Int)) × Int) :=
  (b4m h_).bind fun y2 =>
  if decide (¬y2 = 0) then
    some ([], 60)
  else
    (b95 h_ d).bind fun y6 =>
    if !y6 then
      some ([], 61)
    else
      (c2n h_ d).bind fun y10 =>
      some (y10.2.1, 0)
def c7d (O : Orac) : Prop := ∀ (h_ : Hall) (d : Day) (r : (List (List Int)) × Int) (hm0 : b8h h_ d = some r), Fn O "newel/newelref06.Play" [.agg [.fs 5 (List.map b0p h_.Combs), .fs 3 (List.map b0o h_.Trains), .fs 3 (List.map b0q h_.Shifts), I h_.Until], .agg [.fs 1 (List.map eI d.At), .fs 1 (List.map b0k d.People), .fs 1 (List.map b0k d.Walks)]] (.tup [.fs 1 (List.map b0k r.1), I r.2])
noncomputable def b9y (h_ : Hall) (d : Day) (comb : Int) : Option Bool :=
  (b8d h_).bind fun y4 =>
  (if y4 then some true else (b8e d).bind fun y5 =>
  some y5).bind fun c6 =>
  if c6 then
    (b6h).bind fun y11 =>
    some y11
  else
    (b59 h_ comb).bind fun y13 =>
    (b7c h_ comb).bind fun y15 =>
    (b6u h_ d).bind fun y17 =>
    (b8h h_ d).bind fun y19 =>
    (b3z h_).bind fun y28 =>
    (b4m h_).bind fun y29 =>
    (if (decide (y28 = y29)) && (decide (y13.2 = y15.2)) then (c0c y13.1 y15.1).bind fun y30 =>
    some y30 else some false).bind fun c31 =>
    (if c31 && (decide (y17.2 = y19.2)) then (c2d y17.1 y19.1).bind fun y32 =>
    some y32 else some false).bind fun c33 =>
    (if c33 then (b6h).bind fun y34 =>
    some y34 else some false).bind fun c35 =>
    some c35
def d19 (O : Orac) : Prop := ∀ (h_ : Hall) (d : Day) (comb : Int) (r : Bool) (hm0 : b9y h_ d comb = some r), Fn O "newel/newellaw06.HallsPlays" [.agg [.fs 5 (List.map b0p h_.Combs), .fs 3 (List.map b0o h_.Trains), .fs 3 (List.map b0q h_.Shifts), I h_.Until], .agg [.fs 1 (List.map eI d.At), .fs 1 (List.map b0k d.People), .fs 1 (List.map b0k d.Walks)], I comb] (B r)
end Go.Nw.HM
