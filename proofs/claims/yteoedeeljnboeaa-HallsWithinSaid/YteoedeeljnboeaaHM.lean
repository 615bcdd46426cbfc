/- Models of functions: printed by gen.py. -/
import Derived.Test.YteoedeeljnboeaaNwWcall
import Derived.Test.YteoedeeljnboeaaNwHallsSrc
set_option linter.all false
set_option linter.unusedVariables false
set_option linter.unusedSimpArgs false
set_option linter.unusedSectionVars false
namespace Go.Nw.HM
open Go.Nw.Halls
set_option linter.unusedSimpArgs false
set_option linter.unusedVariables false
set_option maxHeartbeats 4000000
variable {O : Orac}

structure Span where
  Low : Int
  High : Int
  deriving Inhabited, DecidableEq

structure Comb where
  Rate : Int
  Limit : Int
  Next : Int
  Walk : Span
  deriving Inhabited, DecidableEq

structure Crowd where
  Comb : Int
  People : Span
  deriving Inhabited, DecidableEq

structure Train where
  At : Span
  Crowds : List Crowd
  deriving Inhabited, DecidableEq

structure Shift where
  At : Int
  Comb : Int
  Rate : Int
  deriving Inhabited, DecidableEq

structure Hall where
  Combs : List Comb
  Trains : List Train
  Shifts : List Shift
  Until : Int
  deriving Inhabited, DecidableEq

@[go_sem] def eComb (x : Comb) : List AV := [I x.Rate, I x.Limit, I x.Next, I x.Walk.Low, I x.Walk.High]
theorem fz_eComb (x : Comb) : ∀ c ∈ eComb x, Frz c := (fz_cons (frz_v _) (fz_cons (frz_v _) (fz_cons (frz_v _) (fz_cons (frz_v _) (fz_cons (frz_v _) fz_nil)))))
theorem ln_eComb (x : Comb) : (eComb x).length = 5 := rfl
@[go_sem] theorem set_eComb {l : List Comb} {n : Nat} {a0 : Int} {a1 : Int} {a2 : Int} {a3 : Int} {a4 : Int} : (List.map eComb l).set n [I a0, I a1, I a2, I a3, I a4] = List.map eComb (l.set n (Comb.mk a0 a1 a2 (Span.mk a3 a4))) := by rw [List.map_set]; rfl
@[go_sem] def eCrowd (x : Crowd) : List AV := [I x.Comb, I x.People.Low, I x.People.High]
theorem fz_eCrowd (x : Crowd) : ∀ c ∈ eCrowd x, Frz c := (fz_cons (frz_v _) (fz_cons (frz_v _) (fz_cons (frz_v _) fz_nil)))
theorem ln_eCrowd (x : Crowd) : (eCrowd x).length = 3 := rfl
@[go_sem] theorem set_eCrowd {l : List Crowd} {n : Nat} {a0 : Int} {a1 : Int} {a2 : Int} : (List.map eCrowd l).set n [I a0, I a1, I a2] = List.map eCrowd (l.set n (Crowd.mk a0 (Span.mk a1 a2))) := by rw [List.map_set]; rfl
@[go_sem] def eTrain (x : Train) : List AV := [I x.At.Low, I x.At.High, .fs 3 (List.map eCrowd x.Crowds)]
theorem fz_eTrain (x : Train) : ∀ c ∈ eTrain x, Frz c := (fz_cons (frz_v _) (fz_cons (frz_v _) (fz_cons (frz_fs fun a _ => fz_eCrowd a) fz_nil)))
theorem ln_eTrain (x : Train) : (eTrain x).length = 3 := rfl
@[go_sem] theorem set_eTrain {l : List Train} {n : Nat} {a0 : Int} {a1 : Int} {a2 : List Crowd} : (List.map eTrain l).set n [I a0, I a1, .fs 3 (List.map eCrowd a2)] = List.map eTrain (l.set n (Train.mk (Span.mk a0 a1) a2)) := by rw [List.map_set]; rfl
@[go_sem] def eShift (x : Shift) : List AV := [I x.At, I x.Comb, I x.Rate]
theorem fz_eShift (x : Shift) : ∀ c ∈ eShift x, Frz c := (fz_cons (frz_v _) (fz_cons (frz_v _) (fz_cons (frz_v _) fz_nil)))
@[go_sem] theorem set_eShift {l : List Shift} {n : Nat} {a0 : Int} {a1 : Int} {a2 : Int} : (List.map eShift l).set n [I a0, I a1, I a2] = List.map eShift (l.set n (Shift.mk a0 a1 a2)) := by rw [List.map_set]; rfl
/- newel/newellaw06.Far -/
noncomputable def l06_Far_j8 : Option Bool :=
  some false
noncomputable def l06_Far_L8 (h_ : Hall) : Int → Option (Out Int (Unit ⊕ Bool))
  | i_3 =>
    if decide (i_3 < (List.length h_.Trains : Int)) then
      (get h_.Trains i_3).bind fun x14 =>
      if decide (10 < (List.length x14.Crowds : Int)) then
        some (.br (.inr true))
      else
        some (.nx (wr (i_3 + 1)))
    else
      some (.br (.inl ()))
noncomputable def l06_Far (h_ : Hall) : Option Bool :=
  if (((decide (12 < (List.length h_.Combs : Int))) || (decide (20 < (List.length h_.Trains : Int)))) || (decide (40 < (List.length h_.Shifts : Int)))) || ((decide (40 < h_.Until)) && (decide (h_.Until ≤ 100))) then
    some true
  else
    (loopM (l06_Far_L8 h_) (0)).bind fun
      | (.inl ()) => l06_Far_j8
      | (.inr r') => some r'
def C_l06_Far (O : Orac) : Prop := ∀ (h_ : Hall) (r : Bool) (hm0 : l06_Far h_ = some r), Fn O "newel/newellaw06.Far" [.agg [.fs 5 (List.map eComb h_.Combs), .fs 3 (List.map eTrain h_.Trains), .fs 3 (List.map eShift h_.Shifts), I h_.Until]] (B r)

/- newel/newelref06.within -/
noncomputable def r06_within (n : Int) (low : Int) (high : Int) : Bool :=
  (decide (low ≤ n)) && (decide (n ≤ high))
def C_r06_within (O : Orac) : Prop := ∀ (n : Int) (low : Int) (high : Int), Fn O "newel/newelref06.within" [I n, I low, I high] (B (r06_within n low high))

/- newel/newelref06.spanned -/
noncomputable def r06_spanned (s : Span) (low : Int) (high : Int) : Bool :=
  ((decide (low ≤ s.Low)) && (decide (s.Low ≤ s.High))) && (decide (s.High ≤ high))
def C_r06_spanned (O : Orac) : Prop := ∀ (s : Span) (low : Int) (high : Int), Fn O "newel/newelref06.spanned" [.agg [I s.Low, I s.High], I low, I high] (B (r06_spanned s low high))

/- newel/newelref06.Check -/
noncomputable def r06_Check_j11 : Option Int :=
  some 0
noncomputable def r06_Check_L32 (h_ : Hall) : Int → Option (Out Int (Unit ⊕ Int))
  | i_10 =>
    if decide (i_10 < (List.length h_.Shifts : Int)) then
      (get h_.Shifts i_10).bind fun x17 =>
      (if ((!(r06_within x17.At 0 (wr (h_.Until - 1)))) || (!(r06_within x17.Comb 0 (wr ((List.length h_.Combs : Int) - 1))))) || (!(r06_within x17.Rate 0 1000)) then some true else (if decide (0 < i_10) then (get h_.Shifts (wr (i_10 - 1))).bind fun x21 =>
      some (decide (x17.At < x21.At)) else some false).bind fun c22 =>
      some c22).bind fun c23 =>
      if c23 then
        some (.br (.inr 60))
      else
        some (.nx (wr (i_10 + 1)))
    else
      some (.br (.inl ()))
noncomputable def r06_Check_j9 (h_ : Hall) : Option Int :=
  (loopM (r06_Check_L32 h_) (0)).bind fun
    | (.inl ()) => r06_Check_j11
    | (.inr r') => some r'
noncomputable def r06_Check_j34 (i_6 : Int) : Option (Out Int (Unit ⊕ Int)) :=
  some (.nx (wr (i_6 + 1)))
noncomputable def r06_Check_L23 (h_ : Hall) (x36 : Train) : (Int × Int) → Option (Out (Int × Int) (Unit ⊕ Int))
  | (last_8, k_9) =>
    if decide (k_9 < (List.length x36.Crowds : Int)) then
      (get x36.Crowds k_9).bind fun x45 =>
      if (!(r06_within x45.Comb (wr (last_8 + 1)) (wr ((List.length h_.Combs : Int) - 1)))) || (!(r06_spanned x45.People 0 1000)) then
        some (.br (.inr 60))
      else
        some (.nx (x45.Comb, wr (k_9 + 1)))
    else
      some (.br (.inl ()))
noncomputable def r06_Check_L25 (h_ : Hall) : Int → Option (Out Int (Unit ⊕ Int))
  | i_6 =>
    if decide (i_6 < (List.length h_.Trains : Int)) then
      (get h_.Trains i_6).bind fun x36 =>
      if (!(r06_spanned x36.At 0 (wr (h_.Until - 1)))) || (decide (4 < (List.length x36.Crowds : Int))) then
        some (.br (.inr 60))
      else
        (loopM (r06_Check_L23 h_ x36) ((-1), 0)).bind fun
          | (.inl ()) => r06_Check_j34 i_6
          | (.inr r') => some (.br (.inr r'))
    else
      some (.br (.inl ()))
noncomputable def r06_Check_j7 (h_ : Hall) : Option Int :=
  (loopM (r06_Check_L25 h_) (0)).bind fun
    | (.inl ()) => r06_Check_j9 h_
    | (.inr r') => some r'
noncomputable def r06_Check_L10 (h_ : Hall) : Int → Option (Out Int (Unit ⊕ Int))
  | i_4 =>
    if decide (i_4 < (List.length h_.Combs : Int)) then
      (get h_.Combs i_4).bind fun x56 =>
      if (((!(r06_within x56.Rate 0 1000)) || (!(r06_within x56.Limit 0 100000))) || ((decide (¬x56.Next = (-1))) && (!(r06_within x56.Next (wr (i_4 + 1)) (wr ((List.length h_.Combs : Int) - 1)))))) || (!(r06_spanned x56.Walk 1 20)) then
        some (.br (.inr 60))
      else
        some (.nx (wr (i_4 + 1)))
    else
      some (.br (.inl ()))
noncomputable def r06_Check (h_ : Hall) : Option Int :=
  if (((!(r06_within h_.Until 1 100)) || (!(r06_within (List.length h_.Combs : Int) 1 8))) || (decide (12 < (List.length h_.Trains : Int)))) || (decide (20 < (List.length h_.Shifts : Int))) then
    some 60
  else
    (loopM (r06_Check_L10 h_) (0)).bind fun
      | (.inl ()) => r06_Check_j7 h_
      | (.inr r') => some r'
def C_r06_Check (O : Orac) : Prop := ∀ (h_ : Hall) (r : Int) (hm0 : r06_Check h_ = some r), Fn O "newel/newelref06.Check" [.agg [.fs 5 (List.map eComb h_.Combs), .fs 3 (List.map eTrain h_.Trains), .fs 3 (List.map eShift h_.Shifts), I h_.Until]] (I r)

/- newel/newellaw06.Example -/
noncomputable def l06_Example : Hall :=
  (Hall.mk ([(Comb.mk 3 12 1 (Span.mk 2 3)), (Comb.mk 2 10 (-1) (Span.mk 1 1))]) ([(Train.mk (Span.mk 2 4) ([(Crowd.mk 0 (Span.mk 6 10))])), (Train.mk (Span.mk 5 5) ([(Crowd.mk 0 (Span.mk 0 4)), (Crowd.mk 1 (Span.mk 3 3))]))]) ([]) 20)
def C_l06_Example (O : Orac) : Prop := ∀ (_ : Unit), Fn O "newel/newellaw06.Example" [] (.agg [.fs 5 (List.map eComb ((l06_Example).Combs)), .fs 3 (List.map eTrain ((l06_Example).Trains)), .fs 3 (List.map eShift ((l06_Example).Shifts)), I ((l06_Example).Until)])

/- newel/halls.in -/
noncomputable def halls_in (n : Int) (s : Span) : Bool :=
  (decide (s.Low ≤ n)) && (decide (n ≤ s.High))
def C_halls_in (O : Orac) : Prop := ∀ (n : Int) (s : Span), Fn O "newel/halls.in" [I n, .agg [I s.Low, I s.High]] (B (halls_in n s))

/- newel/halls.span -/
noncomputable def halls_span (s : Span) (low : Int) (high : Int) : Bool :=
  ((decide (low ≤ s.Low)) && (decide (s.Low ≤ s.High))) && (decide (s.High ≤ high))
def C_halls_span (O : Orac) : Prop := ∀ (s : Span) (low : Int) (high : Int), Fn O "newel/halls.span" [.agg [I s.Low, I s.High], I low, I high] (B (halls_span s low high))

/- newel/halls.isComb -/
noncomputable def halls_isComb (h_ : Hall) (i : Int) : Option Bool :=
  (get h_.Combs i).bind fun x2 =>
  some ((((halls_in x2.Rate (Span.mk 0 1000)) && (halls_in x2.Limit (Span.mk 0 100000))) && ((decide (x2.Next = (-1))) || ((decide (i < x2.Next)) && (decide (x2.Next < (List.length h_.Combs : Int)))))) && (halls_span x2.Walk 1 20))
def C_halls_isComb (O : Orac) : Prop := ∀ (h_ : Hall) (i : Int) (r : Bool) (hm0 : halls_isComb h_ i = some r), Fn O "newel/halls.isComb" [.agg [.fs 5 (List.map eComb h_.Combs), .fs 3 (List.map eTrain h_.Trains), .fs 3 (List.map eShift h_.Shifts), I h_.Until], I i] (B r)

/- newel/halls.isTrain -/
noncomputable def halls_isTrain_j2 (h_ : Hall) (t_ : Train) : Option Bool :=
  some ((halls_span t_.At 0 (wr (h_.Until - 1))) && (decide ((List.length t_.Crowds : Int) ≤ 4)))
noncomputable def halls_isTrain_L9 (h_ : Hall) (t_ : Train) : (Int × Int) → Option (Out (Int × Int) (Unit ⊕ Bool))
  | (last_5, x_11) =>
    if decide (x_11 < (List.length t_.Crowds : Int)) then
      (get t_.Crowds x_11).bind fun x9 =>
      if ((decide (x9.Comb ≤ last_5)) || (decide ((List.length h_.Combs : Int) ≤ x9.Comb))) || (!(halls_span x9.People 0 1000)) then
        some (.br (.inr false))
      else
        some (.nx (x9.Comb, wr (x_11 + 1)))
    else
      some (.br (.inl ()))
noncomputable def halls_isTrain (h_ : Hall) (t_ : Train) : Option Bool :=
  (loopM (halls_isTrain_L9 h_ t_) ((-1), 0)).bind fun
    | (.inl ()) => halls_isTrain_j2 h_ t_
    | (.inr r') => some r'
def C_halls_isTrain (O : Orac) : Prop := ∀ (h_ : Hall) (t_ : Train) (r : Bool) (hm0 : halls_isTrain h_ t_ = some r), Fn O "newel/halls.isTrain" [.agg [.fs 5 (List.map eComb h_.Combs), .fs 3 (List.map eTrain h_.Trains), .fs 3 (List.map eShift h_.Shifts), I h_.Until], .agg [I t_.At.Low, I t_.At.High, .fs 3 (List.map eCrowd t_.Crowds)]] (B r)

/- newel/halls.Check$1 -/
noncomputable def halls_CheckD1 (t_ : Train) (c0 : Hall) : Option Bool :=
  (halls_isTrain c0 t_).bind fun y2 =>
  some (!y2)
def C_halls_CheckD1 (O : Orac) : Prop := ∀ (t_ : Train) (c0 : Hall) (r : Bool) (hm0 : halls_CheckD1 t_ c0 = some r), Fn O "newel/halls.Check$1" [.agg [I t_.At.Low, I t_.At.High, .fs 3 (List.map eCrowd t_.Crowds)], .fp [.fs 5 (List.map eComb c0.Combs), .fs 3 (List.map eTrain c0.Trains), .fs 3 (List.map eShift c0.Shifts), I c0.Until] 0] (B r)

/- slices.IndexFunc[[]newel/api.Train,newel/api.Train] -/
noncomputable def slices_IndexFunc___api_Train_api_Train__j2 : Option Int :=
  some (-1)
noncomputable def slices_IndexFunc___api_Train_api_Train__L7 (s : List Train) (f : Train → Option Bool) : Int → Option (Out Int (Unit ⊕ Int))
  | x_8 =>
    if decide (x_8 < (List.length s : Int)) then
      (get s x_8).bind fun x9 =>
      (f x9).bind fun y10 =>
      if y10 then
        some (.br (.inr x_8))
      else
        some (.nx (wr (x_8 + 1)))
    else
      some (.br (.inl ()))
noncomputable def slices_IndexFunc___api_Train_api_Train_ (s : List Train) (f : Train → Option Bool) : Option Int :=
  (loopM (slices_IndexFunc___api_Train_api_Train__L7 s f) (0)).bind fun
    | (.inl ()) => slices_IndexFunc___api_Train_api_Train__j2
    | (.inr r') => some r'
def C_slices_IndexFunc___api_Train_api_Train_ (O : Orac) : Prop := ∀ (s : List Train) (f_n : String) (f_a f_b : List AV) (f : Train → Option Bool) (f_z : Frz (.fn f_n f_a f_b)) (f_h : ∀ z0 y, f z0 = some y → Fn O f_n (f_a ++ [.agg [I z0.At.Low, I z0.At.High, .fs 3 (List.map eCrowd z0.Crowds)]] ++ f_b) (B y)) (r : Int) (hm0 : slices_IndexFunc___api_Train_api_Train_ s f = some r), Fn O "slices.IndexFunc[[]newel/api.Train,newel/api.Train]" [.fs 3 (List.map eTrain s), .fn f_n f_a f_b] (I r)

/- slices.ContainsFunc[[]newel/api.Train,newel/api.Train] -/
noncomputable def slices_ContainsFunc___api_Train_api_Train_ (s : List Train) (f : Train → Option Bool) : Option Bool :=
  (slices_IndexFunc___api_Train_api_Train_ s f).bind fun y2 =>
  some (decide (0 ≤ y2))
def C_slices_ContainsFunc___api_Train_api_Train_ (O : Orac) : Prop := ∀ (s : List Train) (f_n : String) (f_a f_b : List AV) (f : Train → Option Bool) (f_z : Frz (.fn f_n f_a f_b)) (f_h : ∀ z0 y, f z0 = some y → Fn O f_n (f_a ++ [.agg [I z0.At.Low, I z0.At.High, .fs 3 (List.map eCrowd z0.Crowds)]] ++ f_b) (B y)) (r : Bool) (hm0 : slices_ContainsFunc___api_Train_api_Train_ s f = some r), Fn O "slices.ContainsFunc[[]newel/api.Train,newel/api.Train]" [.fs 3 (List.map eTrain s), .fn f_n f_a f_b] (B r)

/- newel/halls.Check -/
noncomputable def halls_Check_j17 : Option Int :=
  some 0
noncomputable def halls_Check_L18 (h_ : Hall) : Int → Option (Out Int (Unit ⊕ Int))
  | x_56 =>
    if decide (x_56 < (List.length h_.Shifts : Int)) then
      (get h_.Shifts x_56).bind fun x23 =>
      (if (decide (x23.At < 0)) || (decide (h_.Until ≤ x23.At)) then some true else (if decide (0 < x_56) then (get h_.Shifts (wr (x_56 - 1))).bind fun x27 =>
      some (decide (x23.At < x27.At)) else some false).bind fun c28 =>
      some c28).bind fun c29 =>
      if ((c29 || (decide (x23.Comb < 0))) || (decide ((List.length h_.Combs : Int) ≤ x23.Comb))) || (!(halls_in x23.Rate (Span.mk 0 1000))) then
        some (.br (.inr 60))
      else
        some (.nx (wr (x_56 + 1)))
    else
      some (.br (.inl ()))
noncomputable def halls_Check_j9 (h_ : Hall) : Option Int :=
  (slices_ContainsFunc___api_Train_api_Train_ h_.Trains (fun z12 => halls_CheckD1 z12 h_)).bind fun y13 =>
  if y13 then
    some 60
  else
    (loopM (halls_Check_L18 h_) (0)).bind fun
      | (.inl ()) => halls_Check_j17
      | (.inr r') => some r'
noncomputable def halls_Check_L9 (h_ : Hall) : Int → Option (Out Int (Unit ⊕ Int))
  | x_41 =>
    if decide (x_41 < (List.length h_.Combs : Int)) then
      (halls_isComb h_ x_41).bind fun y45 =>
      if !y45 then
        some (.br (.inr 60))
      else
        some (.nx (wr (x_41 + 1)))
    else
      some (.br (.inl ()))
noncomputable def halls_Check (h_ : Hall) : Option Int :=
  if (((((decide (h_.Until < 1)) || (decide (100 < h_.Until))) || (decide ((List.length h_.Combs : Int) < 1))) || (decide (8 < (List.length h_.Combs : Int)))) || (decide (12 < (List.length h_.Trains : Int)))) || (decide (20 < (List.length h_.Shifts : Int))) then
    some 60
  else
    (loopM (halls_Check_L9 h_) (0)).bind fun
      | (.inl ()) => halls_Check_j9 h_
      | (.inr r') => some r'
def C_halls_Check (O : Orac) : Prop := ∀ (h_ : Hall) (r : Int) (hm0 : halls_Check h_ = some r), Fn O "newel/halls.Check" [.agg [.fs 5 (List.map eComb h_.Combs), .fs 3 (List.map eTrain h_.Trains), .fs 3 (List.map eShift h_.Shifts), I h_.Until]] (I r)

/- newel/halls.check$1 -/
noncomputable def halls_checkD1 (t_ : Int) (c0 : Hall) : Bool :=
  (decide (t_ < 0)) || (decide (c0.Until ≤ t_))
def C_halls_checkD1 (O : Orac) : Prop := ∀ (t_ : Int) (c0 : Hall), Fn O "newel/halls.check$1" [I t_, .fp [.fs 5 (List.map eComb c0.Combs), .fs 3 (List.map eTrain c0.Trains), .fs 3 (List.map eShift c0.Shifts), I c0.Until] 0] (B (halls_checkD1 t_ c0))

/- slices.IndexFunc[[]int,int] -/
noncomputable def slices_IndexFunc___int_int__j2 : Option Int :=
  some (-1)
noncomputable def slices_IndexFunc___int_int__L7 (s : List Int) (f : Int → Option Bool) : Int → Option (Out Int (Unit ⊕ Int))
  | x_8 =>
    if decide (x_8 < (List.length s : Int)) then
      (get s x_8).bind fun x9 =>
      (f x9).bind fun y10 =>
      if y10 then
        some (.br (.inr x_8))
      else
        some (.nx (wr (x_8 + 1)))
    else
      some (.br (.inl ()))
noncomputable def slices_IndexFunc___int_int_ (s : List Int) (f : Int → Option Bool) : Option Int :=
  (loopM (slices_IndexFunc___int_int__L7 s f) (0)).bind fun
    | (.inl ()) => slices_IndexFunc___int_int__j2
    | (.inr r') => some r'
def C_slices_IndexFunc___int_int_ (O : Orac) : Prop := ∀ (s : List Int) (f_n : String) (f_a f_b : List AV) (f : Int → Option Bool) (f_z : Frz (.fn f_n f_a f_b)) (f_h : ∀ z0 y, f z0 = some y → Fn O f_n (f_a ++ [I z0] ++ f_b) (B y)) (r : Int) (hm0 : slices_IndexFunc___int_int_ s f = some r), Fn O "slices.IndexFunc[[]int,int]" [.fs 1 (List.map eI s), .fn f_n f_a f_b] (I r)

/- slices.ContainsFunc[[]int,int] -/
noncomputable def slices_ContainsFunc___int_int_ (s : List Int) (f : Int → Option Bool) : Option Bool :=
  (slices_IndexFunc___int_int_ s f).bind fun y2 =>
  some (decide (0 ≤ y2))
def C_slices_ContainsFunc___int_int_ (O : Orac) : Prop := ∀ (s : List Int) (f_n : String) (f_a f_b : List AV) (f : Int → Option Bool) (f_z : Frz (.fn f_n f_a f_b)) (f_h : ∀ z0 y, f z0 = some y → Fn O f_n (f_a ++ [I z0] ++ f_b) (B y)) (r : Bool) (hm0 : slices_ContainsFunc___int_int_ s f = some r), Fn O "slices.ContainsFunc[[]int,int]" [.fs 1 (List.map eI s), .fn f_n f_a f_b] (B r)

/- newel/halls.check -/
noncomputable def halls_check (h_ : Hall) (comb : Int) (ticks : List Int) : Option Int :=
  (halls_Check h_).bind fun y2 =>
  if decide (¬y2 = 0) then
    some y2
  else
    (if (decide (comb < 0)) || (decide ((List.length h_.Combs : Int) ≤ comb)) then some true else (slices_ContainsFunc___int_int_ ticks (fun z8 => some (halls_checkD1 z8 h_))).bind fun y9 =>
    some y9).bind fun c10 =>
    if c10 then
      some 1
    else
      some 0
def C_halls_check (O : Orac) : Prop := ∀ (h_ : Hall) (comb : Int) (ticks : List Int) (r : Int) (hm0 : halls_check h_ comb ticks = some r), Fn O "newel/halls.check" [.agg [.fs 5 (List.map eComb h_.Combs), .fs 3 (List.map eTrain h_.Trains), .fs 3 (List.map eShift h_.Shifts), I h_.Until], I comb, .fs 1 (List.map eI ticks)] (I r)

/- newel/halls.rates -/
noncomputable def halls_rates_j6 (out_5 : List Int) : Option (List Int) :=
  some out_5
noncomputable def halls_rates_j11 (x_20 : Int) (out_5_1 : List Int) (now_6_1 : Int) (at_7_1 : Int) : Option (Out ((List Int) × Int × Int × Int) (((List Int)))) :=
  some (.nx (out_5_1, now_6_1, at_7_1, wr (x_20 + 1)))
noncomputable def halls_rates_j13 (out_5 : List Int) (x_20 : Int) (now_6_1 : Int) (at_7_1 : Int) : Option (Out ((List Int) × Int × Int × Int) (((List Int)))) :=
  (get out_5 x_20).bind fun x15 =>
  halls_rates_j11 x_20 (List.set out_5 (Int.toNat x_20) now_6_1) now_6_1 at_7_1
noncomputable def halls_rates_j25 (at_7_1 : Int) (now_6_2 : Int) : Option (Out (Int × Int) ((Int × Int))) :=
  some (.nx (now_6_2, wr (at_7_1 + 1)))
noncomputable def halls_rates_L10 (h_ : Hall) (comb : Int) (x_20 : Int) : (Int × Int) → Option (Out (Int × Int) ((Int × Int)))
  | (now_6_1, at_7_1) =>
    (if decide (at_7_1 < (List.length h_.Shifts : Int)) then (get h_.Shifts at_7_1).bind fun x19 =>
    some (decide (x19.At ≤ x_20)) else some false).bind fun c20 =>
    if c20 then
      (get h_.Shifts at_7_1).bind fun x27 =>
      if decide (x27.Comb = comb) then
        halls_rates_j25 at_7_1 x27.Rate
      else
        halls_rates_j25 at_7_1 now_6_1
    else
      some (.br (now_6_1, at_7_1))
noncomputable def halls_rates_L13 (h_ : Hall) (comb : Int) (l2 : List Int) : ((List Int) × Int × Int × Int) → Option (Out ((List Int) × Int × Int × Int) (((List Int))))
  | (out_5, now_6, at_7, x_20) =>
    if decide (x_20 < ((List.length l2 : Nat) : Int)) then
      (loopM (halls_rates_L10 h_ comb x_20) (now_6, at_7)).bind fun
        | (now_6_1, at_7_1) => halls_rates_j13 out_5 x_20 now_6_1 at_7_1
    else
      some (.br out_5)
noncomputable def halls_rates (h_ : Hall) (comb : Int) : Option (List Int) :=
  (mks 8 h_.Until 0).bind fun l2 =>
  (get h_.Combs comb).bind fun x4 =>
  (loopM (halls_rates_L13 h_ comb l2) (l2, x4.Rate, 0, 0)).bind fun out_5 =>
  halls_rates_j6 out_5
def C_halls_rates (O : Orac) : Prop := ∀ (h_ : Hall) (comb : Int) (r : List Int) (hm0 : halls_rates h_ comb = some r), FnW O "newel/halls.rates" [.agg [.fs 5 (List.map eComb h_.Combs), .fs 3 (List.map eTrain h_.Trains), .fs 3 (List.map eShift h_.Shifts), I h_.Until], I comb] 1 eI r

@[go_sem] def eL_I (x : List Int) : List AV := [.fs 1 (List.map eI x)]
theorem fz_eL_I (x : List Int) : ∀ c ∈ eL_I x, Frz c := (fz_cons (frz_fs fun a _ => fz_eI a) fz_nil)
theorem ln_eL_I (x : List Int) : (eL_I x).length = 1 := rfl
@[go_sem] theorem set_eL_I {l : List (List Int)} {n : Nat} {a0 : List Int} : (List.map eL_I l).set n [.fs 1 (List.map eI a0)] = List.map eL_I (l.set n a0) := by rw [List.map_set]; rfl
/- newel/halls.open -/
noncomputable def halls_open_j2 (out_2 : List (List Int)) : Option (List (List Int)) :=
  some out_2
noncomputable def halls_open_L6 (h_ : Hall) : ((List (List Int)) × Int) → Option (Out ((List (List Int)) × Int) (((List (List Int)))))
  | (out_2, x_7) =>
    if decide (x_7 < (List.length h_.Combs : Int)) then
      (halls_rates h_ x_7).bind fun y9 =>
      (ap 24 out_2 ([y9])).bind fun l10 =>
      some (.nx (l10, wr (x_7 + 1)))
    else
      some (.br out_2)
noncomputable def halls_open (h_ : Hall) : Option (List (List Int)) :=
  (loopM (halls_open_L6 h_) ([], 0)).bind fun out_2 =>
  halls_open_j2 out_2
def C_halls_open (O : Orac) : Prop := ∀ (h_ : Hall) (r : List (List Int)) (hm0 : halls_open h_ = some r), Fn O "newel/halls.open" [.agg [.fs 5 (List.map eComb h_.Combs), .fs 3 (List.map eTrain h_.Trains), .fs 3 (List.map eShift h_.Shifts), I h_.Until]] (.fs 1 (List.map eL_I r))

def C_halls_open_w (O : Orac) : Prop := ∀ (h_ : Hall) (h0 : Heap) (r : List (List Int)) (hm0 : halls_open h_ = some r), callwWp O "newel/halls.open" [.agg [.fs 5 (List.map eComb h_.Combs), .fs 3 (List.map eTrain h_.Trains), .fs 3 (List.map eShift h_.Shifts), I h_.Until]] h0 (fun v h => ∃ hs, RR h v hs 1 eI r ∧ (∀ j, j < h0.nx → h.ob j = h0.ob j) ∧ h0.nx ≤ h.nx ∧ ∀ j, ¬RNot v hs j → h0.nx ≤ j)

/- newel/halls.brought -/
noncomputable def halls_brought_j2 (sum_8 : Int) : Option Int :=
  some sum_8
noncomputable def halls_brought_j7 (x_16 : Int) (sum_8_1 : Int) : Option (Out (Int × Int) Int) :=
  some (.nx (sum_8_1, wr (x_16 + 1)))
noncomputable def halls_brought_j17 (x_35 : Int) (sum_8_2 : Int) : Option (Out (Int × Int) Int) :=
  some (.nx (sum_8_2, wr (x_35 + 1)))
noncomputable def halls_brought_L11 (comb : Int) (x9 : Train) : (Int × Int) → Option (Out (Int × Int) Int)
  | (sum_8_1, x_35) =>
    if decide (x_35 < (List.length x9.Crowds : Int)) then
      (get x9.Crowds x_35).bind fun x19 =>
      if decide (x19.Comb = comb) then
        halls_brought_j17 x_35 (wr (sum_8_1 + x19.People.High))
      else
        halls_brought_j17 x_35 sum_8_1
    else
      some (.br sum_8_1)
noncomputable def halls_brought_L13 (h_ : Hall) (comb : Int) (from_ : Int) (to_ : Int) : (Int × Int) → Option (Out (Int × Int) Int)
  | (sum_8, x_16) =>
    if decide (x_16 < (List.length h_.Trains : Int)) then
      (get h_.Trains x_16).bind fun x9 =>
      if (decide (x9.At.High < from_)) || (decide (to_ < x9.At.Low)) then
        halls_brought_j7 x_16 sum_8
      else
        (loopM (halls_brought_L11 comb x9) (sum_8, 0)).bind fun sum_8_1 =>
        halls_brought_j7 x_16 sum_8_1
    else
      some (.br sum_8)
noncomputable def halls_brought (h_ : Hall) (comb : Int) (from_ : Int) (to_ : Int) : Option Int :=
  (loopM (halls_brought_L13 h_ comb from_ to_) (0, 0)).bind fun sum_8 =>
  halls_brought_j2 sum_8
def C_halls_brought (O : Orac) : Prop := ∀ (h_ : Hall) (comb : Int) (from_ : Int) (to_ : Int) (r : Int) (hm0 : halls_brought h_ comb from_ to_ = some r), Fn O "newel/halls.brought" [.agg [.fs 5 (List.map eComb h_.Combs), .fs 3 (List.map eTrain h_.Trains), .fs 3 (List.map eShift h_.Shifts), I h_.Until], I comb, I from_, I to_] (I r)

structure halls_bound where
  rates : List Int
  flow : List Int
  most : List Int
  come : List (List Int)
  deriving Inhabited, DecidableEq

/- (*newel/halls.bound).passes -/
noncomputable def __halls_bound__passes_j13 (least_7 : Int) : Option Int :=
  some least_7
noncomputable def __halls_bound__passes_j19 (b : halls_bound) (from_ : Int) (least_7 : Int) (k_8 : Int) (behind_9 : Int) : Option (Out (Int × Int) Int) :=
  (get b.flow k_8).bind fun x23 =>
  (get b.flow (mx from_ 0)).bind fun x24 =>
  (get b.most k_8).bind fun x25 =>
  some (.nx (mn least_7 (wr ((wr ((wr (x23 - x24)) + x25)) + behind_9)), wr (k_8 + 1)))
noncomputable def __halls_bound__passes_L12 (b : halls_bound) (from_ : Int) (to_ : Int) : (Int × Int) → Option (Out (Int × Int) Int)
  | (least_7, k_8) =>
    if decide (k_8 ≤ to_) then
      if decide (k_8 < to_) then
        (get b.come (wr (k_8 + 1))).bind fun x29 =>
        (get x29 to_).bind fun x30 =>
        __halls_bound__passes_j19 b from_ least_7 k_8 x30
      else
        __halls_bound__passes_j19 b from_ least_7 k_8 0
    else
      some (.br least_7)
noncomputable def __halls_bound__passes (b : halls_bound) (from_ : Int) (to_ : Int) : Option Int :=
  if (decide (to_ < from_)) || (decide (to_ < 0)) then
    some 0
  else
    (get b.come 0).bind fun x8 =>
    (get x8 to_).bind fun x9 =>
    (get b.flow (wr (to_ + 1))).bind fun x10 =>
    (get b.flow (mx from_ 0)).bind fun x11 =>
    (loopM (__halls_bound__passes_L12 b from_ to_) (mn x9 (wr (x10 - x11)), mx from_ 0)).bind fun least_7 =>
    __halls_bound__passes_j13 least_7
def C___halls_bound__passes (O : Orac) : Prop := ∀ (b : halls_bound) (from_ : Int) (to_ : Int) (r : Int) (hm0 : __halls_bound__passes b from_ to_ = some r), Fn O "(*newel/halls.bound).passes" [.fp [.fs 1 (List.map eI b.rates), .fs 1 (List.map eI b.flow), .fs 1 (List.map eI b.most), .fs 1 (List.map eL_I b.come)] 0, I from_, I to_] (I r)

@[go_sem] def eP_halls_bound (x : halls_bound) : List AV := [.fp [.fs 1 (List.map eI x.rates), .fs 1 (List.map eI x.flow), .fs 1 (List.map eI x.most), .fs 1 (List.map eL_I x.come)] 0]
theorem fz_eP_halls_bound (x : halls_bound) : ∀ c ∈ eP_halls_bound x, Frz c := (fz_cons (.fp _ _ (fz_cons (frz_fs fun a _ => fz_eI a) (fz_cons (frz_fs fun a _ => fz_eI a) (fz_cons (frz_fs fun a _ => fz_eI a) (fz_cons (frz_fs fun a _ => fz_eL_I a) fz_nil))))) fz_nil)
theorem ln_eP_halls_bound (x : halls_bound) : (eP_halls_bound x).length = 1 := rfl
/- newel/halls.bounds -/
noncomputable def halls_bounds_j2 (all_5 : List halls_bound) : Option (List halls_bound) :=
  some all_5
noncomputable def halls_bounds_j7 (x_19 : Int) (all_5_1 : List halls_bound) : Option (Out ((List halls_bound) × Int) (((List halls_bound)))) :=
  some (.nx (all_5_1, wr (x_19 + 1)))
noncomputable def halls_bounds_j11 (all_5 : List halls_bound) (x_19 : Int) (b_7_0 : List Int) (b_7_3 : List (List Int)) (b_7_1 : List Int) (b_7_2 : List Int) : Option (Out ((List halls_bound) × Int) (((List halls_bound)))) :=
  (ap 8 all_5 ([(halls_bound.mk b_7_0 b_7_1 b_7_2 b_7_3)])).bind fun l13 =>
  halls_bounds_j7 x_19 l13
noncomputable def halls_bounds_j18 (x_122 : Int) (b_7_1_1 : List Int) (b_7_2_1 : List Int) : Option (Out ((List Int) × (List Int) × Int) (((List Int) × (List Int)))) :=
  some (.nx (b_7_1_1, b_7_2_1, wr (x_122 + 1)))
noncomputable def halls_bounds_j20 (open_ : List (List Int)) (x_19 : Int) (b_7_1 : List Int) (b_7_2 : List Int) (x_122 : Int) (most_14 : Int) : Option (Out ((List Int) × (List Int) × Int) (((List Int) × (List Int)))) :=
  (ap 8 b_7_2 ([most_14])).bind fun l22 =>
  (get b_7_1 x_122).bind fun x27 =>
  (get open_ x_19).bind fun x28 =>
  (get x28 x_122).bind fun x29 =>
  (ap 8 b_7_1 ([wr (x27 + (mn most_14 x29))])).bind fun l30 =>
  halls_bounds_j18 x_122 l30 l22
noncomputable def halls_bounds_L35 (b_7_0 : List Int) (b_7_3 : List (List Int)) (x_122 : Int) : (Int × Int) → Option (Out (Int × Int) Int)
  | (most_14, x_127) =>
    if decide (x_127 < (wr (x_122 + 1))) then
      (get b_7_3 x_127).bind fun x40 =>
      (get x40 x_122).bind fun x42 =>
      (get b_7_0 x_122).bind fun x43 =>
      (get b_7_0 x_127).bind fun x44 =>
      some (.nx (mx most_14 (wr (x42 - (wr (x43 - x44)))), wr (x_127 + 1)))
    else
      some (.br most_14)
noncomputable def halls_bounds_L39 (h_ : Hall) (open_ : List (List Int)) (x_19 : Int) (b_7_0 : List Int) (b_7_3 : List (List Int)) : ((List Int) × (List Int) × Int) → Option (Out ((List Int) × (List Int) × Int) (((List Int) × (List Int))))
  | (b_7_1, b_7_2, x_122) =>
    if decide (x_122 < h_.Until) then
      (loopM (halls_bounds_L35 b_7_0 b_7_3 x_122) (0, 0)).bind fun most_14 =>
      halls_bounds_j20 open_ x_19 b_7_1 b_7_2 x_122 most_14
    else
      some (.br (b_7_1, b_7_2))
noncomputable def halls_bounds_j9 (h_ : Hall) (open_ : List (List Int)) (all_5 : List halls_bound) (x_19 : Int) (b_7_0 : List Int) (b_7_3 : List (List Int)) : Option (Out ((List halls_bound) × Int) (((List halls_bound)))) :=
  (loopM (halls_bounds_L39 h_ open_ x_19 b_7_0 b_7_3) ([0], [], 0)).bind fun
    | (b_7_1, b_7_2) => halls_bounds_j11 all_5 x_19 b_7_0 b_7_3 b_7_1 b_7_2
noncomputable def halls_bounds_j51 (x_28 : Int) (b_7_0_1 : List Int) (b_7_3_1 : List (List Int)) : Option (Out ((List Int) × (List (List Int)) × Int) (((List Int) × (List (List Int))))) :=
  some (.nx (b_7_0_1, b_7_3_1, wr (x_28 + 1)))
noncomputable def halls_bounds_j55 (open_ : List (List Int)) (x_19 : Int) (b_7_0 : List Int) (b_7_3 : List (List Int)) (x_28 : Int) (row_9 : List Int) : Option (Out ((List Int) × (List (List Int)) × Int) (((List Int) × (List (List Int))))) :=
  (ap 24 b_7_3 ([row_9])).bind fun l57 =>
  (get b_7_0 x_28).bind fun x62 =>
  (get open_ x_19).bind fun x63 =>
  (get x63 x_28).bind fun x64 =>
  (ap 8 b_7_0 ([wr (x62 + x64)])).bind fun l65 =>
  halls_bounds_j51 x_28 l65 l57
noncomputable def halls_bounds_j70 (t_10 : Int) (row_9_1 : List Int) : Option (Out ((List Int) × Int) (((List Int)))) :=
  some (.nx (row_9_1, wr (t_10 + 1)))
noncomputable def halls_bounds_j81 (x_54 : Int) (row_9_2 : List Int) : Option (Out ((List Int) × Int) (((List Int)))) :=
  some (.nx (row_9_2, wr (x_54 + 1)))
noncomputable def halls_bounds_L19 (all_5 : List halls_bound) (x_19 : Int) (x_28 : Int) (t_10 : Int) (l76 : List Comb) : ((List Int) × Int) → Option (Out ((List Int) × Int) (((List Int))))
  | (row_9_1, x_54) =>
    if decide (x_54 < (List.length l76 : Int)) then
      (get l76 x_54).bind fun x83 =>
      if decide (x83.Next = x_19) then
        (get row_9_1 t_10).bind fun x89 =>
        (get all_5 x_54).bind fun x90 =>
        (__halls_bound__passes x90 (wr (x_28 - x83.Walk.High)) (wr (t_10 - x83.Walk.Low))).bind fun y92 =>
        halls_bounds_j81 x_54 (List.set row_9_1 (Int.toNat t_10) (wr (x89 + y92)))
      else
        halls_bounds_j81 x_54 row_9_1
    else
      some (.br row_9_1)
noncomputable def halls_bounds_L21 (h_ : Hall) (all_5 : List halls_bound) (x_19 : Int) (x_28 : Int) : ((List Int) × Int) → Option (Out ((List Int) × Int) (((List Int))))
  | (row_9, t_10) =>
    if decide (t_10 < h_.Until) then
      (halls_brought h_ x_19 x_28 t_10).bind fun y73 =>
      (get row_9 t_10).bind fun x74 =>
      (sub h_.Combs 0 x_19).bind fun l76 =>
      (loopM (halls_bounds_L19 all_5 x_19 x_28 t_10 l76) ((List.set row_9 (Int.toNat t_10) y73), 0)).bind fun row_9_1 =>
      halls_bounds_j70 t_10 row_9_1
    else
      some (.br row_9)
noncomputable def halls_bounds_L25 (h_ : Hall) (open_ : List (List Int)) (all_5 : List halls_bound) (x_19 : Int) : ((List Int) × (List (List Int)) × Int) → Option (Out ((List Int) × (List (List Int)) × Int) (((List Int) × (List (List Int)))))
  | (b_7_0, b_7_3, x_28) =>
    if decide (x_28 < h_.Until) then
      (mks 8 h_.Until 0).bind fun l53 =>
      (loopM (halls_bounds_L21 h_ all_5 x_19 x_28) (l53, x_28)).bind fun row_9 =>
      halls_bounds_j55 open_ x_19 b_7_0 b_7_3 x_28 row_9
    else
      some (.br (b_7_0, b_7_3))
noncomputable def halls_bounds_L42 (h_ : Hall) (open_ : List (List Int)) : ((List halls_bound) × Int) → Option (Out ((List halls_bound) × Int) (((List halls_bound))))
  | (all_5, x_19) =>
    if decide (x_19 < (List.length h_.Combs : Int)) then
      (loopM (halls_bounds_L25 h_ open_ all_5 x_19) ([0], [], 0)).bind fun
        | (b_7_0, b_7_3) => halls_bounds_j9 h_ open_ all_5 x_19 b_7_0 b_7_3
    else
      some (.br all_5)
noncomputable def halls_bounds (h_ : Hall) (open_ : List (List Int)) : Option (List halls_bound) :=
  (loopM (halls_bounds_L42 h_ open_) ([], 0)).bind fun all_5 =>
  halls_bounds_j2 all_5
def C_halls_bounds (O : Orac) : Prop := ∀ (h_ : Hall) (open_ : List (List Int)) (r : List halls_bound) (hm0 : halls_bounds h_ open_ = some r), Fn O "newel/halls.bounds" [.agg [.fs 5 (List.map eComb h_.Combs), .fs 3 (List.map eTrain h_.Trains), .fs 3 (List.map eShift h_.Shifts), I h_.Until], .fs 1 (List.map eL_I open_)] (.fs 1 (List.map eP_halls_bound r))

def C_halls_bounds_w (O : Orac) : Prop := ∀ (h_ : Hall) (open_ : List (List Int)) (v_1 : AV) (hs_1 : List AV) (h0 : Heap) (rr_p1 : RR h0 v_1 hs_1 1 eI open_) (r : List halls_bound) (hm0 : halls_bounds h_ open_ = some r), callwWp O "newel/halls.bounds" [.agg [.fs 5 (List.map eComb h_.Combs), .fs 3 (List.map eTrain h_.Trains), .fs 3 (List.map eShift h_.Shifts), I h_.Until], v_1] h0 (fun v h => v = .fs 1 (List.map eP_halls_bound r) ∧ (∀ j, j < h0.nx → h.ob j = h0.ob j) ∧ h0.nx ≤ h.nx)

/- newel/halls.over$1 -/
noncomputable def halls_overD1 (n : Int) (c0 : Hall) (c1 : Int) : Option Bool :=
  (get c0.Combs c1).bind fun x2 =>
  some (decide (x2.Limit < n))
def C_halls_overD1 (O : Orac) : Prop := ∀ (n : Int) (c0 : Hall) (c1 : Int) (r : Bool) (hm0 : halls_overD1 n c0 c1 = some r), Fn O "newel/halls.over$1" [I n, .fp [.fs 5 (List.map eComb c0.Combs), .fs 3 (List.map eTrain c0.Trains), .fs 3 (List.map eShift c0.Shifts), I c0.Until] 0, .fp [I c1] 0] (B r)

@[go_sem] def eA2_I (x : Int × Int) : List AV := [I x.1, I x.2]
theorem fz_eA2_I (x : Int × Int) : ∀ c ∈ eA2_I x, Frz c := (fz_cons (frz_v _) (fz_cons (frz_v _) fz_nil))
theorem ln_eA2_I (x : Int × Int) : (eA2_I x).length = 2 := rfl
@[go_sem] theorem set_eA2_I {l : List (Int × Int)} {n : Nat} {a0 : Int} {a1 : Int} : (List.map eA2_I l).set n [I a0, I a1] = List.map eA2_I (l.set n (a0, a1)) := by rw [List.map_set]; rfl
/- newel/halls.over -/
noncomputable def halls_over_j2 (out_4 : List (Int × Int)) : Option (List (Int × Int)) :=
  some out_4
noncomputable def halls_over_j7 (x_10 : Int) (out_4_1 : List (Int × Int)) : Option (Out ((List (Int × Int)) × Int) (((List (Int × Int))))) :=
  some (.nx (out_4_1, wr (x_10 + 1)))
noncomputable def halls_over_L8 (h_ : Hall) (all : List halls_bound) : ((List (Int × Int)) × Int) → Option (Out ((List (Int × Int)) × Int) (((List (Int × Int)))))
  | (out_4, x_10) =>
    if decide (x_10 < (List.length all : Int)) then
      (get all x_10).bind fun x9 =>
      (slices_IndexFunc___int_int_ x9.most (fun z12 => halls_overD1 z12 h_ x_10)).bind fun y13 =>
      if decide (0 ≤ y13) then
        (ap 16 out_4 ([(x_10, y13)])).bind fun l16 =>
        halls_over_j7 x_10 l16
      else
        halls_over_j7 x_10 out_4
    else
      some (.br out_4)
noncomputable def halls_over (h_ : Hall) (all : List halls_bound) : Option (List (Int × Int)) :=
  (loopM (halls_over_L8 h_ all) ([], 0)).bind fun out_4 =>
  halls_over_j2 out_4
def C_halls_over (O : Orac) : Prop := ∀ (h_ : Hall) (all : List halls_bound) (r : List (Int × Int)) (hm0 : halls_over h_ all = some r), Fn O "newel/halls.over" [.agg [.fs 5 (List.map eComb h_.Combs), .fs 3 (List.map eTrain h_.Trains), .fs 3 (List.map eShift h_.Shifts), I h_.Until], .fs 1 (List.map eP_halls_bound all)] (.fs 2 (List.map eA2_I r))

/- newel/halls.Guard -/
noncomputable def halls_Guard_L12 (h_ : Hall) (comb : Int) (from_ : Int) : ((List (List Int)) × Int) → Option (Out ((List (List Int)) × Int) (((Int × Int))))
  | (all_9, n_10) =>
    (halls_bounds h_ all_9).bind fun y11 =>
    (halls_over h_ y11).bind fun y12 =>
    if decide ((List.length y12 : Int) = 0) then
      some (.br (n_10, 0))
    else
      if decide ((wr (from_ + n_10)) = h_.Until) then
        some (.br (0, 3))
      else
        (get all_9 comb).bind fun x19 =>
        (get x19 (wr (from_ + n_10))).bind fun x20 =>
        some (.nx ((List.set all_9 (Int.toNat comb) (List.set x19 (Int.toNat (wr (from_ + n_10))) 0)), wr (n_10 + 1)))
noncomputable def halls_Guard (h_ : Hall) (comb : Int) (from_ : Int) : Option (Int × Int) :=
  (halls_check h_ comb ([from_])).bind fun y2 =>
  if decide (¬y2 = 0) then
    some (0, y2)
  else
    (halls_open h_).bind fun y6 =>
    (loopM (halls_Guard_L12 h_ comb from_) (y6, 0)).bind fun r' =>
    some r'
def C_halls_Guard (O : Orac) : Prop := ∀ (h_ : Hall) (comb : Int) (from_ : Int) (r : Int × Int) (hm0 : halls_Guard h_ comb from_ = some r), Fn O "newel/halls.Guard" [.agg [.fs 5 (List.map eComb h_.Combs), .fs 3 (List.map eTrain h_.Trains), .fs 3 (List.map eShift h_.Shifts), I h_.Until], I comb, I from_] (.tup [I r.1, I r.2])

/- newel/halls.Over -/
noncomputable def halls_Over (h_ : Hall) : Option ((List (Int × Int)) × Int) :=
  (halls_Check h_).bind fun y2 =>
  if decide (¬y2 = 0) then
    some ([], y2)
  else
    (halls_open h_).bind fun y8 =>
    (halls_bounds h_ y8).bind fun y9 =>
    (halls_over h_ y9).bind fun y10 =>
    some (y10, 0)
def C_halls_Over (O : Orac) : Prop := ∀ (h_ : Hall) (r : (List (Int × Int)) × Int) (hm0 : halls_Over h_ = some r), Fn O "newel/halls.Over" [.agg [.fs 5 (List.map eComb h_.Combs), .fs 3 (List.map eTrain h_.Trains), .fs 3 (List.map eShift h_.Shifts), I h_.Until]] (.tup [.fs 2 (List.map eA2_I r.1), I r.2])

/- newel/newellaw06.works -/
noncomputable def l06_works : Option Bool :=
  (halls_Guard l06_Example 0 5).bind fun y2 =>
  (halls_Over l06_Example).bind fun y4 =>
  (if (((decide (y2.2 = 0)) && (decide (y4.2 = 0))) && (decide (y2.1 = 1))) && (decide ((List.length y4.1 : Int) = 1)) then (get y4.1 0).bind fun x7 =>
  some (decide (x7.1 = 1) && decide (x7.2 = 7)) else some false).bind fun c8 =>
  some c8
def C_l06_works (O : Orac) : Prop := ∀ (r : Bool) (hm0 : l06_works = some r), Fn O "newel/newellaw06.works" [] (B r)

/- newel/newelref06.rates -/
/- newel/newelref06.Shut -/
structure l06_Window where
  Comb : Int
  From : Int
  To : Int
  deriving Inhabited, DecidableEq

/- newel/newellaw06.HallsGuard -/
/- newel/halls.Most -/
noncomputable def halls_Most (h_ : Hall) (comb : Int) : Option ((List Int) × Int) :=
  (halls_check h_ comb ([])).bind fun y2 =>
  if decide (¬y2 = 0) then
    some ([], y2)
  else
    (halls_open h_).bind fun y8 =>
    (halls_bounds h_ y8).bind fun y9 =>
    (get y9 comb).bind fun x10 =>
    some (x10.most, 0)
def C_halls_Most (O : Orac) : Prop := ∀ (h_ : Hall) (comb : Int) (r : (List Int) × Int) (hm0 : halls_Most h_ comb = some r), Fn O "newel/halls.Most" [.agg [.fs 5 (List.map eComb h_.Combs), .fs 3 (List.map eTrain h_.Trains), .fs 3 (List.map eShift h_.Shifts), I h_.Until], I comb] (.tup [.fs 1 (List.map eI r.1), I r.2])

structure l06_Less where
  Train : Int
  Crowd : Int
  At : Span
  People : Span
  deriving Inhabited, DecidableEq

/- newel/halls.Need -/
/- newel/newelref06.At -/
structure r06_Bounds where
  Most : List (List Int)
  Flow : List (List Int)
  Come : List (List (List Int))
  Pass : List (List (List Int))
  deriving Inhabited, DecidableEq

@[go_sem] def eL_L_I (x : List (List Int)) : List AV := [.fs 1 (List.map eL_I x)]
@[go_sem] theorem set_eL_L_I {l : List (List (List Int))} {n : Nat} {a0 : List (List Int)} : (List.map eL_L_I l).set n [.fs 1 (List.map eL_I a0)] = List.map eL_L_I (l.set n a0) := by rw [List.map_set]; rfl
/- newel/newellaw06.keeps -/
/- newel/newellaw06.HallsNeed -/
/- newel/halls.Come -/
noncomputable def halls_Come (h_ : Hall) (comb : Int) (from_ : Int) (to_ : Int) : Option (Int × Int) :=
  (halls_check h_ comb ([from_, to_])).bind fun y2 =>
  if decide (¬y2 = 0) then
    some (0, y2)
  else
    (halls_open h_).bind fun y10 =>
    (halls_bounds h_ y10).bind fun y11 =>
    (get y11 comb).bind fun x12 =>
    (get x12.come from_).bind fun x13 =>
    (get x13 to_).bind fun x14 =>
    some (x14, 0)
def C_halls_Come (O : Orac) : Prop := ∀ (h_ : Hall) (comb : Int) (from_ : Int) (to_ : Int) (r : Int × Int) (hm0 : halls_Come h_ comb from_ to_ = some r), Fn O "newel/halls.Come" [.agg [.fs 5 (List.map eComb h_.Combs), .fs 3 (List.map eTrain h_.Trains), .fs 3 (List.map eShift h_.Shifts), I h_.Until], I comb, I from_, I to_] (.tup [I r.1, I r.2])

/- newel/halls.Empty -/
structure Day where
  At : List Int
  People : List (List Int)
  Walks : List (List Int)
  deriving Inhabited, DecidableEq

/- newel/halls.Rates -/
noncomputable def halls_Rates (h_ : Hall) (comb : Int) : Option ((List Int) × Int) :=
  (halls_check h_ comb ([])).bind fun y2 =>
  if decide (¬y2 = 0) then
    some ([], y2)
  else
    (halls_rates h_ comb).bind fun y6 =>
    some (y6, 0)
def C_halls_Rates (O : Orac) : Prop := ∀ (h_ : Hall) (comb : Int) (r : (List Int) × Int) (hm0 : halls_Rates h_ comb = some r), Fn O "newel/halls.Rates" [.agg [.fs 5 (List.map eComb h_.Combs), .fs 3 (List.map eTrain h_.Trains), .fs 3 (List.map eShift h_.Shifts), I h_.Until], I comb] (.tup [.fs 1 (List.map eI r.1), I r.2])

/- newel/halls.isDay$1 -/
noncomputable def halls_isDayD1 (n : Int) (c0 : Comb) : Bool :=
  !(halls_in n c0.Walk)
def C_halls_isDayD1 (O : Orac) : Prop := ∀ (n : Int) (c0 : Comb), Fn O "newel/halls.isDay$1" [I n, .fp [I c0.Rate, I c0.Limit, I c0.Next, I c0.Walk.Low, I c0.Walk.High] 0] (B (halls_isDayD1 n c0))

/- newel/halls.isDay -/
noncomputable def halls_isDay_j8 : Option Bool :=
  some true
noncomputable def halls_isDay_L24 (h_ : Hall) (d : Day) : Int → Option (Out Int (Unit ⊕ Bool))
  | x_91 =>
    if decide (x_91 < (List.length h_.Combs : Int)) then
      (get h_.Combs x_91).bind fun x14 =>
      (get d.Walks x_91).bind fun x19 =>
      (if (decide ((List.length x19 : Int) < 1)) || (decide (20 < (List.length x19 : Int))) then some true else (slices_ContainsFunc___int_int_ x19 (fun z20 => some (halls_isDayD1 z20 x14))).bind fun y21 =>
      some y21).bind fun c22 =>
      if c22 then
        some (.br (.inr false))
      else
        some (.nx (wr (x_91 + 1)))
    else
      some (.br (.inl ()))
noncomputable def halls_isDay_j6 (h_ : Hall) (d : Day) : Option Bool :=
  (loopM (halls_isDay_L24 h_ d) (0)).bind fun
    | (.inl ()) => halls_isDay_j8
    | (.inr r') => some r'
noncomputable def halls_isDay_j31 (x_40 : Int) : Option (Out Int (Unit ⊕ Bool)) :=
  some (.nx (wr (x_40 + 1)))
noncomputable def halls_isDay_L14 (d : Day) (x_40 : Int) (x33 : Train) : Int → Option (Out Int (Unit ⊕ Bool))
  | x_69 =>
    if decide (x_69 < (List.length x33.Crowds : Int)) then
      (get x33.Crowds x_69).bind fun x48 =>
      (get d.People x_40).bind fun x51 =>
      (get x51 x_69).bind fun x52 =>
      if !(halls_in x52 x48.People) then
        some (.br (.inr false))
      else
        some (.nx (wr (x_69 + 1)))
    else
      some (.br (.inl ()))
noncomputable def halls_isDay_L16 (h_ : Hall) (d : Day) : Int → Option (Out Int (Unit ⊕ Bool))
  | x_40 =>
    if decide (x_40 < (List.length h_.Trains : Int)) then
      (get h_.Trains x_40).bind fun x33 =>
      (get d.At x_40).bind fun x37 =>
      (if !(halls_in x37 x33.At) then some true else (get d.People x_40).bind fun x38 =>
      some (decide (¬(List.length x38 : Int) = (List.length x33.Crowds : Int)))).bind fun c39 =>
      if c39 then
        some (.br (.inr false))
      else
        (loopM (halls_isDay_L14 d x_40 x33) (0)).bind fun
          | (.inl ()) => halls_isDay_j31 x_40
          | (.inr r') => some (.br (.inr r'))
    else
      some (.br (.inl ()))
noncomputable def halls_isDay (h_ : Hall) (d : Day) : Option Bool :=
  if ((decide (¬(List.length d.At : Int) = (List.length h_.Trains : Int))) || (decide (¬(List.length d.People : Int) = (List.length h_.Trains : Int)))) || (decide (¬(List.length d.Walks : Int) = (List.length h_.Combs : Int))) then
    some false
  else
    (loopM (halls_isDay_L16 h_ d) (0)).bind fun
      | (.inl ()) => halls_isDay_j6 h_ d
      | (.inr r') => some r'
def C_halls_isDay (O : Orac) : Prop := ∀ (h_ : Hall) (d : Day) (r : Bool) (hm0 : halls_isDay h_ d = some r), Fn O "newel/halls.isDay" [.agg [.fs 5 (List.map eComb h_.Combs), .fs 3 (List.map eTrain h_.Trains), .fs 3 (List.map eShift h_.Shifts), I h_.Until], .agg [.fs 1 (List.map eI d.At), .fs 1 (List.map eL_I d.People), .fs 1 (List.map eL_I d.Walks)]] (B r)

/- newel/halls.Play -/
noncomputable def halls_Play_j18 (rows_7_2 : List (List Int)) : Option ((List (List Int)) × Int) :=
  some (rows_7_2, 0)
noncomputable def halls_Play_j23 (x_101 : Int) (rows_7_3 : List (List Int)) : Option (Out ((List (List Int)) × Int) (((List (List Int))))) :=
  some (.nx (rows_7_3, wr (x_101 + 1)))
noncomputable def halls_Play_j30 (x_108 : Int) (rows_7_4 : List (List Int)) : Option (Out ((List (List Int)) × Int) (((List (List Int))))) :=
  some (.nx (rows_7_4, wr (x_108 + 1)))
noncomputable def halls_Play_j40 (h_ : Hall) (d : Day) (x_101 : Int) (x_108 : Int) (x34 : Int) (x38 : Int) (rows_7_4 : List (List Int)) : Option (Out ((List (List Int)) × Int) (((List (List Int))))) :=
  (get d.Walks x_108).bind fun x44 =>
  (rem x_101 (List.length x44 : Int)).bind fun q45 =>
  (get x44 q45).bind fun x46 =>
  (get h_.Combs x_108).bind fun x48 =>
  if (decide (0 ≤ x48.Next)) && (decide ((wr (x_101 + x46)) < h_.Until)) then
    (get rows_7_4 (wr (x_101 + x46))).bind fun x53 =>
    (get x53 x48.Next).bind fun x54 =>
    halls_Play_j30 x_108 (List.set rows_7_4 (Int.toNat (wr (x_101 + x46))) (List.set x53 (Int.toNat x48.Next) (wr (x54 + (mn x34 x38)))))
  else
    halls_Play_j30 x_108 rows_7_4
noncomputable def halls_Play_L44 (h_ : Hall) (d : Day) (open_12 : List (List Int)) (x_101 : Int) (x25 : List Int) : ((List (List Int)) × Int) → Option (Out ((List (List Int)) × Int) (((List (List Int)))))
  | (rows_7_3, x_108) =>
    if decide (x_108 < (List.length x25 : Int)) then
      (get rows_7_3 x_101).bind fun x33 =>
      (get x33 x_108).bind fun x34 =>
      (get open_12 x_108).bind fun x37 =>
      (get x37 x_101).bind fun x38 =>
      if decide ((wr (x_101 + 1)) < h_.Until) then
        (get rows_7_3 (wr (x_101 + 1))).bind fun x58 =>
        (get x58 x_108).bind fun x59 =>
        halls_Play_j40 h_ d x_101 x_108 x34 x38 (List.set rows_7_3 (Int.toNat (wr (x_101 + 1))) (List.set x58 (Int.toNat x_108) (wr (x59 + (wr (x34 - (mn x34 x38)))))))
      else
        halls_Play_j40 h_ d x_101 x_108 x34 x38 rows_7_3
    else
      some (.br rows_7_3)
noncomputable def halls_Play_L46 (h_ : Hall) (d : Day) (rows_7_1 : List (List Int)) (open_12 : List (List Int)) : ((List (List Int)) × Int) → Option (Out ((List (List Int)) × Int) (((List (List Int)))))
  | (rows_7_2, x_101) =>
    if decide (x_101 < (List.length rows_7_1 : Int)) then
      (get rows_7_2 x_101).bind fun x25 =>
      (loopM (halls_Play_L44 h_ d open_12 x_101 x25) (rows_7_2, 0)).bind fun rows_7_3 =>
      halls_Play_j23 x_101 rows_7_3
    else
      some (.br rows_7_2)
noncomputable def halls_Play_j16 (h_ : Hall) (d : Day) (rows_7_1 : List (List Int)) (open_12 : List (List Int)) : Option ((List (List Int)) × Int) :=
  (loopM (halls_Play_L46 h_ d rows_7_1 open_12) (rows_7_1, 0)).bind fun rows_7_2 =>
  halls_Play_j18 rows_7_2
noncomputable def halls_Play_L29 (h_ : Hall) : ((List (List Int)) × Int) → Option (Out ((List (List Int)) × Int) (((List (List Int)))))
  | (open_12, x_89) =>
    if decide (x_89 < (List.length h_.Combs : Int)) then
      (halls_rates h_ x_89).bind fun y68 =>
      (get open_12 x_89).bind fun x69 =>
      some (.nx ((List.set open_12 (Int.toNat x_89) y68), wr (x_89 + 1)))
    else
      some (.br open_12)
noncomputable def halls_Play_j12 (h_ : Hall) (d : Day) (rows_7_1 : List (List Int)) : Option ((List (List Int)) × Int) :=
  (mks 24 (List.length h_.Combs : Int) ([] : List Int)).bind fun l14 =>
  (loopM (halls_Play_L29 h_) (l14, 0)).bind fun open_12 =>
  halls_Play_j16 h_ d rows_7_1 open_12
noncomputable def halls_Play_j75 (x_45 : Int) (rows_7_2 : List (List Int)) : Option (Out ((List (List Int)) × Int) (((List (List Int))))) :=
  some (.nx (rows_7_2, wr (x_45 + 1)))
noncomputable def halls_Play_L20 (d : Day) (x_45 : Int) (x77 : Train) : ((List (List Int)) × Int) → Option (Out ((List (List Int)) × Int) (((List (List Int)))))
  | (rows_7_2, x_53) =>
    if decide (x_53 < (List.length x77.Crowds : Int)) then
      (get x77.Crowds x_53).bind fun x83 =>
      (get d.At x_45).bind fun x89 =>
      (get rows_7_2 x89).bind fun x90 =>
      (get x90 x83.Comb).bind fun x91 =>
      (get d.People x_45).bind fun x92 =>
      (get x92 x_53).bind fun x93 =>
      some (.nx ((List.set rows_7_2 (Int.toNat x89) (List.set x90 (Int.toNat x83.Comb) (wr (x91 + x93)))), wr (x_53 + 1)))
    else
      some (.br rows_7_2)
noncomputable def halls_Play_L22 (h_ : Hall) (d : Day) : ((List (List Int)) × Int) → Option (Out ((List (List Int)) × Int) (((List (List Int)))))
  | (rows_7_1, x_45) =>
    if decide (x_45 < (List.length h_.Trains : Int)) then
      (get h_.Trains x_45).bind fun x77 =>
      (loopM (halls_Play_L20 d x_45 x77) (rows_7_1, 0)).bind fun rows_7_2 =>
      halls_Play_j75 x_45 rows_7_2
    else
      some (.br rows_7_1)
noncomputable def halls_Play_j10 (h_ : Hall) (d : Day) (rows_7 : List (List Int)) : Option ((List (List Int)) × Int) :=
  (loopM (halls_Play_L22 h_ d) (rows_7, 0)).bind fun rows_7_1 =>
  halls_Play_j12 h_ d rows_7_1
noncomputable def halls_Play_L11 (h_ : Hall) : ((List (List Int)) × Int) → Option (Out ((List (List Int)) × Int) (((List (List Int)))))
  | (rows_7, x_32) =>
    if decide (x_32 < h_.Until) then
      (mks 8 (List.length h_.Combs : Int) 0).bind fun l102 =>
      (ap 24 rows_7 ([l102])).bind fun l103 =>
      some (.nx (l103, wr (x_32 + 1)))
    else
      some (.br rows_7)
noncomputable def halls_Play (h_ : Hall) (d : Day) : Option ((List (List Int)) × Int) :=
  (halls_Check h_).bind fun y2 =>
  if decide (¬y2 = 0) then
    some ([], y2)
  else
    (halls_isDay h_ d).bind fun y6 =>
    if !y6 then
      some ([], 61)
    else
      (loopM (halls_Play_L11 h_) ([], 0)).bind fun rows_7 =>
      halls_Play_j10 h_ d rows_7
def C_halls_Play (O : Orac) : Prop := ∀ (h_ : Hall) (d : Day) (r : (List (List Int)) × Int) (hm0 : halls_Play h_ d = some r), Fn O "newel/halls.Play" [.agg [.fs 5 (List.map eComb h_.Combs), .fs 3 (List.map eTrain h_.Trains), .fs 3 (List.map eShift h_.Shifts), I h_.Until], .agg [.fs 1 (List.map eI d.At), .fs 1 (List.map eL_I d.People), .fs 1 (List.map eL_I d.Walks)]] (.tup [.fs 1 (List.map eL_I r.1), I r.2])

/- newel/newelref06.Fits -/
noncomputable def r06_Fits_j8 : Option Bool :=
  some true
noncomputable def r06_Fits_j13 (i_8 : Int) : Option (Out Int (Unit ⊕ Bool)) :=
  some (.nx (wr (i_8 + 1)))
noncomputable def r06_Fits_L25 (h_ : Hall) (d : Day) (i_8 : Int) : Int → Option (Out Int (Unit ⊕ Bool))
  | k_9 =>
    (get d.Walks i_8).bind fun x20 =>
    if decide (k_9 < (List.length x20 : Int)) then
      (get x20 k_9).bind fun x26 =>
      (get h_.Combs i_8).bind fun x27 =>
      if !(r06_within x26 x27.Walk.Low x27.Walk.High) then
        some (.br (.inr false))
      else
        some (.nx (wr (k_9 + 1)))
    else
      some (.br (.inl ()))
noncomputable def r06_Fits_L27 (h_ : Hall) (d : Day) : Int → Option (Out Int (Unit ⊕ Bool))
  | i_8 =>
    if decide (i_8 < (List.length h_.Combs : Int)) then
      (get d.Walks i_8).bind fun x15 =>
      if !(r06_within (List.length x15 : Int) 1 20) then
        some (.br (.inr false))
      else
        (loopM (r06_Fits_L25 h_ d i_8) (0)).bind fun
          | (.inl ()) => r06_Fits_j13 i_8
          | (.inr r') => some (.br (.inr r'))
    else
      some (.br (.inl ()))
noncomputable def r06_Fits_j6 (h_ : Hall) (d : Day) : Option Bool :=
  (loopM (r06_Fits_L27 h_ d) (0)).bind fun
    | (.inl ()) => r06_Fits_j8
    | (.inr r') => some r'
noncomputable def r06_Fits_j35 (i_5 : Int) : Option (Out Int (Unit ⊕ Bool)) :=
  some (.nx (wr (i_5 + 1)))
noncomputable def r06_Fits_L13 (d : Day) (i_5 : Int) (x37 : Train) : Int → Option (Out Int (Unit ⊕ Bool))
  | k_7 =>
    if decide (k_7 < (List.length x37.Crowds : Int)) then
      (get d.People i_5).bind fun x54 =>
      (get x54 k_7).bind fun x55 =>
      (get x37.Crowds k_7).bind fun x56 =>
      if !(r06_within x55 x56.People.Low x56.People.High) then
        some (.br (.inr false))
      else
        some (.nx (wr (k_7 + 1)))
    else
      some (.br (.inl ()))
noncomputable def r06_Fits_L15 (h_ : Hall) (d : Day) : Int → Option (Out Int (Unit ⊕ Bool))
  | i_5 =>
    if decide (i_5 < (List.length h_.Trains : Int)) then
      (get h_.Trains i_5).bind fun x37 =>
      (get d.At i_5).bind fun x41 =>
      (if !(r06_within x41 x37.At.Low x37.At.High) then some true else (get d.People i_5).bind fun x42 =>
      some (decide (¬(List.length x42 : Int) = (List.length x37.Crowds : Int)))).bind fun c43 =>
      if c43 then
        some (.br (.inr false))
      else
        (loopM (r06_Fits_L13 d i_5 x37) (0)).bind fun
          | (.inl ()) => r06_Fits_j35 i_5
          | (.inr r') => some (.br (.inr r'))
    else
      some (.br (.inl ()))
noncomputable def r06_Fits (h_ : Hall) (d : Day) : Option Bool :=
  if ((decide (¬(List.length d.At : Int) = (List.length h_.Trains : Int))) || (decide (¬(List.length d.People : Int) = (List.length h_.Trains : Int)))) || (decide (¬(List.length d.Walks : Int) = (List.length h_.Combs : Int))) then
    some false
  else
    (loopM (r06_Fits_L15 h_ d) (0)).bind fun
      | (.inl ()) => r06_Fits_j6 h_ d
      | (.inr r') => some r'
def C_r06_Fits (O : Orac) : Prop := ∀ (h_ : Hall) (d : Day) (r : Bool) (hm0 : r06_Fits h_ d = some r), Fn O "newel/newelref06.Fits" [.agg [.fs 5 (List.map eComb h_.Combs), .fs 3 (List.map eTrain h_.Trains), .fs 3 (List.map eShift h_.Shifts), I h_.Until], .agg [.fs 1 (List.map eI d.At), .fs 1 (List.map eL_I d.People), .fs 1 (List.map eL_I d.Walks)]] (B r)

/- newel/newellaw06.HallsKept -/
/- newel/newellaw06.HallsWithin -/
noncomputable def l06_HallsWithin_j33 (h_ : Hall) (w_ : l06_Window) (sum_14 : Int) : Option Bool :=
  (halls_Come h_ w_.Comb w_.From w_.To).bind fun y35 =>
  (if (decide (y35.2 = 1)) || ((decide (y35.2 = 0)) && (decide (sum_14 ≤ y35.1))) then (l06_works).bind fun y38 =>
  some y38 else some false).bind fun c39 =>
  some c39
noncomputable def l06_HallsWithin_j65 (w_ : l06_Window) (y20 : (List (List Int)) × Int) (y24 : (List Int) × Int) (t_15 : Int) (sum_14_1 : Int) : Option (Out (Int × Int × Int) (Int ⊕ Bool)) :=
  (get y20.1 t_15).bind fun x69 =>
  (get x69 w_.Comb).bind fun x70 =>
  (get y24.1 t_15).bind fun x71 =>
  some (.nx (mx 0 (wr (x70 - x71)), sum_14_1, wr (t_15 + 1)))
noncomputable def l06_HallsWithin_L17 (h_ : Hall) (w_ : l06_Window) (y20 : (List (List Int)) × Int) (y22 : (List Int) × Int) (y24 : (List Int) × Int) : (Int × Int × Int) → Option (Out (Int × Int × Int) (Int ⊕ Bool))
  | (left_13, sum_14, t_15) =>
    if decide (t_15 < h_.Until) then
      (get y20.1 t_15).bind fun x53 =>
      (if decide (¬(List.length x53 : Int) = (List.length h_.Combs : Int)) then some true else (get x53 w_.Comb).bind fun x54 =>
      (get y22.1 t_15).bind fun x55 =>
      some (decide (x55 < x54))).bind fun c56 =>
      (if c56 then some true else (get x53 w_.Comb).bind fun x57 =>
      some (decide (x57 < left_13))).bind fun c58 =>
      if c58 then
        some (.br (.inr false))
      else
        if (decide (w_.From ≤ t_15)) && (decide (t_15 ≤ w_.To)) then
          (get x53 w_.Comb).bind fun x74 =>
          l06_HallsWithin_j65 w_ y20 y24 t_15 (wr (sum_14 + (wr (x74 - left_13))))
        else
          l06_HallsWithin_j65 w_ y20 y24 t_15 sum_14
    else
      some (.br (.inl sum_14))
noncomputable def l06_HallsWithin (h_ : Hall) (d : Day) (w_ : l06_Window) : Option Bool :=
  (l06_Far h_).bind fun y6 =>
  (if y6 then some true else (r06_Check h_).bind fun y7 =>
  some (decide (¬y7 = 0))).bind fun c8 =>
  (if c8 then some true else (r06_Fits h_ d).bind fun y9 =>
  some (!y9)).bind fun c10 =>
  if (c10 || (decide (w_.Comb < 0))) || (decide ((List.length h_.Combs : Int) ≤ w_.Comb)) then
    (l06_works).bind fun y18 =>
    some y18
  else
    (halls_Play h_ d).bind fun y20 =>
    (halls_Most h_ w_.Comb).bind fun y22 =>
    (halls_Rates h_ w_.Comb).bind fun y24 =>
    if (((((decide (¬y20.2 = 0)) || (decide (¬y22.2 = 0))) || (decide (¬y24.2 = 0))) || (decide (¬(List.length y20.1 : Int) = h_.Until))) || (decide (¬(List.length y22.1 : Int) = h_.Until))) || (decide (¬(List.length y24.1 : Int) = h_.Until)) then
      some false
    else
      (loopM (l06_HallsWithin_L17 h_ w_ y20 y22 y24) (0, 0, 0)).bind fun
        | (.inl sum_14) => l06_HallsWithin_j33 h_ w_ sum_14
        | (.inr r') => some r'
def C_l06_HallsWithin (O : Orac) : Prop := ∀ (h_ : Hall) (d : Day) (w_ : l06_Window) (r : Bool) (hm0 : l06_HallsWithin h_ d w_ = some r), Fn O "newel/newellaw06.HallsWithin" [.agg [.fs 5 (List.map eComb h_.Combs), .fs 3 (List.map eTrain h_.Trains), .fs 3 (List.map eShift h_.Shifts), I h_.Until], .agg [.fs 1 (List.map eI d.At), .fs 1 (List.map eL_I d.People), .fs 1 (List.map eL_I d.Walks)], .agg [I w_.Comb, I w_.From, I w_.To]] (B r)

end Go.Nw.HM
