/- Models of functions: printed by gen.py. -/
import Derived.Test.YtkoonfmgmgfmdaaDoorNwWcall
import Derived.Test.YtkoonfmgmgfmdaaDoorNwTopSrc
set_option linter.all false
set_option linter.unusedVariables false
set_option linter.unusedSimpArgs false
set_option linter.unusedSectionVars false
namespace Go.Nw.TM
open Go.Nw.Top
set_option linter.unusedSimpArgs false
set_option linter.unusedVariables false
set_option maxHeartbeats 4000000
theorem lA9 {α : Type} {l m : List α} : (l ++ m).length = l.length + m.length := List.length_append
theorem mA9 {α β : Type} {f : α → β} {l m : List α} : List.map f (l ++ m) = List.map f l ++ List.map f m := List.map_append
theorem oF9 {a b : Bool} : (a || b) = false ↔ a = false ∧ b = false := Bool.or_eq_false_iff
theorem nF9 : (¬False) = True := not_false_eq_true
theorem bF9 {α : Type} [BEq α] [LawfulBEq α] {a b : α} : (a == b) = false ↔ a ≠ b := beq_eq_false_iff_ne
theorem sI9 {α : Type} {a b : α} (h : some a = some b) : a = b := Option.some.inj h
variable {O : Orac}
structure Band where
  Up : Bool
  Pull : Int
  Drag : Int
  Body : Int
  Ride : Int
  Most : Int
  Paces : List Int
  Num : Int
  Den : Int
  deriving Inhabited, DecidableEq
structure Span where
  Low : Int
  High : Int
  deriving Inhabited, DecidableEq
structure Period where
  Lasts : Int
  Price : Int
  Flow : Span
  deriving Inhabited, DecidableEq
structure Times where
  Periods : List Period
  Peak : Int
  deriving Inhabited, DecidableEq
@[go_sem] def d3y (x : Period) : List AV := [I x.Lasts, I x.Price, I x.Flow.Low, I x.Flow.High]
@[go_sem] theorem m9q {l : List Period} {n : Nat} {a0 : Int} {a1 : Int} {a2 : Int} {a3 : Int} : (List.map d3y l).set n [I a0, I a1, I a2, I a3] = List.map d3y (l.set n (Period.mk a0 a1 (Span.mk a2 a3))) := by rw [List.map_set]; rfl
noncomputable def d16 : Option Int :=
  some (-1)
noncomputable def d9d (s : List Int) (f : Int → Option Bool) : Int → Option (Out Int (Unit ⊕ Int))
  | x_8 =>
    if decide (x_8 < (List.length s : Int)) then
      (get s x_8).bind fun x9 =>
      (f x9).bind fun y10 =>
      if y10 then
        some (.br (.inr x_8))
      else
        some (.nx (wr (x_8 + 1)))
    else
      some (.br (.inl ()))
noncomputable def d15 (s : List Int) (f : Int → Option Bool) : Option Int :=
  (b07 (d9d s f) (0)).bind fun
    | (.inl ()) => d16
    | (.inr r') => some r'
def c8h (O : Orac) : Prop := ∀ (s : List Int) (f_n : String) (f_a f_b : List AV) (f : Int → Option Bool) (f_z : Frz (.fn f_n f_a f_b)) (f_h : ∀ z0 y, f z0 = some y → Fn O f_n (f_a ++ [I z0] ++ f_b) (B y)) (r : Int) (hm0 : d15 s f = some r), Fn O "slices.IndexFunc[[]int,int]" [.fs 1 (List.map eI s), .fn f_n f_a f_b] (I r)
noncomputable def c3s (s : List Int) (f : Int → Option Bool) : Option Bool :=
  (d15 s f).bind fun y2 =>
  some (decide (0 ≤ y2))
def c38 (O : Orac) : Prop := ∀ (s : List Int) (f_n : String) (f_a f_b : List AV) (f : Int → Option Bool) (f_z : Frz (.fn f_n f_a f_b)) (f_h : ∀ z0 y, f z0 = some y → Fn O f_n (f_a ++ [I z0] ++ f_b) (B y)) (r : Bool) (hm0 : c3s s f = some r), Fn O "slices.ContainsFunc[[]int,int]" [.fs 1 (List.map eI s), .fn f_n f_a f_b] (B r)
def c3a : Option Bool := some true
def d2h (O : Orac) : Prop := ∀ (r : Bool) (hm0 : c3a = some r), Fn O "newel/neweltop.measures" [] (B r)
noncomputable def b49 (n : Int) (low : Int) (high : Int) : Bool :=
  (decide (low ≤ n)) && (decide (n ≤ high))
def c8d (O : Orac) : Prop := ∀ (n : Int) (low : Int) (high : Int), Fn O "newel/newelref10.from" [I n, I low, I high] (B (b49 n low high))
structure Reading where
  Says : Int
  Error : Int
  Drift : Int
  Days : Int
  deriving Inhabited, DecidableEq
@[go_sem] def b17 (x : Reading) : List AV := [I x.Says, I x.Error, I x.Drift, I x.Days]
theorem b6k (x : Reading) : ∀ c ∈ b17 x, Frz c := (b0e (b0g _) (b0e (b0g _) (b0e (b0g _) (b0e (b0g _) b0x))))
theorem d7d (x : Reading) : (b17 x).length = 4 := rfl
@[go_sem] theorem m9r {l : List Reading} {n : Nat} {a0 : Int} {a1 : Int} {a2 : Int} {a3 : Int} : (List.map b17 l).set n [I a0, I a1, I a2, I a3] = List.map b17 (l.set n (Reading.mk a0 a1 a2 a3)) := by rw [List.map_set]; rfl
noncomputable def d1p : Option Int :=
  some 0
noncomputable def c02 (l : List Reading) : Int → Option (Out Int (Unit ⊕ Int))
  | i_3 =>
    if decide (i_3 < (List.length l : Int)) then
      (get l i_3).bind fun x10 =>
      if (((!(b49 x10.Says (-100000) 100000)) || (!(b49 x10.Error 0 1000))) || (!(b49 x10.Drift 0 1000))) || (!(b49 x10.Days 0 1000)) then
        some (.br (.inr 100))
      else
        some (.nx (wr (i_3 + 1)))
    else
      some (.br (.inl ()))
noncomputable def b8v (l : List Reading) : Option Int :=
  if decide (12 < (List.length l : Int)) then
    some 2
  else
    (b07 (c02 l) (0)).bind fun
      | (.inl ()) => d1p
      | (.inr r') => some r'
def c37 (O : Orac) : Prop := ∀ (l : List Reading) (r : Int) (hm0 : b8v l = some r), Fn O "newel/newelref10.Check" [.fs 4 (List.map b17 l)] (I r)
noncomputable def b6c (r_ : Reading) : Span :=
  (Span.mk (wr (r_.Says - (wr (r_.Error + (wr (r_.Drift * r_.Days)))))) (wr (r_.Says + (wr (r_.Error + (wr (r_.Drift * r_.Days)))))))
def c8c (O : Orac) : Prop := ∀ (r_ : Reading), Fn O "newel/newelref10.Allows" [.agg [I r_.Says, I r_.Error, I r_.Drift, I r_.Days]] (.agg [I ((b6c r_).Low), I ((b6c r_).High)])
noncomputable def d1d : Option Bool :=
  some true
noncomputable def c0s (l : List Reading) (n : Int) : Int → Option (Out Int (Unit ⊕ Bool))
  | i_5 =>
    if decide (i_5 < (List.length l : Int)) then
      (get l i_5).bind fun x16 =>
      if (decide (n < ((b6c x16).Low))) || (decide (((b6c x16).High) < n)) then
        some (.br (.inr false))
      else
        some (.nx (wr (i_5 + 1)))
    else
      some (.br (.inl ()))
noncomputable def c0r (l : List Reading) (n : Int) : Option Bool :=
  (if (decide ((List.length l : Int) = 0)) || (decide (8 < (List.length l : Int))) then some true else (b8v l).bind fun y3 =>
  some (decide (¬y3 = 0))).bind fun c4 =>
  if c4 then
    some false
  else
    (b07 (c0s l n) (0)).bind fun
      | (.inl ()) => d1d
      | (.inr r') => some r'
def c78 (O : Orac) : Prop := ∀ (l : List Reading) (n : Int) (r : Bool) (hm0 : c0r l n = some r), Fn O "newel/neweltop.allow" [.fs 4 (List.map b17 l), I n] (B r)
noncomputable def b4z (n : Int) (low : Int) (high : Int) : Bool :=
  (decide (low ≤ n)) && (decide (n ≤ high))
def c7q (O : Orac) : Prop := ∀ (n : Int) (low : Int) (high : Int), Fn O "newel/faults.within" [I n, I low, I high] (B (b4z n low high))
noncomputable def c9b : Option Int :=
  some 0
noncomputable def b9q (l : List Reading) : Int → Option (Out Int (Unit ⊕ Int))
  | x_10 =>
    if decide (x_10 < (List.length l : Int)) then
      (get l x_10).bind fun x10 =>
      if (((!(b4z x10.Says (-100000) 100000)) || (!(b4z x10.Error 0 1000))) || (!(b4z x10.Drift 0 1000))) || (!(b4z x10.Days 0 1000)) then
        some (.br (.inr 100))
      else
        some (.nx (wr (x_10 + 1)))
    else
      some (.br (.inl ()))
noncomputable def b8e (l : List Reading) : Option Int :=
  if decide (12 < (List.length l : Int)) then
    some 2
  else
    (b07 (b9q l) (0)).bind fun
      | (.inl ()) => c9b
      | (.inr r') => some r'
def c31 (O : Orac) : Prop := ∀ (l : List Reading) (r : Int) (hm0 : b8e l = some r), Fn O "newel/faults.readings" [.fs 4 (List.map b17 l)] (I r)
noncomputable def c87 (s_6_0 : Int) (s_6_1 : Int) : Option (Span × Bool) :=
  some ((Span.mk s_6_0 s_6_1), decide (s_6_0 ≤ s_6_1))
noncomputable def b9p (x_13 : Int) (s_6_0_1 : Int) (s_6_1_1 : Int) : Option (Out (Int × Int × Int) ((Int × Int))) :=
  some (.nx (s_6_0_1, s_6_1_1, wr (x_13 + 1)))
noncomputable def c1v (l : List Reading) (out : Int) : (Int × Int × Int) → Option (Out (Int × Int × Int) ((Int × Int)))
  | (s_6_0, s_6_1, x_13) =>
    if decide (x_13 < (List.length l : Int)) then
      (get l x_13).bind fun x9 =>
      (shr .i64 out x_13).bind fun q11 =>
      if decide ((b6y q11 1) = 0) then
        b9p x_13 (mx s_6_0 (wr (x9.Says - (wr (x9.Error + (wr (x9.Drift * x9.Days))))))) (mn s_6_1 (wr (x9.Says + (wr (x9.Error + (wr (x9.Drift * x9.Days)))))))
      else
        b9p x_13 s_6_0 s_6_1
    else
      some (.br (s_6_0, s_6_1))
noncomputable def b9o (l : List Reading) (out : Int) : Option (Span × Bool) :=
  (b07 (c1v l out) ((-1099511627776), 1099511627776, 0)).bind fun
    | (s_6_0, s_6_1) => c87 s_6_0 s_6_1
def c3z (O : Orac) : Prop := ∀ (l : List Reading) (out : Int) (r : Span × Bool) (hm0 : b9o l out = some r), Fn O "newel/faults.common" [.fs 4 (List.map b17 l), I out] (.tup [.agg [I r.1.Low, I r.1.High], B r.2])
noncomputable def b8d (l : List Reading) : Option (Span × Int) :=
  (b8e l).bind fun y2 =>
  if decide (¬y2 = 0) then
    some ((Span.mk 0 0), y2)
  else
    (b9o l 0).bind fun y6 =>
    if (decide ((List.length l : Int) = 0)) || (!y6.2) then
      some ((Span.mk 0 0), 3)
    else
      some (y6.1, 0)
def c7o (O : Orac) : Prop := ∀ (l : List Reading) (r : Span × Int) (hm0 : b8d l = some r), Fn O "newel/faults.Truth" [.fs 4 (List.map b17 l)] (.tup [.agg [I r.1.Low, I r.1.High], I r.2])
noncomputable def c24 (x : Int) : Option Int :=
  (shr .u64 x 1).bind fun q2 =>
  (shr .u64 (IntKind.wrap .u64 ((b1l .u64 q2 6148914691236517205) + (b1l .u64 x 6148914691236517205))) 2).bind fun q4 =>
  (shr .u64 (IntKind.wrap .u64 ((b1l .u64 q4 3689348814741910323) + (b1l .u64 (IntKind.wrap .u64 ((b1l .u64 q2 6148914691236517205) + (b1l .u64 x 6148914691236517205))) 3689348814741910323))) 4).bind fun q6 =>
  (shr .u64 (b1l .u64 (IntKind.wrap .u64 (q6 + (IntKind.wrap .u64 ((b1l .u64 q4 3689348814741910323) + (b1l .u64 (IntKind.wrap .u64 ((b1l .u64 q2 6148914691236517205) + (b1l .u64 x 6148914691236517205))) 3689348814741910323))))) 1085102592571150095) 8).bind fun q8 =>
  (shr .u64 (IntKind.wrap .u64 ((b1l .u64 (IntKind.wrap .u64 (q6 + (IntKind.wrap .u64 ((b1l .u64 q4 3689348814741910323) + (b1l .u64 (IntKind.wrap .u64 ((b1l .u64 q2 6148914691236517205) + (b1l .u64 x 6148914691236517205))) 3689348814741910323))))) 1085102592571150095) + q8)) 16).bind fun q10 =>
  (shr .u64 (IntKind.wrap .u64 ((IntKind.wrap .u64 ((b1l .u64 (IntKind.wrap .u64 (q6 + (IntKind.wrap .u64 ((b1l .u64 q4 3689348814741910323) + (b1l .u64 (IntKind.wrap .u64 ((b1l .u64 q2 6148914691236517205) + (b1l .u64 x 6148914691236517205))) 3689348814741910323))))) 1085102592571150095) + q8)) + q10)) 32).bind fun q12 =>
  some (b6y (IntKind.wrap .i64 (IntKind.wrap .u64 ((IntKind.wrap .u64 ((IntKind.wrap .u64 ((b1l .u64 (IntKind.wrap .u64 (q6 + (IntKind.wrap .u64 ((b1l .u64 q4 3689348814741910323) + (b1l .u64 (IntKind.wrap .u64 ((b1l .u64 q2 6148914691236517205) + (b1l .u64 x 6148914691236517205))) 3689348814741910323))))) 1085102592571150095) + q8)) + q10)) + q12))) 127)
def c75 (O : Orac) : Prop := ∀ (x : Int) (r : Int) (hm0 : c24 x = some r), Fn O "math/bits.OnesCount64" [.v (.int .u64 x)] (I r)
noncomputable def b8p (x : Int) : Option Int :=
  (c24 x).bind fun y3 =>
  some y3
def c74 (O : Orac) : Prop := ∀ (x : Int) (r : Int) (hm0 : b8p x = some r), Fn O "math/bits.OnesCount" [.v (.int .u64 x)] (I r)
noncomputable def c26 (x : Int) : Option Int :=
  if decide (x = 0) then
    some 64
  else
    (shr .u64 (IntKind.wrap .u64 ((b1l .u64 x (IntKind.wrap .u64 (0 - x))) * 285870213051353865)) 58).bind fun q5 =>
    (get gl_1 q5).bind fun x6 =>
    some (IntKind.wrap .i64 x6)
def c77 (O : Orac) : Prop := ∀ (x : Int) (r : Int) (hm0 : c26 x = some r), Fn O "math/bits.TrailingZeros64" [.v (.int .u64 x)] (I r)
noncomputable def c25 (x : Int) : Option Int :=
  (c26 x).bind fun y3 =>
  some y3
def c76 (O : Orac) : Prop := ∀ (x : Int) (r : Int) (hm0 : c25 x = some r), Fn O "math/bits.TrailingZeros" [.v (.int .u64 x)] (I r)
noncomputable def c1x (l_3 : List Int) : Option (List Int) :=
  some l_3
noncomputable def c4w : (Int × (List Int)) → Option (Out (Int × (List Int)) (((List Int))))
  | (set_0, l_3) =>
    if decide (¬set_0 = 0) then
      (c25 (IntKind.wrap .u64 set_0)).bind fun y9 =>
      (ap 8 l_3 ([y9])).bind fun l10 =>
      some (.nx (b6y set_0 (wr (set_0 - 1)), l10))
    else
      some (.br l_3)
noncomputable def b63 (set : Int) : Option (List Int) :=
  (b07 (c4w) (set, [])).bind fun l_3 =>
  c1x l_3
def c30 (O : Orac) : Prop := ∀ (set : Int) (r : List Int) (hm0 : b63 set = some r), Fn O "newel/faults.members" [I set] (.fs 1 (List.map eI r))
noncomputable def b6i (x : Int) : Bool :=
  decide (¬x = x)
def c7m (O : Orac) : Prop := ∀ (x : Int), Fn O "cmp.isNaN[int]" [I x] (B (b6i x))
noncomputable def b6h (x : Int) (y : Int) : Int :=
  if (b6i x) then
    if (b6i y) then
      0
    else
      (-1)
  else
    if (b6i y) then
      1
    else
      if decide (x < y) then
        (-1)
      else
        if decide (y < x) then
          1
        else
          0
def c7l (O : Orac) : Prop := ∀ (x : Int) (y : Int), Fn O "cmp.Compare[int]" [I x, I y] (I (b6h x y))
noncomputable def c66 (s1_ : List Int) (s2_ : List Int) : Option Int :=
  if decide ((List.length s1_ : Int) < (List.length s2_ : Int)) then
    some (-1)
  else
    some 0
noncomputable def c06 (s1_ : List Int) (s2_ : List Int) : Int → Option (Out Int (Unit ⊕ Int))
  | x_11 =>
    if decide (x_11 < (List.length s1_ : Int)) then
      (get s1_ x_11).bind fun x10 =>
      if decide ((List.length s2_ : Int) ≤ x_11) then
        some (.br (.inr 1))
      else
        (get s2_ x_11).bind fun x14 =>
        if decide (¬(b6h x10 x14) = 0) then
          some (.br (.inr (b6h x10 x14)))
        else
          some (.nx (wr (x_11 + 1)))
    else
      some (.br (.inl ()))
noncomputable def c3r (s1_ : List Int) (s2_ : List Int) : Option Int :=
  (b07 (c06 s1_ s2_) (0)).bind fun
    | (.inl ()) => c66 s1_ s2_
    | (.inr r') => some r'
def c8e (O : Orac) : Prop := ∀ (s1_ : List Int) (s2_ : List Int) (r : Int) (hm0 : c3r s1_ s2_ = some r), Fn O "slices.Compare[[]int,int]" [.fs 1 (List.map eI s1_), .fs 1 (List.map eI s2_)] (I r)
noncomputable def c1w (a : Int) (b : Int) : Option Bool :=
  (b8p (IntKind.wrap .u64 a)).bind fun y3 =>
  (b8p (IntKind.wrap .u64 b)).bind fun y4 =>
  if decide (¬y3 = y4) then
    some (decide (y3 < y4))
  else
    (b63 a).bind fun y10 =>
    (b63 b).bind fun y11 =>
    (c3r y10 y11).bind fun y12 =>
    some (decide (y12 < 0))
def c7p (O : Orac) : Prop := ∀ (a : Int) (b : Int) (r : Bool) (hm0 : c1w a b = some r), Fn O "newel/faults.fewer" [I a, I b] (B r)
noncomputable def c4v (best_5 : Int) : Option ((List Int) × Int) :=
  (b63 best_5).bind fun y10 =>
  some (y10, 0)
noncomputable def b8c (x_19 : Int) (best_5_1 : Int) : Option (Out (Int × Int) Int) :=
  some (.nx (best_5_1, wr (x_19 + 1)))
noncomputable def c1u (l : List Reading) (q6 : Int) : (Int × Int) → Option (Out (Int × Int) Int)
  | (best_5, x_19) =>
    if decide (x_19 < (wr (q6 - 1))) then
      (b9o l x_19).bind fun y17 =>
      (if y17.2 then (c1w x_19 best_5).bind fun y20 =>
      some y20 else some false).bind fun c21 =>
      if c21 then
        b8c x_19 x_19
      else
        b8c x_19 best_5
    else
      some (.br best_5)
noncomputable def b9n (l : List Reading) : Option ((List Int) × Int) :=
  (b8e l).bind fun y2 =>
  if decide (¬y2 = 0) then
    some ([], y2)
  else
    (shl .i64 1 (List.length l : Int)).bind fun q6 =>
    (b07 (c1u l q6) (wr (q6 - 1), 0)).bind fun best_5 =>
    c4v best_5
def c7n (O : Orac) : Prop := ∀ (l : List Reading) (r : (List Int) × Int) (hm0 : b9n l = some r), Fn O "newel/faults.Liars" [.fs 4 (List.map b17 l)] (.tup [.fs 1 (List.map eI r.1), I r.2])
structure neweltop_Metered where
  Period : Int
  Flow : Int
  Readings : List Reading
  deriving Inhabited, DecidableEq
structure Comb where
  Rate : Int
  Limit : Int
  Next : Int
  Walk : Span
  deriving Inhabited, DecidableEq
structure Crowd where
  Comb : Int
  People : Span
  deriving Inhabited, DecidableEq
structure Train where
  At : Span
  Crowds : List Crowd
  deriving Inhabited, DecidableEq
structure Shift where
  At : Int
  Comb : Int
  Rate : Int
  deriving Inhabited, DecidableEq
structure Hall where
  Combs : List Comb
  Trains : List Train
  Shifts : List Shift
  Until : Int
  deriving Inhabited, DecidableEq
@[go_sem] def b0u (x : Comb) : List AV := [I x.Rate, I x.Limit, I x.Next, I x.Walk.Low, I x.Walk.High]
theorem b3h (x : Comb) : ∀ c ∈ b0u x, Frz c := (b0e (b0g _) (b0e (b0g _) (b0e (b0g _) (b0e (b0g _) (b0e (b0g _) b0x)))))
@[go_sem] theorem m9n {l : List Comb} {n : Nat} {a0 : Int} {a1 : Int} {a2 : Int} {a3 : Int} {a4 : Int} : (List.map b0u l).set n [I a0, I a1, I a2, I a3, I a4] = List.map b0u (l.set n (Comb.mk a0 a1 a2 (Span.mk a3 a4))) := by rw [List.map_set]; rfl
@[go_sem] def b2m (x : Crowd) : List AV := [I x.Comb, I x.People.Low, I x.People.High]
theorem c9k (x : Crowd) : ∀ c ∈ b2m x, Frz c := (b0e (b0g _) (b0e (b0g _) (b0e (b0g _) b0x)))
@[go_sem] theorem m9o {l : List Crowd} {n : Nat} {a0 : Int} {a1 : Int} {a2 : Int} : (List.map b2m l).set n [I a0, I a1, I a2] = List.map b2m (l.set n (Crowd.mk a0 (Span.mk a1 a2))) := by rw [List.map_set]; rfl
@[go_sem] def b0r (x : Train) : List AV := [I x.At.Low, I x.At.High, .fs 3 (List.map b2m x.Crowds)]
theorem b3b (x : Train) : ∀ c ∈ b0r x, Frz c := (b0e (b0g _) (b0e (b0g _) (b0e (b0w fun a _ => c9k a) b0x)))
@[go_sem] theorem m9t {l : List Train} {n : Nat} {a0 : Int} {a1 : Int} {a2 : List Crowd} : (List.map b0r l).set n [I a0, I a1, .fs 3 (List.map b2m a2)] = List.map b0r (l.set n (Train.mk (Span.mk a0 a1) a2)) := by rw [List.map_set]; rfl
@[go_sem] def b0v (x : Shift) : List AV := [I x.At, I x.Comb, I x.Rate]
theorem b3i (x : Shift) : ∀ c ∈ b0v x, Frz c := (b0e (b0g _) (b0e (b0g _) (b0e (b0g _) b0x)))
@[go_sem] theorem m9s {l : List Shift} {n : Nat} {a0 : Int} {a1 : Int} {a2 : Int} : (List.map b0v l).set n [I a0, I a1, I a2] = List.map b0v (l.set n (Shift.mk a0 a1 a2)) := by rw [List.map_set]; rfl
noncomputable def d0v : Option Bool :=
  some false
noncomputable def c0m (h_ : Hall) : Int → Option (Out Int (Unit ⊕ Bool))
  | i_3 =>
    if decide (i_3 < (List.length h_.Trains : Int)) then
      (get h_.Trains i_3).bind fun x14 =>
      if decide (10 < (List.length x14.Crowds : Int)) then
        some (.br (.inr true))
      else
        some (.nx (wr (i_3 + 1)))
    else
      some (.br (.inl ()))
noncomputable def c2x (h_ : Hall) : Option Bool :=
  if (((decide (12 < (List.length h_.Combs : Int))) || (decide (20 < (List.length h_.Trains : Int)))) || (decide (40 < (List.length h_.Shifts : Int)))) || ((decide (40 < h_.Until)) && (decide (h_.Until ≤ 100))) then
    some true
  else
    (b07 (c0m h_) (0)).bind fun
      | (.inl ()) => d0v
      | (.inr r') => some r'
def c73 (O : Orac) : Prop := ∀ (h_ : Hall) (r : Bool) (hm0 : c2x h_ = some r), Fn O "newel/newellaw06.Far" [.agg [.fs 5 (List.map b0u h_.Combs), .fs 3 (List.map b0r h_.Trains), .fs 3 (List.map b0v h_.Shifts), I h_.Until]] (B r)
noncomputable def b2b (n : Int) (low : Int) (high : Int) : Bool :=
  (decide (low ≤ n)) && (decide (n ≤ high))
def c36 (O : Orac) : Prop := ∀ (n : Int) (low : Int) (high : Int), Fn O "newel/newelref06.within" [I n, I low, I high] (B (b2b n low high))
noncomputable def b38 (s : Span) (low : Int) (high : Int) : Bool :=
  ((decide (low ≤ s.Low)) && (decide (s.Low ≤ s.High))) && (decide (s.High ≤ high))
def c8b (O : Orac) : Prop := ∀ (s : Span) (low : Int) (high : Int), Fn O "newel/newelref06.spanned" [.agg [I s.Low, I s.High], I low, I high] (B (b38 s low high))
noncomputable def d1n : Option Int :=
  some 0
noncomputable def c0y (h_ : Hall) : Int → Option (Out Int (Unit ⊕ Int))
  | i_10 =>
    if decide (i_10 < (List.length h_.Shifts : Int)) then
      (get h_.Shifts i_10).bind fun x17 =>
      (if ((!(b2b x17.At 0 (wr (h_.Until - 1)))) || (!(b2b x17.Comb 0 (wr ((List.length h_.Combs : Int) - 1))))) || (!(b2b x17.Rate 0 1000)) then some true else (if decide (0 < i_10) then (get h_.Shifts (wr (i_10 - 1))).bind fun x21 =>
      some (decide (x17.At < x21.At)) else some false).bind fun c22 =>
      some c22).bind fun c23 =>
      if c23 then
        some (.br (.inr 60))
      else
        some (.nx (wr (i_10 + 1)))
    else
      some (.br (.inl ()))
noncomputable def c6r (h_ : Hall) : Option Int :=
  (b07 (c0y h_) (0)).bind fun
    | (.inl ()) => d1n
    | (.inr r') => some r'
noncomputable def c6p (i_6 : Int) : Option (Out Int (Unit ⊕ Int)) :=
  some (.nx (wr (i_6 + 1)))
noncomputable def b7m (h_ : Hall) (x36 : Train) : (Int × Int) → Option (Out (Int × Int) (Unit ⊕ Int))
  | (last_8, k_9) =>
    if decide (k_9 < (List.length x36.Crowds : Int)) then
      (get x36.Crowds k_9).bind fun x45 =>
      if (!(b2b x45.Comb (wr (last_8 + 1)) (wr ((List.length h_.Combs : Int) - 1)))) || (!(b38 x45.People 0 1000)) then
        some (.br (.inr 60))
      else
        some (.nx (x45.Comb, wr (k_9 + 1)))
    else
      some (.br (.inl ()))
noncomputable def c0x (h_ : Hall) : Int → Option (Out Int (Unit ⊕ Int))
  | i_6 =>
    if decide (i_6 < (List.length h_.Trains : Int)) then
      (get h_.Trains i_6).bind fun x36 =>
      if (!(b38 x36.At 0 (wr (h_.Until - 1)))) || (decide (4 < (List.length x36.Crowds : Int))) then
        some (.br (.inr 60))
      else
        (b07 (b7m h_ x36) ((-1), 0)).bind fun
          | (.inl ()) => c6p i_6
          | (.inr r') => some (.br (.inr r'))
    else
      some (.br (.inl ()))
noncomputable def c6q (h_ : Hall) : Option Int :=
  (b07 (c0x h_) (0)).bind fun
    | (.inl ()) => c6r h_
    | (.inr r') => some r'
noncomputable def c0w (h_ : Hall) : Int → Option (Out Int (Unit ⊕ Int))
  | i_4 =>
    if decide (i_4 < (List.length h_.Combs : Int)) then
      (get h_.Combs i_4).bind fun x56 =>
      if (((!(b2b x56.Rate 0 1000)) || (!(b2b x56.Limit 0 100000))) || ((decide (¬x56.Next = (-1))) && (!(b2b x56.Next (wr (i_4 + 1)) (wr ((List.length h_.Combs : Int) - 1)))))) || (!(b38 x56.Walk 1 20)) then
        some (.br (.inr 60))
      else
        some (.nx (wr (i_4 + 1)))
    else
      some (.br (.inl ()))
noncomputable def b5y (h_ : Hall) : Option Int :=
  if (((!(b2b h_.Until 1 100)) || (!(b2b (List.length h_.Combs : Int) 1 8))) || (decide (12 < (List.length h_.Trains : Int)))) || (decide (20 < (List.length h_.Shifts : Int))) then
    some 60
  else
    (b07 (c0w h_) (0)).bind fun
      | (.inl ()) => c6q h_
      | (.inr r') => some r'
def c79 (O : Orac) : Prop := ∀ (h_ : Hall) (r : Int) (hm0 : b5y h_ = some r), Fn O "newel/newelref06.Check" [.agg [.fs 5 (List.map b0u h_.Combs), .fs 3 (List.map b0r h_.Trains), .fs 3 (List.map b0v h_.Shifts), I h_.Until]] (I r)
structure Day where
  At : List Int
  People : List (List Int)
  Walks : List (List Int)
  deriving Inhabited, DecidableEq
@[go_sem] def b0s (x : List Int) : List AV := [.fs 1 (List.map eI x)]
theorem b41 (x : List Int) : ∀ c ∈ b0s x, Frz c := (b0e (b0w fun a _ => b2n a) b0x)
theorem j11 (x : List Int) : (b0s x).length = 1 := rfl
@[go_sem] theorem m9p {l : List (List Int)} {n : Nat} {a0 : List Int} : (List.map b0s l).set n [.fs 1 (List.map eI a0)] = List.map b0s (l.set n a0) := by rw [List.map_set]; rfl
noncomputable def d1o : Option Bool :=
  some true
noncomputable def c6s (i_8 : Int) : Option (Out Int (Unit ⊕ Bool)) :=
  some (.nx (wr (i_8 + 1)))
noncomputable def b7o (h_ : Hall) (d : Day) (i_8 : Int) : Int → Option (Out Int (Unit ⊕ Bool))
  | k_9 =>
    (get d.Walks i_8).bind fun x20 =>
    if decide (k_9 < (List.length x20 : Int)) then
      (get x20 k_9).bind fun x26 =>
      (get h_.Combs i_8).bind fun x27 =>
      if !(b2b x26 x27.Walk.Low x27.Walk.High) then
        some (.br (.inr false))
      else
        some (.nx (wr (k_9 + 1)))
    else
      some (.br (.inl ()))
noncomputable def c01 (h_ : Hall) (d : Day) : Int → Option (Out Int (Unit ⊕ Bool))
  | i_8 =>
    if decide (i_8 < (List.length h_.Combs : Int)) then
      (get d.Walks i_8).bind fun x15 =>
      if !(b2b (List.length x15 : Int) 1 20) then
        some (.br (.inr false))
      else
        (b07 (b7o h_ d i_8) (0)).bind fun
          | (.inl ()) => c6s i_8
          | (.inr r') => some (.br (.inr r'))
    else
      some (.br (.inl ()))
noncomputable def c6u (h_ : Hall) (d : Day) : Option Bool :=
  (b07 (c01 h_ d) (0)).bind fun
    | (.inl ()) => d1o
    | (.inr r') => some r'
noncomputable def c6t (i_5 : Int) : Option (Out Int (Unit ⊕ Bool)) :=
  some (.nx (wr (i_5 + 1)))
noncomputable def b7n (d : Day) (i_5 : Int) (x37 : Train) : Int → Option (Out Int (Unit ⊕ Bool))
  | k_7 =>
    if decide (k_7 < (List.length x37.Crowds : Int)) then
      (get d.People i_5).bind fun x54 =>
      (get x54 k_7).bind fun x55 =>
      (get x37.Crowds k_7).bind fun x56 =>
      if !(b2b x55 x56.People.Low x56.People.High) then
        some (.br (.inr false))
      else
        some (.nx (wr (k_7 + 1)))
    else
      some (.br (.inl ()))
noncomputable def c00 (h_ : Hall) (d : Day) : Int → Option (Out Int (Unit ⊕ Bool))
  | i_5 =>
    if decide (i_5 < (List.length h_.Trains : Int)) then
      (get h_.Trains i_5).bind fun x37 =>
      (get d.At i_5).bind fun x41 =>
      (if !(b2b x41 x37.At.Low x37.At.High) then some true else (get d.People i_5).bind fun x42 =>
      some (decide (¬(List.length x42 : Int) = (List.length x37.Crowds : Int)))).bind fun c43 =>
      if c43 then
        some (.br (.inr false))
      else
        (b07 (b7n d i_5 x37) (0)).bind fun
          | (.inl ()) => c6t i_5
          | (.inr r') => some (.br (.inr r'))
    else
      some (.br (.inl ()))
noncomputable def c0z (h_ : Hall) (d : Day) : Option Bool :=
  if ((decide (¬(List.length d.At : Int) = (List.length h_.Trains : Int))) || (decide (¬(List.length d.People : Int) = (List.length h_.Trains : Int)))) || (decide (¬(List.length d.Walks : Int) = (List.length h_.Combs : Int))) then
    some false
  else
    (b07 (c00 h_ d) (0)).bind fun
      | (.inl ()) => c6u h_ d
      | (.inr r') => some r'
def c8a (O : Orac) : Prop := ∀ (h_ : Hall) (d : Day) (r : Bool) (hm0 : c0z h_ d = some r), Fn O "newel/newelref06.Fits" [.agg [.fs 5 (List.map b0u h_.Combs), .fs 3 (List.map b0r h_.Trains), .fs 3 (List.map b0v h_.Shifts), I h_.Until], .agg [.fs 1 (List.map eI d.At), .fs 1 (List.map b0s d.People), .fs 1 (List.map b0s d.Walks)]] (B r)
noncomputable def b3a (n : Int) (s : Span) : Bool :=
  (decide (s.Low ≤ n)) && (decide (n ≤ s.High))
def b83 (O : Orac) : Prop := ∀ (n : Int) (s : Span), Fn O "newel/halls.in" [I n, .agg [I s.Low, I s.High]] (B (b3a n s))
noncomputable def b42 (s : Span) (low : Int) (high : Int) : Bool :=
  ((decide (low ≤ s.Low)) && (decide (s.Low ≤ s.High))) && (decide (s.High ≤ high))
def c35 (O : Orac) : Prop := ∀ (s : Span) (low : Int) (high : Int), Fn O "newel/halls.span" [.agg [I s.Low, I s.High], I low, I high] (B (b42 s low high))
noncomputable def c2j (h_ : Hall) (i : Int) : Option Bool :=
  (get h_.Combs i).bind fun x2 =>
  some ((((b3a x2.Rate (Span.mk 0 1000)) && (b3a x2.Limit (Span.mk 0 100000))) && ((decide (x2.Next = (-1))) || ((decide (i < x2.Next)) && (decide (x2.Next < (List.length h_.Combs : Int)))))) && (b42 x2.Walk 1 20))
def c7y (O : Orac) : Prop := ∀ (h_ : Hall) (i : Int) (r : Bool) (hm0 : c2j h_ i = some r), Fn O "newel/halls.isComb" [.agg [.fs 5 (List.map b0u h_.Combs), .fs 3 (List.map b0r h_.Trains), .fs 3 (List.map b0v h_.Shifts), I h_.Until], I i] (B r)
noncomputable def c5m (h_ : Hall) (t_ : Train) : Option Bool :=
  some ((b42 t_.At 0 (wr (h_.Until - 1))) && (decide ((List.length t_.Crowds : Int) ≤ 4)))
noncomputable def b7b (h_ : Hall) (t_ : Train) : (Int × Int) → Option (Out (Int × Int) (Unit ⊕ Bool))
  | (last_5, x_11) =>
    if decide (x_11 < (List.length t_.Crowds : Int)) then
      (get t_.Crowds x_11).bind fun x9 =>
      if ((decide (x9.Comb ≤ last_5)) || (decide ((List.length h_.Combs : Int) ≤ x9.Comb))) || (!(b42 x9.People 0 1000)) then
        some (.br (.inr false))
      else
        some (.nx (x9.Comb, wr (x_11 + 1)))
    else
      some (.br (.inl ()))
noncomputable def c2k (h_ : Hall) (t_ : Train) : Option Bool :=
  (b07 (b7b h_ t_) ((-1), 0)).bind fun
    | (.inl ()) => c5m h_ t_
    | (.inr r') => some r'
def c71 (O : Orac) : Prop := ∀ (h_ : Hall) (t_ : Train) (r : Bool) (hm0 : c2k h_ t_ = some r), Fn O "newel/halls.isTrain" [.agg [.fs 5 (List.map b0u h_.Combs), .fs 3 (List.map b0r h_.Trains), .fs 3 (List.map b0v h_.Shifts), I h_.Until], .agg [I t_.At.Low, I t_.At.High, .fs 3 (List.map b2m t_.Crowds)]] (B r)
noncomputable def b9t (t_ : Train) (c0 : Hall) : Option Bool :=
  (c2k c0 t_).bind fun y2 =>
  some (!y2)
def c7r (O : Orac) : Prop := ∀ (t_ : Train) (c0 : Hall) (r : Bool) (hm0 : b9t t_ c0 = some r), Fn O "newel/halls.Check$1" [.agg [I t_.At.Low, I t_.At.High, .fs 3 (List.map b2m t_.Crowds)], .fp [.fs 5 (List.map b0u c0.Combs), .fs 3 (List.map b0r c0.Trains), .fs 3 (List.map b0v c0.Shifts), I c0.Until] 0] (B r)
noncomputable def d14 : Option Int :=
  some (-1)
noncomputable def d9c (s : List Train) (f : Train → Option Bool) : Int → Option (Out Int (Unit ⊕ Int))
  | x_8 =>
    if decide (x_8 < (List.length s : Int)) then
      (get s x_8).bind fun x9 =>
      (f x9).bind fun y10 =>
      if y10 then
        some (.br (.inr x_8))
      else
        some (.nx (wr (x_8 + 1)))
    else
      some (.br (.inl ()))
noncomputable def d13 (s : List Train) (f : Train → Option Bool) : Option Int :=
  (b07 (d9c s f) (0)).bind fun
    | (.inl ()) => d14
    | (.inr r') => some r'
def c8g (O : Orac) : Prop := ∀ (s : List Train) (f_n : String) (f_a f_b : List AV) (f : Train → Option Bool) (f_z : Frz (.fn f_n f_a f_b)) (f_h : ∀ z0 y, f z0 = some y → Fn O f_n (f_a ++ [.agg [I z0.At.Low, I z0.At.High, .fs 3 (List.map b2m z0.Crowds)]] ++ f_b) (B y)) (r : Int) (hm0 : d13 s f = some r), Fn O "slices.IndexFunc[[]newel/api.Train,newel/api.Train]" [.fs 3 (List.map b0r s), .fn f_n f_a f_b] (I r)
noncomputable def c67 (s : List Train) (f : Train → Option Bool) : Option Bool :=
  (d13 s f).bind fun y2 =>
  some (decide (0 ≤ y2))
def c8f (O : Orac) : Prop := ∀ (s : List Train) (f_n : String) (f_a f_b : List AV) (f : Train → Option Bool) (f_z : Frz (.fn f_n f_a f_b)) (f_h : ∀ z0 y, f z0 = some y → Fn O f_n (f_a ++ [.agg [I z0.At.Low, I z0.At.High, .fs 3 (List.map b2m z0.Crowds)]] ++ f_b) (B y)) (r : Bool) (hm0 : c67 s f = some r), Fn O "slices.ContainsFunc[[]newel/api.Train,newel/api.Train]" [.fs 3 (List.map b0r s), .fn f_n f_a f_b] (B r)
noncomputable def c9n : Option Int :=
  some 0
noncomputable def b9u (h_ : Hall) : Int → Option (Out Int (Unit ⊕ Int))
  | x_56 =>
    if decide (x_56 < (List.length h_.Shifts : Int)) then
      (get h_.Shifts x_56).bind fun x23 =>
      (if (decide (x23.At < 0)) || (decide (h_.Until ≤ x23.At)) then some true else (if decide (0 < x_56) then (get h_.Shifts (wr (x_56 - 1))).bind fun x27 =>
      some (decide (x23.At < x27.At)) else some false).bind fun c28 =>
      some c28).bind fun c29 =>
      if ((c29 || (decide (x23.Comb < 0))) || (decide ((List.length h_.Combs : Int) ≤ x23.Comb))) || (!(b3a x23.Rate (Span.mk 0 1000))) then
        some (.br (.inr 60))
      else
        some (.nx (wr (x_56 + 1)))
    else
      some (.br (.inl ()))
noncomputable def c46 (h_ : Hall) : Option Int :=
  (c67 h_.Trains (fun z12 => b9t z12 h_)).bind fun y13 =>
  if y13 then
    some 60
  else
    (b07 (b9u h_) (0)).bind fun
      | (.inl ()) => c9n
      | (.inr r') => some r'
noncomputable def b9v (h_ : Hall) : Int → Option (Out Int (Unit ⊕ Int))
  | x_41 =>
    if decide (x_41 < (List.length h_.Combs : Int)) then
      (c2j h_ x_41).bind fun y45 =>
      if !y45 then
        some (.br (.inr 60))
      else
        some (.nx (wr (x_41 + 1)))
    else
      some (.br (.inl ()))
noncomputable def b5h (h_ : Hall) : Option Int :=
  if (((((decide (h_.Until < 1)) || (decide (100 < h_.Until))) || (decide ((List.length h_.Combs : Int) < 1))) || (decide (8 < (List.length h_.Combs : Int)))) || (decide (12 < (List.length h_.Trains : Int)))) || (decide (20 < (List.length h_.Shifts : Int))) then
    some 60
  else
    (b07 (b9v h_) (0)).bind fun
      | (.inl ()) => c46 h_
      | (.inr r') => some r'
def c32 (O : Orac) : Prop := ∀ (h_ : Hall) (r : Int) (hm0 : b5h h_ = some r), Fn O "newel/halls.Check" [.agg [.fs 5 (List.map b0u h_.Combs), .fs 3 (List.map b0r h_.Trains), .fs 3 (List.map b0v h_.Shifts), I h_.Until]] (I r)
noncomputable def b6l (n : Int) (c0 : Comb) : Bool :=
  !(b3a n c0.Walk)
def c70 (O : Orac) : Prop := ∀ (n : Int) (c0 : Comb), Fn O "newel/halls.isDay$1" [I n, .fp [I c0.Rate, I c0.Limit, I c0.Next, I c0.Walk.Low, I c0.Walk.High] 0] (B (b6l n c0))
noncomputable def c9r : Option Bool :=
  some true
noncomputable def c0a (h_ : Hall) (d : Day) : Int → Option (Out Int (Unit ⊕ Bool))
  | x_91 =>
    if decide (x_91 < (List.length h_.Combs : Int)) then
      (get h_.Combs x_91).bind fun x14 =>
      (get d.Walks x_91).bind fun x19 =>
      (if (decide ((List.length x19 : Int) < 1)) || (decide (20 < (List.length x19 : Int))) then some true else (c3s x19 (fun z20 => some (b6l z20 x14))).bind fun y21 =>
      some y21).bind fun c22 =>
      if c22 then
        some (.br (.inr false))
      else
        some (.nx (wr (x_91 + 1)))
    else
      some (.br (.inl ()))
noncomputable def c5l (h_ : Hall) (d : Day) : Option Bool :=
  (b07 (c0a h_ d) (0)).bind fun
    | (.inl ()) => c9r
    | (.inr r') => some r'
noncomputable def c5k (x_40 : Int) : Option (Out Int (Unit ⊕ Bool)) :=
  some (.nx (wr (x_40 + 1)))
noncomputable def b7a (d : Day) (x_40 : Int) (x33 : Train) : Int → Option (Out Int (Unit ⊕ Bool))
  | x_69 =>
    if decide (x_69 < (List.length x33.Crowds : Int)) then
      (get x33.Crowds x_69).bind fun x48 =>
      (get d.People x_40).bind fun x51 =>
      (get x51 x_69).bind fun x52 =>
      if !(b3a x52 x48.People) then
        some (.br (.inr false))
      else
        some (.nx (wr (x_69 + 1)))
    else
      some (.br (.inl ()))
noncomputable def b99 (h_ : Hall) (d : Day) : Int → Option (Out Int (Unit ⊕ Bool))
  | x_40 =>
    if decide (x_40 < (List.length h_.Trains : Int)) then
      (get h_.Trains x_40).bind fun x33 =>
      (get d.At x_40).bind fun x37 =>
      (if !(b3a x37 x33.At) then some true else (get d.People x_40).bind fun x38 =>
      some (decide (¬(List.length x38 : Int) = (List.length x33.Crowds : Int)))).bind fun c39 =>
      if c39 then
        some (.br (.inr false))
      else
        (b07 (b7a d x_40 x33) (0)).bind fun
          | (.inl ()) => c5k x_40
          | (.inr r') => some (.br (.inr r'))
    else
      some (.br (.inl ()))
noncomputable def b8j (h_ : Hall) (d : Day) : Option Bool :=
  if ((decide (¬(List.length d.At : Int) = (List.length h_.Trains : Int))) || (decide (¬(List.length d.People : Int) = (List.length h_.Trains : Int)))) || (decide (¬(List.length d.Walks : Int) = (List.length h_.Combs : Int))) then
    some false
  else
    (b07 (b99 h_ d) (0)).bind fun
      | (.inl ()) => c5l h_ d
      | (.inr r') => some r'
def c7z (O : Orac) : Prop := ∀ (h_ : Hall) (d : Day) (r : Bool) (hm0 : b8j h_ d = some r), Fn O "newel/halls.isDay" [.agg [.fs 5 (List.map b0u h_.Combs), .fs 3 (List.map b0r h_.Trains), .fs 3 (List.map b0v h_.Shifts), I h_.Until], .agg [.fs 1 (List.map eI d.At), .fs 1 (List.map b0s d.People), .fs 1 (List.map b0s d.Walks)]] (B r)
noncomputable def c9t (out_5 : List Int) : Option (List Int) :=
  some out_5
noncomputable def c5n (x_20 : Int) (out_5_1 : List Int) (now_6_1 : Int) (at_7_1 : Int) : Option (Out ((List Int) × Int × Int × Int) (((List Int)))) :=
  some (.nx (out_5_1, now_6_1, at_7_1, wr (x_20 + 1)))
noncomputable def c5o (out_5 : List Int) (x_20 : Int) (now_6_1 : Int) (at_7_1 : Int) : Option (Out ((List Int) × Int × Int × Int) (((List Int)))) :=
  (get out_5 x_20).bind fun x15 =>
  c5n x_20 (List.set out_5 (Int.toNat x_20) now_6_1) now_6_1 at_7_1
noncomputable def c2n (at_7_1 : Int) (now_6_2 : Int) : Option (Out (Int × Int) ((Int × Int))) :=
  some (.nx (now_6_2, wr (at_7_1 + 1)))
noncomputable def c0c (h_ : Hall) (comb : Int) (x_20 : Int) : (Int × Int) → Option (Out (Int × Int) ((Int × Int)))
  | (now_6_1, at_7_1) =>
    (if decide (at_7_1 < (List.length h_.Shifts : Int)) then (get h_.Shifts at_7_1).bind fun x19 =>
    some (decide (x19.At ≤ x_20)) else some false).bind fun c20 =>
    if c20 then
      (get h_.Shifts at_7_1).bind fun x27 =>
      if decide (x27.Comb = comb) then
        c2n at_7_1 x27.Rate
      else
        c2n at_7_1 now_6_1
    else
      some (.br (now_6_1, at_7_1))
noncomputable def c2m (h_ : Hall) (comb : Int) (l2 : List Int) : ((List Int) × Int × Int × Int) → Option (Out ((List Int) × Int × Int × Int) (((List Int))))
  | (out_5, now_6, at_7, x_20) =>
    if decide (x_20 < ((List.length l2 : Nat) : Int)) then
      (b07 (c0c h_ comb x_20) (now_6, at_7)).bind fun
        | (now_6_1, at_7_1) => c5o out_5 x_20 now_6_1 at_7_1
    else
      some (.br out_5)
noncomputable def c0b (h_ : Hall) (comb : Int) : Option (List Int) :=
  (mks 8 h_.Until 0).bind fun l2 =>
  (get h_.Combs comb).bind fun x4 =>
  (b07 (c2m h_ comb l2) (l2, x4.Rate, 0, 0)).bind fun out_5 =>
  c9t out_5
def c33 (O : Orac) : Prop := ∀ (h_ : Hall) (comb : Int) (r : List Int) (hm0 : c0b h_ comb = some r), FnW O "newel/halls.rates" [.agg [.fs 5 (List.map b0u h_.Combs), .fs 3 (List.map b0r h_.Trains), .fs 3 (List.map b0v h_.Shifts), I h_.Until], I comb] 1 eI r
noncomputable def c9o (rows_7_2 : List (List Int)) : Option ((List (List Int)) × Int) :=
  some (rows_7_2, 0)
noncomputable def c5a (x_101 : Int) (rows_7_3 : List (List Int)) : Option (Out ((List (List Int)) × Int) (((List (List Int))))) :=
  some (.nx (rows_7_3, wr (x_101 + 1)))
noncomputable def b9y (x_108 : Int) (rows_7_4 : List (List Int)) : Option (Out ((List (List Int)) × Int) (((List (List Int))))) :=
  some (.nx (rows_7_4, wr (x_108 + 1)))
noncomputable def b9z (h_ : Hall) (d : Day) (x_101 : Int) (x_108 : Int) (x34 : Int) (x38 : Int) (rows_7_4 : List (List Int)) : Option (Out ((List (List Int)) × Int) (((List (List Int))))) :=
  (get d.Walks x_108).bind fun x44 =>
  (rem x_101 (List.length x44 : Int)).bind fun q45 =>
  (get x44 q45).bind fun x46 =>
  (get h_.Combs x_108).bind fun x48 =>
  if (decide (0 ≤ x48.Next)) && (decide ((wr (x_101 + x46)) < h_.Until)) then
    (get rows_7_4 (wr (x_101 + x46))).bind fun x53 =>
    (get x53 x48.Next).bind fun x54 =>
    b9y x_108 (List.set rows_7_4 (Int.toNat (wr (x_101 + x46))) (List.set x53 (Int.toNat x48.Next) (wr (x54 + (mn x34 x38)))))
  else
    b9y x_108 rows_7_4
noncomputable def b9x (h_ : Hall) (d : Day) (open_12 : List (List Int)) (x_101 : Int) (x25 : List Int) : ((List (List Int)) × Int) → Option (Out ((List (List Int)) × Int) (((List (List Int)))))
  | (rows_7_3, x_108) =>
    if decide (x_108 < (List.length x25 : Int)) then
      (get rows_7_3 x_101).bind fun x33 =>
      (get x33 x_108).bind fun x34 =>
      (get open_12 x_108).bind fun x37 =>
      (get x37 x_101).bind fun x38 =>
      if decide ((wr (x_101 + 1)) < h_.Until) then
        (get rows_7_3 (wr (x_101 + 1))).bind fun x58 =>
        (get x58 x_108).bind fun x59 =>
        b9z h_ d x_101 x_108 x34 x38 (List.set rows_7_3 (Int.toNat (wr (x_101 + 1))) (List.set x58 (Int.toNat x_108) (wr (x59 + (wr (x34 - (mn x34 x38)))))))
      else
        b9z h_ d x_101 x_108 x34 x38 rows_7_3
    else
      some (.br rows_7_3)
noncomputable def c2d (h_ : Hall) (d : Day) (rows_7_1 : List (List Int)) (open_12 : List (List Int)) : ((List (List Int)) × Int) → Option (Out ((List (List Int)) × Int) (((List (List Int)))))
  | (rows_7_2, x_101) =>
    if decide (x_101 < (List.length rows_7_1 : Int)) then
      (get rows_7_2 x_101).bind fun x25 =>
      (b07 (b9x h_ d open_12 x_101 x25) (rows_7_2, 0)).bind fun rows_7_3 =>
      c5a x_101 rows_7_3
    else
      some (.br rows_7_2)
noncomputable def c49 (h_ : Hall) (d : Day) (rows_7_1 : List (List Int)) (open_12 : List (List Int)) : Option ((List (List Int)) × Int) :=
  (b07 (c2d h_ d rows_7_1 open_12) (rows_7_1, 0)).bind fun rows_7_2 =>
  c9o rows_7_2
noncomputable def c2c (h_ : Hall) : ((List (List Int)) × Int) → Option (Out ((List (List Int)) × Int) (((List (List Int)))))
  | (open_12, x_89) =>
    if decide (x_89 < (List.length h_.Combs : Int)) then
      (c0b h_ x_89).bind fun y68 =>
      (get open_12 x_89).bind fun x69 =>
      some (.nx ((List.set open_12 (Int.toNat x_89) y68), wr (x_89 + 1)))
    else
      some (.br open_12)
noncomputable def c48 (h_ : Hall) (d : Day) (rows_7_1 : List (List Int)) : Option ((List (List Int)) × Int) :=
  (mks 24 (List.length h_.Combs : Int) ([] : List Int)).bind fun l14 =>
  (b07 (c2c h_) (l14, 0)).bind fun open_12 =>
  c49 h_ d rows_7_1 open_12
noncomputable def c5b (x_45 : Int) (rows_7_2 : List (List Int)) : Option (Out ((List (List Int)) × Int) (((List (List Int))))) :=
  some (.nx (rows_7_2, wr (x_45 + 1)))
noncomputable def c2b (d : Day) (x_45 : Int) (x77 : Train) : ((List (List Int)) × Int) → Option (Out ((List (List Int)) × Int) (((List (List Int)))))
  | (rows_7_2, x_53) =>
    if decide (x_53 < (List.length x77.Crowds : Int)) then
      (get x77.Crowds x_53).bind fun x83 =>
      (get d.At x_45).bind fun x89 =>
      (get rows_7_2 x89).bind fun x90 =>
      (get x90 x83.Comb).bind fun x91 =>
      (get d.People x_45).bind fun x92 =>
      (get x92 x_53).bind fun x93 =>
      some (.nx ((List.set rows_7_2 (Int.toNat x89) (List.set x90 (Int.toNat x83.Comb) (wr (x91 + x93)))), wr (x_53 + 1)))
    else
      some (.br rows_7_2)
noncomputable def b9w (h_ : Hall) (d : Day) : ((List (List Int)) × Int) → Option (Out ((List (List Int)) × Int) (((List (List Int)))))
  | (rows_7_1, x_45) =>
    if decide (x_45 < (List.length h_.Trains : Int)) then
      (get h_.Trains x_45).bind fun x77 =>
      (b07 (c2b d x_45 x77) (rows_7_1, 0)).bind fun rows_7_2 =>
      c5b x_45 rows_7_2
    else
      some (.br rows_7_1)
noncomputable def c47 (h_ : Hall) (d : Day) (rows_7 : List (List Int)) : Option ((List (List Int)) × Int) :=
  (b07 (b9w h_ d) (rows_7, 0)).bind fun rows_7_1 =>
  c48 h_ d rows_7_1
noncomputable def c2a (h_ : Hall) : ((List (List Int)) × Int) → Option (Out ((List (List Int)) × Int) (((List (List Int)))))
  | (rows_7, x_32) =>
    if decide (x_32 < h_.Until) then
      (mks 8 (List.length h_.Combs : Int) 0).bind fun l102 =>
      (ap 24 rows_7 ([l102])).bind fun l103 =>
      some (.nx (l103, wr (x_32 + 1)))
    else
      some (.br rows_7)
noncomputable def c19 (h_ : Hall) (d : Day) : Option ((List (List Int)) × Int) :=
  (b5h h_).bind fun y2 =>
  if decide (¬y2 = 0) then
    some ([], y2)
  else
    (b8j h_ d).bind fun y6 =>
    if !y6 then
      some ([], 61)
    else
      (b07 (c2a h_) ([], 0)).bind fun rows_7 =>
      c47 h_ d rows_7
def c7t (O : Orac) : Prop := ∀ (h_ : Hall) (d : Day) (r : (List (List Int)) × Int) (hm0 : c19 h_ d = some r), Fn O "newel/halls.Play" [.agg [.fs 5 (List.map b0u h_.Combs), .fs 3 (List.map b0r h_.Trains), .fs 3 (List.map b0v h_.Shifts), I h_.Until], .agg [.fs 1 (List.map eI d.At), .fs 1 (List.map b0s d.People), .fs 1 (List.map b0s d.Walks)]] (.tup [.fs 1 (List.map b0s r.1), I r.2])
noncomputable def b8i (t_ : Int) (c0 : Hall) : Bool :=
  (decide (t_ < 0)) || (decide (c0.Until ≤ t_))
def c7x (O : Orac) : Prop := ∀ (t_ : Int) (c0 : Hall), Fn O "newel/halls.check$1" [I t_, .fp [.fs 5 (List.map b0u c0.Combs), .fs 3 (List.map b0r c0.Trains), .fs 3 (List.map b0v c0.Shifts), I c0.Until] 0] (B (b8i t_ c0))
noncomputable def b98 (h_ : Hall) (comb : Int) (ticks : List Int) : Option Int :=
  (b5h h_).bind fun y2 =>
  if decide (¬y2 = 0) then
    some y2
  else
    (if (decide (comb < 0)) || (decide ((List.length h_.Combs : Int) ≤ comb)) then some true else (c3s ticks (fun z8 => some (b8i z8 h_))).bind fun y9 =>
    some y9).bind fun c10 =>
    if c10 then
      some 1
    else
      some 0
def c7w (O : Orac) : Prop := ∀ (h_ : Hall) (comb : Int) (ticks : List Int) (r : Int) (hm0 : b98 h_ comb ticks = some r), Fn O "newel/halls.check" [.agg [.fs 5 (List.map b0u h_.Combs), .fs 3 (List.map b0r h_.Trains), .fs 3 (List.map b0v h_.Shifts), I h_.Until], I comb, .fs 1 (List.map eI ticks)] (I r)
noncomputable def c9s (out_2 : List (List Int)) : Option (List (List Int)) :=
  some out_2
noncomputable def c2l (h_ : Hall) : ((List (List Int)) × Int) → Option (Out ((List (List Int)) × Int) (((List (List Int)))))
  | (out_2, x_7) =>
    if decide (x_7 < (List.length h_.Combs : Int)) then
      (c0b h_ x_7).bind fun y9 =>
      (ap 24 out_2 ([y9])).bind fun l10 =>
      some (.nx (l10, wr (x_7 + 1)))
    else
      some (.br out_2)
noncomputable def b7c (h_ : Hall) : Option (List (List Int)) :=
  (b07 (c2l h_) ([], 0)).bind fun out_2 =>
  c9s out_2
def c72 (O : Orac) : Prop := ∀ (h_ : Hall) (h0 : Heap) (r : List (List Int)) (hm0 : b7c h_ = some r), b60 O "newel/halls.open" [.agg [.fs 5 (List.map b0u h_.Combs), .fs 3 (List.map b0r h_.Trains), .fs 3 (List.map b0v h_.Shifts), I h_.Until]] h0 (fun v h => ∃ hs, RR h v hs 1 eI r ∧ (∀ j, j < h0.nx → h.ob j = h0.ob j) ∧ h0.nx ≤ h.nx ∧ ∀ j, ¬b0n v hs j → h0.nx ≤ j)
noncomputable def c9q (sum_8 : Int) : Option Int :=
  some sum_8
noncomputable def b97 (x_16 : Int) (sum_8_1 : Int) : Option (Out (Int × Int) Int) :=
  some (.nx (sum_8_1, wr (x_16 + 1)))
noncomputable def b95 (x_35 : Int) (sum_8_2 : Int) : Option (Out (Int × Int) Int) :=
  some (.nx (sum_8_2, wr (x_35 + 1)))
noncomputable def c2h (comb : Int) (x9 : Train) : (Int × Int) → Option (Out (Int × Int) Int)
  | (sum_8_1, x_35) =>
    if decide (x_35 < (List.length x9.Crowds : Int)) then
      (get x9.Crowds x_35).bind fun x19 =>
      if decide (x19.Comb = comb) then
        b95 x_35 (wr (sum_8_1 + x19.People.High))
      else
        b95 x_35 sum_8_1
    else
      some (.br sum_8_1)
noncomputable def c2i (h_ : Hall) (comb : Int) (from_ : Int) (to_ : Int) : (Int × Int) → Option (Out (Int × Int) Int)
  | (sum_8, x_16) =>
    if decide (x_16 < (List.length h_.Trains : Int)) then
      (get h_.Trains x_16).bind fun x9 =>
      if (decide (x9.At.High < from_)) || (decide (to_ < x9.At.Low)) then
        b97 x_16 sum_8
      else
        (b07 (c2h comb x9) (sum_8, 0)).bind fun sum_8_1 =>
        b97 x_16 sum_8_1
    else
      some (.br sum_8)
noncomputable def c2g (h_ : Hall) (comb : Int) (from_ : Int) (to_ : Int) : Option Int :=
  (b07 (c2i h_ comb from_ to_) (0, 0)).bind fun sum_8 =>
  c9q sum_8
def c7v (O : Orac) : Prop := ∀ (h_ : Hall) (comb : Int) (from_ : Int) (to_ : Int) (r : Int) (hm0 : c2g h_ comb from_ to_ = some r), Fn O "newel/halls.brought" [.agg [.fs 5 (List.map b0u h_.Combs), .fs 3 (List.map b0r h_.Trains), .fs 3 (List.map b0v h_.Shifts), I h_.Until], I comb, I from_, I to_] (I r)
structure halls_bound where
  rates : List Int
  flow : List Int
  most : List Int
  come : List (List Int)
  deriving Inhabited, DecidableEq
noncomputable def c4e (least_7 : Int) : Option Int :=
  some least_7
noncomputable def b88 (b : halls_bound) (from_ : Int) (least_7 : Int) (k_8 : Int) (behind_9 : Int) : Option (Out (Int × Int) Int) :=
  (get b.flow k_8).bind fun x23 =>
  (get b.flow (mx from_ 0)).bind fun x24 =>
  (get b.most k_8).bind fun x25 =>
  some (.nx (mn least_7 (wr ((wr ((wr (x23 - x24)) + x25)) + behind_9)), wr (k_8 + 1)))
noncomputable def c1g (b : halls_bound) (from_ : Int) (to_ : Int) : (Int × Int) → Option (Out (Int × Int) Int)
  | (least_7, k_8) =>
    if decide (k_8 ≤ to_) then
      if decide (k_8 < to_) then
        (get b.come (wr (k_8 + 1))).bind fun x29 =>
        (get x29 to_).bind fun x30 =>
        b88 b from_ least_7 k_8 x30
      else
        b88 b from_ least_7 k_8 0
    else
      some (.br least_7)
noncomputable def c1f (b : halls_bound) (from_ : Int) (to_ : Int) : Option Int :=
  if (decide (to_ < from_)) || (decide (to_ < 0)) then
    some 0
  else
    (get b.come 0).bind fun x8 =>
    (get x8 to_).bind fun x9 =>
    (get b.flow (wr (to_ + 1))).bind fun x10 =>
    (get b.flow (mx from_ 0)).bind fun x11 =>
    (b07 (c1g b from_ to_) (mn x9 (wr (x10 - x11)), mx from_ 0)).bind fun least_7 =>
    c4e least_7
def c7k (O : Orac) : Prop := ∀ (b : halls_bound) (from_ : Int) (to_ : Int) (r : Int) (hm0 : c1f b from_ to_ = some r), Fn O "(*newel/halls.bound).passes" [.fp [.fs 1 (List.map eI b.rates), .fs 1 (List.map eI b.flow), .fs 1 (List.map eI b.most), .fs 1 (List.map b0s b.come)] 0, I from_, I to_] (I r)
@[go_sem] def b23 (x : halls_bound) : List AV := [.fp [.fs 1 (List.map eI x.rates), .fs 1 (List.map eI x.flow), .fs 1 (List.map eI x.most), .fs 1 (List.map b0s x.come)] 0]
theorem g6n (x : halls_bound) : ∀ c ∈ b23 x, Frz c := (b0e (.fp _ _ (b0e (b0w fun a _ => b2n a) (b0e (b0w fun a _ => b2n a) (b0e (b0w fun a _ => b2n a) (b0e (b0w fun a _ => b41 a) b0x))))) b0x)
theorem j12 (x : halls_bound) : (b23 x).length = 1 := rfl
noncomputable def c9p (all_5 : List halls_bound) : Option (List halls_bound) :=
  some all_5
noncomputable def c5h (x_19 : Int) (all_5_1 : List halls_bound) : Option (Out ((List halls_bound) × Int) (((List halls_bound)))) :=
  some (.nx (all_5_1, wr (x_19 + 1)))
noncomputable def c5c (all_5 : List halls_bound) (x_19 : Int) (b_7_0 : List Int) (b_7_3 : List (List Int)) (b_7_1 : List Int) (b_7_2 : List Int) : Option (Out ((List halls_bound) × Int) (((List halls_bound)))) :=
  (ap 8 all_5 ([(halls_bound.mk b_7_0 b_7_1 b_7_2 b_7_3)])).bind fun l13 =>
  c5h x_19 l13
noncomputable def c5d (x_122 : Int) (b_7_1_1 : List Int) (b_7_2_1 : List Int) : Option (Out ((List Int) × (List Int) × Int) (((List Int) × (List Int)))) :=
  some (.nx (b_7_1_1, b_7_2_1, wr (x_122 + 1)))
noncomputable def c5e (open_ : List (List Int)) (x_19 : Int) (b_7_1 : List Int) (b_7_2 : List Int) (x_122 : Int) (most_14 : Int) : Option (Out ((List Int) × (List Int) × Int) (((List Int) × (List Int)))) :=
  (ap 8 b_7_2 ([most_14])).bind fun l22 =>
  (get b_7_1 x_122).bind fun x27 =>
  (get open_ x_19).bind fun x28 =>
  (get x28 x_122).bind fun x29 =>
  (ap 8 b_7_1 ([wr (x27 + (mn most_14 x29))])).bind fun l30 =>
  c5d x_122 l30 l22
noncomputable def b92 (b_7_0 : List Int) (b_7_3 : List (List Int)) (x_122 : Int) : (Int × Int) → Option (Out (Int × Int) Int)
  | (most_14, x_127) =>
    if decide (x_127 < (wr (x_122 + 1))) then
      (get b_7_3 x_127).bind fun x40 =>
      (get x40 x_122).bind fun x42 =>
      (get b_7_0 x_122).bind fun x43 =>
      (get b_7_0 x_127).bind fun x44 =>
      some (.nx (mx most_14 (wr (x42 - (wr (x43 - x44)))), wr (x_127 + 1)))
    else
      some (.br most_14)
noncomputable def b93 (h_ : Hall) (open_ : List (List Int)) (x_19 : Int) (b_7_0 : List Int) (b_7_3 : List (List Int)) : ((List Int) × (List Int) × Int) → Option (Out ((List Int) × (List Int) × Int) (((List Int) × (List Int))))
  | (b_7_1, b_7_2, x_122) =>
    if decide (x_122 < h_.Until) then
      (b07 (b92 b_7_0 b_7_3 x_122) (0, 0)).bind fun most_14 =>
      c5e open_ x_19 b_7_1 b_7_2 x_122 most_14
    else
      some (.br (b_7_1, b_7_2))
noncomputable def c5j (h_ : Hall) (open_ : List (List Int)) (all_5 : List halls_bound) (x_19 : Int) (b_7_0 : List Int) (b_7_3 : List (List Int)) : Option (Out ((List halls_bound) × Int) (((List halls_bound)))) :=
  (b07 (b93 h_ open_ x_19 b_7_0 b_7_3) ([0], [], 0)).bind fun
    | (b_7_1, b_7_2) => c5c all_5 x_19 b_7_0 b_7_3 b_7_1 b_7_2
noncomputable def c5f (x_28 : Int) (b_7_0_1 : List Int) (b_7_3_1 : List (List Int)) : Option (Out ((List Int) × (List (List Int)) × Int) (((List Int) × (List (List Int))))) :=
  some (.nx (b_7_0_1, b_7_3_1, wr (x_28 + 1)))
noncomputable def c5g (open_ : List (List Int)) (x_19 : Int) (b_7_0 : List Int) (b_7_3 : List (List Int)) (x_28 : Int) (row_9 : List Int) : Option (Out ((List Int) × (List (List Int)) × Int) (((List Int) × (List (List Int))))) :=
  (ap 24 b_7_3 ([row_9])).bind fun l57 =>
  (get b_7_0 x_28).bind fun x62 =>
  (get open_ x_19).bind fun x63 =>
  (get x63 x_28).bind fun x64 =>
  (ap 8 b_7_0 ([wr (x62 + x64)])).bind fun l65 =>
  c5f x_28 l65 l57
noncomputable def c5i (t_10 : Int) (row_9_1 : List Int) : Option (Out ((List Int) × Int) (((List Int)))) :=
  some (.nx (row_9_1, wr (t_10 + 1)))
noncomputable def b94 (x_54 : Int) (row_9_2 : List Int) : Option (Out ((List Int) × Int) (((List Int)))) :=
  some (.nx (row_9_2, wr (x_54 + 1)))
noncomputable def c2e (all_5 : List halls_bound) (x_19 : Int) (x_28 : Int) (t_10 : Int) (l76 : List Comb) : ((List Int) × Int) → Option (Out ((List Int) × Int) (((List Int))))
  | (row_9_1, x_54) =>
    if decide (x_54 < (List.length l76 : Int)) then
      (get l76 x_54).bind fun x83 =>
      if decide (x83.Next = x_19) then
        (get row_9_1 t_10).bind fun x89 =>
        (get all_5 x_54).bind fun x90 =>
        (c1f x90 (wr (x_28 - x83.Walk.High)) (wr (t_10 - x83.Walk.Low))).bind fun y92 =>
        b94 x_54 (List.set row_9_1 (Int.toNat t_10) (wr (x89 + y92)))
      else
        b94 x_54 row_9_1
    else
      some (.br row_9_1)
noncomputable def b90 (h_ : Hall) (all_5 : List halls_bound) (x_19 : Int) (x_28 : Int) : ((List Int) × Int) → Option (Out ((List Int) × Int) (((List Int))))
  | (row_9, t_10) =>
    if decide (t_10 < h_.Until) then
      (c2g h_ x_19 x_28 t_10).bind fun y73 =>
      (get row_9 t_10).bind fun x74 =>
      (sub h_.Combs 0 x_19).bind fun l76 =>
      (b07 (c2e all_5 x_19 x_28 t_10 l76) ((List.set row_9 (Int.toNat t_10) y73), 0)).bind fun row_9_1 =>
      c5i t_10 row_9_1
    else
      some (.br row_9)
noncomputable def b91 (h_ : Hall) (open_ : List (List Int)) (all_5 : List halls_bound) (x_19 : Int) : ((List Int) × (List (List Int)) × Int) → Option (Out ((List Int) × (List (List Int)) × Int) (((List Int) × (List (List Int)))))
  | (b_7_0, b_7_3, x_28) =>
    if decide (x_28 < h_.Until) then
      (mks 8 h_.Until 0).bind fun l53 =>
      (b07 (b90 h_ all_5 x_19 x_28) (l53, x_28)).bind fun row_9 =>
      c5g open_ x_19 b_7_0 b_7_3 x_28 row_9
    else
      some (.br (b_7_0, b_7_3))
noncomputable def c2f (h_ : Hall) (open_ : List (List Int)) : ((List halls_bound) × Int) → Option (Out ((List halls_bound) × Int) (((List halls_bound))))
  | (all_5, x_19) =>
    if decide (x_19 < (List.length h_.Combs : Int)) then
      (b07 (b91 h_ open_ all_5 x_19) ([0], [], 0)).bind fun
        | (b_7_0, b_7_3) => c5j h_ open_ all_5 x_19 b_7_0 b_7_3
    else
      some (.br all_5)
noncomputable def b8h (h_ : Hall) (open_ : List (List Int)) : Option (List halls_bound) :=
  (b07 (c2f h_ open_) ([], 0)).bind fun all_5 =>
  c9p all_5
def c7u (O : Orac) : Prop := ∀ (h_ : Hall) (open_ : List (List Int)) (v_1 : AV) (hs_1 : List AV) (h0 : Heap) (rr_p1 : RR h0 v_1 hs_1 1 eI open_) (r : List halls_bound) (hm0 : b8h h_ open_ = some r), b60 O "newel/halls.bounds" [.agg [.fs 5 (List.map b0u h_.Combs), .fs 3 (List.map b0r h_.Trains), .fs 3 (List.map b0v h_.Shifts), I h_.Until], v_1] h0 (fun v h => v = .fs 1 (List.map b23 r) ∧ (∀ j, j < h0.nx → h.ob j = h0.ob j) ∧ h0.nx ≤ h.nx)
noncomputable def c18 (h_ : Hall) (comb : Int) : Option ((List Int) × Int) :=
  (b98 h_ comb ([])).bind fun y2 =>
  if decide (¬y2 = 0) then
    some ([], y2)
  else
    (b7c h_).bind fun y8 =>
    (b8h h_ y8).bind fun y9 =>
    (get y9 comb).bind fun x10 =>
    some (x10.most, 0)
def c7s (O : Orac) : Prop := ∀ (h_ : Hall) (comb : Int) (r : (List Int) × Int) (hm0 : c18 h_ comb = some r), Fn O "newel/halls.Most" [.agg [.fs 5 (List.map b0u h_.Combs), .fs 3 (List.map b0r h_.Trains), .fs 3 (List.map b0v h_.Shifts), I h_.Until], I comb] (.tup [.fs 1 (List.map eI r.1), I r.2])
structure neweltop_Counted where
  Comb : Int
  Tick : Int
  Readings : List Reading
  deriving Inhabited, DecidableEq
noncomputable def c27 (h_ : Hall) (d : Day) (x : neweltop_Counted) : Option Bool :=
  (c2x h_).bind fun y8 =>
  (if y8 then some true else (b5y h_).bind fun y9 =>
  some (decide (¬y9 = 0))).bind fun c10 =>
  (if c10 then some true else (c0z h_ d).bind fun y11 =>
  some (!y11)).bind fun c12 =>
  (if ((((c12 || (decide (x.Comb < 0))) || (decide ((List.length h_.Combs : Int) ≤ x.Comb))) || (decide (x.Tick < 0))) || (decide (h_.Until ≤ x.Tick))) || (decide (7 < (List.length x.Readings : Int))) then some true else (b8v x.Readings).bind fun y13 =>
  some (decide (¬y13 = 0))).bind fun c14 =>
  if c14 then
    (c3a).bind fun y26 =>
    some y26
  else
    (c19 h_ d).bind fun y28 =>
    (c18 h_ x.Comb).bind fun y30 =>
    (if (((decide (¬y28.2 = 0)) || (decide (¬y30.2 = 0))) || (decide (¬(List.length y28.1 : Int) = h_.Until))) || (decide (¬(List.length y30.1 : Int) = h_.Until)) then some true else (get y28.1 x.Tick).bind fun x33 =>
    some (decide (¬(List.length x33 : Int) = (List.length h_.Combs : Int)))).bind fun c34 =>
    if c34 then
      some false
    else
      (get y28.1 x.Tick).bind fun x44 =>
      (get x44 x.Comb).bind fun x45 =>
      (get y30.1 x.Tick).bind fun x46 =>
      if decide (x46 < x45) then
        some false
      else
        if decide (1000 < x46) then
          (c3a).bind fun y52 =>
          some y52
        else
          (ap 32 ([]) x.Readings).bind fun l55 =>
          (ap 32 l55 ([(Reading.mk x46 x46 0 0)])).bind fun l56 =>
          (c0r l56 x45).bind fun y58 =>
          if y58 then
            (b8d l56).bind fun y62 =>
            (b9n l56).bind fun y64 =>
            (if (((((decide (y62.2 = 0)) && (decide (y64.2 = 0))) && (decide (y62.1.Low ≤ x45))) && (decide (x45 ≤ y62.1.High))) && (decide (y62.1.Low ≤ x46))) && (decide ((List.length y64.1 : Int) = 0)) then (c3a).bind fun y67 =>
            some y67 else some false).bind fun c68 =>
            some c68
          else
            (b8d x.Readings).bind fun y76 =>
            (if (decide (y76.2 = 0)) && (decide (x46 < y76.1.Low)) then (c0r x.Readings x45).bind fun y79 =>
            some y79 else some false).bind fun c80 =>
            if c80 then
              some false
            else
              (c3a).bind fun y86 =>
              some y86
def d2g (O : Orac) : Prop := ∀ (h_ : Hall) (d : Day) (x : neweltop_Counted) (r : Bool) (hm0 : c27 h_ d x = some r), Fn O "newel/neweltop.TopCounted" [.agg [.fs 5 (List.map b0u h_.Combs), .fs 3 (List.map b0r h_.Trains), .fs 3 (List.map b0v h_.Shifts), I h_.Until], .agg [.fs 1 (List.map eI d.At), .fs 1 (List.map b0s d.People), .fs 1 (List.map b0s d.Walks)], .agg [I x.Comb, I x.Tick, .fs 4 (List.map b17 x.Readings)]] (B r)
end Go.Nw.TM
