/- Models of functions: printed by gen.py. -/
import Derived.Test.YtaccbljgojdfjaaDoorNwWcall
import Derived.Test.YtaccbljgojdfjaaDoorNwFaultSrc
set_option linter.all false
set_option linter.unusedVariables false
set_option linter.unusedSimpArgs false
set_option linter.unusedSectionVars false
namespace Go.Nw.FM
open Go.Nw.Fault
set_option linter.unusedSimpArgs false
set_option linter.unusedVariables false
set_option maxHeartbeats 4000000
theorem lA9 {α : Type} {l m : List α} : (l ++ m).length = l.length + m.length := List.length_append
theorem mA9 {α β : Type} {f : α → β} {l m : List α} : List.map f (l ++ m) = List.map f l ++ List.map f m := List.map_append
theorem oF9 {a b : Bool} : (a || b) = false ↔ a = false ∧ b = false := Bool.or_eq_false_iff
theorem nF9 : (¬False) = True := not_false_eq_true
theorem bF9 {α : Type} [BEq α] [LawfulBEq α] {a b : α} : (a == b) = false ↔ a ≠ b := beq_eq_false_iff_ne
theorem sI9 {α : Type} {a b : α} (h : some a = some b) : a = b := Option.some.inj h
variable {O : Orac}
noncomputable def b2p (n : Int) (low : Int) (high : Int) : Bool :=
  (decide (low ≤ n)) && (decide (n ≤ high))
def b96 (O : Orac) : Prop := ∀ (n : Int) (low : Int) (high : Int), Fn O "newel/faults.within" [I n, I low, I high] (B (b2p n low high))
structure Reading where
  Says : Int
  Error : Int
  Drift : Int
  Days : Int
  deriving Inhabited, DecidableEq
@[go_sem] def b0w (x : Reading) : List AV := [I x.Says, I x.Error, I x.Drift, I x.Days]
theorem b3r (x : Reading) : ∀ c ∈ b0w x, Frz c := (b0f (b0d _) (b0f (b0d _) (b0f (b0d _) (b0f (b0d _) b0p))))
theorem d8b (x : Reading) : (b0w x).length = 4 := rfl
@[go_sem] theorem l0s {l : List Reading} {n : Nat} {a0 : Int} {a1 : Int} {a2 : Int} {a3 : Int} : (List.map b0w l).set n [I a0, I a1, I a2, I a3] = List.map b0w (l.set n (Reading.mk a0 a1 a2 a3)) := by rw [List.map_set]; rfl
noncomputable def c09 : Option Int :=
  some 0
noncomputable def b5s (l : List Reading) : Int → Option (Out Int (Unit ⊕ Int))
  | x_10 =>
    if decide (x_10 < (List.length l : Int)) then
      (get l x_10).bind fun x10 =>
      if (((!(b2p x10.Says (-100000) 100000)) || (!(b2p x10.Error 0 1000))) || (!(b2p x10.Drift 0 1000))) || (!(b2p x10.Days 0 1000)) then
        some (.br (.inr 100))
      else
        some (.nx (wr (x_10 + 1)))
    else
      some (.br (.inl ()))
noncomputable def b4v (l : List Reading) : Option Int :=
  if decide (12 < (List.length l : Int)) then
    some 2
  else
    (b08 (b5s l) (0)).bind fun
      | (.inl ()) => c09
      | (.inr r') => some r'
def b7u (O : Orac) : Prop := ∀ (l : List Reading) (r : Int) (hm0 : b4v l = some r), Fn O "newel/faults.readings" [.fs 4 (List.map b0w l)] (I r)
structure Span where
  Low : Int
  High : Int
  deriving Inhabited, DecidableEq
noncomputable def c05 (s_6_0 : Int) (s_6_1 : Int) : Option (Span × Bool) :=
  some ((Span.mk s_6_0 s_6_1), decide (s_6_0 ≤ s_6_1))
noncomputable def b5r (x_13 : Int) (s_6_0_1 : Int) (s_6_1_1 : Int) : Option (Out (Int × Int × Int) ((Int × Int))) :=
  some (.nx (s_6_0_1, s_6_1_1, wr (x_13 + 1)))
noncomputable def b6p (l : List Reading) (out : Int) : (Int × Int × Int) → Option (Out (Int × Int × Int) ((Int × Int)))
  | (s_6_0, s_6_1, x_13) =>
    if decide (x_13 < (List.length l : Int)) then
      (get l x_13).bind fun x9 =>
      (shr .i64 out x_13).bind fun q11 =>
      if decide ((b28 q11 1) = 0) then
        b5r x_13 (mx s_6_0 (wr (x9.Says - (wr (x9.Error + (wr (x9.Drift * x9.Days))))))) (mn s_6_1 (wr (x9.Says + (wr (x9.Error + (wr (x9.Drift * x9.Days)))))))
      else
        b5r x_13 s_6_0 s_6_1
    else
      some (.br (s_6_0, s_6_1))
noncomputable def b5q (l : List Reading) (out : Int) : Option (Span × Bool) :=
  (b08 (b6p l out) ((-1099511627776), 1099511627776, 0)).bind fun
    | (s_6_0, s_6_1) => c05 s_6_0 s_6_1
def b7s (O : Orac) : Prop := ∀ (l : List Reading) (out : Int) (r : Span × Bool) (hm0 : b5q l out = some r), Fn O "newel/faults.common" [.fs 4 (List.map b0w l), I out] (.tup [.agg [I r.1.Low, I r.1.High], B r.2])
noncomputable def b66 (x : Int) : Option Int :=
  (shr .u64 x 1).bind fun q2 =>
  (shr .u64 (IntKind.wrap .u64 ((b0m .u64 q2 6148914691236517205) + (b0m .u64 x 6148914691236517205))) 2).bind fun q4 =>
  (shr .u64 (IntKind.wrap .u64 ((b0m .u64 q4 3689348814741910323) + (b0m .u64 (IntKind.wrap .u64 ((b0m .u64 q2 6148914691236517205) + (b0m .u64 x 6148914691236517205))) 3689348814741910323))) 4).bind fun q6 =>
  (shr .u64 (b0m .u64 (IntKind.wrap .u64 (q6 + (IntKind.wrap .u64 ((b0m .u64 q4 3689348814741910323) + (b0m .u64 (IntKind.wrap .u64 ((b0m .u64 q2 6148914691236517205) + (b0m .u64 x 6148914691236517205))) 3689348814741910323))))) 1085102592571150095) 8).bind fun q8 =>
  (shr .u64 (IntKind.wrap .u64 ((b0m .u64 (IntKind.wrap .u64 (q6 + (IntKind.wrap .u64 ((b0m .u64 q4 3689348814741910323) + (b0m .u64 (IntKind.wrap .u64 ((b0m .u64 q2 6148914691236517205) + (b0m .u64 x 6148914691236517205))) 3689348814741910323))))) 1085102592571150095) + q8)) 16).bind fun q10 =>
  (shr .u64 (IntKind.wrap .u64 ((IntKind.wrap .u64 ((b0m .u64 (IntKind.wrap .u64 (q6 + (IntKind.wrap .u64 ((b0m .u64 q4 3689348814741910323) + (b0m .u64 (IntKind.wrap .u64 ((b0m .u64 q2 6148914691236517205) + (b0m .u64 x 6148914691236517205))) 3689348814741910323))))) 1085102592571150095) + q8)) + q10)) 32).bind fun q12 =>
  some (b28 (IntKind.wrap .i64 (IntKind.wrap .u64 ((IntKind.wrap .u64 ((IntKind.wrap .u64 ((b0m .u64 (IntKind.wrap .u64 (q6 + (IntKind.wrap .u64 ((b0m .u64 q4 3689348814741910323) + (b0m .u64 (IntKind.wrap .u64 ((b0m .u64 q2 6148914691236517205) + (b0m .u64 x 6148914691236517205))) 3689348814741910323))))) 1085102592571150095) + q8)) + q10)) + q12))) 127)
def b99 (O : Orac) : Prop := ∀ (x : Int) (r : Int) (hm0 : b66 x = some r), Fn O "math/bits.OnesCount64" [.v (.int .u64 x)] (I r)
noncomputable def b41 (x : Int) : Option Int :=
  (b66 x).bind fun y3 =>
  some y3
def b98 (O : Orac) : Prop := ∀ (x : Int) (r : Int) (hm0 : b41 x = some r), Fn O "math/bits.OnesCount" [.v (.int .u64 x)] (I r)
noncomputable def b68 (x : Int) : Option Int :=
  if decide (x = 0) then
    some 64
  else
    (shr .u64 (IntKind.wrap .u64 ((b0m .u64 x (IntKind.wrap .u64 (0 - x))) * 285870213051353865)) 58).bind fun q5 =>
    (get gl_1 q5).bind fun x6 =>
    some (IntKind.wrap .i64 x6)
def c0b (O : Orac) : Prop := ∀ (x : Int) (r : Int) (hm0 : b68 x = some r), Fn O "math/bits.TrailingZeros64" [.v (.int .u64 x)] (I r)
noncomputable def b67 (x : Int) : Option Int :=
  (b68 x).bind fun y3 =>
  some y3
def c0a (O : Orac) : Prop := ∀ (x : Int) (r : Int) (hm0 : b67 x = some r), Fn O "math/bits.TrailingZeros" [.v (.int .u64 x)] (I r)
noncomputable def b6r (l_3 : List Int) : Option (List Int) :=
  some l_3
noncomputable def b8j : (Int × (List Int)) → Option (Out (Int × (List Int)) (((List Int))))
  | (set_0, l_3) =>
    if decide (¬set_0 = 0) then
      (b67 (IntKind.wrap .u64 set_0)).bind fun y9 =>
      (ap 8 l_3 ([y9])).bind fun l10 =>
      some (.nx (b28 set_0 (wr (set_0 - 1)), l10))
    else
      some (.br l_3)
noncomputable def b4a (set : Int) : Option (List Int) :=
  (b08 (b8j) (set, [])).bind fun l_3 =>
  b6r l_3
def b7t (O : Orac) : Prop := ∀ (set : Int) (r : List Int) (hm0 : b4a set = some r), Fn O "newel/faults.members" [I set] (.fs 1 (List.map eI r))
noncomputable def b3w (x : Int) : Bool :=
  decide (¬x = x)
def b92 (O : Orac) : Prop := ∀ (x : Int), Fn O "cmp.isNaN[int]" [I x] (B (b3w x))
noncomputable def b3v (x : Int) (y : Int) : Int :=
  if (b3w x) then
    if (b3w y) then
      0
    else
      (-1)
  else
    if (b3w y) then
      1
    else
      if decide (x < y) then
        (-1)
      else
        if decide (y < x) then
          1
        else
          0
def b91 (O : Orac) : Prop := ∀ (x : Int) (y : Int), Fn O "cmp.Compare[int]" [I x, I y] (I (b3v x y))
noncomputable def b9v (s1_ : List Int) (s2_ : List Int) : Option Int :=
  if decide ((List.length s1_ : Int) < (List.length s2_ : Int)) then
    some (-1)
  else
    some 0
noncomputable def b6b (s1_ : List Int) (s2_ : List Int) : Int → Option (Out Int (Unit ⊕ Int))
  | x_11 =>
    if decide (x_11 < (List.length s1_ : Int)) then
      (get s1_ x_11).bind fun x10 =>
      if decide ((List.length s2_ : Int) ≤ x_11) then
        some (.br (.inr 1))
      else
        (get s2_ x_11).bind fun x14 =>
        if decide (¬(b3v x10 x14) = 0) then
          some (.br (.inr (b3v x10 x14)))
        else
          some (.nx (wr (x_11 + 1)))
    else
      some (.br (.inl ()))
noncomputable def b7n (s1_ : List Int) (s2_ : List Int) : Option Int :=
  (b08 (b6b s1_ s2_) (0)).bind fun
    | (.inl ()) => b9v s1_ s2_
    | (.inr r') => some r'
def c0i (O : Orac) : Prop := ∀ (s1_ : List Int) (s2_ : List Int) (r : Int) (hm0 : b7n s1_ s2_ = some r), Fn O "slices.Compare[[]int,int]" [.fs 1 (List.map eI s1_), .fs 1 (List.map eI s2_)] (I r)
noncomputable def b6q (a : Int) (b : Int) : Option Bool :=
  (b41 (IntKind.wrap .u64 a)).bind fun y3 =>
  (b41 (IntKind.wrap .u64 b)).bind fun y4 =>
  if decide (¬y3 = y4) then
    some (decide (y3 < y4))
  else
    (b4a a).bind fun y10 =>
    (b4a b).bind fun y11 =>
    (b7n y10 y11).bind fun y12 =>
    some (decide (y12 < 0))
def b95 (O : Orac) : Prop := ∀ (a : Int) (b : Int) (r : Bool) (hm0 : b6q a b = some r), Fn O "newel/faults.fewer" [I a, I b] (B r)
noncomputable def b8i (best_5 : Int) : Option ((List Int) × Int) :=
  (b4a best_5).bind fun y10 =>
  some (y10, 0)
noncomputable def b4t (x_19 : Int) (best_5_1 : Int) : Option (Out (Int × Int) Int) :=
  some (.nx (best_5_1, wr (x_19 + 1)))
noncomputable def b6o (l : List Reading) (q6 : Int) : (Int × Int) → Option (Out (Int × Int) Int)
  | (best_5, x_19) =>
    if decide (x_19 < (wr (q6 - 1))) then
      (b5q l x_19).bind fun y17 =>
      (if y17.2 then (b6q x_19 best_5).bind fun y20 =>
      some y20 else some false).bind fun c21 =>
      if c21 then
        b4t x_19 x_19
      else
        b4t x_19 best_5
    else
      some (.br best_5)
noncomputable def b4s (l : List Reading) : Option ((List Int) × Int) :=
  (b4v l).bind fun y2 =>
  if decide (¬y2 = 0) then
    some ([], y2)
  else
    (shl .i64 1 (List.length l : Int)).bind fun q6 =>
    (b08 (b6o l q6) (wr (q6 - 1), 0)).bind fun best_5 =>
    b8i best_5
def b93 (O : Orac) : Prop := ∀ (l : List Reading) (r : (List Int) × Int) (hm0 : b4s l = some r), Fn O "newel/faults.Liars" [.fs 4 (List.map b0w l)] (.tup [.fs 1 (List.map eI r.1), I r.2])
noncomputable def c18 : Option Bool :=
  some true
noncomputable def b65 (a : List Int) (b : List Int) : Int → Option (Out Int (Unit ⊕ Bool))
  | i_5 =>
    if decide (i_5 < (List.length a : Int)) then
      (get a i_5).bind fun x11 =>
      (get b i_5).bind fun x12 =>
      if decide (¬x11 = x12) then
        some (.br (.inr false))
      else
        some (.nx (wr (i_5 + 1)))
    else
      some (.br (.inl ()))
noncomputable def b64 (a : List Int) (b : List Int) : Option Bool :=
  if decide (¬(List.length a : Int) = (List.length b : Int)) then
    some false
  else
    (b08 (b65 a b) (0)).bind fun
      | (.inl ()) => c18
      | (.inr r') => some r'
def b97 (O : Orac) : Prop := ∀ (a : List Int) (b : List Int) (r : Bool) (hm0 : b64 a b = some r), Fn O "newel/newellaw10.sameInts" [.fs 1 (List.map eI a), .fs 1 (List.map eI b)] (B r)
def c19 : Option Bool := some true
def c3a (O : Orac) : Prop := ∀ (r : Bool) (hm0 : c19 = some r), Fn O "newel/newellaw10.works" [] (B r)
noncomputable def b4u (l : List Reading) : Option (Span × Int) :=
  (b4v l).bind fun y2 =>
  if decide (¬y2 = 0) then
    some ((Span.mk 0 0), y2)
  else
    (b5q l 0).bind fun y6 =>
    if (decide ((List.length l : Int) = 0)) || (!y6.2) then
      some ((Span.mk 0 0), 3)
    else
      some (y6.1, 0)
def b94 (O : Orac) : Prop := ∀ (l : List Reading) (r : Span × Int) (hm0 : b4u l = some r), Fn O "newel/faults.Truth" [.fs 4 (List.map b0w l)] (.tup [.agg [I r.1.Low, I r.1.High], I r.2])
noncomputable def b2s (n : Int) (low : Int) (high : Int) : Bool :=
  (decide (low ≤ n)) && (decide (n ≤ high))
def c0h (O : Orac) : Prop := ∀ (n : Int) (low : Int) (high : Int), Fn O "newel/newelref10.from" [I n, I low, I high] (B (b2s n low high))
noncomputable def c2r : Option Int :=
  some 0
noncomputable def b52 (l : List Reading) : Int → Option (Out Int (Unit ⊕ Int))
  | i_3 =>
    if decide (i_3 < (List.length l : Int)) then
      (get l i_3).bind fun x10 =>
      if (((!(b2s x10.Says (-100000) 100000)) || (!(b2s x10.Error 0 1000))) || (!(b2s x10.Drift 0 1000))) || (!(b2s x10.Days 0 1000)) then
        some (.br (.inr 100))
      else
        some (.nx (wr (i_3 + 1)))
    else
      some (.br (.inl ()))
noncomputable def b43 (l : List Reading) : Option Int :=
  if decide (12 < (List.length l : Int)) then
    some 2
  else
    (b08 (b52 l) (0)).bind fun
      | (.inl ()) => c2r
      | (.inr r') => some r'
def b7v (O : Orac) : Prop := ∀ (l : List Reading) (r : Int) (hm0 : b43 l = some r), Fn O "newel/newelref10.Check" [.fs 4 (List.map b0w l)] (I r)
noncomputable def b3t (r_ : Reading) : Span :=
  (Span.mk (wr (r_.Says - (wr (r_.Error + (wr (r_.Drift * r_.Days)))))) (wr (r_.Says + (wr (r_.Error + (wr (r_.Drift * r_.Days)))))))
def c0c (O : Orac) : Prop := ∀ (r_ : Reading), Fn O "newel/newelref10.Allows" [.agg [I r_.Says, I r_.Error, I r_.Drift, I r_.Days]] (.agg [I ((b3t r_).Low), I ((b3t r_).High)])
noncomputable def c2v (s_6_0 : Int) (s_6_1 : Int) : Option (Span × Bool) :=
  some ((Span.mk s_6_0 s_6_1), decide (s_6_0 ≤ s_6_1))
noncomputable def b58 (i_7 : Int) (s_6_0_1 : Int) (s_6_1_1 : Int) : Option (Out (Int × Int × Int) ((Int × Int))) :=
  some (.nx (s_6_0_1, s_6_1_1, wr (i_7 + 1)))
noncomputable def b7e (l : List Reading) (but : Int) : (Int × Int × Int) → Option (Out (Int × Int × Int) ((Int × Int)))
  | (s_6_0, s_6_1, i_7) =>
    if decide (i_7 < (List.length l : Int)) then
      (shr .i64 but (IntKind.wrap .u64 i_7)).bind fun q9 =>
      if decide ((b28 q9 1) = 0) then
        (get l i_7).bind fun x12 =>
        b58 i_7 (mx s_6_0 ((b3t x12).Low)) (mn s_6_1 ((b3t x12).High))
      else
        b58 i_7 s_6_0 s_6_1
    else
      some (.br (s_6_0, s_6_1))
noncomputable def b57 (l : List Reading) (but : Int) : Option (Span × Bool) :=
  (b08 (b7e l but) ((-1099511627776), 1099511627776, 0)).bind fun
    | (s_6_0, s_6_1) => c2v s_6_0 s_6_1
def b7w (O : Orac) : Prop := ∀ (l : List Reading) (but : Int) (r : Span × Bool) (hm0 : b57 l but = some r), Fn O "newel/newelref10.common" [.fs 4 (List.map b0w l), I but] (.tup [.agg [I r.1.Low, I r.1.High], B r.2])
noncomputable def b45 (l : List Reading) : Option (Span × Int) :=
  (b43 l).bind fun y2 =>
  if decide (¬y2 = 0) then
    some ((Span.mk 0 0), y2)
  else
    (b57 l 0).bind fun y6 =>
    if (!y6.2) || (decide ((List.length l : Int) = 0)) then
      some ((Span.mk 0 0), 3)
    else
      some (y6.1, 0)
def c0f (O : Orac) : Prop := ∀ (l : List Reading) (r : Span × Int) (hm0 : b45 l = some r), Fn O "newel/newelref10.Truth" [.fs 4 (List.map b0w l)] (.tup [.agg [I r.1.Low, I r.1.High], I r.2])
noncomputable def b7d (out_3 : List Int) : Option (List Int) :=
  some out_3
noncomputable def b56 (i_4 : Int) (out_3_1 : List Int) : Option (Out ((List Int) × Int) (((List Int)))) :=
  some (.nx (out_3_1, wr (i_4 + 1)))
noncomputable def b9j (set : Int) : ((List Int) × Int) → Option (Out ((List Int) × Int) (((List Int))))
  | (out_3, i_4) =>
    (shr .i64 set (IntKind.wrap .u64 i_4)).bind fun q5 =>
    if decide (0 < q5) then
      if decide ((b28 q5 1) = 1) then
        (ap 8 out_3 ([i_4])).bind fun l12 =>
        b56 i_4 l12
      else
        b56 i_4 out_3
    else
      some (.br out_3)
noncomputable def b55 (set : Int) : Option (List Int) :=
  (b08 (b9j set) ([], 0)).bind fun out_3 =>
  b7d out_3
def c0g (O : Orac) : Prop := ∀ (set : Int) (r : List Int) (hm0 : b55 set = some r), Fn O "newel/newelref10.bits" [I set] (.fs 1 (List.map eI r))
noncomputable def b9h (a : List Int) (b : List Int) : Option Bool :=
  some (decide ((List.length a : Int) < (List.length b : Int)))
noncomputable def b53 (a : List Int) (b : List Int) : Int → Option (Out Int (Unit ⊕ Bool))
  | i_5 =>
    if (decide (i_5 < (List.length a : Int))) && (decide (i_5 < (List.length b : Int))) then
      (get a i_5).bind fun x10 =>
      (get b i_5).bind fun x11 =>
      if decide (¬x10 = x11) then
        some (.br (.inr (decide (x10 < x11))))
      else
        some (.nx (wr (i_5 + 1)))
    else
      some (.br (.inl ()))
noncomputable def b7c (a : List Int) (b : List Int) : Option Bool :=
  (b08 (b53 a b) (0)).bind fun
    | (.inl ()) => b9h a b
    | (.inr r') => some r'
def c0d (O : Orac) : Prop := ∀ (a : List Int) (b : List Int) (r : Bool) (hm0 : b7c a b = some r), Fn O "newel/newelref10.Less" [.fs 1 (List.map eI a), .fs 1 (List.map eI b)] (B r)
noncomputable def b9i (best_5 : Option (List Int)) : Option ((List Int) × Int) :=
  some (Option.getD best_5 [], 0)
noncomputable def b4j (set_7 : Int) (best_5_1 : Option (List Int)) (found_6_1 : Bool) : Option (Out ((Option (List Int)) × Bool × Int) (((Option (List Int))))) :=
  some (.nx (best_5_1, found_6_1, wr (set_7 + 1)))
noncomputable def b54 (l : List Reading) : ((Option (List Int)) × Bool × Int) → Option (Out ((Option (List Int)) × Bool × Int) (((Option (List Int)))))
  | (best_5, found_6, set_7) =>
    (shl .i64 1 (IntKind.wrap .u64 (List.length l : Int))).bind fun q9 =>
    if decide (set_7 < q9) then
      (b57 l set_7).bind fun y15 =>
      (b55 set_7).bind fun y17 =>
      (if y15.2 then (if (!found_6) || (decide ((List.length y17 : Int) < (List.length (Option.getD best_5 []) : Int))) then some true else (if decide ((List.length y17 : Int) = (List.length (Option.getD best_5 []) : Int)) then (b7c y17 (Option.getD best_5 [])).bind fun y22 =>
      some y22 else some false).bind fun c23 =>
      some c23).bind fun c24 =>
      some c24 else some false).bind fun c25 =>
      if c25 then
        b4j set_7 (some y17) true
      else
        b4j set_7 best_5 found_6
    else
      some (.br best_5)
noncomputable def b44 (l : List Reading) : Option ((List Int) × Int) :=
  (b43 l).bind fun y2 =>
  if decide (¬y2 = 0) then
    some ([], y2)
  else
    (b08 (b54 l) (none, false, 0)).bind fun best_5 =>
    b9i best_5
def c0e (O : Orac) : Prop := ∀ (l : List Reading) (r : (List Int) × Int) (hm0 : b44 l = some r), Fn O "newel/newelref10.Liars" [.fs 4 (List.map b0w l)] (.tup [.fs 1 (List.map eI r.1), I r.2])
noncomputable def b63 (l : List Reading) : Option Bool :=
  if ((decide (8 < (List.length l : Int))) && (decide ((List.length l : Int) ≤ 12))) || (decide (14 < (List.length l : Int))) then
    (c19).bind fun y6 =>
    some y6
  else
    (ap 32 ([]) l).bind fun l8 =>
    (b4u l8).bind fun y10 =>
    (b45 l).bind fun y12 =>
    if (!(decide (y10.1.Low = y12.1.Low) && decide (y10.1.High = y12.1.High))) || (decide (¬y10.2 = y12.2)) then
      some false
    else
      (b4s l8).bind fun y17 =>
      (b44 l).bind fun y19 =>
      (b64 y17.1 y19.1).bind fun y23 =>
      (if y23 && (decide (y17.2 = y19.2)) then (c19).bind fun y24 =>
      some y24 else some false).bind fun c25 =>
      some c25
def c29 (O : Orac) : Prop := ∀ (l : List Reading) (r : Bool) (hm0 : b63 l = some r), Fn O "newel/newellaw10.FaultsSensors" [.fs 4 (List.map b0w l)] (B r)
end Go.Nw.FM
