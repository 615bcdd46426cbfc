/- Twins of the models, which the kernel evaluates. -/
import Derived.Test.YteoedeeljnboeaaNwTwin
import Derived.Test.YteoedeeljnboeaaHM
set_option linter.all false
set_option linter.unusedVariables false
set_option linter.unusedSimpArgs false
set_option linter.unusedSectionVars false
namespace Go.Nw.HM
set_option linter.unusedVariables false
noncomputable def c2v (n : Int) (s : Span) : Bool :=
  (decide (s.Low ≤ n)) && (decide (n ≤ s.High))
theorem c5p (n : Int) (s : Span) : c2v n s = b3a n s := by unfold c2v b3a; rfl
noncomputable def c2y (s : Span) (low : Int) (high : Int) : Bool :=
  ((decide (low ≤ s.Low)) && (decide (s.Low ≤ s.High))) && (decide (s.High ≤ high))
theorem c0t (s : Span) (low : Int) (high : Int) : c2y s low high = b4u s low high := by unfold c2y b4u; rfl
noncomputable def c9w (h_ : Hall) (i : Int) : Option Bool :=
  (get h_.Combs i).bind fun x2 =>
  some ((((c2v x2.Rate (Span.mk 0 1000)) && (c2v x2.Limit (Span.mk 0 100000))) && ((decide (x2.Next = (-1))) || ((decide (i < x2.Next)) && (decide (x2.Next < (List.length h_.Combs : Int)))))) && (c2y x2.Walk 1 20))
theorem d5s (h_ : Hall) (i : Int) : Le (c9w h_ i) (b8x h_ i) := by
  unfold c9w b8x
  repeat' first | with_reducible exact le_refl _ | with_reducible apply c5p | rw [c5p] | with_reducible apply c0t | rw [c0t] | refine b1p ?_ (fun _ => ?_) | refine b1q ?_ ?_ | refine b1r (fun _ => ?_) | intro _ | split
noncomputable def c83 (h_ : Hall) : Int → Option (Out Int (Unit ⊕ Int))
  | x_41 =>
    if decide (x_41 < (List.length h_.Combs : Int)) then
      (c9w h_ x_41).bind fun y45 =>
      if !y45 then
        some (.br (.inr 60))
      else
        some (.nx (wr (x_41 + 1)))
    else
      some (.br (.inl ()))
theorem d4y (h_ : Hall) : ∀ s_0, Le (c83 h_ s_0) (b7i h_ s_0) := by
  intro s_0
  unfold c83 b7i
  repeat' first | with_reducible exact le_refl _ | with_reducible apply d5s | rw [d5s] | refine b1p ?_ (fun _ => ?_) | refine b1q ?_ ?_ | refine b1r (fun _ => ?_) | intro _ | split
noncomputable def d2h (s : List Train) (f : Train → Option Bool) : Int → Option (Out Int (Unit ⊕ Int))
  | x_8 =>
    if decide (x_8 < (List.length s : Int)) then
      (get s x_8).bind fun x9 =>
      (f x9).bind fun y10 =>
      if y10 then
        some (.br (.inr x_8))
      else
        some (.nx (wr (x_8 + 1)))
    else
      some (.br (.inl ()))
theorem d99 (s : List Train) (f f' : Train → Option Bool) (hf : ∀ x0, Le (f x0) (f' x0)) : ∀ s_0, Le (d2h s f s_0) (c66 s f' s_0) := by
  intro s_0
  unfold d2h c66
  repeat' first | with_reducible exact le_refl _ | apply hf | refine b1p ?_ (fun _ => ?_) | refine b1q ?_ ?_ | refine b1r (fun _ => ?_) | intro _ | split
noncomputable def d2j : Option Int :=
  some (-1)
theorem g0a  : Le (d2j ) (c3y ) := by
  unfold d2j c3y
  repeat' first | with_reducible exact le_refl _ | refine b1p ?_ (fun _ => ?_) | refine b1q ?_ ?_ | refine b1r (fun _ => ?_) | intro _ | split
noncomputable def d2i (s : List Train) (f : Train → Option Bool) : Option Int :=
  (b3q (d2h s f) (0)).bind fun
    | (.inl ()) => d2j
    | (.inr r') => some r'
theorem g0b (s : List Train) (f f' : Train → Option Bool) (hf : ∀ x0, Le (f x0) (f' x0)) : Le (d2i s f) (c3x s f') := by
  unfold d2i c3x
  repeat' first | with_reducible exact le_refl _ | with_reducible apply d99 | rw [d99] | with_reducible apply g0a | rw [g0a] | apply hf | refine b1p ?_ (fun _ => ?_) | refine b1q ?_ ?_ | refine b1r (fun _ => ?_) | intro _ | split
noncomputable def d2d (s : List Train) (f : Train → Option Bool) : Option Bool :=
  (d2i s f).bind fun y2 =>
  some (decide (0 ≤ y2))
theorem d96 (s : List Train) (f f' : Train → Option Bool) (hf : ∀ x0, Le (f x0) (f' x0)) : Le (d2d s f) (c1h s f') := by
  unfold d2d c1h
  repeat' first | with_reducible exact le_refl _ | with_reducible apply g0b | rw [g0b] | apply hf | refine b1p ?_ (fun _ => ?_) | refine b1q ?_ ?_ | refine b1r (fun _ => ?_) | intro _ | split
noncomputable def c9y (h_ : Hall) (t_ : Train) : (Int × Int) → Option (Out (Int × Int) (Unit ⊕ Bool))
  | (last_5, x_11) =>
    if decide (x_11 < (List.length t_.Crowds : Int)) then
      (get t_.Crowds x_11).bind fun x9 =>
      if ((decide (x9.Comb ≤ last_5)) || (decide ((List.length h_.Combs : Int) ≤ x9.Comb))) || (!(c2y x9.People 0 1000)) then
        some (.br (.inr false))
      else
        some (.nx (x9.Comb, wr (x_11 + 1)))
    else
      some (.br (.inl ()))
theorem d5t (h_ : Hall) (t_ : Train) : ∀ s_0, Le (c9y h_ t_ s_0) (b6g h_ t_ s_0) := by
  intro s_0
  unfold c9y b6g
  repeat' first | with_reducible exact le_refl _ | with_reducible apply c0t | rw [c0t] | refine b1p ?_ (fun _ => ?_) | refine b1q ?_ ?_ | refine b1r (fun _ => ?_) | intro _ | split
noncomputable def c90 (h_ : Hall) (t_ : Train) : Option Bool :=
  some ((c2y t_.At 0 (wr (h_.Until - 1))) && (decide ((List.length t_.Crowds : Int) ≤ 4)))
theorem d5u (h_ : Hall) (t_ : Train) : Le (c90 h_ t_) (c0n h_ t_) := by
  unfold c90 c0n
  repeat' first | with_reducible exact le_refl _ | with_reducible apply c0t | rw [c0t] | refine b1p ?_ (fun _ => ?_) | refine b1q ?_ ?_ | refine b1r (fun _ => ?_) | intro _ | split
noncomputable def c9z (h_ : Hall) (t_ : Train) : Option Bool :=
  (b3q (c9y h_ t_) ((-1), 0)).bind fun
    | (.inl ()) => c90 h_ t_
    | (.inr r') => some r'
theorem d5v (h_ : Hall) (t_ : Train) : Le (c9z h_ t_) (b8z h_ t_) := by
  unfold c9z b8z
  repeat' first | with_reducible exact le_refl _ | with_reducible apply d5t | rw [d5t] | with_reducible apply d5u | rw [d5u] | refine b1p ?_ (fun _ => ?_) | refine b1q ?_ ?_ | refine b1r (fun _ => ?_) | intro _ | split
noncomputable def c81 (t_ : Train) (c0 : Hall) : Option Bool :=
  (c9z c0 t_).bind fun y2 =>
  some (!y2)
theorem d4w (t_ : Train) (c0 : Hall) : Le (c81 t_ c0) (b7g t_ c0) := by
  unfold c81 b7g
  repeat' first | with_reducible exact le_refl _ | with_reducible apply d5v | rw [d5v] | refine b1p ?_ (fun _ => ?_) | refine b1q ?_ ?_ | refine b1r (fun _ => ?_) | intro _ | split
noncomputable def c82 (h_ : Hall) : Int → Option (Out Int (Unit ⊕ Int))
  | x_56 =>
    if decide (x_56 < (List.length h_.Shifts : Int)) then
      (get h_.Shifts x_56).bind fun x23 =>
      (if (decide (x23.At < 0)) || (decide (h_.Until ≤ x23.At)) then some true else (if decide (0 < x_56) then (get h_.Shifts (wr (x_56 - 1))).bind fun x27 =>
      some (decide (x23.At < x27.At)) else some false).bind fun c28 =>
      some c28).bind fun c29 =>
      if ((c29 || (decide (x23.Comb < 0))) || (decide ((List.length h_.Combs : Int) ≤ x23.Comb))) || (!(c2v x23.Rate (Span.mk 0 1000))) then
        some (.br (.inr 60))
      else
        some (.nx (wr (x_56 + 1)))
    else
      some (.br (.inl ()))
theorem d4x (h_ : Hall) : ∀ s_0, Le (c82 h_ s_0) (b7h h_ s_0) := by
  intro s_0
  unfold c82 b7h
  repeat' first | with_reducible exact le_refl _ | with_reducible apply c5p | rw [c5p] | refine b1p ?_ (fun _ => ?_) | refine b1q ?_ ?_ | refine b1r (fun _ => ?_) | intro _ | split
noncomputable def c84 : Option Int :=
  some 0
theorem d4z  : Le (c84 ) (c2i ) := by
  unfold c84 c2i
  repeat' first | with_reducible exact le_refl _ | refine b1p ?_ (fun _ => ?_) | refine b1q ?_ ?_ | refine b1r (fun _ => ?_) | intro _ | split
noncomputable def c85 (h_ : Hall) : Option Int :=
  (d2d h_.Trains (fun z12 => c81 z12 h_)).bind fun y13 =>
  if y13 then
    some 60
  else
    (b3q (c82 h_) (0)).bind fun
      | (.inl ()) => c84
      | (.inr r') => some r'
theorem d40 (h_ : Hall) : Le (c85 h_) (c0b h_) := by
  unfold c85 c0b
  repeat' first | with_reducible exact le_refl _ | with_reducible apply d96 | rw [d96] | with_reducible apply d4w | rw [d4w] | with_reducible apply d4x | rw [d4x] | with_reducible apply d4z | rw [d4z] | refine b1p ?_ (fun _ => ?_) | refine b1q ?_ ?_ | refine b1r (fun _ => ?_) | intro _ | split
noncomputable def c49 (h_ : Hall) : Option Int :=
  if (((((decide (h_.Until < 1)) || (decide (100 < h_.Until))) || (decide ((List.length h_.Combs : Int) < 1))) || (decide (8 < (List.length h_.Combs : Int)))) || (decide (12 < (List.length h_.Trains : Int)))) || (decide (20 < (List.length h_.Shifts : Int))) then
    some 60
  else
    (b3q (c83 h_) (0)).bind fun
      | (.inl ()) => c85 h_
      | (.inr r') => some r'
theorem c5a (h_ : Hall) : Le (c49 h_) (b4s h_) := by
  unfold c49 b4s
  repeat' first | with_reducible exact le_refl _ | with_reducible apply d4y | rw [d4y] | with_reducible apply d40 | rw [d40] | refine b1p ?_ (fun _ => ?_) | refine b1q ?_ ?_ | refine b1r (fun _ => ?_) | intro _ | split
noncomputable def d2k (s : List Int) (f : Int → Option Bool) : Int → Option (Out Int (Unit ⊕ Int))
  | x_8 =>
    if decide (x_8 < (List.length s : Int)) then
      (get s x_8).bind fun x9 =>
      (f x9).bind fun y10 =>
      if y10 then
        some (.br (.inr x_8))
      else
        some (.nx (wr (x_8 + 1)))
    else
      some (.br (.inl ()))
theorem g0c (s : List Int) (f f' : Int → Option Bool) (hf : ∀ x0, Le (f x0) (f' x0)) : ∀ s_0, Le (d2k s f s_0) (c67 s f' s_0) := by
  intro s_0
  unfold d2k c67
  repeat' first | with_reducible exact le_refl _ | apply hf | refine b1p ?_ (fun _ => ?_) | refine b1q ?_ ?_ | refine b1r (fun _ => ?_) | intro _ | split
noncomputable def d2l : Option Int :=
  some (-1)
theorem g0d  : Le (d2l ) (c3z ) := by
  unfold d2l c3z
  repeat' first | with_reducible exact le_refl _ | refine b1p ?_ (fun _ => ?_) | refine b1q ?_ ?_ | refine b1r (fun _ => ?_) | intro _ | split
noncomputable def c68 (s : List Int) (f : Int → Option Bool) : Option Int :=
  (b3q (d2k s f) (0)).bind fun
    | (.inl ()) => d2l
    | (.inr r') => some r'
theorem c69 (s : List Int) (f f' : Int → Option Bool) (hf : ∀ x0, Le (f x0) (f' x0)) : Le (c68 s f) (c1i s f') := by
  unfold c68 c1i
  repeat' first | with_reducible exact le_refl _ | with_reducible apply g0c | rw [g0c] | with_reducible apply g0d | rw [g0d] | apply hf | refine b1p ?_ (fun _ => ?_) | refine b1q ?_ ?_ | refine b1r (fun _ => ?_) | intro _ | split
noncomputable def d2e (s : List Int) (f : Int → Option Bool) : Option Bool :=
  (c68 s f).bind fun y2 =>
  some (decide (0 ≤ y2))
theorem d97 (s : List Int) (f f' : Int → Option Bool) (hf : ∀ x0, Le (f x0) (f' x0)) : Le (d2e s f) (b9k s f') := by
  unfold d2e b9k
  repeat' first | with_reducible exact le_refl _ | with_reducible apply c69 | rw [c69] | apply hf | refine b1p ?_ (fun _ => ?_) | refine b1q ?_ ?_ | refine b1r (fun _ => ?_) | intro _ | split
noncomputable def c9u (t_ : Int) (c0 : Hall) : Bool :=
  (decide (t_ < 0)) || (decide (c0.Until ≤ t_))
theorem d5q (t_ : Int) (c0 : Hall) : c9u t_ c0 = b6w t_ c0 := by unfold c9u b6w; rfl
noncomputable def c9v (h_ : Hall) (comb : Int) (ticks : List Int) : Option Int :=
  (c49 h_).bind fun y2 =>
  if decide (¬y2 = 0) then
    some y2
  else
    (if (decide (comb < 0)) || (decide ((List.length h_.Combs : Int) ≤ comb)) then some true else (d2e ticks (fun z8 => some (c9u z8 h_))).bind fun y9 =>
    some y9).bind fun c10 =>
    if c10 then
      some 1
    else
      some 0
theorem d5r (h_ : Hall) (comb : Int) (ticks : List Int) : Le (c9v h_ comb ticks) (b6f h_ comb ticks) := by
  unfold c9v b6f
  repeat' first | with_reducible exact le_refl _ | with_reducible apply c5a | rw [c5a] | with_reducible apply d97 | rw [d97] | with_reducible apply d5q | rw [d5q] | refine b1p ?_ (fun _ => ?_) | refine b1q ?_ ?_ | refine b1r (fun _ => ?_) | intro _ | split
noncomputable def c5y (at_7_1 : Int) (now_6_2 : Int) : Option (Out (Int × Int) ((Int × Int))) :=
  some (.nx (now_6_2, wr (at_7_1 + 1)))
theorem d56 (at_7_1 : Int) (now_6_2 : Int) : Le (c5y at_7_1 now_6_2) (b82 at_7_1 now_6_2) := by
  unfold c5y b82
  repeat' first | with_reducible exact le_refl _ | refine b1p ?_ (fun _ => ?_) | refine b1q ?_ ?_ | refine b1r (fun _ => ?_) | intro _ | split
noncomputable def c96 (h_ : Hall) (comb : Int) (x_20 : Int) : (Int × Int) → Option (Out (Int × Int) ((Int × Int)))
  | (now_6_1, at_7_1) =>
    (if decide (at_7_1 < (List.length h_.Shifts : Int)) then (get h_.Shifts at_7_1).bind fun x19 =>
    some (decide (x19.At ≤ x_20)) else some false).bind fun c20 =>
    if c20 then
      (get h_.Shifts at_7_1).bind fun x27 =>
      if decide (x27.Comb = comb) then
        c5y at_7_1 x27.Rate
      else
        c5y at_7_1 now_6_1
    else
      some (.br (now_6_1, at_7_1))
theorem d52 (h_ : Hall) (comb : Int) (x_20 : Int) : ∀ s_0, Le (c96 h_ comb x_20 s_0) (b7y h_ comb x_20 s_0) := by
  intro s_0
  unfold c96 b7y
  repeat' first | with_reducible exact le_refl _ | with_reducible apply d56 | rw [d56] | refine b1p ?_ (fun _ => ?_) | refine b1q ?_ ?_ | refine b1r (fun _ => ?_) | intro _ | split
noncomputable def c99 (x_20 : Int) (out_5_1 : List Int) (now_6_1 : Int) (at_7_1 : Int) : Option (Out ((List Int) × Int × Int × Int) (((List Int)))) :=
  some (.nx (out_5_1, now_6_1, at_7_1, wr (x_20 + 1)))
theorem d54 (x_20 : Int) (out_5_1 : List Int) (now_6_1 : Int) (at_7_1 : Int) : Le (c99 x_20 out_5_1 now_6_1 at_7_1) (c0r x_20 out_5_1 now_6_1 at_7_1) := by
  unfold c99 c0r
  repeat' first | with_reducible exact le_refl _ | refine b1p ?_ (fun _ => ?_) | refine b1q ?_ ?_ | refine b1r (fun _ => ?_) | intro _ | split
noncomputable def d0a (out_5 : List Int) (x_20 : Int) (now_6_1 : Int) (at_7_1 : Int) : Option (Out ((List Int) × Int × Int × Int) (((List Int)))) :=
  (get out_5 x_20).bind fun x15 =>
  c99 x_20 (List.set out_5 (Int.toNat x_20) now_6_1) now_6_1 at_7_1
theorem d55 (out_5 : List Int) (x_20 : Int) (now_6_1 : Int) (at_7_1 : Int) : Le (d0a out_5 x_20 now_6_1 at_7_1) (c0s out_5 x_20 now_6_1 at_7_1) := by
  unfold d0a c0s
  repeat' first | with_reducible exact le_refl _ | with_reducible apply d54 | rw [d54] | refine b1p ?_ (fun _ => ?_) | refine b1q ?_ ?_ | refine b1r (fun _ => ?_) | intro _ | split
noncomputable def c97 (h_ : Hall) (comb : Int) (l2 : List Int) : ((List Int) × Int × Int × Int) → Option (Out ((List Int) × Int × Int × Int) (((List Int))))
  | (out_5, now_6, at_7, x_20) =>
    if decide (x_20 < ((List.length l2 : Nat) : Int)) then
      (b3q (c96 h_ comb x_20) (now_6, at_7)).bind fun
        | (now_6_1, at_7_1) => d0a out_5 x_20 now_6_1 at_7_1
    else
      some (.br out_5)
theorem d53 (h_ : Hall) (comb : Int) (l2 : List Int) : ∀ s_0, Le (c97 h_ comb l2 s_0) (b81 h_ comb l2 s_0) := by
  intro s_0
  unfold c97 b81
  repeat' first | with_reducible exact le_refl _ | with_reducible apply d52 | rw [d52] | with_reducible apply d55 | rw [d55] | refine b1p ?_ (fun _ => ?_) | refine b1q ?_ ?_ | refine b1r (fun _ => ?_) | intro _ | split
noncomputable def d0b (out_5 : List Int) : Option (List Int) :=
  some out_5
theorem d57 (out_5 : List Int) : Le (d0b out_5) (c2x out_5) := by
  unfold d0b c2x
  repeat' first | with_reducible exact le_refl _ | refine b1p ?_ (fun _ => ?_) | refine b1q ?_ ?_ | refine b1r (fun _ => ?_) | intro _ | split
noncomputable def c98 (h_ : Hall) (comb : Int) : Option (List Int) :=
  (mks 8 h_.Until 0).bind fun l2 =>
  (get h_.Combs comb).bind fun x4 =>
  (b3q (c97 h_ comb l2) (l2, x4.Rate, 0, 0)).bind fun out_5 =>
  d0b out_5
theorem d58 (h_ : Hall) (comb : Int) : Le (c98 h_ comb) (b7x h_ comb) := by
  unfold c98 b7x
  repeat' first | with_reducible exact le_refl _ | with_reducible apply d53 | rw [d53] | with_reducible apply d57 | rw [d57] | refine b1p ?_ (fun _ => ?_) | refine b1q ?_ ?_ | refine b1r (fun _ => ?_) | intro _ | split
noncomputable def c91 (h_ : Hall) : ((List (List Int)) × Int) → Option (Out ((List (List Int)) × Int) (((List (List Int)))))
  | (out_2, x_7) =>
    if decide (x_7 < (List.length h_.Combs : Int)) then
      (c98 h_ x_7).bind fun y9 =>
      (ap 24 out_2 ([y9])).bind fun l10 =>
      some (.nx (l10, wr (x_7 + 1)))
    else
      some (.br out_2)
theorem d5w (h_ : Hall) : ∀ s_0, Le (c91 h_ s_0) (b7w h_ s_0) := by
  intro s_0
  unfold c91 b7w
  repeat' first | with_reducible exact le_refl _ | with_reducible apply d58 | rw [d58] | refine b1p ?_ (fun _ => ?_) | refine b1q ?_ ?_ | refine b1r (fun _ => ?_) | intro _ | split
noncomputable def c92 (out_2 : List (List Int)) : Option (List (List Int)) :=
  some out_2
theorem d5x (out_2 : List (List Int)) : Le (c92 out_2) (b80 out_2) := by
  unfold c92 b80
  repeat' first | with_reducible exact le_refl _ | refine b1p ?_ (fun _ => ?_) | refine b1q ?_ ?_ | refine b1r (fun _ => ?_) | intro _ | split
noncomputable def c5s (h_ : Hall) : Option (List (List Int)) :=
  (b3q (c91 h_) ([], 0)).bind fun out_2 =>
  c92 out_2
theorem c5t (h_ : Hall) : Le (c5s h_) (b4t h_) := by
  unfold c5s b4t
  repeat' first | with_reducible exact le_refl _ | with_reducible apply d5w | rw [d5w] | with_reducible apply d5x | rw [d5x] | refine b1p ?_ (fun _ => ?_) | refine b1q ?_ ?_ | refine b1r (fun _ => ?_) | intro _ | split
noncomputable def c5o (x_16 : Int) (sum_8_1 : Int) : Option (Out (Int × Int) Int) :=
  some (.nx (sum_8_1, wr (x_16 + 1)))
theorem d5o (x_16 : Int) (sum_8_1 : Int) : Le (c5o x_16 sum_8_1) (b7u x_16 sum_8_1) := by
  unfold c5o b7u
  repeat' first | with_reducible exact le_refl _ | refine b1p ?_ (fun _ => ?_) | refine b1q ?_ ?_ | refine b1r (fun _ => ?_) | intro _ | split
noncomputable def c5n (x_35 : Int) (sum_8_2 : Int) : Option (Out (Int × Int) Int) :=
  some (.nx (sum_8_2, wr (x_35 + 1)))
theorem d5m (x_35 : Int) (sum_8_2 : Int) : Le (c5n x_35 sum_8_2) (b7t x_35 sum_8_2) := by
  unfold c5n b7t
  repeat' first | with_reducible exact le_refl _ | refine b1p ?_ (fun _ => ?_) | refine b1q ?_ ?_ | refine b1r (fun _ => ?_) | intro _ | split
noncomputable def c9q (comb : Int) (x9 : Train) : (Int × Int) → Option (Out (Int × Int) Int)
  | (sum_8_1, x_35) =>
    if decide (x_35 < (List.length x9.Crowds : Int)) then
      (get x9.Crowds x_35).bind fun x19 =>
      if decide (x19.Comb = comb) then
        c5n x_35 (wr (sum_8_1 + x19.People.High))
      else
        c5n x_35 sum_8_1
    else
      some (.br sum_8_1)
theorem d5k (comb : Int) (x9 : Train) : ∀ s_0, Le (c9q comb x9 s_0) (b8v comb x9 s_0) := by
  intro s_0
  unfold c9q b8v
  repeat' first | with_reducible exact le_refl _ | with_reducible apply d5m | rw [d5m] | refine b1p ?_ (fun _ => ?_) | refine b1q ?_ ?_ | refine b1r (fun _ => ?_) | intro _ | split
noncomputable def c9r (h_ : Hall) (comb : Int) (from_ : Int) (to_ : Int) : (Int × Int) → Option (Out (Int × Int) Int)
  | (sum_8, x_16) =>
    if decide (x_16 < (List.length h_.Trains : Int)) then
      (get h_.Trains x_16).bind fun x9 =>
      if (decide (x9.At.High < from_)) || (decide (to_ < x9.At.Low)) then
        c5o x_16 sum_8
      else
        (b3q (c9q comb x9) (sum_8, 0)).bind fun sum_8_1 =>
        c5o x_16 sum_8_1
    else
      some (.br sum_8)
theorem d5l (h_ : Hall) (comb : Int) (from_ : Int) (to_ : Int) : ∀ s_0, Le (c9r h_ comb from_ to_ s_0) (b8w h_ comb from_ to_ s_0) := by
  intro s_0
  unfold c9r b8w
  repeat' first | with_reducible exact le_refl _ | with_reducible apply d5o | rw [d5o] | with_reducible apply d5k | rw [d5k] | refine b1p ?_ (fun _ => ?_) | refine b1q ?_ ?_ | refine b1r (fun _ => ?_) | intro _ | split
noncomputable def c9t (sum_8 : Int) : Option Int :=
  some sum_8
theorem d5n (sum_8 : Int) : Le (c9t sum_8) (c2u sum_8) := by
  unfold c9t c2u
  repeat' first | with_reducible exact le_refl _ | refine b1p ?_ (fun _ => ?_) | refine b1q ?_ ?_ | refine b1r (fun _ => ?_) | intro _ | split
noncomputable def c9s (h_ : Hall) (comb : Int) (from_ : Int) (to_ : Int) : Option Int :=
  (b3q (c9r h_ comb from_ to_) (0, 0)).bind fun sum_8 =>
  c9t sum_8
theorem d5p (h_ : Hall) (comb : Int) (from_ : Int) (to_ : Int) : Le (c9s h_ comb from_ to_) (b8u h_ comb from_ to_) := by
  unfold c9s b8u
  repeat' first | with_reducible exact le_refl _ | with_reducible apply d5l | rw [d5l] | with_reducible apply d5n | rw [d5n] | refine b1p ?_ (fun _ => ?_) | refine b1q ?_ ?_ | refine b1r (fun _ => ?_) | intro _ | split
noncomputable def c4l (b : halls_bound) (from_ : Int) (least_7 : Int) (k_8 : Int) (behind_9 : Int) : Option (Out (Int × Int) Int) :=
  (get b.flow k_8).bind fun x23 =>
  (get b.flow (mx from_ 0)).bind fun x24 =>
  (get b.most k_8).bind fun x25 =>
  some (.nx (mn least_7 (wr ((wr ((wr (x23 - x24)) + x25)) + behind_9)), wr (k_8 + 1)))
theorem d3f (b : halls_bound) (from_ : Int) (least_7 : Int) (k_8 : Int) (behind_9 : Int) : Le (c4l b from_ least_7 k_8 behind_9) (b68 b from_ least_7 k_8 behind_9) := by
  unfold c4l b68
  repeat' first | with_reducible exact le_refl _ | refine b1p ?_ (fun _ => ?_) | refine b1q ?_ ?_ | refine b1r (fun _ => ?_) | intro _ | split
noncomputable def c77 (b : halls_bound) (from_ : Int) (to_ : Int) : (Int × Int) → Option (Out (Int × Int) Int)
  | (least_7, k_8) =>
    if decide (k_8 ≤ to_) then
      if decide (k_8 < to_) then
        (get b.come (wr (k_8 + 1))).bind fun x29 =>
        (get x29 to_).bind fun x30 =>
        c4l b from_ least_7 k_8 x30
      else
        c4l b from_ least_7 k_8 0
    else
      some (.br least_7)
theorem d3d (b : halls_bound) (from_ : Int) (to_ : Int) : ∀ s_0, Le (c77 b from_ to_ s_0) (b8k b from_ to_ s_0) := by
  intro s_0
  unfold c77 b8k
  repeat' first | with_reducible exact le_refl _ | with_reducible apply d3f | rw [d3f] | refine b1p ?_ (fun _ => ?_) | refine b1q ?_ ?_ | refine b1r (fun _ => ?_) | intro _ | split
noncomputable def c79 (least_7 : Int) : Option Int :=
  some least_7
theorem d3e (least_7 : Int) : Le (c79 least_7) (b9v least_7) := by
  unfold c79 b9v
  repeat' first | with_reducible exact le_refl _ | refine b1p ?_ (fun _ => ?_) | refine b1q ?_ ?_ | refine b1r (fun _ => ?_) | intro _ | split
noncomputable def c78 (b : halls_bound) (from_ : Int) (to_ : Int) : Option Int :=
  if (decide (to_ < from_)) || (decide (to_ < 0)) then
    some 0
  else
    (get b.come 0).bind fun x8 =>
    (get x8 to_).bind fun x9 =>
    (get b.flow (wr (to_ + 1))).bind fun x10 =>
    (get b.flow (mx from_ 0)).bind fun x11 =>
    (b3q (c77 b from_ to_) (mn x9 (wr (x10 - x11)), mx from_ 0)).bind fun least_7 =>
    c79 least_7
theorem d3g (b : halls_bound) (from_ : Int) (to_ : Int) : Le (c78 b from_ to_) (b8j b from_ to_) := by
  unfold c78 b8j
  repeat' first | with_reducible exact le_refl _ | with_reducible apply d3d | rw [d3d] | with_reducible apply d3e | rw [d3e] | refine b1p ?_ (fun _ => ?_) | refine b1q ?_ ?_ | refine b1r (fun _ => ?_) | intro _ | split
noncomputable def c5l (x_54 : Int) (row_9_2 : List Int) : Option (Out ((List Int) × Int) (((List Int)))) :=
  some (.nx (row_9_2, wr (x_54 + 1)))
theorem d5i (x_54 : Int) (row_9_2 : List Int) : Le (c5l x_54 row_9_2) (b6e x_54 row_9_2) := by
  unfold c5l b6e
  repeat' first | with_reducible exact le_refl _ | refine b1p ?_ (fun _ => ?_) | refine b1q ?_ ?_ | refine b1r (fun _ => ?_) | intro _ | split
noncomputable def c9b (all_5 : List halls_bound) (x_19 : Int) (x_28 : Int) (t_10 : Int) (l76 : List Comb) : ((List Int) × Int) → Option (Out ((List Int) × Int) (((List Int))))
  | (row_9_1, x_54) =>
    if decide (x_54 < (List.length l76 : Int)) then
      (get l76 x_54).bind fun x83 =>
      if decide (x83.Next = x_19) then
        (get row_9_1 t_10).bind fun x89 =>
        (get all_5 x_54).bind fun x90 =>
        (c78 x90 (wr (x_28 - x83.Walk.High)) (wr (t_10 - x83.Walk.Low))).bind fun y92 =>
        c5l x_54 (List.set row_9_1 (Int.toNat t_10) (wr (x89 + y92)))
      else
        c5l x_54 row_9_1
    else
      some (.br row_9_1)
theorem d44 (all_5 : List halls_bound) (x_19 : Int) (x_28 : Int) (t_10 : Int) (l76 : List Comb) : ∀ s_0, Le (c9b all_5 x_19 x_28 t_10 l76 s_0) (b7j all_5 x_19 x_28 t_10 l76 s_0) := by
  intro s_0
  unfold c9b b7j
  repeat' first | with_reducible exact le_refl _ | with_reducible apply d3g | rw [d3g] | with_reducible apply d5i | rw [d5i] | refine b1p ?_ (fun _ => ?_) | refine b1q ?_ ?_ | refine b1r (fun _ => ?_) | intro _ | split
noncomputable def c9n (t_10 : Int) (row_9_1 : List Int) : Option (Out ((List Int) × Int) (((List Int)))) :=
  some (.nx (row_9_1, wr (t_10 + 1)))
theorem d5g (t_10 : Int) (row_9_1 : List Int) : Le (c9n t_10 row_9_1) (b7r t_10 row_9_1) := by
  unfold c9n b7r
  repeat' first | with_reducible exact le_refl _ | refine b1p ?_ (fun _ => ?_) | refine b1q ?_ ?_ | refine b1r (fun _ => ?_) | intro _ | split
noncomputable def c9c (h_ : Hall) (all_5 : List halls_bound) (x_19 : Int) (x_28 : Int) : ((List Int) × Int) → Option (Out ((List Int) × Int) (((List Int))))
  | (row_9, t_10) =>
    if decide (t_10 < h_.Until) then
      (c9s h_ x_19 x_28 t_10).bind fun y73 =>
      (get row_9 t_10).bind fun x74 =>
      (sub h_.Combs 0 x_19).bind fun l76 =>
      (b3q (c9b all_5 x_19 x_28 t_10 l76) ((List.set row_9 (Int.toNat t_10) y73), 0)).bind fun row_9_1 =>
      c9n t_10 row_9_1
    else
      some (.br row_9)
theorem d45 (h_ : Hall) (all_5 : List halls_bound) (x_19 : Int) (x_28 : Int) : ∀ s_0, Le (c9c h_ all_5 x_19 x_28 s_0) (b6s h_ all_5 x_19 x_28 s_0) := by
  intro s_0
  unfold c9c b6s
  repeat' first | with_reducible exact le_refl _ | with_reducible apply d5p | rw [d5p] | with_reducible apply d44 | rw [d44] | with_reducible apply d5g | rw [d5g] | refine b1p ?_ (fun _ => ?_) | refine b1q ?_ ?_ | refine b1r (fun _ => ?_) | intro _ | split
noncomputable def c9l (x_28 : Int) (b_7_0_1 : List Int) (b_7_3_1 : List (List Int)) : Option (Out ((List Int) × (List (List Int)) × Int) (((List Int) × (List (List Int))))) :=
  some (.nx (b_7_0_1, b_7_3_1, wr (x_28 + 1)))
theorem d5e (x_28 : Int) (b_7_0_1 : List Int) (b_7_3_1 : List (List Int)) : Le (c9l x_28 b_7_0_1 b_7_3_1) (b7o x_28 b_7_0_1 b_7_3_1) := by
  unfold c9l b7o
  repeat' first | with_reducible exact le_refl _ | refine b1p ?_ (fun _ => ?_) | refine b1q ?_ ?_ | refine b1r (fun _ => ?_) | intro _ | split
noncomputable def c9m (open_ : List (List Int)) (x_19 : Int) (b_7_0 : List Int) (b_7_3 : List (List Int)) (x_28 : Int) (row_9 : List Int) : Option (Out ((List Int) × (List (List Int)) × Int) (((List Int) × (List (List Int))))) :=
  (ap 24 b_7_3 ([row_9])).bind fun l57 =>
  (get b_7_0 x_28).bind fun x62 =>
  (get open_ x_19).bind fun x63 =>
  (get x63 x_28).bind fun x64 =>
  (ap 8 b_7_0 ([wr (x62 + x64)])).bind fun l65 =>
  c9l x_28 l65 l57
theorem d5f (open_ : List (List Int)) (x_19 : Int) (b_7_0 : List Int) (b_7_3 : List (List Int)) (x_28 : Int) (row_9 : List Int) : Le (c9m open_ x_19 b_7_0 b_7_3 x_28 row_9) (b7p open_ x_19 b_7_0 b_7_3 x_28 row_9) := by
  unfold c9m b7p
  repeat' first | with_reducible exact le_refl _ | with_reducible apply d5e | rw [d5e] | refine b1p ?_ (fun _ => ?_) | refine b1q ?_ ?_ | refine b1r (fun _ => ?_) | intro _ | split
noncomputable def c9d (h_ : Hall) (open_ : List (List Int)) (all_5 : List halls_bound) (x_19 : Int) : ((List Int) × (List (List Int)) × Int) → Option (Out ((List Int) × (List (List Int)) × Int) (((List Int) × (List (List Int)))))
  | (b_7_0, b_7_3, x_28) =>
    if decide (x_28 < h_.Until) then
      (mks 8 h_.Until 0).bind fun l53 =>
      (b3q (c9c h_ all_5 x_19 x_28) (l53, x_28)).bind fun row_9 =>
      c9m open_ x_19 b_7_0 b_7_3 x_28 row_9
    else
      some (.br (b_7_0, b_7_3))
theorem d46 (h_ : Hall) (open_ : List (List Int)) (all_5 : List halls_bound) (x_19 : Int) : ∀ s_0, Le (c9d h_ open_ all_5 x_19 s_0) (b6t h_ open_ all_5 x_19 s_0) := by
  intro s_0
  unfold c9d b6t
  repeat' first | with_reducible exact le_refl _ | with_reducible apply d45 | rw [d45] | with_reducible apply d5f | rw [d5f] | refine b1p ?_ (fun _ => ?_) | refine b1q ?_ ?_ | refine b1r (fun _ => ?_) | intro _ | split
noncomputable def c9e (b_7_0 : List Int) (b_7_3 : List (List Int)) (x_122 : Int) : (Int × Int) → Option (Out (Int × Int) Int)
  | (most_14, x_127) =>
    if decide (x_127 < (wr (x_122 + 1))) then
      (get b_7_3 x_127).bind fun x40 =>
      (get x40 x_122).bind fun x42 =>
      (get b_7_0 x_122).bind fun x43 =>
      (get b_7_0 x_127).bind fun x44 =>
      some (.nx (mx most_14 (wr (x42 - (wr (x43 - x44)))), wr (x_127 + 1)))
    else
      some (.br most_14)
theorem d47 (b_7_0 : List Int) (b_7_3 : List (List Int)) (x_122 : Int) : ∀ s_0, Le (c9e b_7_0 b_7_3 x_122 s_0) (b6u b_7_0 b_7_3 x_122 s_0) := by
  intro s_0
  unfold c9e b6u
  repeat' first | with_reducible exact le_refl _ | refine b1p ?_ (fun _ => ?_) | refine b1q ?_ ?_ | refine b1r (fun _ => ?_) | intro _ | split
noncomputable def c9i (x_122 : Int) (b_7_1_1 : List Int) (b_7_2_1 : List Int) : Option (Out ((List Int) × (List Int) × Int) (((List Int) × (List Int)))) :=
  some (.nx (b_7_1_1, b_7_2_1, wr (x_122 + 1)))
theorem d5b (x_122 : Int) (b_7_1_1 : List Int) (b_7_2_1 : List Int) : Le (c9i x_122 b_7_1_1 b_7_2_1) (b7m x_122 b_7_1_1 b_7_2_1) := by
  unfold c9i b7m
  repeat' first | with_reducible exact le_refl _ | refine b1p ?_ (fun _ => ?_) | refine b1q ?_ ?_ | refine b1r (fun _ => ?_) | intro _ | split
noncomputable def c9j (open_ : List (List Int)) (x_19 : Int) (b_7_1 : List Int) (b_7_2 : List Int) (x_122 : Int) (most_14 : Int) : Option (Out ((List Int) × (List Int) × Int) (((List Int) × (List Int)))) :=
  (ap 8 b_7_2 ([most_14])).bind fun l22 =>
  (get b_7_1 x_122).bind fun x27 =>
  (get open_ x_19).bind fun x28 =>
  (get x28 x_122).bind fun x29 =>
  (ap 8 b_7_1 ([wr (x27 + (mn most_14 x29))])).bind fun l30 =>
  c9i x_122 l30 l22
theorem d5c (open_ : List (List Int)) (x_19 : Int) (b_7_1 : List Int) (b_7_2 : List Int) (x_122 : Int) (most_14 : Int) : Le (c9j open_ x_19 b_7_1 b_7_2 x_122 most_14) (b7n open_ x_19 b_7_1 b_7_2 x_122 most_14) := by
  unfold c9j b7n
  repeat' first | with_reducible exact le_refl _ | with_reducible apply d5b | rw [d5b] | refine b1p ?_ (fun _ => ?_) | refine b1q ?_ ?_ | refine b1r (fun _ => ?_) | intro _ | split
noncomputable def c9f (h_ : Hall) (open_ : List (List Int)) (x_19 : Int) (b_7_0 : List Int) (b_7_3 : List (List Int)) : ((List Int) × (List Int) × Int) → Option (Out ((List Int) × (List Int) × Int) (((List Int) × (List Int))))
  | (b_7_1, b_7_2, x_122) =>
    if decide (x_122 < h_.Until) then
      (b3q (c9e b_7_0 b_7_3 x_122) (0, 0)).bind fun most_14 =>
      c9j open_ x_19 b_7_1 b_7_2 x_122 most_14
    else
      some (.br (b_7_1, b_7_2))
theorem d48 (h_ : Hall) (open_ : List (List Int)) (x_19 : Int) (b_7_0 : List Int) (b_7_3 : List (List Int)) : ∀ s_0, Le (c9f h_ open_ x_19 b_7_0 b_7_3 s_0) (b6v h_ open_ x_19 b_7_0 b_7_3 s_0) := by
  intro s_0
  unfold c9f b6v
  repeat' first | with_reducible exact le_refl _ | with_reducible apply d47 | rw [d47] | with_reducible apply d5c | rw [d5c] | refine b1p ?_ (fun _ => ?_) | refine b1q ?_ ?_ | refine b1r (fun _ => ?_) | intro _ | split
noncomputable def c9o (x_19 : Int) (all_5_1 : List halls_bound) : Option (Out ((List halls_bound) × Int) (((List halls_bound)))) :=
  some (.nx (all_5_1, wr (x_19 + 1)))
theorem d5h (x_19 : Int) (all_5_1 : List halls_bound) : Le (c9o x_19 all_5_1) (b7q x_19 all_5_1) := by
  unfold c9o b7q
  repeat' first | with_reducible exact le_refl _ | refine b1p ?_ (fun _ => ?_) | refine b1q ?_ ?_ | refine b1r (fun _ => ?_) | intro _ | split
noncomputable def c9h (all_5 : List halls_bound) (x_19 : Int) (b_7_0 : List Int) (b_7_3 : List (List Int)) (b_7_1 : List Int) (b_7_2 : List Int) : Option (Out ((List halls_bound) × Int) (((List halls_bound)))) :=
  (ap 8 all_5 ([(halls_bound.mk b_7_0 b_7_1 b_7_2 b_7_3)])).bind fun l13 =>
  c9o x_19 l13
theorem d5a (all_5 : List halls_bound) (x_19 : Int) (b_7_0 : List Int) (b_7_3 : List (List Int)) (b_7_1 : List Int) (b_7_2 : List Int) : Le (c9h all_5 x_19 b_7_0 b_7_3 b_7_1 b_7_2) (b7l all_5 x_19 b_7_0 b_7_3 b_7_1 b_7_2) := by
  unfold c9h b7l
  repeat' first | with_reducible exact le_refl _ | with_reducible apply d5h | rw [d5h] | refine b1p ?_ (fun _ => ?_) | refine b1q ?_ ?_ | refine b1r (fun _ => ?_) | intro _ | split
noncomputable def c9p (h_ : Hall) (open_ : List (List Int)) (all_5 : List halls_bound) (x_19 : Int) (b_7_0 : List Int) (b_7_3 : List (List Int)) : Option (Out ((List halls_bound) × Int) (((List halls_bound)))) :=
  (b3q (c9f h_ open_ x_19 b_7_0 b_7_3) ([0], [], 0)).bind fun
    | (b_7_1, b_7_2) => c9h all_5 x_19 b_7_0 b_7_3 b_7_1 b_7_2
theorem d5j (h_ : Hall) (open_ : List (List Int)) (all_5 : List halls_bound) (x_19 : Int) (b_7_0 : List Int) (b_7_3 : List (List Int)) : Le (c9p h_ open_ all_5 x_19 b_7_0 b_7_3) (b7s h_ open_ all_5 x_19 b_7_0 b_7_3) := by
  unfold c9p b7s
  repeat' first | with_reducible exact le_refl _ | with_reducible apply d48 | rw [d48] | with_reducible apply d5a | rw [d5a] | refine b1p ?_ (fun _ => ?_) | refine b1q ?_ ?_ | refine b1r (fun _ => ?_) | intro _ | split
noncomputable def c9g (h_ : Hall) (open_ : List (List Int)) : ((List halls_bound) × Int) → Option (Out ((List halls_bound) × Int) (((List halls_bound))))
  | (all_5, x_19) =>
    if decide (x_19 < (List.length h_.Combs : Int)) then
      (b3q (c9d h_ open_ all_5 x_19) ([0], [], 0)).bind fun
        | (b_7_0, b_7_3) => c9p h_ open_ all_5 x_19 b_7_0 b_7_3
    else
      some (.br all_5)
theorem d49 (h_ : Hall) (open_ : List (List Int)) : ∀ s_0, Le (c9g h_ open_ s_0) (b7k h_ open_ s_0) := by
  intro s_0
  unfold c9g b7k
  repeat' first | with_reducible exact le_refl _ | with_reducible apply d46 | rw [d46] | with_reducible apply d5j | rw [d5j] | refine b1p ?_ (fun _ => ?_) | refine b1q ?_ ?_ | refine b1r (fun _ => ?_) | intro _ | split
noncomputable def c9k (all_5 : List halls_bound) : Option (List halls_bound) :=
  some all_5
theorem d5d (all_5 : List halls_bound) : Le (c9k all_5) (b8t all_5) := by
  unfold c9k b8t
  repeat' first | with_reducible exact le_refl _ | refine b1p ?_ (fun _ => ?_) | refine b1q ?_ ?_ | refine b1r (fun _ => ?_) | intro _ | split
noncomputable def c5k (h_ : Hall) (open_ : List (List Int)) : Option (List halls_bound) :=
  (b3q (c9g h_ open_) ([], 0)).bind fun all_5 =>
  c9k all_5
theorem c5m (h_ : Hall) (open_ : List (List Int)) : Le (c5k h_ open_) (b44 h_ open_) := by
  unfold c5k b44
  repeat' first | with_reducible exact le_refl _ | with_reducible apply d49 | rw [d49] | with_reducible apply d5d | rw [d5d] | refine b1p ?_ (fun _ => ?_) | refine b1q ?_ ?_ | refine b1r (fun _ => ?_) | intro _ | split
noncomputable def c93 (n : Int) (c0 : Hall) (c1 : Int) : Option Bool :=
  (get c0.Combs c1).bind fun x2 =>
  some (decide (x2.Limit < n))
theorem d5y (n : Int) (c0 : Hall) (c1 : Int) : Le (c93 n c0 c1) (c0p n c0 c1) := by
  unfold c93 c0p
  repeat' first | with_reducible exact le_refl _ | refine b1p ?_ (fun _ => ?_) | refine b1q ?_ ?_ | refine b1r (fun _ => ?_) | intro _ | split
noncomputable def c5w (x_10 : Int) (out_4_1 : List (Int × Int)) : Option (Out ((List (Int × Int)) × Int) (((List (Int × Int))))) :=
  some (.nx (out_4_1, wr (x_10 + 1)))
theorem d51 (x_10 : Int) (out_4_1 : List (Int × Int)) : Le (c5w x_10 out_4_1) (c0q x_10 out_4_1) := by
  unfold c5w c0q
  repeat' first | with_reducible exact le_refl _ | refine b1p ?_ (fun _ => ?_) | refine b1q ?_ ?_ | refine b1r (fun _ => ?_) | intro _ | split
noncomputable def c94 (h_ : Hall) (all : List halls_bound) : ((List (Int × Int)) × Int) → Option (Out ((List (Int × Int)) × Int) (((List (Int × Int)))))
  | (out_4, x_10) =>
    if decide (x_10 < (List.length all : Int)) then
      (get all x_10).bind fun x9 =>
      (c68 x9.most (fun z12 => c93 z12 h_ x_10)).bind fun y13 =>
      if decide (0 ≤ y13) then
        (ap 16 out_4 ([(x_10, y13)])).bind fun l16 =>
        c5w x_10 l16
      else
        c5w x_10 out_4
    else
      some (.br out_4)
theorem d5z (h_ : Hall) (all : List halls_bound) : ∀ s_0, Le (c94 h_ all s_0) (c5u h_ all s_0) := by
  intro s_0
  unfold c94 c5u
  repeat' first | with_reducible exact le_refl _ | with_reducible apply c69 | rw [c69] | with_reducible apply d5y | rw [d5y] | with_reducible apply d51 | rw [d51] | refine b1p ?_ (fun _ => ?_) | refine b1q ?_ ?_ | refine b1r (fun _ => ?_) | intro _ | split
noncomputable def c95 (out_4 : List (Int × Int)) : Option (List (Int × Int)) :=
  some out_4
theorem d50 (out_4 : List (Int × Int)) : Le (c95 out_4) (c2w out_4) := by
  unfold c95 c2w
  repeat' first | with_reducible exact le_refl _ | refine b1p ?_ (fun _ => ?_) | refine b1q ?_ ?_ | refine b1r (fun _ => ?_) | intro _ | split
noncomputable def c5v (h_ : Hall) (all : List halls_bound) : Option (List (Int × Int)) :=
  (b3q (c94 h_ all) ([], 0)).bind fun out_4 =>
  c95 out_4
theorem c5x (h_ : Hall) (all : List halls_bound) : Le (c5v h_ all) (c0o h_ all) := by
  unfold c5v c0o
  repeat' first | with_reducible exact le_refl _ | with_reducible apply d5z | rw [d5z] | with_reducible apply d50 | rw [d50] | refine b1p ?_ (fun _ => ?_) | refine b1q ?_ ?_ | refine b1r (fun _ => ?_) | intro _ | split
noncomputable def c86 (h_ : Hall) (comb : Int) (from_ : Int) : ((List (List Int)) × Int) → Option (Out ((List (List Int)) × Int) (((Int × Int))))
  | (all_9, n_10) =>
    (c5k h_ all_9).bind fun y11 =>
    (c5v h_ y11).bind fun y12 =>
    if decide ((List.length y12 : Int) = 0) then
      some (.br (n_10, 0))
    else
      if decide ((wr (from_ + n_10)) = h_.Until) then
        some (.br (0, 3))
      else
        (get all_9 comb).bind fun x19 =>
        (get x19 (wr (from_ + n_10))).bind fun x20 =>
        some (.nx ((List.set all_9 (Int.toNat comb) (List.set x19 (Int.toNat (wr (from_ + n_10))) 0)), wr (n_10 + 1)))
theorem d41 (h_ : Hall) (comb : Int) (from_ : Int) : ∀ s_0, Le (c86 h_ comb from_ s_0) (c5b h_ comb from_ s_0) := by
  intro s_0
  unfold c86 c5b
  repeat' first | with_reducible exact le_refl _ | with_reducible apply c5m | rw [c5m] | with_reducible apply c5x | rw [c5x] | refine b1p ?_ (fun _ => ?_) | refine b1q ?_ ?_ | refine b1r (fun _ => ?_) | intro _ | split
noncomputable def c87 (h_ : Hall) (comb : Int) (from_ : Int) : Option (Int × Int) :=
  (c9v h_ comb ([from_])).bind fun y2 =>
  if decide (¬y2 = 0) then
    some (0, y2)
  else
    (c5s h_).bind fun y6 =>
    (b3q (c86 h_ comb from_) (y6, 0)).bind fun r' =>
    some r'
theorem d42 (h_ : Hall) (comb : Int) (from_ : Int) : Le (c87 h_ comb from_) (c2j h_ comb from_) := by
  unfold c87 c2j
  repeat' first | with_reducible exact le_refl _ | with_reducible apply d5r | rw [d5r] | with_reducible apply c5t | rw [c5t] | with_reducible apply d41 | rw [d41] | refine b1p ?_ (fun _ => ?_) | refine b1q ?_ ?_ | refine b1r (fun _ => ?_) | intro _ | split
noncomputable def c6c : Hall :=
  (Hall.mk ([(Comb.mk 3 12 1 (Span.mk 2 3)), (Comb.mk 2 10 (-1) (Span.mk 1 1))]) ([(Train.mk (Span.mk 2 4) ([(Crowd.mk 0 (Span.mk 6 10))])), (Train.mk (Span.mk 5 5) ([(Crowd.mk 0 (Span.mk 0 4)), (Crowd.mk 1 (Span.mk 3 3))]))]) ([]) 20)
theorem d8m : c6c = l06_Example := by unfold c6c l06_Example; rfl
noncomputable def c88 (h_ : Hall) : Option ((List (Int × Int)) × Int) :=
  (c49 h_).bind fun y2 =>
  if decide (¬y2 = 0) then
    some ([], y2)
  else
    (c5s h_).bind fun y8 =>
    (c5k h_ y8).bind fun y9 =>
    (c5v h_ y9).bind fun y10 =>
    some (y10, 0)
theorem d43 (h_ : Hall) : Le (c88 h_) (c2l h_) := by
  unfold c88 c2l
  repeat' first | with_reducible exact le_refl _ | with_reducible apply c5a | rw [c5a] | with_reducible apply c5t | rw [c5t] | with_reducible apply c5m | rw [c5m] | with_reducible apply c5x | rw [c5x] | refine b1p ?_ (fun _ => ?_) | refine b1q ?_ ?_ | refine b1r (fun _ => ?_) | intro _ | split
noncomputable def d8n : Option Bool :=
  (c87 c6c 0 5).bind fun y2 =>
  (c88 c6c).bind fun y4 =>
  (if (((decide (y2.2 = 0)) && (decide (y4.2 = 0))) && (decide (y2.1 = 1))) && (decide ((List.length y4.1 : Int) = 1)) then (get y4.1 0).bind fun x7 =>
  some (decide (x7.1 = 1) && decide (x7.2 = 7)) else some false).bind fun c8 =>
  some c8
theorem j0y  : Le (d8n ) (b6z ) := by
  unfold d8n b6z
  repeat' first | with_reducible exact le_refl _ | with_reducible apply d42 | rw [d42] | with_reducible apply d8m | rw [d8m] | with_reducible apply d43 | rw [d43] | refine b1p ?_ (fun _ => ?_) | refine b1q ?_ ?_ | refine b1r (fun _ => ?_) | intro _ | split
end Go.Nw.HM
