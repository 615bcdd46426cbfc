/- Twins of the models, which the kernel evaluates. -/
import Derived.Test.YteoedeeljnboeaaNwTwin
import Derived.Test.YteoedeeljnboeaaHM
set_option linter.all false
set_option linter.unusedVariables false
set_option linter.unusedSimpArgs false
set_option linter.unusedSectionVars false
namespace Go.Nw.HM
set_option linter.unusedVariables false
noncomputable def c26 (n : Int) (s : Span) : Bool :=
  (decide (s.Low ≤ n)) && (decide (n ≤ s.High))
theorem c5q (n : Int) (s : Span) : c26 n s = b4h n s := by unfold c26 b4h; rfl
noncomputable def c3c (s : Span) (low : Int) (high : Int) : Bool :=
  ((decide (low ≤ s.Low)) && (decide (s.Low ≤ s.High))) && (decide (s.High ≤ high))
theorem c02 (s : Span) (low : Int) (high : Int) : c3c s low high = b4r s low high := by unfold c3c b4r; rfl
noncomputable def c9x (h_ : Hall) (i : Int) : Option Bool :=
  (get h_.Combs i).bind fun x2 =>
  some ((((c26 x2.Rate (Span.mk 0 1000)) && (c26 x2.Limit (Span.mk 0 100000))) && ((decide (x2.Next = (-1))) || ((decide (i < x2.Next)) && (decide (x2.Next < (List.length h_.Combs : Int)))))) && (c3c x2.Walk 1 20))
theorem d41 (h_ : Hall) (i : Int) : Le (c9x h_ i) (b8y h_ i) := by
  unfold c9x b8y
  repeat' first | with_reducible exact le_refl _ | with_reducible apply c5q | rw [c5q] | with_reducible apply c02 | rw [c02] | refine b1q ?_ (fun _ => ?_) | refine b1r ?_ ?_ | refine b1s (fun _ => ?_) | intro _ | split
noncomputable def c85 (h_ : Hall) : Int → Option (Out Int (Unit ⊕ Int))
  | x_41 =>
    if decide (x_41 < (List.length h_.Combs : Int)) then
      (c9x h_ x_41).bind fun y45 =>
      if !y45 then
        some (.br (.inr 60))
      else
        some (.nx (wr (x_41 + 1)))
    else
      some (.br (.inl ()))
theorem d37 (h_ : Hall) : ∀ s_0, Le (c85 h_ s_0) (b7k h_ s_0) := by
  intro s_0
  unfold c85 b7k
  repeat' first | with_reducible exact le_refl _ | with_reducible apply d41 | rw [d41] | refine b1q ?_ (fun _ => ?_) | refine b1r ?_ ?_ | refine b1s (fun _ => ?_) | intro _ | split
noncomputable def d2b (s : List Train) (f : Train → Option Bool) : Int → Option (Out Int (Unit ⊕ Int))
  | x_8 =>
    if decide (x_8 < (List.length s : Int)) then
      (get s x_8).bind fun x9 =>
      (f x9).bind fun y10 =>
      if y10 then
        some (.br (.inr x_8))
      else
        some (.nx (wr (x_8 + 1)))
    else
      some (.br (.inl ()))
theorem d9n (s : List Train) (f f' : Train → Option Bool) (hf : ∀ x0, Le (f x0) (f' x0)) : ∀ s_0, Le (d2b s f s_0) (c7c s f' s_0) := by
  intro s_0
  unfold d2b c7c
  repeat' first | with_reducible exact le_refl _ | apply hf | refine b1q ?_ (fun _ => ?_) | refine b1r ?_ ?_ | refine b1s (fun _ => ?_) | intro _ | split
noncomputable def d2d : Option Int :=
  some (-1)
theorem d9o  : Le (d2d ) (c4b ) := by
  unfold d2d c4b
  repeat' first | with_reducible exact le_refl _ | refine b1q ?_ (fun _ => ?_) | refine b1r ?_ ?_ | refine b1s (fun _ => ?_) | intro _ | split
noncomputable def d2c (s : List Train) (f : Train → Option Bool) : Option Int :=
  (b3q (d2b s f) (0)).bind fun
    | (.inl ()) => d2d
    | (.inr r') => some r'
theorem d9p (s : List Train) (f f' : Train → Option Bool) (hf : ∀ x0, Le (f x0) (f' x0)) : Le (d2c s f) (c4a s f') := by
  unfold d2c c4a
  repeat' first | with_reducible exact le_refl _ | with_reducible apply d9n | rw [d9n] | with_reducible apply d9o | rw [d9o] | apply hf | refine b1q ?_ (fun _ => ?_) | refine b1r ?_ ?_ | refine b1s (fun _ => ?_) | intro _ | split
noncomputable def d19 (s : List Train) (f : Train → Option Bool) : Option Bool :=
  (d2c s f).bind fun y2 =>
  some (decide (0 ≤ y2))
theorem d9l (s : List Train) (f f' : Train → Option Bool) (hf : ∀ x0, Le (f x0) (f' x0)) : Le (d19 s f) (c12 s f') := by
  unfold d19 c12
  repeat' first | with_reducible exact le_refl _ | with_reducible apply d9p | rw [d9p] | apply hf | refine b1q ?_ (fun _ => ?_) | refine b1r ?_ ?_ | refine b1s (fun _ => ?_) | intro _ | split
noncomputable def c9y (h_ : Hall) (t_ : Train) : (Int × Int) → Option (Out (Int × Int) (Unit ⊕ Bool))
  | (last_5, x_11) =>
    if decide (x_11 < (List.length t_.Crowds : Int)) then
      (get t_.Crowds x_11).bind fun x9 =>
      if ((decide (x9.Comb ≤ last_5)) || (decide ((List.length h_.Combs : Int) ≤ x9.Comb))) || (!(c3c x9.People 0 1000)) then
        some (.br (.inr false))
      else
        some (.nx (x9.Comb, wr (x_11 + 1)))
    else
      some (.br (.inl ()))
theorem d42 (h_ : Hall) (t_ : Train) : ∀ s_0, Le (c9y h_ t_ s_0) (b6p h_ t_ s_0) := by
  intro s_0
  unfold c9y b6p
  repeat' first | with_reducible exact le_refl _ | with_reducible apply c02 | rw [c02] | refine b1q ?_ (fun _ => ?_) | refine b1r ?_ ?_ | refine b1s (fun _ => ?_) | intro _ | split
noncomputable def c90 (h_ : Hall) (t_ : Train) : Option Bool :=
  some ((c3c t_.At 0 (wr (h_.Until - 1))) && (decide ((List.length t_.Crowds : Int) ≤ 4)))
theorem d43 (h_ : Hall) (t_ : Train) : Le (c90 h_ t_) (c0z h_ t_) := by
  unfold c90 c0z
  repeat' first | with_reducible exact le_refl _ | with_reducible apply c02 | rw [c02] | refine b1q ?_ (fun _ => ?_) | refine b1r ?_ ?_ | refine b1s (fun _ => ?_) | intro _ | split
noncomputable def c9z (h_ : Hall) (t_ : Train) : Option Bool :=
  (b3q (c9y h_ t_) ((-1), 0)).bind fun
    | (.inl ()) => c90 h_ t_
    | (.inr r') => some r'
theorem d44 (h_ : Hall) (t_ : Train) : Le (c9z h_ t_) (b8z h_ t_) := by
  unfold c9z b8z
  repeat' first | with_reducible exact le_refl _ | with_reducible apply d42 | rw [d42] | with_reducible apply d43 | rw [d43] | refine b1q ?_ (fun _ => ?_) | refine b1r ?_ ?_ | refine b1s (fun _ => ?_) | intro _ | split
noncomputable def c83 (t_ : Train) (c0 : Hall) : Option Bool :=
  (c9z c0 t_).bind fun y2 =>
  some (!y2)
theorem d35 (t_ : Train) (c0 : Hall) : Le (c83 t_ c0) (b7i t_ c0) := by
  unfold c83 b7i
  repeat' first | with_reducible exact le_refl _ | with_reducible apply d44 | rw [d44] | refine b1q ?_ (fun _ => ?_) | refine b1r ?_ ?_ | refine b1s (fun _ => ?_) | intro _ | split
noncomputable def c84 (h_ : Hall) : Int → Option (Out Int (Unit ⊕ Int))
  | x_56 =>
    if decide (x_56 < (List.length h_.Shifts : Int)) then
      (get h_.Shifts x_56).bind fun x23 =>
      (if (decide (x23.At < 0)) || (decide (h_.Until ≤ x23.At)) then some true else (if decide (0 < x_56) then (get h_.Shifts (wr (x_56 - 1))).bind fun x27 =>
      some (decide (x23.At < x27.At)) else some false).bind fun c28 =>
      some c28).bind fun c29 =>
      if ((c29 || (decide (x23.Comb < 0))) || (decide ((List.length h_.Combs : Int) ≤ x23.Comb))) || (!(c26 x23.Rate (Span.mk 0 1000))) then
        some (.br (.inr 60))
      else
        some (.nx (wr (x_56 + 1)))
    else
      some (.br (.inl ()))
theorem d36 (h_ : Hall) : ∀ s_0, Le (c84 h_ s_0) (b7j h_ s_0) := by
  intro s_0
  unfold c84 b7j
  repeat' first | with_reducible exact le_refl _ | with_reducible apply c5q | rw [c5q] | refine b1q ?_ (fun _ => ?_) | refine b1r ?_ ?_ | refine b1s (fun _ => ?_) | intro _ | split
noncomputable def c86 : Option Int :=
  some 0
theorem d38  : Le (c86 ) (c2z ) := by
  unfold c86 c2z
  repeat' first | with_reducible exact le_refl _ | refine b1q ?_ (fun _ => ?_) | refine b1r ?_ ?_ | refine b1s (fun _ => ?_) | intro _ | split
noncomputable def c87 (h_ : Hall) : Option Int :=
  (d19 h_.Trains (fun z12 => c83 z12 h_)).bind fun y13 =>
  if y13 then
    some 60
  else
    (b3q (c84 h_) (0)).bind fun
      | (.inl ()) => c86
      | (.inr r') => some r'
theorem d39 (h_ : Hall) : Le (c87 h_) (c0n h_) := by
  unfold c87 c0n
  repeat' first | with_reducible exact le_refl _ | with_reducible apply d9l | rw [d9l] | with_reducible apply d35 | rw [d35] | with_reducible apply d36 | rw [d36] | with_reducible apply d38 | rw [d38] | refine b1q ?_ (fun _ => ?_) | refine b1r ?_ ?_ | refine b1s (fun _ => ?_) | intro _ | split
noncomputable def c5h (h_ : Hall) : Option Int :=
  if (((((decide (h_.Until < 1)) || (decide (100 < h_.Until))) || (decide ((List.length h_.Combs : Int) < 1))) || (decide (8 < (List.length h_.Combs : Int)))) || (decide (12 < (List.length h_.Trains : Int)))) || (decide (20 < (List.length h_.Shifts : Int))) then
    some 60
  else
    (b3q (c85 h_) (0)).bind fun
      | (.inl ()) => c87 h_
      | (.inr r') => some r'
theorem c5i (h_ : Hall) : Le (c5h h_) (b4q h_) := by
  unfold c5h b4q
  repeat' first | with_reducible exact le_refl _ | with_reducible apply d37 | rw [d37] | with_reducible apply d39 | rw [d39] | refine b1q ?_ (fun _ => ?_) | refine b1r ?_ ?_ | refine b1s (fun _ => ?_) | intro _ | split
noncomputable def d2e (s : List Int) (f : Int → Option Bool) : Int → Option (Out Int (Unit ⊕ Int))
  | x_8 =>
    if decide (x_8 < (List.length s : Int)) then
      (get s x_8).bind fun x9 =>
      (f x9).bind fun y10 =>
      if y10 then
        some (.br (.inr x_8))
      else
        some (.nx (wr (x_8 + 1)))
    else
      some (.br (.inl ()))
theorem d9q (s : List Int) (f f' : Int → Option Bool) (hf : ∀ x0, Le (f x0) (f' x0)) : ∀ s_0, Le (d2e s f s_0) (c7d s f' s_0) := by
  intro s_0
  unfold d2e c7d
  repeat' first | with_reducible exact le_refl _ | apply hf | refine b1q ?_ (fun _ => ?_) | refine b1r ?_ ?_ | refine b1s (fun _ => ?_) | intro _ | split
noncomputable def d2f : Option Int :=
  some (-1)
theorem d9r  : Le (d2f ) (c4c ) := by
  unfold d2f c4c
  repeat' first | with_reducible exact le_refl _ | refine b1q ?_ (fun _ => ?_) | refine b1r ?_ ?_ | refine b1s (fun _ => ?_) | intro _ | split
noncomputable def c7e (s : List Int) (f : Int → Option Bool) : Option Int :=
  (b3q (d2e s f) (0)).bind fun
    | (.inl ()) => d2f
    | (.inr r') => some r'
theorem c7f (s : List Int) (f f' : Int → Option Bool) (hf : ∀ x0, Le (f x0) (f' x0)) : Le (c7e s f) (b9t s f') := by
  unfold c7e b9t
  repeat' first | with_reducible exact le_refl _ | with_reducible apply d9q | rw [d9q] | with_reducible apply d9r | rw [d9r] | apply hf | refine b1q ?_ (fun _ => ?_) | refine b1r ?_ ?_ | refine b1s (fun _ => ?_) | intro _ | split
noncomputable def d2a (s : List Int) (f : Int → Option Bool) : Option Bool :=
  (c7e s f).bind fun y2 =>
  some (decide (0 ≤ y2))
theorem d9m (s : List Int) (f f' : Int → Option Bool) (hf : ∀ x0, Le (f x0) (f' x0)) : Le (d2a s f) (c13 s f') := by
  unfold d2a c13
  repeat' first | with_reducible exact le_refl _ | with_reducible apply c7f | rw [c7f] | apply hf | refine b1q ?_ (fun _ => ?_) | refine b1r ?_ ?_ | refine b1s (fun _ => ?_) | intro _ | split
noncomputable def c9v (t_ : Int) (c0 : Hall) : Bool :=
  (decide (t_ < 0)) || (decide (c0.Until ≤ t_))
theorem d4z (t_ : Int) (c0 : Hall) : c9v t_ c0 = b6z t_ c0 := by unfold c9v b6z; rfl
noncomputable def c9w (h_ : Hall) (comb : Int) (ticks : List Int) : Option Int :=
  (c5h h_).bind fun y2 =>
  if decide (¬y2 = 0) then
    some y2
  else
    (if (decide (comb < 0)) || (decide ((List.length h_.Combs : Int) ≤ comb)) then some true else (d2a ticks (fun z8 => some (c9v z8 h_))).bind fun y9 =>
    some y9).bind fun c10 =>
    if c10 then
      some 1
    else
      some 0
theorem d40 (h_ : Hall) (comb : Int) (ticks : List Int) : Le (c9w h_ comb ticks) (b5p h_ comb ticks) := by
  unfold c9w b5p
  repeat' first | with_reducible exact le_refl _ | with_reducible apply c5i | rw [c5i] | with_reducible apply d9m | rw [d9m] | with_reducible apply d4z | rw [d4z] | refine b1q ?_ (fun _ => ?_) | refine b1r ?_ ?_ | refine b1s (fun _ => ?_) | intro _ | split
noncomputable def c5w (at_7_1 : Int) (now_6_2 : Int) : Option (Out (Int × Int) ((Int × Int))) :=
  some (.nx (now_6_2, wr (at_7_1 + 1)))
theorem d5f (at_7_1 : Int) (now_6_2 : Int) : Le (c5w at_7_1 now_6_2) (b84 at_7_1 now_6_2) := by
  unfold c5w b84
  repeat' first | with_reducible exact le_refl _ | refine b1q ?_ (fun _ => ?_) | refine b1r ?_ ?_ | refine b1s (fun _ => ?_) | intro _ | split
noncomputable def c96 (h_ : Hall) (comb : Int) (x_20 : Int) : (Int × Int) → Option (Out (Int × Int) ((Int × Int)))
  | (now_6_1, at_7_1) =>
    (if decide (at_7_1 < (List.length h_.Shifts : Int)) then (get h_.Shifts at_7_1).bind fun x19 =>
    some (decide (x19.At ≤ x_20)) else some false).bind fun c20 =>
    if c20 then
      (get h_.Shifts at_7_1).bind fun x27 =>
      if decide (x27.Comb = comb) then
        c5w at_7_1 x27.Rate
      else
        c5w at_7_1 now_6_1
    else
      some (.br (now_6_1, at_7_1))
theorem d5b (h_ : Hall) (comb : Int) (x_20 : Int) : ∀ s_0, Le (c96 h_ comb x_20 s_0) (b7u h_ comb x_20 s_0) := by
  intro s_0
  unfold c96 b7u
  repeat' first | with_reducible exact le_refl _ | with_reducible apply d5f | rw [d5f] | refine b1q ?_ (fun _ => ?_) | refine b1r ?_ ?_ | refine b1s (fun _ => ?_) | intro _ | split
noncomputable def c99 (x_20 : Int) (out_5_1 : List Int) (now_6_1 : Int) (at_7_1 : Int) : Option (Out ((List Int) × Int × Int × Int) (((List Int)))) :=
  some (.nx (out_5_1, now_6_1, at_7_1, wr (x_20 + 1)))
theorem d5d (x_20 : Int) (out_5_1 : List Int) (now_6_1 : Int) (at_7_1 : Int) : Le (c99 x_20 out_5_1 now_6_1 at_7_1) (c00 x_20 out_5_1 now_6_1 at_7_1) := by
  unfold c99 c00
  repeat' first | with_reducible exact le_refl _ | refine b1q ?_ (fun _ => ?_) | refine b1r ?_ ?_ | refine b1s (fun _ => ?_) | intro _ | split
noncomputable def d0a (out_5 : List Int) (x_20 : Int) (now_6_1 : Int) (at_7_1 : Int) : Option (Out ((List Int) × Int × Int × Int) (((List Int)))) :=
  (get out_5 x_20).bind fun x15 =>
  c99 x_20 (List.set out_5 (Int.toNat x_20) now_6_1) now_6_1 at_7_1
theorem d5e (out_5 : List Int) (x_20 : Int) (now_6_1 : Int) (at_7_1 : Int) : Le (d0a out_5 x_20 now_6_1 at_7_1) (c01 out_5 x_20 now_6_1 at_7_1) := by
  unfold d0a c01
  repeat' first | with_reducible exact le_refl _ | with_reducible apply d5d | rw [d5d] | refine b1q ?_ (fun _ => ?_) | refine b1r ?_ ?_ | refine b1s (fun _ => ?_) | intro _ | split
noncomputable def c97 (h_ : Hall) (comb : Int) (l2 : List Int) : ((List Int) × Int × Int × Int) → Option (Out ((List Int) × Int × Int × Int) (((List Int))))
  | (out_5, now_6, at_7, x_20) =>
    if decide (x_20 < ((List.length l2 : Nat) : Int)) then
      (b3q (c96 h_ comb x_20) (now_6, at_7)).bind fun
        | (now_6_1, at_7_1) => d0a out_5 x_20 now_6_1 at_7_1
    else
      some (.br out_5)
theorem d5c (h_ : Hall) (comb : Int) (l2 : List Int) : ∀ s_0, Le (c97 h_ comb l2 s_0) (b83 h_ comb l2 s_0) := by
  intro s_0
  unfold c97 b83
  repeat' first | with_reducible exact le_refl _ | with_reducible apply d5b | rw [d5b] | with_reducible apply d5e | rw [d5e] | refine b1q ?_ (fun _ => ?_) | refine b1r ?_ ?_ | refine b1s (fun _ => ?_) | intro _ | split
noncomputable def d0b (out_5 : List Int) : Option (List Int) :=
  some out_5
theorem d5g (out_5 : List Int) : Le (d0b out_5) (c3b out_5) := by
  unfold d0b c3b
  repeat' first | with_reducible exact le_refl _ | refine b1q ?_ (fun _ => ?_) | refine b1r ?_ ?_ | refine b1s (fun _ => ?_) | intro _ | split
noncomputable def c98 (h_ : Hall) (comb : Int) : Option (List Int) :=
  (mks 8 h_.Until 0).bind fun l2 =>
  (get h_.Combs comb).bind fun x4 =>
  (b3q (c97 h_ comb l2) (l2, x4.Rate, 0, 0)).bind fun out_5 =>
  d0b out_5
theorem d5h (h_ : Hall) (comb : Int) : Le (c98 h_ comb) (b82 h_ comb) := by
  unfold c98 b82
  repeat' first | with_reducible exact le_refl _ | with_reducible apply d5c | rw [d5c] | with_reducible apply d5g | rw [d5g] | refine b1q ?_ (fun _ => ?_) | refine b1r ?_ ?_ | refine b1s (fun _ => ?_) | intro _ | split
noncomputable def c91 (h_ : Hall) : ((List (List Int)) × Int) → Option (Out ((List (List Int)) × Int) (((List (List Int)))))
  | (out_2, x_7) =>
    if decide (x_7 < (List.length h_.Combs : Int)) then
      (c98 h_ x_7).bind fun y9 =>
      (ap 24 out_2 ([y9])).bind fun l10 =>
      some (.nx (l10, wr (x_7 + 1)))
    else
      some (.br out_2)
theorem d45 (h_ : Hall) : ∀ s_0, Le (c91 h_ s_0) (b80 h_ s_0) := by
  intro s_0
  unfold c91 b80
  repeat' first | with_reducible exact le_refl _ | with_reducible apply d5h | rw [d5h] | refine b1q ?_ (fun _ => ?_) | refine b1r ?_ ?_ | refine b1s (fun _ => ?_) | intro _ | split
noncomputable def c92 (out_2 : List (List Int)) : Option (List (List Int)) :=
  some out_2
theorem d46 (out_2 : List (List Int)) : Le (c92 out_2) (c27 out_2) := by
  unfold c92 c27
  repeat' first | with_reducible exact le_refl _ | refine b1q ?_ (fun _ => ?_) | refine b1r ?_ ?_ | refine b1s (fun _ => ?_) | intro _ | split
noncomputable def c5r (h_ : Hall) : Option (List (List Int)) :=
  (b3q (c91 h_) ([], 0)).bind fun out_2 =>
  c92 out_2
theorem c5s (h_ : Hall) : Le (c5r h_) (b42 h_) := by
  unfold c5r b42
  repeat' first | with_reducible exact le_refl _ | with_reducible apply d45 | rw [d45] | with_reducible apply d46 | rw [d46] | refine b1q ?_ (fun _ => ?_) | refine b1r ?_ ?_ | refine b1s (fun _ => ?_) | intro _ | split
noncomputable def c5p (x_16 : Int) (sum_8_1 : Int) : Option (Out (Int × Int) Int) :=
  some (.nx (sum_8_1, wr (x_16 + 1)))
theorem d4x (x_16 : Int) (sum_8_1 : Int) : Le (c5p x_16 sum_8_1) (b7r x_16 sum_8_1) := by
  unfold c5p b7r
  repeat' first | with_reducible exact le_refl _ | refine b1q ?_ (fun _ => ?_) | refine b1r ?_ ?_ | refine b1s (fun _ => ?_) | intro _ | split
noncomputable def c5o (x_35 : Int) (sum_8_2 : Int) : Option (Out (Int × Int) Int) :=
  some (.nx (sum_8_2, wr (x_35 + 1)))
theorem d4v (x_35 : Int) (sum_8_2 : Int) : Le (c5o x_35 sum_8_2) (b7q x_35 sum_8_2) := by
  unfold c5o b7q
  repeat' first | with_reducible exact le_refl _ | refine b1q ?_ (fun _ => ?_) | refine b1r ?_ ?_ | refine b1s (fun _ => ?_) | intro _ | split
noncomputable def c9r (comb : Int) (x9 : Train) : (Int × Int) → Option (Out (Int × Int) Int)
  | (sum_8_1, x_35) =>
    if decide (x_35 < (List.length x9.Crowds : Int)) then
      (get x9.Crowds x_35).bind fun x19 =>
      if decide (x19.Comb = comb) then
        c5o x_35 (wr (sum_8_1 + x19.People.High))
      else
        c5o x_35 sum_8_1
    else
      some (.br sum_8_1)
theorem d4t (comb : Int) (x9 : Train) : ∀ s_0, Le (c9r comb x9 s_0) (b8w comb x9 s_0) := by
  intro s_0
  unfold c9r b8w
  repeat' first | with_reducible exact le_refl _ | with_reducible apply d4v | rw [d4v] | refine b1q ?_ (fun _ => ?_) | refine b1r ?_ ?_ | refine b1s (fun _ => ?_) | intro _ | split
noncomputable def c9s (h_ : Hall) (comb : Int) (from_ : Int) (to_ : Int) : (Int × Int) → Option (Out (Int × Int) Int)
  | (sum_8, x_16) =>
    if decide (x_16 < (List.length h_.Trains : Int)) then
      (get h_.Trains x_16).bind fun x9 =>
      if (decide (x9.At.High < from_)) || (decide (to_ < x9.At.Low)) then
        c5p x_16 sum_8
      else
        (b3q (c9r comb x9) (sum_8, 0)).bind fun sum_8_1 =>
        c5p x_16 sum_8_1
    else
      some (.br sum_8)
theorem d4u (h_ : Hall) (comb : Int) (from_ : Int) (to_ : Int) : ∀ s_0, Le (c9s h_ comb from_ to_ s_0) (b8x h_ comb from_ to_ s_0) := by
  intro s_0
  unfold c9s b8x
  repeat' first | with_reducible exact le_refl _ | with_reducible apply d4x | rw [d4x] | with_reducible apply d4t | rw [d4t] | refine b1q ?_ (fun _ => ?_) | refine b1r ?_ ?_ | refine b1s (fun _ => ?_) | intro _ | split
noncomputable def c9u (sum_8 : Int) : Option Int :=
  some sum_8
theorem d4w (sum_8 : Int) : Le (c9u sum_8) (c25 sum_8) := by
  unfold c9u c25
  repeat' first | with_reducible exact le_refl _ | refine b1q ?_ (fun _ => ?_) | refine b1r ?_ ?_ | refine b1s (fun _ => ?_) | intro _ | split
noncomputable def c9t (h_ : Hall) (comb : Int) (from_ : Int) (to_ : Int) : Option Int :=
  (b3q (c9s h_ comb from_ to_) (0, 0)).bind fun sum_8 =>
  c9u sum_8
theorem d4y (h_ : Hall) (comb : Int) (from_ : Int) (to_ : Int) : Le (c9t h_ comb from_ to_) (b8v h_ comb from_ to_) := by
  unfold c9t b8v
  repeat' first | with_reducible exact le_refl _ | with_reducible apply d4u | rw [d4u] | with_reducible apply d4w | rw [d4w] | refine b1q ?_ (fun _ => ?_) | refine b1r ?_ ?_ | refine b1s (fun _ => ?_) | intro _ | split
noncomputable def c4t (b : halls_bound) (from_ : Int) (least_7 : Int) (k_8 : Int) (behind_9 : Int) : Option (Out (Int × Int) Int) :=
  (get b.flow k_8).bind fun x23 =>
  (get b.flow (mx from_ 0)).bind fun x24 =>
  (get b.most k_8).bind fun x25 =>
  some (.nx (mn least_7 (wr ((wr ((wr (x23 - x24)) + x25)) + behind_9)), wr (k_8 + 1)))
theorem d2w (b : halls_bound) (from_ : Int) (least_7 : Int) (k_8 : Int) (behind_9 : Int) : Le (c4t b from_ least_7 k_8 behind_9) (b7a b from_ least_7 k_8 behind_9) := by
  unfold c4t b7a
  repeat' first | with_reducible exact le_refl _ | refine b1q ?_ (fun _ => ?_) | refine b1r ?_ ?_ | refine b1s (fun _ => ?_) | intro _ | split
noncomputable def c8c (b : halls_bound) (from_ : Int) (to_ : Int) : (Int × Int) → Option (Out (Int × Int) Int)
  | (least_7, k_8) =>
    if decide (k_8 ≤ to_) then
      if decide (k_8 < to_) then
        (get b.come (wr (k_8 + 1))).bind fun x29 =>
        (get x29 to_).bind fun x30 =>
        c4t b from_ least_7 k_8 x30
      else
        c4t b from_ least_7 k_8 0
    else
      some (.br least_7)
theorem d2u (b : halls_bound) (from_ : Int) (to_ : Int) : ∀ s_0, Le (c8c b from_ to_ s_0) (b8g b from_ to_ s_0) := by
  intro s_0
  unfold c8c b8g
  repeat' first | with_reducible exact le_refl _ | with_reducible apply d2w | rw [d2w] | refine b1q ?_ (fun _ => ?_) | refine b1r ?_ ?_ | refine b1s (fun _ => ?_) | intro _ | split
noncomputable def c8e (least_7 : Int) : Option Int :=
  some least_7
theorem d2v (least_7 : Int) : Le (c8e least_7) (b95 least_7) := by
  unfold c8e b95
  repeat' first | with_reducible exact le_refl _ | refine b1q ?_ (fun _ => ?_) | refine b1r ?_ ?_ | refine b1s (fun _ => ?_) | intro _ | split
noncomputable def c8d (b : halls_bound) (from_ : Int) (to_ : Int) : Option Int :=
  if (decide (to_ < from_)) || (decide (to_ < 0)) then
    some 0
  else
    (get b.come 0).bind fun x8 =>
    (get x8 to_).bind fun x9 =>
    (get b.flow (wr (to_ + 1))).bind fun x10 =>
    (get b.flow (mx from_ 0)).bind fun x11 =>
    (b3q (c8c b from_ to_) (mn x9 (wr (x10 - x11)), mx from_ 0)).bind fun least_7 =>
    c8e least_7
theorem d2x (b : halls_bound) (from_ : Int) (to_ : Int) : Le (c8d b from_ to_) (b8f b from_ to_) := by
  unfold c8d b8f
  repeat' first | with_reducible exact le_refl _ | with_reducible apply d2u | rw [d2u] | with_reducible apply d2v | rw [d2v] | refine b1q ?_ (fun _ => ?_) | refine b1r ?_ ?_ | refine b1s (fun _ => ?_) | intro _ | split
noncomputable def c5m (x_54 : Int) (row_9_2 : List Int) : Option (Out ((List Int) × Int) (((List Int)))) :=
  some (.nx (row_9_2, wr (x_54 + 1)))
theorem d4r (x_54 : Int) (row_9_2 : List Int) : Le (c5m x_54 row_9_2) (b7p x_54 row_9_2) := by
  unfold c5m b7p
  repeat' first | with_reducible exact le_refl _ | refine b1q ?_ (fun _ => ?_) | refine b1r ?_ ?_ | refine b1s (fun _ => ?_) | intro _ | split
noncomputable def c9c (all_5 : List halls_bound) (x_19 : Int) (x_28 : Int) (t_10 : Int) (l76 : List Comb) : ((List Int) × Int) → Option (Out ((List Int) × Int) (((List Int))))
  | (row_9_1, x_54) =>
    if decide (x_54 < (List.length l76 : Int)) then
      (get l76 x_54).bind fun x83 =>
      if decide (x83.Next = x_19) then
        (get row_9_1 t_10).bind fun x89 =>
        (get all_5 x_54).bind fun x90 =>
        (c8d x90 (wr (x_28 - x83.Walk.High)) (wr (t_10 - x83.Walk.Low))).bind fun y92 =>
        c5m x_54 (List.set row_9_1 (Int.toNat t_10) (wr (x89 + y92)))
      else
        c5m x_54 row_9_1
    else
      some (.br row_9_1)
theorem d4d (all_5 : List halls_bound) (x_19 : Int) (x_28 : Int) (t_10 : Int) (l76 : List Comb) : ∀ s_0, Le (c9c all_5 x_19 x_28 t_10 l76 s_0) (b8t all_5 x_19 x_28 t_10 l76 s_0) := by
  intro s_0
  unfold c9c b8t
  repeat' first | with_reducible exact le_refl _ | with_reducible apply d2x | rw [d2x] | with_reducible apply d4r | rw [d4r] | refine b1q ?_ (fun _ => ?_) | refine b1r ?_ ?_ | refine b1s (fun _ => ?_) | intro _ | split
noncomputable def c9o (t_10 : Int) (row_9_1 : List Int) : Option (Out ((List Int) × Int) (((List Int)))) :=
  some (.nx (row_9_1, wr (t_10 + 1)))
theorem d4p (t_10 : Int) (row_9_1 : List Int) : Le (c9o t_10 row_9_1) (c0x t_10 row_9_1) := by
  unfold c9o c0x
  repeat' first | with_reducible exact le_refl _ | refine b1q ?_ (fun _ => ?_) | refine b1r ?_ ?_ | refine b1s (fun _ => ?_) | intro _ | split
noncomputable def c9d (h_ : Hall) (all_5 : List halls_bound) (x_19 : Int) (x_28 : Int) : ((List Int) × Int) → Option (Out ((List Int) × Int) (((List Int))))
  | (row_9, t_10) =>
    if decide (t_10 < h_.Until) then
      (c9t h_ x_19 x_28 t_10).bind fun y73 =>
      (get row_9 t_10).bind fun x74 =>
      (sub h_.Combs 0 x_19).bind fun l76 =>
      (b3q (c9c all_5 x_19 x_28 t_10 l76) ((List.set row_9 (Int.toNat t_10) y73), 0)).bind fun row_9_1 =>
      c9o t_10 row_9_1
    else
      some (.br row_9)
theorem d4e (h_ : Hall) (all_5 : List halls_bound) (x_19 : Int) (x_28 : Int) : ∀ s_0, Le (c9d h_ all_5 x_19 x_28 s_0) (b7l h_ all_5 x_19 x_28 s_0) := by
  intro s_0
  unfold c9d b7l
  repeat' first | with_reducible exact le_refl _ | with_reducible apply d4y | rw [d4y] | with_reducible apply d4d | rw [d4d] | with_reducible apply d4p | rw [d4p] | refine b1q ?_ (fun _ => ?_) | refine b1r ?_ ?_ | refine b1s (fun _ => ?_) | intro _ | split
noncomputable def c9m (x_28 : Int) (b_7_0_1 : List Int) (b_7_3_1 : List (List Int)) : Option (Out ((List Int) × (List (List Int)) × Int) (((List Int) × (List (List Int))))) :=
  some (.nx (b_7_0_1, b_7_3_1, wr (x_28 + 1)))
theorem d4n (x_28 : Int) (b_7_0_1 : List Int) (b_7_3_1 : List (List Int)) : Le (c9m x_28 b_7_0_1 b_7_3_1) (c0u x_28 b_7_0_1 b_7_3_1) := by
  unfold c9m c0u
  repeat' first | with_reducible exact le_refl _ | refine b1q ?_ (fun _ => ?_) | refine b1r ?_ ?_ | refine b1s (fun _ => ?_) | intro _ | split
noncomputable def c9n (open_ : List (List Int)) (x_19 : Int) (b_7_0 : List Int) (b_7_3 : List (List Int)) (x_28 : Int) (row_9 : List Int) : Option (Out ((List Int) × (List (List Int)) × Int) (((List Int) × (List (List Int))))) :=
  (ap 24 b_7_3 ([row_9])).bind fun l57 =>
  (get b_7_0 x_28).bind fun x62 =>
  (get open_ x_19).bind fun x63 =>
  (get x63 x_28).bind fun x64 =>
  (ap 8 b_7_0 ([wr (x62 + x64)])).bind fun l65 =>
  c9m x_28 l65 l57
theorem d4o (open_ : List (List Int)) (x_19 : Int) (b_7_0 : List Int) (b_7_3 : List (List Int)) (x_28 : Int) (row_9 : List Int) : Le (c9n open_ x_19 b_7_0 b_7_3 x_28 row_9) (c0v open_ x_19 b_7_0 b_7_3 x_28 row_9) := by
  unfold c9n c0v
  repeat' first | with_reducible exact le_refl _ | with_reducible apply d4n | rw [d4n] | refine b1q ?_ (fun _ => ?_) | refine b1r ?_ ?_ | refine b1s (fun _ => ?_) | intro _ | split
noncomputable def c9e (h_ : Hall) (open_ : List (List Int)) (all_5 : List halls_bound) (x_19 : Int) : ((List Int) × (List (List Int)) × Int) → Option (Out ((List Int) × (List (List Int)) × Int) (((List Int) × (List (List Int)))))
  | (b_7_0, b_7_3, x_28) =>
    if decide (x_28 < h_.Until) then
      (mks 8 h_.Until 0).bind fun l53 =>
      (b3q (c9d h_ all_5 x_19 x_28) (l53, x_28)).bind fun row_9 =>
      c9n open_ x_19 b_7_0 b_7_3 x_28 row_9
    else
      some (.br (b_7_0, b_7_3))
theorem d4f (h_ : Hall) (open_ : List (List Int)) (all_5 : List halls_bound) (x_19 : Int) : ∀ s_0, Le (c9e h_ open_ all_5 x_19 s_0) (b7m h_ open_ all_5 x_19 s_0) := by
  intro s_0
  unfold c9e b7m
  repeat' first | with_reducible exact le_refl _ | with_reducible apply d4e | rw [d4e] | with_reducible apply d4o | rw [d4o] | refine b1q ?_ (fun _ => ?_) | refine b1r ?_ ?_ | refine b1s (fun _ => ?_) | intro _ | split
noncomputable def c9f (b_7_0 : List Int) (b_7_3 : List (List Int)) (x_122 : Int) : (Int × Int) → Option (Out (Int × Int) Int)
  | (most_14, x_127) =>
    if decide (x_127 < (wr (x_122 + 1))) then
      (get b_7_3 x_127).bind fun x40 =>
      (get x40 x_122).bind fun x42 =>
      (get b_7_0 x_122).bind fun x43 =>
      (get b_7_0 x_127).bind fun x44 =>
      some (.nx (mx most_14 (wr (x42 - (wr (x43 - x44)))), wr (x_127 + 1)))
    else
      some (.br most_14)
theorem d4g (b_7_0 : List Int) (b_7_3 : List (List Int)) (x_122 : Int) : ∀ s_0, Le (c9f b_7_0 b_7_3 x_122 s_0) (b7n b_7_0 b_7_3 x_122 s_0) := by
  intro s_0
  unfold c9f b7n
  repeat' first | with_reducible exact le_refl _ | refine b1q ?_ (fun _ => ?_) | refine b1r ?_ ?_ | refine b1s (fun _ => ?_) | intro _ | split
noncomputable def c9j (x_122 : Int) (b_7_1_1 : List Int) (b_7_2_1 : List Int) : Option (Out ((List Int) × (List Int) × Int) (((List Int) × (List Int)))) :=
  some (.nx (b_7_1_1, b_7_2_1, wr (x_122 + 1)))
theorem d4k (x_122 : Int) (b_7_1_1 : List Int) (b_7_2_1 : List Int) : Le (c9j x_122 b_7_1_1 b_7_2_1) (c0s x_122 b_7_1_1 b_7_2_1) := by
  unfold c9j c0s
  repeat' first | with_reducible exact le_refl _ | refine b1q ?_ (fun _ => ?_) | refine b1r ?_ ?_ | refine b1s (fun _ => ?_) | intro _ | split
noncomputable def c9k (open_ : List (List Int)) (x_19 : Int) (b_7_1 : List Int) (b_7_2 : List Int) (x_122 : Int) (most_14 : Int) : Option (Out ((List Int) × (List Int) × Int) (((List Int) × (List Int)))) :=
  (ap 8 b_7_2 ([most_14])).bind fun l22 =>
  (get b_7_1 x_122).bind fun x27 =>
  (get open_ x_19).bind fun x28 =>
  (get x28 x_122).bind fun x29 =>
  (ap 8 b_7_1 ([wr (x27 + (mn most_14 x29))])).bind fun l30 =>
  c9j x_122 l30 l22
theorem d4l (open_ : List (List Int)) (x_19 : Int) (b_7_1 : List Int) (b_7_2 : List Int) (x_122 : Int) (most_14 : Int) : Le (c9k open_ x_19 b_7_1 b_7_2 x_122 most_14) (c0t open_ x_19 b_7_1 b_7_2 x_122 most_14) := by
  unfold c9k c0t
  repeat' first | with_reducible exact le_refl _ | with_reducible apply d4k | rw [d4k] | refine b1q ?_ (fun _ => ?_) | refine b1r ?_ ?_ | refine b1s (fun _ => ?_) | intro _ | split
noncomputable def c9g (h_ : Hall) (open_ : List (List Int)) (x_19 : Int) (b_7_0 : List Int) (b_7_3 : List (List Int)) : ((List Int) × (List Int) × Int) → Option (Out ((List Int) × (List Int) × Int) (((List Int) × (List Int))))
  | (b_7_1, b_7_2, x_122) =>
    if decide (x_122 < h_.Until) then
      (b3q (c9f b_7_0 b_7_3 x_122) (0, 0)).bind fun most_14 =>
      c9k open_ x_19 b_7_1 b_7_2 x_122 most_14
    else
      some (.br (b_7_1, b_7_2))
theorem d4h (h_ : Hall) (open_ : List (List Int)) (x_19 : Int) (b_7_0 : List Int) (b_7_3 : List (List Int)) : ∀ s_0, Le (c9g h_ open_ x_19 b_7_0 b_7_3 s_0) (b7o h_ open_ x_19 b_7_0 b_7_3 s_0) := by
  intro s_0
  unfold c9g b7o
  repeat' first | with_reducible exact le_refl _ | with_reducible apply d4g | rw [d4g] | with_reducible apply d4l | rw [d4l] | refine b1q ?_ (fun _ => ?_) | refine b1r ?_ ?_ | refine b1s (fun _ => ?_) | intro _ | split
noncomputable def c9p (x_19 : Int) (all_5_1 : List halls_bound) : Option (Out ((List halls_bound) × Int) (((List halls_bound)))) :=
  some (.nx (all_5_1, wr (x_19 + 1)))
theorem d4q (x_19 : Int) (all_5_1 : List halls_bound) : Le (c9p x_19 all_5_1) (c0w x_19 all_5_1) := by
  unfold c9p c0w
  repeat' first | with_reducible exact le_refl _ | refine b1q ?_ (fun _ => ?_) | refine b1r ?_ ?_ | refine b1s (fun _ => ?_) | intro _ | split
noncomputable def c9i (all_5 : List halls_bound) (x_19 : Int) (b_7_0 : List Int) (b_7_3 : List (List Int)) (b_7_1 : List Int) (b_7_2 : List Int) : Option (Out ((List halls_bound) × Int) (((List halls_bound)))) :=
  (ap 8 all_5 ([(halls_bound.mk b_7_0 b_7_1 b_7_2 b_7_3)])).bind fun l13 =>
  c9p x_19 l13
theorem d4j (all_5 : List halls_bound) (x_19 : Int) (b_7_0 : List Int) (b_7_3 : List (List Int)) (b_7_1 : List Int) (b_7_2 : List Int) : Le (c9i all_5 x_19 b_7_0 b_7_3 b_7_1 b_7_2) (c0r all_5 x_19 b_7_0 b_7_3 b_7_1 b_7_2) := by
  unfold c9i c0r
  repeat' first | with_reducible exact le_refl _ | with_reducible apply d4q | rw [d4q] | refine b1q ?_ (fun _ => ?_) | refine b1r ?_ ?_ | refine b1s (fun _ => ?_) | intro _ | split
noncomputable def c9q (h_ : Hall) (open_ : List (List Int)) (all_5 : List halls_bound) (x_19 : Int) (b_7_0 : List Int) (b_7_3 : List (List Int)) : Option (Out ((List halls_bound) × Int) (((List halls_bound)))) :=
  (b3q (c9g h_ open_ x_19 b_7_0 b_7_3) ([0], [], 0)).bind fun
    | (b_7_1, b_7_2) => c9i all_5 x_19 b_7_0 b_7_3 b_7_1 b_7_2
theorem d4s (h_ : Hall) (open_ : List (List Int)) (all_5 : List halls_bound) (x_19 : Int) (b_7_0 : List Int) (b_7_3 : List (List Int)) : Le (c9q h_ open_ all_5 x_19 b_7_0 b_7_3) (c0y h_ open_ all_5 x_19 b_7_0 b_7_3) := by
  unfold c9q c0y
  repeat' first | with_reducible exact le_refl _ | with_reducible apply d4h | rw [d4h] | with_reducible apply d4j | rw [d4j] | refine b1q ?_ (fun _ => ?_) | refine b1r ?_ ?_ | refine b1s (fun _ => ?_) | intro _ | split
noncomputable def c9h (h_ : Hall) (open_ : List (List Int)) : ((List halls_bound) × Int) → Option (Out ((List halls_bound) × Int) (((List halls_bound))))
  | (all_5, x_19) =>
    if decide (x_19 < (List.length h_.Combs : Int)) then
      (b3q (c9e h_ open_ all_5 x_19) ([0], [], 0)).bind fun
        | (b_7_0, b_7_3) => c9q h_ open_ all_5 x_19 b_7_0 b_7_3
    else
      some (.br all_5)
theorem d4i (h_ : Hall) (open_ : List (List Int)) : ∀ s_0, Le (c9h h_ open_ s_0) (b8u h_ open_ s_0) := by
  intro s_0
  unfold c9h b8u
  repeat' first | with_reducible exact le_refl _ | with_reducible apply d4f | rw [d4f] | with_reducible apply d4s | rw [d4s] | refine b1q ?_ (fun _ => ?_) | refine b1r ?_ ?_ | refine b1s (fun _ => ?_) | intro _ | split
noncomputable def c9l (all_5 : List halls_bound) : Option (List halls_bound) :=
  some all_5
theorem d4m (all_5 : List halls_bound) : Le (c9l all_5) (c24 all_5) := by
  unfold c9l c24
  repeat' first | with_reducible exact le_refl _ | refine b1q ?_ (fun _ => ?_) | refine b1r ?_ ?_ | refine b1s (fun _ => ?_) | intro _ | split
noncomputable def c5l (h_ : Hall) (open_ : List (List Int)) : Option (List halls_bound) :=
  (b3q (c9h h_ open_) ([], 0)).bind fun all_5 =>
  c9l all_5
theorem c5n (h_ : Hall) (open_ : List (List Int)) : Le (c5l h_ open_) (b5h h_ open_) := by
  unfold c5l b5h
  repeat' first | with_reducible exact le_refl _ | with_reducible apply d4i | rw [d4i] | with_reducible apply d4m | rw [d4m] | refine b1q ?_ (fun _ => ?_) | refine b1r ?_ ?_ | refine b1s (fun _ => ?_) | intro _ | split
noncomputable def c93 (n : Int) (c0 : Hall) (c1 : Int) : Option Bool :=
  (get c0.Combs c1).bind fun x2 =>
  some (decide (x2.Limit < n))
theorem d47 (n : Int) (c0 : Hall) (c1 : Int) : Le (c93 n c0 c1) (b60 n c0 c1) := by
  unfold c93 b60
  repeat' first | with_reducible exact le_refl _ | refine b1q ?_ (fun _ => ?_) | refine b1r ?_ ?_ | refine b1s (fun _ => ?_) | intro _ | split
noncomputable def c5u (x_10 : Int) (out_4_1 : List (Int × Int)) : Option (Out ((List (Int × Int)) × Int) (((List (Int × Int))))) :=
  some (.nx (out_4_1, wr (x_10 + 1)))
theorem d5a (x_10 : Int) (out_4_1 : List (Int × Int)) : Le (c5u x_10 out_4_1) (b7t x_10 out_4_1) := by
  unfold c5u b7t
  repeat' first | with_reducible exact le_refl _ | refine b1q ?_ (fun _ => ?_) | refine b1r ?_ ?_ | refine b1s (fun _ => ?_) | intro _ | split
noncomputable def c94 (h_ : Hall) (all : List halls_bound) : ((List (Int × Int)) × Int) → Option (Out ((List (Int × Int)) × Int) (((List (Int × Int)))))
  | (out_4, x_10) =>
    if decide (x_10 < (List.length all : Int)) then
      (get all x_10).bind fun x9 =>
      (c7e x9.most (fun z12 => c93 z12 h_ x_10)).bind fun y13 =>
      if decide (0 ≤ y13) then
        (ap 16 out_4 ([(x_10, y13)])).bind fun l16 =>
        c5u x_10 l16
      else
        c5u x_10 out_4
    else
      some (.br out_4)
theorem d48 (h_ : Hall) (all : List halls_bound) : ∀ s_0, Le (c94 h_ all s_0) (b81 h_ all s_0) := by
  intro s_0
  unfold c94 b81
  repeat' first | with_reducible exact le_refl _ | with_reducible apply c7f | rw [c7f] | with_reducible apply d47 | rw [d47] | with_reducible apply d5a | rw [d5a] | refine b1q ?_ (fun _ => ?_) | refine b1r ?_ ?_ | refine b1s (fun _ => ?_) | intro _ | split
noncomputable def c95 (out_4 : List (Int × Int)) : Option (List (Int × Int)) :=
  some out_4
theorem d49 (out_4 : List (Int × Int)) : Le (c95 out_4) (c3a out_4) := by
  unfold c95 c3a
  repeat' first | with_reducible exact le_refl _ | refine b1q ?_ (fun _ => ?_) | refine b1r ?_ ?_ | refine b1s (fun _ => ?_) | intro _ | split
noncomputable def c5t (h_ : Hall) (all : List halls_bound) : Option (List (Int × Int)) :=
  (b3q (c94 h_ all) ([], 0)).bind fun out_4 =>
  c95 out_4
theorem c5v (h_ : Hall) (all : List halls_bound) : Le (c5t h_ all) (b7s h_ all) := by
  unfold c5t b7s
  repeat' first | with_reducible exact le_refl _ | with_reducible apply d48 | rw [d48] | with_reducible apply d49 | rw [d49] | refine b1q ?_ (fun _ => ?_) | refine b1r ?_ ?_ | refine b1s (fun _ => ?_) | intro _ | split
noncomputable def c89 (h_ : Hall) (comb : Int) (from_ : Int) : ((List (List Int)) × Int) → Option (Out ((List (List Int)) × Int) (((Int × Int))))
  | (all_9, n_10) =>
    (c5l h_ all_9).bind fun y11 =>
    (c5t h_ y11).bind fun y12 =>
    if decide ((List.length y12 : Int) = 0) then
      some (.br (n_10, 0))
    else
      if decide ((wr (from_ + n_10)) = h_.Until) then
        some (.br (0, 3))
      else
        (get all_9 comb).bind fun x19 =>
        (get x19 (wr (from_ + n_10))).bind fun x20 =>
        some (.nx ((List.set all_9 (Int.toNat comb) (List.set x19 (Int.toNat (wr (from_ + n_10))) 0)), wr (n_10 + 1)))
theorem d4a (h_ : Hall) (comb : Int) (from_ : Int) : ∀ s_0, Le (c89 h_ comb from_ s_0) (c5k h_ comb from_ s_0) := by
  intro s_0
  unfold c89 c5k
  repeat' first | with_reducible exact le_refl _ | with_reducible apply c5n | rw [c5n] | with_reducible apply c5v | rw [c5v] | refine b1q ?_ (fun _ => ?_) | refine b1r ?_ ?_ | refine b1s (fun _ => ?_) | intro _ | split
noncomputable def c9a (h_ : Hall) (comb : Int) (from_ : Int) : Option (Int × Int) :=
  (c9w h_ comb ([from_])).bind fun y2 =>
  if decide (¬y2 = 0) then
    some (0, y2)
  else
    (c5r h_).bind fun y6 =>
    (b3q (c89 h_ comb from_) (y6, 0)).bind fun r' =>
    some r'
theorem d4b (h_ : Hall) (comb : Int) (from_ : Int) : Le (c9a h_ comb from_) (c21 h_ comb from_) := by
  unfold c9a c21
  repeat' first | with_reducible exact le_refl _ | with_reducible apply d40 | rw [d40] | with_reducible apply c5s | rw [c5s] | with_reducible apply d4a | rw [d4a] | refine b1q ?_ (fun _ => ?_) | refine b1r ?_ ?_ | refine b1s (fun _ => ?_) | intro _ | split
noncomputable def c58 : Hall :=
  (Hall.mk ([(Comb.mk 3 12 1 (Span.mk 2 3)), (Comb.mk 2 10 (-1) (Span.mk 1 1))]) ([(Train.mk (Span.mk 2 4) ([(Crowd.mk 0 (Span.mk 6 10))])), (Train.mk (Span.mk 5 5) ([(Crowd.mk 0 (Span.mk 0 4)), (Crowd.mk 1 (Span.mk 3 3))]))]) ([]) 20)
theorem d7w : c58 = l06_Example := by unfold c58 l06_Example; rfl
noncomputable def c9b (h_ : Hall) : Option ((List (Int × Int)) × Int) :=
  (c5h h_).bind fun y2 =>
  if decide (¬y2 = 0) then
    some ([], y2)
  else
    (c5r h_).bind fun y8 =>
    (c5l h_ y8).bind fun y9 =>
    (c5t h_ y9).bind fun y10 =>
    some (y10, 0)
theorem d4c (h_ : Hall) : Le (c9b h_) (b6o h_) := by
  unfold c9b b6o
  repeat' first | with_reducible exact le_refl _ | with_reducible apply c5i | rw [c5i] | with_reducible apply c5s | rw [c5s] | with_reducible apply c5n | rw [c5n] | with_reducible apply c5v | rw [c5v] | refine b1q ?_ (fun _ => ?_) | refine b1r ?_ ?_ | refine b1s (fun _ => ?_) | intro _ | split
noncomputable def d7x : Option Bool :=
  (c9a c58 0 5).bind fun y2 =>
  (c9b c58).bind fun y4 =>
  (if (((decide (y2.2 = 0)) && (decide (y4.2 = 0))) && (decide (y2.1 = 1))) && (decide ((List.length y4.1 : Int) = 1)) then (get y4.1 0).bind fun x7 =>
  some (decide (x7.1 = 1) && decide (x7.2 = 7)) else some false).bind fun c8 =>
  some c8
theorem j0u  : Le (d7x ) (b64 ) := by
  unfold d7x b64
  repeat' first | with_reducible exact le_refl _ | with_reducible apply d4b | rw [d4b] | with_reducible apply d7w | rw [d7w] | with_reducible apply d4c | rw [d4c] | refine b1q ?_ (fun _ => ?_) | refine b1r ?_ ?_ | refine b1s (fun _ => ?_) | intro _ | split
end Go.Nw.HM
