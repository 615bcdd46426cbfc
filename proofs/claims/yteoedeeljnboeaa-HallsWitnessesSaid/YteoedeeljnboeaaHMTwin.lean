/- Twins of the models, which the kernel evaluates. -/
import Derived.Test.YteoedeeljnboeaaNwTwin
import Derived.Test.YteoedeeljnboeaaHM
set_option linter.all false
set_option linter.unusedVariables false
set_option linter.unusedSimpArgs false
set_option linter.unusedSectionVars false
namespace Go.Nw.HM
set_option linter.unusedVariables false
noncomputable def c27 (n : Int) (s : Span) : Bool :=
  (decide (s.Low ≤ n)) && (decide (n ≤ s.High))
theorem c5s (n : Int) (s : Span) : c27 n s = b4l n s := by unfold c27 b4l; rfl
noncomputable def c3d (s : Span) (low : Int) (high : Int) : Bool :=
  ((decide (low ≤ s.Low)) && (decide (s.Low ≤ s.High))) && (decide (s.High ≤ high))
theorem c0q (s : Span) (low : Int) (high : Int) : c3d s low high = b4u s low high := by unfold c3d b4u; rfl
noncomputable def c92 (h_ : Hall) (i : Int) : Option Bool :=
  (get h_.Combs i).bind fun x2 =>
  some ((((c27 x2.Rate (Span.mk 0 1000)) && (c27 x2.Limit (Span.mk 0 100000))) && ((decide (x2.Next = (-1))) || ((decide (i < x2.Next)) && (decide (x2.Next < (List.length h_.Combs : Int)))))) && (c3d x2.Walk 1 20))
theorem d5e (h_ : Hall) (i : Int) : Le (c92 h_ i) (b8x h_ i) := by
  unfold c92 b8x
  repeat' first | with_reducible exact le_refl _ | with_reducible apply c5s | rw [c5s] | with_reducible apply c0q | rw [c0q] | refine b1r ?_ (fun _ => ?_) | refine b1s ?_ ?_ | refine b1t (fun _ => ?_) | intro _ | split
noncomputable def c9a (h_ : Hall) : Int → Option (Out Int (Unit ⊕ Int))
  | x_41 =>
    if decide (x_41 < (List.length h_.Combs : Int)) then
      (c92 h_ x_41).bind fun y45 =>
      if !y45 then
        some (.br (.inr 60))
      else
        some (.nx (wr (x_41 + 1)))
    else
      some (.br (.inl ()))
theorem d4k (h_ : Hall) : ∀ s_0, Le (c9a h_ s_0) (b7k h_ s_0) := by
  intro s_0
  unfold c9a b7k
  repeat' first | with_reducible exact le_refl _ | with_reducible apply d5e | rw [d5e] | refine b1r ?_ (fun _ => ?_) | refine b1s ?_ ?_ | refine b1t (fun _ => ?_) | intro _ | split
noncomputable def d2k (s : List Train) (f : Train → Option Bool) : Int → Option (Out Int (Unit ⊕ Int))
  | x_8 =>
    if decide (x_8 < (List.length s : Int)) then
      (get s x_8).bind fun x9 =>
      (f x9).bind fun y10 =>
      if y10 then
        some (.br (.inr x_8))
      else
        some (.nx (wr (x_8 + 1)))
    else
      some (.br (.inl ()))
theorem d9z (s : List Train) (f f' : Train → Option Bool) (hf : ∀ x0, Le (f x0) (f' x0)) : ∀ s_0, Le (d2k s f s_0) (c7h s f' s_0) := by
  intro s_0
  unfold d2k c7h
  repeat' first | with_reducible exact le_refl _ | apply hf | refine b1r ?_ (fun _ => ?_) | refine b1s ?_ ?_ | refine b1t (fun _ => ?_) | intro _ | split
noncomputable def d2m : Option Int :=
  some (-1)
theorem d90  : Le (d2m ) (c4f ) := by
  unfold d2m c4f
  repeat' first | with_reducible exact le_refl _ | refine b1r ?_ (fun _ => ?_) | refine b1s ?_ ?_ | refine b1t (fun _ => ?_) | intro _ | split
noncomputable def d2l (s : List Train) (f : Train → Option Bool) : Option Int :=
  (b3v (d2k s f) (0)).bind fun
    | (.inl ()) => d2m
    | (.inr r') => some r'
theorem d91 (s : List Train) (f f' : Train → Option Bool) (hf : ∀ x0, Le (f x0) (f' x0)) : Le (d2l s f) (c4e s f') := by
  unfold d2l c4e
  repeat' first | with_reducible exact le_refl _ | with_reducible apply d9z | rw [d9z] | with_reducible apply d90 | rw [d90] | apply hf | refine b1r ?_ (fun _ => ?_) | refine b1s ?_ ?_ | refine b1t (fun _ => ?_) | intro _ | split
noncomputable def d2g (s : List Train) (f : Train → Option Bool) : Option Bool :=
  (d2l s f).bind fun y2 =>
  some (decide (0 ≤ y2))
theorem d9w (s : List Train) (f f' : Train → Option Bool) (hf : ∀ x0, Le (f x0) (f' x0)) : Le (d2g s f) (c1y s f') := by
  unfold d2g c1y
  repeat' first | with_reducible exact le_refl _ | with_reducible apply d91 | rw [d91] | apply hf | refine b1r ?_ (fun _ => ?_) | refine b1s ?_ ?_ | refine b1t (fun _ => ?_) | intro _ | split
noncomputable def c93 (h_ : Hall) (t_ : Train) : (Int × Int) → Option (Out (Int × Int) (Unit ⊕ Bool))
  | (last_5, x_11) =>
    if decide (x_11 < (List.length t_.Crowds : Int)) then
      (get t_.Crowds x_11).bind fun x9 =>
      if ((decide (x9.Comb ≤ last_5)) || (decide ((List.length h_.Combs : Int) ≤ x9.Comb))) || (!(c3d x9.People 0 1000)) then
        some (.br (.inr false))
      else
        some (.nx (x9.Comb, wr (x_11 + 1)))
    else
      some (.br (.inl ()))
theorem d5f (h_ : Hall) (t_ : Train) : ∀ s_0, Le (c93 h_ t_ s_0) (b6q h_ t_ s_0) := by
  intro s_0
  unfold c93 b6q
  repeat' first | with_reducible exact le_refl _ | with_reducible apply c0q | rw [c0q] | refine b1r ?_ (fun _ => ?_) | refine b1s ?_ ?_ | refine b1t (fun _ => ?_) | intro _ | split
noncomputable def c95 (h_ : Hall) (t_ : Train) : Option Bool :=
  some ((c3d t_.At 0 (wr (h_.Until - 1))) && (decide ((List.length t_.Crowds : Int) ≤ 4)))
theorem d5g (h_ : Hall) (t_ : Train) : Le (c95 h_ t_) (c0k h_ t_) := by
  unfold c95 c0k
  repeat' first | with_reducible exact le_refl _ | with_reducible apply c0q | rw [c0q] | refine b1r ?_ (fun _ => ?_) | refine b1s ?_ ?_ | refine b1t (fun _ => ?_) | intro _ | split
noncomputable def c94 (h_ : Hall) (t_ : Train) : Option Bool :=
  (b3v (c93 h_ t_) ((-1), 0)).bind fun
    | (.inl ()) => c95 h_ t_
    | (.inr r') => some r'
theorem d5h (h_ : Hall) (t_ : Train) : Le (c94 h_ t_) (b8y h_ t_) := by
  unfold c94 b8y
  repeat' first | with_reducible exact le_refl _ | with_reducible apply d5f | rw [d5f] | with_reducible apply d5g | rw [d5g] | refine b1r ?_ (fun _ => ?_) | refine b1s ?_ ?_ | refine b1t (fun _ => ?_) | intro _ | split
noncomputable def c88 (t_ : Train) (c0 : Hall) : Option Bool :=
  (c94 c0 t_).bind fun y2 =>
  some (!y2)
theorem d4i (t_ : Train) (c0 : Hall) : Le (c88 t_ c0) (b7i t_ c0) := by
  unfold c88 b7i
  repeat' first | with_reducible exact le_refl _ | with_reducible apply d5h | rw [d5h] | refine b1r ?_ (fun _ => ?_) | refine b1s ?_ ?_ | refine b1t (fun _ => ?_) | intro _ | split
noncomputable def c89 (h_ : Hall) : Int → Option (Out Int (Unit ⊕ Int))
  | x_56 =>
    if decide (x_56 < (List.length h_.Shifts : Int)) then
      (get h_.Shifts x_56).bind fun x23 =>
      (if (decide (x23.At < 0)) || (decide (h_.Until ≤ x23.At)) then some true else (if decide (0 < x_56) then (get h_.Shifts (wr (x_56 - 1))).bind fun x27 =>
      some (decide (x23.At < x27.At)) else some false).bind fun c28 =>
      some c28).bind fun c29 =>
      if ((c29 || (decide (x23.Comb < 0))) || (decide ((List.length h_.Combs : Int) ≤ x23.Comb))) || (!(c27 x23.Rate (Span.mk 0 1000))) then
        some (.br (.inr 60))
      else
        some (.nx (wr (x_56 + 1)))
    else
      some (.br (.inl ()))
theorem d4j (h_ : Hall) : ∀ s_0, Le (c89 h_ s_0) (b7j h_ s_0) := by
  intro s_0
  unfold c89 b7j
  repeat' first | with_reducible exact le_refl _ | with_reducible apply c5s | rw [c5s] | refine b1r ?_ (fun _ => ?_) | refine b1s ?_ ?_ | refine b1t (fun _ => ?_) | intro _ | split
noncomputable def c9b : Option Int :=
  some 0
theorem d4l  : Le (c9b ) (c2w ) := by
  unfold c9b c2w
  repeat' first | with_reducible exact le_refl _ | refine b1r ?_ (fun _ => ?_) | refine b1s ?_ ?_ | refine b1t (fun _ => ?_) | intro _ | split
noncomputable def c9c (h_ : Hall) : Option Int :=
  (d2g h_.Trains (fun z12 => c88 z12 h_)).bind fun y13 =>
  if y13 then
    some 60
  else
    (b3v (c89 h_) (0)).bind fun
      | (.inl ()) => c9b
      | (.inr r') => some r'
theorem d4m (h_ : Hall) : Le (c9c h_) (b98 h_) := by
  unfold c9c b98
  repeat' first | with_reducible exact le_refl _ | with_reducible apply d9w | rw [d9w] | with_reducible apply d4i | rw [d4i] | with_reducible apply d4j | rw [d4j] | with_reducible apply d4l | rw [d4l] | refine b1r ?_ (fun _ => ?_) | refine b1s ?_ ?_ | refine b1t (fun _ => ?_) | intro _ | split
noncomputable def c5h (h_ : Hall) : Option Int :=
  if (((((decide (h_.Until < 1)) || (decide (100 < h_.Until))) || (decide ((List.length h_.Combs : Int) < 1))) || (decide (8 < (List.length h_.Combs : Int)))) || (decide (12 < (List.length h_.Trains : Int)))) || (decide (20 < (List.length h_.Shifts : Int))) then
    some 60
  else
    (b3v (c9a h_) (0)).bind fun
      | (.inl ()) => c9c h_
      | (.inr r') => some r'
theorem c5i (h_ : Hall) : Le (c5h h_) (b46 h_) := by
  unfold c5h b46
  repeat' first | with_reducible exact le_refl _ | with_reducible apply d4k | rw [d4k] | with_reducible apply d4m | rw [d4m] | refine b1r ?_ (fun _ => ?_) | refine b1s ?_ ?_ | refine b1t (fun _ => ?_) | intro _ | split
noncomputable def d2n (s : List Int) (f : Int → Option Bool) : Int → Option (Out Int (Unit ⊕ Int))
  | x_8 =>
    if decide (x_8 < (List.length s : Int)) then
      (get s x_8).bind fun x9 =>
      (f x9).bind fun y10 =>
      if y10 then
        some (.br (.inr x_8))
      else
        some (.nx (wr (x_8 + 1)))
    else
      some (.br (.inl ()))
theorem d92 (s : List Int) (f f' : Int → Option Bool) (hf : ∀ x0, Le (f x0) (f' x0)) : ∀ s_0, Le (d2n s f s_0) (c7i s f' s_0) := by
  intro s_0
  unfold d2n c7i
  repeat' first | with_reducible exact le_refl _ | apply hf | refine b1r ?_ (fun _ => ?_) | refine b1s ?_ ?_ | refine b1t (fun _ => ?_) | intro _ | split
noncomputable def d2o : Option Int :=
  some (-1)
theorem d93  : Le (d2o ) (c4g ) := by
  unfold d2o c4g
  repeat' first | with_reducible exact le_refl _ | refine b1r ?_ (fun _ => ?_) | refine b1s ?_ ?_ | refine b1t (fun _ => ?_) | intro _ | split
noncomputable def c7j (s : List Int) (f : Int → Option Bool) : Option Int :=
  (b3v (d2n s f) (0)).bind fun
    | (.inl ()) => d2o
    | (.inr r') => some r'
theorem c7k (s : List Int) (f f' : Int → Option Bool) (hf : ∀ x0, Le (f x0) (f' x0)) : Le (c7j s f) (c11 s f') := by
  unfold c7j c11
  repeat' first | with_reducible exact le_refl _ | with_reducible apply d92 | rw [d92] | with_reducible apply d93 | rw [d93] | apply hf | refine b1r ?_ (fun _ => ?_) | refine b1s ?_ ?_ | refine b1t (fun _ => ?_) | intro _ | split
noncomputable def d2h (s : List Int) (f : Int → Option Bool) : Option Bool :=
  (c7j s f).bind fun y2 =>
  some (decide (0 ≤ y2))
theorem d9x (s : List Int) (f f' : Int → Option Bool) (hf : ∀ x0, Le (f x0) (f' x0)) : Le (d2h s f) (c1z s f') := by
  unfold d2h c1z
  repeat' first | with_reducible exact le_refl _ | with_reducible apply c7k | rw [c7k] | apply hf | refine b1r ?_ (fun _ => ?_) | refine b1s ?_ ?_ | refine b1t (fun _ => ?_) | intro _ | split
noncomputable def c90 (t_ : Int) (c0 : Hall) : Bool :=
  (decide (t_ < 0)) || (decide (c0.Until ≤ t_))
theorem d5c (t_ : Int) (c0 : Hall) : c90 t_ c0 = b6x t_ c0 := by unfold c90 b6x; rfl
noncomputable def c91 (h_ : Hall) (comb : Int) (ticks : List Int) : Option Int :=
  (c5h h_).bind fun y2 =>
  if decide (¬y2 = 0) then
    some y2
  else
    (if (decide (comb < 0)) || (decide ((List.length h_.Combs : Int) ≤ comb)) then some true else (d2h ticks (fun z8 => some (c90 z8 h_))).bind fun y9 =>
    some y9).bind fun c10 =>
    if c10 then
      some 1
    else
      some 0
theorem d5d (h_ : Hall) (comb : Int) (ticks : List Int) : Le (c91 h_ comb ticks) (b6w h_ comb ticks) := by
  unfold c91 b6w
  repeat' first | with_reducible exact le_refl _ | with_reducible apply c5i | rw [c5i] | with_reducible apply d9x | rw [d9x] | with_reducible apply d5c | rw [d5c] | refine b1r ?_ (fun _ => ?_) | refine b1s ?_ ?_ | refine b1t (fun _ => ?_) | intro _ | split
noncomputable def c5z (at_7_1 : Int) (now_6_2 : Int) : Option (Out (Int × Int) ((Int × Int))) :=
  some (.nx (now_6_2, wr (at_7_1 + 1)))
theorem d5s (at_7_1 : Int) (now_6_2 : Int) : Le (c5z at_7_1 now_6_2) (b82 at_7_1 now_6_2) := by
  unfold c5z b82
  repeat' first | with_reducible exact le_refl _ | refine b1r ?_ (fun _ => ?_) | refine b1s ?_ ?_ | refine b1t (fun _ => ?_) | intro _ | split
noncomputable def d0b (h_ : Hall) (comb : Int) (x_20 : Int) : (Int × Int) → Option (Out (Int × Int) ((Int × Int)))
  | (now_6_1, at_7_1) =>
    (if decide (at_7_1 < (List.length h_.Shifts : Int)) then (get h_.Shifts at_7_1).bind fun x19 =>
    some (decide (x19.At ≤ x_20)) else some false).bind fun c20 =>
    if c20 then
      (get h_.Shifts at_7_1).bind fun x27 =>
      if decide (x27.Comb = comb) then
        c5z at_7_1 x27.Rate
      else
        c5z at_7_1 now_6_1
    else
      some (.br (now_6_1, at_7_1))
theorem d5o (h_ : Hall) (comb : Int) (x_20 : Int) : ∀ s_0, Le (d0b h_ comb x_20 s_0) (b7s h_ comb x_20 s_0) := by
  intro s_0
  unfold d0b b7s
  repeat' first | with_reducible exact le_refl _ | with_reducible apply d5s | rw [d5s] | refine b1r ?_ (fun _ => ?_) | refine b1s ?_ ?_ | refine b1t (fun _ => ?_) | intro _ | split
noncomputable def d0e (x_20 : Int) (out_5_1 : List Int) (now_6_1 : Int) (at_7_1 : Int) : Option (Out ((List Int) × Int × Int × Int) (((List Int)))) :=
  some (.nx (out_5_1, now_6_1, at_7_1, wr (x_20 + 1)))
theorem d5q (x_20 : Int) (out_5_1 : List Int) (now_6_1 : Int) (at_7_1 : Int) : Le (d0e x_20 out_5_1 now_6_1 at_7_1) (c0o x_20 out_5_1 now_6_1 at_7_1) := by
  unfold d0e c0o
  repeat' first | with_reducible exact le_refl _ | refine b1r ?_ (fun _ => ?_) | refine b1s ?_ ?_ | refine b1t (fun _ => ?_) | intro _ | split
noncomputable def d0f (out_5 : List Int) (x_20 : Int) (now_6_1 : Int) (at_7_1 : Int) : Option (Out ((List Int) × Int × Int × Int) (((List Int)))) :=
  (get out_5 x_20).bind fun x15 =>
  d0e x_20 (List.set out_5 (Int.toNat x_20) now_6_1) now_6_1 at_7_1
theorem d5r (out_5 : List Int) (x_20 : Int) (now_6_1 : Int) (at_7_1 : Int) : Le (d0f out_5 x_20 now_6_1 at_7_1) (c0p out_5 x_20 now_6_1 at_7_1) := by
  unfold d0f c0p
  repeat' first | with_reducible exact le_refl _ | with_reducible apply d5q | rw [d5q] | refine b1r ?_ (fun _ => ?_) | refine b1s ?_ ?_ | refine b1t (fun _ => ?_) | intro _ | split
noncomputable def d0c (h_ : Hall) (comb : Int) (l2 : List Int) : ((List Int) × Int × Int × Int) → Option (Out ((List Int) × Int × Int × Int) (((List Int))))
  | (out_5, now_6, at_7, x_20) =>
    if decide (x_20 < ((List.length l2 : Nat) : Int)) then
      (b3v (d0b h_ comb x_20) (now_6, at_7)).bind fun
        | (now_6_1, at_7_1) => d0f out_5 x_20 now_6_1 at_7_1
    else
      some (.br out_5)
theorem d5p (h_ : Hall) (comb : Int) (l2 : List Int) : ∀ s_0, Le (d0c h_ comb l2 s_0) (b81 h_ comb l2 s_0) := by
  intro s_0
  unfold d0c b81
  repeat' first | with_reducible exact le_refl _ | with_reducible apply d5o | rw [d5o] | with_reducible apply d5r | rw [d5r] | refine b1r ?_ (fun _ => ?_) | refine b1s ?_ ?_ | refine b1t (fun _ => ?_) | intro _ | split
noncomputable def d0g (out_5 : List Int) : Option (List Int) :=
  some out_5
theorem d5t (out_5 : List Int) : Le (d0g out_5) (c3c out_5) := by
  unfold d0g c3c
  repeat' first | with_reducible exact le_refl _ | refine b1r ?_ (fun _ => ?_) | refine b1s ?_ ?_ | refine b1t (fun _ => ?_) | intro _ | split
noncomputable def d0d (h_ : Hall) (comb : Int) : Option (List Int) :=
  (mks 8 h_.Until 0).bind fun l2 =>
  (get h_.Combs comb).bind fun x4 =>
  (b3v (d0c h_ comb l2) (l2, x4.Rate, 0, 0)).bind fun out_5 =>
  d0g out_5
theorem d5u (h_ : Hall) (comb : Int) : Le (d0d h_ comb) (b80 h_ comb) := by
  unfold d0d b80
  repeat' first | with_reducible exact le_refl _ | with_reducible apply d5p | rw [d5p] | with_reducible apply d5t | rw [d5t] | refine b1r ?_ (fun _ => ?_) | refine b1s ?_ ?_ | refine b1t (fun _ => ?_) | intro _ | split
noncomputable def c96 (h_ : Hall) : ((List (List Int)) × Int) → Option (Out ((List (List Int)) × Int) (((List (List Int)))))
  | (out_2, x_7) =>
    if decide (x_7 < (List.length h_.Combs : Int)) then
      (d0d h_ x_7).bind fun y9 =>
      (ap 24 out_2 ([y9])).bind fun l10 =>
      some (.nx (l10, wr (x_7 + 1)))
    else
      some (.br out_2)
theorem d5i (h_ : Hall) : ∀ s_0, Le (c96 h_ s_0) (b8z h_ s_0) := by
  intro s_0
  unfold c96 b8z
  repeat' first | with_reducible exact le_refl _ | with_reducible apply d5u | rw [d5u] | refine b1r ?_ (fun _ => ?_) | refine b1s ?_ ?_ | refine b1t (fun _ => ?_) | intro _ | split
noncomputable def c97 (out_2 : List (List Int)) : Option (List (List Int)) :=
  some out_2
theorem d5j (out_2 : List (List Int)) : Le (c97 out_2) (c3a out_2) := by
  unfold c97 c3a
  repeat' first | with_reducible exact le_refl _ | refine b1r ?_ (fun _ => ?_) | refine b1s ?_ ?_ | refine b1t (fun _ => ?_) | intro _ | split
noncomputable def c5t (h_ : Hall) : Option (List (List Int)) :=
  (b3v (c96 h_) ([], 0)).bind fun out_2 =>
  c97 out_2
theorem c5u (h_ : Hall) : Le (c5t h_) (b5q h_) := by
  unfold c5t b5q
  repeat' first | with_reducible exact le_refl _ | with_reducible apply d5i | rw [d5i] | with_reducible apply d5j | rw [d5j] | refine b1r ?_ (fun _ => ?_) | refine b1s ?_ ?_ | refine b1t (fun _ => ?_) | intro _ | split
noncomputable def c5r (x_16 : Int) (sum_8_1 : Int) : Option (Out (Int × Int) Int) :=
  some (.nx (sum_8_1, wr (x_16 + 1)))
theorem d5a (x_16 : Int) (sum_8_1 : Int) : Le (c5r x_16 sum_8_1) (b7r x_16 sum_8_1) := by
  unfold c5r b7r
  repeat' first | with_reducible exact le_refl _ | refine b1r ?_ (fun _ => ?_) | refine b1s ?_ ?_ | refine b1t (fun _ => ?_) | intro _ | split
noncomputable def c5q (x_35 : Int) (sum_8_2 : Int) : Option (Out (Int × Int) Int) :=
  some (.nx (sum_8_2, wr (x_35 + 1)))
theorem d48 (x_35 : Int) (sum_8_2 : Int) : Le (c5q x_35 sum_8_2) (b7q x_35 sum_8_2) := by
  unfold c5q b7q
  repeat' first | with_reducible exact le_refl _ | refine b1r ?_ (fun _ => ?_) | refine b1s ?_ ?_ | refine b1t (fun _ => ?_) | intro _ | split
noncomputable def c9w (comb : Int) (x9 : Train) : (Int × Int) → Option (Out (Int × Int) Int)
  | (sum_8_1, x_35) =>
    if decide (x_35 < (List.length x9.Crowds : Int)) then
      (get x9.Crowds x_35).bind fun x19 =>
      if decide (x19.Comb = comb) then
        c5q x_35 (wr (sum_8_1 + x19.People.High))
      else
        c5q x_35 sum_8_1
    else
      some (.br sum_8_1)
theorem d46 (comb : Int) (x9 : Train) : ∀ s_0, Le (c9w comb x9 s_0) (b8v comb x9 s_0) := by
  intro s_0
  unfold c9w b8v
  repeat' first | with_reducible exact le_refl _ | with_reducible apply d48 | rw [d48] | refine b1r ?_ (fun _ => ?_) | refine b1s ?_ ?_ | refine b1t (fun _ => ?_) | intro _ | split
noncomputable def c9x (h_ : Hall) (comb : Int) (from_ : Int) (to_ : Int) : (Int × Int) → Option (Out (Int × Int) Int)
  | (sum_8, x_16) =>
    if decide (x_16 < (List.length h_.Trains : Int)) then
      (get h_.Trains x_16).bind fun x9 =>
      if (decide (x9.At.High < from_)) || (decide (to_ < x9.At.Low)) then
        c5r x_16 sum_8
      else
        (b3v (c9w comb x9) (sum_8, 0)).bind fun sum_8_1 =>
        c5r x_16 sum_8_1
    else
      some (.br sum_8)
theorem d47 (h_ : Hall) (comb : Int) (from_ : Int) (to_ : Int) : ∀ s_0, Le (c9x h_ comb from_ to_ s_0) (b8w h_ comb from_ to_ s_0) := by
  intro s_0
  unfold c9x b8w
  repeat' first | with_reducible exact le_refl _ | with_reducible apply d5a | rw [d5a] | with_reducible apply d46 | rw [d46] | refine b1r ?_ (fun _ => ?_) | refine b1s ?_ ?_ | refine b1t (fun _ => ?_) | intro _ | split
noncomputable def c9z (sum_8 : Int) : Option Int :=
  some sum_8
theorem d49 (sum_8 : Int) : Le (c9z sum_8) (c26 sum_8) := by
  unfold c9z c26
  repeat' first | with_reducible exact le_refl _ | refine b1r ?_ (fun _ => ?_) | refine b1s ?_ ?_ | refine b1t (fun _ => ?_) | intro _ | split
noncomputable def c9y (h_ : Hall) (comb : Int) (from_ : Int) (to_ : Int) : Option Int :=
  (b3v (c9x h_ comb from_ to_) (0, 0)).bind fun sum_8 =>
  c9z sum_8
theorem d5b (h_ : Hall) (comb : Int) (from_ : Int) (to_ : Int) : Le (c9y h_ comb from_ to_) (b8u h_ comb from_ to_) := by
  unfold c9y b8u
  repeat' first | with_reducible exact le_refl _ | with_reducible apply d47 | rw [d47] | with_reducible apply d49 | rw [d49] | refine b1r ?_ (fun _ => ?_) | refine b1s ?_ ?_ | refine b1t (fun _ => ?_) | intro _ | split
noncomputable def c4z (b : halls_bound) (from_ : Int) (least_7 : Int) (k_8 : Int) (behind_9 : Int) : Option (Out (Int × Int) Int) :=
  (get b.flow k_8).bind fun x23 =>
  (get b.flow (mx from_ 0)).bind fun x24 =>
  (get b.most k_8).bind fun x25 =>
  some (.nx (mn least_7 (wr ((wr ((wr (x23 - x24)) + x25)) + behind_9)), wr (k_8 + 1)))
theorem d26 (b : halls_bound) (from_ : Int) (least_7 : Int) (k_8 : Int) (behind_9 : Int) : Le (c4z b from_ least_7 k_8 behind_9) (b69 b from_ least_7 k_8 behind_9) := by
  unfold c4z b69
  repeat' first | with_reducible exact le_refl _ | refine b1r ?_ (fun _ => ?_) | refine b1s ?_ ?_ | refine b1t (fun _ => ?_) | intro _ | split
noncomputable def c8j (b : halls_bound) (from_ : Int) (to_ : Int) : (Int × Int) → Option (Out (Int × Int) Int)
  | (least_7, k_8) =>
    if decide (k_8 ≤ to_) then
      if decide (k_8 < to_) then
        (get b.come (wr (k_8 + 1))).bind fun x29 =>
        (get x29 to_).bind fun x30 =>
        c4z b from_ least_7 k_8 x30
      else
        c4z b from_ least_7 k_8 0
    else
      some (.br least_7)
theorem d24 (b : halls_bound) (from_ : Int) (to_ : Int) : ∀ s_0, Le (c8j b from_ to_ s_0) (b8d b from_ to_ s_0) := by
  intro s_0
  unfold c8j b8d
  repeat' first | with_reducible exact le_refl _ | with_reducible apply d26 | rw [d26] | refine b1r ?_ (fun _ => ?_) | refine b1s ?_ ?_ | refine b1t (fun _ => ?_) | intro _ | split
noncomputable def c8l (least_7 : Int) : Option Int :=
  some least_7
theorem d25 (least_7 : Int) : Le (c8l least_7) (b9t least_7) := by
  unfold c8l b9t
  repeat' first | with_reducible exact le_refl _ | refine b1r ?_ (fun _ => ?_) | refine b1s ?_ ?_ | refine b1t (fun _ => ?_) | intro _ | split
noncomputable def c8k (b : halls_bound) (from_ : Int) (to_ : Int) : Option Int :=
  if (decide (to_ < from_)) || (decide (to_ < 0)) then
    some 0
  else
    (get b.come 0).bind fun x8 =>
    (get x8 to_).bind fun x9 =>
    (get b.flow (wr (to_ + 1))).bind fun x10 =>
    (get b.flow (mx from_ 0)).bind fun x11 =>
    (b3v (c8j b from_ to_) (mn x9 (wr (x10 - x11)), mx from_ 0)).bind fun least_7 =>
    c8l least_7
theorem d27 (b : halls_bound) (from_ : Int) (to_ : Int) : Le (c8k b from_ to_) (b8c b from_ to_) := by
  unfold c8k b8c
  repeat' first | with_reducible exact le_refl _ | with_reducible apply d24 | rw [d24] | with_reducible apply d25 | rw [d25] | refine b1r ?_ (fun _ => ?_) | refine b1s ?_ ?_ | refine b1t (fun _ => ?_) | intro _ | split
noncomputable def c5o (x_54 : Int) (row_9_2 : List Int) : Option (Out ((List Int) × Int) (((List Int)))) :=
  some (.nx (row_9_2, wr (x_54 + 1)))
theorem d44 (x_54 : Int) (row_9_2 : List Int) : Le (c5o x_54 row_9_2) (b7p x_54 row_9_2) := by
  unfold c5o b7p
  repeat' first | with_reducible exact le_refl _ | refine b1r ?_ (fun _ => ?_) | refine b1s ?_ ?_ | refine b1t (fun _ => ?_) | intro _ | split
noncomputable def c9h (all_5 : List halls_bound) (x_19 : Int) (x_28 : Int) (t_10 : Int) (l76 : List Comb) : ((List Int) × Int) → Option (Out ((List Int) × Int) (((List Int))))
  | (row_9_1, x_54) =>
    if decide (x_54 < (List.length l76 : Int)) then
      (get l76 x_54).bind fun x83 =>
      if decide (x83.Next = x_19) then
        (get row_9_1 t_10).bind fun x89 =>
        (get all_5 x_54).bind fun x90 =>
        (c8k x90 (wr (x_28 - x83.Walk.High)) (wr (t_10 - x83.Walk.Low))).bind fun y92 =>
        c5o x_54 (List.set row_9_1 (Int.toNat t_10) (wr (x89 + y92)))
      else
        c5o x_54 row_9_1
    else
      some (.br row_9_1)
theorem d4q (all_5 : List halls_bound) (x_19 : Int) (x_28 : Int) (t_10 : Int) (l76 : List Comb) : ∀ s_0, Le (c9h all_5 x_19 x_28 t_10 l76 s_0) (b8s all_5 x_19 x_28 t_10 l76 s_0) := by
  intro s_0
  unfold c9h b8s
  repeat' first | with_reducible exact le_refl _ | with_reducible apply d27 | rw [d27] | with_reducible apply d44 | rw [d44] | refine b1r ?_ (fun _ => ?_) | refine b1s ?_ ?_ | refine b1t (fun _ => ?_) | intro _ | split
noncomputable def c9t (t_10 : Int) (row_9_1 : List Int) : Option (Out ((List Int) × Int) (((List Int)))) :=
  some (.nx (row_9_1, wr (t_10 + 1)))
theorem d42 (t_10 : Int) (row_9_1 : List Int) : Le (c9t t_10 row_9_1) (c0i t_10 row_9_1) := by
  unfold c9t c0i
  repeat' first | with_reducible exact le_refl _ | refine b1r ?_ (fun _ => ?_) | refine b1s ?_ ?_ | refine b1t (fun _ => ?_) | intro _ | split
noncomputable def c9i (h_ : Hall) (all_5 : List halls_bound) (x_19 : Int) (x_28 : Int) : ((List Int) × Int) → Option (Out ((List Int) × Int) (((List Int))))
  | (row_9, t_10) =>
    if decide (t_10 < h_.Until) then
      (c9y h_ x_19 x_28 t_10).bind fun y73 =>
      (get row_9 t_10).bind fun x74 =>
      (sub h_.Combs 0 x_19).bind fun l76 =>
      (b3v (c9h all_5 x_19 x_28 t_10 l76) ((List.set row_9 (Int.toNat t_10) y73), 0)).bind fun row_9_1 =>
      c9t t_10 row_9_1
    else
      some (.br row_9)
theorem d4r (h_ : Hall) (all_5 : List halls_bound) (x_19 : Int) (x_28 : Int) : ∀ s_0, Le (c9i h_ all_5 x_19 x_28 s_0) (b7l h_ all_5 x_19 x_28 s_0) := by
  intro s_0
  unfold c9i b7l
  repeat' first | with_reducible exact le_refl _ | with_reducible apply d5b | rw [d5b] | with_reducible apply d4q | rw [d4q] | with_reducible apply d42 | rw [d42] | refine b1r ?_ (fun _ => ?_) | refine b1s ?_ ?_ | refine b1t (fun _ => ?_) | intro _ | split
noncomputable def c9r (x_28 : Int) (b_7_0_1 : List Int) (b_7_3_1 : List (List Int)) : Option (Out ((List Int) × (List (List Int)) × Int) (((List Int) × (List (List Int))))) :=
  some (.nx (b_7_0_1, b_7_3_1, wr (x_28 + 1)))
theorem d40 (x_28 : Int) (b_7_0_1 : List Int) (b_7_3_1 : List (List Int)) : Le (c9r x_28 b_7_0_1 b_7_3_1) (c0f x_28 b_7_0_1 b_7_3_1) := by
  unfold c9r c0f
  repeat' first | with_reducible exact le_refl _ | refine b1r ?_ (fun _ => ?_) | refine b1s ?_ ?_ | refine b1t (fun _ => ?_) | intro _ | split
noncomputable def c9s (open_ : List (List Int)) (x_19 : Int) (b_7_0 : List Int) (b_7_3 : List (List Int)) (x_28 : Int) (row_9 : List Int) : Option (Out ((List Int) × (List (List Int)) × Int) (((List Int) × (List (List Int))))) :=
  (ap 24 b_7_3 ([row_9])).bind fun l57 =>
  (get b_7_0 x_28).bind fun x62 =>
  (get open_ x_19).bind fun x63 =>
  (get x63 x_28).bind fun x64 =>
  (ap 8 b_7_0 ([wr (x62 + x64)])).bind fun l65 =>
  c9r x_28 l65 l57
theorem d41 (open_ : List (List Int)) (x_19 : Int) (b_7_0 : List Int) (b_7_3 : List (List Int)) (x_28 : Int) (row_9 : List Int) : Le (c9s open_ x_19 b_7_0 b_7_3 x_28 row_9) (c0g open_ x_19 b_7_0 b_7_3 x_28 row_9) := by
  unfold c9s c0g
  repeat' first | with_reducible exact le_refl _ | with_reducible apply d40 | rw [d40] | refine b1r ?_ (fun _ => ?_) | refine b1s ?_ ?_ | refine b1t (fun _ => ?_) | intro _ | split
noncomputable def c9j (h_ : Hall) (open_ : List (List Int)) (all_5 : List halls_bound) (x_19 : Int) : ((List Int) × (List (List Int)) × Int) → Option (Out ((List Int) × (List (List Int)) × Int) (((List Int) × (List (List Int)))))
  | (b_7_0, b_7_3, x_28) =>
    if decide (x_28 < h_.Until) then
      (mks 8 h_.Until 0).bind fun l53 =>
      (b3v (c9i h_ all_5 x_19 x_28) (l53, x_28)).bind fun row_9 =>
      c9s open_ x_19 b_7_0 b_7_3 x_28 row_9
    else
      some (.br (b_7_0, b_7_3))
theorem d4s (h_ : Hall) (open_ : List (List Int)) (all_5 : List halls_bound) (x_19 : Int) : ∀ s_0, Le (c9j h_ open_ all_5 x_19 s_0) (b7m h_ open_ all_5 x_19 s_0) := by
  intro s_0
  unfold c9j b7m
  repeat' first | with_reducible exact le_refl _ | with_reducible apply d4r | rw [d4r] | with_reducible apply d41 | rw [d41] | refine b1r ?_ (fun _ => ?_) | refine b1s ?_ ?_ | refine b1t (fun _ => ?_) | intro _ | split
noncomputable def c9k (b_7_0 : List Int) (b_7_3 : List (List Int)) (x_122 : Int) : (Int × Int) → Option (Out (Int × Int) Int)
  | (most_14, x_127) =>
    if decide (x_127 < (wr (x_122 + 1))) then
      (get b_7_3 x_127).bind fun x40 =>
      (get x40 x_122).bind fun x42 =>
      (get b_7_0 x_122).bind fun x43 =>
      (get b_7_0 x_127).bind fun x44 =>
      some (.nx (mx most_14 (wr (x42 - (wr (x43 - x44)))), wr (x_127 + 1)))
    else
      some (.br most_14)
theorem d4t (b_7_0 : List Int) (b_7_3 : List (List Int)) (x_122 : Int) : ∀ s_0, Le (c9k b_7_0 b_7_3 x_122 s_0) (b7n b_7_0 b_7_3 x_122 s_0) := by
  intro s_0
  unfold c9k b7n
  repeat' first | with_reducible exact le_refl _ | refine b1r ?_ (fun _ => ?_) | refine b1s ?_ ?_ | refine b1t (fun _ => ?_) | intro _ | split
noncomputable def c9o (x_122 : Int) (b_7_1_1 : List Int) (b_7_2_1 : List Int) : Option (Out ((List Int) × (List Int) × Int) (((List Int) × (List Int)))) :=
  some (.nx (b_7_1_1, b_7_2_1, wr (x_122 + 1)))
theorem d4x (x_122 : Int) (b_7_1_1 : List Int) (b_7_2_1 : List Int) : Le (c9o x_122 b_7_1_1 b_7_2_1) (c0d x_122 b_7_1_1 b_7_2_1) := by
  unfold c9o c0d
  repeat' first | with_reducible exact le_refl _ | refine b1r ?_ (fun _ => ?_) | refine b1s ?_ ?_ | refine b1t (fun _ => ?_) | intro _ | split
noncomputable def c9p (open_ : List (List Int)) (x_19 : Int) (b_7_1 : List Int) (b_7_2 : List Int) (x_122 : Int) (most_14 : Int) : Option (Out ((List Int) × (List Int) × Int) (((List Int) × (List Int)))) :=
  (ap 8 b_7_2 ([most_14])).bind fun l22 =>
  (get b_7_1 x_122).bind fun x27 =>
  (get open_ x_19).bind fun x28 =>
  (get x28 x_122).bind fun x29 =>
  (ap 8 b_7_1 ([wr (x27 + (mn most_14 x29))])).bind fun l30 =>
  c9o x_122 l30 l22
theorem d4y (open_ : List (List Int)) (x_19 : Int) (b_7_1 : List Int) (b_7_2 : List Int) (x_122 : Int) (most_14 : Int) : Le (c9p open_ x_19 b_7_1 b_7_2 x_122 most_14) (c0e open_ x_19 b_7_1 b_7_2 x_122 most_14) := by
  unfold c9p c0e
  repeat' first | with_reducible exact le_refl _ | with_reducible apply d4x | rw [d4x] | refine b1r ?_ (fun _ => ?_) | refine b1s ?_ ?_ | refine b1t (fun _ => ?_) | intro _ | split
noncomputable def c9l (h_ : Hall) (open_ : List (List Int)) (x_19 : Int) (b_7_0 : List Int) (b_7_3 : List (List Int)) : ((List Int) × (List Int) × Int) → Option (Out ((List Int) × (List Int) × Int) (((List Int) × (List Int))))
  | (b_7_1, b_7_2, x_122) =>
    if decide (x_122 < h_.Until) then
      (b3v (c9k b_7_0 b_7_3 x_122) (0, 0)).bind fun most_14 =>
      c9p open_ x_19 b_7_1 b_7_2 x_122 most_14
    else
      some (.br (b_7_1, b_7_2))
theorem d4u (h_ : Hall) (open_ : List (List Int)) (x_19 : Int) (b_7_0 : List Int) (b_7_3 : List (List Int)) : ∀ s_0, Le (c9l h_ open_ x_19 b_7_0 b_7_3 s_0) (b7o h_ open_ x_19 b_7_0 b_7_3 s_0) := by
  intro s_0
  unfold c9l b7o
  repeat' first | with_reducible exact le_refl _ | with_reducible apply d4t | rw [d4t] | with_reducible apply d4y | rw [d4y] | refine b1r ?_ (fun _ => ?_) | refine b1s ?_ ?_ | refine b1t (fun _ => ?_) | intro _ | split
noncomputable def c9u (x_19 : Int) (all_5_1 : List halls_bound) : Option (Out ((List halls_bound) × Int) (((List halls_bound)))) :=
  some (.nx (all_5_1, wr (x_19 + 1)))
theorem d43 (x_19 : Int) (all_5_1 : List halls_bound) : Le (c9u x_19 all_5_1) (c0h x_19 all_5_1) := by
  unfold c9u c0h
  repeat' first | with_reducible exact le_refl _ | refine b1r ?_ (fun _ => ?_) | refine b1s ?_ ?_ | refine b1t (fun _ => ?_) | intro _ | split
noncomputable def c9n (all_5 : List halls_bound) (x_19 : Int) (b_7_0 : List Int) (b_7_3 : List (List Int)) (b_7_1 : List Int) (b_7_2 : List Int) : Option (Out ((List halls_bound) × Int) (((List halls_bound)))) :=
  (ap 8 all_5 ([(halls_bound.mk b_7_0 b_7_1 b_7_2 b_7_3)])).bind fun l13 =>
  c9u x_19 l13
theorem d4w (all_5 : List halls_bound) (x_19 : Int) (b_7_0 : List Int) (b_7_3 : List (List Int)) (b_7_1 : List Int) (b_7_2 : List Int) : Le (c9n all_5 x_19 b_7_0 b_7_3 b_7_1 b_7_2) (c0c all_5 x_19 b_7_0 b_7_3 b_7_1 b_7_2) := by
  unfold c9n c0c
  repeat' first | with_reducible exact le_refl _ | with_reducible apply d43 | rw [d43] | refine b1r ?_ (fun _ => ?_) | refine b1s ?_ ?_ | refine b1t (fun _ => ?_) | intro _ | split
noncomputable def c9v (h_ : Hall) (open_ : List (List Int)) (all_5 : List halls_bound) (x_19 : Int) (b_7_0 : List Int) (b_7_3 : List (List Int)) : Option (Out ((List halls_bound) × Int) (((List halls_bound)))) :=
  (b3v (c9l h_ open_ x_19 b_7_0 b_7_3) ([0], [], 0)).bind fun
    | (b_7_1, b_7_2) => c9n all_5 x_19 b_7_0 b_7_3 b_7_1 b_7_2
theorem d45 (h_ : Hall) (open_ : List (List Int)) (all_5 : List halls_bound) (x_19 : Int) (b_7_0 : List Int) (b_7_3 : List (List Int)) : Le (c9v h_ open_ all_5 x_19 b_7_0 b_7_3) (c0j h_ open_ all_5 x_19 b_7_0 b_7_3) := by
  unfold c9v c0j
  repeat' first | with_reducible exact le_refl _ | with_reducible apply d4u | rw [d4u] | with_reducible apply d4w | rw [d4w] | refine b1r ?_ (fun _ => ?_) | refine b1s ?_ ?_ | refine b1t (fun _ => ?_) | intro _ | split
noncomputable def c9m (h_ : Hall) (open_ : List (List Int)) : ((List halls_bound) × Int) → Option (Out ((List halls_bound) × Int) (((List halls_bound))))
  | (all_5, x_19) =>
    if decide (x_19 < (List.length h_.Combs : Int)) then
      (b3v (c9j h_ open_ all_5 x_19) ([0], [], 0)).bind fun
        | (b_7_0, b_7_3) => c9v h_ open_ all_5 x_19 b_7_0 b_7_3
    else
      some (.br all_5)
theorem d4v (h_ : Hall) (open_ : List (List Int)) : ∀ s_0, Le (c9m h_ open_ s_0) (b8t h_ open_ s_0) := by
  intro s_0
  unfold c9m b8t
  repeat' first | with_reducible exact le_refl _ | with_reducible apply d4s | rw [d4s] | with_reducible apply d45 | rw [d45] | refine b1r ?_ (fun _ => ?_) | refine b1s ?_ ?_ | refine b1t (fun _ => ?_) | intro _ | split
noncomputable def c9q (all_5 : List halls_bound) : Option (List halls_bound) :=
  some all_5
theorem d4z (all_5 : List halls_bound) : Le (c9q all_5) (c25 all_5) := by
  unfold c9q c25
  repeat' first | with_reducible exact le_refl _ | refine b1r ?_ (fun _ => ?_) | refine b1s ?_ ?_ | refine b1t (fun _ => ?_) | intro _ | split
noncomputable def c5n (h_ : Hall) (open_ : List (List Int)) : Option (List halls_bound) :=
  (b3v (c9m h_ open_) ([], 0)).bind fun all_5 =>
  c9q all_5
theorem c5p (h_ : Hall) (open_ : List (List Int)) : Le (c5n h_ open_) (b55 h_ open_) := by
  unfold c5n b55
  repeat' first | with_reducible exact le_refl _ | with_reducible apply d4v | rw [d4v] | with_reducible apply d4z | rw [d4z] | refine b1r ?_ (fun _ => ?_) | refine b1s ?_ ?_ | refine b1t (fun _ => ?_) | intro _ | split
noncomputable def c98 (n : Int) (c0 : Hall) (c1 : Int) : Option Bool :=
  (get c0.Combs c1).bind fun x2 =>
  some (decide (x2.Limit < n))
theorem d5k (n : Int) (c0 : Hall) (c1 : Int) : Le (c98 n c0 c1) (c0m n c0 c1) := by
  unfold c98 c0m
  repeat' first | with_reducible exact le_refl _ | refine b1r ?_ (fun _ => ?_) | refine b1s ?_ ?_ | refine b1t (fun _ => ?_) | intro _ | split
noncomputable def c5x (x_10 : Int) (out_4_1 : List (Int × Int)) : Option (Out ((List (Int × Int)) × Int) (((List (Int × Int))))) :=
  some (.nx (out_4_1, wr (x_10 + 1)))
theorem d5n (x_10 : Int) (out_4_1 : List (Int × Int)) : Le (c5x x_10 out_4_1) (c0n x_10 out_4_1) := by
  unfold c5x c0n
  repeat' first | with_reducible exact le_refl _ | refine b1r ?_ (fun _ => ?_) | refine b1s ?_ ?_ | refine b1t (fun _ => ?_) | intro _ | split
noncomputable def c99 (h_ : Hall) (all : List halls_bound) : ((List (Int × Int)) × Int) → Option (Out ((List (Int × Int)) × Int) (((List (Int × Int)))))
  | (out_4, x_10) =>
    if decide (x_10 < (List.length all : Int)) then
      (get all x_10).bind fun x9 =>
      (c7j x9.most (fun z12 => c98 z12 h_ x_10)).bind fun y13 =>
      if decide (0 ≤ y13) then
        (ap 16 out_4 ([(x_10, y13)])).bind fun l16 =>
        c5x x_10 l16
      else
        c5x x_10 out_4
    else
      some (.br out_4)
theorem d5l (h_ : Hall) (all : List halls_bound) : ∀ s_0, Le (c99 h_ all s_0) (c5v h_ all s_0) := by
  intro s_0
  unfold c99 c5v
  repeat' first | with_reducible exact le_refl _ | with_reducible apply c7k | rw [c7k] | with_reducible apply d5k | rw [d5k] | with_reducible apply d5n | rw [d5n] | refine b1r ?_ (fun _ => ?_) | refine b1s ?_ ?_ | refine b1t (fun _ => ?_) | intro _ | split
noncomputable def d0a (out_4 : List (Int × Int)) : Option (List (Int × Int)) :=
  some out_4
theorem d5m (out_4 : List (Int × Int)) : Le (d0a out_4) (c3b out_4) := by
  unfold d0a c3b
  repeat' first | with_reducible exact le_refl _ | refine b1r ?_ (fun _ => ?_) | refine b1s ?_ ?_ | refine b1t (fun _ => ?_) | intro _ | split
noncomputable def c5w (h_ : Hall) (all : List halls_bound) : Option (List (Int × Int)) :=
  (b3v (c99 h_ all) ([], 0)).bind fun out_4 =>
  d0a out_4
theorem c5y (h_ : Hall) (all : List halls_bound) : Le (c5w h_ all) (c0l h_ all) := by
  unfold c5w c0l
  repeat' first | with_reducible exact le_refl _ | with_reducible apply d5l | rw [d5l] | with_reducible apply d5m | rw [d5m] | refine b1r ?_ (fun _ => ?_) | refine b1s ?_ ?_ | refine b1t (fun _ => ?_) | intro _ | split
noncomputable def c9d (h_ : Hall) (comb : Int) (from_ : Int) : ((List (List Int)) × Int) → Option (Out ((List (List Int)) × Int) (((Int × Int))))
  | (all_9, n_10) =>
    (c5n h_ all_9).bind fun y11 =>
    (c5w h_ y11).bind fun y12 =>
    if decide ((List.length y12 : Int) = 0) then
      some (.br (n_10, 0))
    else
      if decide ((wr (from_ + n_10)) = h_.Until) then
        some (.br (0, 3))
      else
        (get all_9 comb).bind fun x19 =>
        (get x19 (wr (from_ + n_10))).bind fun x20 =>
        some (.nx ((List.set all_9 (Int.toNat comb) (List.set x19 (Int.toNat (wr (from_ + n_10))) 0)), wr (n_10 + 1)))
theorem d4n (h_ : Hall) (comb : Int) (from_ : Int) : ∀ s_0, Le (c9d h_ comb from_ s_0) (c5j h_ comb from_ s_0) := by
  intro s_0
  unfold c9d c5j
  repeat' first | with_reducible exact le_refl _ | with_reducible apply c5p | rw [c5p] | with_reducible apply c5y | rw [c5y] | refine b1r ?_ (fun _ => ?_) | refine b1s ?_ ?_ | refine b1t (fun _ => ?_) | intro _ | split
noncomputable def c9e (h_ : Hall) (comb : Int) (from_ : Int) : Option (Int × Int) :=
  (c91 h_ comb ([from_])).bind fun y2 =>
  if decide (¬y2 = 0) then
    some (0, y2)
  else
    (c5t h_).bind fun y6 =>
    (b3v (c9d h_ comb from_) (y6, 0)).bind fun r' =>
    some r'
theorem d4o (h_ : Hall) (comb : Int) (from_ : Int) : Le (c9e h_ comb from_) (c2x h_ comb from_) := by
  unfold c9e c2x
  repeat' first | with_reducible exact le_refl _ | with_reducible apply d5d | rw [d5d] | with_reducible apply c5u | rw [c5u] | with_reducible apply d4n | rw [d4n] | refine b1r ?_ (fun _ => ?_) | refine b1s ?_ ?_ | refine b1t (fun _ => ?_) | intro _ | split
noncomputable def c6d : Hall :=
  (Hall.mk ([(Comb.mk 3 12 1 (Span.mk 2 3)), (Comb.mk 2 10 (-1) (Span.mk 1 1))]) ([(Train.mk (Span.mk 2 4) ([(Crowd.mk 0 (Span.mk 6 10))])), (Train.mk (Span.mk 5 5) ([(Crowd.mk 0 (Span.mk 0 4)), (Crowd.mk 1 (Span.mk 3 3))]))]) ([]) 20)
theorem d77 : c6d = l06_Example := by unfold c6d l06_Example; rfl
noncomputable def c9f (h_ : Hall) : Option ((List (Int × Int)) × Int) :=
  (c5h h_).bind fun y2 =>
  if decide (¬y2 = 0) then
    some ([], y2)
  else
    (c5t h_).bind fun y8 =>
    (c5n h_ y8).bind fun y9 =>
    (c5w h_ y9).bind fun y10 =>
    some (y10, 0)
theorem d4p (h_ : Hall) : Le (c9f h_) (c2y h_) := by
  unfold c9f c2y
  repeat' first | with_reducible exact le_refl _ | with_reducible apply c5i | rw [c5i] | with_reducible apply c5u | rw [c5u] | with_reducible apply c5p | rw [c5p] | with_reducible apply c5y | rw [c5y] | refine b1r ?_ (fun _ => ?_) | refine b1s ?_ ?_ | refine b1t (fun _ => ?_) | intro _ | split
noncomputable def d78 : Option Bool :=
  (c9e c6d 0 5).bind fun y2 =>
  (c9f c6d).bind fun y4 =>
  (if (((decide (y2.2 = 0)) && (decide (y4.2 = 0))) && (decide (y2.1 = 1))) && (decide ((List.length y4.1 : Int) = 1)) then (get y4.1 0).bind fun x7 =>
  some (decide (x7.1 = 1) && decide (x7.2 = 7)) else some false).bind fun c8 =>
  some c8
theorem j08  : Le (d78 ) (b7u ) := by
  unfold d78 b7u
  repeat' first | with_reducible exact le_refl _ | with_reducible apply d4o | rw [d4o] | with_reducible apply d77 | rw [d77] | with_reducible apply d4p | rw [d4p] | refine b1r ?_ (fun _ => ?_) | refine b1s ?_ ?_ | refine b1t (fun _ => ?_) | intro _ | split
end Go.Nw.HM
