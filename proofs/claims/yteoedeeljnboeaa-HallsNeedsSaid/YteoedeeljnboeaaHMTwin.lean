/- Twins of the models, which the kernel evaluates. -/
import Derived.Test.YteoedeeljnboeaaNwTwin
import Derived.Test.YteoedeeljnboeaaHM
set_option linter.all false
set_option linter.unusedVariables false
set_option linter.unusedSimpArgs false
set_option linter.unusedSectionVars false
namespace Go.Nw.HM
set_option linter.unusedVariables false
noncomputable def c3d (n : Int) (s : Span) : Bool :=
  (decide (s.Low ≤ n)) && (decide (n ≤ s.High))
theorem c53 (n : Int) (s : Span) : c3d n s = b4s n s := by unfold c3d b4s; rfl
noncomputable def c3h (s : Span) (low : Int) (high : Int) : Bool :=
  ((decide (low ≤ s.Low)) && (decide (s.Low ≤ s.High))) && (decide (s.High ≤ high))
theorem c04 (s : Span) (low : Int) (high : Int) : c3h s low high = b43 s low high := by unfold c3h b43; rfl
noncomputable def d0f (h_ : Hall) (i : Int) : Option Bool :=
  (get h_.Combs i).bind fun x2 =>
  some ((((c3d x2.Rate (Span.mk 0 1000)) && (c3d x2.Limit (Span.mk 0 100000))) && ((decide (x2.Next = (-1))) || ((decide (i < x2.Next)) && (decide (x2.Next < (List.length h_.Combs : Int)))))) && (c3h x2.Walk 1 20))
theorem d5p (h_ : Hall) (i : Int) : Le (d0f h_ i) (b85 h_ i) := by
  unfold d0f b85
  repeat' first | with_reducible exact le_refl _ | with_reducible apply c53 | rw [c53] | with_reducible apply c04 | rw [c04] | refine b1q ?_ (fun _ => ?_) | refine b1r ?_ ?_ | refine b1s (fun _ => ?_) | intro _ | split
noncomputable def c9o (h_ : Hall) : Int → Option (Out Int (Unit ⊕ Int))
  | x_41 =>
    if decide (x_41 < (List.length h_.Combs : Int)) then
      (d0f h_ x_41).bind fun y45 =>
      if !y45 then
        some (.br (.inr 60))
      else
        some (.nx (wr (x_41 + 1)))
    else
      some (.br (.inl ()))
theorem d4v (h_ : Hall) : ∀ s_0, Le (c9o h_ s_0) (b7t h_ s_0) := by
  intro s_0
  unfold c9o b7t
  repeat' first | with_reducible exact le_refl _ | with_reducible apply d5p | rw [d5p] | refine b1q ?_ (fun _ => ?_) | refine b1r ?_ ?_ | refine b1s (fun _ => ?_) | intro _ | split
noncomputable def d2q (s : List Train) (f : Train → Option Bool) : Int → Option (Out Int (Unit ⊕ Int))
  | x_8 =>
    if decide (x_8 < (List.length s : Int)) then
      (get s x_8).bind fun x9 =>
      (f x9).bind fun y10 =>
      if y10 then
        some (.br (.inr x_8))
      else
        some (.nx (wr (x_8 + 1)))
    else
      some (.br (.inl ()))
theorem g0o (s : List Train) (f f' : Train → Option Bool) (hf : ∀ x0, Le (f x0) (f' x0)) : ∀ s_0, Le (d2q s f s_0) (c7r s f' s_0) := by
  intro s_0
  unfold d2q c7r
  repeat' first | with_reducible exact le_refl _ | apply hf | refine b1q ?_ (fun _ => ?_) | refine b1r ?_ ?_ | refine b1s (fun _ => ?_) | intro _ | split
noncomputable def d2s : Option Int :=
  some (-1)
theorem g0p  : Le (d2s ) (c4m ) := by
  unfold d2s c4m
  repeat' first | with_reducible exact le_refl _ | refine b1q ?_ (fun _ => ?_) | refine b1r ?_ ?_ | refine b1s (fun _ => ?_) | intro _ | split
noncomputable def d2r (s : List Train) (f : Train → Option Bool) : Option Int :=
  (b3w (d2q s f) (0)).bind fun
    | (.inl ()) => d2s
    | (.inr r') => some r'
theorem g0q (s : List Train) (f f' : Train → Option Bool) (hf : ∀ x0, Le (f x0) (f' x0)) : Le (d2r s f) (c4l s f') := by
  unfold d2r c4l
  repeat' first | with_reducible exact le_refl _ | with_reducible apply g0o | rw [g0o] | with_reducible apply g0p | rw [g0p] | apply hf | refine b1q ?_ (fun _ => ?_) | refine b1r ?_ ?_ | refine b1s (fun _ => ?_) | intro _ | split
noncomputable def d2o (s : List Train) (f : Train → Option Bool) : Option Bool :=
  (d2r s f).bind fun y2 =>
  some (decide (0 ≤ y2))
theorem g0m (s : List Train) (f f' : Train → Option Bool) (hf : ∀ x0, Le (f x0) (f' x0)) : Le (d2o s f) (c19 s f') := by
  unfold d2o c19
  repeat' first | with_reducible exact le_refl _ | with_reducible apply g0q | rw [g0q] | apply hf | refine b1q ?_ (fun _ => ?_) | refine b1r ?_ ?_ | refine b1s (fun _ => ?_) | intro _ | split
noncomputable def d0g (h_ : Hall) (t_ : Train) : (Int × Int) → Option (Out (Int × Int) (Unit ⊕ Bool))
  | (last_5, x_11) =>
    if decide (x_11 < (List.length t_.Crowds : Int)) then
      (get t_.Crowds x_11).bind fun x9 =>
      if ((decide (x9.Comb ≤ last_5)) || (decide ((List.length h_.Combs : Int) ≤ x9.Comb))) || (!(c3h x9.People 0 1000)) then
        some (.br (.inr false))
      else
        some (.nx (x9.Comb, wr (x_11 + 1)))
    else
      some (.br (.inl ()))
theorem d5q (h_ : Hall) (t_ : Train) : ∀ s_0, Le (d0g h_ t_ s_0) (b6w h_ t_ s_0) := by
  intro s_0
  unfold d0g b6w
  repeat' first | with_reducible exact le_refl _ | with_reducible apply c04 | rw [c04] | refine b1q ?_ (fun _ => ?_) | refine b1r ?_ ?_ | refine b1s (fun _ => ?_) | intro _ | split
noncomputable def d0i (h_ : Hall) (t_ : Train) : Option Bool :=
  some ((c3h t_.At 0 (wr (h_.Until - 1))) && (decide ((List.length t_.Crowds : Int) ≤ 4)))
theorem d5r (h_ : Hall) (t_ : Train) : Le (d0i h_ t_) (c01 h_ t_) := by
  unfold d0i c01
  repeat' first | with_reducible exact le_refl _ | with_reducible apply c04 | rw [c04] | refine b1q ?_ (fun _ => ?_) | refine b1r ?_ ?_ | refine b1s (fun _ => ?_) | intro _ | split
noncomputable def d0h (h_ : Hall) (t_ : Train) : Option Bool :=
  (b3w (d0g h_ t_) ((-1), 0)).bind fun
    | (.inl ()) => d0i h_ t_
    | (.inr r') => some r'
theorem d5s (h_ : Hall) (t_ : Train) : Le (d0h h_ t_) (b86 h_ t_) := by
  unfold d0h b86
  repeat' first | with_reducible exact le_refl _ | with_reducible apply d5q | rw [d5q] | with_reducible apply d5r | rw [d5r] | refine b1q ?_ (fun _ => ?_) | refine b1r ?_ ?_ | refine b1s (fun _ => ?_) | intro _ | split
noncomputable def c9m (t_ : Train) (c0 : Hall) : Option Bool :=
  (d0h c0 t_).bind fun y2 =>
  some (!y2)
theorem d4t (t_ : Train) (c0 : Hall) : Le (c9m t_ c0) (b7r t_ c0) := by
  unfold c9m b7r
  repeat' first | with_reducible exact le_refl _ | with_reducible apply d5s | rw [d5s] | refine b1q ?_ (fun _ => ?_) | refine b1r ?_ ?_ | refine b1s (fun _ => ?_) | intro _ | split
noncomputable def c9n (h_ : Hall) : Int → Option (Out Int (Unit ⊕ Int))
  | x_56 =>
    if decide (x_56 < (List.length h_.Shifts : Int)) then
      (get h_.Shifts x_56).bind fun x23 =>
      (if (decide (x23.At < 0)) || (decide (h_.Until ≤ x23.At)) then some true else (if decide (0 < x_56) then (get h_.Shifts (wr (x_56 - 1))).bind fun x27 =>
      some (decide (x23.At < x27.At)) else some false).bind fun c28 =>
      some c28).bind fun c29 =>
      if ((c29 || (decide (x23.Comb < 0))) || (decide ((List.length h_.Combs : Int) ≤ x23.Comb))) || (!(c3d x23.Rate (Span.mk 0 1000))) then
        some (.br (.inr 60))
      else
        some (.nx (wr (x_56 + 1)))
    else
      some (.br (.inl ()))
theorem d4u (h_ : Hall) : ∀ s_0, Le (c9n h_ s_0) (b7s h_ s_0) := by
  intro s_0
  unfold c9n b7s
  repeat' first | with_reducible exact le_refl _ | with_reducible apply c53 | rw [c53] | refine b1q ?_ (fun _ => ?_) | refine b1r ?_ ?_ | refine b1s (fun _ => ?_) | intro _ | split
noncomputable def c9p : Option Int :=
  some 0
theorem d4w  : Le (c9p ) (c27 ) := by
  unfold c9p c27
  repeat' first | with_reducible exact le_refl _ | refine b1q ?_ (fun _ => ?_) | refine b1r ?_ ?_ | refine b1s (fun _ => ?_) | intro _ | split
noncomputable def c9q (h_ : Hall) : Option Int :=
  (d2o h_.Trains (fun z12 => c9m z12 h_)).bind fun y13 =>
  if y13 then
    some 60
  else
    (b3w (c9n h_) (0)).bind fun
      | (.inl ()) => c9p
      | (.inr r') => some r'
theorem d4x (h_ : Hall) : Le (c9q h_) (c0q h_) := by
  unfold c9q c0q
  repeat' first | with_reducible exact le_refl _ | with_reducible apply g0m | rw [g0m] | with_reducible apply d4t | rw [d4t] | with_reducible apply d4u | rw [d4u] | with_reducible apply d4w | rw [d4w] | refine b1q ?_ (fun _ => ?_) | refine b1r ?_ ?_ | refine b1s (fun _ => ?_) | intro _ | split
noncomputable def c5u (h_ : Hall) : Option Int :=
  if (((((decide (h_.Until < 1)) || (decide (100 < h_.Until))) || (decide ((List.length h_.Combs : Int) < 1))) || (decide (8 < (List.length h_.Combs : Int)))) || (decide (12 < (List.length h_.Trains : Int)))) || (decide (20 < (List.length h_.Shifts : Int))) then
    some 60
  else
    (b3w (c9o h_) (0)).bind fun
      | (.inl ()) => c9q h_
      | (.inr r') => some r'
theorem c5v (h_ : Hall) : Le (c5u h_) (b5l h_) := by
  unfold c5u b5l
  repeat' first | with_reducible exact le_refl _ | with_reducible apply d4v | rw [d4v] | with_reducible apply d4x | rw [d4x] | refine b1q ?_ (fun _ => ?_) | refine b1r ?_ ?_ | refine b1s (fun _ => ?_) | intro _ | split
noncomputable def d2t (s : List Int) (f : Int → Option Bool) : Int → Option (Out Int (Unit ⊕ Int))
  | x_8 =>
    if decide (x_8 < (List.length s : Int)) then
      (get s x_8).bind fun x9 =>
      (f x9).bind fun y10 =>
      if y10 then
        some (.br (.inr x_8))
      else
        some (.nx (wr (x_8 + 1)))
    else
      some (.br (.inl ()))
theorem g0r (s : List Int) (f f' : Int → Option Bool) (hf : ∀ x0, Le (f x0) (f' x0)) : ∀ s_0, Le (d2t s f s_0) (c7s s f' s_0) := by
  intro s_0
  unfold d2t c7s
  repeat' first | with_reducible exact le_refl _ | apply hf | refine b1q ?_ (fun _ => ?_) | refine b1r ?_ ?_ | refine b1s (fun _ => ?_) | intro _ | split
noncomputable def d2u : Option Int :=
  some (-1)
theorem g0s  : Le (d2u ) (c4n ) := by
  unfold d2u c4n
  repeat' first | with_reducible exact le_refl _ | refine b1q ?_ (fun _ => ?_) | refine b1r ?_ ?_ | refine b1s (fun _ => ?_) | intro _ | split
noncomputable def c7t (s : List Int) (f : Int → Option Bool) : Option Int :=
  (b3w (d2t s f) (0)).bind fun
    | (.inl ()) => d2u
    | (.inr r') => some r'
theorem c7u (s : List Int) (f f' : Int → Option Bool) (hf : ∀ x0, Le (f x0) (f' x0)) : Le (c7t s f) (b9y s f') := by
  unfold c7t b9y
  repeat' first | with_reducible exact le_refl _ | with_reducible apply g0r | rw [g0r] | with_reducible apply g0s | rw [g0s] | apply hf | refine b1q ?_ (fun _ => ?_) | refine b1r ?_ ?_ | refine b1s (fun _ => ?_) | intro _ | split
noncomputable def d2p (s : List Int) (f : Int → Option Bool) : Option Bool :=
  (c7t s f).bind fun y2 =>
  some (decide (0 ≤ y2))
theorem g0n (s : List Int) (f f' : Int → Option Bool) (hf : ∀ x0, Le (f x0) (f' x0)) : Le (d2p s f) (c2a s f') := by
  unfold d2p c2a
  repeat' first | with_reducible exact le_refl _ | with_reducible apply c7u | rw [c7u] | apply hf | refine b1q ?_ (fun _ => ?_) | refine b1r ?_ ?_ | refine b1s (fun _ => ?_) | intro _ | split
noncomputable def d0d (t_ : Int) (c0 : Hall) : Bool :=
  (decide (t_ < 0)) || (decide (c0.Until ≤ t_))
theorem d5n (t_ : Int) (c0 : Hall) : d0d t_ c0 = b7a t_ c0 := by unfold d0d b7a; rfl
noncomputable def d0e (h_ : Hall) (comb : Int) (ticks : List Int) : Option Int :=
  (c5u h_).bind fun y2 =>
  if decide (¬y2 = 0) then
    some y2
  else
    (if (decide (comb < 0)) || (decide ((List.length h_.Combs : Int) ≤ comb)) then some true else (d2p ticks (fun z8 => some (d0d z8 h_))).bind fun y9 =>
    some y9).bind fun c10 =>
    if c10 then
      some 1
    else
      some 0
theorem d5o (h_ : Hall) (comb : Int) (ticks : List Int) : Le (d0e h_ comb ticks) (b6f h_ comb ticks) := by
  unfold d0e b6f
  repeat' first | with_reducible exact le_refl _ | with_reducible apply c5v | rw [c5v] | with_reducible apply g0n | rw [g0n] | with_reducible apply d5n | rw [d5n] | refine b1q ?_ (fun _ => ?_) | refine b1r ?_ ?_ | refine b1s (fun _ => ?_) | intro _ | split
noncomputable def c59 (at_7_1 : Int) (now_6_2 : Int) : Option (Out (Int × Int) ((Int × Int))) :=
  some (.nx (now_6_2, wr (at_7_1 + 1)))
theorem d53 (at_7_1 : Int) (now_6_2 : Int) : Le (c59 at_7_1 now_6_2) (b9c at_7_1 now_6_2) := by
  unfold c59 b9c
  repeat' first | with_reducible exact le_refl _ | refine b1q ?_ (fun _ => ?_) | refine b1r ?_ ?_ | refine b1s (fun _ => ?_) | intro _ | split
noncomputable def d0o (h_ : Hall) (comb : Int) (x_20 : Int) : (Int × Int) → Option (Out (Int × Int) ((Int × Int)))
  | (now_6_1, at_7_1) =>
    (if decide (at_7_1 < (List.length h_.Shifts : Int)) then (get h_.Shifts at_7_1).bind fun x19 =>
    some (decide (x19.At ≤ x_20)) else some false).bind fun c20 =>
    if c20 then
      (get h_.Shifts at_7_1).bind fun x27 =>
      if decide (x27.Comb = comb) then
        c59 at_7_1 x27.Rate
      else
        c59 at_7_1 now_6_1
    else
      some (.br (now_6_1, at_7_1))
theorem d5z (h_ : Hall) (comb : Int) (x_20 : Int) : ∀ s_0, Le (d0o h_ comb x_20 s_0) (b73 h_ comb x_20 s_0) := by
  intro s_0
  unfold d0o b73
  repeat' first | with_reducible exact le_refl _ | with_reducible apply d53 | rw [d53] | refine b1q ?_ (fun _ => ?_) | refine b1r ?_ ?_ | refine b1s (fun _ => ?_) | intro _ | split
noncomputable def d0r (x_20 : Int) (out_5_1 : List Int) (now_6_1 : Int) (at_7_1 : Int) : Option (Out ((List Int) × Int × Int × Int) (((List Int)))) :=
  some (.nx (out_5_1, now_6_1, at_7_1, wr (x_20 + 1)))
theorem d51 (x_20 : Int) (out_5_1 : List Int) (now_6_1 : Int) (at_7_1 : Int) : Le (d0r x_20 out_5_1 now_6_1 at_7_1) (c02 x_20 out_5_1 now_6_1 at_7_1) := by
  unfold d0r c02
  repeat' first | with_reducible exact le_refl _ | refine b1q ?_ (fun _ => ?_) | refine b1r ?_ ?_ | refine b1s (fun _ => ?_) | intro _ | split
noncomputable def d0s (out_5 : List Int) (x_20 : Int) (now_6_1 : Int) (at_7_1 : Int) : Option (Out ((List Int) × Int × Int × Int) (((List Int)))) :=
  (get out_5 x_20).bind fun x15 =>
  d0r x_20 (List.set out_5 (Int.toNat x_20) now_6_1) now_6_1 at_7_1
theorem d52 (out_5 : List Int) (x_20 : Int) (now_6_1 : Int) (at_7_1 : Int) : Le (d0s out_5 x_20 now_6_1 at_7_1) (c03 out_5 x_20 now_6_1 at_7_1) := by
  unfold d0s c03
  repeat' first | with_reducible exact le_refl _ | with_reducible apply d51 | rw [d51] | refine b1q ?_ (fun _ => ?_) | refine b1r ?_ ?_ | refine b1s (fun _ => ?_) | intro _ | split
noncomputable def d0p (h_ : Hall) (comb : Int) (l2 : List Int) : ((List Int) × Int × Int × Int) → Option (Out ((List Int) × Int × Int × Int) (((List Int))))
  | (out_5, now_6, at_7, x_20) =>
    if decide (x_20 < ((List.length l2 : Nat) : Int)) then
      (b3w (d0o h_ comb x_20) (now_6, at_7)).bind fun
        | (now_6_1, at_7_1) => d0s out_5 x_20 now_6_1 at_7_1
    else
      some (.br out_5)
theorem d50 (h_ : Hall) (comb : Int) (l2 : List Int) : ∀ s_0, Le (d0p h_ comb l2 s_0) (b9b h_ comb l2 s_0) := by
  intro s_0
  unfold d0p b9b
  repeat' first | with_reducible exact le_refl _ | with_reducible apply d5z | rw [d5z] | with_reducible apply d52 | rw [d52] | refine b1q ?_ (fun _ => ?_) | refine b1r ?_ ?_ | refine b1s (fun _ => ?_) | intro _ | split
noncomputable def d0t (out_5 : List Int) : Option (List Int) :=
  some out_5
theorem d54 (out_5 : List Int) : Le (d0t out_5) (c3g out_5) := by
  unfold d0t c3g
  repeat' first | with_reducible exact le_refl _ | refine b1q ?_ (fun _ => ?_) | refine b1r ?_ ?_ | refine b1s (fun _ => ?_) | intro _ | split
noncomputable def d0q (h_ : Hall) (comb : Int) : Option (List Int) :=
  (mks 8 h_.Until 0).bind fun l2 =>
  (get h_.Combs comb).bind fun x4 =>
  (b3w (d0p h_ comb l2) (l2, x4.Rate, 0, 0)).bind fun out_5 =>
  d0t out_5
theorem d55 (h_ : Hall) (comb : Int) : Le (d0q h_ comb) (b9a h_ comb) := by
  unfold d0q b9a
  repeat' first | with_reducible exact le_refl _ | with_reducible apply d50 | rw [d50] | with_reducible apply d54 | rw [d54] | refine b1q ?_ (fun _ => ?_) | refine b1r ?_ ?_ | refine b1s (fun _ => ?_) | intro _ | split
noncomputable def d0j (h_ : Hall) : ((List (List Int)) × Int) → Option (Out ((List (List Int)) × Int) (((List (List Int)))))
  | (out_2, x_7) =>
    if decide (x_7 < (List.length h_.Combs : Int)) then
      (d0q h_ x_7).bind fun y9 =>
      (ap 24 out_2 ([y9])).bind fun l10 =>
      some (.nx (l10, wr (x_7 + 1)))
    else
      some (.br out_2)
theorem d5t (h_ : Hall) : ∀ s_0, Le (d0j h_ s_0) (b88 h_ s_0) := by
  intro s_0
  unfold d0j b88
  repeat' first | with_reducible exact le_refl _ | with_reducible apply d55 | rw [d55] | refine b1q ?_ (fun _ => ?_) | refine b1r ?_ ?_ | refine b1s (fun _ => ?_) | intro _ | split
noncomputable def d0k (out_2 : List (List Int)) : Option (List (List Int)) :=
  some out_2
theorem d5u (out_2 : List (List Int)) : Le (d0k out_2) (c3e out_2) := by
  unfold d0k c3e
  repeat' first | with_reducible exact le_refl _ | refine b1q ?_ (fun _ => ?_) | refine b1r ?_ ?_ | refine b1s (fun _ => ?_) | intro _ | split
noncomputable def c54 (h_ : Hall) : Option (List (List Int)) :=
  (b3w (d0j h_) ([], 0)).bind fun out_2 =>
  d0k out_2
theorem c55 (h_ : Hall) : Le (c54 h_) (b5y h_) := by
  unfold c54 b5y
  repeat' first | with_reducible exact le_refl _ | with_reducible apply d5t | rw [d5t] | with_reducible apply d5u | rw [d5u] | refine b1q ?_ (fun _ => ?_) | refine b1r ?_ ?_ | refine b1s (fun _ => ?_) | intro _ | split
noncomputable def c52 (x_16 : Int) (sum_8_1 : Int) : Option (Out (Int × Int) Int) :=
  some (.nx (sum_8_1, wr (x_16 + 1)))
theorem d5l (x_16 : Int) (sum_8_1 : Int) : Le (c52 x_16 sum_8_1) (b70 x_16 sum_8_1) := by
  unfold c52 b70
  repeat' first | with_reducible exact le_refl _ | refine b1q ?_ (fun _ => ?_) | refine b1r ?_ ?_ | refine b1s (fun _ => ?_) | intro _ | split
noncomputable def c51 (x_35 : Int) (sum_8_2 : Int) : Option (Out (Int × Int) Int) :=
  some (.nx (sum_8_2, wr (x_35 + 1)))
theorem d5j (x_35 : Int) (sum_8_2 : Int) : Le (c51 x_35 sum_8_2) (b7z x_35 sum_8_2) := by
  unfold c51 b7z
  repeat' first | with_reducible exact le_refl _ | refine b1q ?_ (fun _ => ?_) | refine b1r ?_ ?_ | refine b1s (fun _ => ?_) | intro _ | split
noncomputable def c99 (comb : Int) (x9 : Train) : (Int × Int) → Option (Out (Int × Int) Int)
  | (sum_8_1, x_35) =>
    if decide (x_35 < (List.length x9.Crowds : Int)) then
      (get x9.Crowds x_35).bind fun x19 =>
      if decide (x19.Comb = comb) then
        c51 x_35 (wr (sum_8_1 + x19.People.High))
      else
        c51 x_35 sum_8_1
    else
      some (.br sum_8_1)
theorem d5h (comb : Int) (x9 : Train) : ∀ s_0, Le (c99 comb x9 s_0) (b83 comb x9 s_0) := by
  intro s_0
  unfold c99 b83
  repeat' first | with_reducible exact le_refl _ | with_reducible apply d5j | rw [d5j] | refine b1q ?_ (fun _ => ?_) | refine b1r ?_ ?_ | refine b1s (fun _ => ?_) | intro _ | split
noncomputable def d0a (h_ : Hall) (comb : Int) (from_ : Int) (to_ : Int) : (Int × Int) → Option (Out (Int × Int) Int)
  | (sum_8, x_16) =>
    if decide (x_16 < (List.length h_.Trains : Int)) then
      (get h_.Trains x_16).bind fun x9 =>
      if (decide (x9.At.High < from_)) || (decide (to_ < x9.At.Low)) then
        c52 x_16 sum_8
      else
        (b3w (c99 comb x9) (sum_8, 0)).bind fun sum_8_1 =>
        c52 x_16 sum_8_1
    else
      some (.br sum_8)
theorem d5i (h_ : Hall) (comb : Int) (from_ : Int) (to_ : Int) : ∀ s_0, Le (d0a h_ comb from_ to_ s_0) (b84 h_ comb from_ to_ s_0) := by
  intro s_0
  unfold d0a b84
  repeat' first | with_reducible exact le_refl _ | with_reducible apply d5l | rw [d5l] | with_reducible apply d5h | rw [d5h] | refine b1q ?_ (fun _ => ?_) | refine b1r ?_ ?_ | refine b1s (fun _ => ?_) | intro _ | split
noncomputable def d0c (sum_8 : Int) : Option Int :=
  some sum_8
theorem d5k (sum_8 : Int) : Le (d0c sum_8) (c3c sum_8) := by
  unfold d0c c3c
  repeat' first | with_reducible exact le_refl _ | refine b1q ?_ (fun _ => ?_) | refine b1r ?_ ?_ | refine b1s (fun _ => ?_) | intro _ | split
noncomputable def d0b (h_ : Hall) (comb : Int) (from_ : Int) (to_ : Int) : Option Int :=
  (b3w (d0a h_ comb from_ to_) (0, 0)).bind fun sum_8 =>
  d0c sum_8
theorem d5m (h_ : Hall) (comb : Int) (from_ : Int) (to_ : Int) : Le (d0b h_ comb from_ to_) (b82 h_ comb from_ to_) := by
  unfold d0b b82
  repeat' first | with_reducible exact le_refl _ | with_reducible apply d5i | rw [d5i] | with_reducible apply d5k | rw [d5k] | refine b1q ?_ (fun _ => ?_) | refine b1r ?_ ?_ | refine b1s (fun _ => ?_) | intro _ | split
noncomputable def c47 (b : halls_bound) (from_ : Int) (least_7 : Int) (k_8 : Int) (behind_9 : Int) : Option (Out (Int × Int) Int) :=
  (get b.flow k_8).bind fun x23 =>
  (get b.flow (mx from_ 0)).bind fun x24 =>
  (get b.most k_8).bind fun x25 =>
  some (.nx (mn least_7 (wr ((wr ((wr (x23 - x24)) + x25)) + behind_9)), wr (k_8 + 1)))
theorem d3f (b : halls_bound) (from_ : Int) (least_7 : Int) (k_8 : Int) (behind_9 : Int) : Le (c47 b from_ least_7 k_8 behind_9) (b7k b from_ least_7 k_8 behind_9) := by
  unfold c47 b7k
  repeat' first | with_reducible exact le_refl _ | refine b1q ?_ (fun _ => ?_) | refine b1r ?_ ?_ | refine b1s (fun _ => ?_) | intro _ | split
noncomputable def c8r (b : halls_bound) (from_ : Int) (to_ : Int) : (Int × Int) → Option (Out (Int × Int) Int)
  | (least_7, k_8) =>
    if decide (k_8 ≤ to_) then
      if decide (k_8 < to_) then
        (get b.come (wr (k_8 + 1))).bind fun x29 =>
        (get x29 to_).bind fun x30 =>
        c47 b from_ least_7 k_8 x30
      else
        c47 b from_ least_7 k_8 0
    else
      some (.br least_7)
theorem d3d (b : halls_bound) (from_ : Int) (to_ : Int) : ∀ s_0, Le (c8r b from_ to_ s_0) (b8o b from_ to_ s_0) := by
  intro s_0
  unfold c8r b8o
  repeat' first | with_reducible exact le_refl _ | with_reducible apply d3f | rw [d3f] | refine b1q ?_ (fun _ => ?_) | refine b1r ?_ ?_ | refine b1s (fun _ => ?_) | intro _ | split
noncomputable def c8t (least_7 : Int) : Option Int :=
  some least_7
theorem d3e (least_7 : Int) : Le (c8t least_7) (b97 least_7) := by
  unfold c8t b97
  repeat' first | with_reducible exact le_refl _ | refine b1q ?_ (fun _ => ?_) | refine b1r ?_ ?_ | refine b1s (fun _ => ?_) | intro _ | split
noncomputable def c8s (b : halls_bound) (from_ : Int) (to_ : Int) : Option Int :=
  if (decide (to_ < from_)) || (decide (to_ < 0)) then
    some 0
  else
    (get b.come 0).bind fun x8 =>
    (get x8 to_).bind fun x9 =>
    (get b.flow (wr (to_ + 1))).bind fun x10 =>
    (get b.flow (mx from_ 0)).bind fun x11 =>
    (b3w (c8r b from_ to_) (mn x9 (wr (x10 - x11)), mx from_ 0)).bind fun least_7 =>
    c8t least_7
theorem d3g (b : halls_bound) (from_ : Int) (to_ : Int) : Le (c8s b from_ to_) (b8n b from_ to_) := by
  unfold c8s b8n
  repeat' first | with_reducible exact le_refl _ | with_reducible apply d3d | rw [d3d] | with_reducible apply d3e | rw [d3e] | refine b1q ?_ (fun _ => ?_) | refine b1r ?_ ?_ | refine b1s (fun _ => ?_) | intro _ | split
noncomputable def c5z (x_54 : Int) (row_9_2 : List Int) : Option (Out ((List Int) × Int) (((List Int)))) :=
  some (.nx (row_9_2, wr (x_54 + 1)))
theorem d5f (x_54 : Int) (row_9_2 : List Int) : Le (c5z x_54 row_9_2) (b7y x_54 row_9_2) := by
  unfold c5z b7y
  repeat' first | with_reducible exact le_refl _ | refine b1q ?_ (fun _ => ?_) | refine b1r ?_ ?_ | refine b1s (fun _ => ?_) | intro _ | split
noncomputable def c9u (all_5 : List halls_bound) (x_19 : Int) (x_28 : Int) (t_10 : Int) (l76 : List Comb) : ((List Int) × Int) → Option (Out ((List Int) × Int) (((List Int))))
  | (row_9_1, x_54) =>
    if decide (x_54 < (List.length l76 : Int)) then
      (get l76 x_54).bind fun x83 =>
      if decide (x83.Next = x_19) then
        (get row_9_1 t_10).bind fun x89 =>
        (get all_5 x_54).bind fun x90 =>
        (c8s x90 (wr (x_28 - x83.Walk.High)) (wr (t_10 - x83.Walk.Low))).bind fun y92 =>
        c5z x_54 (List.set row_9_1 (Int.toNat t_10) (wr (x89 + y92)))
      else
        c5z x_54 row_9_1
    else
      some (.br row_9_1)
theorem d41 (all_5 : List halls_bound) (x_19 : Int) (x_28 : Int) (t_10 : Int) (l76 : List Comb) : ∀ s_0, Le (c9u all_5 x_19 x_28 t_10 l76 s_0) (b80 all_5 x_19 x_28 t_10 l76 s_0) := by
  intro s_0
  unfold c9u b80
  repeat' first | with_reducible exact le_refl _ | with_reducible apply d3g | rw [d3g] | with_reducible apply d5f | rw [d5f] | refine b1q ?_ (fun _ => ?_) | refine b1r ?_ ?_ | refine b1s (fun _ => ?_) | intro _ | split
noncomputable def c96 (t_10 : Int) (row_9_1 : List Int) : Option (Out ((List Int) × Int) (((List Int)))) :=
  some (.nx (row_9_1, wr (t_10 + 1)))
theorem d5d (t_10 : Int) (row_9_1 : List Int) : Le (c96 t_10 row_9_1) (c0z t_10 row_9_1) := by
  unfold c96 c0z
  repeat' first | with_reducible exact le_refl _ | refine b1q ?_ (fun _ => ?_) | refine b1r ?_ ?_ | refine b1s (fun _ => ?_) | intro _ | split
noncomputable def c9v (h_ : Hall) (all_5 : List halls_bound) (x_19 : Int) (x_28 : Int) : ((List Int) × Int) → Option (Out ((List Int) × Int) (((List Int))))
  | (row_9, t_10) =>
    if decide (t_10 < h_.Until) then
      (d0b h_ x_19 x_28 t_10).bind fun y73 =>
      (get row_9 t_10).bind fun x74 =>
      (sub h_.Combs 0 x_19).bind fun l76 =>
      (b3w (c9u all_5 x_19 x_28 t_10 l76) ((List.set row_9 (Int.toNat t_10) y73), 0)).bind fun row_9_1 =>
      c96 t_10 row_9_1
    else
      some (.br row_9)
theorem d42 (h_ : Hall) (all_5 : List halls_bound) (x_19 : Int) (x_28 : Int) : ∀ s_0, Le (c9v h_ all_5 x_19 x_28 s_0) (b7u h_ all_5 x_19 x_28 s_0) := by
  intro s_0
  unfold c9v b7u
  repeat' first | with_reducible exact le_refl _ | with_reducible apply d5m | rw [d5m] | with_reducible apply d41 | rw [d41] | with_reducible apply d5d | rw [d5d] | refine b1q ?_ (fun _ => ?_) | refine b1r ?_ ?_ | refine b1s (fun _ => ?_) | intro _ | split
noncomputable def c94 (x_28 : Int) (b_7_0_1 : List Int) (b_7_3_1 : List (List Int)) : Option (Out ((List Int) × (List (List Int)) × Int) (((List Int) × (List (List Int))))) :=
  some (.nx (b_7_0_1, b_7_3_1, wr (x_28 + 1)))
theorem d5b (x_28 : Int) (b_7_0_1 : List Int) (b_7_3_1 : List (List Int)) : Le (c94 x_28 b_7_0_1 b_7_3_1) (c0w x_28 b_7_0_1 b_7_3_1) := by
  unfold c94 c0w
  repeat' first | with_reducible exact le_refl _ | refine b1q ?_ (fun _ => ?_) | refine b1r ?_ ?_ | refine b1s (fun _ => ?_) | intro _ | split
noncomputable def c95 (open_ : List (List Int)) (x_19 : Int) (b_7_0 : List Int) (b_7_3 : List (List Int)) (x_28 : Int) (row_9 : List Int) : Option (Out ((List Int) × (List (List Int)) × Int) (((List Int) × (List (List Int))))) :=
  (ap 24 b_7_3 ([row_9])).bind fun l57 =>
  (get b_7_0 x_28).bind fun x62 =>
  (get open_ x_19).bind fun x63 =>
  (get x63 x_28).bind fun x64 =>
  (ap 8 b_7_0 ([wr (x62 + x64)])).bind fun l65 =>
  c94 x_28 l65 l57
theorem d5c (open_ : List (List Int)) (x_19 : Int) (b_7_0 : List Int) (b_7_3 : List (List Int)) (x_28 : Int) (row_9 : List Int) : Le (c95 open_ x_19 b_7_0 b_7_3 x_28 row_9) (c0x open_ x_19 b_7_0 b_7_3 x_28 row_9) := by
  unfold c95 c0x
  repeat' first | with_reducible exact le_refl _ | with_reducible apply d5b | rw [d5b] | refine b1q ?_ (fun _ => ?_) | refine b1r ?_ ?_ | refine b1s (fun _ => ?_) | intro _ | split
noncomputable def c9w (h_ : Hall) (open_ : List (List Int)) (all_5 : List halls_bound) (x_19 : Int) : ((List Int) × (List (List Int)) × Int) → Option (Out ((List Int) × (List (List Int)) × Int) (((List Int) × (List (List Int)))))
  | (b_7_0, b_7_3, x_28) =>
    if decide (x_28 < h_.Until) then
      (mks 8 h_.Until 0).bind fun l53 =>
      (b3w (c9v h_ all_5 x_19 x_28) (l53, x_28)).bind fun row_9 =>
      c95 open_ x_19 b_7_0 b_7_3 x_28 row_9
    else
      some (.br (b_7_0, b_7_3))
theorem d43 (h_ : Hall) (open_ : List (List Int)) (all_5 : List halls_bound) (x_19 : Int) : ∀ s_0, Le (c9w h_ open_ all_5 x_19 s_0) (b7v h_ open_ all_5 x_19 s_0) := by
  intro s_0
  unfold c9w b7v
  repeat' first | with_reducible exact le_refl _ | with_reducible apply d42 | rw [d42] | with_reducible apply d5c | rw [d5c] | refine b1q ?_ (fun _ => ?_) | refine b1r ?_ ?_ | refine b1s (fun _ => ?_) | intro _ | split
noncomputable def c9x (b_7_0 : List Int) (b_7_3 : List (List Int)) (x_122 : Int) : (Int × Int) → Option (Out (Int × Int) Int)
  | (most_14, x_127) =>
    if decide (x_127 < (wr (x_122 + 1))) then
      (get b_7_3 x_127).bind fun x40 =>
      (get x40 x_122).bind fun x42 =>
      (get b_7_0 x_122).bind fun x43 =>
      (get b_7_0 x_127).bind fun x44 =>
      some (.nx (mx most_14 (wr (x42 - (wr (x43 - x44)))), wr (x_127 + 1)))
    else
      some (.br most_14)
theorem d44 (b_7_0 : List Int) (b_7_3 : List (List Int)) (x_122 : Int) : ∀ s_0, Le (c9x b_7_0 b_7_3 x_122 s_0) (b7w b_7_0 b_7_3 x_122 s_0) := by
  intro s_0
  unfold c9x b7w
  repeat' first | with_reducible exact le_refl _ | refine b1q ?_ (fun _ => ?_) | refine b1r ?_ ?_ | refine b1s (fun _ => ?_) | intro _ | split
noncomputable def c91 (x_122 : Int) (b_7_1_1 : List Int) (b_7_2_1 : List Int) : Option (Out ((List Int) × (List Int) × Int) (((List Int) × (List Int)))) :=
  some (.nx (b_7_1_1, b_7_2_1, wr (x_122 + 1)))
theorem d48 (x_122 : Int) (b_7_1_1 : List Int) (b_7_2_1 : List Int) : Le (c91 x_122 b_7_1_1 b_7_2_1) (c0u x_122 b_7_1_1 b_7_2_1) := by
  unfold c91 c0u
  repeat' first | with_reducible exact le_refl _ | refine b1q ?_ (fun _ => ?_) | refine b1r ?_ ?_ | refine b1s (fun _ => ?_) | intro _ | split
noncomputable def c92 (open_ : List (List Int)) (x_19 : Int) (b_7_1 : List Int) (b_7_2 : List Int) (x_122 : Int) (most_14 : Int) : Option (Out ((List Int) × (List Int) × Int) (((List Int) × (List Int)))) :=
  (ap 8 b_7_2 ([most_14])).bind fun l22 =>
  (get b_7_1 x_122).bind fun x27 =>
  (get open_ x_19).bind fun x28 =>
  (get x28 x_122).bind fun x29 =>
  (ap 8 b_7_1 ([wr (x27 + (mn most_14 x29))])).bind fun l30 =>
  c91 x_122 l30 l22
theorem d49 (open_ : List (List Int)) (x_19 : Int) (b_7_1 : List Int) (b_7_2 : List Int) (x_122 : Int) (most_14 : Int) : Le (c92 open_ x_19 b_7_1 b_7_2 x_122 most_14) (c0v open_ x_19 b_7_1 b_7_2 x_122 most_14) := by
  unfold c92 c0v
  repeat' first | with_reducible exact le_refl _ | with_reducible apply d48 | rw [d48] | refine b1q ?_ (fun _ => ?_) | refine b1r ?_ ?_ | refine b1s (fun _ => ?_) | intro _ | split
noncomputable def c9y (h_ : Hall) (open_ : List (List Int)) (x_19 : Int) (b_7_0 : List Int) (b_7_3 : List (List Int)) : ((List Int) × (List Int) × Int) → Option (Out ((List Int) × (List Int) × Int) (((List Int) × (List Int))))
  | (b_7_1, b_7_2, x_122) =>
    if decide (x_122 < h_.Until) then
      (b3w (c9x b_7_0 b_7_3 x_122) (0, 0)).bind fun most_14 =>
      c92 open_ x_19 b_7_1 b_7_2 x_122 most_14
    else
      some (.br (b_7_1, b_7_2))
theorem d45 (h_ : Hall) (open_ : List (List Int)) (x_19 : Int) (b_7_0 : List Int) (b_7_3 : List (List Int)) : ∀ s_0, Le (c9y h_ open_ x_19 b_7_0 b_7_3 s_0) (b7x h_ open_ x_19 b_7_0 b_7_3 s_0) := by
  intro s_0
  unfold c9y b7x
  repeat' first | with_reducible exact le_refl _ | with_reducible apply d44 | rw [d44] | with_reducible apply d49 | rw [d49] | refine b1q ?_ (fun _ => ?_) | refine b1r ?_ ?_ | refine b1s (fun _ => ?_) | intro _ | split
noncomputable def c97 (x_19 : Int) (all_5_1 : List halls_bound) : Option (Out ((List halls_bound) × Int) (((List halls_bound)))) :=
  some (.nx (all_5_1, wr (x_19 + 1)))
theorem d5e (x_19 : Int) (all_5_1 : List halls_bound) : Le (c97 x_19 all_5_1) (c0y x_19 all_5_1) := by
  unfold c97 c0y
  repeat' first | with_reducible exact le_refl _ | refine b1q ?_ (fun _ => ?_) | refine b1r ?_ ?_ | refine b1s (fun _ => ?_) | intro _ | split
noncomputable def c90 (all_5 : List halls_bound) (x_19 : Int) (b_7_0 : List Int) (b_7_3 : List (List Int)) (b_7_1 : List Int) (b_7_2 : List Int) : Option (Out ((List halls_bound) × Int) (((List halls_bound)))) :=
  (ap 8 all_5 ([(halls_bound.mk b_7_0 b_7_1 b_7_2 b_7_3)])).bind fun l13 =>
  c97 x_19 l13
theorem d47 (all_5 : List halls_bound) (x_19 : Int) (b_7_0 : List Int) (b_7_3 : List (List Int)) (b_7_1 : List Int) (b_7_2 : List Int) : Le (c90 all_5 x_19 b_7_0 b_7_3 b_7_1 b_7_2) (c0t all_5 x_19 b_7_0 b_7_3 b_7_1 b_7_2) := by
  unfold c90 c0t
  repeat' first | with_reducible exact le_refl _ | with_reducible apply d5e | rw [d5e] | refine b1q ?_ (fun _ => ?_) | refine b1r ?_ ?_ | refine b1s (fun _ => ?_) | intro _ | split
noncomputable def c98 (h_ : Hall) (open_ : List (List Int)) (all_5 : List halls_bound) (x_19 : Int) (b_7_0 : List Int) (b_7_3 : List (List Int)) : Option (Out ((List halls_bound) × Int) (((List halls_bound)))) :=
  (b3w (c9y h_ open_ x_19 b_7_0 b_7_3) ([0], [], 0)).bind fun
    | (b_7_1, b_7_2) => c90 all_5 x_19 b_7_0 b_7_3 b_7_1 b_7_2
theorem d5g (h_ : Hall) (open_ : List (List Int)) (all_5 : List halls_bound) (x_19 : Int) (b_7_0 : List Int) (b_7_3 : List (List Int)) : Le (c98 h_ open_ all_5 x_19 b_7_0 b_7_3) (c00 h_ open_ all_5 x_19 b_7_0 b_7_3) := by
  unfold c98 c00
  repeat' first | with_reducible exact le_refl _ | with_reducible apply d45 | rw [d45] | with_reducible apply d47 | rw [d47] | refine b1q ?_ (fun _ => ?_) | refine b1r ?_ ?_ | refine b1s (fun _ => ?_) | intro _ | split
noncomputable def c9z (h_ : Hall) (open_ : List (List Int)) : ((List halls_bound) × Int) → Option (Out ((List halls_bound) × Int) (((List halls_bound))))
  | (all_5, x_19) =>
    if decide (x_19 < (List.length h_.Combs : Int)) then
      (b3w (c9w h_ open_ all_5 x_19) ([0], [], 0)).bind fun
        | (b_7_0, b_7_3) => c98 h_ open_ all_5 x_19 b_7_0 b_7_3
    else
      some (.br all_5)
theorem d46 (h_ : Hall) (open_ : List (List Int)) : ∀ s_0, Le (c9z h_ open_ s_0) (b81 h_ open_ s_0) := by
  intro s_0
  unfold c9z b81
  repeat' first | with_reducible exact le_refl _ | with_reducible apply d43 | rw [d43] | with_reducible apply d5g | rw [d5g] | refine b1q ?_ (fun _ => ?_) | refine b1r ?_ ?_ | refine b1s (fun _ => ?_) | intro _ | split
noncomputable def c93 (all_5 : List halls_bound) : Option (List halls_bound) :=
  some all_5
theorem d5a (all_5 : List halls_bound) : Le (c93 all_5) (c3b all_5) := by
  unfold c93 c3b
  repeat' first | with_reducible exact le_refl _ | refine b1q ?_ (fun _ => ?_) | refine b1r ?_ ?_ | refine b1s (fun _ => ?_) | intro _ | split
noncomputable def c5y (h_ : Hall) (open_ : List (List Int)) : Option (List halls_bound) :=
  (b3w (c9z h_ open_) ([], 0)).bind fun all_5 =>
  c93 all_5
theorem c50 (h_ : Hall) (open_ : List (List Int)) : Le (c5y h_ open_) (b6e h_ open_) := by
  unfold c5y b6e
  repeat' first | with_reducible exact le_refl _ | with_reducible apply d46 | rw [d46] | with_reducible apply d5a | rw [d5a] | refine b1q ?_ (fun _ => ?_) | refine b1r ?_ ?_ | refine b1s (fun _ => ?_) | intro _ | split
noncomputable def d0l (n : Int) (c0 : Hall) (c1 : Int) : Option Bool :=
  (get c0.Combs c1).bind fun x2 =>
  some (decide (x2.Limit < n))
theorem d5v (n : Int) (c0 : Hall) (c1 : Int) : Le (d0l n c0 c1) (b7b n c0 c1) := by
  unfold d0l b7b
  repeat' first | with_reducible exact le_refl _ | refine b1q ?_ (fun _ => ?_) | refine b1r ?_ ?_ | refine b1s (fun _ => ?_) | intro _ | split
noncomputable def c57 (x_10 : Int) (out_4_1 : List (Int × Int)) : Option (Out ((List (Int × Int)) × Int) (((List (Int × Int))))) :=
  some (.nx (out_4_1, wr (x_10 + 1)))
theorem d5y (x_10 : Int) (out_4_1 : List (Int × Int)) : Le (c57 x_10 out_4_1) (b72 x_10 out_4_1) := by
  unfold c57 b72
  repeat' first | with_reducible exact le_refl _ | refine b1q ?_ (fun _ => ?_) | refine b1r ?_ ?_ | refine b1s (fun _ => ?_) | intro _ | split
noncomputable def d0m (h_ : Hall) (all : List halls_bound) : ((List (Int × Int)) × Int) → Option (Out ((List (Int × Int)) × Int) (((List (Int × Int)))))
  | (out_4, x_10) =>
    if decide (x_10 < (List.length all : Int)) then
      (get all x_10).bind fun x9 =>
      (c7t x9.most (fun z12 => d0l z12 h_ x_10)).bind fun y13 =>
      if decide (0 ≤ y13) then
        (ap 16 out_4 ([(x_10, y13)])).bind fun l16 =>
        c57 x_10 l16
      else
        c57 x_10 out_4
    else
      some (.br out_4)
theorem d5w (h_ : Hall) (all : List halls_bound) : ∀ s_0, Le (d0m h_ all s_0) (b89 h_ all s_0) := by
  intro s_0
  unfold d0m b89
  repeat' first | with_reducible exact le_refl _ | with_reducible apply c7u | rw [c7u] | with_reducible apply d5v | rw [d5v] | with_reducible apply d5y | rw [d5y] | refine b1q ?_ (fun _ => ?_) | refine b1r ?_ ?_ | refine b1s (fun _ => ?_) | intro _ | split
noncomputable def d0n (out_4 : List (Int × Int)) : Option (List (Int × Int)) :=
  some out_4
theorem d5x (out_4 : List (Int × Int)) : Le (d0n out_4) (c3f out_4) := by
  unfold d0n c3f
  repeat' first | with_reducible exact le_refl _ | refine b1q ?_ (fun _ => ?_) | refine b1r ?_ ?_ | refine b1s (fun _ => ?_) | intro _ | split
noncomputable def c56 (h_ : Hall) (all : List halls_bound) : Option (List (Int × Int)) :=
  (b3w (d0m h_ all) ([], 0)).bind fun out_4 =>
  d0n out_4
theorem c58 (h_ : Hall) (all : List halls_bound) : Le (c56 h_ all) (b71 h_ all) := by
  unfold c56 b71
  repeat' first | with_reducible exact le_refl _ | with_reducible apply d5w | rw [d5w] | with_reducible apply d5x | rw [d5x] | refine b1q ?_ (fun _ => ?_) | refine b1r ?_ ?_ | refine b1s (fun _ => ?_) | intro _ | split
noncomputable def c9r (h_ : Hall) (comb : Int) (from_ : Int) : ((List (List Int)) × Int) → Option (Out ((List (List Int)) × Int) (((Int × Int))))
  | (all_9, n_10) =>
    (c5y h_ all_9).bind fun y11 =>
    (c56 h_ y11).bind fun y12 =>
    if decide ((List.length y12 : Int) = 0) then
      some (.br (n_10, 0))
    else
      if decide ((wr (from_ + n_10)) = h_.Until) then
        some (.br (0, 3))
      else
        (get all_9 comb).bind fun x19 =>
        (get x19 (wr (from_ + n_10))).bind fun x20 =>
        some (.nx ((List.set all_9 (Int.toNat comb) (List.set x19 (Int.toNat (wr (from_ + n_10))) 0)), wr (n_10 + 1)))
theorem d4y (h_ : Hall) (comb : Int) (from_ : Int) : ∀ s_0, Le (c9r h_ comb from_ s_0) (b69 h_ comb from_ s_0) := by
  intro s_0
  unfold c9r b69
  repeat' first | with_reducible exact le_refl _ | with_reducible apply c50 | rw [c50] | with_reducible apply c58 | rw [c58] | refine b1q ?_ (fun _ => ?_) | refine b1r ?_ ?_ | refine b1s (fun _ => ?_) | intro _ | split
noncomputable def c9s (h_ : Hall) (comb : Int) (from_ : Int) : Option (Int × Int) :=
  (d0e h_ comb ([from_])).bind fun y2 =>
  if decide (¬y2 = 0) then
    some (0, y2)
  else
    (c54 h_).bind fun y6 =>
    (b3w (c9r h_ comb from_) (y6, 0)).bind fun r' =>
    some r'
theorem d4z (h_ : Hall) (comb : Int) (from_ : Int) : Le (c9s h_ comb from_) (b42 h_ comb from_) := by
  unfold c9s b42
  repeat' first | with_reducible exact le_refl _ | with_reducible apply d5o | rw [d5o] | with_reducible apply c55 | rw [c55] | with_reducible apply d4y | rw [d4y] | refine b1q ?_ (fun _ => ?_) | refine b1r ?_ ?_ | refine b1s (fun _ => ?_) | intro _ | split
noncomputable def c6l : Hall :=
  (Hall.mk ([(Comb.mk 3 12 1 (Span.mk 2 3)), (Comb.mk 2 10 (-1) (Span.mk 1 1))]) ([(Train.mk (Span.mk 2 4) ([(Crowd.mk 0 (Span.mk 6 10))])), (Train.mk (Span.mk 5 5) ([(Crowd.mk 0 (Span.mk 0 4)), (Crowd.mk 1 (Span.mk 3 3))]))]) ([]) 20)
theorem d8l : c6l = l06_Example := by unfold c6l l06_Example; rfl
noncomputable def c9t (h_ : Hall) : Option ((List (Int × Int)) × Int) :=
  (c5u h_).bind fun y2 =>
  if decide (¬y2 = 0) then
    some ([], y2)
  else
    (c54 h_).bind fun y8 =>
    (c5y h_ y8).bind fun y9 =>
    (c56 h_ y9).bind fun y10 =>
    some (y10, 0)
theorem d40 (h_ : Hall) : Le (c9t h_) (c3a h_) := by
  unfold c9t c3a
  repeat' first | with_reducible exact le_refl _ | with_reducible apply c5v | rw [c5v] | with_reducible apply c55 | rw [c55] | with_reducible apply c50 | rw [c50] | with_reducible apply c58 | rw [c58] | refine b1q ?_ (fun _ => ?_) | refine b1r ?_ ?_ | refine b1s (fun _ => ?_) | intro _ | split
noncomputable def d8m : Option Bool :=
  (c9s c6l 0 5).bind fun y2 =>
  (c9t c6l).bind fun y4 =>
  (if (((decide (y2.2 = 0)) && (decide (y4.2 = 0))) && (decide (y2.1 = 1))) && (decide ((List.length y4.1 : Int) = 1)) then (get y4.1 0).bind fun x7 =>
  some (decide (x7.1 = 1) && decide (x7.2 = 7)) else some false).bind fun c8 =>
  some c8
theorem j1y  : Le (d8m ) (b78 ) := by
  unfold d8m b78
  repeat' first | with_reducible exact le_refl _ | with_reducible apply d4z | rw [d4z] | with_reducible apply d8l | rw [d8l] | with_reducible apply d40 | rw [d40] | refine b1q ?_ (fun _ => ?_) | refine b1r ?_ ?_ | refine b1s (fun _ => ?_) | intro _ | split
end Go.Nw.HM
