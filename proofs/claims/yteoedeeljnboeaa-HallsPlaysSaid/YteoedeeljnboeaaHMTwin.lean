/- Twins of the models, which the kernel evaluates. -/
import Derived.Test.YteoedeeljnboeaaNwTwin
import Derived.Test.YteoedeeljnboeaaHM
set_option linter.all false
set_option linter.unusedVariables false
set_option linter.unusedSimpArgs false
set_option linter.unusedSectionVars false
namespace Go.Nw.HM
set_option linter.unusedVariables false
noncomputable def c1u (n : Int) (s : Span) : Bool :=
  (decide (s.Low ≤ n)) && (decide (n ≤ s.High))
theorem c4z (n : Int) (s : Span) : c1u n s = b28 n s := by unfold c1u b28; rfl
noncomputable def c1y (s : Span) (low : Int) (high : Int) : Bool :=
  ((decide (low ≤ s.Low)) && (decide (s.Low ≤ s.High))) && (decide (s.High ≤ high))
theorem b9r (s : Span) (low : Int) (high : Int) : c1y s low high = b4d s low high := by unfold c1y b4d; rfl
noncomputable def c9c (h_ : Hall) (i : Int) : Option Bool :=
  (get h_.Combs i).bind fun x2 =>
  some ((((c1u x2.Rate (Span.mk 0 1000)) && (c1u x2.Limit (Span.mk 0 100000))) && ((decide (x2.Next = (-1))) || ((decide (i < x2.Next)) && (decide (x2.Next < (List.length h_.Combs : Int)))))) && (c1y x2.Walk 1 20))
theorem d4t (h_ : Hall) (i : Int) : Le (c9c h_ i) (b73 h_ i) := by
  unfold c9c b73
  repeat' first | with_reducible exact le_refl _ | with_reducible apply c4z | rw [c4z] | with_reducible apply b9r | rw [b9r] | refine b1n ?_ (fun _ => ?_) | refine b1o ?_ ?_ | refine b1p (fun _ => ?_) | intro _ | split
noncomputable def c8k (h_ : Hall) : Int → Option (Out Int (Unit ⊕ Int))
  | x_41 =>
    if decide (x_41 < (List.length h_.Combs : Int)) then
      (c9c h_ x_41).bind fun y45 =>
      if !y45 then
        some (.br (.inr 60))
      else
        some (.nx (wr (x_41 + 1)))
    else
      some (.br (.inl ()))
theorem d3z (h_ : Hall) : ∀ s_0, Le (c8k h_ s_0) (b6t h_ s_0) := by
  intro s_0
  unfold c8k b6t
  repeat' first | with_reducible exact le_refl _ | with_reducible apply d4t | rw [d4t] | refine b1n ?_ (fun _ => ?_) | refine b1o ?_ ?_ | refine b1p (fun _ => ?_) | intro _ | split
noncomputable def d1r (s : List Train) (f : Train → Option Bool) : Int → Option (Out Int (Unit ⊕ Int))
  | x_8 =>
    if decide (x_8 < (List.length s : Int)) then
      (get s x_8).bind fun x9 =>
      (f x9).bind fun y10 =>
      if y10 then
        some (.br (.inr x_8))
      else
        some (.nx (wr (x_8 + 1)))
    else
      some (.br (.inl ()))
theorem d9d (s : List Train) (f f' : Train → Option Bool) (hf : ∀ x0, Le (f x0) (f' x0)) : ∀ s_0, Le (d1r s f s_0) (c6j s f' s_0) := by
  intro s_0
  unfold d1r c6j
  repeat' first | with_reducible exact le_refl _ | apply hf | refine b1n ?_ (fun _ => ?_) | refine b1o ?_ ?_ | refine b1p (fun _ => ?_) | intro _ | split
noncomputable def d1t : Option Int :=
  some (-1)
theorem d9e  : Le (d1t ) (c27 ) := by
  unfold d1t c27
  repeat' first | with_reducible exact le_refl _ | refine b1n ?_ (fun _ => ?_) | refine b1o ?_ ?_ | refine b1p (fun _ => ?_) | intro _ | split
noncomputable def d1s (s : List Train) (f : Train → Option Bool) : Option Int :=
  (b3p (d1r s f) (0)).bind fun
    | (.inl ()) => d1t
    | (.inr r') => some r'
theorem d9f (s : List Train) (f f' : Train → Option Bool) (hf : ∀ x0, Le (f x0) (f' x0)) : Le (d1s s f) (c26 s f') := by
  unfold d1s c26
  repeat' first | with_reducible exact le_refl _ | with_reducible apply d9d | rw [d9d] | with_reducible apply d9e | rw [d9e] | apply hf | refine b1n ?_ (fun _ => ?_) | refine b1o ?_ ?_ | refine b1p (fun _ => ?_) | intro _ | split
noncomputable def d1p (s : List Train) (f : Train → Option Bool) : Option Bool :=
  (d1s s f).bind fun y2 =>
  some (decide (0 ≤ y2))
theorem d9b (s : List Train) (f f' : Train → Option Bool) (hf : ∀ x0, Le (f x0) (f' x0)) : Le (d1p s f) (c0j s f') := by
  unfold d1p c0j
  repeat' first | with_reducible exact le_refl _ | with_reducible apply d9f | rw [d9f] | apply hf | refine b1n ?_ (fun _ => ?_) | refine b1o ?_ ?_ | refine b1p (fun _ => ?_) | intro _ | split
noncomputable def c9e (h_ : Hall) (t_ : Train) : (Int × Int) → Option (Out (Int × Int) (Unit ⊕ Bool))
  | (last_5, x_11) =>
    if decide (x_11 < (List.length t_.Crowds : Int)) then
      (get t_.Crowds x_11).bind fun x9 =>
      if ((decide (x9.Comb ≤ last_5)) || (decide ((List.length h_.Combs : Int) ≤ x9.Comb))) || (!(c1y x9.People 0 1000)) then
        some (.br (.inr false))
      else
        some (.nx (x9.Comb, wr (x_11 + 1)))
    else
      some (.br (.inl ()))
theorem d4u (h_ : Hall) (t_ : Train) : ∀ s_0, Le (c9e h_ t_ s_0) (b50 h_ t_ s_0) := by
  intro s_0
  unfold c9e b50
  repeat' first | with_reducible exact le_refl _ | with_reducible apply b9r | rw [b9r] | refine b1n ?_ (fun _ => ?_) | refine b1o ?_ ?_ | refine b1p (fun _ => ?_) | intro _ | split
noncomputable def c9g (h_ : Hall) (t_ : Train) : Option Bool :=
  some ((c1y t_.At 0 (wr (h_.Until - 1))) && (decide ((List.length t_.Crowds : Int) ≤ 4)))
theorem d4v (h_ : Hall) (t_ : Train) : Le (c9g h_ t_) (b9l h_ t_) := by
  unfold c9g b9l
  repeat' first | with_reducible exact le_refl _ | with_reducible apply b9r | rw [b9r] | refine b1n ?_ (fun _ => ?_) | refine b1o ?_ ?_ | refine b1p (fun _ => ?_) | intro _ | split
noncomputable def c9f (h_ : Hall) (t_ : Train) : Option Bool :=
  (b3p (c9e h_ t_) ((-1), 0)).bind fun
    | (.inl ()) => c9g h_ t_
    | (.inr r') => some r'
theorem d4w (h_ : Hall) (t_ : Train) : Le (c9f h_ t_) (b75 h_ t_) := by
  unfold c9f b75
  repeat' first | with_reducible exact le_refl _ | with_reducible apply d4u | rw [d4u] | with_reducible apply d4v | rw [d4v] | refine b1n ?_ (fun _ => ?_) | refine b1o ?_ ?_ | refine b1p (fun _ => ?_) | intro _ | split
noncomputable def c8i (t_ : Train) (c0 : Hall) : Option Bool :=
  (c9f c0 t_).bind fun y2 =>
  some (!y2)
theorem d3x (t_ : Train) (c0 : Hall) : Le (c8i t_ c0) (b6r t_ c0) := by
  unfold c8i b6r
  repeat' first | with_reducible exact le_refl _ | with_reducible apply d4w | rw [d4w] | refine b1n ?_ (fun _ => ?_) | refine b1o ?_ ?_ | refine b1p (fun _ => ?_) | intro _ | split
noncomputable def c8j (h_ : Hall) : Int → Option (Out Int (Unit ⊕ Int))
  | x_56 =>
    if decide (x_56 < (List.length h_.Shifts : Int)) then
      (get h_.Shifts x_56).bind fun x23 =>
      (if (decide (x23.At < 0)) || (decide (h_.Until ≤ x23.At)) then some true else (if decide (0 < x_56) then (get h_.Shifts (wr (x_56 - 1))).bind fun x27 =>
      some (decide (x23.At < x27.At)) else some false).bind fun c28 =>
      some c28).bind fun c29 =>
      if ((c29 || (decide (x23.Comb < 0))) || (decide ((List.length h_.Combs : Int) ≤ x23.Comb))) || (!(c1u x23.Rate (Span.mk 0 1000))) then
        some (.br (.inr 60))
      else
        some (.nx (wr (x_56 + 1)))
    else
      some (.br (.inl ()))
theorem d3y (h_ : Hall) : ∀ s_0, Le (c8j h_ s_0) (b6s h_ s_0) := by
  intro s_0
  unfold c8j b6s
  repeat' first | with_reducible exact le_refl _ | with_reducible apply c4z | rw [c4z] | refine b1n ?_ (fun _ => ?_) | refine b1o ?_ ?_ | refine b1p (fun _ => ?_) | intro _ | split
noncomputable def c8l : Option Int :=
  some 0
theorem d30  : Le (c8l ) (c1f ) := by
  unfold c8l c1f
  repeat' first | with_reducible exact le_refl _ | refine b1n ?_ (fun _ => ?_) | refine b1o ?_ ?_ | refine b1p (fun _ => ?_) | intro _ | split
noncomputable def c8m (h_ : Hall) : Option Int :=
  (d1p h_.Trains (fun z12 => c8i z12 h_)).bind fun y13 =>
  if y13 then
    some 60
  else
    (b3p (c8j h_) (0)).bind fun
      | (.inl ()) => c8l
      | (.inr r') => some r'
theorem d31 (h_ : Hall) : Le (c8m h_) (b9c h_) := by
  unfold c8m b9c
  repeat' first | with_reducible exact le_refl _ | with_reducible apply d9b | rw [d9b] | with_reducible apply d3x | rw [d3x] | with_reducible apply d3y | rw [d3y] | with_reducible apply d30 | rw [d30] | refine b1n ?_ (fun _ => ?_) | refine b1o ?_ ?_ | refine b1p (fun _ => ?_) | intro _ | split
noncomputable def c4k (h_ : Hall) : Option Int :=
  if (((((decide (h_.Until < 1)) || (decide (100 < h_.Until))) || (decide ((List.length h_.Combs : Int) < 1))) || (decide (8 < (List.length h_.Combs : Int)))) || (decide (12 < (List.length h_.Trains : Int)))) || (decide (20 < (List.length h_.Shifts : Int))) then
    some 60
  else
    (b3p (c8k h_) (0)).bind fun
      | (.inl ()) => c8m h_
      | (.inr r') => some r'
theorem c4l (h_ : Hall) : Le (c4k h_) (b3z h_) := by
  unfold c4k b3z
  repeat' first | with_reducible exact le_refl _ | with_reducible apply d3z | rw [d3z] | with_reducible apply d31 | rw [d31] | refine b1n ?_ (fun _ => ?_) | refine b1o ?_ ?_ | refine b1p (fun _ => ?_) | intro _ | split
noncomputable def d1u (s : List Int) (f : Int → Option Bool) : Int → Option (Out Int (Unit ⊕ Int))
  | x_8 =>
    if decide (x_8 < (List.length s : Int)) then
      (get s x_8).bind fun x9 =>
      (f x9).bind fun y10 =>
      if y10 then
        some (.br (.inr x_8))
      else
        some (.nx (wr (x_8 + 1)))
    else
      some (.br (.inl ()))
theorem d9g (s : List Int) (f f' : Int → Option Bool) (hf : ∀ x0, Le (f x0) (f' x0)) : ∀ s_0, Le (d1u s f s_0) (c6k s f' s_0) := by
  intro s_0
  unfold d1u c6k
  repeat' first | with_reducible exact le_refl _ | apply hf | refine b1n ?_ (fun _ => ?_) | refine b1o ?_ ?_ | refine b1p (fun _ => ?_) | intro _ | split
noncomputable def d1v : Option Int :=
  some (-1)
theorem d9h  : Le (d1v ) (c3a ) := by
  unfold d1v c3a
  repeat' first | with_reducible exact le_refl _ | refine b1n ?_ (fun _ => ?_) | refine b1o ?_ ?_ | refine b1p (fun _ => ?_) | intro _ | split
noncomputable def c6l (s : List Int) (f : Int → Option Bool) : Option Int :=
  (b3p (d1u s f) (0)).bind fun
    | (.inl ()) => d1v
    | (.inr r') => some r'
theorem c6m (s : List Int) (f f' : Int → Option Bool) (hf : ∀ x0, Le (f x0) (f' x0)) : Le (c6l s f) (c0k s f') := by
  unfold c6l c0k
  repeat' first | with_reducible exact le_refl _ | with_reducible apply d9g | rw [d9g] | with_reducible apply d9h | rw [d9h] | apply hf | refine b1n ?_ (fun _ => ?_) | refine b1o ?_ ?_ | refine b1p (fun _ => ?_) | intro _ | split
noncomputable def d1q (s : List Int) (f : Int → Option Bool) : Option Bool :=
  (c6l s f).bind fun y2 =>
  some (decide (0 ≤ y2))
theorem d9c (s : List Int) (f f' : Int → Option Bool) (hf : ∀ x0, Le (f x0) (f' x0)) : Le (d1q s f) (b8n s f') := by
  unfold d1q b8n
  repeat' first | with_reducible exact le_refl _ | with_reducible apply c6m | rw [c6m] | apply hf | refine b1n ?_ (fun _ => ?_) | refine b1o ?_ ?_ | refine b1p (fun _ => ?_) | intro _ | split
noncomputable def c9a (t_ : Int) (c0 : Hall) : Bool :=
  (decide (t_ < 0)) || (decide (c0.Until ≤ t_))
theorem d4r (t_ : Int) (c0 : Hall) : c9a t_ c0 = b6a t_ c0 := by unfold c9a b6a; rfl
noncomputable def c9b (h_ : Hall) (comb : Int) (ticks : List Int) : Option Int :=
  (c4k h_).bind fun y2 =>
  if decide (¬y2 = 0) then
    some y2
  else
    (if (decide (comb < 0)) || (decide ((List.length h_.Combs : Int) ≤ comb)) then some true else (d1q ticks (fun z8 => some (c9a z8 h_))).bind fun y9 =>
    some y9).bind fun c10 =>
    if c10 then
      some 1
    else
      some 0
theorem d4s (h_ : Hall) (comb : Int) (ticks : List Int) : Le (c9b h_ comb ticks) (b5z h_ comb ticks) := by
  unfold c9b b5z
  repeat' first | with_reducible exact le_refl _ | with_reducible apply c4l | rw [c4l] | with_reducible apply d9c | rw [d9c] | with_reducible apply d4r | rw [d4r] | refine b1n ?_ (fun _ => ?_) | refine b1o ?_ ?_ | refine b1p (fun _ => ?_) | intro _ | split
noncomputable def c49 (at_7_1 : Int) (now_6_2 : Int) : Option (Out (Int × Int) ((Int × Int))) :=
  some (.nx (now_6_2, wr (at_7_1 + 1)))
theorem d47 (at_7_1 : Int) (now_6_2 : Int) : Le (c49 at_7_1 now_6_2) (b8a at_7_1 now_6_2) := by
  unfold c49 b8a
  repeat' first | with_reducible exact le_refl _ | refine b1n ?_ (fun _ => ?_) | refine b1o ?_ ?_ | refine b1p (fun _ => ?_) | intro _ | split
noncomputable def c9m (h_ : Hall) (comb : Int) (x_20 : Int) : (Int × Int) → Option (Out (Int × Int) ((Int × Int)))
  | (now_6_1, at_7_1) =>
    (if decide (at_7_1 < (List.length h_.Shifts : Int)) then (get h_.Shifts at_7_1).bind fun x19 =>
    some (decide (x19.At ≤ x_20)) else some false).bind fun c20 =>
    if c20 then
      (get h_.Shifts at_7_1).bind fun x27 =>
      if decide (x27.Comb = comb) then
        c49 at_7_1 x27.Rate
      else
        c49 at_7_1 now_6_1
    else
      some (.br (now_6_1, at_7_1))
theorem d43 (h_ : Hall) (comb : Int) (x_20 : Int) : ∀ s_0, Le (c9m h_ comb x_20 s_0) (b6z h_ comb x_20 s_0) := by
  intro s_0
  unfold c9m b6z
  repeat' first | with_reducible exact le_refl _ | with_reducible apply d47 | rw [d47] | refine b1n ?_ (fun _ => ?_) | refine b1o ?_ ?_ | refine b1p (fun _ => ?_) | intro _ | split
noncomputable def c9p (x_20 : Int) (out_5_1 : List Int) (now_6_1 : Int) (at_7_1 : Int) : Option (Out ((List Int) × Int × Int × Int) (((List Int)))) :=
  some (.nx (out_5_1, now_6_1, at_7_1, wr (x_20 + 1)))
theorem d45 (x_20 : Int) (out_5_1 : List Int) (now_6_1 : Int) (at_7_1 : Int) : Le (c9p x_20 out_5_1 now_6_1 at_7_1) (b9p x_20 out_5_1 now_6_1 at_7_1) := by
  unfold c9p b9p
  repeat' first | with_reducible exact le_refl _ | refine b1n ?_ (fun _ => ?_) | refine b1o ?_ ?_ | refine b1p (fun _ => ?_) | intro _ | split
noncomputable def c9q (out_5 : List Int) (x_20 : Int) (now_6_1 : Int) (at_7_1 : Int) : Option (Out ((List Int) × Int × Int × Int) (((List Int)))) :=
  (get out_5 x_20).bind fun x15 =>
  c9p x_20 (List.set out_5 (Int.toNat x_20) now_6_1) now_6_1 at_7_1
theorem d46 (out_5 : List Int) (x_20 : Int) (now_6_1 : Int) (at_7_1 : Int) : Le (c9q out_5 x_20 now_6_1 at_7_1) (b9q out_5 x_20 now_6_1 at_7_1) := by
  unfold c9q b9q
  repeat' first | with_reducible exact le_refl _ | with_reducible apply d45 | rw [d45] | refine b1n ?_ (fun _ => ?_) | refine b1o ?_ ?_ | refine b1p (fun _ => ?_) | intro _ | split
noncomputable def c9n (h_ : Hall) (comb : Int) (l2 : List Int) : ((List Int) × Int × Int × Int) → Option (Out ((List Int) × Int × Int × Int) (((List Int))))
  | (out_5, now_6, at_7, x_20) =>
    if decide (x_20 < ((List.length l2 : Nat) : Int)) then
      (b3p (c9m h_ comb x_20) (now_6, at_7)).bind fun
        | (now_6_1, at_7_1) => c9q out_5 x_20 now_6_1 at_7_1
    else
      some (.br out_5)
theorem d44 (h_ : Hall) (comb : Int) (l2 : List Int) : ∀ s_0, Le (c9n h_ comb l2 s_0) (b79 h_ comb l2 s_0) := by
  intro s_0
  unfold c9n b79
  repeat' first | with_reducible exact le_refl _ | with_reducible apply d43 | rw [d43] | with_reducible apply d46 | rw [d46] | refine b1n ?_ (fun _ => ?_) | refine b1o ?_ ?_ | refine b1p (fun _ => ?_) | intro _ | split
noncomputable def c9r (out_5 : List Int) : Option (List Int) :=
  some out_5
theorem d48 (out_5 : List Int) : Le (c9r out_5) (c1x out_5) := by
  unfold c9r c1x
  repeat' first | with_reducible exact le_refl _ | refine b1n ?_ (fun _ => ?_) | refine b1o ?_ ?_ | refine b1p (fun _ => ?_) | intro _ | split
noncomputable def c9o (h_ : Hall) (comb : Int) : Option (List Int) :=
  (mks 8 h_.Until 0).bind fun l2 =>
  (get h_.Combs comb).bind fun x4 =>
  (b3p (c9n h_ comb l2) (l2, x4.Rate, 0, 0)).bind fun out_5 =>
  c9r out_5
theorem d49 (h_ : Hall) (comb : Int) : Le (c9o h_ comb) (b6c h_ comb) := by
  unfold c9o b6c
  repeat' first | with_reducible exact le_refl _ | with_reducible apply d44 | rw [d44] | with_reducible apply d48 | rw [d48] | refine b1n ?_ (fun _ => ?_) | refine b1o ?_ ?_ | refine b1p (fun _ => ?_) | intro _ | split
noncomputable def c9h (h_ : Hall) : ((List (List Int)) × Int) → Option (Out ((List (List Int)) × Int) (((List (List Int)))))
  | (out_2, x_7) =>
    if decide (x_7 < (List.length h_.Combs : Int)) then
      (c9o h_ x_7).bind fun y9 =>
      (ap 24 out_2 ([y9])).bind fun l10 =>
      some (.nx (l10, wr (x_7 + 1)))
    else
      some (.br out_2)
theorem d4x (h_ : Hall) : ∀ s_0, Le (c9h h_ s_0) (c1v h_ s_0) := by
  intro s_0
  unfold c9h c1v
  repeat' first | with_reducible exact le_refl _ | with_reducible apply d49 | rw [d49] | refine b1n ?_ (fun _ => ?_) | refine b1o ?_ ?_ | refine b1p (fun _ => ?_) | intro _ | split
noncomputable def c9i (out_2 : List (List Int)) : Option (List (List Int)) :=
  some out_2
theorem d4y (out_2 : List (List Int)) : Le (c9i out_2) (b76 out_2) := by
  unfold c9i b76
  repeat' first | with_reducible exact le_refl _ | refine b1n ?_ (fun _ => ?_) | refine b1o ?_ ?_ | refine b1p (fun _ => ?_) | intro _ | split
noncomputable def c42 (h_ : Hall) : Option (List (List Int)) :=
  (b3p (c9h h_) ([], 0)).bind fun out_2 =>
  c9i out_2
theorem c44 (h_ : Hall) : Le (c42 h_) (b6y h_) := by
  unfold c42 b6y
  repeat' first | with_reducible exact le_refl _ | with_reducible apply d4x | rw [d4x] | with_reducible apply d4y | rw [d4y] | refine b1n ?_ (fun _ => ?_) | refine b1o ?_ ?_ | refine b1p (fun _ => ?_) | intro _ | split
noncomputable def c4y (x_16 : Int) (sum_8_1 : Int) : Option (Out (Int × Int) Int) :=
  some (.nx (sum_8_1, wr (x_16 + 1)))
theorem d4p (x_16 : Int) (sum_8_1 : Int) : Le (c4y x_16 sum_8_1) (b9i x_16 sum_8_1) := by
  unfold c4y b9i
  repeat' first | with_reducible exact le_refl _ | refine b1n ?_ (fun _ => ?_) | refine b1o ?_ ?_ | refine b1p (fun _ => ?_) | intro _ | split
noncomputable def c4x (x_35 : Int) (sum_8_2 : Int) : Option (Out (Int × Int) Int) :=
  some (.nx (sum_8_2, wr (x_35 + 1)))
theorem d4n (x_35 : Int) (sum_8_2 : Int) : Le (c4x x_35 sum_8_2) (b9h x_35 sum_8_2) := by
  unfold c4x b9h
  repeat' first | with_reducible exact le_refl _ | refine b1n ?_ (fun _ => ?_) | refine b1o ?_ ?_ | refine b1p (fun _ => ?_) | intro _ | split
noncomputable def c86 (comb : Int) (x9 : Train) : (Int × Int) → Option (Out (Int × Int) Int)
  | (sum_8_1, x_35) =>
    if decide (x_35 < (List.length x9.Crowds : Int)) then
      (get x9.Crowds x_35).bind fun x19 =>
      if decide (x19.Comb = comb) then
        c4x x_35 (wr (sum_8_1 + x19.People.High))
      else
        c4x x_35 sum_8_1
    else
      some (.br sum_8_1)
theorem d4l (comb : Int) (x9 : Train) : ∀ s_0, Le (c86 comb x9 s_0) (c4v comb x9 s_0) := by
  intro s_0
  unfold c86 c4v
  repeat' first | with_reducible exact le_refl _ | with_reducible apply d4n | rw [d4n] | refine b1n ?_ (fun _ => ?_) | refine b1o ?_ ?_ | refine b1p (fun _ => ?_) | intro _ | split
noncomputable def c87 (h_ : Hall) (comb : Int) (from_ : Int) (to_ : Int) : (Int × Int) → Option (Out (Int × Int) Int)
  | (sum_8, x_16) =>
    if decide (x_16 < (List.length h_.Trains : Int)) then
      (get h_.Trains x_16).bind fun x9 =>
      if (decide (x9.At.High < from_)) || (decide (to_ < x9.At.Low)) then
        c4y x_16 sum_8
      else
        (b3p (c86 comb x9) (sum_8, 0)).bind fun sum_8_1 =>
        c4y x_16 sum_8_1
    else
      some (.br sum_8)
theorem d4m (h_ : Hall) (comb : Int) (from_ : Int) (to_ : Int) : ∀ s_0, Le (c87 h_ comb from_ to_ s_0) (c4w h_ comb from_ to_ s_0) := by
  intro s_0
  unfold c87 c4w
  repeat' first | with_reducible exact le_refl _ | with_reducible apply d4p | rw [d4p] | with_reducible apply d4l | rw [d4l] | refine b1n ?_ (fun _ => ?_) | refine b1o ?_ ?_ | refine b1p (fun _ => ?_) | intro _ | split
noncomputable def c89 (sum_8 : Int) : Option Int :=
  some sum_8
theorem d4o (sum_8 : Int) : Le (c89 sum_8) (c1t sum_8) := by
  unfold c89 c1t
  repeat' first | with_reducible exact le_refl _ | refine b1n ?_ (fun _ => ?_) | refine b1o ?_ ?_ | refine b1p (fun _ => ?_) | intro _ | split
noncomputable def c88 (h_ : Hall) (comb : Int) (from_ : Int) (to_ : Int) : Option Int :=
  (b3p (c87 h_ comb from_ to_) (0, 0)).bind fun sum_8 =>
  c89 sum_8
theorem d4q (h_ : Hall) (comb : Int) (from_ : Int) (to_ : Int) : Le (c88 h_ comb from_ to_) (c1s h_ comb from_ to_) := by
  unfold c88 c1s
  repeat' first | with_reducible exact le_refl _ | with_reducible apply d4m | rw [d4m] | with_reducible apply d4o | rw [d4o] | refine b1n ?_ (fun _ => ?_) | refine b1o ?_ ?_ | refine b1p (fun _ => ?_) | intro _ | split
noncomputable def c3u (b : halls_bound) (from_ : Int) (least_7 : Int) (k_8 : Int) (behind_9 : Int) : Option (Out (Int × Int) Int) :=
  (get b.flow k_8).bind fun x23 =>
  (get b.flow (mx from_ 0)).bind fun x24 =>
  (get b.most k_8).bind fun x25 =>
  some (.nx (mn least_7 (wr ((wr ((wr (x23 - x24)) + x25)) + behind_9)), wr (k_8 + 1)))
theorem d2l (b : halls_bound) (from_ : Int) (least_7 : Int) (k_8 : Int) (behind_9 : Int) : Le (c3u b from_ least_7 k_8 behind_9) (b8z b from_ least_7 k_8 behind_9) := by
  unfold c3u b8z
  repeat' first | with_reducible exact le_refl _ | refine b1n ?_ (fun _ => ?_) | refine b1o ?_ ?_ | refine b1p (fun _ => ?_) | intro _ | split
noncomputable def c7n (b : halls_bound) (from_ : Int) (to_ : Int) : (Int × Int) → Option (Out (Int × Int) Int)
  | (least_7, k_8) =>
    if decide (k_8 ≤ to_) then
      if decide (k_8 < to_) then
        (get b.come (wr (k_8 + 1))).bind fun x29 =>
        (get x29 to_).bind fun x30 =>
        c3u b from_ least_7 k_8 x30
      else
        c3u b from_ least_7 k_8 0
    else
      some (.br least_7)
theorem d2j (b : halls_bound) (from_ : Int) (to_ : Int) : ∀ s_0, Le (c7n b from_ to_ s_0) (c3t b from_ to_ s_0) := by
  intro s_0
  unfold c7n c3t
  repeat' first | with_reducible exact le_refl _ | with_reducible apply d2l | rw [d2l] | refine b1n ?_ (fun _ => ?_) | refine b1o ?_ ?_ | refine b1p (fun _ => ?_) | intro _ | split
noncomputable def c7p (least_7 : Int) : Option Int :=
  some least_7
theorem d2k (least_7 : Int) : Le (c7p least_7) (c0w least_7) := by
  unfold c7p c0w
  repeat' first | with_reducible exact le_refl _ | refine b1n ?_ (fun _ => ?_) | refine b1o ?_ ?_ | refine b1p (fun _ => ?_) | intro _ | split
noncomputable def c7o (b : halls_bound) (from_ : Int) (to_ : Int) : Option Int :=
  if (decide (to_ < from_)) || (decide (to_ < 0)) then
    some 0
  else
    (get b.come 0).bind fun x8 =>
    (get x8 to_).bind fun x9 =>
    (get b.flow (wr (to_ + 1))).bind fun x10 =>
    (get b.flow (mx from_ 0)).bind fun x11 =>
    (b3p (c7n b from_ to_) (mn x9 (wr (x10 - x11)), mx from_ 0)).bind fun least_7 =>
    c7p least_7
theorem d2m (b : halls_bound) (from_ : Int) (to_ : Int) : Le (c7o b from_ to_) (c0v b from_ to_) := by
  unfold c7o c0v
  repeat' first | with_reducible exact le_refl _ | with_reducible apply d2j | rw [d2j] | with_reducible apply d2k | rw [d2k] | refine b1n ?_ (fun _ => ?_) | refine b1o ?_ ?_ | refine b1p (fun _ => ?_) | intro _ | split
noncomputable def c4t (x_54 : Int) (row_9_2 : List Int) : Option (Out ((List Int) × Int) (((List Int)))) :=
  some (.nx (row_9_2, wr (x_54 + 1)))
theorem d4j (x_54 : Int) (row_9_2 : List Int) : Le (c4t x_54 row_9_2) (b6w x_54 row_9_2) := by
  unfold c4t b6w
  repeat' first | with_reducible exact le_refl _ | refine b1n ?_ (fun _ => ?_) | refine b1o ?_ ?_ | refine b1p (fun _ => ?_) | intro _ | split
noncomputable def c8r (all_5 : List halls_bound) (x_19 : Int) (x_28 : Int) (t_10 : Int) (l76 : List Comb) : ((List Int) × Int) → Option (Out ((List Int) × Int) (((List Int))))
  | (row_9_1, x_54) =>
    if decide (x_54 < (List.length l76 : Int)) then
      (get l76 x_54).bind fun x83 =>
      if decide (x83.Next = x_19) then
        (get row_9_1 t_10).bind fun x89 =>
        (get all_5 x_54).bind fun x90 =>
        (c7o x90 (wr (x_28 - x83.Walk.High)) (wr (t_10 - x83.Walk.Low))).bind fun y92 =>
        c4t x_54 (List.set row_9_1 (Int.toNat t_10) (wr (x89 + y92)))
      else
        c4t x_54 row_9_1
    else
      some (.br row_9_1)
theorem d35 (all_5 : List halls_bound) (x_19 : Int) (x_28 : Int) (t_10 : Int) (l76 : List Comb) : ∀ s_0, Le (c8r all_5 x_19 x_28 t_10 l76 s_0) (c1m all_5 x_19 x_28 t_10 l76 s_0) := by
  intro s_0
  unfold c8r c1m
  repeat' first | with_reducible exact le_refl _ | with_reducible apply d2m | rw [d2m] | with_reducible apply d4j | rw [d4j] | refine b1n ?_ (fun _ => ?_) | refine b1o ?_ ?_ | refine b1p (fun _ => ?_) | intro _ | split
noncomputable def c83 (t_10 : Int) (row_9_1 : List Int) : Option (Out ((List Int) × Int) (((List Int)))) :=
  some (.nx (row_9_1, wr (t_10 + 1)))
theorem d4h (t_10 : Int) (row_9_1 : List Int) : Le (c83 t_10 row_9_1) (b70 t_10 row_9_1) := by
  unfold c83 b70
  repeat' first | with_reducible exact le_refl _ | refine b1n ?_ (fun _ => ?_) | refine b1o ?_ ?_ | refine b1p (fun _ => ?_) | intro _ | split
noncomputable def c8s (h_ : Hall) (all_5 : List halls_bound) (x_19 : Int) (x_28 : Int) : ((List Int) × Int) → Option (Out ((List Int) × Int) (((List Int))))
  | (row_9, t_10) =>
    if decide (t_10 < h_.Until) then
      (c88 h_ x_19 x_28 t_10).bind fun y73 =>
      (get row_9 t_10).bind fun x74 =>
      (sub h_.Combs 0 x_19).bind fun l76 =>
      (b3p (c8r all_5 x_19 x_28 t_10 l76) ((List.set row_9 (Int.toNat t_10) y73), 0)).bind fun row_9_1 =>
      c83 t_10 row_9_1
    else
      some (.br row_9)
theorem d36 (h_ : Hall) (all_5 : List halls_bound) (x_19 : Int) (x_28 : Int) : ∀ s_0, Le (c8s h_ all_5 x_19 x_28 s_0) (c1n h_ all_5 x_19 x_28 s_0) := by
  intro s_0
  unfold c8s c1n
  repeat' first | with_reducible exact le_refl _ | with_reducible apply d4q | rw [d4q] | with_reducible apply d35 | rw [d35] | with_reducible apply d4h | rw [d4h] | refine b1n ?_ (fun _ => ?_) | refine b1o ?_ ?_ | refine b1p (fun _ => ?_) | intro _ | split
noncomputable def c81 (x_28 : Int) (b_7_0_1 : List Int) (b_7_3_1 : List (List Int)) : Option (Out ((List Int) × (List (List Int)) × Int) (((List Int) × (List (List Int))))) :=
  some (.nx (b_7_0_1, b_7_3_1, wr (x_28 + 1)))
theorem d4f (x_28 : Int) (b_7_0_1 : List Int) (b_7_3_1 : List (List Int)) : Le (c81 x_28 b_7_0_1 b_7_3_1) (b7x x_28 b_7_0_1 b_7_3_1) := by
  unfold c81 b7x
  repeat' first | with_reducible exact le_refl _ | refine b1n ?_ (fun _ => ?_) | refine b1o ?_ ?_ | refine b1p (fun _ => ?_) | intro _ | split
noncomputable def c82 (open_ : List (List Int)) (x_19 : Int) (b_7_0 : List Int) (b_7_3 : List (List Int)) (x_28 : Int) (row_9 : List Int) : Option (Out ((List Int) × (List (List Int)) × Int) (((List Int) × (List (List Int))))) :=
  (ap 24 b_7_3 ([row_9])).bind fun l57 =>
  (get b_7_0 x_28).bind fun x62 =>
  (get open_ x_19).bind fun x63 =>
  (get x63 x_28).bind fun x64 =>
  (ap 8 b_7_0 ([wr (x62 + x64)])).bind fun l65 =>
  c81 x_28 l65 l57
theorem d4g (open_ : List (List Int)) (x_19 : Int) (b_7_0 : List Int) (b_7_3 : List (List Int)) (x_28 : Int) (row_9 : List Int) : Le (c82 open_ x_19 b_7_0 b_7_3 x_28 row_9) (b7y open_ x_19 b_7_0 b_7_3 x_28 row_9) := by
  unfold c82 b7y
  repeat' first | with_reducible exact le_refl _ | with_reducible apply d4f | rw [d4f] | refine b1n ?_ (fun _ => ?_) | refine b1o ?_ ?_ | refine b1p (fun _ => ?_) | intro _ | split
noncomputable def c8t (h_ : Hall) (open_ : List (List Int)) (all_5 : List halls_bound) (x_19 : Int) : ((List Int) × (List (List Int)) × Int) → Option (Out ((List Int) × (List (List Int)) × Int) (((List Int) × (List (List Int)))))
  | (b_7_0, b_7_3, x_28) =>
    if decide (x_28 < h_.Until) then
      (mks 8 h_.Until 0).bind fun l53 =>
      (b3p (c8s h_ all_5 x_19 x_28) (l53, x_28)).bind fun row_9 =>
      c82 open_ x_19 b_7_0 b_7_3 x_28 row_9
    else
      some (.br (b_7_0, b_7_3))
theorem d37 (h_ : Hall) (open_ : List (List Int)) (all_5 : List halls_bound) (x_19 : Int) : ∀ s_0, Le (c8t h_ open_ all_5 x_19 s_0) (c1o h_ open_ all_5 x_19 s_0) := by
  intro s_0
  unfold c8t c1o
  repeat' first | with_reducible exact le_refl _ | with_reducible apply d36 | rw [d36] | with_reducible apply d4g | rw [d4g] | refine b1n ?_ (fun _ => ?_) | refine b1o ?_ ?_ | refine b1p (fun _ => ?_) | intro _ | split
noncomputable def c8u (b_7_0 : List Int) (b_7_3 : List (List Int)) (x_122 : Int) : (Int × Int) → Option (Out (Int × Int) Int)
  | (most_14, x_127) =>
    if decide (x_127 < (wr (x_122 + 1))) then
      (get b_7_3 x_127).bind fun x40 =>
      (get x40 x_122).bind fun x42 =>
      (get b_7_0 x_122).bind fun x43 =>
      (get b_7_0 x_127).bind fun x44 =>
      some (.nx (mx most_14 (wr (x42 - (wr (x43 - x44)))), wr (x_127 + 1)))
    else
      some (.br most_14)
theorem d38 (b_7_0 : List Int) (b_7_3 : List (List Int)) (x_122 : Int) : ∀ s_0, Le (c8u b_7_0 b_7_3 x_122 s_0) (c1p b_7_0 b_7_3 x_122 s_0) := by
  intro s_0
  unfold c8u c1p
  repeat' first | with_reducible exact le_refl _ | refine b1n ?_ (fun _ => ?_) | refine b1o ?_ ?_ | refine b1p (fun _ => ?_) | intro _ | split
noncomputable def c8y (x_122 : Int) (b_7_1_1 : List Int) (b_7_2_1 : List Int) : Option (Out ((List Int) × (List Int) × Int) (((List Int) × (List Int)))) :=
  some (.nx (b_7_1_1, b_7_2_1, wr (x_122 + 1)))
theorem d4c (x_122 : Int) (b_7_1_1 : List Int) (b_7_2_1 : List Int) : Le (c8y x_122 b_7_1_1 b_7_2_1) (b7u x_122 b_7_1_1 b_7_2_1) := by
  unfold c8y b7u
  repeat' first | with_reducible exact le_refl _ | refine b1n ?_ (fun _ => ?_) | refine b1o ?_ ?_ | refine b1p (fun _ => ?_) | intro _ | split
noncomputable def c8z (open_ : List (List Int)) (x_19 : Int) (b_7_1 : List Int) (b_7_2 : List Int) (x_122 : Int) (most_14 : Int) : Option (Out ((List Int) × (List Int) × Int) (((List Int) × (List Int)))) :=
  (ap 8 b_7_2 ([most_14])).bind fun l22 =>
  (get b_7_1 x_122).bind fun x27 =>
  (get open_ x_19).bind fun x28 =>
  (get x28 x_122).bind fun x29 =>
  (ap 8 b_7_1 ([wr (x27 + (mn most_14 x29))])).bind fun l30 =>
  c8y x_122 l30 l22
theorem d4d (open_ : List (List Int)) (x_19 : Int) (b_7_1 : List Int) (b_7_2 : List Int) (x_122 : Int) (most_14 : Int) : Le (c8z open_ x_19 b_7_1 b_7_2 x_122 most_14) (b7w open_ x_19 b_7_1 b_7_2 x_122 most_14) := by
  unfold c8z b7w
  repeat' first | with_reducible exact le_refl _ | with_reducible apply d4c | rw [d4c] | refine b1n ?_ (fun _ => ?_) | refine b1o ?_ ?_ | refine b1p (fun _ => ?_) | intro _ | split
noncomputable def c8v (h_ : Hall) (open_ : List (List Int)) (x_19 : Int) (b_7_0 : List Int) (b_7_3 : List (List Int)) : ((List Int) × (List Int) × Int) → Option (Out ((List Int) × (List Int) × Int) (((List Int) × (List Int))))
  | (b_7_1, b_7_2, x_122) =>
    if decide (x_122 < h_.Until) then
      (b3p (c8u b_7_0 b_7_3 x_122) (0, 0)).bind fun most_14 =>
      c8z open_ x_19 b_7_1 b_7_2 x_122 most_14
    else
      some (.br (b_7_1, b_7_2))
theorem d39 (h_ : Hall) (open_ : List (List Int)) (x_19 : Int) (b_7_0 : List Int) (b_7_3 : List (List Int)) : ∀ s_0, Le (c8v h_ open_ x_19 b_7_0 b_7_3 s_0) (c1q h_ open_ x_19 b_7_0 b_7_3 s_0) := by
  intro s_0
  unfold c8v c1q
  repeat' first | with_reducible exact le_refl _ | with_reducible apply d38 | rw [d38] | with_reducible apply d4d | rw [d4d] | refine b1n ?_ (fun _ => ?_) | refine b1o ?_ ?_ | refine b1p (fun _ => ?_) | intro _ | split
noncomputable def c84 (x_19 : Int) (all_5_1 : List halls_bound) : Option (Out ((List halls_bound) × Int) (((List halls_bound)))) :=
  some (.nx (all_5_1, wr (x_19 + 1)))
theorem d4i (x_19 : Int) (all_5_1 : List halls_bound) : Le (c84 x_19 all_5_1) (b7z x_19 all_5_1) := by
  unfold c84 b7z
  repeat' first | with_reducible exact le_refl _ | refine b1n ?_ (fun _ => ?_) | refine b1o ?_ ?_ | refine b1p (fun _ => ?_) | intro _ | split
noncomputable def c8x (all_5 : List halls_bound) (x_19 : Int) (b_7_0 : List Int) (b_7_3 : List (List Int)) (b_7_1 : List Int) (b_7_2 : List Int) : Option (Out ((List halls_bound) × Int) (((List halls_bound)))) :=
  (ap 8 all_5 ([(halls_bound.mk b_7_0 b_7_1 b_7_2 b_7_3)])).bind fun l13 =>
  c84 x_19 l13
theorem d4b (all_5 : List halls_bound) (x_19 : Int) (b_7_0 : List Int) (b_7_3 : List (List Int)) (b_7_1 : List Int) (b_7_2 : List Int) : Le (c8x all_5 x_19 b_7_0 b_7_3 b_7_1 b_7_2) (b7t all_5 x_19 b_7_0 b_7_3 b_7_1 b_7_2) := by
  unfold c8x b7t
  repeat' first | with_reducible exact le_refl _ | with_reducible apply d4i | rw [d4i] | refine b1n ?_ (fun _ => ?_) | refine b1o ?_ ?_ | refine b1p (fun _ => ?_) | intro _ | split
noncomputable def c85 (h_ : Hall) (open_ : List (List Int)) (all_5 : List halls_bound) (x_19 : Int) (b_7_0 : List Int) (b_7_3 : List (List Int)) : Option (Out ((List halls_bound) × Int) (((List halls_bound)))) :=
  (b3p (c8v h_ open_ x_19 b_7_0 b_7_3) ([0], [], 0)).bind fun
    | (b_7_1, b_7_2) => c8x all_5 x_19 b_7_0 b_7_3 b_7_1 b_7_2
theorem d4k (h_ : Hall) (open_ : List (List Int)) (all_5 : List halls_bound) (x_19 : Int) (b_7_0 : List Int) (b_7_3 : List (List Int)) : Le (c85 h_ open_ all_5 x_19 b_7_0 b_7_3) (b72 h_ open_ all_5 x_19 b_7_0 b_7_3) := by
  unfold c85 b72
  repeat' first | with_reducible exact le_refl _ | with_reducible apply d39 | rw [d39] | with_reducible apply d4b | rw [d4b] | refine b1n ?_ (fun _ => ?_) | refine b1o ?_ ?_ | refine b1p (fun _ => ?_) | intro _ | split
noncomputable def c8w (h_ : Hall) (open_ : List (List Int)) : ((List halls_bound) × Int) → Option (Out ((List halls_bound) × Int) (((List halls_bound))))
  | (all_5, x_19) =>
    if decide (x_19 < (List.length h_.Combs : Int)) then
      (b3p (c8t h_ open_ all_5 x_19) ([0], [], 0)).bind fun
        | (b_7_0, b_7_3) => c85 h_ open_ all_5 x_19 b_7_0 b_7_3
    else
      some (.br all_5)
theorem d4a (h_ : Hall) (open_ : List (List Int)) : ∀ s_0, Le (c8w h_ open_ s_0) (c1r h_ open_ s_0) := by
  intro s_0
  unfold c8w c1r
  repeat' first | with_reducible exact le_refl _ | with_reducible apply d37 | rw [d37] | with_reducible apply d4k | rw [d4k] | refine b1n ?_ (fun _ => ?_) | refine b1o ?_ ?_ | refine b1p (fun _ => ?_) | intro _ | split
noncomputable def c80 (all_5 : List halls_bound) : Option (List halls_bound) :=
  some all_5
theorem d4e (all_5 : List halls_bound) : Le (c80 all_5) (b7v all_5) := by
  unfold c80 b7v
  repeat' first | with_reducible exact le_refl _ | refine b1n ?_ (fun _ => ?_) | refine b1o ?_ ?_ | refine b1p (fun _ => ?_) | intro _ | split
noncomputable def c4s (h_ : Hall) (open_ : List (List Int)) : Option (List halls_bound) :=
  (b3p (c8w h_ open_) ([], 0)).bind fun all_5 =>
  c80 all_5
theorem c4u (h_ : Hall) (open_ : List (List Int)) : Le (c4s h_ open_) (b6v h_ open_) := by
  unfold c4s b6v
  repeat' first | with_reducible exact le_refl _ | with_reducible apply d4a | rw [d4a] | with_reducible apply d4e | rw [d4e] | refine b1n ?_ (fun _ => ?_) | refine b1o ?_ ?_ | refine b1p (fun _ => ?_) | intro _ | split
noncomputable def c9j (n : Int) (c0 : Hall) (c1 : Int) : Option Bool :=
  (get c0.Combs c1).bind fun x2 =>
  some (decide (x2.Limit < n))
theorem d4z (n : Int) (c0 : Hall) (c1 : Int) : Le (c9j n c0 c1) (b9n n c0 c1) := by
  unfold c9j b9n
  repeat' first | with_reducible exact le_refl _ | refine b1n ?_ (fun _ => ?_) | refine b1o ?_ ?_ | refine b1p (fun _ => ?_) | intro _ | split
noncomputable def c47 (x_10 : Int) (out_4_1 : List (Int × Int)) : Option (Out ((List (Int × Int)) × Int) (((List (Int × Int))))) :=
  some (.nx (out_4_1, wr (x_10 + 1)))
theorem d42 (x_10 : Int) (out_4_1 : List (Int × Int)) : Le (c47 x_10 out_4_1) (b9o x_10 out_4_1) := by
  unfold c47 b9o
  repeat' first | with_reducible exact le_refl _ | refine b1n ?_ (fun _ => ?_) | refine b1o ?_ ?_ | refine b1p (fun _ => ?_) | intro _ | split
noncomputable def c9k (h_ : Hall) (all : List halls_bound) : ((List (Int × Int)) × Int) → Option (Out ((List (Int × Int)) × Int) (((List (Int × Int)))))
  | (out_4, x_10) =>
    if decide (x_10 < (List.length all : Int)) then
      (get all x_10).bind fun x9 =>
      (c6l x9.most (fun z12 => c9j z12 h_ x_10)).bind fun y13 =>
      if decide (0 ≤ y13) then
        (ap 16 out_4 ([(x_10, y13)])).bind fun l16 =>
        c47 x_10 l16
      else
        c47 x_10 out_4
    else
      some (.br out_4)
theorem d40 (h_ : Hall) (all : List halls_bound) : ∀ s_0, Le (c9k h_ all s_0) (c45 h_ all s_0) := by
  intro s_0
  unfold c9k c45
  repeat' first | with_reducible exact le_refl _ | with_reducible apply c6m | rw [c6m] | with_reducible apply d4z | rw [d4z] | with_reducible apply d42 | rw [d42] | refine b1n ?_ (fun _ => ?_) | refine b1o ?_ ?_ | refine b1p (fun _ => ?_) | intro _ | split
noncomputable def c9l (out_4 : List (Int × Int)) : Option (List (Int × Int)) :=
  some out_4
theorem d41 (out_4 : List (Int × Int)) : Le (c9l out_4) (c1w out_4) := by
  unfold c9l c1w
  repeat' first | with_reducible exact le_refl _ | refine b1n ?_ (fun _ => ?_) | refine b1o ?_ ?_ | refine b1p (fun _ => ?_) | intro _ | split
noncomputable def c46 (h_ : Hall) (all : List halls_bound) : Option (List (Int × Int)) :=
  (b3p (c9k h_ all) ([], 0)).bind fun out_4 =>
  c9l out_4
theorem c48 (h_ : Hall) (all : List halls_bound) : Le (c46 h_ all) (b9m h_ all) := by
  unfold c46 b9m
  repeat' first | with_reducible exact le_refl _ | with_reducible apply d40 | rw [d40] | with_reducible apply d41 | rw [d41] | refine b1n ?_ (fun _ => ?_) | refine b1o ?_ ?_ | refine b1p (fun _ => ?_) | intro _ | split
noncomputable def c8n (h_ : Hall) (comb : Int) (from_ : Int) : ((List (List Int)) × Int) → Option (Out ((List (List Int)) × Int) (((Int × Int))))
  | (all_9, n_10) =>
    (c4s h_ all_9).bind fun y11 =>
    (c46 h_ y11).bind fun y12 =>
    if decide ((List.length y12 : Int) = 0) then
      some (.br (n_10, 0))
    else
      if decide ((wr (from_ + n_10)) = h_.Until) then
        some (.br (0, 3))
      else
        (get all_9 comb).bind fun x19 =>
        (get x19 (wr (from_ + n_10))).bind fun x20 =>
        some (.nx ((List.set all_9 (Int.toNat comb) (List.set x19 (Int.toNat (wr (from_ + n_10))) 0)), wr (n_10 + 1)))
theorem d32 (h_ : Hall) (comb : Int) (from_ : Int) : ∀ s_0, Le (c8n h_ comb from_ s_0) (c4m h_ comb from_ s_0) := by
  intro s_0
  unfold c8n c4m
  repeat' first | with_reducible exact le_refl _ | with_reducible apply c4u | rw [c4u] | with_reducible apply c48 | rw [c48] | refine b1n ?_ (fun _ => ?_) | refine b1o ?_ ?_ | refine b1p (fun _ => ?_) | intro _ | split
noncomputable def c8o (h_ : Hall) (comb : Int) (from_ : Int) : Option (Int × Int) :=
  (c9b h_ comb ([from_])).bind fun y2 =>
  if decide (¬y2 = 0) then
    some (0, y2)
  else
    (c42 h_).bind fun y6 =>
    (b3p (c8n h_ comb from_) (y6, 0)).bind fun r' =>
    some r'
theorem d33 (h_ : Hall) (comb : Int) (from_ : Int) : Le (c8o h_ comb from_) (c1g h_ comb from_) := by
  unfold c8o c1g
  repeat' first | with_reducible exact le_refl _ | with_reducible apply d4s | rw [d4s] | with_reducible apply c44 | rw [c44] | with_reducible apply d32 | rw [d32] | refine b1n ?_ (fun _ => ?_) | refine b1o ?_ ?_ | refine b1p (fun _ => ?_) | intro _ | split
noncomputable def c5m : Hall :=
  (Hall.mk ([(Comb.mk 3 12 1 (Span.mk 2 3)), (Comb.mk 2 10 (-1) (Span.mk 1 1))]) ([(Train.mk (Span.mk 2 4) ([(Crowd.mk 0 (Span.mk 6 10))])), (Train.mk (Span.mk 5 5) ([(Crowd.mk 0 (Span.mk 0 4)), (Crowd.mk 1 (Span.mk 3 3))]))]) ([]) 20)
theorem d7r : c5m = l06_Example := by unfold c5m l06_Example; rfl
noncomputable def c8p (h_ : Hall) : Option ((List (Int × Int)) × Int) :=
  (c4k h_).bind fun y2 =>
  if decide (¬y2 = 0) then
    some ([], y2)
  else
    (c42 h_).bind fun y8 =>
    (c4s h_ y8).bind fun y9 =>
    (c46 h_ y9).bind fun y10 =>
    some (y10, 0)
theorem d34 (h_ : Hall) : Le (c8p h_) (c1h h_) := by
  unfold c8p c1h
  repeat' first | with_reducible exact le_refl _ | with_reducible apply c4l | rw [c4l] | with_reducible apply c44 | rw [c44] | with_reducible apply c4u | rw [c4u] | with_reducible apply c48 | rw [c48] | refine b1n ?_ (fun _ => ?_) | refine b1o ?_ ?_ | refine b1p (fun _ => ?_) | intro _ | split
noncomputable def d7s : Option Bool :=
  (c8o c5m 0 5).bind fun y2 =>
  (c8p c5m).bind fun y4 =>
  (if (((decide (y2.2 = 0)) && (decide (y4.2 = 0))) && (decide (y2.1 = 1))) && (decide ((List.length y4.1 : Int) = 1)) then (get y4.1 0).bind fun x7 =>
  some (decide (x7.1 = 1) && decide (x7.2 = 7)) else some false).bind fun c8 =>
  some c8
theorem g9z  : Le (d7s ) (b6h ) := by
  unfold d7s b6h
  repeat' first | with_reducible exact le_refl _ | with_reducible apply d33 | rw [d33] | with_reducible apply d7r | rw [d7r] | with_reducible apply d34 | rw [d34] | refine b1n ?_ (fun _ => ?_) | refine b1o ?_ ?_ | refine b1p (fun _ => ?_) | intro _ | split
end Go.Nw.HM
