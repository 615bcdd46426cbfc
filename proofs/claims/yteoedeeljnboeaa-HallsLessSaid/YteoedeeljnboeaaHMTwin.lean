/- Twins of the models, which the kernel evaluates. -/
import Derived.Test.YteoedeeljnboeaaNwTwin
import Derived.Test.YteoedeeljnboeaaHM
set_option linter.all false
namespace Go.Nw.HM
noncomputable def E91 (n : Int) (s : Span) : Bool :=
 (decide (s.Low <= n)) && (decide (n <= s.High))
theorem G02 (n : Int) (s : Span) : E91 n s = x80 n s := by unfold E91 x80; rfl
noncomputable def E95 (s : Span) (low : Int) (high : Int) : Bool :=
 ((decide (low <= s.Low)) && (decide (s.Low <= s.High))) && (decide (s.High <= high))
theorem E9e (s : Span) (low : Int) (high : Int) : E95 s low high = y31 s low high := by unfold E95 y31; rfl
noncomputable def G29 (h_ : Hall) (i : Int) : Option Bool :=
 (get h_.Combs i).bind fun x2 =>
 some ((((E91 x2.Rate (Span.mk 0 1000)) && (E91 x2.Limit (Span.mk 0 100000))) && ((decide (x2.Next = (-1))) || ((decide (i < x2.Next)) && (decide (x2.Next < (List.length h_.Combs : Int)))))) && (E95 x2.Walk 1 20))
theorem G54 (h_ : Hall) (i : Int) : Le (G29 h_ i) (E8g h_ i) := by
 unfold G29 E8g
 repeat' first | with_reducible exact le_refl _ | with_reducible apply G02 | rw [G02] | with_reducible apply E9e | rw [E9e] | refine b37 ?_ (fun _ => ?_) | refine b39 ?_ ?_ | refine b48 (fun _ => ?_) | intro _ | split
noncomputable def G2i (h_ : Hall) : Int -> Option (Out Int (Unit ⊕ Int))
 | x_41 =>
  if decide (x_41 < (List.length h_.Combs : Int)) then
   (G29 h_ x_41).bind fun y45 =>
   if !y45 then
    some (.br (.inr 60))
   else
    some (.nx (wr (x_41 + 1)))
  else
   some (.br (.inl ()))
theorem G5a (h_ : Hall) : ∀ s_0, Le (G2i h_ s_0) (E7v h_ s_0) := by
 intro s_0
 unfold G2i E7v
 repeat' first | with_reducible exact le_refl _ | with_reducible apply G54 | rw [G54] | refine b37 ?_ (fun _ => ?_) | refine b39 ?_ ?_ | refine b48 (fun _ => ?_) | intro _ | split
noncomputable def G4g (s : List Train) (f : Train -> Option Bool) : Int -> Option (Out Int (Unit ⊕ Int))
 | x_8 =>
  if decide (x_8 < (List.length s : Int)) then
   (get s x_8).bind fun x9 =>
   (f x9).bind fun y10 =>
   if y10 then
    some (.br (.inr x_8))
   else
    some (.nx (wr (x_8 + 1)))
  else
   some (.br (.inl ()))
theorem G68 (s : List Train) (f f' : Train -> Option Bool) (hf : ∀ x0, Le (f x0) (f' x0)) : ∀ s_0, Le (G4g s f s_0) (G1m s f' s_0) := by
 intro s_0
 unfold G4g G1m
 repeat' first | with_reducible exact le_refl _ | apply hf | refine b37 ?_ (fun _ => ?_) | refine b39 ?_ ?_ | refine b48 (fun _ => ?_) | intro _ | split
noncomputable def G4i : Option Int :=
 some (-1)
theorem G69  : Le (G4i ) (G0h ) := by
 unfold G4i G0h
 repeat' first | with_reducible exact le_refl _ | refine b37 ?_ (fun _ => ?_) | refine b39 ?_ ?_ | refine b48 (fun _ => ?_) | intro _ | split
noncomputable def G4h (s : List Train) (f : Train -> Option Bool) : Option Int :=
 (x22 (G4g s f) (0)).bind fun
  | (.inl ()) => G4i
  | (.inr r') => some r'
theorem G7a (s : List Train) (f f' : Train -> Option Bool) (hf : ∀ x0, Le (f x0) (f' x0)) : Le (G4h s f) (G0g s f') := by
 unfold G4h G0g
 repeat' first | with_reducible exact le_refl _ | with_reducible apply G68 | rw [G68] | with_reducible apply G69 | rw [G69] | apply hf | refine b37 ?_ (fun _ => ?_) | refine b39 ?_ ?_ | refine b48 (fun _ => ?_) | intro _ | split
noncomputable def G4e (s : List Train) (f : Train -> Option Bool) : Option Bool :=
 (G4h s f).bind fun y2 =>
 some (decide (0 <= y2))
theorem G66 (s : List Train) (f f' : Train -> Option Bool) (hf : ∀ x0, Le (f x0) (f' x0)) : Le (G4e s f) (E9n s f') := by
 unfold G4e E9n
 repeat' first | with_reducible exact le_refl _ | with_reducible apply G7a | rw [G7a] | apply hf | refine b37 ?_ (fun _ => ?_) | refine b39 ?_ ?_ | refine b48 (fun _ => ?_) | intro _ | split
noncomputable def G3a (h_ : Hall) (t_ : Train) : (Int × Int) -> Option (Out (Int × Int) (Unit ⊕ Bool))
 | (last_5, x_11) =>
  if decide (x_11 < (List.length t_.Crowds : Int)) then
   (get t_.Crowds x_11).bind fun x9 =>
   if ((decide (x9.Comb <= last_5)) || (decide ((List.length h_.Combs : Int) <= x9.Comb))) || (!(E95 x9.People 0 1000)) then
    some (.br (.inr false))
   else
    some (.nx (x9.Comb, wr (x_11 + 1)))
  else
   some (.br (.inl ()))
theorem G55 (h_ : Hall) (t_ : Train) : ∀ s_0, Le (G3a h_ t_ s_0) (E7f h_ t_ s_0) := by
 intro s_0
 unfold G3a E7f
 repeat' first | with_reducible exact le_refl _ | with_reducible apply E9e | rw [E9e] | refine b37 ?_ (fun _ => ?_) | refine b39 ?_ ?_ | refine b48 (fun _ => ?_) | intro _ | split
noncomputable def G3c (h_ : Hall) (t_ : Train) : Option Bool :=
 some ((E95 t_.At 0 (wr (h_.Until - 1))) && (decide ((List.length t_.Crowds : Int) <= 4)))
theorem G56 (h_ : Hall) (t_ : Train) : Le (G3c h_ t_) (E88 h_ t_) := by
 unfold G3c E88
 repeat' first | with_reducible exact le_refl _ | with_reducible apply E9e | rw [E9e] | refine b37 ?_ (fun _ => ?_) | refine b39 ?_ ?_ | refine b48 (fun _ => ?_) | intro _ | split
noncomputable def G3b (h_ : Hall) (t_ : Train) : Option Bool :=
 (x22 (G3a h_ t_) ((-1), 0)).bind fun
  | (.inl ()) => G3c h_ t_
  | (.inr r') => some r'
theorem G57 (h_ : Hall) (t_ : Train) : Le (G3b h_ t_) (E8h h_ t_) := by
 unfold G3b E8h
 repeat' first | with_reducible exact le_refl _ | with_reducible apply G55 | rw [G55] | with_reducible apply G56 | rw [G56] | refine b37 ?_ (fun _ => ?_) | refine b39 ?_ ?_ | refine b48 (fun _ => ?_) | intro _ | split
noncomputable def G2g (t_ : Train) (c0 : Hall) : Option Bool :=
 (G3b c0 t_).bind fun y2 =>
 some (!y2)
theorem G48 (t_ : Train) (c0 : Hall) : Le (G2g t_ c0) (E7t t_ c0) := by
 unfold G2g E7t
 repeat' first | with_reducible exact le_refl _ | with_reducible apply G57 | rw [G57] | refine b37 ?_ (fun _ => ?_) | refine b39 ?_ ?_ | refine b48 (fun _ => ?_) | intro _ | split
noncomputable def G2h (h_ : Hall) : Int -> Option (Out Int (Unit ⊕ Int))
 | x_56 =>
  if decide (x_56 < (List.length h_.Shifts : Int)) then
   (get h_.Shifts x_56).bind fun x23 =>
   (if (decide (x23.At < 0)) || (decide (h_.Until <= x23.At)) then some true else (if decide (0 < x_56) then (get h_.Shifts (wr (x_56 - 1))).bind fun x27 =>
   some (decide (x23.At < x27.At)) else some false).bind fun c28 =>
   some c28).bind fun c29 =>
   if ((c29 || (decide (x23.Comb < 0))) || (decide ((List.length h_.Combs : Int) <= x23.Comb))) || (!(E91 x23.Rate (Span.mk 0 1000))) then
    some (.br (.inr 60))
   else
    some (.nx (wr (x_56 + 1)))
  else
   some (.br (.inl ()))
theorem G49 (h_ : Hall) : ∀ s_0, Le (G2h h_ s_0) (E7u h_ s_0) := by
 intro s_0
 unfold G2h E7u
 repeat' first | with_reducible exact le_refl _ | with_reducible apply G02 | rw [G02] | refine b37 ?_ (fun _ => ?_) | refine b39 ?_ ?_ | refine b48 (fun _ => ?_) | intro _ | split
noncomputable def G2j : Option Int :=
 some 0
theorem G5b  : Le (G2j ) (E9w ) := by
 unfold G2j E9w
 repeat' first | with_reducible exact le_refl _ | refine b37 ?_ (fun _ => ?_) | refine b39 ?_ ?_ | refine b48 (fun _ => ?_) | intro _ | split
noncomputable def G2k (h_ : Hall) : Option Int :=
 (G4e h_.Trains (fun z12 => G2g z12 h_)).bind fun y13 =>
 if y13 then
  some 60
 else
  (x22 (G2h h_) (0)).bind fun
   | (.inl ()) => G2j
   | (.inr r') => some r'
theorem G5c (h_ : Hall) : Le (G2k h_) (E8y h_) := by
 unfold G2k E8y
 repeat' first | with_reducible exact le_refl _ | with_reducible apply G66 | rw [G66] | with_reducible apply G48 | rw [G48] | with_reducible apply G49 | rw [G49] | with_reducible apply G5b | rw [G5b] | refine b37 ?_ (fun _ => ?_) | refine b39 ?_ ?_ | refine b48 (fun _ => ?_) | intro _ | split
noncomputable def G0u (h_ : Hall) : Option Int :=
 if (((((decide (h_.Until < 1)) || (decide (100 < h_.Until))) || (decide ((List.length h_.Combs : Int) < 1))) || (decide (8 < (List.length h_.Combs : Int)))) || (decide (12 < (List.length h_.Trains : Int)))) || (decide (20 < (List.length h_.Shifts : Int))) then
  some 60
 else
  (x22 (G2i h_) (0)).bind fun
   | (.inl ()) => G2k h_
   | (.inr r') => some r'
theorem G0v (h_ : Hall) : Le (G0u h_) (E6y h_) := by
 unfold G0u E6y
 repeat' first | with_reducible exact le_refl _ | with_reducible apply G5a | rw [G5a] | with_reducible apply G5c | rw [G5c] | refine b37 ?_ (fun _ => ?_) | refine b39 ?_ ?_ | refine b48 (fun _ => ?_) | intro _ | split
noncomputable def G4j (s : List Int) (f : Int -> Option Bool) : Int -> Option (Out Int (Unit ⊕ Int))
 | x_8 =>
  if decide (x_8 < (List.length s : Int)) then
   (get s x_8).bind fun x9 =>
   (f x9).bind fun y10 =>
   if y10 then
    some (.br (.inr x_8))
   else
    some (.nx (wr (x_8 + 1)))
  else
   some (.br (.inl ()))
theorem G7b (s : List Int) (f f' : Int -> Option Bool) (hf : ∀ x0, Le (f x0) (f' x0)) : ∀ s_0, Le (G4j s f s_0) (g3c s f' s_0) := by
 intro s_0
 unfold G4j g3c
 repeat' first | with_reducible exact le_refl _ | apply hf | refine b37 ?_ (fun _ => ?_) | refine b39 ?_ ?_ | refine b48 (fun _ => ?_) | intro _ | split
noncomputable def G4k : Option Int :=
 some (-1)
theorem G7c  : Le (G4k ) (d5b ) := by
 unfold G4k d5b
 repeat' first | with_reducible exact le_refl _ | refine b37 ?_ (fun _ => ?_) | refine b39 ?_ ?_ | refine b48 (fun _ => ?_) | intro _ | split
noncomputable def G1n (s : List Int) (f : Int -> Option Bool) : Option Int :=
 (x22 (G4j s f) (0)).bind fun
  | (.inl ()) => G4k
  | (.inr r') => some r'
theorem G1o (s : List Int) (f f' : Int -> Option Bool) (hf : ∀ x0, Le (f x0) (f' x0)) : Le (G1n s f) (d5a s f') := by
 unfold G1n d5a
 repeat' first | with_reducible exact le_refl _ | with_reducible apply G7b | rw [G7b] | with_reducible apply G7c | rw [G7c] | apply hf | refine b37 ?_ (fun _ => ?_) | refine b39 ?_ ?_ | refine b48 (fun _ => ?_) | intro _ | split
noncomputable def G4f (s : List Int) (f : Int -> Option Bool) : Option Bool :=
 (G1n s f).bind fun y2 =>
 some (decide (0 <= y2))
theorem G67 (s : List Int) (f f' : Int -> Option Bool) (hf : ∀ x0, Le (f x0) (f' x0)) : Le (G4f s f) (b45 s f') := by
 unfold G4f b45
 repeat' first | with_reducible exact le_refl _ | with_reducible apply G1o | rw [G1o] | apply hf | refine b37 ?_ (fun _ => ?_) | refine b39 ?_ ?_ | refine b48 (fun _ => ?_) | intro _ | split
noncomputable def G27 (t_ : Int) (c0 : Hall) : Bool :=
 (decide (t_ < 0)) || (decide (c0.Until <= t_))
theorem G52 (t_ : Int) (c0 : Hall) : G27 t_ c0 = E7m t_ c0 := by unfold G27 E7m; rfl
noncomputable def G28 (h_ : Hall) (comb : Int) (ticks : List Int) : Option Int :=
 (G0u h_).bind fun y2 =>
 if decide (¬y2 = 0) then
  some y2
 else
  (if (decide (comb < 0)) || (decide ((List.length h_.Combs : Int) <= comb)) then some true else (G4f ticks (fun z8 => some (G27 z8 h_))).bind fun y9 =>
  some y9).bind fun c10 =>
  if c10 then
   some 1
  else
   some 0
theorem G53 (h_ : Hall) (comb : Int) (ticks : List Int) : Le (G28 h_ comb ticks) (E7l h_ comb ticks) := by
 unfold G28 E7l
 repeat' first | with_reducible exact le_refl _ | with_reducible apply G0v | rw [G0v] | with_reducible apply G67 | rw [G67] | with_reducible apply G52 | rw [G52] | refine b37 ?_ (fun _ => ?_) | refine b39 ?_ ?_ | refine b48 (fun _ => ?_) | intro _ | split
noncomputable def G09 (at_7_1 : Int) (now_6_2 : Int) : Option (Out (Int × Int) ((Int × Int))) :=
 some (.nx (now_6_2, wr (at_7_1 + 1)))
theorem G6i (at_7_1 : Int) (now_6_2 : Int) : Le (G09 at_7_1 now_6_2) (E8l at_7_1 now_6_2) := by
 unfold G09 E8l
 repeat' first | with_reducible exact le_refl _ | refine b37 ?_ (fun _ => ?_) | refine b39 ?_ ?_ | refine b48 (fun _ => ?_) | intro _ | split
noncomputable def G3i (h_ : Hall) (comb : Int) (x_20 : Int) : (Int × Int) -> Option (Out (Int × Int) ((Int × Int)))
 | (now_6_1, at_7_1) =>
  (if decide (at_7_1 < (List.length h_.Shifts : Int)) then (get h_.Shifts at_7_1).bind fun x19 =>
  some (decide (x19.At <= x_20)) else some false).bind fun c20 =>
  if c20 then
   (get h_.Shifts at_7_1).bind fun x27 =>
   if decide (x27.Comb = comb) then
    G09 at_7_1 x27.Rate
   else
    G09 at_7_1 now_6_1
  else
   some (.br (now_6_1, at_7_1))
theorem G6e (h_ : Hall) (comb : Int) (x_20 : Int) : ∀ s_0, Le (G3i h_ comb x_20 s_0) (E73 h_ comb x_20 s_0) := by
 intro s_0
 unfold G3i E73
 repeat' first | with_reducible exact le_refl _ | with_reducible apply G6i | rw [G6i] | refine b37 ?_ (fun _ => ?_) | refine b39 ?_ ?_ | refine b48 (fun _ => ?_) | intro _ | split
noncomputable def G3l (x_20 : Int) (out_5_1 : List Int) (now_6_1 : Int) (at_7_1 : Int) : Option (Out ((List Int) × Int × Int × Int) (((List Int)))) :=
 some (.nx (out_5_1, now_6_1, at_7_1, wr (x_20 + 1)))
theorem G6g (x_20 : Int) (out_5_1 : List Int) (now_6_1 : Int) (at_7_1 : Int) : Le (G3l x_20 out_5_1 now_6_1 at_7_1) (E9c x_20 out_5_1 now_6_1 at_7_1) := by
 unfold G3l E9c
 repeat' first | with_reducible exact le_refl _ | refine b37 ?_ (fun _ => ?_) | refine b39 ?_ ?_ | refine b48 (fun _ => ?_) | intro _ | split
noncomputable def G3m (out_5 : List Int) (x_20 : Int) (now_6_1 : Int) (at_7_1 : Int) : Option (Out ((List Int) × Int × Int × Int) (((List Int)))) :=
 (get out_5 x_20).bind fun x15 =>
 G3l x_20 (List.set out_5 (Int.toNat x_20) now_6_1) now_6_1 at_7_1
theorem G6h (out_5 : List Int) (x_20 : Int) (now_6_1 : Int) (at_7_1 : Int) : Le (G3m out_5 x_20 now_6_1 at_7_1) (E9d out_5 x_20 now_6_1 at_7_1) := by
 unfold G3m E9d
 repeat' first | with_reducible exact le_refl _ | with_reducible apply G6g | rw [G6g] | refine b37 ?_ (fun _ => ?_) | refine b39 ?_ ?_ | refine b48 (fun _ => ?_) | intro _ | split
noncomputable def G3j (h_ : Hall) (comb : Int) (l2 : List Int) : ((List Int) × Int × Int × Int) -> Option (Out ((List Int) × Int × Int × Int) (((List Int))))
 | (out_5, now_6, at_7, x_20) =>
  if decide (x_20 < ((List.length l2 : Nat) : Int)) then
   (x22 (G3i h_ comb x_20) (now_6, at_7)).bind fun
    | (now_6_1, at_7_1) => G3m out_5 x_20 now_6_1 at_7_1
  else
   some (.br out_5)
theorem G6f (h_ : Hall) (comb : Int) (l2 : List Int) : ∀ s_0, Le (G3j h_ comb l2 s_0) (E8k h_ comb l2 s_0) := by
 intro s_0
 unfold G3j E8k
 repeat' first | with_reducible exact le_refl _ | with_reducible apply G6e | rw [G6e] | with_reducible apply G6h | rw [G6h] | refine b37 ?_ (fun _ => ?_) | refine b39 ?_ ?_ | refine b48 (fun _ => ?_) | intro _ | split
noncomputable def G3n (out_5 : List Int) : Option (List Int) :=
 some out_5
theorem G6j (out_5 : List Int) : Le (G3n out_5) (E94 out_5) := by
 unfold G3n E94
 repeat' first | with_reducible exact le_refl _ | refine b37 ?_ (fun _ => ?_) | refine b39 ?_ ?_ | refine b48 (fun _ => ?_) | intro _ | split
noncomputable def G3k (h_ : Hall) (comb : Int) : Option (List Int) :=
 (mks 8 h_.Until 0).bind fun l2 =>
 (get h_.Combs comb).bind fun x4 =>
 (x22 (G3j h_ comb l2) (l2, x4.Rate, 0, 0)).bind fun out_5 =>
 G3n out_5
theorem G6k (h_ : Hall) (comb : Int) : Le (G3k h_ comb) (E8j h_ comb) := by
 unfold G3k E8j
 repeat' first | with_reducible exact le_refl _ | with_reducible apply G6f | rw [G6f] | with_reducible apply G6j | rw [G6j] | refine b37 ?_ (fun _ => ?_) | refine b39 ?_ ?_ | refine b48 (fun _ => ?_) | intro _ | split
noncomputable def G3d (h_ : Hall) : ((List (List Int)) × Int) -> Option (Out ((List (List Int)) × Int) (((List (List Int)))))
 | (out_2, x_7) =>
  if decide (x_7 < (List.length h_.Combs : Int)) then
   (G3k h_ x_7).bind fun y9 =>
   (ap 24 out_2 ([y9])).bind fun l10 =>
   some (.nx (l10, wr (x_7 + 1)))
  else
   some (.br out_2)
theorem G58 (h_ : Hall) : ∀ s_0, Le (G3d h_ s_0) (E8i h_ s_0) := by
 intro s_0
 unfold G3d E8i
 repeat' first | with_reducible exact le_refl _ | with_reducible apply G6k | rw [G6k] | refine b37 ?_ (fun _ => ?_) | refine b39 ?_ ?_ | refine b48 (fun _ => ?_) | intro _ | split
noncomputable def G3e (out_2 : List (List Int)) : Option (List (List Int)) :=
 some out_2
theorem G59 (out_2 : List (List Int)) : Le (G3e out_2) (E92 out_2) := by
 unfold G3e E92
 repeat' first | with_reducible exact le_refl _ | refine b37 ?_ (fun _ => ?_) | refine b39 ?_ ?_ | refine b48 (fun _ => ?_) | intro _ | split
noncomputable def G03 (h_ : Hall) : Option (List (List Int)) :=
 (x22 (G3d h_) ([], 0)).bind fun out_2 =>
 G3e out_2
theorem G04 (h_ : Hall) : Le (G03 h_) (E68 h_) := by
 unfold G03 E68
 repeat' first | with_reducible exact le_refl _ | with_reducible apply G58 | rw [G58] | with_reducible apply G59 | rw [G59] | refine b37 ?_ (fun _ => ?_) | refine b39 ?_ ?_ | refine b48 (fun _ => ?_) | intro _ | split
noncomputable def G01 (x_16 : Int) (sum_8_1 : Int) : Option (Out (Int × Int) Int) :=
 some (.nx (sum_8_1, wr (x_16 + 1)))
theorem G50 (x_16 : Int) (sum_8_1 : Int) : Le (G01 x_16 sum_8_1) (E72 x_16 sum_8_1) := by
 unfold G01 E72
 repeat' first | with_reducible exact le_refl _ | refine b37 ?_ (fun _ => ?_) | refine b39 ?_ ?_ | refine b48 (fun _ => ?_) | intro _ | split
noncomputable def G00 (x_35 : Int) (sum_8_2 : Int) : Option (Out (Int × Int) Int) :=
 some (.nx (sum_8_2, wr (x_35 + 1)))
theorem G5y (x_35 : Int) (sum_8_2 : Int) : Le (G00 x_35 sum_8_2) (E71 x_35 sum_8_2) := by
 unfold G00 E71
 repeat' first | with_reducible exact le_refl _ | refine b37 ?_ (fun _ => ?_) | refine b39 ?_ ?_ | refine b48 (fun _ => ?_) | intro _ | split
noncomputable def G23 (comb : Int) (x9 : Train) : (Int × Int) -> Option (Out (Int × Int) Int)
 | (sum_8_1, x_35) =>
  if decide (x_35 < (List.length x9.Crowds : Int)) then
   (get x9.Crowds x_35).bind fun x19 =>
   if decide (x19.Comb = comb) then
    G00 x_35 (wr (sum_8_1 + x19.People.High))
   else
    G00 x_35 sum_8_1
  else
   some (.br sum_8_1)
theorem G5w (comb : Int) (x9 : Train) : ∀ s_0, Le (G23 comb x9 s_0) (E8e comb x9 s_0) := by
 intro s_0
 unfold G23 E8e
 repeat' first | with_reducible exact le_refl _ | with_reducible apply G5y | rw [G5y] | refine b37 ?_ (fun _ => ?_) | refine b39 ?_ ?_ | refine b48 (fun _ => ?_) | intro _ | split
noncomputable def G24 (h_ : Hall) (comb : Int) (from_ : Int) (to_ : Int) : (Int × Int) -> Option (Out (Int × Int) Int)
 | (sum_8, x_16) =>
  if decide (x_16 < (List.length h_.Trains : Int)) then
   (get h_.Trains x_16).bind fun x9 =>
   if (decide (x9.At.High < from_)) || (decide (to_ < x9.At.Low)) then
    G01 x_16 sum_8
   else
    (x22 (G23 comb x9) (sum_8, 0)).bind fun sum_8_1 =>
    G01 x_16 sum_8_1
  else
   some (.br sum_8)
theorem G5x (h_ : Hall) (comb : Int) (from_ : Int) (to_ : Int) : ∀ s_0, Le (G24 h_ comb from_ to_ s_0) (E8f h_ comb from_ to_ s_0) := by
 intro s_0
 unfold G24 E8f
 repeat' first | with_reducible exact le_refl _ | with_reducible apply G50 | rw [G50] | with_reducible apply G5w | rw [G5w] | refine b37 ?_ (fun _ => ?_) | refine b39 ?_ ?_ | refine b48 (fun _ => ?_) | intro _ | split
noncomputable def G26 (sum_8 : Int) : Option Int :=
 some sum_8
theorem G5z (sum_8 : Int) : Le (G26 sum_8) (E90 sum_8) := by
 unfold G26 E90
 repeat' first | with_reducible exact le_refl _ | refine b37 ?_ (fun _ => ?_) | refine b39 ?_ ?_ | refine b48 (fun _ => ?_) | intro _ | split
noncomputable def G25 (h_ : Hall) (comb : Int) (from_ : Int) (to_ : Int) : Option Int :=
 (x22 (G24 h_ comb from_ to_) (0, 0)).bind fun sum_8 =>
 G26 sum_8
theorem G51 (h_ : Hall) (comb : Int) (from_ : Int) (to_ : Int) : Le (G25 h_ comb from_ to_) (E8d h_ comb from_ to_) := by
 unfold G25 E8d
 repeat' first | with_reducible exact le_refl _ | with_reducible apply G5x | rw [G5x] | with_reducible apply G5z | rw [G5z] | refine b37 ?_ (fun _ => ?_) | refine b39 ?_ ?_ | refine b48 (fun _ => ?_) | intro _ | split
noncomputable def G0r (b : halls_bound) (from_ : Int) (least_7 : Int) (k_8 : Int) (behind_9 : Int) : Option (Out (Int × Int) Int) :=
 (get b.flow k_8).bind fun x23 =>
 (get b.flow (mx from_ 0)).bind fun x24 =>
 (get b.most k_8).bind fun x25 =>
 some (.nx (mn least_7 (wr ((wr ((wr (x23 - x24)) + x25)) + behind_9)), wr (k_8 + 1)))
theorem G4s (b : halls_bound) (from_ : Int) (least_7 : Int) (k_8 : Int) (behind_9 : Int) : Le (G0r b from_ least_7 k_8 behind_9) (E7q b from_ least_7 k_8 behind_9) := by
 unfold G0r E7q
 repeat' first | with_reducible exact le_refl _ | refine b37 ?_ (fun _ => ?_) | refine b39 ?_ ?_ | refine b48 (fun _ => ?_) | intro _ | split
noncomputable def G2a (b : halls_bound) (from_ : Int) (to_ : Int) : (Int × Int) -> Option (Out (Int × Int) Int)
 | (least_7, k_8) =>
  if decide (k_8 <= to_) then
   if decide (k_8 < to_) then
    (get b.come (wr (k_8 + 1))).bind fun x29 =>
    (get x29 to_).bind fun x30 =>
    G0r b from_ least_7 k_8 x30
   else
    G0r b from_ least_7 k_8 0
  else
   some (.br least_7)
theorem G4q (b : halls_bound) (from_ : Int) (to_ : Int) : ∀ s_0, Le (G2a b from_ to_ s_0) (E8a b from_ to_ s_0) := by
 intro s_0
 unfold G2a E8a
 repeat' first | with_reducible exact le_refl _ | with_reducible apply G4s | rw [G4s] | refine b37 ?_ (fun _ => ?_) | refine b39 ?_ ?_ | refine b48 (fun _ => ?_) | intro _ | split
noncomputable def G2c (least_7 : Int) : Option Int :=
 some least_7
theorem G4r (least_7 : Int) : Le (G2c least_7) (E8u least_7) := by
 unfold G2c E8u
 repeat' first | with_reducible exact le_refl _ | refine b37 ?_ (fun _ => ?_) | refine b39 ?_ ?_ | refine b48 (fun _ => ?_) | intro _ | split
noncomputable def G2b (b : halls_bound) (from_ : Int) (to_ : Int) : Option Int :=
 if (decide (to_ < from_)) || (decide (to_ < 0)) then
  some 0
 else
  (get b.come 0).bind fun x8 =>
  (get x8 to_).bind fun x9 =>
  (get b.flow (wr (to_ + 1))).bind fun x10 =>
  (get b.flow (mx from_ 0)).bind fun x11 =>
  (x22 (G2a b from_ to_) (mn x9 (wr (x10 - x11)), mx from_ 0)).bind fun least_7 =>
  G2c least_7
theorem G4t (b : halls_bound) (from_ : Int) (to_ : Int) : Le (G2b b from_ to_) (E79 b from_ to_) := by
 unfold G2b E79
 repeat' first | with_reducible exact le_refl _ | with_reducible apply G4q | rw [G4q] | with_reducible apply G4r | rw [G4r] | refine b37 ?_ (fun _ => ?_) | refine b39 ?_ ?_ | refine b48 (fun _ => ?_) | intro _ | split
noncomputable def G0y (x_54 : Int) (row_9_2 : List Int) : Option (Out ((List Int) × Int) (((List Int)))) :=
 some (.nx (row_9_2, wr (x_54 + 1)))
theorem G5u (x_54 : Int) (row_9_2 : List Int) : Le (G0y x_54 row_9_2) (E70 x_54 row_9_2) := by
 unfold G0y E70
 repeat' first | with_reducible exact le_refl _ | refine b37 ?_ (fun _ => ?_) | refine b39 ?_ ?_ | refine b48 (fun _ => ?_) | intro _ | split
noncomputable def G2o (all_5 : List halls_bound) (x_19 : Int) (x_28 : Int) (t_10 : Int) (l76 : List Comb) : ((List Int) × Int) -> Option (Out ((List Int) × Int) (((List Int))))
 | (row_9_1, x_54) =>
  if decide (x_54 < (List.length l76 : Int)) then
   (get l76 x_54).bind fun x83 =>
   if decide (x83.Next = x_19) then
    (get row_9_1 t_10).bind fun x89 =>
    (get all_5 x_54).bind fun x90 =>
    (G2b x90 (wr (x_28 - x83.Walk.High)) (wr (t_10 - x83.Walk.Low))).bind fun y92 =>
    G0y x_54 (List.set row_9_1 (Int.toNat t_10) (wr (x89 + y92)))
   else
    G0y x_54 row_9_1
  else
   some (.br row_9_1)
theorem G5g (all_5 : List halls_bound) (x_19 : Int) (x_28 : Int) (t_10 : Int) (l76 : List Comb) : ∀ s_0, Le (G2o all_5 x_19 x_28 t_10 l76 s_0) (E8b all_5 x_19 x_28 t_10 l76 s_0) := by
 intro s_0
 unfold G2o E8b
 repeat' first | with_reducible exact le_refl _ | with_reducible apply G4t | rw [G4t] | with_reducible apply G5u | rw [G5u] | refine b37 ?_ (fun _ => ?_) | refine b39 ?_ ?_ | refine b48 (fun _ => ?_) | intro _ | split
noncomputable def G20 (t_10 : Int) (row_9_1 : List Int) : Option (Out ((List Int) × Int) (((List Int)))) :=
 some (.nx (row_9_1, wr (t_10 + 1)))
theorem G5s (t_10 : Int) (row_9_1 : List Int) : Le (G20 t_10 row_9_1) (E86 t_10 row_9_1) := by
 unfold G20 E86
 repeat' first | with_reducible exact le_refl _ | refine b37 ?_ (fun _ => ?_) | refine b39 ?_ ?_ | refine b48 (fun _ => ?_) | intro _ | split
noncomputable def G2p (h_ : Hall) (all_5 : List halls_bound) (x_19 : Int) (x_28 : Int) : ((List Int) × Int) -> Option (Out ((List Int) × Int) (((List Int))))
 | (row_9, t_10) =>
  if decide (t_10 < h_.Until) then
   (G25 h_ x_19 x_28 t_10).bind fun y73 =>
   (get row_9 t_10).bind fun x74 =>
   (sub h_.Combs 0 x_19).bind fun l76 =>
   (x22 (G2o all_5 x_19 x_28 t_10 l76) ((List.set row_9 (Int.toNat t_10) y73), 0)).bind fun row_9_1 =>
   G20 t_10 row_9_1
  else
   some (.br row_9)
theorem G5h (h_ : Hall) (all_5 : List halls_bound) (x_19 : Int) (x_28 : Int) : ∀ s_0, Le (G2p h_ all_5 x_19 x_28 s_0) (E7w h_ all_5 x_19 x_28 s_0) := by
 intro s_0
 unfold G2p E7w
 repeat' first | with_reducible exact le_refl _ | with_reducible apply G51 | rw [G51] | with_reducible apply G5g | rw [G5g] | with_reducible apply G5s | rw [G5s] | refine b37 ?_ (fun _ => ?_) | refine b39 ?_ ?_ | refine b48 (fun _ => ?_) | intro _ | split
noncomputable def G2y (x_28 : Int) (b_7_0_1 : List Int) (b_7_3_1 : List (List Int)) : Option (Out ((List Int) × (List (List Int)) × Int) (((List Int) × (List (List Int))))) :=
 some (.nx (b_7_0_1, b_7_3_1, wr (x_28 + 1)))
theorem G5q (x_28 : Int) (b_7_0_1 : List Int) (b_7_3_1 : List (List Int)) : Le (G2y x_28 b_7_0_1 b_7_3_1) (E83 x_28 b_7_0_1 b_7_3_1) := by
 unfold G2y E83
 repeat' first | with_reducible exact le_refl _ | refine b37 ?_ (fun _ => ?_) | refine b39 ?_ ?_ | refine b48 (fun _ => ?_) | intro _ | split
noncomputable def G2z (open_ : List (List Int)) (x_19 : Int) (b_7_0 : List Int) (b_7_3 : List (List Int)) (x_28 : Int) (row_9 : List Int) : Option (Out ((List Int) × (List (List Int)) × Int) (((List Int) × (List (List Int))))) :=
 (ap 24 b_7_3 ([row_9])).bind fun l57 =>
 (get b_7_0 x_28).bind fun x62 =>
 (get open_ x_19).bind fun x63 =>
 (get x63 x_28).bind fun x64 =>
 (ap 8 b_7_0 ([wr (x62 + x64)])).bind fun l65 =>
 G2y x_28 l65 l57
theorem G5r (open_ : List (List Int)) (x_19 : Int) (b_7_0 : List Int) (b_7_3 : List (List Int)) (x_28 : Int) (row_9 : List Int) : Le (G2z open_ x_19 b_7_0 b_7_3 x_28 row_9) (E84 open_ x_19 b_7_0 b_7_3 x_28 row_9) := by
 unfold G2z E84
 repeat' first | with_reducible exact le_refl _ | with_reducible apply G5q | rw [G5q] | refine b37 ?_ (fun _ => ?_) | refine b39 ?_ ?_ | refine b48 (fun _ => ?_) | intro _ | split
noncomputable def G2q (h_ : Hall) (open_ : List (List Int)) (all_5 : List halls_bound) (x_19 : Int) : ((List Int) × (List (List Int)) × Int) -> Option (Out ((List Int) × (List (List Int)) × Int) (((List Int) × (List (List Int)))))
 | (b_7_0, b_7_3, x_28) =>
  if decide (x_28 < h_.Until) then
   (mks 8 h_.Until 0).bind fun l53 =>
   (x22 (G2p h_ all_5 x_19 x_28) (l53, x_28)).bind fun row_9 =>
   G2z open_ x_19 b_7_0 b_7_3 x_28 row_9
  else
   some (.br (b_7_0, b_7_3))
theorem G5i (h_ : Hall) (open_ : List (List Int)) (all_5 : List halls_bound) (x_19 : Int) : ∀ s_0, Le (G2q h_ open_ all_5 x_19 s_0) (E7x h_ open_ all_5 x_19 s_0) := by
 intro s_0
 unfold G2q E7x
 repeat' first | with_reducible exact le_refl _ | with_reducible apply G5h | rw [G5h] | with_reducible apply G5r | rw [G5r] | refine b37 ?_ (fun _ => ?_) | refine b39 ?_ ?_ | refine b48 (fun _ => ?_) | intro _ | split
noncomputable def G2r (b_7_0 : List Int) (b_7_3 : List (List Int)) (x_122 : Int) : (Int × Int) -> Option (Out (Int × Int) Int)
 | (most_14, x_127) =>
  if decide (x_127 < (wr (x_122 + 1))) then
   (get b_7_3 x_127).bind fun x40 =>
   (get x40 x_122).bind fun x42 =>
   (get b_7_0 x_122).bind fun x43 =>
   (get b_7_0 x_127).bind fun x44 =>
   some (.nx (mx most_14 (wr (x42 - (wr (x43 - x44)))), wr (x_127 + 1)))
  else
   some (.br most_14)
theorem G5j (b_7_0 : List Int) (b_7_3 : List (List Int)) (x_122 : Int) : ∀ s_0, Le (G2r b_7_0 b_7_3 x_122 s_0) (E7y b_7_0 b_7_3 x_122 s_0) := by
 intro s_0
 unfold G2r E7y
 repeat' first | with_reducible exact le_refl _ | refine b37 ?_ (fun _ => ?_) | refine b39 ?_ ?_ | refine b48 (fun _ => ?_) | intro _ | split
noncomputable def G2v (x_122 : Int) (b_7_1_1 : List Int) (b_7_2_1 : List Int) : Option (Out ((List Int) × (List Int) × Int) (((List Int) × (List Int)))) :=
 some (.nx (b_7_1_1, b_7_2_1, wr (x_122 + 1)))
theorem G5n (x_122 : Int) (b_7_1_1 : List Int) (b_7_2_1 : List Int) : Le (G2v x_122 b_7_1_1 b_7_2_1) (E81 x_122 b_7_1_1 b_7_2_1) := by
 unfold G2v E81
 repeat' first | with_reducible exact le_refl _ | refine b37 ?_ (fun _ => ?_) | refine b39 ?_ ?_ | refine b48 (fun _ => ?_) | intro _ | split
noncomputable def G2w (open_ : List (List Int)) (x_19 : Int) (b_7_1 : List Int) (b_7_2 : List Int) (x_122 : Int) (most_14 : Int) : Option (Out ((List Int) × (List Int) × Int) (((List Int) × (List Int)))) :=
 (ap 8 b_7_2 ([most_14])).bind fun l22 =>
 (get b_7_1 x_122).bind fun x27 =>
 (get open_ x_19).bind fun x28 =>
 (get x28 x_122).bind fun x29 =>
 (ap 8 b_7_1 ([wr (x27 + (mn most_14 x29))])).bind fun l30 =>
 G2v x_122 l30 l22
theorem G5o (open_ : List (List Int)) (x_19 : Int) (b_7_1 : List Int) (b_7_2 : List Int) (x_122 : Int) (most_14 : Int) : Le (G2w open_ x_19 b_7_1 b_7_2 x_122 most_14) (E82 open_ x_19 b_7_1 b_7_2 x_122 most_14) := by
 unfold G2w E82
 repeat' first | with_reducible exact le_refl _ | with_reducible apply G5n | rw [G5n] | refine b37 ?_ (fun _ => ?_) | refine b39 ?_ ?_ | refine b48 (fun _ => ?_) | intro _ | split
noncomputable def G2s (h_ : Hall) (open_ : List (List Int)) (x_19 : Int) (b_7_0 : List Int) (b_7_3 : List (List Int)) : ((List Int) × (List Int) × Int) -> Option (Out ((List Int) × (List Int) × Int) (((List Int) × (List Int))))
 | (b_7_1, b_7_2, x_122) =>
  if decide (x_122 < h_.Until) then
   (x22 (G2r b_7_0 b_7_3 x_122) (0, 0)).bind fun most_14 =>
   G2w open_ x_19 b_7_1 b_7_2 x_122 most_14
  else
   some (.br (b_7_1, b_7_2))
theorem G5k (h_ : Hall) (open_ : List (List Int)) (x_19 : Int) (b_7_0 : List Int) (b_7_3 : List (List Int)) : ∀ s_0, Le (G2s h_ open_ x_19 b_7_0 b_7_3 s_0) (E7z h_ open_ x_19 b_7_0 b_7_3 s_0) := by
 intro s_0
 unfold G2s E7z
 repeat' first | with_reducible exact le_refl _ | with_reducible apply G5j | rw [G5j] | with_reducible apply G5o | rw [G5o] | refine b37 ?_ (fun _ => ?_) | refine b39 ?_ ?_ | refine b48 (fun _ => ?_) | intro _ | split
noncomputable def G21 (x_19 : Int) (all_5_1 : List halls_bound) : Option (Out ((List halls_bound) × Int) (((List halls_bound)))) :=
 some (.nx (all_5_1, wr (x_19 + 1)))
theorem G5t (x_19 : Int) (all_5_1 : List halls_bound) : Le (G21 x_19 all_5_1) (E85 x_19 all_5_1) := by
 unfold G21 E85
 repeat' first | with_reducible exact le_refl _ | refine b37 ?_ (fun _ => ?_) | refine b39 ?_ ?_ | refine b48 (fun _ => ?_) | intro _ | split
noncomputable def G2u (all_5 : List halls_bound) (x_19 : Int) (b_7_0 : List Int) (b_7_3 : List (List Int)) (b_7_1 : List Int) (b_7_2 : List Int) : Option (Out ((List halls_bound) × Int) (((List halls_bound)))) :=
 (ap 8 all_5 ([(halls_bound.mk b_7_0 b_7_1 b_7_2 b_7_3)])).bind fun l13 =>
 G21 x_19 l13
theorem G5m (all_5 : List halls_bound) (x_19 : Int) (b_7_0 : List Int) (b_7_3 : List (List Int)) (b_7_1 : List Int) (b_7_2 : List Int) : Le (G2u all_5 x_19 b_7_0 b_7_3 b_7_1 b_7_2) (E80 all_5 x_19 b_7_0 b_7_3 b_7_1 b_7_2) := by
 unfold G2u E80
 repeat' first | with_reducible exact le_refl _ | with_reducible apply G5t | rw [G5t] | refine b37 ?_ (fun _ => ?_) | refine b39 ?_ ?_ | refine b48 (fun _ => ?_) | intro _ | split
noncomputable def G22 (h_ : Hall) (open_ : List (List Int)) (all_5 : List halls_bound) (x_19 : Int) (b_7_0 : List Int) (b_7_3 : List (List Int)) : Option (Out ((List halls_bound) × Int) (((List halls_bound)))) :=
 (x22 (G2s h_ open_ x_19 b_7_0 b_7_3) ([0], [], 0)).bind fun
  | (b_7_1, b_7_2) => G2u all_5 x_19 b_7_0 b_7_3 b_7_1 b_7_2
theorem G5v (h_ : Hall) (open_ : List (List Int)) (all_5 : List halls_bound) (x_19 : Int) (b_7_0 : List Int) (b_7_3 : List (List Int)) : Le (G22 h_ open_ all_5 x_19 b_7_0 b_7_3) (E87 h_ open_ all_5 x_19 b_7_0 b_7_3) := by
 unfold G22 E87
 repeat' first | with_reducible exact le_refl _ | with_reducible apply G5k | rw [G5k] | with_reducible apply G5m | rw [G5m] | refine b37 ?_ (fun _ => ?_) | refine b39 ?_ ?_ | refine b48 (fun _ => ?_) | intro _ | split
noncomputable def G2t (h_ : Hall) (open_ : List (List Int)) : ((List halls_bound) × Int) -> Option (Out ((List halls_bound) × Int) (((List halls_bound))))
 | (all_5, x_19) =>
  if decide (x_19 < (List.length h_.Combs : Int)) then
   (x22 (G2q h_ open_ all_5 x_19) ([0], [], 0)).bind fun
    | (b_7_0, b_7_3) => G22 h_ open_ all_5 x_19 b_7_0 b_7_3
  else
   some (.br all_5)
theorem G5l (h_ : Hall) (open_ : List (List Int)) : ∀ s_0, Le (G2t h_ open_ s_0) (E8c h_ open_ s_0) := by
 intro s_0
 unfold G2t E8c
 repeat' first | with_reducible exact le_refl _ | with_reducible apply G5i | rw [G5i] | with_reducible apply G5v | rw [G5v] | refine b37 ?_ (fun _ => ?_) | refine b39 ?_ ?_ | refine b48 (fun _ => ?_) | intro _ | split
noncomputable def G2x (all_5 : List halls_bound) : Option (List halls_bound) :=
 some all_5
theorem G5p (all_5 : List halls_bound) : Le (G2x all_5) (E9z all_5) := by
 unfold G2x E9z
 repeat' first | with_reducible exact le_refl _ | refine b37 ?_ (fun _ => ?_) | refine b39 ?_ ?_ | refine b48 (fun _ => ?_) | intro _ | split
noncomputable def G0x (h_ : Hall) (open_ : List (List Int)) : Option (List halls_bound) :=
 (x22 (G2t h_ open_) ([], 0)).bind fun all_5 =>
 G2x all_5
theorem G0z (h_ : Hall) (open_ : List (List Int)) : Le (G0x h_ open_) (E7b h_ open_) := by
 unfold G0x E7b
 repeat' first | with_reducible exact le_refl _ | with_reducible apply G5l | rw [G5l] | with_reducible apply G5p | rw [G5p] | refine b37 ?_ (fun _ => ?_) | refine b39 ?_ ?_ | refine b48 (fun _ => ?_) | intro _ | split
noncomputable def G3f (n : Int) (c0 : Hall) (c1 : Int) : Option Bool :=
 (get c0.Combs c1).bind fun x2 =>
 some (decide (x2.Limit < n))
theorem G6a (n : Int) (c0 : Hall) (c1 : Int) : Le (G3f n c0 c1) (E9a n c0 c1) := by
 unfold G3f E9a
 repeat' first | with_reducible exact le_refl _ | refine b37 ?_ (fun _ => ?_) | refine b39 ?_ ?_ | refine b48 (fun _ => ?_) | intro _ | split
noncomputable def G07 (x_10 : Int) (out_4_1 : List (Int × Int)) : Option (Out ((List (Int × Int)) × Int) (((List (Int × Int))))) :=
 some (.nx (out_4_1, wr (x_10 + 1)))
theorem G6d (x_10 : Int) (out_4_1 : List (Int × Int)) : Le (G07 x_10 out_4_1) (E9b x_10 out_4_1) := by
 unfold G07 E9b
 repeat' first | with_reducible exact le_refl _ | refine b37 ?_ (fun _ => ?_) | refine b39 ?_ ?_ | refine b48 (fun _ => ?_) | intro _ | split
noncomputable def G3g (h_ : Hall) (all : List halls_bound) : ((List (Int × Int)) × Int) -> Option (Out ((List (Int × Int)) × Int) (((List (Int × Int)))))
 | (out_4, x_10) =>
  if decide (x_10 < (List.length all : Int)) then
   (get all x_10).bind fun x9 =>
   (G1n x9.most (fun z12 => G3f z12 h_ x_10)).bind fun y13 =>
   if decide (0 <= y13) then
    (ap 16 out_4 ([(x_10, y13)])).bind fun l16 =>
    G07 x_10 l16
   else
    G07 x_10 out_4
  else
   some (.br out_4)
theorem G6b (h_ : Hall) (all : List halls_bound) : ∀ s_0, Le (G3g h_ all s_0) (G05 h_ all s_0) := by
 intro s_0
 unfold G3g G05
 repeat' first | with_reducible exact le_refl _ | with_reducible apply G1o | rw [G1o] | with_reducible apply G6a | rw [G6a] | with_reducible apply G6d | rw [G6d] | refine b37 ?_ (fun _ => ?_) | refine b39 ?_ ?_ | refine b48 (fun _ => ?_) | intro _ | split
noncomputable def G3h (out_4 : List (Int × Int)) : Option (List (Int × Int)) :=
 some out_4
theorem G6c (out_4 : List (Int × Int)) : Le (G3h out_4) (E93 out_4) := by
 unfold G3h E93
 repeat' first | with_reducible exact le_refl _ | refine b37 ?_ (fun _ => ?_) | refine b39 ?_ ?_ | refine b48 (fun _ => ?_) | intro _ | split
noncomputable def G06 (h_ : Hall) (all : List halls_bound) : Option (List (Int × Int)) :=
 (x22 (G3g h_ all) ([], 0)).bind fun out_4 =>
 G3h out_4
theorem G08 (h_ : Hall) (all : List halls_bound) : Le (G06 h_ all) (E89 h_ all) := by
 unfold G06 E89
 repeat' first | with_reducible exact le_refl _ | with_reducible apply G6b | rw [G6b] | with_reducible apply G6c | rw [G6c] | refine b37 ?_ (fun _ => ?_) | refine b39 ?_ ?_ | refine b48 (fun _ => ?_) | intro _ | split
noncomputable def G2l (h_ : Hall) (comb : Int) (from_ : Int) : ((List (List Int)) × Int) -> Option (Out ((List (List Int)) × Int) (((Int × Int))))
 | (all_9, n_10) =>
  (G0x h_ all_9).bind fun y11 =>
  (G06 h_ y11).bind fun y12 =>
  if decide ((List.length y12 : Int) = 0) then
   some (.br (n_10, 0))
  else
   if decide ((wr (from_ + n_10)) = h_.Until) then
    some (.br (0, 3))
   else
    (get all_9 comb).bind fun x19 =>
    (get x19 (wr (from_ + n_10))).bind fun x20 =>
    some (.nx ((List.set all_9 (Int.toNat comb) (List.set x19 (Int.toNat (wr (from_ + n_10))) 0)), wr (n_10 + 1)))
theorem G5d (h_ : Hall) (comb : Int) (from_ : Int) : ∀ s_0, Le (G2l h_ comb from_ s_0) (G0w h_ comb from_ s_0) := by
 intro s_0
 unfold G2l G0w
 repeat' first | with_reducible exact le_refl _ | with_reducible apply G0z | rw [G0z] | with_reducible apply G08 | rw [G08] | refine b37 ?_ (fun _ => ?_) | refine b39 ?_ ?_ | refine b48 (fun _ => ?_) | intro _ | split
noncomputable def G2m (h_ : Hall) (comb : Int) (from_ : Int) : Option (Int × Int) :=
 (G28 h_ comb ([from_])).bind fun y2 =>
 if decide (¬y2 = 0) then
  some (0, y2)
 else
  (G03 h_).bind fun y6 =>
  (x22 (G2l h_ comb from_) (y6, 0)).bind fun r' =>
  some r'
theorem G5e (h_ : Hall) (comb : Int) (from_ : Int) : Le (G2m h_ comb from_) (E9x h_ comb from_) := by
 unfold G2m E9x
 repeat' first | with_reducible exact le_refl _ | with_reducible apply G53 | rw [G53] | with_reducible apply G04 | rw [G04] | with_reducible apply G5d | rw [G5d] | refine b37 ?_ (fun _ => ?_) | refine b39 ?_ ?_ | refine b48 (fun _ => ?_) | intro _ | split
noncomputable def G1d : Hall :=
 (Hall.mk ([(Comb.mk 3 12 1 (Span.mk 2 3)), (Comb.mk 2 10 (-1) (Span.mk 1 1))]) ([(Train.mk (Span.mk 2 4) ([(Crowd.mk 0 (Span.mk 6 10))])), (Train.mk (Span.mk 5 5) ([(Crowd.mk 0 (Span.mk 0 4)), (Crowd.mk 1 (Span.mk 3 3))]))]) ([]) 20)
theorem G6o : G1d = l06_Example := by unfold G1d l06_Example; rfl
noncomputable def G2n (h_ : Hall) : Option ((List (Int × Int)) × Int) :=
 (G0u h_).bind fun y2 =>
 if decide (¬y2 = 0) then
  some ([], y2)
 else
  (G03 h_).bind fun y8 =>
  (G0x h_ y8).bind fun y9 =>
  (G06 h_ y9).bind fun y10 =>
  some (y10, 0)
theorem G5f (h_ : Hall) : Le (G2n h_) (E9y h_) := by
 unfold G2n E9y
 repeat' first | with_reducible exact le_refl _ | with_reducible apply G0v | rw [G0v] | with_reducible apply G04 | rw [G04] | with_reducible apply G0z | rw [G0z] | with_reducible apply G08 | rw [G08] | refine b37 ?_ (fun _ => ?_) | refine b39 ?_ ?_ | refine b48 (fun _ => ?_) | intro _ | split
noncomputable def G6p : Option Bool :=
 (G2m G1d 0 5).bind fun y2 =>
 (G2n G1d).bind fun y4 =>
 (if (((decide (y2.2 = 0)) && (decide (y4.2 = 0))) && (decide (y2.1 = 1))) && (decide ((List.length y4.1 : Int) = 1)) then (get y4.1 0).bind fun x7 =>
 some (decide (x7.1 = 1) && decide (x7.2 = 7)) else some false).bind fun c8 =>
 some c8
theorem H0i  : Le (G6p ) (E74 ) := by
 unfold G6p E74
 repeat' first | with_reducible exact le_refl _ | with_reducible apply G5e | rw [G5e] | with_reducible apply G6o | rw [G6o] | with_reducible apply G5f | rw [G5f] | refine b37 ?_ (fun _ => ?_) | refine b39 ?_ ?_ | refine b48 (fun _ => ?_) | intro _ | split
end Go.Nw.HM
