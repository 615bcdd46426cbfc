/- Twins of the models, which the kernel evaluates. -/
import Derived.Test.YteoedeeljnboeaaNwTwin
import Derived.Test.YteoedeeljnboeaaHM
set_option linter.all false
set_option linter.unusedVariables false
set_option linter.unusedSimpArgs false
set_option linter.unusedSectionVars false
namespace Go.Nw.HM
set_option linter.unusedVariables false
noncomputable def halls_in_e (n : Int) (s : Span) : Bool :=
  (decide (s.Low ≤ n)) && (decide (n ≤ s.High))
theorem halls_in_le (n : Int) (s : Span) : halls_in_e n s = halls_in n s := by unfold halls_in_e halls_in; rfl
noncomputable def halls_span_e (s : Span) (low : Int) (high : Int) : Bool :=
  ((decide (low ≤ s.Low)) && (decide (s.Low ≤ s.High))) && (decide (s.High ≤ high))
theorem halls_span_le (s : Span) (low : Int) (high : Int) : halls_span_e s low high = halls_span s low high := by unfold halls_span_e halls_span; rfl
noncomputable def halls_isComb_e (h_ : Hall) (i : Int) : Option Bool :=
  (get h_.Combs i).bind fun x2 =>
  some ((((halls_in_e x2.Rate (Span.mk 0 1000)) && (halls_in_e x2.Limit (Span.mk 0 100000))) && ((decide (x2.Next = (-1))) || ((decide (i < x2.Next)) && (decide (x2.Next < (List.length h_.Combs : Int)))))) && (halls_span_e x2.Walk 1 20))
theorem halls_isComb_le (h_ : Hall) (i : Int) : Le (halls_isComb_e h_ i) (halls_isComb h_ i) := by
  unfold halls_isComb_e halls_isComb
  repeat' first | with_reducible exact le_refl _ | with_reducible apply halls_in_le | rw [halls_in_le] | with_reducible apply halls_span_le | rw [halls_span_le] | refine le_bind ?_ (fun _ => ?_) | refine le_ite ?_ ?_ | refine le_loop (fun _ => ?_) | intro _ | split
noncomputable def halls_Check_L9_e (h_ : Hall) : Int → Option (Out Int (Unit ⊕ Int))
  | x_41 =>
    if decide (x_41 < (List.length h_.Combs : Int)) then
      (halls_isComb_e h_ x_41).bind fun y45 =>
      if !y45 then
        some (.br (.inr 60))
      else
        some (.nx (wr (x_41 + 1)))
    else
      some (.br (.inl ()))
theorem halls_Check_L9_le (h_ : Hall) : ∀ s_0, Le (halls_Check_L9_e h_ s_0) (halls_Check_L9 h_ s_0) := by
  intro s_0
  unfold halls_Check_L9_e halls_Check_L9
  repeat' first | with_reducible exact le_refl _ | with_reducible apply halls_isComb_le | rw [halls_isComb_le] | refine le_bind ?_ (fun _ => ?_) | refine le_ite ?_ ?_ | refine le_loop (fun _ => ?_) | intro _ | split
noncomputable def slices_IndexFunc___api_Train_api_Train__L7_e (s : List Train) (f : Train → Option Bool) : Int → Option (Out Int (Unit ⊕ Int))
  | x_8 =>
    if decide (x_8 < (List.length s : Int)) then
      (get s x_8).bind fun x9 =>
      (f x9).bind fun y10 =>
      if y10 then
        some (.br (.inr x_8))
      else
        some (.nx (wr (x_8 + 1)))
    else
      some (.br (.inl ()))
theorem slices_IndexFunc___api_Train_api_Train__L7_le (s : List Train) (f f' : Train → Option Bool) (hf : ∀ x0, Le (f x0) (f' x0)) : ∀ s_0, Le (slices_IndexFunc___api_Train_api_Train__L7_e s f s_0) (slices_IndexFunc___api_Train_api_Train__L7 s f' s_0) := by
  intro s_0
  unfold slices_IndexFunc___api_Train_api_Train__L7_e slices_IndexFunc___api_Train_api_Train__L7
  repeat' first | with_reducible exact le_refl _ | apply hf | refine le_bind ?_ (fun _ => ?_) | refine le_ite ?_ ?_ | refine le_loop (fun _ => ?_) | intro _ | split
noncomputable def slices_IndexFunc___api_Train_api_Train__j2_e : Option Int :=
  some (-1)
theorem slices_IndexFunc___api_Train_api_Train__j2_le  : Le (slices_IndexFunc___api_Train_api_Train__j2_e ) (slices_IndexFunc___api_Train_api_Train__j2 ) := by
  unfold slices_IndexFunc___api_Train_api_Train__j2_e slices_IndexFunc___api_Train_api_Train__j2
  repeat' first | with_reducible exact le_refl _ | refine le_bind ?_ (fun _ => ?_) | refine le_ite ?_ ?_ | refine le_loop (fun _ => ?_) | intro _ | split
noncomputable def slices_IndexFunc___api_Train_api_Train__e (s : List Train) (f : Train → Option Bool) : Option Int :=
  (loopE (slices_IndexFunc___api_Train_api_Train__L7_e s f) (0)).bind fun
    | (.inl ()) => slices_IndexFunc___api_Train_api_Train__j2_e
    | (.inr r') => some r'
theorem slices_IndexFunc___api_Train_api_Train__le (s : List Train) (f f' : Train → Option Bool) (hf : ∀ x0, Le (f x0) (f' x0)) : Le (slices_IndexFunc___api_Train_api_Train__e s f) (slices_IndexFunc___api_Train_api_Train_ s f') := by
  unfold slices_IndexFunc___api_Train_api_Train__e slices_IndexFunc___api_Train_api_Train_
  repeat' first | with_reducible exact le_refl _ | with_reducible apply slices_IndexFunc___api_Train_api_Train__L7_le | rw [slices_IndexFunc___api_Train_api_Train__L7_le] | with_reducible apply slices_IndexFunc___api_Train_api_Train__j2_le | rw [slices_IndexFunc___api_Train_api_Train__j2_le] | apply hf | refine le_bind ?_ (fun _ => ?_) | refine le_ite ?_ ?_ | refine le_loop (fun _ => ?_) | intro _ | split
noncomputable def slices_ContainsFunc___api_Train_api_Train__e (s : List Train) (f : Train → Option Bool) : Option Bool :=
  (slices_IndexFunc___api_Train_api_Train__e s f).bind fun y2 =>
  some (decide (0 ≤ y2))
theorem slices_ContainsFunc___api_Train_api_Train__le (s : List Train) (f f' : Train → Option Bool) (hf : ∀ x0, Le (f x0) (f' x0)) : Le (slices_ContainsFunc___api_Train_api_Train__e s f) (slices_ContainsFunc___api_Train_api_Train_ s f') := by
  unfold slices_ContainsFunc___api_Train_api_Train__e slices_ContainsFunc___api_Train_api_Train_
  repeat' first | with_reducible exact le_refl _ | with_reducible apply slices_IndexFunc___api_Train_api_Train__le | rw [slices_IndexFunc___api_Train_api_Train__le] | apply hf | refine le_bind ?_ (fun _ => ?_) | refine le_ite ?_ ?_ | refine le_loop (fun _ => ?_) | intro _ | split
noncomputable def halls_isTrain_L9_e (h_ : Hall) (t_ : Train) : (Int × Int) → Option (Out (Int × Int) (Unit ⊕ Bool))
  | (last_5, x_11) =>
    if decide (x_11 < (List.length t_.Crowds : Int)) then
      (get t_.Crowds x_11).bind fun x9 =>
      if ((decide (x9.Comb ≤ last_5)) || (decide ((List.length h_.Combs : Int) ≤ x9.Comb))) || (!(halls_span_e x9.People 0 1000)) then
        some (.br (.inr false))
      else
        some (.nx (x9.Comb, wr (x_11 + 1)))
    else
      some (.br (.inl ()))
theorem halls_isTrain_L9_le (h_ : Hall) (t_ : Train) : ∀ s_0, Le (halls_isTrain_L9_e h_ t_ s_0) (halls_isTrain_L9 h_ t_ s_0) := by
  intro s_0
  unfold halls_isTrain_L9_e halls_isTrain_L9
  repeat' first | with_reducible exact le_refl _ | with_reducible apply halls_span_le | rw [halls_span_le] | refine le_bind ?_ (fun _ => ?_) | refine le_ite ?_ ?_ | refine le_loop (fun _ => ?_) | intro _ | split
noncomputable def halls_isTrain_j2_e (h_ : Hall) (t_ : Train) : Option Bool :=
  some ((halls_span_e t_.At 0 (wr (h_.Until - 1))) && (decide ((List.length t_.Crowds : Int) ≤ 4)))
theorem halls_isTrain_j2_le (h_ : Hall) (t_ : Train) : Le (halls_isTrain_j2_e h_ t_) (halls_isTrain_j2 h_ t_) := by
  unfold halls_isTrain_j2_e halls_isTrain_j2
  repeat' first | with_reducible exact le_refl _ | with_reducible apply halls_span_le | rw [halls_span_le] | refine le_bind ?_ (fun _ => ?_) | refine le_ite ?_ ?_ | refine le_loop (fun _ => ?_) | intro _ | split
noncomputable def halls_isTrain_e (h_ : Hall) (t_ : Train) : Option Bool :=
  (loopE (halls_isTrain_L9_e h_ t_) ((-1), 0)).bind fun
    | (.inl ()) => halls_isTrain_j2_e h_ t_
    | (.inr r') => some r'
theorem halls_isTrain_le (h_ : Hall) (t_ : Train) : Le (halls_isTrain_e h_ t_) (halls_isTrain h_ t_) := by
  unfold halls_isTrain_e halls_isTrain
  repeat' first | with_reducible exact le_refl _ | with_reducible apply halls_isTrain_L9_le | rw [halls_isTrain_L9_le] | with_reducible apply halls_isTrain_j2_le | rw [halls_isTrain_j2_le] | refine le_bind ?_ (fun _ => ?_) | refine le_ite ?_ ?_ | refine le_loop (fun _ => ?_) | intro _ | split
noncomputable def halls_CheckD1_e (t_ : Train) (c0 : Hall) : Option Bool :=
  (halls_isTrain_e c0 t_).bind fun y2 =>
  some (!y2)
theorem halls_CheckD1_le (t_ : Train) (c0 : Hall) : Le (halls_CheckD1_e t_ c0) (halls_CheckD1 t_ c0) := by
  unfold halls_CheckD1_e halls_CheckD1
  repeat' first | with_reducible exact le_refl _ | with_reducible apply halls_isTrain_le | rw [halls_isTrain_le] | refine le_bind ?_ (fun _ => ?_) | refine le_ite ?_ ?_ | refine le_loop (fun _ => ?_) | intro _ | split
noncomputable def halls_Check_L18_e (h_ : Hall) : Int → Option (Out Int (Unit ⊕ Int))
  | x_56 =>
    if decide (x_56 < (List.length h_.Shifts : Int)) then
      (get h_.Shifts x_56).bind fun x23 =>
      (if (decide (x23.At < 0)) || (decide (h_.Until ≤ x23.At)) then some true else (if decide (0 < x_56) then (get h_.Shifts (wr (x_56 - 1))).bind fun x27 =>
      some (decide (x23.At < x27.At)) else some false).bind fun c28 =>
      some c28).bind fun c29 =>
      if ((c29 || (decide (x23.Comb < 0))) || (decide ((List.length h_.Combs : Int) ≤ x23.Comb))) || (!(halls_in_e x23.Rate (Span.mk 0 1000))) then
        some (.br (.inr 60))
      else
        some (.nx (wr (x_56 + 1)))
    else
      some (.br (.inl ()))
theorem halls_Check_L18_le (h_ : Hall) : ∀ s_0, Le (halls_Check_L18_e h_ s_0) (halls_Check_L18 h_ s_0) := by
  intro s_0
  unfold halls_Check_L18_e halls_Check_L18
  repeat' first | with_reducible exact le_refl _ | with_reducible apply halls_in_le | rw [halls_in_le] | refine le_bind ?_ (fun _ => ?_) | refine le_ite ?_ ?_ | refine le_loop (fun _ => ?_) | intro _ | split
noncomputable def halls_Check_j17_e : Option Int :=
  some 0
theorem halls_Check_j17_le  : Le (halls_Check_j17_e ) (halls_Check_j17 ) := by
  unfold halls_Check_j17_e halls_Check_j17
  repeat' first | with_reducible exact le_refl _ | refine le_bind ?_ (fun _ => ?_) | refine le_ite ?_ ?_ | refine le_loop (fun _ => ?_) | intro _ | split
noncomputable def halls_Check_j9_e (h_ : Hall) : Option Int :=
  (slices_ContainsFunc___api_Train_api_Train__e h_.Trains (fun z12 => halls_CheckD1_e z12 h_)).bind fun y13 =>
  if y13 then
    some 60
  else
    (loopE (halls_Check_L18_e h_) (0)).bind fun
      | (.inl ()) => halls_Check_j17_e
      | (.inr r') => some r'
theorem halls_Check_j9_le (h_ : Hall) : Le (halls_Check_j9_e h_) (halls_Check_j9 h_) := by
  unfold halls_Check_j9_e halls_Check_j9
  repeat' first | with_reducible exact le_refl _ | with_reducible apply slices_ContainsFunc___api_Train_api_Train__le | rw [slices_ContainsFunc___api_Train_api_Train__le] | with_reducible apply halls_CheckD1_le | rw [halls_CheckD1_le] | with_reducible apply halls_Check_L18_le | rw [halls_Check_L18_le] | with_reducible apply halls_Check_j17_le | rw [halls_Check_j17_le] | refine le_bind ?_ (fun _ => ?_) | refine le_ite ?_ ?_ | refine le_loop (fun _ => ?_) | intro _ | split
noncomputable def halls_Check_e (h_ : Hall) : Option Int :=
  if (((((decide (h_.Until < 1)) || (decide (100 < h_.Until))) || (decide ((List.length h_.Combs : Int) < 1))) || (decide (8 < (List.length h_.Combs : Int)))) || (decide (12 < (List.length h_.Trains : Int)))) || (decide (20 < (List.length h_.Shifts : Int))) then
    some 60
  else
    (loopE (halls_Check_L9_e h_) (0)).bind fun
      | (.inl ()) => halls_Check_j9_e h_
      | (.inr r') => some r'
theorem halls_Check_le (h_ : Hall) : Le (halls_Check_e h_) (halls_Check h_) := by
  unfold halls_Check_e halls_Check
  repeat' first | with_reducible exact le_refl _ | with_reducible apply halls_Check_L9_le | rw [halls_Check_L9_le] | with_reducible apply halls_Check_j9_le | rw [halls_Check_j9_le] | refine le_bind ?_ (fun _ => ?_) | refine le_ite ?_ ?_ | refine le_loop (fun _ => ?_) | intro _ | split
noncomputable def slices_IndexFunc___int_int__L7_e (s : List Int) (f : Int → Option Bool) : Int → Option (Out Int (Unit ⊕ Int))
  | x_8 =>
    if decide (x_8 < (List.length s : Int)) then
      (get s x_8).bind fun x9 =>
      (f x9).bind fun y10 =>
      if y10 then
        some (.br (.inr x_8))
      else
        some (.nx (wr (x_8 + 1)))
    else
      some (.br (.inl ()))
theorem slices_IndexFunc___int_int__L7_le (s : List Int) (f f' : Int → Option Bool) (hf : ∀ x0, Le (f x0) (f' x0)) : ∀ s_0, Le (slices_IndexFunc___int_int__L7_e s f s_0) (slices_IndexFunc___int_int__L7 s f' s_0) := by
  intro s_0
  unfold slices_IndexFunc___int_int__L7_e slices_IndexFunc___int_int__L7
  repeat' first | with_reducible exact le_refl _ | apply hf | refine le_bind ?_ (fun _ => ?_) | refine le_ite ?_ ?_ | refine le_loop (fun _ => ?_) | intro _ | split
noncomputable def slices_IndexFunc___int_int__j2_e : Option Int :=
  some (-1)
theorem slices_IndexFunc___int_int__j2_le  : Le (slices_IndexFunc___int_int__j2_e ) (slices_IndexFunc___int_int__j2 ) := by
  unfold slices_IndexFunc___int_int__j2_e slices_IndexFunc___int_int__j2
  repeat' first | with_reducible exact le_refl _ | refine le_bind ?_ (fun _ => ?_) | refine le_ite ?_ ?_ | refine le_loop (fun _ => ?_) | intro _ | split
noncomputable def slices_IndexFunc___int_int__e (s : List Int) (f : Int → Option Bool) : Option Int :=
  (loopE (slices_IndexFunc___int_int__L7_e s f) (0)).bind fun
    | (.inl ()) => slices_IndexFunc___int_int__j2_e
    | (.inr r') => some r'
theorem slices_IndexFunc___int_int__le (s : List Int) (f f' : Int → Option Bool) (hf : ∀ x0, Le (f x0) (f' x0)) : Le (slices_IndexFunc___int_int__e s f) (slices_IndexFunc___int_int_ s f') := by
  unfold slices_IndexFunc___int_int__e slices_IndexFunc___int_int_
  repeat' first | with_reducible exact le_refl _ | with_reducible apply slices_IndexFunc___int_int__L7_le | rw [slices_IndexFunc___int_int__L7_le] | with_reducible apply slices_IndexFunc___int_int__j2_le | rw [slices_IndexFunc___int_int__j2_le] | apply hf | refine le_bind ?_ (fun _ => ?_) | refine le_ite ?_ ?_ | refine le_loop (fun _ => ?_) | intro _ | split
noncomputable def slices_ContainsFunc___int_int__e (s : List Int) (f : Int → Option Bool) : Option Bool :=
  (slices_IndexFunc___int_int__e s f).bind fun y2 =>
  some (decide (0 ≤ y2))
theorem slices_ContainsFunc___int_int__le (s : List Int) (f f' : Int → Option Bool) (hf : ∀ x0, Le (f x0) (f' x0)) : Le (slices_ContainsFunc___int_int__e s f) (slices_ContainsFunc___int_int_ s f') := by
  unfold slices_ContainsFunc___int_int__e slices_ContainsFunc___int_int_
  repeat' first | with_reducible exact le_refl _ | with_reducible apply slices_IndexFunc___int_int__le | rw [slices_IndexFunc___int_int__le] | apply hf | refine le_bind ?_ (fun _ => ?_) | refine le_ite ?_ ?_ | refine le_loop (fun _ => ?_) | intro _ | split
noncomputable def halls_checkD1_e (t_ : Int) (c0 : Hall) : Bool :=
  (decide (t_ < 0)) || (decide (c0.Until ≤ t_))
theorem halls_checkD1_le (t_ : Int) (c0 : Hall) : halls_checkD1_e t_ c0 = halls_checkD1 t_ c0 := by unfold halls_checkD1_e halls_checkD1; rfl
noncomputable def halls_check_e (h_ : Hall) (comb : Int) (ticks : List Int) : Option Int :=
  (halls_Check_e h_).bind fun y2 =>
  if decide (¬y2 = 0) then
    some y2
  else
    (if (decide (comb < 0)) || (decide ((List.length h_.Combs : Int) ≤ comb)) then some true else (slices_ContainsFunc___int_int__e ticks (fun z8 => some (halls_checkD1_e z8 h_))).bind fun y9 =>
    some y9).bind fun c10 =>
    if c10 then
      some 1
    else
      some 0
theorem halls_check_le (h_ : Hall) (comb : Int) (ticks : List Int) : Le (halls_check_e h_ comb ticks) (halls_check h_ comb ticks) := by
  unfold halls_check_e halls_check
  repeat' first | with_reducible exact le_refl _ | with_reducible apply halls_Check_le | rw [halls_Check_le] | with_reducible apply slices_ContainsFunc___int_int__le | rw [slices_ContainsFunc___int_int__le] | with_reducible apply halls_checkD1_le | rw [halls_checkD1_le] | refine le_bind ?_ (fun _ => ?_) | refine le_ite ?_ ?_ | refine le_loop (fun _ => ?_) | intro _ | split
noncomputable def halls_rates_j25_e (at_7_1 : Int) (now_6_2 : Int) : Option (Out (Int × Int) ((Int × Int))) :=
  some (.nx (now_6_2, wr (at_7_1 + 1)))
theorem halls_rates_j25_le (at_7_1 : Int) (now_6_2 : Int) : Le (halls_rates_j25_e at_7_1 now_6_2) (halls_rates_j25 at_7_1 now_6_2) := by
  unfold halls_rates_j25_e halls_rates_j25
  repeat' first | with_reducible exact le_refl _ | refine le_bind ?_ (fun _ => ?_) | refine le_ite ?_ ?_ | refine le_loop (fun _ => ?_) | intro _ | split
noncomputable def halls_rates_L10_e (h_ : Hall) (comb : Int) (x_20 : Int) : (Int × Int) → Option (Out (Int × Int) ((Int × Int)))
  | (now_6_1, at_7_1) =>
    (if decide (at_7_1 < (List.length h_.Shifts : Int)) then (get h_.Shifts at_7_1).bind fun x19 =>
    some (decide (x19.At ≤ x_20)) else some false).bind fun c20 =>
    if c20 then
      (get h_.Shifts at_7_1).bind fun x27 =>
      if decide (x27.Comb = comb) then
        halls_rates_j25_e at_7_1 x27.Rate
      else
        halls_rates_j25_e at_7_1 now_6_1
    else
      some (.br (now_6_1, at_7_1))
theorem halls_rates_L10_le (h_ : Hall) (comb : Int) (x_20 : Int) : ∀ s_0, Le (halls_rates_L10_e h_ comb x_20 s_0) (halls_rates_L10 h_ comb x_20 s_0) := by
  intro s_0
  unfold halls_rates_L10_e halls_rates_L10
  repeat' first | with_reducible exact le_refl _ | with_reducible apply halls_rates_j25_le | rw [halls_rates_j25_le] | refine le_bind ?_ (fun _ => ?_) | refine le_ite ?_ ?_ | refine le_loop (fun _ => ?_) | intro _ | split
noncomputable def halls_rates_j11_e (x_20 : Int) (out_5_1 : List Int) (now_6_1 : Int) (at_7_1 : Int) : Option (Out ((List Int) × Int × Int × Int) (((List Int)))) :=
  some (.nx (out_5_1, now_6_1, at_7_1, wr (x_20 + 1)))
theorem halls_rates_j11_le (x_20 : Int) (out_5_1 : List Int) (now_6_1 : Int) (at_7_1 : Int) : Le (halls_rates_j11_e x_20 out_5_1 now_6_1 at_7_1) (halls_rates_j11 x_20 out_5_1 now_6_1 at_7_1) := by
  unfold halls_rates_j11_e halls_rates_j11
  repeat' first | with_reducible exact le_refl _ | refine le_bind ?_ (fun _ => ?_) | refine le_ite ?_ ?_ | refine le_loop (fun _ => ?_) | intro _ | split
noncomputable def halls_rates_j13_e (out_5 : List Int) (x_20 : Int) (now_6_1 : Int) (at_7_1 : Int) : Option (Out ((List Int) × Int × Int × Int) (((List Int)))) :=
  (get out_5 x_20).bind fun x15 =>
  halls_rates_j11_e x_20 (List.set out_5 (Int.toNat x_20) now_6_1) now_6_1 at_7_1
theorem halls_rates_j13_le (out_5 : List Int) (x_20 : Int) (now_6_1 : Int) (at_7_1 : Int) : Le (halls_rates_j13_e out_5 x_20 now_6_1 at_7_1) (halls_rates_j13 out_5 x_20 now_6_1 at_7_1) := by
  unfold halls_rates_j13_e halls_rates_j13
  repeat' first | with_reducible exact le_refl _ | with_reducible apply halls_rates_j11_le | rw [halls_rates_j11_le] | refine le_bind ?_ (fun _ => ?_) | refine le_ite ?_ ?_ | refine le_loop (fun _ => ?_) | intro _ | split
noncomputable def halls_rates_L13_e (h_ : Hall) (comb : Int) (l2 : List Int) : ((List Int) × Int × Int × Int) → Option (Out ((List Int) × Int × Int × Int) (((List Int))))
  | (out_5, now_6, at_7, x_20) =>
    if decide (x_20 < ((List.length l2 : Nat) : Int)) then
      (loopE (halls_rates_L10_e h_ comb x_20) (now_6, at_7)).bind fun
        | (now_6_1, at_7_1) => halls_rates_j13_e out_5 x_20 now_6_1 at_7_1
    else
      some (.br out_5)
theorem halls_rates_L13_le (h_ : Hall) (comb : Int) (l2 : List Int) : ∀ s_0, Le (halls_rates_L13_e h_ comb l2 s_0) (halls_rates_L13 h_ comb l2 s_0) := by
  intro s_0
  unfold halls_rates_L13_e halls_rates_L13
  repeat' first | with_reducible exact le_refl _ | with_reducible apply halls_rates_L10_le | rw [halls_rates_L10_le] | with_reducible apply halls_rates_j13_le | rw [halls_rates_j13_le] | refine le_bind ?_ (fun _ => ?_) | refine le_ite ?_ ?_ | refine le_loop (fun _ => ?_) | intro _ | split
noncomputable def halls_rates_j6_e (out_5 : List Int) : Option (List Int) :=
  some out_5
theorem halls_rates_j6_le (out_5 : List Int) : Le (halls_rates_j6_e out_5) (halls_rates_j6 out_5) := by
  unfold halls_rates_j6_e halls_rates_j6
  repeat' first | with_reducible exact le_refl _ | refine le_bind ?_ (fun _ => ?_) | refine le_ite ?_ ?_ | refine le_loop (fun _ => ?_) | intro _ | split
noncomputable def halls_rates_e (h_ : Hall) (comb : Int) : Option (List Int) :=
  (mks 8 h_.Until 0).bind fun l2 =>
  (get h_.Combs comb).bind fun x4 =>
  (loopE (halls_rates_L13_e h_ comb l2) (l2, x4.Rate, 0, 0)).bind fun out_5 =>
  halls_rates_j6_e out_5
theorem halls_rates_le (h_ : Hall) (comb : Int) : Le (halls_rates_e h_ comb) (halls_rates h_ comb) := by
  unfold halls_rates_e halls_rates
  repeat' first | with_reducible exact le_refl _ | with_reducible apply halls_rates_L13_le | rw [halls_rates_L13_le] | with_reducible apply halls_rates_j6_le | rw [halls_rates_j6_le] | refine le_bind ?_ (fun _ => ?_) | refine le_ite ?_ ?_ | refine le_loop (fun _ => ?_) | intro _ | split
noncomputable def halls_open_L6_e (h_ : Hall) : ((List (List Int)) × Int) → Option (Out ((List (List Int)) × Int) (((List (List Int)))))
  | (out_2, x_7) =>
    if decide (x_7 < (List.length h_.Combs : Int)) then
      (halls_rates_e h_ x_7).bind fun y9 =>
      (ap 24 out_2 ([y9])).bind fun l10 =>
      some (.nx (l10, wr (x_7 + 1)))
    else
      some (.br out_2)
theorem halls_open_L6_le (h_ : Hall) : ∀ s_0, Le (halls_open_L6_e h_ s_0) (halls_open_L6 h_ s_0) := by
  intro s_0
  unfold halls_open_L6_e halls_open_L6
  repeat' first | with_reducible exact le_refl _ | with_reducible apply halls_rates_le | rw [halls_rates_le] | refine le_bind ?_ (fun _ => ?_) | refine le_ite ?_ ?_ | refine le_loop (fun _ => ?_) | intro _ | split
noncomputable def halls_open_j2_e (out_2 : List (List Int)) : Option (List (List Int)) :=
  some out_2
theorem halls_open_j2_le (out_2 : List (List Int)) : Le (halls_open_j2_e out_2) (halls_open_j2 out_2) := by
  unfold halls_open_j2_e halls_open_j2
  repeat' first | with_reducible exact le_refl _ | refine le_bind ?_ (fun _ => ?_) | refine le_ite ?_ ?_ | refine le_loop (fun _ => ?_) | intro _ | split
noncomputable def halls_open_e (h_ : Hall) : Option (List (List Int)) :=
  (loopE (halls_open_L6_e h_) ([], 0)).bind fun out_2 =>
  halls_open_j2_e out_2
theorem halls_open_le (h_ : Hall) : Le (halls_open_e h_) (halls_open h_) := by
  unfold halls_open_e halls_open
  repeat' first | with_reducible exact le_refl _ | with_reducible apply halls_open_L6_le | rw [halls_open_L6_le] | with_reducible apply halls_open_j2_le | rw [halls_open_j2_le] | refine le_bind ?_ (fun _ => ?_) | refine le_ite ?_ ?_ | refine le_loop (fun _ => ?_) | intro _ | split
noncomputable def halls_brought_j7_e (x_16 : Int) (sum_8_1 : Int) : Option (Out (Int × Int) Int) :=
  some (.nx (sum_8_1, wr (x_16 + 1)))
theorem halls_brought_j7_le (x_16 : Int) (sum_8_1 : Int) : Le (halls_brought_j7_e x_16 sum_8_1) (halls_brought_j7 x_16 sum_8_1) := by
  unfold halls_brought_j7_e halls_brought_j7
  repeat' first | with_reducible exact le_refl _ | refine le_bind ?_ (fun _ => ?_) | refine le_ite ?_ ?_ | refine le_loop (fun _ => ?_) | intro _ | split
noncomputable def halls_brought_j17_e (x_35 : Int) (sum_8_2 : Int) : Option (Out (Int × Int) Int) :=
  some (.nx (sum_8_2, wr (x_35 + 1)))
theorem halls_brought_j17_le (x_35 : Int) (sum_8_2 : Int) : Le (halls_brought_j17_e x_35 sum_8_2) (halls_brought_j17 x_35 sum_8_2) := by
  unfold halls_brought_j17_e halls_brought_j17
  repeat' first | with_reducible exact le_refl _ | refine le_bind ?_ (fun _ => ?_) | refine le_ite ?_ ?_ | refine le_loop (fun _ => ?_) | intro _ | split
noncomputable def halls_brought_L11_e (comb : Int) (x9 : Train) : (Int × Int) → Option (Out (Int × Int) Int)
  | (sum_8_1, x_35) =>
    if decide (x_35 < (List.length x9.Crowds : Int)) then
      (get x9.Crowds x_35).bind fun x19 =>
      if decide (x19.Comb = comb) then
        halls_brought_j17_e x_35 (wr (sum_8_1 + x19.People.High))
      else
        halls_brought_j17_e x_35 sum_8_1
    else
      some (.br sum_8_1)
theorem halls_brought_L11_le (comb : Int) (x9 : Train) : ∀ s_0, Le (halls_brought_L11_e comb x9 s_0) (halls_brought_L11 comb x9 s_0) := by
  intro s_0
  unfold halls_brought_L11_e halls_brought_L11
  repeat' first | with_reducible exact le_refl _ | with_reducible apply halls_brought_j17_le | rw [halls_brought_j17_le] | refine le_bind ?_ (fun _ => ?_) | refine le_ite ?_ ?_ | refine le_loop (fun _ => ?_) | intro _ | split
noncomputable def halls_brought_L13_e (h_ : Hall) (comb : Int) (from_ : Int) (to_ : Int) : (Int × Int) → Option (Out (Int × Int) Int)
  | (sum_8, x_16) =>
    if decide (x_16 < (List.length h_.Trains : Int)) then
      (get h_.Trains x_16).bind fun x9 =>
      if (decide (x9.At.High < from_)) || (decide (to_ < x9.At.Low)) then
        halls_brought_j7_e x_16 sum_8
      else
        (loopE (halls_brought_L11_e comb x9) (sum_8, 0)).bind fun sum_8_1 =>
        halls_brought_j7_e x_16 sum_8_1
    else
      some (.br sum_8)
theorem halls_brought_L13_le (h_ : Hall) (comb : Int) (from_ : Int) (to_ : Int) : ∀ s_0, Le (halls_brought_L13_e h_ comb from_ to_ s_0) (halls_brought_L13 h_ comb from_ to_ s_0) := by
  intro s_0
  unfold halls_brought_L13_e halls_brought_L13
  repeat' first | with_reducible exact le_refl _ | with_reducible apply halls_brought_j7_le | rw [halls_brought_j7_le] | with_reducible apply halls_brought_L11_le | rw [halls_brought_L11_le] | refine le_bind ?_ (fun _ => ?_) | refine le_ite ?_ ?_ | refine le_loop (fun _ => ?_) | intro _ | split
noncomputable def halls_brought_j2_e (sum_8 : Int) : Option Int :=
  some sum_8
theorem halls_brought_j2_le (sum_8 : Int) : Le (halls_brought_j2_e sum_8) (halls_brought_j2 sum_8) := by
  unfold halls_brought_j2_e halls_brought_j2
  repeat' first | with_reducible exact le_refl _ | refine le_bind ?_ (fun _ => ?_) | refine le_ite ?_ ?_ | refine le_loop (fun _ => ?_) | intro _ | split
noncomputable def halls_brought_e (h_ : Hall) (comb : Int) (from_ : Int) (to_ : Int) : Option Int :=
  (loopE (halls_brought_L13_e h_ comb from_ to_) (0, 0)).bind fun sum_8 =>
  halls_brought_j2_e sum_8
theorem halls_brought_le (h_ : Hall) (comb : Int) (from_ : Int) (to_ : Int) : Le (halls_brought_e h_ comb from_ to_) (halls_brought h_ comb from_ to_) := by
  unfold halls_brought_e halls_brought
  repeat' first | with_reducible exact le_refl _ | with_reducible apply halls_brought_L13_le | rw [halls_brought_L13_le] | with_reducible apply halls_brought_j2_le | rw [halls_brought_j2_le] | refine le_bind ?_ (fun _ => ?_) | refine le_ite ?_ ?_ | refine le_loop (fun _ => ?_) | intro _ | split
noncomputable def __halls_bound__passes_j19_e (b : halls_bound) (from_ : Int) (least_7 : Int) (k_8 : Int) (behind_9 : Int) : Option (Out (Int × Int) Int) :=
  (get b.flow k_8).bind fun x23 =>
  (get b.flow (mx from_ 0)).bind fun x24 =>
  (get b.most k_8).bind fun x25 =>
  some (.nx (mn least_7 (wr ((wr ((wr (x23 - x24)) + x25)) + behind_9)), wr (k_8 + 1)))
theorem __halls_bound__passes_j19_le (b : halls_bound) (from_ : Int) (least_7 : Int) (k_8 : Int) (behind_9 : Int) : Le (__halls_bound__passes_j19_e b from_ least_7 k_8 behind_9) (__halls_bound__passes_j19 b from_ least_7 k_8 behind_9) := by
  unfold __halls_bound__passes_j19_e __halls_bound__passes_j19
  repeat' first | with_reducible exact le_refl _ | refine le_bind ?_ (fun _ => ?_) | refine le_ite ?_ ?_ | refine le_loop (fun _ => ?_) | intro _ | split
noncomputable def __halls_bound__passes_L12_e (b : halls_bound) (from_ : Int) (to_ : Int) : (Int × Int) → Option (Out (Int × Int) Int)
  | (least_7, k_8) =>
    if decide (k_8 ≤ to_) then
      if decide (k_8 < to_) then
        (get b.come (wr (k_8 + 1))).bind fun x29 =>
        (get x29 to_).bind fun x30 =>
        __halls_bound__passes_j19_e b from_ least_7 k_8 x30
      else
        __halls_bound__passes_j19_e b from_ least_7 k_8 0
    else
      some (.br least_7)
theorem __halls_bound__passes_L12_le (b : halls_bound) (from_ : Int) (to_ : Int) : ∀ s_0, Le (__halls_bound__passes_L12_e b from_ to_ s_0) (__halls_bound__passes_L12 b from_ to_ s_0) := by
  intro s_0
  unfold __halls_bound__passes_L12_e __halls_bound__passes_L12
  repeat' first | with_reducible exact le_refl _ | with_reducible apply __halls_bound__passes_j19_le | rw [__halls_bound__passes_j19_le] | refine le_bind ?_ (fun _ => ?_) | refine le_ite ?_ ?_ | refine le_loop (fun _ => ?_) | intro _ | split
noncomputable def __halls_bound__passes_j13_e (least_7 : Int) : Option Int :=
  some least_7
theorem __halls_bound__passes_j13_le (least_7 : Int) : Le (__halls_bound__passes_j13_e least_7) (__halls_bound__passes_j13 least_7) := by
  unfold __halls_bound__passes_j13_e __halls_bound__passes_j13
  repeat' first | with_reducible exact le_refl _ | refine le_bind ?_ (fun _ => ?_) | refine le_ite ?_ ?_ | refine le_loop (fun _ => ?_) | intro _ | split
noncomputable def __halls_bound__passes_e (b : halls_bound) (from_ : Int) (to_ : Int) : Option Int :=
  if (decide (to_ < from_)) || (decide (to_ < 0)) then
    some 0
  else
    (get b.come 0).bind fun x8 =>
    (get x8 to_).bind fun x9 =>
    (get b.flow (wr (to_ + 1))).bind fun x10 =>
    (get b.flow (mx from_ 0)).bind fun x11 =>
    (loopE (__halls_bound__passes_L12_e b from_ to_) (mn x9 (wr (x10 - x11)), mx from_ 0)).bind fun least_7 =>
    __halls_bound__passes_j13_e least_7
theorem __halls_bound__passes_le (b : halls_bound) (from_ : Int) (to_ : Int) : Le (__halls_bound__passes_e b from_ to_) (__halls_bound__passes b from_ to_) := by
  unfold __halls_bound__passes_e __halls_bound__passes
  repeat' first | with_reducible exact le_refl _ | with_reducible apply __halls_bound__passes_L12_le | rw [__halls_bound__passes_L12_le] | with_reducible apply __halls_bound__passes_j13_le | rw [__halls_bound__passes_j13_le] | refine le_bind ?_ (fun _ => ?_) | refine le_ite ?_ ?_ | refine le_loop (fun _ => ?_) | intro _ | split
noncomputable def halls_bounds_j81_e (x_54 : Int) (row_9_2 : List Int) : Option (Out ((List Int) × Int) (((List Int)))) :=
  some (.nx (row_9_2, wr (x_54 + 1)))
theorem halls_bounds_j81_le (x_54 : Int) (row_9_2 : List Int) : Le (halls_bounds_j81_e x_54 row_9_2) (halls_bounds_j81 x_54 row_9_2) := by
  unfold halls_bounds_j81_e halls_bounds_j81
  repeat' first | with_reducible exact le_refl _ | refine le_bind ?_ (fun _ => ?_) | refine le_ite ?_ ?_ | refine le_loop (fun _ => ?_) | intro _ | split
noncomputable def halls_bounds_L19_e (all_5 : List halls_bound) (x_19 : Int) (x_28 : Int) (t_10 : Int) (l76 : List Comb) : ((List Int) × Int) → Option (Out ((List Int) × Int) (((List Int))))
  | (row_9_1, x_54) =>
    if decide (x_54 < (List.length l76 : Int)) then
      (get l76 x_54).bind fun x83 =>
      if decide (x83.Next = x_19) then
        (get row_9_1 t_10).bind fun x89 =>
        (get all_5 x_54).bind fun x90 =>
        (__halls_bound__passes_e x90 (wr (x_28 - x83.Walk.High)) (wr (t_10 - x83.Walk.Low))).bind fun y92 =>
        halls_bounds_j81_e x_54 (List.set row_9_1 (Int.toNat t_10) (wr (x89 + y92)))
      else
        halls_bounds_j81_e x_54 row_9_1
    else
      some (.br row_9_1)
theorem halls_bounds_L19_le (all_5 : List halls_bound) (x_19 : Int) (x_28 : Int) (t_10 : Int) (l76 : List Comb) : ∀ s_0, Le (halls_bounds_L19_e all_5 x_19 x_28 t_10 l76 s_0) (halls_bounds_L19 all_5 x_19 x_28 t_10 l76 s_0) := by
  intro s_0
  unfold halls_bounds_L19_e halls_bounds_L19
  repeat' first | with_reducible exact le_refl _ | with_reducible apply __halls_bound__passes_le | rw [__halls_bound__passes_le] | with_reducible apply halls_bounds_j81_le | rw [halls_bounds_j81_le] | refine le_bind ?_ (fun _ => ?_) | refine le_ite ?_ ?_ | refine le_loop (fun _ => ?_) | intro _ | split
noncomputable def halls_bounds_j70_e (t_10 : Int) (row_9_1 : List Int) : Option (Out ((List Int) × Int) (((List Int)))) :=
  some (.nx (row_9_1, wr (t_10 + 1)))
theorem halls_bounds_j70_le (t_10 : Int) (row_9_1 : List Int) : Le (halls_bounds_j70_e t_10 row_9_1) (halls_bounds_j70 t_10 row_9_1) := by
  unfold halls_bounds_j70_e halls_bounds_j70
  repeat' first | with_reducible exact le_refl _ | refine le_bind ?_ (fun _ => ?_) | refine le_ite ?_ ?_ | refine le_loop (fun _ => ?_) | intro _ | split
noncomputable def halls_bounds_L21_e (h_ : Hall) (all_5 : List halls_bound) (x_19 : Int) (x_28 : Int) : ((List Int) × Int) → Option (Out ((List Int) × Int) (((List Int))))
  | (row_9, t_10) =>
    if decide (t_10 < h_.Until) then
      (halls_brought_e h_ x_19 x_28 t_10).bind fun y73 =>
      (get row_9 t_10).bind fun x74 =>
      (sub h_.Combs 0 x_19).bind fun l76 =>
      (loopE (halls_bounds_L19_e all_5 x_19 x_28 t_10 l76) ((List.set row_9 (Int.toNat t_10) y73), 0)).bind fun row_9_1 =>
      halls_bounds_j70_e t_10 row_9_1
    else
      some (.br row_9)
theorem halls_bounds_L21_le (h_ : Hall) (all_5 : List halls_bound) (x_19 : Int) (x_28 : Int) : ∀ s_0, Le (halls_bounds_L21_e h_ all_5 x_19 x_28 s_0) (halls_bounds_L21 h_ all_5 x_19 x_28 s_0) := by
  intro s_0
  unfold halls_bounds_L21_e halls_bounds_L21
  repeat' first | with_reducible exact le_refl _ | with_reducible apply halls_brought_le | rw [halls_brought_le] | with_reducible apply halls_bounds_L19_le | rw [halls_bounds_L19_le] | with_reducible apply halls_bounds_j70_le | rw [halls_bounds_j70_le] | refine le_bind ?_ (fun _ => ?_) | refine le_ite ?_ ?_ | refine le_loop (fun _ => ?_) | intro _ | split
noncomputable def halls_bounds_j51_e (x_28 : Int) (b_7_0_1 : List Int) (b_7_3_1 : List (List Int)) : Option (Out ((List Int) × (List (List Int)) × Int) (((List Int) × (List (List Int))))) :=
  some (.nx (b_7_0_1, b_7_3_1, wr (x_28 + 1)))
theorem halls_bounds_j51_le (x_28 : Int) (b_7_0_1 : List Int) (b_7_3_1 : List (List Int)) : Le (halls_bounds_j51_e x_28 b_7_0_1 b_7_3_1) (halls_bounds_j51 x_28 b_7_0_1 b_7_3_1) := by
  unfold halls_bounds_j51_e halls_bounds_j51
  repeat' first | with_reducible exact le_refl _ | refine le_bind ?_ (fun _ => ?_) | refine le_ite ?_ ?_ | refine le_loop (fun _ => ?_) | intro _ | split
noncomputable def halls_bounds_j55_e (open_ : List (List Int)) (x_19 : Int) (b_7_0 : List Int) (b_7_3 : List (List Int)) (x_28 : Int) (row_9 : List Int) : Option (Out ((List Int) × (List (List Int)) × Int) (((List Int) × (List (List Int))))) :=
  (ap 24 b_7_3 ([row_9])).bind fun l57 =>
  (get b_7_0 x_28).bind fun x62 =>
  (get open_ x_19).bind fun x63 =>
  (get x63 x_28).bind fun x64 =>
  (ap 8 b_7_0 ([wr (x62 + x64)])).bind fun l65 =>
  halls_bounds_j51_e x_28 l65 l57
theorem halls_bounds_j55_le (open_ : List (List Int)) (x_19 : Int) (b_7_0 : List Int) (b_7_3 : List (List Int)) (x_28 : Int) (row_9 : List Int) : Le (halls_bounds_j55_e open_ x_19 b_7_0 b_7_3 x_28 row_9) (halls_bounds_j55 open_ x_19 b_7_0 b_7_3 x_28 row_9) := by
  unfold halls_bounds_j55_e halls_bounds_j55
  repeat' first | with_reducible exact le_refl _ | with_reducible apply halls_bounds_j51_le | rw [halls_bounds_j51_le] | refine le_bind ?_ (fun _ => ?_) | refine le_ite ?_ ?_ | refine le_loop (fun _ => ?_) | intro _ | split
noncomputable def halls_bounds_L25_e (h_ : Hall) (open_ : List (List Int)) (all_5 : List halls_bound) (x_19 : Int) : ((List Int) × (List (List Int)) × Int) → Option (Out ((List Int) × (List (List Int)) × Int) (((List Int) × (List (List Int)))))
  | (b_7_0, b_7_3, x_28) =>
    if decide (x_28 < h_.Until) then
      (mks 8 h_.Until 0).bind fun l53 =>
      (loopE (halls_bounds_L21_e h_ all_5 x_19 x_28) (l53, x_28)).bind fun row_9 =>
      halls_bounds_j55_e open_ x_19 b_7_0 b_7_3 x_28 row_9
    else
      some (.br (b_7_0, b_7_3))
theorem halls_bounds_L25_le (h_ : Hall) (open_ : List (List Int)) (all_5 : List halls_bound) (x_19 : Int) : ∀ s_0, Le (halls_bounds_L25_e h_ open_ all_5 x_19 s_0) (halls_bounds_L25 h_ open_ all_5 x_19 s_0) := by
  intro s_0
  unfold halls_bounds_L25_e halls_bounds_L25
  repeat' first | with_reducible exact le_refl _ | with_reducible apply halls_bounds_L21_le | rw [halls_bounds_L21_le] | with_reducible apply halls_bounds_j55_le | rw [halls_bounds_j55_le] | refine le_bind ?_ (fun _ => ?_) | refine le_ite ?_ ?_ | refine le_loop (fun _ => ?_) | intro _ | split
noncomputable def halls_bounds_L35_e (b_7_0 : List Int) (b_7_3 : List (List Int)) (x_122 : Int) : (Int × Int) → Option (Out (Int × Int) Int)
  | (most_14, x_127) =>
    if decide (x_127 < (wr (x_122 + 1))) then
      (get b_7_3 x_127).bind fun x40 =>
      (get x40 x_122).bind fun x42 =>
      (get b_7_0 x_122).bind fun x43 =>
      (get b_7_0 x_127).bind fun x44 =>
      some (.nx (mx most_14 (wr (x42 - (wr (x43 - x44)))), wr (x_127 + 1)))
    else
      some (.br most_14)
theorem halls_bounds_L35_le (b_7_0 : List Int) (b_7_3 : List (List Int)) (x_122 : Int) : ∀ s_0, Le (halls_bounds_L35_e b_7_0 b_7_3 x_122 s_0) (halls_bounds_L35 b_7_0 b_7_3 x_122 s_0) := by
  intro s_0
  unfold halls_bounds_L35_e halls_bounds_L35
  repeat' first | with_reducible exact le_refl _ | refine le_bind ?_ (fun _ => ?_) | refine le_ite ?_ ?_ | refine le_loop (fun _ => ?_) | intro _ | split
noncomputable def halls_bounds_j18_e (x_122 : Int) (b_7_1_1 : List Int) (b_7_2_1 : List Int) : Option (Out ((List Int) × (List Int) × Int) (((List Int) × (List Int)))) :=
  some (.nx (b_7_1_1, b_7_2_1, wr (x_122 + 1)))
theorem halls_bounds_j18_le (x_122 : Int) (b_7_1_1 : List Int) (b_7_2_1 : List Int) : Le (halls_bounds_j18_e x_122 b_7_1_1 b_7_2_1) (halls_bounds_j18 x_122 b_7_1_1 b_7_2_1) := by
  unfold halls_bounds_j18_e halls_bounds_j18
  repeat' first | with_reducible exact le_refl _ | refine le_bind ?_ (fun _ => ?_) | refine le_ite ?_ ?_ | refine le_loop (fun _ => ?_) | intro _ | split
noncomputable def halls_bounds_j20_e (open_ : List (List Int)) (x_19 : Int) (b_7_1 : List Int) (b_7_2 : List Int) (x_122 : Int) (most_14 : Int) : Option (Out ((List Int) × (List Int) × Int) (((List Int) × (List Int)))) :=
  (ap 8 b_7_2 ([most_14])).bind fun l22 =>
  (get b_7_1 x_122).bind fun x27 =>
  (get open_ x_19).bind fun x28 =>
  (get x28 x_122).bind fun x29 =>
  (ap 8 b_7_1 ([wr (x27 + (mn most_14 x29))])).bind fun l30 =>
  halls_bounds_j18_e x_122 l30 l22
theorem halls_bounds_j20_le (open_ : List (List Int)) (x_19 : Int) (b_7_1 : List Int) (b_7_2 : List Int) (x_122 : Int) (most_14 : Int) : Le (halls_bounds_j20_e open_ x_19 b_7_1 b_7_2 x_122 most_14) (halls_bounds_j20 open_ x_19 b_7_1 b_7_2 x_122 most_14) := by
  unfold halls_bounds_j20_e halls_bounds_j20
  repeat' first | with_reducible exact le_refl _ | with_reducible apply halls_bounds_j18_le | rw [halls_bounds_j18_le] | refine le_bind ?_ (fun _ => ?_) | refine le_ite ?_ ?_ | refine le_loop (fun _ => ?_) | intro _ | split
noncomputable def halls_bounds_L39_e (h_ : Hall) (open_ : List (List Int)) (x_19 : Int) (b_7_0 : List Int) (b_7_3 : List (List Int)) : ((List Int) × (List Int) × Int) → Option (Out ((List Int) × (List Int) × Int) (((List Int) × (List Int))))
  | (b_7_1, b_7_2, x_122) =>
    if decide (x_122 < h_.Until) then
      (loopE (halls_bounds_L35_e b_7_0 b_7_3 x_122) (0, 0)).bind fun most_14 =>
      halls_bounds_j20_e open_ x_19 b_7_1 b_7_2 x_122 most_14
    else
      some (.br (b_7_1, b_7_2))
theorem halls_bounds_L39_le (h_ : Hall) (open_ : List (List Int)) (x_19 : Int) (b_7_0 : List Int) (b_7_3 : List (List Int)) : ∀ s_0, Le (halls_bounds_L39_e h_ open_ x_19 b_7_0 b_7_3 s_0) (halls_bounds_L39 h_ open_ x_19 b_7_0 b_7_3 s_0) := by
  intro s_0
  unfold halls_bounds_L39_e halls_bounds_L39
  repeat' first | with_reducible exact le_refl _ | with_reducible apply halls_bounds_L35_le | rw [halls_bounds_L35_le] | with_reducible apply halls_bounds_j20_le | rw [halls_bounds_j20_le] | refine le_bind ?_ (fun _ => ?_) | refine le_ite ?_ ?_ | refine le_loop (fun _ => ?_) | intro _ | split
noncomputable def halls_bounds_j7_e (x_19 : Int) (all_5_1 : List halls_bound) : Option (Out ((List halls_bound) × Int) (((List halls_bound)))) :=
  some (.nx (all_5_1, wr (x_19 + 1)))
theorem halls_bounds_j7_le (x_19 : Int) (all_5_1 : List halls_bound) : Le (halls_bounds_j7_e x_19 all_5_1) (halls_bounds_j7 x_19 all_5_1) := by
  unfold halls_bounds_j7_e halls_bounds_j7
  repeat' first | with_reducible exact le_refl _ | refine le_bind ?_ (fun _ => ?_) | refine le_ite ?_ ?_ | refine le_loop (fun _ => ?_) | intro _ | split
noncomputable def halls_bounds_j11_e (all_5 : List halls_bound) (x_19 : Int) (b_7_0 : List Int) (b_7_3 : List (List Int)) (b_7_1 : List Int) (b_7_2 : List Int) : Option (Out ((List halls_bound) × Int) (((List halls_bound)))) :=
  (ap 8 all_5 ([(halls_bound.mk b_7_0 b_7_1 b_7_2 b_7_3)])).bind fun l13 =>
  halls_bounds_j7_e x_19 l13
theorem halls_bounds_j11_le (all_5 : List halls_bound) (x_19 : Int) (b_7_0 : List Int) (b_7_3 : List (List Int)) (b_7_1 : List Int) (b_7_2 : List Int) : Le (halls_bounds_j11_e all_5 x_19 b_7_0 b_7_3 b_7_1 b_7_2) (halls_bounds_j11 all_5 x_19 b_7_0 b_7_3 b_7_1 b_7_2) := by
  unfold halls_bounds_j11_e halls_bounds_j11
  repeat' first | with_reducible exact le_refl _ | with_reducible apply halls_bounds_j7_le | rw [halls_bounds_j7_le] | refine le_bind ?_ (fun _ => ?_) | refine le_ite ?_ ?_ | refine le_loop (fun _ => ?_) | intro _ | split
noncomputable def halls_bounds_j9_e (h_ : Hall) (open_ : List (List Int)) (all_5 : List halls_bound) (x_19 : Int) (b_7_0 : List Int) (b_7_3 : List (List Int)) : Option (Out ((List halls_bound) × Int) (((List halls_bound)))) :=
  (loopE (halls_bounds_L39_e h_ open_ x_19 b_7_0 b_7_3) ([0], [], 0)).bind fun
    | (b_7_1, b_7_2) => halls_bounds_j11_e all_5 x_19 b_7_0 b_7_3 b_7_1 b_7_2
theorem halls_bounds_j9_le (h_ : Hall) (open_ : List (List Int)) (all_5 : List halls_bound) (x_19 : Int) (b_7_0 : List Int) (b_7_3 : List (List Int)) : Le (halls_bounds_j9_e h_ open_ all_5 x_19 b_7_0 b_7_3) (halls_bounds_j9 h_ open_ all_5 x_19 b_7_0 b_7_3) := by
  unfold halls_bounds_j9_e halls_bounds_j9
  repeat' first | with_reducible exact le_refl _ | with_reducible apply halls_bounds_L39_le | rw [halls_bounds_L39_le] | with_reducible apply halls_bounds_j11_le | rw [halls_bounds_j11_le] | refine le_bind ?_ (fun _ => ?_) | refine le_ite ?_ ?_ | refine le_loop (fun _ => ?_) | intro _ | split
noncomputable def halls_bounds_L42_e (h_ : Hall) (open_ : List (List Int)) : ((List halls_bound) × Int) → Option (Out ((List halls_bound) × Int) (((List halls_bound))))
  | (all_5, x_19) =>
    if decide (x_19 < (List.length h_.Combs : Int)) then
      (loopE (halls_bounds_L25_e h_ open_ all_5 x_19) ([0], [], 0)).bind fun
        | (b_7_0, b_7_3) => halls_bounds_j9_e h_ open_ all_5 x_19 b_7_0 b_7_3
    else
      some (.br all_5)
theorem halls_bounds_L42_le (h_ : Hall) (open_ : List (List Int)) : ∀ s_0, Le (halls_bounds_L42_e h_ open_ s_0) (halls_bounds_L42 h_ open_ s_0) := by
  intro s_0
  unfold halls_bounds_L42_e halls_bounds_L42
  repeat' first | with_reducible exact le_refl _ | with_reducible apply halls_bounds_L25_le | rw [halls_bounds_L25_le] | with_reducible apply halls_bounds_j9_le | rw [halls_bounds_j9_le] | refine le_bind ?_ (fun _ => ?_) | refine le_ite ?_ ?_ | refine le_loop (fun _ => ?_) | intro _ | split
noncomputable def halls_bounds_j2_e (all_5 : List halls_bound) : Option (List halls_bound) :=
  some all_5
theorem halls_bounds_j2_le (all_5 : List halls_bound) : Le (halls_bounds_j2_e all_5) (halls_bounds_j2 all_5) := by
  unfold halls_bounds_j2_e halls_bounds_j2
  repeat' first | with_reducible exact le_refl _ | refine le_bind ?_ (fun _ => ?_) | refine le_ite ?_ ?_ | refine le_loop (fun _ => ?_) | intro _ | split
noncomputable def halls_bounds_e (h_ : Hall) (open_ : List (List Int)) : Option (List halls_bound) :=
  (loopE (halls_bounds_L42_e h_ open_) ([], 0)).bind fun all_5 =>
  halls_bounds_j2_e all_5
theorem halls_bounds_le (h_ : Hall) (open_ : List (List Int)) : Le (halls_bounds_e h_ open_) (halls_bounds h_ open_) := by
  unfold halls_bounds_e halls_bounds
  repeat' first | with_reducible exact le_refl _ | with_reducible apply halls_bounds_L42_le | rw [halls_bounds_L42_le] | with_reducible apply halls_bounds_j2_le | rw [halls_bounds_j2_le] | refine le_bind ?_ (fun _ => ?_) | refine le_ite ?_ ?_ | refine le_loop (fun _ => ?_) | intro _ | split
noncomputable def halls_overD1_e (n : Int) (c0 : Hall) (c1 : Int) : Option Bool :=
  (get c0.Combs c1).bind fun x2 =>
  some (decide (x2.Limit < n))
theorem halls_overD1_le (n : Int) (c0 : Hall) (c1 : Int) : Le (halls_overD1_e n c0 c1) (halls_overD1 n c0 c1) := by
  unfold halls_overD1_e halls_overD1
  repeat' first | with_reducible exact le_refl _ | refine le_bind ?_ (fun _ => ?_) | refine le_ite ?_ ?_ | refine le_loop (fun _ => ?_) | intro _ | split
noncomputable def halls_over_j7_e (x_10 : Int) (out_4_1 : List (Int × Int)) : Option (Out ((List (Int × Int)) × Int) (((List (Int × Int))))) :=
  some (.nx (out_4_1, wr (x_10 + 1)))
theorem halls_over_j7_le (x_10 : Int) (out_4_1 : List (Int × Int)) : Le (halls_over_j7_e x_10 out_4_1) (halls_over_j7 x_10 out_4_1) := by
  unfold halls_over_j7_e halls_over_j7
  repeat' first | with_reducible exact le_refl _ | refine le_bind ?_ (fun _ => ?_) | refine le_ite ?_ ?_ | refine le_loop (fun _ => ?_) | intro _ | split
noncomputable def halls_over_L8_e (h_ : Hall) (all : List halls_bound) : ((List (Int × Int)) × Int) → Option (Out ((List (Int × Int)) × Int) (((List (Int × Int)))))
  | (out_4, x_10) =>
    if decide (x_10 < (List.length all : Int)) then
      (get all x_10).bind fun x9 =>
      (slices_IndexFunc___int_int__e x9.most (fun z12 => halls_overD1_e z12 h_ x_10)).bind fun y13 =>
      if decide (0 ≤ y13) then
        (ap 16 out_4 ([(x_10, y13)])).bind fun l16 =>
        halls_over_j7_e x_10 l16
      else
        halls_over_j7_e x_10 out_4
    else
      some (.br out_4)
theorem halls_over_L8_le (h_ : Hall) (all : List halls_bound) : ∀ s_0, Le (halls_over_L8_e h_ all s_0) (halls_over_L8 h_ all s_0) := by
  intro s_0
  unfold halls_over_L8_e halls_over_L8
  repeat' first | with_reducible exact le_refl _ | with_reducible apply slices_IndexFunc___int_int__le | rw [slices_IndexFunc___int_int__le] | with_reducible apply halls_overD1_le | rw [halls_overD1_le] | with_reducible apply halls_over_j7_le | rw [halls_over_j7_le] | refine le_bind ?_ (fun _ => ?_) | refine le_ite ?_ ?_ | refine le_loop (fun _ => ?_) | intro _ | split
noncomputable def halls_over_j2_e (out_4 : List (Int × Int)) : Option (List (Int × Int)) :=
  some out_4
theorem halls_over_j2_le (out_4 : List (Int × Int)) : Le (halls_over_j2_e out_4) (halls_over_j2 out_4) := by
  unfold halls_over_j2_e halls_over_j2
  repeat' first | with_reducible exact le_refl _ | refine le_bind ?_ (fun _ => ?_) | refine le_ite ?_ ?_ | refine le_loop (fun _ => ?_) | intro _ | split
noncomputable def halls_over_e (h_ : Hall) (all : List halls_bound) : Option (List (Int × Int)) :=
  (loopE (halls_over_L8_e h_ all) ([], 0)).bind fun out_4 =>
  halls_over_j2_e out_4
theorem halls_over_le (h_ : Hall) (all : List halls_bound) : Le (halls_over_e h_ all) (halls_over h_ all) := by
  unfold halls_over_e halls_over
  repeat' first | with_reducible exact le_refl _ | with_reducible apply halls_over_L8_le | rw [halls_over_L8_le] | with_reducible apply halls_over_j2_le | rw [halls_over_j2_le] | refine le_bind ?_ (fun _ => ?_) | refine le_ite ?_ ?_ | refine le_loop (fun _ => ?_) | intro _ | split
noncomputable def halls_Guard_L12_e (h_ : Hall) (comb : Int) (from_ : Int) : ((List (List Int)) × Int) → Option (Out ((List (List Int)) × Int) (((Int × Int))))
  | (all_9, n_10) =>
    (halls_bounds_e h_ all_9).bind fun y11 =>
    (halls_over_e h_ y11).bind fun y12 =>
    if decide ((List.length y12 : Int) = 0) then
      some (.br (n_10, 0))
    else
      if decide ((wr (from_ + n_10)) = h_.Until) then
        some (.br (0, 3))
      else
        (get all_9 comb).bind fun x19 =>
        (get x19 (wr (from_ + n_10))).bind fun x20 =>
        some (.nx ((List.set all_9 (Int.toNat comb) (List.set x19 (Int.toNat (wr (from_ + n_10))) 0)), wr (n_10 + 1)))
theorem halls_Guard_L12_le (h_ : Hall) (comb : Int) (from_ : Int) : ∀ s_0, Le (halls_Guard_L12_e h_ comb from_ s_0) (halls_Guard_L12 h_ comb from_ s_0) := by
  intro s_0
  unfold halls_Guard_L12_e halls_Guard_L12
  repeat' first | with_reducible exact le_refl _ | with_reducible apply halls_bounds_le | rw [halls_bounds_le] | with_reducible apply halls_over_le | rw [halls_over_le] | refine le_bind ?_ (fun _ => ?_) | refine le_ite ?_ ?_ | refine le_loop (fun _ => ?_) | intro _ | split
noncomputable def halls_Guard_e (h_ : Hall) (comb : Int) (from_ : Int) : Option (Int × Int) :=
  (halls_check_e h_ comb ([from_])).bind fun y2 =>
  if decide (¬y2 = 0) then
    some (0, y2)
  else
    (halls_open_e h_).bind fun y6 =>
    (loopE (halls_Guard_L12_e h_ comb from_) (y6, 0)).bind fun r' =>
    some r'
theorem halls_Guard_le (h_ : Hall) (comb : Int) (from_ : Int) : Le (halls_Guard_e h_ comb from_) (halls_Guard h_ comb from_) := by
  unfold halls_Guard_e halls_Guard
  repeat' first | with_reducible exact le_refl _ | with_reducible apply halls_check_le | rw [halls_check_le] | with_reducible apply halls_open_le | rw [halls_open_le] | with_reducible apply halls_Guard_L12_le | rw [halls_Guard_L12_le] | refine le_bind ?_ (fun _ => ?_) | refine le_ite ?_ ?_ | refine le_loop (fun _ => ?_) | intro _ | split
noncomputable def l06_Example_e : Hall :=
  (Hall.mk ([(Comb.mk 3 12 1 (Span.mk 2 3)), (Comb.mk 2 10 (-1) (Span.mk 1 1))]) ([(Train.mk (Span.mk 2 4) ([(Crowd.mk 0 (Span.mk 6 10))])), (Train.mk (Span.mk 5 5) ([(Crowd.mk 0 (Span.mk 0 4)), (Crowd.mk 1 (Span.mk 3 3))]))]) ([]) 20)
theorem l06_Example_le : l06_Example_e = l06_Example := by unfold l06_Example_e l06_Example; rfl
noncomputable def halls_Over_e (h_ : Hall) : Option ((List (Int × Int)) × Int) :=
  (halls_Check_e h_).bind fun y2 =>
  if decide (¬y2 = 0) then
    some ([], y2)
  else
    (halls_open_e h_).bind fun y8 =>
    (halls_bounds_e h_ y8).bind fun y9 =>
    (halls_over_e h_ y9).bind fun y10 =>
    some (y10, 0)
theorem halls_Over_le (h_ : Hall) : Le (halls_Over_e h_) (halls_Over h_) := by
  unfold halls_Over_e halls_Over
  repeat' first | with_reducible exact le_refl _ | with_reducible apply halls_Check_le | rw [halls_Check_le] | with_reducible apply halls_open_le | rw [halls_open_le] | with_reducible apply halls_bounds_le | rw [halls_bounds_le] | with_reducible apply halls_over_le | rw [halls_over_le] | refine le_bind ?_ (fun _ => ?_) | refine le_ite ?_ ?_ | refine le_loop (fun _ => ?_) | intro _ | split
noncomputable def l06_works_e : Option Bool :=
  (halls_Guard_e l06_Example_e 0 5).bind fun y2 =>
  (halls_Over_e l06_Example_e).bind fun y4 =>
  (if (((decide (y2.2 = 0)) && (decide (y4.2 = 0))) && (decide (y2.1 = 1))) && (decide ((List.length y4.1 : Int) = 1)) then (get y4.1 0).bind fun x7 =>
  some (decide (x7.1 = 1) && decide (x7.2 = 7)) else some false).bind fun c8 =>
  some c8
theorem l06_works_le  : Le (l06_works_e ) (l06_works ) := by
  unfold l06_works_e l06_works
  repeat' first | with_reducible exact le_refl _ | with_reducible apply halls_Guard_le | rw [halls_Guard_le] | with_reducible apply l06_Example_le | rw [l06_Example_le] | with_reducible apply halls_Over_le | rw [halls_Over_le] | refine le_bind ?_ (fun _ => ?_) | refine le_ite ?_ ?_ | refine le_loop (fun _ => ?_) | intro _ | split
end Go.Nw.HM
