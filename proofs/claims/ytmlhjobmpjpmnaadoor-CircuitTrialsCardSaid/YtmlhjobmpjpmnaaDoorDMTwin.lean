/- Twins of the models, which the kernel evaluates. -/
import Derived.Test.YtmlhjobmpjpmnaaDoorNwTwin
import Derived.Test.YtmlhjobmpjpmnaaDoorDM
set_option linter.all false
set_option linter.unusedVariables false
set_option linter.unusedSimpArgs false
set_option linter.unusedSectionVars false
namespace Go.Nw.DM
set_option linter.unusedVariables false
noncomputable def slices_Index___bool_bool__L7_e (s : List Bool) (v : Bool) : Int → Option (Out Int (Unit ⊕ Int))
  | x_8 =>
    if decide (x_8 < (List.length s : Int)) then
      (get s x_8).bind fun x8 =>
      if beqB v x8 then
        some (.br (.inr x_8))
      else
        some (.nx (wr (x_8 + 1)))
    else
      some (.br (.inl ()))
theorem slices_Index___bool_bool__L7_le (s : List Bool) (v : Bool) : ∀ s_0, Le (slices_Index___bool_bool__L7_e s v s_0) (slices_Index___bool_bool__L7 s v s_0) := by
  intro s_0
  unfold slices_Index___bool_bool__L7_e slices_Index___bool_bool__L7
  repeat' first | with_reducible exact le_refl _ | refine le_bind ?_ (fun _ => ?_) | refine le_ite ?_ ?_ | refine le_loop (fun _ => ?_) | intro _ | split
noncomputable def slices_Index___bool_bool__j2_e : Option Int :=
  some (-1)
theorem slices_Index___bool_bool__j2_le  : Le (slices_Index___bool_bool__j2_e ) (slices_Index___bool_bool__j2 ) := by
  unfold slices_Index___bool_bool__j2_e slices_Index___bool_bool__j2
  repeat' first | with_reducible exact le_refl _ | refine le_bind ?_ (fun _ => ?_) | refine le_ite ?_ ?_ | refine le_loop (fun _ => ?_) | intro _ | split
noncomputable def slices_Index___bool_bool__e (s : List Bool) (v : Bool) : Option Int :=
  (loopE (slices_Index___bool_bool__L7_e s v) (0)).bind fun
    | (.inl ()) => slices_Index___bool_bool__j2_e
    | (.inr r') => some r'
theorem slices_Index___bool_bool__le (s : List Bool) (v : Bool) : Le (slices_Index___bool_bool__e s v) (slices_Index___bool_bool_ s v) := by
  unfold slices_Index___bool_bool__e slices_Index___bool_bool_
  repeat' first | with_reducible exact le_refl _ | with_reducible apply slices_Index___bool_bool__L7_le | rw [slices_Index___bool_bool__L7_le] | with_reducible apply slices_Index___bool_bool__j2_le | rw [slices_Index___bool_bool__j2_le] | refine le_bind ?_ (fun _ => ?_) | refine le_ite ?_ ?_ | refine le_loop (fun _ => ?_) | intro _ | split
noncomputable def slices_Contains___bool_bool__e (s : List Bool) (v : Bool) : Option Bool :=
  (slices_Index___bool_bool__e s v).bind fun y2 =>
  some (decide (0 ≤ y2))
theorem slices_Contains___bool_bool__le (s : List Bool) (v : Bool) : Le (slices_Contains___bool_bool__e s v) (slices_Contains___bool_bool_ s v) := by
  unfold slices_Contains___bool_bool__e slices_Contains___bool_bool_
  repeat' first | with_reducible exact le_refl _ | with_reducible apply slices_Index___bool_bool__le | rw [slices_Index___bool_bool__le] | refine le_bind ?_ (fun _ => ?_) | refine le_ite ?_ ?_ | refine le_loop (fun _ => ?_) | intro _ | split
noncomputable def slices_IndexFunc___int_int__L7_e (s : List Int) (f : Int → Option Bool) : Int → Option (Out Int (Unit ⊕ Int))
  | x_8 =>
    if decide (x_8 < (List.length s : Int)) then
      (get s x_8).bind fun x9 =>
      (f x9).bind fun y10 =>
      if y10 then
        some (.br (.inr x_8))
      else
        some (.nx (wr (x_8 + 1)))
    else
      some (.br (.inl ()))
theorem slices_IndexFunc___int_int__L7_le (s : List Int) (f f' : Int → Option Bool) (hf : ∀ x0, Le (f x0) (f' x0)) : ∀ s_0, Le (slices_IndexFunc___int_int__L7_e s f s_0) (slices_IndexFunc___int_int__L7 s f' s_0) := by
  intro s_0
  unfold slices_IndexFunc___int_int__L7_e slices_IndexFunc___int_int__L7
  repeat' first | with_reducible exact le_refl _ | apply hf | refine le_bind ?_ (fun _ => ?_) | refine le_ite ?_ ?_ | refine le_loop (fun _ => ?_) | intro _ | split
noncomputable def slices_IndexFunc___int_int__j2_e : Option Int :=
  some (-1)
theorem slices_IndexFunc___int_int__j2_le  : Le (slices_IndexFunc___int_int__j2_e ) (slices_IndexFunc___int_int__j2 ) := by
  unfold slices_IndexFunc___int_int__j2_e slices_IndexFunc___int_int__j2
  repeat' first | with_reducible exact le_refl _ | refine le_bind ?_ (fun _ => ?_) | refine le_ite ?_ ?_ | refine le_loop (fun _ => ?_) | intro _ | split
noncomputable def slices_IndexFunc___int_int__e (s : List Int) (f : Int → Option Bool) : Option Int :=
  (loopE (slices_IndexFunc___int_int__L7_e s f) (0)).bind fun
    | (.inl ()) => slices_IndexFunc___int_int__j2_e
    | (.inr r') => some r'
theorem slices_IndexFunc___int_int__le (s : List Int) (f f' : Int → Option Bool) (hf : ∀ x0, Le (f x0) (f' x0)) : Le (slices_IndexFunc___int_int__e s f) (slices_IndexFunc___int_int_ s f') := by
  unfold slices_IndexFunc___int_int__e slices_IndexFunc___int_int_
  repeat' first | with_reducible exact le_refl _ | with_reducible apply slices_IndexFunc___int_int__L7_le | rw [slices_IndexFunc___int_int__L7_le] | with_reducible apply slices_IndexFunc___int_int__j2_le | rw [slices_IndexFunc___int_int__j2_le] | apply hf | refine le_bind ?_ (fun _ => ?_) | refine le_ite ?_ ?_ | refine le_loop (fun _ => ?_) | intro _ | split
noncomputable def slices_ContainsFunc___int_int__e (s : List Int) (f : Int → Option Bool) : Option Bool :=
  (slices_IndexFunc___int_int__e s f).bind fun y2 =>
  some (decide (0 ≤ y2))
theorem slices_ContainsFunc___int_int__le (s : List Int) (f f' : Int → Option Bool) (hf : ∀ x0, Le (f x0) (f' x0)) : Le (slices_ContainsFunc___int_int__e s f) (slices_ContainsFunc___int_int_ s f') := by
  unfold slices_ContainsFunc___int_int__e slices_ContainsFunc___int_int_
  repeat' first | with_reducible exact le_refl _ | with_reducible apply slices_IndexFunc___int_int__le | rw [slices_IndexFunc___int_int__le] | apply hf | refine le_bind ?_ (fun _ => ?_) | refine le_ite ?_ ?_ | refine le_loop (fun _ => ?_) | intro _ | split
noncomputable def circuit_isSet_e (n : Int) (many : Int) : Option Bool :=
  (if decide (0 ≤ n) then (shl .i64 1 many).bind fun q3 =>
  some (decide (n < q3)) else some false).bind fun c4 =>
  some c4
theorem circuit_isSet_le (n : Int) (many : Int) : Le (circuit_isSet_e n many) (circuit_isSet n many) := by
  unfold circuit_isSet_e circuit_isSet
  repeat' first | with_reducible exact le_refl _ | refine le_bind ?_ (fun _ => ?_) | refine le_ite ?_ ?_ | refine le_loop (fun _ => ?_) | intro _ | split
noncomputable def circuit_CheckD1_e (n : Int) (c0 : Circuit) : Option Bool :=
  (circuit_isSet_e n c0.Hazards).bind fun y2 =>
  some (!y2)
theorem circuit_CheckD1_le (n : Int) (c0 : Circuit) : Le (circuit_CheckD1_e n c0) (circuit_CheckD1 n c0) := by
  unfold circuit_CheckD1_e circuit_CheckD1
  repeat' first | with_reducible exact le_refl _ | with_reducible apply circuit_isSet_le | rw [circuit_isSet_le] | refine le_bind ?_ (fun _ => ?_) | refine le_ite ?_ ?_ | refine le_loop (fun _ => ?_) | intro _ | split
noncomputable def circuit_ascending_L8_e (l : List Int) (high : Int) : (Int × Int) → Option (Out (Int × Int) (Unit ⊕ Bool))
  | (low_1, x_11) =>
    if decide (x_11 < (List.length l : Int)) then
      (get l x_11).bind fun x8 =>
      if (decide (x8 < low_1)) || (decide (high ≤ x8)) then
        some (.br (.inr false))
      else
        some (.nx (wr (x8 + 1), wr (x_11 + 1)))
    else
      some (.br (.inl ()))
theorem circuit_ascending_L8_le (l : List Int) (high : Int) : ∀ s_0, Le (circuit_ascending_L8_e l high s_0) (circuit_ascending_L8 l high s_0) := by
  intro s_0
  unfold circuit_ascending_L8_e circuit_ascending_L8
  repeat' first | with_reducible exact le_refl _ | refine le_bind ?_ (fun _ => ?_) | refine le_ite ?_ ?_ | refine le_loop (fun _ => ?_) | intro _ | split
noncomputable def circuit_ascending_j2_e : Option Bool :=
  some true
theorem circuit_ascending_j2_le  : Le (circuit_ascending_j2_e ) (circuit_ascending_j2 ) := by
  unfold circuit_ascending_j2_e circuit_ascending_j2
  repeat' first | with_reducible exact le_refl _ | refine le_bind ?_ (fun _ => ?_) | refine le_ite ?_ ?_ | refine le_loop (fun _ => ?_) | intro _ | split
noncomputable def circuit_ascending_e (l : List Int) (low : Int) (high : Int) : Option Bool :=
  (loopE (circuit_ascending_L8_e l high) (low, 0)).bind fun
    | (.inl ()) => circuit_ascending_j2_e
    | (.inr r') => some r'
theorem circuit_ascending_le (l : List Int) (low : Int) (high : Int) : Le (circuit_ascending_e l low high) (circuit_ascending l low high) := by
  unfold circuit_ascending_e circuit_ascending
  repeat' first | with_reducible exact le_refl _ | with_reducible apply circuit_ascending_L8_le | rw [circuit_ascending_L8_le] | with_reducible apply circuit_ascending_j2_le | rw [circuit_ascending_j2_le] | refine le_bind ?_ (fun _ => ?_) | refine le_ite ?_ ?_ | refine le_loop (fun _ => ?_) | intro _ | split
noncomputable def circuit_Check_j40_e (x_53 : Int) (held_4_1 : List Int) : Option (Out ((List Int) × Int) (((List Int)) ⊕ Int)) :=
  some (.nx (held_4_1, wr (x_53 + 1)))
theorem circuit_Check_j40_le (x_53 : Int) (held_4_1 : List Int) : Le (circuit_Check_j40_e x_53 held_4_1) (circuit_Check_j40 x_53 held_4_1) := by
  unfold circuit_Check_j40_e circuit_Check_j40
  repeat' first | with_reducible exact le_refl _ | refine le_bind ?_ (fun _ => ?_) | refine le_ite ?_ ?_ | refine le_loop (fun _ => ?_) | intro _ | split
noncomputable def circuit_Check_L21_e (x42 : Wire) : ((List Int) × Int) → Option (Out ((List Int) × Int) (((List Int))))
  | (held_4_1, x_102) =>
    if decide (x_102 < (List.length x42.Of : Int)) then
      (get x42.Of x_102).bind fun x66 =>
      (get held_4_1 x66).bind fun x68 =>
      some (.nx ((List.set held_4_1 (Int.toNat x66) (wr (x68 + 1))), wr (x_102 + 1)))
    else
      some (.br held_4_1)
theorem circuit_Check_L21_le (x42 : Wire) : ∀ s_0, Le (circuit_Check_L21_e x42 s_0) (circuit_Check_L21 x42 s_0) := by
  intro s_0
  unfold circuit_Check_L21_e circuit_Check_L21
  repeat' first | with_reducible exact le_refl _ | refine le_bind ?_ (fun _ => ?_) | refine le_ite ?_ ?_ | refine le_loop (fun _ => ?_) | intro _ | split
noncomputable def circuit_Check_j51_e (c : Circuit) (held_4 : List Int) (x_53 : Int) (x42 : Wire) (x_75 : Bool) : Option (Out ((List Int) × Int) (((List Int)) ⊕ Int)) :=
  if x_75 then
    (if (decide ((List.length x42.Of : Int) < 1)) || (decide (8 < (List.length x42.Of : Int))) then some true else (circuit_ascending_e x42.Of (wr (x_53 + 1)) (List.length c.Wires : Int)).bind fun y55 =>
    some (!y55)).bind fun c56 =>
    if c56 then
      some (.br (.inr 30))
    else
      (loopE (circuit_Check_L21_e x42) (held_4, 0)).bind fun held_4_1 =>
      circuit_Check_j40_e x_53 held_4_1
  else
    some (.br (.inr 30))
theorem circuit_Check_j51_le (c : Circuit) (held_4 : List Int) (x_53 : Int) (x42 : Wire) (x_75 : Bool) : Le (circuit_Check_j51_e c held_4 x_53 x42 x_75) (circuit_Check_j51 c held_4 x_53 x42 x_75) := by
  unfold circuit_Check_j51_e circuit_Check_j51
  repeat' first | with_reducible exact le_refl _ | with_reducible apply circuit_ascending_le | rw [circuit_ascending_le] | with_reducible apply circuit_Check_L21_le | rw [circuit_Check_L21_le] | with_reducible apply circuit_Check_j40_le | rw [circuit_Check_j40_le] | refine le_bind ?_ (fun _ => ?_) | refine le_ite ?_ ?_ | refine le_loop (fun _ => ?_) | intro _ | split
noncomputable def circuit_Check_L24_e (c : Circuit) : ((List Int) × Int) → Option (Out ((List Int) × Int) (((List Int)) ⊕ Int))
  | (held_4, x_53) =>
    if decide (x_53 < (List.length c.Wires : Int)) then
      (get c.Wires x_53).bind fun x42 =>
      if decide (x42.Kind = 1) then
        (if decide (¬(List.length x42.Of : Int) = 1) then some true else (circuit_ascending_e x42.Of 0 (List.length c.Switches : Int)).bind fun y46 =>
        some (!y46)).bind fun c47 =>
        if c47 then
          some (.br (.inr 30))
        else
          circuit_Check_j40_e x_53 held_4
      else
        if decide (x42.Kind = 2) then
          circuit_Check_j51_e c held_4 x_53 x42 (decide (x42.Kind = 2))
        else
          circuit_Check_j51_e c held_4 x_53 x42 (decide (x42.Kind = 3))
    else
      some (.br (.inl held_4))
theorem circuit_Check_L24_le (c : Circuit) : ∀ s_0, Le (circuit_Check_L24_e c s_0) (circuit_Check_L24 c s_0) := by
  intro s_0
  unfold circuit_Check_L24_e circuit_Check_L24
  repeat' first | with_reducible exact le_refl _ | with_reducible apply circuit_ascending_le | rw [circuit_ascending_le] | with_reducible apply circuit_Check_j40_le | rw [circuit_Check_j40_le] | with_reducible apply circuit_Check_j51_le | rw [circuit_Check_j51_le] | refine le_bind ?_ (fun _ => ?_) | refine le_ite ?_ ?_ | refine le_loop (fun _ => ?_) | intro _ | split
noncomputable def circuit_CheckD2_e (n : Int) : Bool :=
  decide (¬n = 1)
theorem circuit_CheckD2_le (n : Int) : circuit_CheckD2_e n = circuit_CheckD2 n := by unfold circuit_CheckD2_e circuit_CheckD2; rfl
noncomputable def circuit_Check_j22_e (held_4 : List Int) : Option Int :=
  (get held_4 0).bind fun x28 =>
  (if decide (¬x28 = 0) then some true else (sub held_4 1 (List.length held_4 : Int)).bind fun l29 =>
  (slices_ContainsFunc___int_int__e l29 (fun z30 => some (circuit_CheckD2_e z30))).bind fun y31 =>
  some y31).bind fun c32 =>
  if c32 then
    some 30
  else
    some 0
theorem circuit_Check_j22_le (held_4 : List Int) : Le (circuit_Check_j22_e held_4) (circuit_Check_j22 held_4) := by
  unfold circuit_Check_j22_e circuit_Check_j22
  repeat' first | with_reducible exact le_refl _ | with_reducible apply slices_ContainsFunc___int_int__le | rw [slices_ContainsFunc___int_int__le] | with_reducible apply circuit_CheckD2_le | rw [circuit_CheckD2_le] | refine le_bind ?_ (fun _ => ?_) | refine le_ite ?_ ?_ | refine le_loop (fun _ => ?_) | intro _ | split
noncomputable def circuit_Check_e (c : Circuit) : Option Int :=
  (slices_Contains___bool_bool__e ([(decide (1 ≤ c.Hazards)) && (decide (c.Hazards ≤ 8)), (decide (1 ≤ (List.length c.Switches : Int))) && (decide ((List.length c.Switches : Int) ≤ 12)), (decide (1 ≤ (List.length c.Wires : Int))) && (decide ((List.length c.Wires : Int) ≤ 24))]) false).bind fun y12 =>
  (if y12 then some true else (slices_ContainsFunc___int_int__e c.Switches (fun z13 => circuit_CheckD1_e z13 c)).bind fun y14 =>
  some y14).bind fun c15 =>
  if c15 then
    some 30
  else
    (mks 8 (List.length c.Wires : Int) 0).bind fun l20 =>
    (loopE (circuit_Check_L24_e c) (l20, 0)).bind fun
      | (.inl held_4) => circuit_Check_j22_e held_4
      | (.inr r') => some r'
theorem circuit_Check_le (c : Circuit) : Le (circuit_Check_e c) (circuit_Check c) := by
  unfold circuit_Check_e circuit_Check
  repeat' first | with_reducible exact le_refl _ | with_reducible apply slices_Contains___bool_bool__le | rw [slices_Contains___bool_bool__le] | with_reducible apply slices_ContainsFunc___int_int__le | rw [slices_ContainsFunc___int_int__le] | with_reducible apply circuit_CheckD1_le | rw [circuit_CheckD1_le] | with_reducible apply circuit_Check_L24_le | rw [circuit_Check_L24_le] | with_reducible apply circuit_Check_j22_le | rw [circuit_Check_j22_le] | refine le_bind ?_ (fun _ => ?_) | refine le_ite ?_ ?_ | refine le_loop (fun _ => ?_) | intro _ | split
noncomputable def _circuit_state__conducts_e (s : circuit_state) (sw : Int) : Option Bool :=
  (shr .i64 s.open_ sw).bind fun q6 =>
  (if decide ((band q6 1) = 0) then (shr .i64 s.closed sw).bind fun q7 =>
  (if decide ((band q7 1) = 1) then some true else (get s.c.Switches sw).bind fun x8 =>
  some (decide ((band x8 s.hazards) = 0))).bind fun c9 =>
  some c9 else some false).bind fun c10 =>
  some c10
theorem _circuit_state__conducts_le (s : circuit_state) (sw : Int) : Le (_circuit_state__conducts_e s sw) (_circuit_state__conducts s sw) := by
  unfold _circuit_state__conducts_e _circuit_state__conducts
  repeat' first | with_reducible exact le_refl _ | refine le_bind ?_ (fun _ => ?_) | refine le_ite ?_ ?_ | refine le_loop (fun _ => ?_) | intro _ | split
noncomputable def _circuit_state__wireD1_e (self__circuit_state__wire : circuit_state → Int → Option Bool) (k : Int) (c0 : circuit_state) : Option Bool :=
  (self__circuit_state__wire c0 k).bind fun y2 =>
  some (!y2)
theorem _circuit_state__wireD1_le (self__circuit_state__wire self__circuit_state__wire' : circuit_state → Int → Option Bool) (hself__circuit_state__wire : ∀ x0 x1, Le (self__circuit_state__wire x0 x1) (self__circuit_state__wire' x0 x1)) (k : Int) (c0 : circuit_state) : Le (_circuit_state__wireD1_e self__circuit_state__wire k c0) (_circuit_state__wireD1 self__circuit_state__wire' k c0) := by
  unfold _circuit_state__wireD1_e _circuit_state__wireD1
  repeat' first | with_reducible exact le_refl _ | apply hself__circuit_state__wire | refine le_bind ?_ (fun _ => ?_) | refine le_ite ?_ ?_ | refine le_loop (fun _ => ?_) | intro _ | split
noncomputable def _circuit_state__wire_body_e (self__circuit_state__wire : circuit_state → Int → Option Bool) (s : circuit_state) (i : Int) : Option Bool :=
  (get s.c.Wires i).bind fun x2 =>
  if decide (x2.Kind = 1) then
    (get x2.Of 0).bind fun x7 =>
    (_circuit_state__conducts_e s x7).bind fun y8 =>
    some y8
  else
    if decide (x2.Kind = 3) then
      (slices_ContainsFunc___int_int__e x2.Of (fun z12 => self__circuit_state__wire s z12)).bind fun y13 =>
      some y13
    else
      (slices_ContainsFunc___int_int__e x2.Of (fun z16 => _circuit_state__wireD1_e self__circuit_state__wire z16 s)).bind fun y17 =>
      some (!y17)
theorem _circuit_state__wire_body_le (self__circuit_state__wire self__circuit_state__wire' : circuit_state → Int → Option Bool) (hself__circuit_state__wire : ∀ x0 x1, Le (self__circuit_state__wire x0 x1) (self__circuit_state__wire' x0 x1)) (s : circuit_state) (i : Int) : Le (_circuit_state__wire_body_e self__circuit_state__wire s i) (_circuit_state__wire_body self__circuit_state__wire' s i) := by
  unfold _circuit_state__wire_body_e _circuit_state__wire_body
  repeat' first | with_reducible exact le_refl _ | with_reducible apply _circuit_state__conducts_le | rw [_circuit_state__conducts_le] | with_reducible apply slices_ContainsFunc___int_int__le | rw [slices_ContainsFunc___int_int__le] | with_reducible apply _circuit_state__wireD1_le | rw [_circuit_state__wireD1_le] | apply hself__circuit_state__wire | refine le_bind ?_ (fun _ => ?_) | refine le_ite ?_ ?_ | refine le_loop (fun _ => ?_) | intro _ | split
noncomputable def _circuit_state__wire_e : Nat → circuit_state → Int → Option Bool
  | 0 => fun _ _ => none
  | n + 1 => fun s i => _circuit_state__wire_body_e (_circuit_state__wire_e n) s i
theorem _circuit_state__wire_le : ∀ (n : Nat) x0 x1, Le (_circuit_state__wire_e n x0 x1) (_circuit_state__wire n x0 x1)
  | 0, x0, x1 => le_refl _
  | n + 1, x0, x1 => by
    show Le (_circuit_state__wire_body_e (_circuit_state__wire_e n) x0 x1) (_circuit_state__wire_body (_circuit_state__wire n) x0 x1)
    exact _circuit_state__wire_body_le _ _ (_circuit_state__wire_le n) _ _
noncomputable def circuit_weak_j7_e (x_8 : Int) (out_4_1 : List Int) : Option (Out ((List Int) × Int) (((List Int)))) :=
  some (.nx (out_4_1, wr (x_8 + 1)))
theorem circuit_weak_j7_le (x_8 : Int) (out_4_1 : List Int) : Le (circuit_weak_j7_e x_8 out_4_1) (circuit_weak_j7 x_8 out_4_1) := by
  unfold circuit_weak_j7_e circuit_weak_j7
  repeat' first | with_reducible exact le_refl _ | refine le_bind ?_ (fun _ => ?_) | refine le_ite ?_ ?_ | refine le_loop (fun _ => ?_) | intro _ | split
noncomputable def circuit_weak_L7_e (c : Circuit) (closed : Int) : ((List Int) × Int) → Option (Out ((List Int) × Int) (((List Int))))
  | (out_4, x_8) =>
    if decide (x_8 < c.Hazards) then
      (shl .i64 1 x_8).bind fun q10 =>
      (_circuit_state__wire_e 1000 (circuit_state.mk c q10 closed 0) 0).bind fun y11 =>
      if y11 then
        (ap 8 out_4 ([x_8])).bind fun l14 =>
        circuit_weak_j7_e x_8 l14
      else
        circuit_weak_j7_e x_8 out_4
    else
      some (.br out_4)
theorem circuit_weak_L7_le (c : Circuit) (closed : Int) : ∀ s_0, Le (circuit_weak_L7_e c closed s_0) (circuit_weak_L7 c closed s_0) := by
  intro s_0
  unfold circuit_weak_L7_e circuit_weak_L7
  repeat' first | with_reducible exact le_refl _ | with_reducible apply _circuit_state__wire_le | rw [_circuit_state__wire_le] | with_reducible apply circuit_weak_j7_le | rw [circuit_weak_j7_le] | refine le_bind ?_ (fun _ => ?_) | refine le_ite ?_ ?_ | refine le_loop (fun _ => ?_) | intro _ | split
noncomputable def circuit_weak_j2_e (out_4 : List Int) : Option (List Int) :=
  some out_4
theorem circuit_weak_j2_le (out_4 : List Int) : Le (circuit_weak_j2_e out_4) (circuit_weak_j2 out_4) := by
  unfold circuit_weak_j2_e circuit_weak_j2
  repeat' first | with_reducible exact le_refl _ | refine le_bind ?_ (fun _ => ?_) | refine le_ite ?_ ?_ | refine le_loop (fun _ => ?_) | intro _ | split
noncomputable def circuit_weak_e (c : Circuit) (closed : Int) : Option (List Int) :=
  (loopE (circuit_weak_L7_e c closed) ([], 0)).bind fun out_4 =>
  circuit_weak_j2_e out_4
theorem circuit_weak_le (c : Circuit) (closed : Int) : Le (circuit_weak_e c closed) (circuit_weak c closed) := by
  unfold circuit_weak_e circuit_weak
  repeat' first | with_reducible exact le_refl _ | with_reducible apply circuit_weak_L7_le | rw [circuit_weak_L7_le] | with_reducible apply circuit_weak_j2_le | rw [circuit_weak_j2_le] | refine le_bind ?_ (fun _ => ?_) | refine le_ite ?_ ?_ | refine le_loop (fun _ => ?_) | intro _ | split
noncomputable def circuit_Critical_j11_e (x_15 : Int) (out_5_1 : List Int) : Option (Out ((List Int) × Int) (((List Int)))) :=
  some (.nx (out_5_1, wr (x_15 + 1)))
theorem circuit_Critical_j11_le (x_15 : Int) (out_5_1 : List Int) : Le (circuit_Critical_j11_e x_15 out_5_1) (circuit_Critical_j11 x_15 out_5_1) := by
  unfold circuit_Critical_j11_e circuit_Critical_j11
  repeat' first | with_reducible exact le_refl _ | refine le_bind ?_ (fun _ => ?_) | refine le_ite ?_ ?_ | refine le_loop (fun _ => ?_) | intro _ | split
noncomputable def circuit_Critical_L11_e (c : Circuit) : ((List Int) × Int) → Option (Out ((List Int) × Int) (((List Int))))
  | (out_5, x_15) =>
    if decide (x_15 < (List.length c.Switches : Int)) then
      (shl .i64 1 x_15).bind fun q14 =>
      (circuit_weak_e c q14).bind fun y15 =>
      if decide (0 < (List.length y15 : Int)) then
        (ap 8 out_5 ([x_15])).bind fun l18 =>
        circuit_Critical_j11_e x_15 l18
      else
        circuit_Critical_j11_e x_15 out_5
    else
      some (.br out_5)
theorem circuit_Critical_L11_le (c : Circuit) : ∀ s_0, Le (circuit_Critical_L11_e c s_0) (circuit_Critical_L11 c s_0) := by
  intro s_0
  unfold circuit_Critical_L11_e circuit_Critical_L11
  repeat' first | with_reducible exact le_refl _ | with_reducible apply circuit_weak_le | rw [circuit_weak_le] | with_reducible apply circuit_Critical_j11_le | rw [circuit_Critical_j11_le] | refine le_bind ?_ (fun _ => ?_) | refine le_ite ?_ ?_ | refine le_loop (fun _ => ?_) | intro _ | split
noncomputable def circuit_Critical_j6_e (out_5 : List Int) : Option ((List Int) × Int) :=
  some (out_5, 0)
theorem circuit_Critical_j6_le (out_5 : List Int) : Le (circuit_Critical_j6_e out_5) (circuit_Critical_j6 out_5) := by
  unfold circuit_Critical_j6_e circuit_Critical_j6
  repeat' first | with_reducible exact le_refl _ | refine le_bind ?_ (fun _ => ?_) | refine le_ite ?_ ?_ | refine le_loop (fun _ => ?_) | intro _ | split
noncomputable def circuit_Critical_e (c : Circuit) : Option ((List Int) × Int) :=
  (circuit_Check_e c).bind fun y2 =>
  if decide (¬y2 = 0) then
    some ([], y2)
  else
    (loopE (circuit_Critical_L11_e c) ([], 0)).bind fun out_5 =>
    circuit_Critical_j6_e out_5
theorem circuit_Critical_le (c : Circuit) : Le (circuit_Critical_e c) (circuit_Critical c) := by
  unfold circuit_Critical_e circuit_Critical
  repeat' first | with_reducible exact le_refl _ | with_reducible apply circuit_Check_le | rw [circuit_Check_le] | with_reducible apply circuit_Critical_L11_le | rw [circuit_Critical_L11_le] | with_reducible apply circuit_Critical_j6_le | rw [circuit_Critical_j6_le] | refine le_bind ?_ (fun _ => ?_) | refine le_ite ?_ ?_ | refine le_loop (fun _ => ?_) | intro _ | split
noncomputable def slices_Index___int_int__L7_e (s : List Int) (v : Int) : Int → Option (Out Int (Unit ⊕ Int))
  | x_8 =>
    if decide (x_8 < (List.length s : Int)) then
      (get s x_8).bind fun x8 =>
      if decide (v = x8) then
        some (.br (.inr x_8))
      else
        some (.nx (wr (x_8 + 1)))
    else
      some (.br (.inl ()))
theorem slices_Index___int_int__L7_le (s : List Int) (v : Int) : ∀ s_0, Le (slices_Index___int_int__L7_e s v s_0) (slices_Index___int_int__L7 s v s_0) := by
  intro s_0
  unfold slices_Index___int_int__L7_e slices_Index___int_int__L7
  repeat' first | with_reducible exact le_refl _ | refine le_bind ?_ (fun _ => ?_) | refine le_ite ?_ ?_ | refine le_loop (fun _ => ?_) | intro _ | split
noncomputable def slices_Index___int_int__j2_e : Option Int :=
  some (-1)
theorem slices_Index___int_int__j2_le  : Le (slices_Index___int_int__j2_e ) (slices_Index___int_int__j2 ) := by
  unfold slices_Index___int_int__j2_e slices_Index___int_int__j2
  repeat' first | with_reducible exact le_refl _ | refine le_bind ?_ (fun _ => ?_) | refine le_ite ?_ ?_ | refine le_loop (fun _ => ?_) | intro _ | split
noncomputable def slices_Index___int_int__e (s : List Int) (v : Int) : Option Int :=
  (loopE (slices_Index___int_int__L7_e s v) (0)).bind fun
    | (.inl ()) => slices_Index___int_int__j2_e
    | (.inr r') => some r'
theorem slices_Index___int_int__le (s : List Int) (v : Int) : Le (slices_Index___int_int__e s v) (slices_Index___int_int_ s v) := by
  unfold slices_Index___int_int__e slices_Index___int_int_
  repeat' first | with_reducible exact le_refl _ | with_reducible apply slices_Index___int_int__L7_le | rw [slices_Index___int_int__L7_le] | with_reducible apply slices_Index___int_int__j2_le | rw [slices_Index___int_int__j2_le] | refine le_bind ?_ (fun _ => ?_) | refine le_ite ?_ ?_ | refine le_loop (fun _ => ?_) | intro _ | split
noncomputable def slices_Contains___int_int__e (s : List Int) (v : Int) : Option Bool :=
  (slices_Index___int_int__e s v).bind fun y2 =>
  some (decide (0 ≤ y2))
theorem slices_Contains___int_int__le (s : List Int) (v : Int) : Le (slices_Contains___int_int__e s v) (slices_Contains___int_int_ s v) := by
  unfold slices_Contains___int_int__e slices_Contains___int_int_
  repeat' first | with_reducible exact le_refl _ | with_reducible apply slices_Index___int_int__le | rw [slices_Index___int_int__le] | refine le_bind ?_ (fun _ => ?_) | refine le_ite ?_ ?_ | refine le_loop (fun _ => ?_) | intro _ | split
noncomputable def circuit_Pairs_j16_e (b_8 : Int) (out_6_2 : List (Int × Int)) : Option (Out ((List (Int × Int)) × Int) (((List (Int × Int))))) :=
  some (.nx (out_6_2, wr (b_8 + 1)))
theorem circuit_Pairs_j16_le (b_8 : Int) (out_6_2 : List (Int × Int)) : Le (circuit_Pairs_j16_e b_8 out_6_2) (circuit_Pairs_j16 b_8 out_6_2) := by
  unfold circuit_Pairs_j16_e circuit_Pairs_j16
  repeat' first | with_reducible exact le_refl _ | refine le_bind ?_ (fun _ => ?_) | refine le_ite ?_ ?_ | refine le_loop (fun _ => ?_) | intro _ | split
noncomputable def circuit_Pairs_L13_e (c : Circuit) (y2 : (List Int) × Int) (x_20 : Int) : ((List (Int × Int)) × Int) → Option (Out ((List (Int × Int)) × Int) (((List (Int × Int)))))
  | (out_6_1, b_8) =>
    if decide (b_8 < (List.length c.Switches : Int)) then
      (slices_Contains___int_int__e y2.1 x_20).bind fun y24 =>
      (if !y24 then (slices_Contains___int_int__e y2.1 b_8).bind fun y25 =>
      some (!y25) else some false).bind fun c26 =>
      (if c26 then (shl .i64 1 x_20).bind fun q27 =>
      (shl .i64 1 b_8).bind fun q28 =>
      (circuit_weak_e c (bor q27 q28)).bind fun y29 =>
      some (decide (0 < (List.length y29 : Int))) else some false).bind fun c30 =>
      if c30 then
        (ap 16 out_6_1 ([(x_20, b_8)])).bind fun l35 =>
        circuit_Pairs_j16_e b_8 l35
      else
        circuit_Pairs_j16_e b_8 out_6_1
    else
      some (.br out_6_1)
theorem circuit_Pairs_L13_le (c : Circuit) (y2 : (List Int) × Int) (x_20 : Int) : ∀ s_0, Le (circuit_Pairs_L13_e c y2 x_20 s_0) (circuit_Pairs_L13 c y2 x_20 s_0) := by
  intro s_0
  unfold circuit_Pairs_L13_e circuit_Pairs_L13
  repeat' first | with_reducible exact le_refl _ | with_reducible apply slices_Contains___int_int__le | rw [slices_Contains___int_int__le] | with_reducible apply circuit_weak_le | rw [circuit_weak_le] | with_reducible apply circuit_Pairs_j16_le | rw [circuit_Pairs_j16_le] | refine le_bind ?_ (fun _ => ?_) | refine le_ite ?_ ?_ | refine le_loop (fun _ => ?_) | intro _ | split
noncomputable def circuit_Pairs_j11_e (x_20 : Int) (out_6_1 : List (Int × Int)) : Option (Out ((List (Int × Int)) × Int) (((List (Int × Int))))) :=
  some (.nx (out_6_1, wr (x_20 + 1)))
theorem circuit_Pairs_j11_le (x_20 : Int) (out_6_1 : List (Int × Int)) : Le (circuit_Pairs_j11_e x_20 out_6_1) (circuit_Pairs_j11 x_20 out_6_1) := by
  unfold circuit_Pairs_j11_e circuit_Pairs_j11
  repeat' first | with_reducible exact le_refl _ | refine le_bind ?_ (fun _ => ?_) | refine le_ite ?_ ?_ | refine le_loop (fun _ => ?_) | intro _ | split
noncomputable def circuit_Pairs_L15_e (c : Circuit) (y2 : (List Int) × Int) : ((List (Int × Int)) × Int) → Option (Out ((List (Int × Int)) × Int) (((List (Int × Int)))))
  | (out_6, x_20) =>
    if decide (x_20 < (List.length c.Switches : Int)) then
      (loopE (circuit_Pairs_L13_e c y2 x_20) (out_6, wr (x_20 + 1))).bind fun out_6_1 =>
      circuit_Pairs_j11_e x_20 out_6_1
    else
      some (.br out_6)
theorem circuit_Pairs_L15_le (c : Circuit) (y2 : (List Int) × Int) : ∀ s_0, Le (circuit_Pairs_L15_e c y2 s_0) (circuit_Pairs_L15 c y2 s_0) := by
  intro s_0
  unfold circuit_Pairs_L15_e circuit_Pairs_L15
  repeat' first | with_reducible exact le_refl _ | with_reducible apply circuit_Pairs_L13_le | rw [circuit_Pairs_L13_le] | with_reducible apply circuit_Pairs_j11_le | rw [circuit_Pairs_j11_le] | refine le_bind ?_ (fun _ => ?_) | refine le_ite ?_ ?_ | refine le_loop (fun _ => ?_) | intro _ | split
noncomputable def circuit_Pairs_j6_e (out_6 : List (Int × Int)) : Option ((List (Int × Int)) × Int) :=
  some (out_6, 0)
theorem circuit_Pairs_j6_le (out_6 : List (Int × Int)) : Le (circuit_Pairs_j6_e out_6) (circuit_Pairs_j6 out_6) := by
  unfold circuit_Pairs_j6_e circuit_Pairs_j6
  repeat' first | with_reducible exact le_refl _ | refine le_bind ?_ (fun _ => ?_) | refine le_ite ?_ ?_ | refine le_loop (fun _ => ?_) | intro _ | split
noncomputable def circuit_Pairs_e (c : Circuit) : Option ((List (Int × Int)) × Int) :=
  (circuit_Critical_e c).bind fun y2 =>
  if decide (¬y2.2 = 0) then
    some ([], y2.2)
  else
    (loopE (circuit_Pairs_L15_e c y2) ([], 0)).bind fun out_6 =>
    circuit_Pairs_j6_e out_6
theorem circuit_Pairs_le (c : Circuit) : Le (circuit_Pairs_e c) (circuit_Pairs c) := by
  unfold circuit_Pairs_e circuit_Pairs
  repeat' first | with_reducible exact le_refl _ | with_reducible apply circuit_Critical_le | rw [circuit_Critical_le] | with_reducible apply circuit_Pairs_L15_le | rw [circuit_Pairs_L15_le] | with_reducible apply circuit_Pairs_j6_le | rw [circuit_Pairs_j6_le] | refine le_bind ?_ (fun _ => ?_) | refine le_ite ?_ ?_ | refine le_loop (fun _ => ?_) | intro _ | split
noncomputable def l03_Example_e : Circuit × (List Trial) :=
  ((Circuit.mk 2 ([1, 1, 2, 2]) ([(Wire.mk 2 ([1, 2, 3, 4])), (Wire.mk 1 ([0])), (Wire.mk 1 ([1])), (Wire.mk 1 ([2])), (Wire.mk 1 ([3]))])), [(Trial.mk 1 1), (Trial.mk 1 2), (Trial.mk 2 3), (Trial.mk 2 4)])
theorem l03_Example_le : l03_Example_e = l03_Example := by unfold l03_Example_e l03_Example; rfl
noncomputable def circuit_check_L12_e (c : Circuit) (l : List Trial) : Int → Option (Out Int (Unit ⊕ Int))
  | x_18 =>
    if decide (x_18 < (List.length l : Int)) then
      (get l x_18).bind fun x14 =>
      (circuit_isSet_e x14.Hazards c.Hazards).bind fun y16 =>
      if ((!y16) || (decide (x14.Wire < 0))) || (decide ((List.length c.Wires : Int) ≤ x14.Wire)) then
        some (.br (.inr 31))
      else
        some (.nx (wr (x_18 + 1)))
    else
      some (.br (.inl ()))
theorem circuit_check_L12_le (c : Circuit) (l : List Trial) : ∀ s_0, Le (circuit_check_L12_e c l s_0) (circuit_check_L12 c l s_0) := by
  intro s_0
  unfold circuit_check_L12_e circuit_check_L12
  repeat' first | with_reducible exact le_refl _ | with_reducible apply circuit_isSet_le | rw [circuit_isSet_le] | refine le_bind ?_ (fun _ => ?_) | refine le_ite ?_ ?_ | refine le_loop (fun _ => ?_) | intro _ | split
noncomputable def circuit_check_j8_e : Option Int :=
  some 0
theorem circuit_check_j8_le  : Le (circuit_check_j8_e ) (circuit_check_j8 ) := by
  unfold circuit_check_j8_e circuit_check_j8
  repeat' first | with_reducible exact le_refl _ | refine le_bind ?_ (fun _ => ?_) | refine le_ite ?_ ?_ | refine le_loop (fun _ => ?_) | intro _ | split
noncomputable def circuit_check_e (c : Circuit) (l : List Trial) : Option Int :=
  (circuit_Check_e c).bind fun y2 =>
  if decide (¬y2 = 0) then
    some y2
  else
    if decide (12 < (List.length l : Int)) then
      some 2
    else
      (loopE (circuit_check_L12_e c l) (0)).bind fun
        | (.inl ()) => circuit_check_j8_e
        | (.inr r') => some r'
theorem circuit_check_le (c : Circuit) (l : List Trial) : Le (circuit_check_e c l) (circuit_check c l) := by
  unfold circuit_check_e circuit_check
  repeat' first | with_reducible exact le_refl _ | with_reducible apply circuit_Check_le | rw [circuit_Check_le] | with_reducible apply circuit_check_L12_le | rw [circuit_check_L12_le] | with_reducible apply circuit_check_j8_le | rw [circuit_check_j8_le] | refine le_bind ?_ (fun _ => ?_) | refine le_ite ?_ ?_ | refine le_loop (fun _ => ?_) | intro _ | split
noncomputable def circuit_checkRota_L12_e (l : List Trial) (r_ : Rota) : Int → Option (Out Int (Unit ⊕ Int))
  | x_39 =>
    if decide (x_39 < (List.length r_.Nights : Int)) then
      (get r_.Nights x_39).bind fun x17 =>
      (circuit_ascending_e x17 0 (List.length l : Int)).bind fun y19 =>
      if !y19 then
        some (.br (.inr 32))
      else
        some (.nx (wr (x_39 + 1)))
    else
      some (.br (.inl ()))
theorem circuit_checkRota_L12_le (l : List Trial) (r_ : Rota) : ∀ s_0, Le (circuit_checkRota_L12_e l r_ s_0) (circuit_checkRota_L12 l r_ s_0) := by
  intro s_0
  unfold circuit_checkRota_L12_e circuit_checkRota_L12
  repeat' first | with_reducible exact le_refl _ | with_reducible apply circuit_ascending_le | rw [circuit_ascending_le] | refine le_bind ?_ (fun _ => ?_) | refine le_ite ?_ ?_ | refine le_loop (fun _ => ?_) | intro _ | split
noncomputable def circuit_checkRota_j11_e : Option Int :=
  some 0
theorem circuit_checkRota_j11_le  : Le (circuit_checkRota_j11_e ) (circuit_checkRota_j11 ) := by
  unfold circuit_checkRota_j11_e circuit_checkRota_j11
  repeat' first | with_reducible exact le_refl _ | refine le_bind ?_ (fun _ => ?_) | refine le_ite ?_ ?_ | refine le_loop (fun _ => ?_) | intro _ | split
noncomputable def circuit_checkRota_e (c : Circuit) (l : List Trial) (r_ : Rota) : Option Int :=
  (circuit_check_e c l).bind fun y2 =>
  if decide (¬y2 = 0) then
    some y2
  else
    if (((decide ((List.length r_.Nights : Int) < 1)) || (decide (60 < (List.length r_.Nights : Int)))) || (decide (r_.Gap < 1))) || (decide (60 < r_.Gap)) then
      some 32
    else
      (loopE (circuit_checkRota_L12_e l r_) (0)).bind fun
        | (.inl ()) => circuit_checkRota_j11_e
        | (.inr r') => some r'
theorem circuit_checkRota_le (c : Circuit) (l : List Trial) (r_ : Rota) : Le (circuit_checkRota_e c l r_) (circuit_checkRota c l r_) := by
  unfold circuit_checkRota_e circuit_checkRota
  repeat' first | with_reducible exact le_refl _ | with_reducible apply circuit_check_le | rw [circuit_check_le] | with_reducible apply circuit_checkRota_L12_le | rw [circuit_checkRota_L12_le] | with_reducible apply circuit_checkRota_j11_le | rw [circuit_checkRota_j11_le] | refine le_bind ?_ (fun _ => ?_) | refine le_ite ?_ ?_ | refine le_loop (fun _ => ?_) | intro _ | split
noncomputable def circuit_shows_e (c : Circuit) (t_ : Trial) (closed : Int) : Option Bool :=
  (_circuit_state__wire_e 1000 (circuit_state.mk c t_.Hazards closed 0) t_.Wire).bind fun y4 =>
  (if y4 then (_circuit_state__wire_e 1000 (circuit_state.mk c t_.Hazards 0 0) t_.Wire).bind fun y5 =>
  some (!y5) else some false).bind fun c6 =>
  some c6
theorem circuit_shows_le (c : Circuit) (t_ : Trial) (closed : Int) : Le (circuit_shows_e c t_ closed) (circuit_shows c t_ closed) := by
  unfold circuit_shows_e circuit_shows
  repeat' first | with_reducible exact le_refl _ | with_reducible apply _circuit_state__wire_le | rw [_circuit_state__wire_le] | refine le_bind ?_ (fun _ => ?_) | refine le_ite ?_ ?_ | refine le_loop (fun _ => ?_) | intro _ | split
noncomputable def circuit_shown_j7_e (x_9 : Int) (set_4_1 : Int) : Option (Out (Int × Int) Int) :=
  some (.nx (set_4_1, wr (x_9 + 1)))
theorem circuit_shown_j7_le (x_9 : Int) (set_4_1 : Int) : Le (circuit_shown_j7_e x_9 set_4_1) (circuit_shown_j7 x_9 set_4_1) := by
  unfold circuit_shown_j7_e circuit_shown_j7
  repeat' first | with_reducible exact le_refl _ | refine le_bind ?_ (fun _ => ?_) | refine le_ite ?_ ?_ | refine le_loop (fun _ => ?_) | intro _ | split
noncomputable def circuit_shown_L7_e (c : Circuit) (t_ : Trial) : (Int × Int) → Option (Out (Int × Int) Int)
  | (set_4, x_9) =>
    if decide (x_9 < (List.length c.Switches : Int)) then
      (shl .i64 1 x_9).bind fun q10 =>
      (circuit_shows_e c t_ q10).bind fun y11 =>
      if y11 then
        circuit_shown_j7_e x_9 (bor set_4 q10)
      else
        circuit_shown_j7_e x_9 set_4
    else
      some (.br set_4)
theorem circuit_shown_L7_le (c : Circuit) (t_ : Trial) : ∀ s_0, Le (circuit_shown_L7_e c t_ s_0) (circuit_shown_L7 c t_ s_0) := by
  intro s_0
  unfold circuit_shown_L7_e circuit_shown_L7
  repeat' first | with_reducible exact le_refl _ | with_reducible apply circuit_shows_le | rw [circuit_shows_le] | with_reducible apply circuit_shown_j7_le | rw [circuit_shown_j7_le] | refine le_bind ?_ (fun _ => ?_) | refine le_ite ?_ ?_ | refine le_loop (fun _ => ?_) | intro _ | split
noncomputable def circuit_shown_j2_e (set_4 : Int) : Option Int :=
  some set_4
theorem circuit_shown_j2_le (set_4 : Int) : Le (circuit_shown_j2_e set_4) (circuit_shown_j2 set_4) := by
  unfold circuit_shown_j2_e circuit_shown_j2
  repeat' first | with_reducible exact le_refl _ | refine le_bind ?_ (fun _ => ?_) | refine le_ite ?_ ?_ | refine le_loop (fun _ => ?_) | intro _ | split
noncomputable def circuit_shown_e (c : Circuit) (t_ : Trial) : Option Int :=
  (loopE (circuit_shown_L7_e c t_) (0, 0)).bind fun set_4 =>
  circuit_shown_j2_e set_4
theorem circuit_shown_le (c : Circuit) (t_ : Trial) : Le (circuit_shown_e c t_) (circuit_shown c t_) := by
  unfold circuit_shown_e circuit_shown
  repeat' first | with_reducible exact le_refl _ | with_reducible apply circuit_shown_L7_le | rw [circuit_shown_L7_le] | with_reducible apply circuit_shown_j2_le | rw [circuit_shown_j2_le] | refine le_bind ?_ (fun _ => ?_) | refine le_ite ?_ ?_ | refine le_loop (fun _ => ?_) | intro _ | split
noncomputable def circuit_all_L8_e (c : Circuit) (l : List Trial) : ((List Int) × Int × Int) → Option (Out ((List Int) × Int × Int) (((List Int) × Int)))
  | (each_4, whole_5, x_11) =>
    if decide (x_11 < (List.length l : Int)) then
      (get l x_11).bind fun x8 =>
      (circuit_shown_e c x8).bind fun y10 =>
      (ap 8 each_4 ([y10])).bind fun l12 =>
      some (.nx (l12, bor whole_5 y10, wr (x_11 + 1)))
    else
      some (.br (each_4, whole_5))
theorem circuit_all_L8_le (c : Circuit) (l : List Trial) : ∀ s_0, Le (circuit_all_L8_e c l s_0) (circuit_all_L8 c l s_0) := by
  intro s_0
  unfold circuit_all_L8_e circuit_all_L8
  repeat' first | with_reducible exact le_refl _ | with_reducible apply circuit_shown_le | rw [circuit_shown_le] | refine le_bind ?_ (fun _ => ?_) | refine le_ite ?_ ?_ | refine le_loop (fun _ => ?_) | intro _ | split
noncomputable def circuit_all_j2_e (each_4 : List Int) (whole_5 : Int) : Option ((List Int) × Int) :=
  some (each_4, whole_5)
theorem circuit_all_j2_le (each_4 : List Int) (whole_5 : Int) : Le (circuit_all_j2_e each_4 whole_5) (circuit_all_j2 each_4 whole_5) := by
  unfold circuit_all_j2_e circuit_all_j2
  repeat' first | with_reducible exact le_refl _ | refine le_bind ?_ (fun _ => ?_) | refine le_ite ?_ ?_ | refine le_loop (fun _ => ?_) | intro _ | split
noncomputable def circuit_all_e (c : Circuit) (l : List Trial) : Option ((List Int) × Int) :=
  (loopE (circuit_all_L8_e c l) ([], 0, 0)).bind fun
    | (each_4, whole_5) => circuit_all_j2_e each_4 whole_5
theorem circuit_all_le (c : Circuit) (l : List Trial) : Le (circuit_all_e c l) (circuit_all c l) := by
  unfold circuit_all_e circuit_all
  repeat' first | with_reducible exact le_refl _ | with_reducible apply circuit_all_L8_le | rw [circuit_all_L8_le] | with_reducible apply circuit_all_j2_le | rw [circuit_all_j2_le] | refine le_bind ?_ (fun _ => ?_) | refine le_ite ?_ ?_ | refine le_loop (fun _ => ?_) | intro _ | split
noncomputable def circuit_CheckRota_L14_e (y6 : (List Int) × Int) (x_37 : Int) (x19 : List Int) : ((List Int) × Int) → Option (Out ((List Int) × Int) (((List Int))))
  | (nights_12_1, x_44) =>
    if decide (x_44 < (List.length x19 : Int)) then
      (get x19 x_44).bind fun x25 =>
      (get nights_12_1 x_37).bind fun x28 =>
      (get y6.1 x25).bind fun x29 =>
      some (.nx ((List.set nights_12_1 (Int.toNat x_37) (bor x28 x29)), wr (x_44 + 1)))
    else
      some (.br nights_12_1)
theorem circuit_CheckRota_L14_le (y6 : (List Int) × Int) (x_37 : Int) (x19 : List Int) : ∀ s_0, Le (circuit_CheckRota_L14_e y6 x_37 x19 s_0) (circuit_CheckRota_L14 y6 x_37 x19 s_0) := by
  intro s_0
  unfold circuit_CheckRota_L14_e circuit_CheckRota_L14
  repeat' first | with_reducible exact le_refl _ | refine le_bind ?_ (fun _ => ?_) | refine le_ite ?_ ?_ | refine le_loop (fun _ => ?_) | intro _ | split
noncomputable def circuit_CheckRota_j17_e (x_37 : Int) (nights_12_1 : List Int) : Option (Out ((List Int) × Int) (((List Int)))) :=
  some (.nx (nights_12_1, wr (x_37 + 1)))
theorem circuit_CheckRota_j17_le (x_37 : Int) (nights_12_1 : List Int) : Le (circuit_CheckRota_j17_e x_37 nights_12_1) (circuit_CheckRota_j17 x_37 nights_12_1) := by
  unfold circuit_CheckRota_j17_e circuit_CheckRota_j17
  repeat' first | with_reducible exact le_refl _ | refine le_bind ?_ (fun _ => ?_) | refine le_ite ?_ ?_ | refine le_loop (fun _ => ?_) | intro _ | split
noncomputable def circuit_CheckRota_L16_e (r_ : Rota) (y6 : (List Int) × Int) : ((List Int) × Int) → Option (Out ((List Int) × Int) (((List Int))))
  | (nights_12, x_37) =>
    if decide (x_37 < (List.length r_.Nights : Int)) then
      (get r_.Nights x_37).bind fun x19 =>
      (loopE (circuit_CheckRota_L14_e y6 x_37 x19) (nights_12, 0)).bind fun nights_12_1 =>
      circuit_CheckRota_j17_e x_37 nights_12_1
    else
      some (.br nights_12)
theorem circuit_CheckRota_L16_le (r_ : Rota) (y6 : (List Int) × Int) : ∀ s_0, Le (circuit_CheckRota_L16_e r_ y6 s_0) (circuit_CheckRota_L16 r_ y6 s_0) := by
  intro s_0
  unfold circuit_CheckRota_L16_e circuit_CheckRota_L16
  repeat' first | with_reducible exact le_refl _ | with_reducible apply circuit_CheckRota_L14_le | rw [circuit_CheckRota_L14_le] | with_reducible apply circuit_CheckRota_j17_le | rw [circuit_CheckRota_j17_le] | refine le_bind ?_ (fun _ => ?_) | refine le_ite ?_ ?_ | refine le_loop (fun _ => ?_) | intro _ | split
noncomputable def circuit_gap_L13_e (many : Int) (nights : List Int) (sw_6 : Int) (x_17 : Int) : (Bool × Int) → Option (Out (Bool × Int) Bool)
  | (made_9, x_21) =>
    if decide (x_21 < many) then
      (if made_9 then some true else (rem (wr (x_17 + x_21)) (List.length nights : Int)).bind fun q24 =>
      (get nights q24).bind fun x25 =>
      (shr .i64 x25 sw_6).bind fun q26 =>
      some (decide ((band q26 1) = 1))).bind fun c27 =>
      some (.nx (c27, wr (x_21 + 1)))
    else
      some (.br made_9)
theorem circuit_gap_L13_le (many : Int) (nights : List Int) (sw_6 : Int) (x_17 : Int) : ∀ s_0, Le (circuit_gap_L13_e many nights sw_6 x_17 s_0) (circuit_gap_L13 many nights sw_6 x_17 s_0) := by
  intro s_0
  unfold circuit_gap_L13_e circuit_gap_L13
  repeat' first | with_reducible exact le_refl _ | refine le_bind ?_ (fun _ => ?_) | refine le_ite ?_ ?_ | refine le_loop (fun _ => ?_) | intro _ | split
noncomputable def circuit_gap_j12_e (sw_6 : Int) (x_17 : Int) : Option (Out (Int × Int) (Unit ⊕ ((Int × Int × Bool)))) :=
  some (.nx (sw_6, wr (x_17 + 1)))
theorem circuit_gap_j12_le (sw_6 : Int) (x_17 : Int) : Le (circuit_gap_j12_e sw_6 x_17) (circuit_gap_j12 sw_6 x_17) := by
  unfold circuit_gap_j12_e circuit_gap_j12
  repeat' first | with_reducible exact le_refl _ | refine le_bind ?_ (fun _ => ?_) | refine le_ite ?_ ?_ | refine le_loop (fun _ => ?_) | intro _ | split
noncomputable def circuit_gap_j14_e (sw_6 : Int) (x_17 : Int) (made_9 : Bool) : Option (Out (Int × Int) (Unit ⊕ ((Int × Int × Bool)))) :=
  if !made_9 then
    some (.br (.inr (sw_6, x_17, false)))
  else
    circuit_gap_j12_e sw_6 x_17
theorem circuit_gap_j14_le (sw_6 : Int) (x_17 : Int) (made_9 : Bool) : Le (circuit_gap_j14_e sw_6 x_17 made_9) (circuit_gap_j14 sw_6 x_17 made_9) := by
  unfold circuit_gap_j14_e circuit_gap_j14
  repeat' first | with_reducible exact le_refl _ | with_reducible apply circuit_gap_j12_le | rw [circuit_gap_j12_le] | refine le_bind ?_ (fun _ => ?_) | refine le_ite ?_ ?_ | refine le_loop (fun _ => ?_) | intro _ | split
noncomputable def circuit_gap_L17_e (many : Int) (nights : List Int) : (Int × Int) → Option (Out (Int × Int) (Unit ⊕ ((Int × Int × Bool))))
  | (sw_6, x_17) =>
    if decide (x_17 < (List.length nights : Int)) then
      (loopE (circuit_gap_L13_e many nights sw_6 x_17) (false, 0)).bind fun made_9 =>
      circuit_gap_j14_e sw_6 x_17 made_9
    else
      some (.br (.inl ()))
theorem circuit_gap_L17_le (many : Int) (nights : List Int) : ∀ s_0, Le (circuit_gap_L17_e many nights s_0) (circuit_gap_L17 many nights s_0) := by
  intro s_0
  unfold circuit_gap_L17_e circuit_gap_L17
  repeat' first | with_reducible exact le_refl _ | with_reducible apply circuit_gap_L13_le | rw [circuit_gap_L13_le] | with_reducible apply circuit_gap_j14_le | rw [circuit_gap_j14_le] | refine le_bind ?_ (fun _ => ?_) | refine le_ite ?_ ?_ | refine le_loop (fun _ => ?_) | intro _ | split
noncomputable def circuit_gap_j7_e (x_12 : Int) : Option (Out Int (Unit ⊕ ((Int × Int × Bool)))) :=
  some (.nx (wr (x_12 + 1)))
theorem circuit_gap_j7_le (x_12 : Int) : Le (circuit_gap_j7_e x_12) (circuit_gap_j7 x_12) := by
  unfold circuit_gap_j7_e circuit_gap_j7
  repeat' first | with_reducible exact le_refl _ | refine le_bind ?_ (fun _ => ?_) | refine le_ite ?_ ?_ | refine le_loop (fun _ => ?_) | intro _ | split
noncomputable def circuit_gap_L19_e (switches : Int) (many : Int) (nights : List Int) : Int → Option (Out Int (Unit ⊕ ((Int × Int × Bool))))
  | x_12 =>
    if decide (x_12 < switches) then
      (loopE (circuit_gap_L17_e many nights) (x_12, 0)).bind fun
        | (.inl ()) => circuit_gap_j7_e x_12
        | (.inr r') => some (.br (.inr r'))
    else
      some (.br (.inl ()))
theorem circuit_gap_L19_le (switches : Int) (many : Int) (nights : List Int) : ∀ s_0, Le (circuit_gap_L19_e switches many nights s_0) (circuit_gap_L19 switches many nights s_0) := by
  intro s_0
  unfold circuit_gap_L19_e circuit_gap_L19
  repeat' first | with_reducible exact le_refl _ | with_reducible apply circuit_gap_L17_le | rw [circuit_gap_L17_le] | with_reducible apply circuit_gap_j7_le | rw [circuit_gap_j7_le] | refine le_bind ?_ (fun _ => ?_) | refine le_ite ?_ ?_ | refine le_loop (fun _ => ?_) | intro _ | split
noncomputable def circuit_gap_j2_e : Option (Int × Int × Bool) :=
  some (0, 0, true)
theorem circuit_gap_j2_le  : Le (circuit_gap_j2_e ) (circuit_gap_j2 ) := by
  unfold circuit_gap_j2_e circuit_gap_j2
  repeat' first | with_reducible exact le_refl _ | refine le_bind ?_ (fun _ => ?_) | refine le_ite ?_ ?_ | refine le_loop (fun _ => ?_) | intro _ | split
noncomputable def circuit_gap_e (switches : Int) (many : Int) (nights : List Int) : Option (Int × Int × Bool) :=
  (loopE (circuit_gap_L19_e switches many nights) (0)).bind fun
    | (.inl ()) => circuit_gap_j2_e
    | (.inr r') => some r'
theorem circuit_gap_le (switches : Int) (many : Int) (nights : List Int) : Le (circuit_gap_e switches many nights) (circuit_gap switches many nights) := by
  unfold circuit_gap_e circuit_gap
  repeat' first | with_reducible exact le_refl _ | with_reducible apply circuit_gap_L19_le | rw [circuit_gap_L19_le] | with_reducible apply circuit_gap_j2_le | rw [circuit_gap_j2_le] | refine le_bind ?_ (fun _ => ?_) | refine le_ite ?_ ?_ | refine le_loop (fun _ => ?_) | intro _ | split
noncomputable def circuit_CheckRota_j10_e (c : Circuit) (r_ : Rota) (nights_12 : List Int) : Option (Int × Int × Bool × Int) :=
  (circuit_gap_e (List.length c.Switches : Int) r_.Gap nights_12).bind fun y12 =>
  some (y12.1, y12.2.1, y12.2.2, 0)
theorem circuit_CheckRota_j10_le (c : Circuit) (r_ : Rota) (nights_12 : List Int) : Le (circuit_CheckRota_j10_e c r_ nights_12) (circuit_CheckRota_j10 c r_ nights_12) := by
  unfold circuit_CheckRota_j10_e circuit_CheckRota_j10
  repeat' first | with_reducible exact le_refl _ | with_reducible apply circuit_gap_le | rw [circuit_gap_le] | refine le_bind ?_ (fun _ => ?_) | refine le_ite ?_ ?_ | refine le_loop (fun _ => ?_) | intro _ | split
noncomputable def circuit_CheckRota_e (c : Circuit) (l : List Trial) (r_ : Rota) : Option (Int × Int × Bool × Int) :=
  (circuit_checkRota_e c l r_).bind fun y2 =>
  if decide (¬y2 = 0) then
    some (0, 0, false, y2)
  else
    (circuit_all_e c l).bind fun y6 =>
    (mks 8 (List.length r_.Nights : Int) 0).bind fun l8 =>
    (loopE (circuit_CheckRota_L16_e r_ y6) (l8, 0)).bind fun nights_12 =>
    circuit_CheckRota_j10_e c r_ nights_12
theorem circuit_CheckRota_le (c : Circuit) (l : List Trial) (r_ : Rota) : Le (circuit_CheckRota_e c l r_) (circuit_CheckRota c l r_) := by
  unfold circuit_CheckRota_e circuit_CheckRota
  repeat' first | with_reducible exact le_refl _ | with_reducible apply circuit_checkRota_le | rw [circuit_checkRota_le] | with_reducible apply circuit_all_le | rw [circuit_all_le] | with_reducible apply circuit_CheckRota_L16_le | rw [circuit_CheckRota_L16_le] | with_reducible apply circuit_CheckRota_j10_le | rw [circuit_CheckRota_j10_le] | refine le_bind ?_ (fun _ => ?_) | refine le_ite ?_ ?_ | refine le_loop (fun _ => ?_) | intro _ | split
noncomputable def l03_works_e : Option Bool :=
  (circuit_Pairs_e l03_Example_e.1).bind fun y2 =>
  (circuit_CheckRota_e l03_Example_e.1 l03_Example_e.2 (Rota.mk ([[0], [1], [2], [3]]) 4)).bind fun y4 =>
  (if (((decide (y2.2 = 0)) && (decide (y4.2.2.2 = 0))) && y4.2.2.1) && (decide ((List.length y2.1 : Int) = 2)) then (get y2.1 0).bind fun x9 =>
  some (decide (x9.1 = 0) && decide (x9.2 = 1)) else some false).bind fun c10 =>
  (if c10 then (get y2.1 1).bind fun x11 =>
  some (decide (x11.1 = 2) && decide (x11.2 = 3)) else some false).bind fun c12 =>
  some c12
theorem l03_works_le  : Le (l03_works_e ) (l03_works ) := by
  unfold l03_works_e l03_works
  repeat' first | with_reducible exact le_refl _ | with_reducible apply circuit_Pairs_le | rw [circuit_Pairs_le] | with_reducible apply l03_Example_le | rw [l03_Example_le] | with_reducible apply circuit_CheckRota_le | rw [circuit_CheckRota_le] | refine le_bind ?_ (fun _ => ?_) | refine le_ite ?_ ?_ | refine le_loop (fun _ => ?_) | intro _ | split
end Go.Nw.DM
