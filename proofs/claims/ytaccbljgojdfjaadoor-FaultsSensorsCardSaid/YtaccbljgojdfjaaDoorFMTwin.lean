/- Twins of the models, which the kernel evaluates. -/
import Derived.Test.YtaccbljgojdfjaaDoorNwTwin
import Derived.Test.YtaccbljgojdfjaaDoorFM
set_option linter.all false
set_option linter.unusedVariables false
set_option linter.unusedSimpArgs false
set_option linter.unusedSectionVars false
namespace Go.Nw.FM
open Go.Nw.Fault
set_option linter.unusedVariables false
noncomputable def c2i (x : Int) : Option Int :=
  if decide (x = 0) then
    some 64
  else
    (shr .u64 (IntKind.wrap .u64 ((b0m .u64 x (IntKind.wrap .u64 (0 - x))) * 285870213051353865)) 58).bind fun q5 =>
    (get gl_1 q5).bind fun x6 =>
    some (IntKind.wrap .i64 x6)
theorem c7i (x : Int) : Le (c2i x) (b68 x) := by
  unfold c2i b68
  repeat' first | with_reducible exact le_refl _ | refine b3g ?_ (fun _ => ?_) | refine b3h ?_ ?_ | refine b3i (fun _ => ?_) | intro _ | split
noncomputable def c2j (x : Int) : Option Int :=
  (c2i x).bind fun y3 =>
  some y3
theorem c7j (x : Int) : Le (c2j x) (b67 x) := by
  unfold c2j b67
  repeat' first | with_reducible exact le_refl _ | with_reducible apply c7i | rw [c7i] | refine b3g ?_ (fun _ => ?_) | refine b3h ?_ ?_ | refine b3i (fun _ => ?_) | intro _ | split
noncomputable def c06 : (Int × (List Int)) → Option (Out (Int × (List Int)) (((List Int))))
  | (set_0, l_3) =>
    if decide (¬set_0 = 0) then
      (c2j (IntKind.wrap .u64 set_0)).bind fun y9 =>
      (ap 8 l_3 ([y9])).bind fun l10 =>
      some (.nx (b28 set_0 (wr (set_0 - 1)), l10))
    else
      some (.br l_3)
theorem c4n  : ∀ s_0, Le (c06  s_0) (b8j  s_0) := by
  intro s_0
  unfold c06 b8j
  repeat' first | with_reducible exact le_refl _ | with_reducible apply c7j | rw [c7j] | refine b3g ?_ (fun _ => ?_) | refine b3h ?_ ?_ | refine b3i (fun _ => ?_) | intro _ | split
noncomputable def c08 (l_3 : List Int) : Option (List Int) :=
  some l_3
theorem c4o (l_3 : List Int) : Le (c08 l_3) (b6r l_3) := by
  unfold c08 b6r
  repeat' first | with_reducible exact le_refl _ | refine b3g ?_ (fun _ => ?_) | refine b3h ?_ ?_ | refine b3i (fun _ => ?_) | intro _ | split
noncomputable def c07 (set : Int) : Option (List Int) :=
  (c2c (c06) (set, [])).bind fun l_3 =>
  c08 l_3
theorem d3h (set : Int) : Le (c07 set) (b4a set) := by
  unfold c07 b4a
  repeat' first | with_reducible exact le_refl _ | with_reducible apply c4n | rw [c4n] | with_reducible apply c4o | rw [c4o] | refine b3g ?_ (fun _ => ?_) | refine b3h ?_ ?_ | refine b3i (fun _ => ?_) | intro _ | split
noncomputable def b9k (i_4 : Int) (out_3_1 : List Int) : Option (Out ((List Int) × Int) (((List Int)))) :=
  some (.nx (out_3_1, wr (i_4 + 1)))
theorem c8d (i_4 : Int) (out_3_1 : List Int) : Le (b9k i_4 out_3_1) (b56 i_4 out_3_1) := by
  unfold b9k b56
  repeat' first | with_reducible exact le_refl _ | refine b3g ?_ (fun _ => ?_) | refine b3h ?_ ?_ | refine b3i (fun _ => ?_) | intro _ | split
noncomputable def c2s (set : Int) : ((List Int) × Int) → Option (Out ((List Int) × Int) (((List Int))))
  | (out_3, i_4) =>
    (shr .i64 set (IntKind.wrap .u64 i_4)).bind fun q5 =>
    if decide (0 < q5) then
      if decide ((b28 q5 1) = 1) then
        (ap 8 out_3 ([i_4])).bind fun l12 =>
        b9k i_4 l12
      else
        b9k i_4 out_3
    else
      some (.br out_3)
theorem c8b (set : Int) : ∀ s_0, Le (c2s set s_0) (b9j set s_0) := by
  intro s_0
  unfold c2s b9j
  repeat' first | with_reducible exact le_refl _ | with_reducible apply c8d | rw [c8d] | refine b3g ?_ (fun _ => ?_) | refine b3h ?_ ?_ | refine b3i (fun _ => ?_) | intro _ | split
noncomputable def c2u (out_3 : List Int) : Option (List Int) :=
  some out_3
theorem c8c (out_3 : List Int) : Le (c2u out_3) (b7d out_3) := by
  unfold c2u b7d
  repeat' first | with_reducible exact le_refl _ | refine b3g ?_ (fun _ => ?_) | refine b3h ?_ ?_ | refine b3i (fun _ => ?_) | intro _ | split
noncomputable def c2t (set : Int) : Option (List Int) :=
  (c2c (c2s set) ([], 0)).bind fun out_3 =>
  c2u out_3
theorem g3m (set : Int) : Le (c2t set) (b55 set) := by
  unfold c2t b55
  repeat' first | with_reducible exact le_refl _ | with_reducible apply c8b | rw [c8b] | with_reducible apply c8c | rw [c8c] | refine b3g ?_ (fun _ => ?_) | refine b3h ?_ ?_ | refine b3i (fun _ => ?_) | intro _ | split
noncomputable def c2g (x : Int) : Option Int :=
  (shr .u64 x 1).bind fun q2 =>
  (shr .u64 (IntKind.wrap .u64 ((b0m .u64 q2 6148914691236517205) + (b0m .u64 x 6148914691236517205))) 2).bind fun q4 =>
  (shr .u64 (IntKind.wrap .u64 ((b0m .u64 q4 3689348814741910323) + (b0m .u64 (IntKind.wrap .u64 ((b0m .u64 q2 6148914691236517205) + (b0m .u64 x 6148914691236517205))) 3689348814741910323))) 4).bind fun q6 =>
  (shr .u64 (b0m .u64 (IntKind.wrap .u64 (q6 + (IntKind.wrap .u64 ((b0m .u64 q4 3689348814741910323) + (b0m .u64 (IntKind.wrap .u64 ((b0m .u64 q2 6148914691236517205) + (b0m .u64 x 6148914691236517205))) 3689348814741910323))))) 1085102592571150095) 8).bind fun q8 =>
  (shr .u64 (IntKind.wrap .u64 ((b0m .u64 (IntKind.wrap .u64 (q6 + (IntKind.wrap .u64 ((b0m .u64 q4 3689348814741910323) + (b0m .u64 (IntKind.wrap .u64 ((b0m .u64 q2 6148914691236517205) + (b0m .u64 x 6148914691236517205))) 3689348814741910323))))) 1085102592571150095) + q8)) 16).bind fun q10 =>
  (shr .u64 (IntKind.wrap .u64 ((IntKind.wrap .u64 ((b0m .u64 (IntKind.wrap .u64 (q6 + (IntKind.wrap .u64 ((b0m .u64 q4 3689348814741910323) + (b0m .u64 (IntKind.wrap .u64 ((b0m .u64 q2 6148914691236517205) + (b0m .u64 x 6148914691236517205))) 3689348814741910323))))) 1085102592571150095) + q8)) + q10)) 32).bind fun q12 =>
  some (b28 (IntKind.wrap .i64 (IntKind.wrap .u64 ((IntKind.wrap .u64 ((IntKind.wrap .u64 ((b0m .u64 (IntKind.wrap .u64 (q6 + (IntKind.wrap .u64 ((b0m .u64 q4 3689348814741910323) + (b0m .u64 (IntKind.wrap .u64 ((b0m .u64 q2 6148914691236517205) + (b0m .u64 x 6148914691236517205))) 3689348814741910323))))) 1085102592571150095) + q8)) + q10)) + q12))) 127)
theorem c7h (x : Int) : Le (c2g x) (b66 x) := by
  unfold c2g b66
  repeat' first | with_reducible exact le_refl _ | refine b3g ?_ (fun _ => ?_) | refine b3h ?_ ?_ | refine b3i (fun _ => ?_) | intro _ | split
noncomputable def c2h (x : Int) : Option Int :=
  (c2g x).bind fun y3 =>
  some y3
theorem d8f (x : Int) : Le (c2h x) (b41 x) := by
  unfold c2h b41
  repeat' first | with_reducible exact le_refl _ | with_reducible apply c7h | rw [c7h] | refine b3g ?_ (fun _ => ?_) | refine b3h ?_ ?_ | refine b3i (fun _ => ?_) | intro _ | split
end Go.Nw.FM
