/- Twins of the models, which the kernel evaluates. -/
import Derived.Test.YtkoonfmgmgfmdaaDoorNwTwin
import Derived.Test.YtkoonfmgmgfmdaaDoorTM
set_option linter.all false
set_option linter.unusedVariables false
set_option linter.unusedSimpArgs false
set_option linter.unusedSectionVars false
namespace Go.Nw.TM
open Go.Nw.Top
set_option linter.unusedVariables false
noncomputable def c4g (x : Int) : Option Int :=
  if decide (x = 0) then
    some 64
  else
    (shr .u64 (IntKind.wrap .u64 ((b0y .u64 x (IntKind.wrap .u64 (0 - x))) * 285870213051353865)) 58).bind fun q5 =>
    (get gl_1 q5).bind fun x6 =>
    some (IntKind.wrap .i64 x6)
theorem c90 (x : Int) : Le (c4g x) (b73 x) := by
  unfold c4g b73
  repeat' first | with_reducible exact le_refl _ | refine b5i ?_ (fun _ => ?_) | refine b5j ?_ ?_ | refine b5k (fun _ => ?_) | intro _ | split
noncomputable def c4h (x : Int) : Option Int :=
  (c4g x).bind fun y3 =>
  some y3
theorem c91 (x : Int) : Le (c4h x) (b72 x) := by
  unfold c4h b72
  repeat' first | with_reducible exact le_refl _ | with_reducible apply c90 | rw [c90] | refine b5i ?_ (fun _ => ?_) | refine b5j ?_ ?_ | refine b5k (fun _ => ?_) | intro _ | split
noncomputable def c2u : (Int × (List Int)) → Option (Out (Int × (List Int)) (((List Int))))
  | (set_0, l_3) =>
    if decide (¬set_0 = 0) then
      (c4h (IntKind.wrap .u64 set_0)).bind fun y9 =>
      (ap 8 l_3 ([y9])).bind fun l10 =>
      some (.nx (b4h set_0 (wr (set_0 - 1)), l10))
    else
      some (.br l_3)
theorem c63  : ∀ s_0, Le (c2u  s_0) (b9n  s_0) := by
  intro s_0
  unfold c2u b9n
  repeat' first | with_reducible exact le_refl _ | with_reducible apply c91 | rw [c91] | refine b5i ?_ (fun _ => ?_) | refine b5j ?_ ?_ | refine b5k (fun _ => ?_) | intro _ | split
noncomputable def c2w (l_3 : List Int) : Option (List Int) :=
  some l_3
theorem c64 (l_3 : List Int) : Le (c2w l_3) (b7m l_3) := by
  unfold c2w b7m
  repeat' first | with_reducible exact le_refl _ | refine b5i ?_ (fun _ => ?_) | refine b5j ?_ ?_ | refine b5k (fun _ => ?_) | intro _ | split
noncomputable def c2v (set : Int) : Option (List Int) :=
  (c9u (c2u) (set, [])).bind fun l_3 =>
  c2w l_3
theorem d6y (set : Int) : Le (c2v set) (b4m set) := by
  unfold c2v b4m
  repeat' first | with_reducible exact le_refl _ | with_reducible apply c63 | rw [c63] | with_reducible apply c64 | rw [c64] | refine b5i ?_ (fun _ => ?_) | refine b5j ?_ ?_ | refine b5k (fun _ => ?_) | intro _ | split
noncomputable def c4e (x : Int) : Option Int :=
  (shr .u64 x 1).bind fun q2 =>
  (shr .u64 (IntKind.wrap .u64 ((b0y .u64 q2 6148914691236517205) + (b0y .u64 x 6148914691236517205))) 2).bind fun q4 =>
  (shr .u64 (IntKind.wrap .u64 ((b0y .u64 q4 3689348814741910323) + (b0y .u64 (IntKind.wrap .u64 ((b0y .u64 q2 6148914691236517205) + (b0y .u64 x 6148914691236517205))) 3689348814741910323))) 4).bind fun q6 =>
  (shr .u64 (b0y .u64 (IntKind.wrap .u64 (q6 + (IntKind.wrap .u64 ((b0y .u64 q4 3689348814741910323) + (b0y .u64 (IntKind.wrap .u64 ((b0y .u64 q2 6148914691236517205) + (b0y .u64 x 6148914691236517205))) 3689348814741910323))))) 1085102592571150095) 8).bind fun q8 =>
  (shr .u64 (IntKind.wrap .u64 ((b0y .u64 (IntKind.wrap .u64 (q6 + (IntKind.wrap .u64 ((b0y .u64 q4 3689348814741910323) + (b0y .u64 (IntKind.wrap .u64 ((b0y .u64 q2 6148914691236517205) + (b0y .u64 x 6148914691236517205))) 3689348814741910323))))) 1085102592571150095) + q8)) 16).bind fun q10 =>
  (shr .u64 (IntKind.wrap .u64 ((IntKind.wrap .u64 ((b0y .u64 (IntKind.wrap .u64 (q6 + (IntKind.wrap .u64 ((b0y .u64 q4 3689348814741910323) + (b0y .u64 (IntKind.wrap .u64 ((b0y .u64 q2 6148914691236517205) + (b0y .u64 x 6148914691236517205))) 3689348814741910323))))) 1085102592571150095) + q8)) + q10)) 32).bind fun q12 =>
  some (b4h (IntKind.wrap .i64 (IntKind.wrap .u64 ((IntKind.wrap .u64 ((IntKind.wrap .u64 ((b0y .u64 (IntKind.wrap .u64 (q6 + (IntKind.wrap .u64 ((b0y .u64 q4 3689348814741910323) + (b0y .u64 (IntKind.wrap .u64 ((b0y .u64 q2 6148914691236517205) + (b0y .u64 x 6148914691236517205))) 3689348814741910323))))) 1085102592571150095) + q8)) + q10)) + q12))) 127)
theorem c9z (x : Int) : Le (c4e x) (b71 x) := by
  unfold c4e b71
  repeat' first | with_reducible exact le_refl _ | refine b5i ?_ (fun _ => ?_) | refine b5j ?_ ?_ | refine b5k (fun _ => ?_) | intro _ | split
noncomputable def c4f (x : Int) : Option Int :=
  (c4e x).bind fun y3 =>
  some y3
theorem g2o (x : Int) : Le (c4f x) (b5l x) := by
  unfold c4f b5l
  repeat' first | with_reducible exact le_refl _ | with_reducible apply c9z | rw [c9z] | refine b5i ?_ (fun _ => ?_) | refine b5j ?_ ?_ | refine b5k (fun _ => ?_) | intro _ | split
end Go.Nw.TM
