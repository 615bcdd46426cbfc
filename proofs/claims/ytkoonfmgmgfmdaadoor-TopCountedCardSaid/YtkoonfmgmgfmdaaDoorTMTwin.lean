/- Twins of the models, which the kernel evaluates. -/
import Derived.Test.YtkoonfmgmgfmdaaDoorNwTwin
import Derived.Test.YtkoonfmgmgfmdaaDoorTM
set_option linter.all false
set_option linter.unusedVariables false
set_option linter.unusedSimpArgs false
set_option linter.unusedSectionVars false
namespace Go.Nw.TM
open Go.Nw.Top
set_option linter.unusedVariables false
noncomputable def d05 (x : Int) : Option Int :=
  if decide (x = 0) then
    some 64
  else
    (shr .u64 (IntKind.wrap .u64 ((b1l .u64 x (IntKind.wrap .u64 (0 - x))) * 285870213051353865)) 58).bind fun q5 =>
    (get gl_1 q5).bind fun x6 =>
    some (IntKind.wrap .i64 x6)
theorem d7n (x : Int) : Le (d05 x) (c26 x) := by
  unfold d05 c26
  repeat' first | with_reducible exact le_refl _ | refine b8m ?_ (fun _ => ?_) | refine b8n ?_ ?_ | refine b8o (fun _ => ?_) | intro _ | split
noncomputable def d06 (x : Int) : Option Int :=
  (d05 x).bind fun y3 =>
  some y3
theorem d7o (x : Int) : Le (d06 x) (c25 x) := by
  unfold d06 c25
  repeat' first | with_reducible exact le_refl _ | with_reducible apply d7n | rw [d7n] | refine b8m ?_ (fun _ => ?_) | refine b8n ?_ ?_ | refine b8o (fun _ => ?_) | intro _ | split
noncomputable def c88 : (Int × (List Int)) → Option (Out (Int × (List Int)) (((List Int))))
  | (set_0, l_3) =>
    if decide (¬set_0 = 0) then
      (d06 (IntKind.wrap .u64 set_0)).bind fun y9 =>
      (ap 8 l_3 ([y9])).bind fun l10 =>
      some (.nx (b6y set_0 (wr (set_0 - 1)), l10))
    else
      some (.br l_3)
theorem d4g  : ∀ s_0, Le (c88  s_0) (c4w  s_0) := by
  intro s_0
  unfold c88 c4w
  repeat' first | with_reducible exact le_refl _ | with_reducible apply d7o | rw [d7o] | refine b8m ?_ (fun _ => ?_) | refine b8n ?_ ?_ | refine b8o (fun _ => ?_) | intro _ | split
noncomputable def c9a (l_3 : List Int) : Option (List Int) :=
  some l_3
theorem d4h (l_3 : List Int) : Le (c9a l_3) (c1x l_3) := by
  unfold c9a c1x
  repeat' first | with_reducible exact le_refl _ | refine b8m ?_ (fun _ => ?_) | refine b8n ?_ ?_ | refine b8o (fun _ => ?_) | intro _ | split
noncomputable def c89 (set : Int) : Option (List Int) :=
  (d7h (c88) (set, [])).bind fun l_3 =>
  c9a l_3
theorem g59 (set : Int) : Le (c89 set) (b63 set) := by
  unfold c89 b63
  repeat' first | with_reducible exact le_refl _ | with_reducible apply d4g | rw [d4g] | with_reducible apply d4h | rw [d4h] | refine b8m ?_ (fun _ => ?_) | refine b8n ?_ ?_ | refine b8o (fun _ => ?_) | intro _ | split
noncomputable def d03 (x : Int) : Option Int :=
  (shr .u64 x 1).bind fun q2 =>
  (shr .u64 (IntKind.wrap .u64 ((b1l .u64 q2 6148914691236517205) + (b1l .u64 x 6148914691236517205))) 2).bind fun q4 =>
  (shr .u64 (IntKind.wrap .u64 ((b1l .u64 q4 3689348814741910323) + (b1l .u64 (IntKind.wrap .u64 ((b1l .u64 q2 6148914691236517205) + (b1l .u64 x 6148914691236517205))) 3689348814741910323))) 4).bind fun q6 =>
  (shr .u64 (b1l .u64 (IntKind.wrap .u64 (q6 + (IntKind.wrap .u64 ((b1l .u64 q4 3689348814741910323) + (b1l .u64 (IntKind.wrap .u64 ((b1l .u64 q2 6148914691236517205) + (b1l .u64 x 6148914691236517205))) 3689348814741910323))))) 1085102592571150095) 8).bind fun q8 =>
  (shr .u64 (IntKind.wrap .u64 ((b1l .u64 (IntKind.wrap .u64 (q6 + (IntKind.wrap .u64 ((b1l .u64 q4 3689348814741910323) + (b1l .u64 (IntKind.wrap .u64 ((b1l .u64 q2 6148914691236517205) + (b1l .u64 x 6148914691236517205))) 3689348814741910323))))) 1085102592571150095) + q8)) 16).bind fun q10 =>
  (shr .u64 (IntKind.wrap .u64 ((IntKind.wrap .u64 ((b1l .u64 (IntKind.wrap .u64 (q6 + (IntKind.wrap .u64 ((b1l .u64 q4 3689348814741910323) + (b1l .u64 (IntKind.wrap .u64 ((b1l .u64 q2 6148914691236517205) + (b1l .u64 x 6148914691236517205))) 3689348814741910323))))) 1085102592571150095) + q8)) + q10)) 32).bind fun q12 =>
  some (b6y (IntKind.wrap .i64 (IntKind.wrap .u64 ((IntKind.wrap .u64 ((IntKind.wrap .u64 ((b1l .u64 (IntKind.wrap .u64 (q6 + (IntKind.wrap .u64 ((b1l .u64 q4 3689348814741910323) + (b1l .u64 (IntKind.wrap .u64 ((b1l .u64 q2 6148914691236517205) + (b1l .u64 x 6148914691236517205))) 3689348814741910323))))) 1085102592571150095) + q8)) + q10)) + q12))) 127)
theorem d7m (x : Int) : Le (d03 x) (c24 x) := by
  unfold d03 c24
  repeat' first | with_reducible exact le_refl _ | refine b8m ?_ (fun _ => ?_) | refine b8n ?_ ?_ | refine b8o (fun _ => ?_) | intro _ | split
noncomputable def d04 (x : Int) : Option Int :=
  (d03 x).bind fun y3 =>
  some y3
theorem j2a (x : Int) : Le (d04 x) (b8p x) := by
  unfold d04 b8p
  repeat' first | with_reducible exact le_refl _ | with_reducible apply d7m | rw [d7m] | refine b8m ?_ (fun _ => ?_) | refine b8n ?_ ?_ | refine b8o (fun _ => ?_) | intro _ | split
end Go.Nw.TM
