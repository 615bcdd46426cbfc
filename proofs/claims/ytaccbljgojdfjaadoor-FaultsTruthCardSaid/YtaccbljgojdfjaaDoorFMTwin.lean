/- Twins of the models, which the kernel evaluates. -/
import Derived.Test.YtaccbljgojdfjaaDoorNwTwin
import Derived.Test.YtaccbljgojdfjaaDoorFM
set_option linter.all false
set_option linter.unusedVariables false
set_option linter.unusedSimpArgs false
set_option linter.unusedSectionVars false
namespace Go.Nw.FM
open Go.Nw.Fault
set_option linter.unusedVariables false
noncomputable def c14 (x : Int) : Option Int :=
  if decide (x = 0) then
    some 64
  else
    (shr .u64 (IntKind.wrap .u64 ((b0l .u64 x (IntKind.wrap .u64 (0 - x))) * 285870213051353865)) 58).bind fun q5 =>
    (get gl_1 q5).bind fun x6 =>
    some (IntKind.wrap .i64 x6)
theorem c64 (x : Int) : Le (c14 x) (b64 x) := by
  unfold c14 b64
  repeat' first | with_reducible exact le_refl _ | refine b3j ?_ (fun _ => ?_) | refine b3k ?_ ?_ | refine b3l (fun _ => ?_) | intro _ | split
noncomputable def c15 (x : Int) : Option Int :=
  (c14 x).bind fun y3 =>
  some y3
theorem c67 (x : Int) : Le (c15 x) (b63 x) := by
  unfold c15 b63
  repeat' first | with_reducible exact le_refl _ | with_reducible apply c64 | rw [c64] | refine b3j ?_ (fun _ => ?_) | refine b3k ?_ ?_ | refine b3l (fun _ => ?_) | intro _ | split
noncomputable def c0z : (Int × (List Int)) → Option (Out (Int × (List Int)) (((List Int))))
  | (set_0, l_3) =>
    if decide (¬set_0 = 0) then
      (c15 (IntKind.wrap .u64 set_0)).bind fun y9 =>
      (ap 8 l_3 ([y9])).bind fun l10 =>
      some (.nx (b1n set_0 (wr (set_0 - 1)), l10))
    else
      some (.br l_3)
theorem c4a  : ∀ s_0, Le (c0z  s_0) (b8a  s_0) := by
  intro s_0
  unfold c0z b8a
  repeat' first | with_reducible exact le_refl _ | with_reducible apply c67 | rw [c67] | refine b3j ?_ (fun _ => ?_) | refine b3k ?_ ?_ | refine b3l (fun _ => ?_) | intro _ | split
noncomputable def c01 (l_3 : List Int) : Option (List Int) :=
  some l_3
theorem c4b (l_3 : List Int) : Le (c01 l_3) (b6q l_3) := by
  unfold c01 b6q
  repeat' first | with_reducible exact le_refl _ | refine b3j ?_ (fun _ => ?_) | refine b3k ?_ ?_ | refine b3l (fun _ => ?_) | intro _ | split
noncomputable def c00 (set : Int) : Option (List Int) :=
  (c1w (c0z) (set, [])).bind fun l_3 =>
  c01 l_3
theorem d24 (set : Int) : Le (c00 set) (b39 set) := by
  unfold c00 b39
  repeat' first | with_reducible exact le_refl _ | with_reducible apply c4a | rw [c4a] | with_reducible apply c4b | rw [c4b] | refine b3j ?_ (fun _ => ?_) | refine b3k ?_ ?_ | refine b3l (fun _ => ?_) | intro _ | split
noncomputable def b9e (i_4 : Int) (out_3_1 : List Int) : Option (Out ((List Int) × Int) (((List Int)))) :=
  some (.nx (out_3_1, wr (i_4 + 1)))
theorem c7v (i_4 : Int) (out_3_1 : List Int) : Le (b9e i_4 out_3_1) (b9d i_4 out_3_1) := by
  unfold b9e b9d
  repeat' first | with_reducible exact le_refl _ | refine b3j ?_ (fun _ => ?_) | refine b3k ?_ ?_ | refine b3l (fun _ => ?_) | intro _ | split
noncomputable def c2j (set : Int) : ((List Int) × Int) → Option (Out ((List Int) × Int) (((List Int))))
  | (out_3, i_4) =>
    (shr .i64 set (IntKind.wrap .u64 i_4)).bind fun q5 =>
    if decide (0 < q5) then
      if decide ((b1n q5 1) = 1) then
        (ap 8 out_3 ([i_4])).bind fun l12 =>
        b9e i_4 l12
      else
        b9e i_4 out_3
    else
      some (.br out_3)
theorem c7t (set : Int) : ∀ s_0, Le (c2j set s_0) (c2i set s_0) := by
  intro s_0
  unfold c2j c2i
  repeat' first | with_reducible exact le_refl _ | with_reducible apply c7v | rw [c7v] | refine b3j ?_ (fun _ => ?_) | refine b3k ?_ ?_ | refine b3l (fun _ => ?_) | intro _ | split
noncomputable def c2m (out_3 : List Int) : Option (List Int) :=
  some out_3
theorem c7u (out_3 : List Int) : Le (c2m out_3) (c2l out_3) := by
  unfold c2m c2l
  repeat' first | with_reducible exact le_refl _ | refine b3j ?_ (fun _ => ?_) | refine b3k ?_ ?_ | refine b3l (fun _ => ?_) | intro _ | split
noncomputable def c2k (set : Int) : Option (List Int) :=
  (c1w (c2j set) ([], 0)).bind fun out_3 =>
  c2m out_3
theorem g3c (set : Int) : Le (c2k set) (c2h set) := by
  unfold c2k c2h
  repeat' first | with_reducible exact le_refl _ | with_reducible apply c7t | rw [c7t] | with_reducible apply c7u | rw [c7u] | refine b3j ?_ (fun _ => ?_) | refine b3k ?_ ?_ | refine b3l (fun _ => ?_) | intro _ | split
noncomputable def c12 (x : Int) : Option Int :=
  (shr .u64 x 1).bind fun q2 =>
  (shr .u64 (IntKind.wrap .u64 ((b0l .u64 q2 6148914691236517205) + (b0l .u64 x 6148914691236517205))) 2).bind fun q4 =>
  (shr .u64 (IntKind.wrap .u64 ((b0l .u64 q4 3689348814741910323) + (b0l .u64 (IntKind.wrap .u64 ((b0l .u64 q2 6148914691236517205) + (b0l .u64 x 6148914691236517205))) 3689348814741910323))) 4).bind fun q6 =>
  (shr .u64 (b0l .u64 (IntKind.wrap .u64 (q6 + (IntKind.wrap .u64 ((b0l .u64 q4 3689348814741910323) + (b0l .u64 (IntKind.wrap .u64 ((b0l .u64 q2 6148914691236517205) + (b0l .u64 x 6148914691236517205))) 3689348814741910323))))) 1085102592571150095) 8).bind fun q8 =>
  (shr .u64 (IntKind.wrap .u64 ((b0l .u64 (IntKind.wrap .u64 (q6 + (IntKind.wrap .u64 ((b0l .u64 q4 3689348814741910323) + (b0l .u64 (IntKind.wrap .u64 ((b0l .u64 q2 6148914691236517205) + (b0l .u64 x 6148914691236517205))) 3689348814741910323))))) 1085102592571150095) + q8)) 16).bind fun q10 =>
  (shr .u64 (IntKind.wrap .u64 ((IntKind.wrap .u64 ((b0l .u64 (IntKind.wrap .u64 (q6 + (IntKind.wrap .u64 ((b0l .u64 q4 3689348814741910323) + (b0l .u64 (IntKind.wrap .u64 ((b0l .u64 q2 6148914691236517205) + (b0l .u64 x 6148914691236517205))) 3689348814741910323))))) 1085102592571150095) + q8)) + q10)) 32).bind fun q12 =>
  some (b1n (IntKind.wrap .i64 (IntKind.wrap .u64 ((IntKind.wrap .u64 ((IntKind.wrap .u64 ((b0l .u64 (IntKind.wrap .u64 (q6 + (IntKind.wrap .u64 ((b0l .u64 q4 3689348814741910323) + (b0l .u64 (IntKind.wrap .u64 ((b0l .u64 q2 6148914691236517205) + (b0l .u64 x 6148914691236517205))) 3689348814741910323))))) 1085102592571150095) + q8)) + q10)) + q12))) 127)
theorem c63 (x : Int) : Le (c12 x) (b62 x) := by
  unfold c12 b62
  repeat' first | with_reducible exact le_refl _ | refine b3j ?_ (fun _ => ?_) | refine b3k ?_ ?_ | refine b3l (fun _ => ?_) | intro _ | split
noncomputable def c13 (x : Int) : Option Int :=
  (c12 x).bind fun y3 =>
  some y3
theorem d7z (x : Int) : Le (c13 x) (b4x x) := by
  unfold c13 b4x
  repeat' first | with_reducible exact le_refl _ | with_reducible apply c63 | rw [c63] | refine b3j ?_ (fun _ => ?_) | refine b3k ?_ ?_ | refine b3l (fun _ => ?_) | intro _ | split
end Go.Nw.FM
