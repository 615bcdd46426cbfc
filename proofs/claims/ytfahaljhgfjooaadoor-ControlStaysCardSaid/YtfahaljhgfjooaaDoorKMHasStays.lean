/- The contracts of the functions that the law reaches, of the given program. -/
import Derived.Test.YtfahaljhgfjooaaDoorP1
import Derived.Test.YtfahaljhgfjooaaDoorP2
import Derived.Test.YtfahaljhgfjooaaDoorKKM1
import Derived.Test.YtfahaljhgfjooaaDoorKKM2
import Derived.Test.YtfahaljhgfjooaaDoorNwHas
import Derived.Test.YtfahaljhgfjooaaDoorProg
set_option linter.all false
namespace Go.Nw.KM
open Go.Proofs Go.Nw.Ctl
set_option maxRecDepth 100000
theorem g7x : d5r (b0n Tryd.prog) := fun r h => by cases h; exact ⟨l7k, b0j, b0e _⟩
theorem j27 : Has (b0n Tryd.prog) "newel/newelref04.from" x_r04_from := b00 73 [] [] Tryd.func73 (by kernel_rfl) (by kernel_rfl)
theorem d6i : c5r (b0n Tryd.prog) := b4p j27
theorem j3a : Has (b0n Tryd.prog) "newel/newelref04.names" x_r04_names := b00 74 [1, 37, 30, 21, 14, 10, 7] [] Tryd.func74 (by kernel_rfl) (by kernel_rfl)
theorem g8a : d0i (b0n Tryd.prog) := d3f j3a
theorem j23 : Has (b0n Tryd.prog) "newel/newelref04.Word" x_r04_Word := b00 75 [] [] Tryd.func75 (by kernel_rfl) (by kernel_rfl)
theorem g78 : d0g (b0n Tryd.prog) := d3d j23
theorem j25 : Has (b0n Tryd.prog) "newel/newelref04.condition" x_r04_condition := b00 67 [3, 100, 85, 70, 62, 48] [] Tryd.func67 (by kernel_rfl) (by kernel_rfl)
theorem d6g : c5p (b0n Tryd.prog) := c3m j25 d6i
theorem j2v : Has (b0n Tryd.prog) "newel/newelref04.Check" x_r04_Check := b00 34 [1, 177, 135, 126, 119, 113, 104, 98, 92, 83, 77, 35, 28, 22, 16, 11] [] Tryd.func34 (by kernel_rfl) (by kernel_rfl)
theorem d6b : c5k (b0n Tryd.prog) := c3i j2v d6i g8a g78 d6g
theorem j2r : Has (b0n Tryd.prog) "newel/newellaw04.Wide" x_l04_Wide := b00 15 [1, 27, 19, 12, 8] [] Tryd.func15 (by kernel_rfl) (by kernel_rfl)
theorem g7v : d0a (b0n Tryd.prog) := d28 j2r d6b
theorem j2w : Has (b0n Tryd.prog) "newel/newelref04.CheckConds" x_r04_CheckConds := b00 29 [2] [] Tryd.func29 (by kernel_rfl) (by kernel_rfl)
theorem d6c : c5l (b0n Tryd.prog) := c3j j2w d6b d6g
theorem j3l : Has (b0n Tryd.prog) "newel/situation.within" x_situation_within := b00 94 [] [] Tryd.func94 (by kernel_rfl) (by kernel_rfl)
theorem d6l : c5u (b0n Tryd.prog) := b4q j3l
theorem d8e : Has (b0n Tryd.prog) "slices.Concat[[]string,string]" x_slices_Concat___string_string_ := b00 106 [] [] Tryd.func106 (by kernel_rfl) (by kernel_rfl)
theorem d8f : Has (b0n Tryd.prog) "slices.Grow[[]string,string]" x_slices_Grow___string_string_ := b00 107 [] [] Tryd.func107 (by kernel_rfl) (by kernel_rfl)
theorem g8l : d0t (b0n Tryd.prog) := d3q d8e d8f
theorem j3j : Has (b0n Tryd.prog) "newel/situation.names" x_situation_names := b00 103 [1, 27, 14, 10, 8] [] Tryd.func103 (by kernel_rfl) (by kernel_rfl)
theorem g8j : d0r (b0n Tryd.prog) := d3o j3j g8l
theorem g8m : d0u (b0n Tryd.prog) := d3r d8e d8f
theorem j3k : Has (b0n Tryd.prog) "newel/situation.names" x_situation_names := b00 103 [1, 27, 14, 10, 8] [] Tryd.func103 (by kernel_rfl) (by kernel_rfl)
theorem g8k : d0s (b0n Tryd.prog) := d3p j3k g8m
theorem g8i : d0q (b0n Tryd.prog) := d3n g8j g8k
theorem j3f : Has (b0n Tryd.prog) "newel/situation.Plain" x_situation_Plain := b00 104 [] [] Tryd.func104 (by kernel_rfl) (by kernel_rfl)
theorem g8e : d0m (b0n Tryd.prog) := d3j j3f
theorem j3g : Has (b0n Tryd.prog) "newel/situation.Reserved" x_situation_Reserved := b00 105 [] [] Tryd.func105 (by kernel_rfl) (by kernel_rfl)
theorem g8f : d0n (b0n Tryd.prog) := d3k j3g
theorem j3i : Has (b0n Tryd.prog) "newel/situation.named" x_situation_named := b00 101 [1] [] Tryd.func101 (by kernel_rfl) (by kernel_rfl)
theorem g8h : d0p (b0n Tryd.prog) := d3m j3i g8i g8e g8f
theorem j3r : Has (b0n Tryd.prog) "slices.IndexFunc[newel/api.Term,newel/api.Literal]" x_slices_IndexFunc_api_Term_api_Literal_ := b00 99 [] [] Tryd.func99 (by kernel_rfl) (by kernel_rfl)
theorem g8r : d0z (b0n Tryd.prog) := d3w j3r
theorem j3o : Has (b0n Tryd.prog) "slices.ContainsFunc[newel/api.Term,newel/api.Literal]" x_slices_ContainsFunc_api_Term_api_Literal_ := b00 89 [] [] Tryd.func89 (by kernel_rfl) (by kernel_rfl)
theorem d1a : c1o (b0n Tryd.prog) := b8n j3o g8r
theorem j3h : Has (b0n Tryd.prog) "newel/situation.asks" x_situation_asks := b00 97 [3, 66, 58, 52, 44, 35, 31, 23, 17, 9, 5, 2, 60, 46, 33, 25, 11] [] Tryd.func97 (by kernel_rfl) (by kernel_rfl)
theorem g8g : d0o (b0n Tryd.prog) := d3l j3h d6l
theorem j3c : Has (b0n Tryd.prog) "newel/situation.Asked$1" x_situation_AskedD1 := b00 96 [2] [] Tryd.func96 (by kernel_rfl) (by kernel_rfl)
theorem g8b : d0j (b0n Tryd.prog) := d3g j3c g8g
theorem j3b : Has (b0n Tryd.prog) "newel/situation.Asked" x_situation_Asked := b00 85 [2] [] Tryd.func85 (by kernel_rfl) (by kernel_rfl)
theorem d6k : c5t (b0n Tryd.prog) := c3p j3b d1a g8b
theorem j3e : Has (b0n Tryd.prog) "newel/situation.Check$1" x_situation_CheckD1 := b00 102 [1, 3] [] Tryd.func102 (by kernel_rfl) (by kernel_rfl)
theorem g8d : d0l (b0n Tryd.prog) := d3i j3e
theorem j3d : Has (b0n Tryd.prog) "newel/situation.Check" x_situation_Check := b00 93 [1, 138, 94, 85, 76, 68, 59, 47, 37, 30, 24, 18, 13] [] Tryd.func93 (by kernel_rfl) (by kernel_rfl)
theorem g8c : d0k (b0n Tryd.prog) := d3h j3d d6l g8h d6k d1a g8d
theorem j2j : Has (b0n Tryd.prog) "newel/control.Check" x_control_Check := b00 68 [1] [] Tryd.func68 (by kernel_rfl) (by kernel_rfl)
theorem g7n : c96 (b0n Tryd.prog) := d24 j2j g8c
theorem j2n : Has (b0n Tryd.prog) "newel/control.check" x_control_check := b00 50 [2] [] Tryd.func50 (by kernel_rfl) (by kernel_rfl)
theorem d57 : c5g (b0n Tryd.prog) := c3e j2n g7n d6k
theorem j2o : Has (b0n Tryd.prog) "newel/control.of" x_control_of := b00 51 [1] [] Tryd.func51 (by kernel_rfl) (by kernel_rfl)
theorem d58 : c5h (b0n Tryd.prog) := c3f j2o
theorem j2a : Has (b0n Tryd.prog) "(newel/situation.Plant).All" x__situation_Plant__All := b00 80 [1, 4, 3] [] Tryd.func80 (by kernel_rfl) (by kernel_rfl)
theorem g69 : c9y (b0n Tryd.prog) := d2w j2a
theorem j3q : Has (b0n Tryd.prog) "slices.IndexFunc[newel/api.Cond,newel/api.Term]" x_slices_IndexFunc_api_Cond_api_Term_ := b00 98 [] [] Tryd.func98 (by kernel_rfl) (by kernel_rfl)
theorem g8q : d0y (b0n Tryd.prog) := d3v j3q
theorem j3n : Has (b0n Tryd.prog) "slices.ContainsFunc[newel/api.Cond,newel/api.Term]" x_slices_ContainsFunc_api_Cond_api_Term_ := b00 87 [] [] Tryd.func87 (by kernel_rfl) (by kernel_rfl)
theorem g8o : d0w (b0n Tryd.prog) := d3t j3n g8q
theorem j2g : Has (b0n Tryd.prog) "(newel/situation.Plant).literal" x__situation_Plant__literal := b00 91 [6, 42, 32, 25, 24, 5, 53, 47, 34, 27, 22, 15, 10, 4, 40, 39] [] Tryd.func91 (by kernel_rfl) (by kernel_rfl)
theorem g7e : c93 (b0n Tryd.prog) := d21 j2g
theorem j2e : Has (b0n Tryd.prog) "(newel/situation.Plant).Holds$1$1" x__situation_Plant__HoldsD1D1 := b00 90 [4] [] Tryd.func90 (by kernel_rfl) (by kernel_rfl)
theorem g7c : c91 (b0n Tryd.prog) := d2z j2e g7e
theorem j2d : Has (b0n Tryd.prog) "(newel/situation.Plant).Holds$1" x__situation_Plant__HoldsD1 := b00 88 [] [] Tryd.func88 (by kernel_rfl) (by kernel_rfl)
theorem g7b : c90 (b0n Tryd.prog) := d2y j2d d1a g7c
theorem j2c : Has (b0n Tryd.prog) "(newel/situation.Plant).Holds" x__situation_Plant__Holds := b00 58 [7, 6, 4] [] Tryd.func58 (by kernel_rfl) (by kernel_rfl)
theorem c6m : b89 (b0n Tryd.prog) := b52 j2c g8o g7b
theorem j2b : Has (b0n Tryd.prog) "(newel/situation.Plant).Allowed" x__situation_Plant__Allowed := b00 81 [6, 4] [] Tryd.func81 (by kernel_rfl) (by kernel_rfl)
theorem g7a : c9z (b0n Tryd.prog) := d2x j2b c6m
theorem j2h : Has (b0n Tryd.prog) "(newel/situation.Plant).set" x__situation_Plant__set := b00 95 [4, 29, 13, 8, 3, 27, 26] [] Tryd.func95 (by kernel_rfl) (by kernel_rfl)
theorem g7f : c94 (b0n Tryd.prog) := d22 j2h
theorem j2f : Has (b0n Tryd.prog) "(newel/situation.Plant).Step" x__situation_Plant__Step := b00 71 [3, 12, 11] [] Tryd.func71 (by kernel_rfl) (by kernel_rfl)
theorem g7d : c92 (b0n Tryd.prog) := d20 j2f c6m g7f
theorem j17 : Has (b0n Tryd.prog) "(newel/control.plant).explore" x__control_plant__explore := b00 52 [3, 60, 53, 41] [(42, 11)] Tryd.func52 (by kernel_rfl) (by kernel_rfl)
theorem d55 : c5e (b0n Tryd.prog) := c3c j17 g69 g7a g7d
theorem j3s : Has (b0n Tryd.prog) "slices.Reverse[[]int,int]" x_slices_Reverse___int_int_ := b00 100 [] [] Tryd.func100 (by kernel_rfl) (by kernel_rfl)
theorem g8s : d00 (b0n Tryd.prog) := d3x j3s
theorem j14 : Has (b0n Tryd.prog) "(*newel/control.walk).run" x___control_walk__run := b00 92 [] [] Tryd.func92 (by kernel_rfl) (by kernel_rfl)
theorem g65 : c9u (b0n Tryd.prog) := d2s j14 g8s
theorem j13 : Has (b0n Tryd.prog) "(*newel/control.walk).first" x___control_walk__first := b00 61 [] [] Tryd.func61 (by kernel_rfl) (by kernel_rfl)
theorem d54 : c5d (b0n Tryd.prog) := c3b j13 g65
theorem j16 : Has (b0n Tryd.prog) "(newel/control.plant).breach$1" x__control_plant__breachD1 := b00 86 [] [] Tryd.func86 (by kernel_rfl) (by kernel_rfl)
theorem g67 : c9w (b0n Tryd.prog) := d2u j16 c6m
theorem j15 : Has (b0n Tryd.prog) "(newel/control.plant).breach" x__control_plant__breach := b00 55 [6, 4] [(4, 10)] Tryd.func55 (by kernel_rfl) (by kernel_rfl)
theorem g66 : c9v (b0n Tryd.prog) := d2t j15 d55 d54 g67
theorem o6f : Has (b0n Tryd.prog) "newel/control.Stuck$1" x_control_StuckD1 := b00 56 [] [] Tryd.func56 (by kernel_rfl) (by kernel_rfl)
theorem o6b : o5x (b0n Tryd.prog) := o50 o6f
theorem o6e : Has (b0n Tryd.prog) "newel/control.Stuck" x_control_Stuck := b00 22 [3, 21] [(13, 11), (19, 12)] Tryd.func22 (by kernel_rfl) (by kernel_rfl)
theorem o6a : o5w (b0n Tryd.prog) := o5z o6e d57 d58 g66 o6b
theorem j29 : Has (b0n Tryd.prog) "newel/newelref04.literal" x_r04_literal := b00 79 [7, 54, 47, 35, 28, 23, 15, 10, 5, 42, 33, 26, 25, 4, 40] [] Tryd.func79 (by kernel_rfl) (by kernel_rfl)
theorem g79 : d0h (b0n Tryd.prog) := d3e j29
theorem j20 : Has (b0n Tryd.prog) "newel/newelref04.Holds" x_r04_Holds := b00 37 [5, 4] [] Tryd.func37 (by kernel_rfl) (by kernel_rfl)
theorem c6n : b9a (b0n Tryd.prog) := s3y j20 g79
theorem j2t : Has (b0n Tryd.prog) "newel/newelref04.Allows" x_r04_Allows := b00 30 [5, 4] [] Tryd.func30 (by kernel_rfl) (by kernel_rfl)
theorem d6a : c5j (b0n Tryd.prog) := c3h j2t c6n
theorem j2z : Has (b0n Tryd.prog) "newel/newelref04.Heard" x_r04_Heard := b00 72 [] [] Tryd.func72 (by kernel_rfl) (by kernel_rfl)
theorem g76 : d0e (b0n Tryd.prog) := d3b j2z
theorem o9d : Has (b0n Tryd.prog) "(newel/situation.Plant).Place" x__situation_Plant__Place := b00 69 [3, 32, 8, 2, 35, 34, 21, 20, 16, 15] [] Tryd.func69 (by kernel_rfl) (by kernel_rfl)
theorem o87 : o8b (b0n Tryd.prog) := o8g o9d d6l
theorem p3w : Has (b0n Tryd.prog) "(newel/situation.Plant).Input" x__situation_Plant__Input := b00 70 [2] [] Tryd.func70 (by kernel_rfl) (by kernel_rfl)
theorem p3o : p2o (b0n Tryd.prog) := p2y p3w g69 d6l
theorem p3y : Has (b0n Tryd.prog) "newel/control.Step" x_control_Step := b00 31 [4, 3] [] Tryd.func31 (by kernel_rfl) (by kernel_rfl)
theorem p3q : p2q (b0n Tryd.prog) := p20 p3y g7n d58 o87 p3o g7d
theorem o9g : Has (b0n Tryd.prog) "newel/newelref04.IsPlace" x_r04_IsPlace := b00 36 [3, 32, 31, 7, 2, 24, 20, 9] [] Tryd.func36 (by kernel_rfl) (by kernel_rfl)
theorem o9a : o8d (b0n Tryd.prog) := o8i o9g d6i
theorem p30 : Has (b0n Tryd.prog) "newel/newellaw04.played" x_l04_played := b00 33 [5, 39] [] Tryd.func33 (by kernel_rfl) (by kernel_rfl)
theorem p3s : p2r (b0n Tryd.prog) := p2k p30 d6a g76 p3q o9a
theorem p52 : Has (b0n Tryd.prog) "newel/newellaw04.ControlStays" x_l04_ControlStays := b00 8 [5, 124, 122, 118, 111, 106, 98, 94, 30, 4, 143, 120, 87, 71, 40, 38, 23, 21, 3, 100, 55] [] Tryd.func8 (by kernel_rfl) (by kernel_rfl)
theorem p50 : p5x (b0n Tryd.prog) := p54 p52 g7v d6c g7x o6a p3s c6n
end Go.Nw.KM
